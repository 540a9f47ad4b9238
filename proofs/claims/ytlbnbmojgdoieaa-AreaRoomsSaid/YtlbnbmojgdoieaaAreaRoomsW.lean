/- AreaRooms: its walk. -/
import Derived.Test.YtlbnbmojgdoieaaArR
import Derived.Test.YtlbnbmojgdoieaaArP
import Derived.OpenShut
set_option maxRecDepth 16000
namespace Go.Pin
open Go.RowKit
set_option linter.unusedVariables false
set_option linter.unusedSimpArgs false
theorem below_dw {B b f m : Nat} {a w0 w1 : World} (h : Below B a w0) (hk : Keep (devS b f m) w0 w1) (hl : ∀ k, devS b f m k → B ≤ k) (hB : a.heap.size = B) : Below B a w1 :=
  h.trans (hk.below (by rw [← hB]; exact h.size) hl)
theorem below_sw {B : Nat} {a w0 : World} (h : Below B a w0) (hB : a.heap.size = B) : B ≤ w0.heap.size := by rw [← hB]; exact h.size
end Go.Pin
namespace Go.Proofs.Ytlbnbmojgdoieaa
open Go.RowKit Go.Pin
set_option linter.unusedVariables false
set_option linter.unusedSimpArgs false
theorem area_writeC (b f m : Nat) (d D : Dv) (c a k v i t : Int) (x : ByteArray) (hR : awrite d a k v ⟨i, t, x⟩ = (c, D)) (hs : (Snap.mk i t x).ok) (ha : -9223372036854775808 ≤ a ∧ a ≤ 9223372036854775807) (hk : -9223372036854775808 ≤ k ∧ k ≤ 9223372036854775807) (hv : -9223372036854775808 ≤ v ∧ v ≤ 9223372036854775807) (w : World) (h : DevAt w b f m d) :
    Calls Try.prog 43 #[.pointer (some ⟨b, 0, none⟩), .int .i64 a, .int .i64 k, .int .i64 v, .agg #[.int .u64 i, .int .u64 t, .string x]] w fun e w' => e = .returned (.int .i64 c) ∧ DevAt w' b f m D ∧ Keep (devS b f m) w w' := by
  have := area_write b f m d a k v ⟨i, t, x⟩ hs ha hk hv w h
  rw [hR] at this; exact this
theorem area_readC (b f m : Nat) (d : Dv) (a k v c i t : Int) (x : ByteArray) (hR : aread d a k = (⟨i, t, x⟩, v, c)) (ha : -9223372036854775808 ≤ a ∧ a ≤ 9223372036854775807) (hk : -9223372036854775808 ≤ k ∧ k ≤ 9223372036854775807) (w : World) (h : DevAt w b f m d) :
    Calls Try.prog 44 #[.pointer (some ⟨b, 0, none⟩), .int .i64 a, .int .i64 k] w fun e w' => e = .returned (.tuple #[.agg #[.int .u64 i, .int .u64 t, .string x], .int .i64 v, .int .i64 c]) ∧ Below w.heap.size w w' := by
  have := area_read b f m d a k ha hk w h
  rw [hR] at this; exact this
theorem area_putC (v i t : Int) (x P : ByteArray) (hP : aput v ⟨i, t, x⟩ = (P, true)) (hv : -9223372036854775808 ≤ v ∧ v ≤ 9223372036854775807) (hs : (Snap.mk i t x).ok) (w : World) :
    Calls Try.prog 35 #[.int .i64 v, .agg #[.int .u64 i, .int .u64 t, .string x]] w fun e w' => e = .returned (.tuple #[.string P, .bool true]) ∧ Below w.heap.size w w' := by
  have := area_put v hv ⟨i, t, x⟩ hs w
  rw [hP] at this; exact this
theorem area_roomC (v k i t : Int) (x : ByteArray) (r : Bool) (hr : aroom v k ⟨i, t, x⟩ = r) (hv : -9223372036854775808 ≤ v ∧ v ≤ 9223372036854775807) (hk : -9223372036854775808 ≤ k ∧ k ≤ 9223372036854775807) (hs : (Snap.mk i t x).ok) (w : World) :
    Calls Try.prog 41 #[.int .i64 v, .int .i64 k, .agg #[.int .u64 i, .int .u64 t, .string x]] w fun e w' => e = .returned (.bool r) ∧ Below w.heap.size w w' := by
  have := area_room v k hv hk ⟨i, t, x⟩ hs w
  rw [hr] at this; exact this
set_option maxHeartbeats 6400000 in
set_option maxRecDepth 32000 in
theorem areaRooms_walk (si st : Int) (sd : ByteArray) (two : Bool) (hsi : 0 ≤ si ∧ si ≤ 18446744073709551615) (hst : 0 ≤ st ∧ st ≤ 18446744073709551615) (hsd : sd.size ≤ 140737488351232) (w : World) :
    Calls Try.prog 14 #[.agg #[.int .u64 si, .int .u64 st, .string sd], .bool two] w fun e w' => e = .returned (.bool true) ∧ Below w.heap.size w w' := by
  obtain ⟨ms, hms, hms1, hms2⟩ : ∃ m : Nat, min (sd.size : Int) 300 = (m : Int) ∧ m ≤ 300 ∧ m ≤ sd.size := ⟨min sd.size 300, by omega, by omega, by omega⟩
  obtain ⟨S, hS, hSz⟩ : ∃ X, sd.extract 0 ms = X ∧ X.size ≤ 300 := ⟨_, rfl, by rw [ByteArray.size_extract]; omega⟩
  have Hs := Aside.mk (show (Snap.mk si st S).ok from ⟨hsi.1, hsi.2, hst.1, hst.2, by show S.size ≤ _; omega⟩)
  clear hsi hst
  have hse := str_beq
  have c0 : (w.alloc (.cells #[.int .u64 si, .int .u64 st, .string sd] 61)).cell? ⟨w.heap.size, 0, none⟩ = some (.int .u64 si) := World.cell?_alloc_new w _ _ 0
  have c1 : (w.alloc (.cells #[.int .u64 si, .int .u64 st, .string sd] 61)).cell? ⟨w.heap.size, 1, none⟩ = some (.int .u64 st) := World.cell?_alloc_new w _ _ 1
  have c2 : (w.alloc (.cells #[.int .u64 si, .int .u64 st, .string sd] 61)).cell? ⟨w.heap.size, 2, none⟩ = some (.string sd) := World.cell?_alloc_new w _ _ 2
  have f2 : (w.alloc (.cells #[.int .u64 si, .int .u64 st, .string sd] 61)).frozen? ⟨w.heap.size, 2, none⟩ = false := World.frozen?_alloc_at _ _ _ _ rfl
  have hb : Below w.heap.size w (w.alloc (.cells #[.int .u64 si, .int .u64 st, .string sd] 61)) := (Below.refl _ w).alloc (Nat.le_refl _) _
  go_enter Try.func14, Try.ntmps14
  go_wp2_with fail
  generalize (w.alloc (.cells #[.int .u64 si, .int .u64 st, .string sd] 61)) = w0 at *
  generalize hBB : w.heap.size = B at *
  have HBB := Aside.mk hBB
  clear hBB
  with_reducible refine (area_examples _).mono ?_
  rintro e w1 ⟨rfl, hb1⟩
  have kk : Keep (fun _ => False) w0 w1 := Keep.of_below hb1 fun _ h _ => h
  have lB := World.block_lt_of_cell? _ _ c0
  rw [← kk.frozen (p := ⟨B, 2, none⟩) lB id] at f2
  replace c0 := kk.cell c0 id
  replace c1 := kk.cell c1 id
  replace c2 := kk.cell c2 id
  have hb2 := hb.trans (kk.below (below_sw hb HBB.out) fun _ q => q.elim)
  have hl1 : B < w1.heap.size := World.block_lt_of_cell? _ _ c0
  clear kk hb1 hb lB
  go_upto_if 22 with fail
  go_cut [6] (fun v wx => ∃ V : Int, (V = 1 ∨ V = 2) ∧ v = .int .i64 V ∧ wx = w1)
  case first =>
    cases two with
    | true =>
      go_wp2_with fail
      go_meet
      exact ⟨2, .inr rfl, rfl, rfl⟩
    | false =>
      go_wp2_with fail
      go_meet
      exact ⟨1, .inl rfl, rfl, rfl⟩
  case rest =>
    obtain ⟨V, hV, rfl, rfl⟩ := hcut
    obtain ⟨P, n, D, hP, hPz, hn, hn1, hn6, hw1, hw2, hwt, hr1, hr2, hrd⟩ := rooms_plain V hV ⟨si, st, S⟩ Hs.out hSz
    have HV := Aside.mk (show -9223372036854775808 ≤ V ∧ V ≤ 9223372036854775807 by rcases hV with q | q <;> omega)
    obtain ⟨lc', hlc⟩ : ∃ lc' : Int, (if 1 < n then 4 else 1) = lc' := ⟨_, rfl⟩
    rw [hlc] at hw1
    have Hlc := Aside.mk hlc
    have HP := Aside.mk hP
    have Hw1 := Aside.mk hw1
    have Hw2 := Aside.mk hw2
    have Hwt := Aside.mk hwt
    have Hr1 := Aside.mk hr1
    have Hr2 := Aside.mk hr2
    have Hrd := Aside.mk hrd
    have HW0 := Aside.mk (show (dwaiting (dnew 10)).length = 0 by decide +kernel)
    clear hP hw1 hw2 hwt hr1 hr2 hrd hlc hV
    have a0 : (wc.setCell ⟨B, 2, none⟩ (.string S)).cell? ⟨B, 0, none⟩ = some (.int .u64 si) := (World.cell?_setCell_other _ _ _ _ (by simp)).trans c0
    have a1 : (wc.setCell ⟨B, 2, none⟩ (.string S)).cell? ⟨B, 1, none⟩ = some (.int .u64 st) := (World.cell?_setCell_other _ _ _ _ (by simp)).trans c1
    have a2 : (wc.setCell ⟨B, 2, none⟩ (.string S)).cell? ⟨B, 2, none⟩ = some (.string S) := World.cell?_setCell_same _ _ _ c2
    have hb3 := hb2.setCell (p := ⟨B, 2, none⟩) (Nat.le_refl _) (.string S)
    go_upto_region 8 with fail
    generalize wc.setCell ⟨B, 2, none⟩ (.string S) = w2 at *
    clear c0 c1 c2 f2 hb2 hms hS hl1
    go_wp2_with fail
    with_reducible refine (area_putC V si st S P HP.out HV.out Hs.out _).mono ?_
    rintro e w3 ⟨rfl, hbb⟩
    have kk := Keep.of_below (S := fun _ => False) hbb fun _ h _ => h
    replace a0 := kk.cell a0 id
    replace a1 := kk.cell a1 id
    replace a2 := kk.cell a2 id
    have hb := hb3.trans (kk.below (below_sw hb3 HBB.out) fun _ q => q.elim)
    have hw63 : IntKind.i64.wrap ((P.size : Int) + 63) = (P.size : Int) + 63 := by rw [IntKind.wrap_i64]; omega
    have lB : B < w3.heap.size := World.block_lt_of_cell? _ _ a0
    clear kk hbb hb3
    go_wp2_with fail
    with_reducible refine (dev_new' 10 10 rfl (by omega) (by omega) _).mono ?_
    rintro e w4 ⟨bA, fA, mA, rfl, e1, e2, e3, dA, hbb⟩
    have kk := Keep.of_below (S := fun _ => False) hbb fun _ h _ => h
    replace a0 := kk.cell a0 id
    replace a1 := kk.cell a1 id
    replace a2 := kk.cell a2 id
    have hlow : ∀ k, devS bA fA mA k → B ≤ k := fun k q => by unfold devS at q; omega
    have n0 : ¬ devS bA fA mA B := by unfold devS; omega
    replace hb := hb.trans (kk.below (below_sw hb HBB.out) fun _ q => q.elim)
    have hn0 : (1 : Int) ≤ (n : Int) := by omega
    clear kk hbb e1 e2 e3 lB hw63
    rw [hn]
    have hw1' : IntKind.i64.wrap ((n : Int) - 1) = (n : Int) - 1 := by rw [IntKind.wrap_i64]; omega
    clear hn
    go_upto_if 60 with fail
    go_cut [12] (fun v wx => v = .int .i64 lc' ∧ wx = w4)
    case first =>
      by_cases q : 1 < n
      · have q' : (1 : Int) < (n : Int) := by omega
        have e4 : lc' = 4 := by rw [← Hlc.out, if_pos q]
        have He4 := Aside.mk e4
        clear e4
        go_wp2_with fail
        go_meet
        exact ⟨by rw [He4.out], rfl⟩
      · have q' : ¬ (1 : Int) < (n : Int) := by omega
        have e4 : lc' = 1 := by rw [← Hlc.out, if_neg q]
        have He4 := Aside.mk e4
        clear e4
        go_wp2_with fail
        go_meet
        exact ⟨by rw [He4.out], rfl⟩
    case rest =>
      obtain ⟨rfl, rfl⟩ := hcut
      go_wp2_with fail
      with_reducible refine (area_writeC bA fA mA (dnew 10) (dnew 10) lc' 0 ((n : Int) - 1) V si st S Hw1.out Hs.out (by omega) (by omega) HV.out _ dA).mono ?_
      rintro e w5 ⟨rfl, qA, hkk⟩
      replace hb := below_dw hb hkk hlow HBB.out
      replace a0 := hkk.cell a0 (n0)
      replace a1 := hkk.cell a1 (n0)
      replace a2 := hkk.cell a2 (n0)
      clear dA hkk
      go_wp2_with fail
      with_reducible refine (dev_waiting' bA fA mA _ 0 HW0.out _ qA).mono ?_
      rintro e w6 ⟨aw, cw, rfl, hbb⟩
      have kk := Keep.of_below (S := fun _ => False) hbb fun _ h _ => h
      replace a0 := kk.cell a0 id
      replace a1 := kk.cell a1 id
      replace a2 := kk.cell a2 id
      have dA := qA.below hbb
      replace hb := hb.trans (kk.below (below_sw hb HBB.out) fun _ q => q.elim)
      clear kk hbb qA
      go_wp2_with fail
      with_reducible refine (area_writeC bA fA mA (dnew 10) D 0 0 (n : Int) V si st S Hw2.out Hs.out (by omega) (by omega) HV.out _ dA).mono ?_
      rintro e w7 ⟨rfl, qA, hkk⟩
      replace hb := below_dw hb hkk hlow HBB.out
      replace a0 := hkk.cell a0 (n0)
      replace a1 := hkk.cell a1 (n0)
      replace a2 := hkk.cell a2 (n0)
      clear dA hkk
      obtain ⟨⟨⟨ri, rt, rx⟩, rv, rc⟩, hR⟩ : ∃ R, aread D 5 5 = R := ⟨_, rfl⟩
      have hrc : n ≤ 5 → rc = 2 := fun q => by have := Hrd.out q; rw [hR] at this; exact congrArg (fun x => x.2.2) this
      have HR := Aside.mk hR
      clear hR
      go_wp2_with fail
      with_reducible refine (area_readC bA fA mA D 5 5 rv rc ri rt rx HR.out (by omega) (by omega) _ qA).mono ?_
      rintro e w8 ⟨rfl, hbb⟩
      have kk : Keep (fun _ => False) w7 (w8.alloc (.cells #[.int .u64 ri, .int .u64 rt, .string rx] 61)) := (Keep.of_below (S := fun _ => False) hbb fun _ h _ => h).alloc _
      replace a0 := kk.cell a0 id
      replace a1 := kk.cell a1 id
      replace a2 := kk.cell a2 id
      have dA := qA.keep kk ⟨id, id, id⟩
      replace hb := hb.trans (kk.below (below_sw hb HBB.out) fun _ q => q.elim)
      clear kk hbb qA
      go_upto_region 20 with fail
      generalize (w8.alloc (.cells #[.int .u64 ri, .int .u64 rt, .string rx] 61)) = w9 at *
      generalize w8.heap.size = Q at *
      have hlcc : (lc' == lc') = true := by simp
      go_wp2_with fail
      with_reducible refine (area_roomC V (n : Int) si st S true Hr1.out HV.out (by omega) Hs.out _).mono ?_
      rintro e w10 ⟨rfl, hbb⟩
      have kk := Keep.of_below (S := fun _ => False) hbb fun _ h _ => h
      replace a0 := kk.cell a0 id
      replace a1 := kk.cell a1 id
      replace a2 := kk.cell a2 id
      replace dA := dA.below hbb
      replace hb := hb.trans (kk.below (below_sw hb HBB.out) fun _ q => q.elim)
      clear kk hbb
      go_wp2_with fail
      with_reducible refine (area_roomC V ((n : Int) - 1) si st S false Hr2.out HV.out (by omega) Hs.out _).mono ?_
      rintro e w11 ⟨rfl, hbb⟩
      have kk := Keep.of_below (S := fun _ => False) hbb fun _ h _ => h
      replace dA := dA.below hbb
      replace hb := hb.trans (kk.below (below_sw hb HBB.out) fun _ q => q.elim)
      clear kk hbb a0 a1 a2
      go_wp2_with fail
      with_reducible refine (dev_waiting' bA fA mA _ n Hwt.out _ dA).mono ?_
      rintro e w12 ⟨aw2, cw2, rfl, hbb⟩
      have kk := Keep.of_below (S := fun _ => False) hbb fun _ h _ => h
      replace hb := hb.trans (kk.below (below_sw hb HBB.out) fun _ q => q.elim)
      clear kk hbb dA
      by_cases h5 : n ≤ 5
      · have hrc2 := hrc h5
        subst hrc2
        have q5 : ¬ (5 : Int) < (n : Int) := by omega
        clear hrc
        go_wp2_with fail
        go_ret
        exact ⟨rfl, by rw [HBB.out]; exact hb⟩
      · have q5 : (5 : Int) < (n : Int) := by omega
        clear hrc
        go_wp2_with fail
        go_ret
        exact ⟨rfl, by rw [HBB.out]; exact hb⟩
end Go.Proofs.Ytlbnbmojgdoieaa
