/- AreaOver: its walk. -/
import Derived.Test.YtlbnbmojgdoieaaAreaBackW
import Derived.Test.YtlbnbmojgdoieaaArO
import Derived.OpenShut
set_option maxRecDepth 16000
namespace Go.Proofs.Ytlbnbmojgdoieaa
open Go.RowKit Go.Pin
set_option linter.unusedVariables false
set_option linter.unusedSimpArgs false
theorem area_writeD (b f m : Nat) (d D : Dv) (c a k v i t : Int) (x : ByteArray) (hR : awrite d a k v ⟨i, t, x⟩ = (c, D)) (hs : (Snap.mk i t x).ok) (ha : -9223372036854775808 ≤ a ∧ a ≤ 9223372036854775807) (hk : -9223372036854775808 ≤ k ∧ k ≤ 9223372036854775807) (hv : -9223372036854775808 ≤ v ∧ v ≤ 9223372036854775807) (w : World) (h : DevAt w b f m d) :
    Calls Try.prog 43 #[.pointer (some ⟨b, 0, none⟩), .int .i64 a, .int .i64 k, .int .i64 v, .agg #[.int .u64 i, .int .u64 t, .string x]] w fun e w' => e = .returned (.int .i64 c) ∧ DevAt w' b f m D ∧ Keep (devS b f m) w w' := by
  have := area_write b f m d a k v ⟨i, t, x⟩ hs ha hk hv w h
  rw [hR] at this; exact this
theorem dev_flushD (b f m : Nat) (d D : Dv) (hR : dflush d = (0, D)) (w : World) (h : DevAt w b f m d) :
    Calls Try.prog 25 #[.pointer (some ⟨b, 0, none⟩)] w fun e w' => e = .returned (.int .i64 0) ∧ DevAt w' b f m D ∧ Keep (devS b f m) w w' := by
  have := dev_flush b f m d w h
  rw [hR] at this; exact this
set_option maxHeartbeats 6400000 in
set_option maxRecDepth 32000 in
theorem areaOver_walk (si st : Int) (sd : ByteArray) (ti tt : Int) (td : ByteArray) (k : Int) (two : Bool)
    (hsi : 0 ≤ si ∧ si ≤ 18446744073709551615) (hst : 0 ≤ st ∧ st ≤ 18446744073709551615) (hsd : sd.size ≤ 140737488351232) (hti : 0 ≤ ti ∧ ti ≤ 18446744073709551615) (htt : 0 ≤ tt ∧ tt ≤ 18446744073709551615) (htd : td.size ≤ 140737488351232) (hk : 0 ≤ k ∧ k ≤ 255) (w : World) :
    Calls Try.prog 12 #[.agg #[.int .u64 si, .int .u64 st, .string sd], .agg #[.int .u64 ti, .int .u64 tt, .string td], .int .u8 k, .bool two] w fun e w' => e = .returned (.bool true) ∧ Below w.heap.size w w' := by
  obtain ⟨ms, hms, hms1, hms2⟩ : ∃ m : Nat, min (sd.size : Int) 300 = (m : Int) ∧ m ≤ 300 ∧ m ≤ sd.size := ⟨min sd.size 300, by omega, by omega, by omega⟩
  obtain ⟨mt, hmt, hmt1, hmt2⟩ : ∃ m : Nat, min (td.size : Int) 300 = (m : Int) ∧ m ≤ 300 ∧ m ≤ td.size := ⟨min td.size 300, by omega, by omega, by omega⟩
  obtain ⟨S, hS, hSz⟩ : ∃ X, sd.extract 0 ms = X ∧ X.size ≤ 300 := ⟨_, rfl, by rw [ByteArray.size_extract]; omega⟩
  obtain ⟨T, hT, hTz⟩ : ∃ X, td.extract 0 mt = X ∧ X.size ≤ 300 := ⟨_, rfl, by rw [ByteArray.size_extract]; omega⟩
  have Hs := Aside.mk (show (Snap.mk si st S).ok from ⟨hsi.1, hsi.2, hst.1, hst.2, by show S.size ≤ _; omega⟩)
  have Ht := Aside.mk (show (Snap.mk ti tt T).ok from ⟨hti.1, hti.2, htt.1, htt.2, by show T.size ≤ _; omega⟩)
  clear hsi hst hti htt
  have hse := str_beq
  obtain ⟨c, hc, hc7⟩ : ∃ c : Nat, k % 8 = (c : Int) ∧ c ≤ 7 := ⟨(k % 8).toNat, by omega, by omega⟩
  have hcw : IntKind.i64.wrap (c : Int) = (c : Int) := by rw [IntKind.wrap_i64]; omega
  have z1 : (w.alloc (.cells #[.int .u64 si, .int .u64 st, .string sd] 61)).heap.size = w.heap.size + 1 := by simp
  have h0 : SnpAt ((w.alloc (.cells #[.int .u64 si, .int .u64 st, .string sd] 61)).alloc (.cells #[.int .u64 ti, .int .u64 tt, .string td] 61)) w.heap.size (.int .u64 si) (.int .u64 st) (.string sd) := (SnpAt.new rfl).keep ((Keep.refl (fun _ => False) _).alloc _) id
  have h1 : SnpAt ((w.alloc (.cells #[.int .u64 si, .int .u64 st, .string sd] 61)).alloc (.cells #[.int .u64 ti, .int .u64 tt, .string td] 61)) (w.heap.size + 1) (.int .u64 ti) (.int .u64 tt) (.string td) := SnpAt.new z1
  have g0 : ((w.alloc (.cells #[.int .u64 si, .int .u64 st, .string sd] 61)).alloc (.cells #[.int .u64 ti, .int .u64 tt, .string td] 61)).frozen? ⟨w.heap.size, 2, none⟩ = false := by rw [((Keep.refl (fun _ => False) (w.alloc (.cells #[.int .u64 si, .int .u64 st, .string sd] 61))).alloc _).frozen (p := ⟨w.heap.size, 2, none⟩) (by show w.heap.size < _; omega) id]; exact World.frozen?_alloc_at _ _ _ _ rfl
  have g1 : ((w.alloc (.cells #[.int .u64 si, .int .u64 st, .string sd] 61)).alloc (.cells #[.int .u64 ti, .int .u64 tt, .string td] 61)).frozen? ⟨w.heap.size + 1, 2, none⟩ = false := World.frozen?_alloc_at _ _ _ _ z1.symm
  have hbW : Below w.heap.size w ((w.alloc (.cells #[.int .u64 si, .int .u64 st, .string sd] 61)).alloc (.cells #[.int .u64 ti, .int .u64 tt, .string td] 61)) := ((Below.refl _ w).alloc (Nat.le_refl _) _).alloc (by omega) _
  have H0 := Aside.mk h0
  have H1 := Aside.mk h1
  have G0 := Aside.mk g0
  have G1 := Aside.mk g1
  have HbW := Aside.mk hbW
  clear z1 h0 h1 g0 g1 hbW
  go_enter Try.func12, Try.ntmps12
  go_wp2_with fail
  with_reducible refine (area_examples _).mono ?_
  rintro e w1 ⟨rfl, hb1⟩
  generalize ((w.alloc (.cells #[.int .u64 si, .int .u64 st, .string sd] 61)).alloc (.cells #[.int .u64 ti, .int .u64 tt, .string td] 61)) = w0 at *
  generalize hBB : w.heap.size = B at *
  have HBB := Aside.mk hBB
  clear hBB
  have kk : Keep (fun _ => False) w0 w1 := Keep.of_below hb1 fun _ h _ => h
  have l1 := H1.out.lt
  have f0 : w1.frozen? ⟨B, 2, none⟩ = false := by rw [kk.frozen (p := ⟨B, 2, none⟩) (by show B < _; omega) id]; exact G0.out
  have f1 : w1.frozen? ⟨B + 1, 2, none⟩ = false := by rw [kk.frozen (p := ⟨B + 1, 2, none⟩) l1 id]; exact G1.out
  replace H0 := Aside.mk (H0.out.keep kk id)
  replace H1 := Aside.mk (H1.out.keep kk id)
  have c0 := H0.out.c2
  have c1 := H1.out.c2
  have hl1 : B + 1 < w1.heap.size := Nat.lt_of_lt_of_le l1 hb1.size
  have Hb1 := Aside.mk (HbW.out.trans (hb1.mono (by omega)))
  clear hb1 kk l1 HbW G0 G1
  go_upto_if 24 with fail
  go_cut [10] (fun v wx => ∃ V : Int, (V = 1 ∨ V = 2) ∧ v = .int .i64 V ∧ wx = w1)
  case first =>
    cases two with
    | true =>
      go_wp2_with fail
      go_meet
      exact ⟨2, .inr rfl, rfl, rfl⟩
    | false =>
      go_wp2_with fail
      go_meet
      exact ⟨1, .inl rfl, rfl, rfl⟩
  case rest =>
    obtain ⟨V, hV, rfl, rfl⟩ := hcut
    obtain ⟨D1, D4, F, hw1, hfl, hw2, hge, hlt⟩ := over_plain V hV ⟨si, st, S⟩ ⟨ti, tt, T⟩ Hs.out Ht.out hSz hTz c hc7
    have HV := Aside.mk (show -9223372036854775808 ≤ V ∧ V ≤ 9223372036854775807 by rcases hV with q | q <;> omega)
    have Hw1 := Aside.mk hw1
    have Hfl := Aside.mk hfl
    have Hw2 := Aside.mk hw2
    have Hge := Aside.mk hge
    have Hlt := Aside.mk hlt
    clear hw1 hfl hw2 hge hlt hV
    go_upto_region 9 with fail
    replace H0 := Aside.mk ((H0.out.set2 (.string S)).far (p := ⟨B + 1, 2, none⟩) (by show B + 1 ≠ B; omega) (.string T))
    replace H1 := Aside.mk ((H1.out.far (p := ⟨B, 2, none⟩) (by show B ≠ B + 1; omega) (.string S)).set2 (.string T))
    replace Hb1 := Aside.mk ((Hb1.out.setCell (p := ⟨B, 2, none⟩) (Nat.le_refl _) (.string S)).setCell (p := ⟨B + 1, 2, none⟩) (by show B ≤ B + 1; omega) (.string T))
    clear c0 c1 f0 f1 hms hmt hS hT hl1
    generalize (wc.setCell ⟨B, 2, none⟩ (.string S)).setCell ⟨B + 1, 2, none⟩ (.string T) = w2 at *
    have hb := Hb1.out
    have l2 := H1.out.lt
    clear Hb1
    go_wp2_with fail
    with_reducible refine (dev_new' 6 6 rfl (by omega) (by omega) _).mono ?_
    rintro e w3 ⟨bA, fA, mA, rfl, e1, e2, e3, dA, hbb⟩
    have kk := Keep.of_below (S := fun _ => False) hbb fun _ h _ => h
    replace H0 := Aside.mk (H0.out.keep kk id)
    replace H1 := Aside.mk (H1.out.keep kk id)
    have n0 : ¬ devS bA fA mA B := by unfold devS; omega
    have n1 : ¬ devS bA fA mA (B + 1) := by unfold devS; omega
    have hlow : ∀ k, devS bA fA mA k → B ≤ k := fun k q => by unfold devS at q; omega
    replace hb := hb.trans (kk.below (below_sz hb HBB.out) fun _ q => q.elim)
    have a0 := H0.out.c0
    have a1 := H0.out.c1
    have a2 := H0.out.c2
    clear kk hbb e1 e2 e3 l2
    go_wp2_with fail
    with_reducible refine (area_writeD bA fA mA (dnew 6) D1 0 0 6 V si st S Hw1.out Hs.out (by omega) (by omega) HV.out _ dA).mono ?_
    rintro e w4 ⟨rfl, qA, hkk⟩
    replace hb := below_dv hb hkk hlow HBB.out
    replace H0 := Aside.mk (H0.out.keep hkk n0)
    replace H1 := Aside.mk (H1.out.keep hkk n1)
    clear dA hkk a0 a1 a2
    go_wp2_with fail
    with_reducible refine (dev_flushD bA fA mA D1 (dsettle D1) Hfl.out _ qA).mono ?_
    rintro e w5 ⟨rfl, dA, hkk⟩
    replace hb := below_dv hb hkk hlow HBB.out
    replace H0 := Aside.mk (H0.out.keep hkk n0)
    replace H1 := Aside.mk (H1.out.keep hkk n1)
    clear qA hkk
    go_wp2_with fail
    with_reducible refine (dev_arm bA fA mA (dsettle D1) (c : Int) (by omega) _ dA).mono ?_
    rintro e w6 ⟨rfl, qA, hkk⟩
    replace hb := below_dv hb hkk hlow HBB.out
    replace H0 := Aside.mk (H0.out.keep hkk n0)
    replace H1 := Aside.mk (H1.out.keep hkk n1)
    have a0 := H1.out.c0
    have a1 := H1.out.c1
    have a2 := H1.out.c2
    clear dA hkk
    go_wp2_with fail
    with_reducible refine (area_writeD bA fA mA (darm (dsettle D1) (c : Int)) D4 F 0 6 V ti tt T Hw2.out Ht.out (by omega) (by omega) HV.out _ qA).mono ?_
    rintro e w7 ⟨rfl, dA, hkk⟩
    replace hb := below_dv hb hkk hlow HBB.out
    replace H0 := Aside.mk (H0.out.keep hkk n0)
    replace H1 := Aside.mk (H1.out.keep hkk n1)
    clear qA hkk a0 a1 a2
    by_cases h6 : 6 ≤ c
    · obtain ⟨rfl, hrd⟩ := Hge.out h6
      have HR := Aside.mk hrd
      have q6 : (6 : Int) ≤ (c : Int) := by omega
      clear hrd
      go_wp2_with fail
      with_reducible refine (area_readB bA fA mA D4 0 6 V ti tt T HR.out (by omega) (by omega) _ dA).mono ?_
      rintro e w8 ⟨rfl, hbb⟩
      have kk : Keep (fun _ => False) w7 (w8.alloc (.cells #[.int .u64 ti, .int .u64 tt, .string T] 61)) := (Keep.of_below (S := fun _ => False) hbb fun _ h _ => h).alloc _
      have HP := SnpAt.new (w := w8) (t := 61) (g := w8.heap.size) (x := .int .u64 ti) (y := .int .u64 tt) (z := .string T) rfl
      replace H1 := Aside.mk (H1.out.keep kk id)
      replace hb := hb.trans (kk.below (below_sz hb HBB.out) fun _ q => q.elim)
      clear hbb kk dA
      go_upto_region 16 with fail
      generalize (w8.alloc (.cells #[.int .u64 ti, .int .u64 tt, .string T] 61)) = w9 at *
      generalize w8.heap.size = P at *
      have a0 := H1.out.c0
      have a1 := H1.out.c1
      have a2 := H1.out.c2
      have p0 := HP.c0
      have p1 := HP.c1
      have p2 := HP.c2
      clear HP
      go_wp2_with fail
      go_ret
      exact ⟨rfl, by rw [HBB.out]; exact hb⟩
    · obtain ⟨rfl, hrd⟩ := Hlt.out (by omega)
      have HR := Aside.mk hrd
      have q6 : (c : Int) < 6 := by omega
      have k8 : Keep (fun _ => False) w7 (w7.alloc (.cells #[.int .i64 0, .int .i64 1, .int .i64 2, .int .i64 3, .int .i64 4, .int .i64 5] 3)) := (Keep.refl _ _).alloc _
      have hsl : SlI (w7.alloc (.cells #[.int .i64 0, .int .i64 1, .int .i64 2, .int .i64 3, .int .i64 4, .int .i64 5] 3)) (some ⟨w7.heap.size, 0, none⟩) [0, 1, 2, 3, 4, 5] := fun _ => ⟨w7.heap.size, 0, rfl, fun i hi => by
        rw [Nat.zero_add, World.cell?_alloc_new]
        have hi6 : i < 6 := hi
        rcases (show i = 0 ∨ i = 1 ∨ i = 2 ∨ i = 3 ∨ i = 4 ∨ i = 5 by omega) with rfl | rfl | rfl | rfl | rfl | rfl <;> rfl⟩
      have Hsl := Aside.mk hsl
      replace H0 := Aside.mk (H0.out.keep k8 id)
      have qA := dA.keep k8 ⟨id, id, id⟩
      replace hb := hb.trans (k8.below (below_sz hb HBB.out) fun _ q => q.elim)
      clear hrd hsl k8 dA
      go_wp2_with fail
      with_reducible refine (dev_after' bA fA mA D4 _ 6 6 [0, 1, 2, 3, 4, 5] rfl _ qA (by decide) Hsl.out).mono ?_
      rintro e w9 ⟨bB, fB, mB, rfl, _, _, _, dB, hbb⟩
      have kk := Keep.of_below (S := fun _ => False) hbb fun _ h _ => h
      replace H0 := Aside.mk (H0.out.keep kk id)
      replace hb := hb.trans (kk.below (below_sz hb HBB.out) fun _ q => q.elim)
      clear hbb kk qA Hsl
      go_wp2_with fail
      with_reducible refine (area_readB bB fB mB _ 0 6 V si st S HR.out (by omega) (by omega) _ dB).mono ?_
      rintro e w10 ⟨rfl, hbb⟩
      have kk : Keep (fun _ => False) w9 (w10.alloc (.cells #[.int .u64 si, .int .u64 st, .string S] 61)) := (Keep.of_below (S := fun _ => False) hbb fun _ h _ => h).alloc _
      have HP := SnpAt.new (w := w10) (t := 61) (g := w10.heap.size) (x := .int .u64 si) (y := .int .u64 st) (z := .string S) rfl
      replace H0 := Aside.mk (H0.out.keep kk id)
      replace hb := hb.trans (kk.below (below_sz hb HBB.out) fun _ q => q.elim)
      clear hbb kk dB
      go_upto_region 21 with fail
      generalize (w10.alloc (.cells #[.int .u64 si, .int .u64 st, .string S] 61)) = w11 at *
      generalize w10.heap.size = P at *
      have a0 := H0.out.c0
      have a1 := H0.out.c1
      have a2 := H0.out.c2
      have p0 := HP.c0
      have p1 := HP.c1
      have p2 := HP.c2
      clear HP
      go_wp2_with fail
      go_ret
      exact ⟨rfl, by rw [HBB.out]; exact hb⟩
end Go.Proofs.Ytlbnbmojgdoieaa
