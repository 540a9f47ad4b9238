/- AreaBack: its walk. -/
import Derived.Test.YtlbnbmojgdoieaaArR
import Derived.Test.YtlbnbmojgdoieaaArT
import Derived.OpenShut
set_option maxRecDepth 16000
namespace Go.Pin
open Go.RowKit
set_option linter.unusedVariables false
set_option linter.unusedSimpArgs false
/-- Block g holds a snap's cells. -/
structure SnpAt (w : World) (g : Nat) (x y z : Value) : Prop where
  c0 : w.cell? ⟨g, 0, none⟩ = some x
  c1 : w.cell? ⟨g, 1, none⟩ = some y
  c2 : w.cell? ⟨g, 2, none⟩ = some z
theorem SnpAt.keep {S : Nat → Prop} {a w : World} {g : Nat} {x y z : Value} (h : SnpAt a g x y z) (hk : Keep S a w) (hn : ¬ S g) : SnpAt w g x y z := ⟨hk.cell h.c0 hn, hk.cell h.c1 hn, hk.cell h.c2 hn⟩
theorem SnpAt.set2 {w : World} {g : Nat} {x0 y0 z0 : Value} (h : SnpAt w g x0 y0 z0) (z : Value) : SnpAt (w.setCell ⟨g, 2, none⟩ z) g x0 y0 z :=
  ⟨(World.cell?_setCell_other _ _ _ _ (by simp)).trans h.c0, (World.cell?_setCell_other _ _ _ _ (by simp)).trans h.c1, World.cell?_setCell_same _ _ _ h.c2⟩
theorem SnpAt.far {w : World} {g : Nat} {x y z : Value} (h : SnpAt w g x y z) {p : Addr} (hp : p.block ≠ g) (v : Value) : SnpAt (w.setCell p v) g x y z :=
  h.keep ((Keep.refl (fun k => k = p.block) w).setCell (.inl rfl) v) (fun q => hp q.symm)
theorem SnpAt.lt {w : World} {g : Nat} {x y z : Value} (h : SnpAt w g x y z) : g < w.heap.size := World.block_lt_of_cell? (a := ⟨g, 0, none⟩) _ h.c0
theorem SnpAt.new {w : World} {t : Nat} {g : Nat} {x y z : Value} (hg : w.heap.size = g) : SnpAt (w.alloc (.cells #[x, y, z] t)) g x y z := by
  subst hg
  exact ⟨World.cell?_alloc_new w _ _ 0, World.cell?_alloc_new w _ _ 1, World.cell?_alloc_new w _ _ 2⟩
theorem below_dv {B b f m : Nat} {a w0 w1 : World} (h : Below B a w0) (hk : Keep (devS b f m) w0 w1) (hl : ∀ k, devS b f m k → B ≤ k) (hB : a.heap.size = B) : Below B a w1 :=
  h.trans (hk.below (by rw [← hB]; exact h.size) hl)
theorem below_sz {B : Nat} {a w0 : World} (h : Below B a w0) (hB : a.heap.size = B) : B ≤ w0.heap.size := by rw [← hB]; exact h.size
theorem left_pad : (pad ⟨#[108, 101, 102, 116]⟩).extract 0 5 = ⟨#[108, 101, 102, 116, 0]⟩ := by decide +kernel
theorem right_pad : (pad ⟨#[114, 105, 103, 104, 116]⟩).extract 0 6 = ⟨#[114, 105, 103, 104, 116, 0]⟩ := by decide +kernel
end Go.Pin
namespace Go.Proofs.Ytlbnbmojgdoieaa
open Go.RowKit Go.Pin
set_option linter.unusedVariables false
set_option linter.unusedSimpArgs false
theorem area_writeB (b f m : Nat) (d D : Dv) (a k v i t : Int) (x : ByteArray) (hR : awrite d a k v ⟨i, t, x⟩ = (0, D)) (hs : (Snap.mk i t x).ok) (ha : -9223372036854775808 ≤ a ∧ a ≤ 9223372036854775807) (hk : -9223372036854775808 ≤ k ∧ k ≤ 9223372036854775807) (hv : -9223372036854775808 ≤ v ∧ v ≤ 9223372036854775807) (w : World) (h : DevAt w b f m d) :
    Calls Try.prog 43 #[.pointer (some ⟨b, 0, none⟩), .int .i64 a, .int .i64 k, .int .i64 v, .agg #[.int .u64 i, .int .u64 t, .string x]] w fun e w' => e = .returned (.int .i64 0) ∧ DevAt w' b f m D ∧ Keep (devS b f m) w w' := by
  have := area_write b f m d a k v ⟨i, t, x⟩ hs ha hk hv w h
  rw [hR] at this; exact this
theorem area_readB (b f m : Nat) (d : Dv) (a k v i t : Int) (x : ByteArray) (hR : aread d a k = (⟨i, t, x⟩, v, 0)) (ha : -9223372036854775808 ≤ a ∧ a ≤ 9223372036854775807) (hk : -9223372036854775808 ≤ k ∧ k ≤ 9223372036854775807) (w : World) (h : DevAt w b f m d) :
    Calls Try.prog 44 #[.pointer (some ⟨b, 0, none⟩), .int .i64 a, .int .i64 k] w fun e w' => e = .returned (.tuple #[.agg #[.int .u64 i, .int .u64 t, .string x], .int .i64 v, .int .i64 0]) ∧ Below w.heap.size w w' := by
  have := area_read b f m d a k ha hk w h
  rw [hR] at this; exact this
set_option maxHeartbeats 6400000 in
set_option maxRecDepth 32000 in
theorem areaBack_walk (si st : Int) (sd : ByteArray) (ti tt : Int) (td : ByteArray) (one two : Bool)
    (hsi : 0 ≤ si ∧ si ≤ 18446744073709551615) (hst : 0 ≤ st ∧ st ≤ 18446744073709551615) (hsd : sd.size ≤ 140737488351232) (hti : 0 ≤ ti ∧ ti ≤ 18446744073709551615) (htt : 0 ≤ tt ∧ tt ≤ 18446744073709551615) (htd : td.size ≤ 140737488351232) (w : World) :
    Calls Try.prog 11 #[.agg #[.int .u64 si, .int .u64 st, .string sd], .agg #[.int .u64 ti, .int .u64 tt, .string td], .bool one, .bool two] w fun e w' => e = .returned (.bool true) ∧ Below w.heap.size w w' := by
  obtain ⟨ms, hms, hms1, hms2⟩ : ∃ m : Nat, min (sd.size : Int) 300 = (m : Int) ∧ m ≤ 300 ∧ m ≤ sd.size := ⟨min sd.size 300, by omega, by omega, by omega⟩
  obtain ⟨mt, hmt, hmt1, hmt2⟩ : ∃ m : Nat, min (td.size : Int) 300 = (m : Int) ∧ m ≤ 300 ∧ m ≤ td.size := ⟨min td.size 300, by omega, by omega, by omega⟩
  obtain ⟨S, hS, hSz⟩ : ∃ X, sd.extract 0 ms = X ∧ X.size ≤ 300 := ⟨_, rfl, by rw [ByteArray.size_extract]; omega⟩
  obtain ⟨T, hT, hTz⟩ : ∃ X, td.extract 0 mt = X ∧ X.size ≤ 300 := ⟨_, rfl, by rw [ByteArray.size_extract]; omega⟩
  have Hs := Aside.mk (show (Snap.mk si st S).ok from ⟨hsi.1, hsi.2, hst.1, hst.2, by show S.size ≤ _; omega⟩)
  have Ht := Aside.mk (show (Snap.mk ti tt T).ok from ⟨hti.1, hti.2, htt.1, htt.2, by show T.size ≤ _; omega⟩)
  clear hsi hst hti htt
  have hse := str_beq
  have z1 : (w.alloc (.cells #[.int .u64 si, .int .u64 st, .string sd] 61)).heap.size = w.heap.size + 1 := by simp
  have h0 : SnpAt ((w.alloc (.cells #[.int .u64 si, .int .u64 st, .string sd] 61)).alloc (.cells #[.int .u64 ti, .int .u64 tt, .string td] 61)) w.heap.size (.int .u64 si) (.int .u64 st) (.string sd) := (SnpAt.new rfl).keep ((Keep.refl (fun _ => False) _).alloc _) id
  have h1 : SnpAt ((w.alloc (.cells #[.int .u64 si, .int .u64 st, .string sd] 61)).alloc (.cells #[.int .u64 ti, .int .u64 tt, .string td] 61)) (w.heap.size + 1) (.int .u64 ti) (.int .u64 tt) (.string td) := SnpAt.new z1
  have g0 : ((w.alloc (.cells #[.int .u64 si, .int .u64 st, .string sd] 61)).alloc (.cells #[.int .u64 ti, .int .u64 tt, .string td] 61)).frozen? ⟨w.heap.size, 2, none⟩ = false := by rw [((Keep.refl (fun _ => False) (w.alloc (.cells #[.int .u64 si, .int .u64 st, .string sd] 61))).alloc _).frozen (p := ⟨w.heap.size, 2, none⟩) (by show w.heap.size < _; omega) id]; exact World.frozen?_alloc_at _ _ _ _ rfl
  have g1 : ((w.alloc (.cells #[.int .u64 si, .int .u64 st, .string sd] 61)).alloc (.cells #[.int .u64 ti, .int .u64 tt, .string td] 61)).frozen? ⟨w.heap.size + 1, 2, none⟩ = false := World.frozen?_alloc_at _ _ _ _ z1.symm
  have hbW : Below w.heap.size w ((w.alloc (.cells #[.int .u64 si, .int .u64 st, .string sd] 61)).alloc (.cells #[.int .u64 ti, .int .u64 tt, .string td] 61)) := ((Below.refl _ w).alloc (Nat.le_refl _) _).alloc (by omega) _
  have H0 := Aside.mk h0
  have H1 := Aside.mk h1
  have G0 := Aside.mk g0
  have G1 := Aside.mk g1
  have HbW := Aside.mk hbW
  clear z1 h0 h1 g0 g1 hbW
  go_enter Try.func11, Try.ntmps11
  go_wp2_with fail
  with_reducible refine (area_examples _).mono ?_
  rintro e w1 ⟨rfl, hb1⟩
  generalize ((w.alloc (.cells #[.int .u64 si, .int .u64 st, .string sd] 61)).alloc (.cells #[.int .u64 ti, .int .u64 tt, .string td] 61)) = w0 at *
  generalize hBB : w.heap.size = B at *
  have HBB := Aside.mk hBB
  clear hBB
  have kk : Keep (fun _ => False) w0 w1 := Keep.of_below hb1 fun _ h _ => h
  have l1 := H1.out.lt
  have f0 : w1.frozen? ⟨B, 2, none⟩ = false := by rw [kk.frozen (p := ⟨B, 2, none⟩) (by show B < _; omega) id]; exact G0.out
  have f1 : w1.frozen? ⟨B + 1, 2, none⟩ = false := by rw [kk.frozen (p := ⟨B + 1, 2, none⟩) l1 id]; exact G1.out
  replace H0 := Aside.mk (H0.out.keep kk id)
  replace H1 := Aside.mk (H1.out.keep kk id)
  have c0 := H0.out.c2
  have c1 := H1.out.c2
  have hl1 : B + 1 < w1.heap.size := Nat.lt_of_lt_of_le l1 hb1.size
  have Hb1 := Aside.mk (HbW.out.trans (hb1.mono (by omega)))
  clear hb1 kk l1 HbW G0 G1
  go_upto_if 45 with fail
  replace H0 := Aside.mk ((H0.out.set2 (.string S)).far (p := ⟨B + 1, 2, none⟩) (by show B + 1 ≠ B; omega) (.string T))
  replace H1 := Aside.mk ((H1.out.far (p := ⟨B, 2, none⟩) (by show B ≠ B + 1; omega) (.string S)).set2 (.string T))
  replace Hb1 := Aside.mk ((Hb1.out.setCell (p := ⟨B, 2, none⟩) (Nat.le_refl _) (.string S)).setCell (p := ⟨B + 1, 2, none⟩) (by show B ≤ B + 1; omega) (.string T))
  replace hl1 : B + 1 < ((w1.setCell ⟨B, 2, none⟩ (.string S)).setCell ⟨B + 1, 2, none⟩ (.string T)).heap.size := H1.out.lt
  clear c0 c1 f0 f1 hms hmt hS hT
  generalize (w1.setCell ⟨B, 2, none⟩ (.string S)).setCell ⟨B + 1, 2, none⟩ (.string T) = w2 at *
  go_cut [10] (fun v wx => ∃ V : Int, (V = 1 ∨ V = 2) ∧ v = .int .i64 V ∧ wx = w2)
  case first =>
    cases one with
    | true =>
      go_wp2_with fail
      go_meet
      exact ⟨2, .inr rfl, rfl, rfl⟩
    | false =>
      go_wp2_with fail
      go_meet
      exact ⟨1, .inl rfl, rfl, rfl⟩
  case rest =>
    obtain ⟨V, hV, rfl, rfl⟩ := hcut
    have HV := Aside.mk hV
    clear hV
    go_upto_if 46 with fail
    go_cut [11] (fun v wx => ∃ V : Int, (V = 1 ∨ V = 2) ∧ v = .int .i64 V ∧ wx = wc)
    case first =>
      cases two with
      | true =>
        go_wp2_with fail
        go_meet
        exact ⟨2, .inr rfl, rfl, rfl⟩
      | false =>
        go_wp2_with fail
        go_meet
        exact ⟨1, .inl rfl, rfl, rfl⟩
    case rest =>
      obtain ⟨U, hU, rfl, rfl⟩ := hcut
      have HU := Aside.mk hU
      clear hU
      have ok10 := dnew_ok 10 (by omega) (by omega)
      have n10 : (dnew 10).n = 10 := dnew_n 10
      have lv10 := live_new 10
      obtain ⟨D1, hD1⟩ : ∃ D, dset 0 ⟨#[108, 101, 102, 116]⟩ (dnew 10) = D := ⟨_, rfl⟩
      have ok1 : D1.ok := by rw [← hD1]; exact dset_ok ok10 (by rw [n10]; omega) (by decide)
      have nn1 : D1.n = 10 := by rw [← hD1]; exact n10
      have lv1 : Live D1 := by rw [← hD1]; exact lv10.set _ _
      have s1 : D1.s 0 = pad ⟨#[108, 101, 102, 116]⟩ := by rw [← hD1, dset_s ok10 (by rw [n10]; omega), if_pos rfl]
      obtain ⟨D2, hD2⟩ : ∃ D, dset 8 ⟨#[114, 105, 103, 104, 116]⟩ D1 = D := ⟨_, rfl⟩
      have ok2 : D2.ok := by rw [← hD2]; exact dset_ok ok1 (by rw [nn1]; omega) (by decide)
      have nn2 : D2.n = 10 := by rw [← hD2]; exact nn1
      have lv2 : Live D2 := by rw [← hD2]; exact lv1.set _ _
      have s2 : D2.s 0 = pad ⟨#[108, 101, 102, 116]⟩ := by rw [← hD2, dset_s ok1 (by rw [nn1]; omega), if_neg (by omega), s1]
      have s3 : D2.s 8 = pad ⟨#[114, 105, 103, 104, 116]⟩ := by rw [← hD2, dset_s ok1 (by rw [nn1]; omega), if_pos rfl]
      obtain ⟨D3, hW1, L3, hR1⟩ := write_read D2 ok2 lv2 1 7 (by omega) (by omega) V HV.out ⟨si, st, S⟩ Hs.out (by show S.size ≤ _; omega) (Nat.le_trans (aput_small V ⟨si, st, S⟩ hSz) (by omega))
      obtain ⟨D4, hW2, L4, hR2⟩ := write_read D3 L3.ok L3.live 1 7 (by omega) (by rw [L3.n]; omega) U HU.out ⟨ti, tt, T⟩ Ht.out (by show T.size ≤ _; omega) (Nat.le_trans (aput_small U ⟨ti, tt, T⟩ hTz) (by omega))
      have e0 : D4.s 0 = pad ⟨#[108, 101, 102, 116]⟩ := by rw [L4.else' 0 (by omega), L3.else' 0 (by omega), s2]
      have e8 : D4.s 8 = pad ⟨#[114, 105, 103, 104, 116]⟩ := by rw [L4.else' 8 (by omega), L3.else' 8 (by omega), s3]
      have n4 : D4.n = 10 := by rw [L4.n, L3.n, nn2]
      have Hok1 := Aside.mk hD1
      have Hok2 := Aside.mk hD2
      have Hlv := Aside.mk (And.intro lv10 (And.intro lv1 L4.live))
      have Hn := Aside.mk (And.intro n10 (And.intro nn1 n4))
      have Hw1 := Aside.mk (show awrite D2 1 7 V ⟨si, st, S⟩ = (0, D3) from hW1)
      have Hw2 := Aside.mk (show awrite D3 1 7 U ⟨ti, tt, T⟩ = (0, D4) from hW2)
      have Hr1 := Aside.mk (show aread D3 1 7 = (⟨si, st, S⟩, V, 0) from hR1)
      have Hr2 := Aside.mk (show aread D4 1 7 = (⟨ti, tt, T⟩, U, 0) from hR2)
      have hVb : -9223372036854775808 ≤ V ∧ V ≤ 9223372036854775807 := by rcases HV.out with q | q <;> omega
      have hUb : -9223372036854775808 ≤ U ∧ U ≤ 9223372036854775807 := by rcases HU.out with q | q <;> omega
      have HVb := Aside.mk hVb
      have HUb := Aside.mk hUb
      obtain ⟨X0, hX0, hX0z, hX0e⟩ : ∃ X : ByteArray, D4.s 0 = X ∧ X.size = 64 ∧ X.extract 0 5 = ⟨#[108, 101, 102, 116, 0]⟩ := ⟨_, rfl, L4.ok.z2 0, by rw [e0]; exact left_pad⟩
      obtain ⟨X8, hX8, hX8z, hX8e⟩ : ∃ X : ByteArray, D4.s 8 = X ∧ X.size = 64 ∧ X.extract 0 6 = ⟨#[114, 105, 103, 104, 116, 0]⟩ := ⟨_, rfl, L4.ok.z2 8, by rw [e8]; exact right_pad⟩
      have HX0 := Aside.mk hX0
      have HX8 := Aside.mk hX8
      have hb := Hb1.out
      clear ok10 n10 lv10 ok1 nn1 lv1 ok2 nn2 lv2 hD1 hD2 s1 s2 s3 hW1 hW2 hR1 hR2 L3 L4 e0 e8 n4 hX0 hX8 Hb1 hVb hUb
      go_wp2_with fail
      with_reducible refine (dev_new' 10 10 rfl (by omega) (by omega) _).mono ?_
      rintro e w3 ⟨bA, fA, mA, rfl, e1, e2, e3, dA, hbb⟩
      have kk := Keep.of_below (S := fun _ => False) hbb fun _ h _ => h
      replace H0 := Aside.mk (H0.out.keep kk id)
      replace H1 := Aside.mk (H1.out.keep kk id)
      have n0 : ¬ devS bA fA mA B := by unfold devS; omega
      have n1 : ¬ devS bA fA mA (B + 1) := by unfold devS; omega
      have hlow : ∀ k, devS bA fA mA k → B ≤ k := fun k q => by unfold devS at q; omega
      replace hb := hb.trans (hbb.mono (by omega))
      clear kk hbb e1 e2 e3 hl1
      go_wp2_with fail
      with_reducible refine (dev_write_ok bA fA mA _ 0 0 rfl (by rw [Hn.out.1]; omega) ⟨#[108, 101, 102, 116]⟩ (by decide) Hlv.out.1 _ dA).mono ?_
      rintro e w4 ⟨rfl, qA, hkk⟩
      replace hb := below_dv hb hkk hlow HBB.out
      replace H0 := Aside.mk (H0.out.keep hkk n0)
      replace H1 := Aside.mk (H1.out.keep hkk n1)
      rw [Hok1.out] at qA
      clear dA hkk
      go_wp2_with fail
      with_reducible refine (dev_write_ok bA fA mA _ 8 8 rfl (by rw [Hn.out.2.1]; omega) ⟨#[114, 105, 103, 104, 116]⟩ (by decide) Hlv.out.2.1 _ qA).mono ?_
      rintro e w5 ⟨rfl, dA, hkk⟩
      replace hb := below_dv hb hkk hlow HBB.out
      replace H0 := Aside.mk (H0.out.keep hkk n0)
      replace H1 := Aside.mk (H1.out.keep hkk n1)
      rw [Hok2.out] at dA
      clear qA hkk
      have c0 := H0.out.c0
      have c1 := H0.out.c1
      have c2 := H0.out.c2
      go_wp2_with fail
      with_reducible refine (area_writeB bA fA mA D2 D3 1 7 V si st S Hw1.out Hs.out (by omega) (by omega) HVb.out _ dA).mono ?_
      rintro e w6 ⟨rfl, qA, hkk⟩
      replace hb := below_dv hb hkk hlow HBB.out
      replace H0 := Aside.mk (H0.out.keep hkk n0)
      replace H1 := Aside.mk (H1.out.keep hkk n1)
      clear dA hkk c0 c1 c2
      go_wp2_with fail
      with_reducible refine (area_readB bA fA mA D3 1 7 V si st S Hr1.out (by omega) (by omega) _ qA).mono ?_
      rintro e w7 ⟨rfl, hbb⟩
      have kk : Keep (fun _ => False) w6 (w7.alloc (.cells #[.int .u64 si, .int .u64 st, .string S] 61)) := (Keep.of_below (S := fun _ => False) hbb fun _ h _ => h).alloc _
      have HP := Aside.mk (show SnpAt (w7.alloc (.cells #[.int .u64 si, .int .u64 st, .string S] 61)) w7.heap.size (.int .u64 si) (.int .u64 st) (.string S) from SnpAt.new rfl)
      replace H0 := Aside.mk (H0.out.keep kk id)
      replace H1 := Aside.mk (H1.out.keep kk id)
      have dA := qA.keep kk ⟨id, id, id⟩
      have nP : ¬ devS bA fA mA w7.heap.size := by have := qA.lt; have := hbb.size; unfold devS; omega
      have hBw := H0.out.lt
      replace hb := hb.trans (kk.below (below_sz hb HBB.out) fun _ q => q.elim)
      clear hbb kk qA hBw
      go_upto_region 17 with fail
      generalize (w7.alloc (.cells #[.int .u64 si, .int .u64 st, .string S] 61)) = w8 at *
      generalize w7.heap.size = P at *
      have c0 := H1.out.c0
      have c1 := H1.out.c1
      have c2 := H1.out.c2
      go_wp2_with fail
      with_reducible refine (area_writeB bA fA mA D3 D4 1 7 U ti tt T Hw2.out Ht.out (by omega) (by omega) HUb.out _ dA).mono ?_
      rintro e w9 ⟨rfl, qA, hkk⟩
      replace hb := below_dv hb hkk hlow HBB.out
      replace H0 := Aside.mk (H0.out.keep hkk n0)
      replace H1 := Aside.mk (H1.out.keep hkk n1)
      replace HP := Aside.mk (HP.out.keep hkk nP)
      clear dA hkk c0 c1 c2
      go_wp2_with fail
      with_reducible refine (area_readB bA fA mA D4 1 7 U ti tt T Hr2.out (by omega) (by omega) _ qA).mono ?_
      rintro e w10 ⟨rfl, hbb⟩
      have kk : Keep (fun _ => False) w9 (w10.alloc (.cells #[.int .u64 ti, .int .u64 tt, .string T] 61)) := (Keep.of_below (S := fun _ => False) hbb fun _ h _ => h).alloc _
      have HQ := Aside.mk (show SnpAt (w10.alloc (.cells #[.int .u64 ti, .int .u64 tt, .string T] 61)) w10.heap.size (.int .u64 ti) (.int .u64 tt) (.string T) from SnpAt.new rfl)
      replace H0 := Aside.mk (H0.out.keep kk id)
      replace H1 := Aside.mk (H1.out.keep kk id)
      replace HP := Aside.mk (HP.out.keep kk id)
      have dA := qA.keep kk ⟨id, id, id⟩
      replace hb := hb.trans (kk.below (below_sz hb HBB.out) fun _ q => q.elim)
      clear hbb kk qA
      go_upto_region 19 with fail
      generalize (w10.alloc (.cells #[.int .u64 ti, .int .u64 tt, .string T] 61)) = w11 at *
      generalize w10.heap.size = Q at *
      have hr0 : dread D4 0 = (X0, 0) := by have := Hlv.out.2.2.read (k := 0) (by rw [Hn.out.2.2]; omega); rw [HX0.out] at this; exact this
      have hr8 : dread D4 8 = (X8, 0) := by have := Hlv.out.2.2.read (k := 8) (by rw [Hn.out.2.2]; omega); rw [HX8.out] at this; exact this
      have HR0 := Aside.mk hr0
      have HR8 := Aside.mk hr8
      clear hr0 hr8
      go_wp2_with fail
      with_reducible refine (dev_read' bA fA mA _ 0 (by omega) X0 0 HR0.out _ dA).mono ?_
      rintro e w12 ⟨rfl, hbb⟩
      have kk := Keep.of_below (S := fun _ => False) hbb fun _ h _ => h
      replace H0 := Aside.mk (H0.out.keep kk id)
      replace H1 := Aside.mk (H1.out.keep kk id)
      replace HP := Aside.mk (HP.out.keep kk id)
      replace HQ := Aside.mk (HQ.out.keep kk id)
      have qA := dA.keep kk ⟨id, id, id⟩
      replace hb := hb.trans (kk.below (below_sz hb HBB.out) fun _ q => q.elim)
      clear hbb kk dA
      go_wp2_with fail
      with_reducible refine (dev_read' bA fA mA _ 8 (by omega) X8 0 HR8.out _ qA).mono ?_
      rintro e w13 ⟨rfl, hbb⟩
      have kk := Keep.of_below (S := fun _ => False) hbb fun _ h _ => h
      replace H0 := Aside.mk (H0.out.keep kk id)
      replace H1 := Aside.mk (H1.out.keep kk id)
      replace HP := Aside.mk (HP.out.keep kk id)
      replace HQ := Aside.mk (HQ.out.keep kk id)
      replace hb := hb.trans (kk.below (below_sz hb HBB.out) fun _ q => q.elim)
      clear hbb kk qA
      have c00 := H0.out.c0
      have c01 := H0.out.c1
      have c02 := H0.out.c2
      have c10 := H1.out.c0
      have c11 := H1.out.c1
      have c12 := H1.out.c2
      have p0 := HP.out.c0
      have p1 := HP.out.c1
      have p2 := HP.out.c2
      have q0 := HQ.out.c0
      have q1 := HQ.out.c1
      have q2 := HQ.out.c2
      have hXz0 : (5 : Int) ≤ (X0.size : Int) := by omega
      have hXz8 : (6 : Int) ≤ (X8.size : Int) := by omega
      clear hX0z hX8z
      go_wp2_with fail
      go_ret
      exact ⟨rfl, by rw [HBB.out]; exact hb⟩
end Go.Proofs.Ytlbnbmojgdoieaa
