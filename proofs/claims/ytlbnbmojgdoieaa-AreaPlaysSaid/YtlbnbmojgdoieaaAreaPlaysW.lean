/- AreaPlays: its walk. -/
import Derived.Test.YtlbnbmojgdoieaaArF
import Derived.Test.YtlbnbmojgdoieaaPair
import Derived.OpenShut
set_option maxRecDepth 16000
namespace Go.Pin
open Go.RowKit
set_option linter.unusedVariables false
set_option linter.unusedSimpArgs false
/-- Block g holds three cells. -/
structure TriAt (w : World) (g : Nat) (x y z : Value) : Prop where
  c0 : w.cell? ⟨g, 0, none⟩ = some x
  c1 : w.cell? ⟨g, 1, none⟩ = some y
  c2 : w.cell? ⟨g, 2, none⟩ = some z
theorem TriAt.keep {S : Nat → Prop} {a w : World} {g : Nat} {x y z : Value} (h : TriAt a g x y z) (hk : Keep S a w) (hn : ¬ S g) : TriAt w g x y z := ⟨hk.cell h.c0 hn, hk.cell h.c1 hn, hk.cell h.c2 hn⟩
theorem TriAt.set3 {w : World} {g : Nat} {x0 y0 z0 : Value} (h : TriAt w g x0 y0 z0) (x y z : Value) : TriAt (((w.setCell ⟨g, 0, none⟩ x).setCell ⟨g, 1, none⟩ y).setCell ⟨g, 2, none⟩ z) g x y z := by
  obtain ⟨a, b, c, _⟩ := set3_cells h.c0 h.c1 h.c2 x y z
  exact ⟨a, b, c⟩
theorem TriAt.set2 {w : World} {g : Nat} {x0 y0 z0 : Value} (h : TriAt w g x0 y0 z0) (z : Value) : TriAt (w.setCell ⟨g, 2, none⟩ z) g x0 y0 z :=
  ⟨(World.cell?_setCell_other _ _ _ _ (by simp)).trans h.c0, (World.cell?_setCell_other _ _ _ _ (by simp)).trans h.c1, World.cell?_setCell_same _ _ _ h.c2⟩
theorem TriAt.far {w : World} {g : Nat} {x y z : Value} (h : TriAt w g x y z) {p : Addr} (hp : p.block ≠ g) (v : Value) : TriAt (w.setCell p v) g x y z :=
  h.keep ((Keep.refl (fun k => k = p.block) w).setCell (.inl rfl) v) (fun q => hp q.symm)
theorem TriAt.lt {w : World} {g : Nat} {x y z : Value} (h : TriAt w g x y z) : g < w.heap.size := World.block_lt_of_cell? (a := ⟨g, 0, none⟩) _ h.c0
theorem TriAt.new {w : World} {t : Nat} {g : Nat} {x y z : Value} (hg : w.heap.size = g) : TriAt (w.alloc (.cells #[x, y, z] t)) g x y z := by
  subst hg
  exact ⟨World.cell?_alloc_new w _ _ 0, World.cell?_alloc_new w _ _ 1, World.cell?_alloc_new w _ _ 2⟩
theorem wrap_bounds (x : Int) : -9223372036854775808 ≤ wrap64 x ∧ wrap64 x ≤ 9223372036854775807 := by unfold wrap64; omega
end Go.Pin
namespace Go.Proofs.Ytlbnbmojgdoieaa
open Go.RowKit Go.Pin
set_option linter.unusedVariables false
set_option linter.unusedSimpArgs false
theorem ref_new' (k : Int) (n : Nat) (hk : k = (n : Int)) (h1 : 1 ≤ n) (h2 : n ≤ 4096) (w : World) :
    Calls Try.prog 29 #[.int .i64 k] w fun e w' => ∃ b N O V, e = .returned (.pointer (some ⟨b, 0, none⟩)) ∧ w.heap.size ≤ b ∧ w.heap.size ≤ N ∧ w.heap.size ≤ O ∧ w.heap.size ≤ V ∧ RefAt w' b N O V (dnew n) ∧ Below w.heap.size w w' := by
  subst hk; exact ref_new n h1 h2 w
theorem area_write' (b f m : Nat) (d : Dv) (a k v i t : Int) (x : ByteArray) (hs : (Snap.mk i t x).ok) (ha : -9223372036854775808 ≤ a ∧ a ≤ 9223372036854775807) (hk : -9223372036854775808 ≤ k ∧ k ≤ 9223372036854775807) (hv : -9223372036854775808 ≤ v ∧ v ≤ 9223372036854775807) (w : World) (h : DevAt w b f m d) :
    Calls Try.prog 43 #[.pointer (some ⟨b, 0, none⟩), .int .i64 a, .int .i64 k, .int .i64 v, .agg #[.int .u64 i, .int .u64 t, .string x]] w fun e w' => e = .returned (.int .i64 (awrite d a k v ⟨i, t, x⟩).1) ∧ DevAt w' b f m (awrite d a k v ⟨i, t, x⟩).2 ∧ Keep (devS b f m) w w' := area_write b f m d a k v ⟨i, t, x⟩ hs ha hk hv w h
theorem arearef_write' (r N O V : Nat) (d : Dv) (a k v i t : Int) (x : ByteArray) (hs : (Snap.mk i t x).ok) (ha : -9223372036854775808 ≤ a ∧ a ≤ 9223372036854775807) (hk : -9223372036854775808 ≤ k ∧ k ≤ 9223372036854775807) (hv : -9223372036854775808 ≤ v ∧ v ≤ 9223372036854775807) (w : World) (h : RefAt w r N O V d) :
    Calls Try.prog 45 #[.pointer (some ⟨r, 0, none⟩), .int .i64 a, .int .i64 k, .int .i64 v, .agg #[.int .u64 i, .int .u64 t, .string x]] w fun e w' => e = .returned (.int .i64 (awrite d a k v ⟨i, t, x⟩).1) ∧ RefAt w' r N O V (awrite d a k v ⟨i, t, x⟩).2 ∧ Keep (refS r N O V) w w' := arearef_write r N O V d a k v ⟨i, t, x⟩ hs ha hk hv w h
theorem area_ref' (i t : Int) (x : ByteArray) (w : World) :
    Calls Try.prog 37 #[.agg #[.int .u64 i, .int .u64 t, .string x]] w fun e w' => e = .returned (.agg #[.int .u64 i, .int .u64 t, .string x]) ∧ Below w.heap.size w w' := area_ref ⟨i, t, x⟩ w
set_option maxHeartbeats 6400000 in
set_option maxRecDepth 32000 in
theorem areaPlays_walk (A1 A2 A3 B1 B2 B3 : Int) (near : Bool) (si st : Int) (sd : ByteArray) (ti tt : Int) (td : ByteArray) (after : Int) (la : Option Addr) (ln lc : Nat) (w : World)
    (hA1 : -9223372036854775808 ≤ A1 ∧ A1 ≤ 9223372036854775807) (hA2 : -9223372036854775808 ≤ A2 ∧ A2 ≤ 9223372036854775807) (hA3 : -9223372036854775808 ≤ A3 ∧ A3 ≤ 9223372036854775807)
    (hB1 : -9223372036854775808 ≤ B1 ∧ B1 ≤ 9223372036854775807) (hB2 : -9223372036854775808 ≤ B2 ∧ B2 ≤ 9223372036854775807) (hB3 : -9223372036854775808 ≤ B3 ∧ B3 ≤ 9223372036854775807)
    (hsi : 0 ≤ si ∧ si ≤ 18446744073709551615) (hst : 0 ≤ st ∧ st ≤ 18446744073709551615) (hsd : sd.size ≤ 140737488351232) (hti : 0 ≤ ti ∧ ti ≤ 18446744073709551615) (htt : 0 ≤ tt ∧ tt ≤ 18446744073709551615) (htd : td.size ≤ 140737488351232)
    (hafter : -9223372036854775808 ≤ after ∧ after ≤ 9223372036854775807) (hL : isSlice [isInt .i64] w (.slice la ln lc)) :
    Calls Try.prog 13 #[.agg #[.int .i64 A1, .int .i64 A2, .int .i64 A3], .agg #[.int .i64 B1, .int .i64 B2, .int .i64 B3], .bool near, .agg #[.int .u64 si, .int .u64 st, .string sd], .agg #[.int .u64 ti, .int .u64 tt, .string td], .int .i64 after, .slice la ln lc] w fun e w' => e = .returned (.bool true) ∧ Below w.heap.size w w' := by
  have HL := Aside.mk hL
  have HA := Aside.mk (And.intro hA1 (And.intro hA2 hA3))
  have HB := Aside.mk (And.intro hB1 (And.intro hB2 hB3))
  have HS := Aside.mk (And.intro hsi hst)
  have HT := Aside.mk (And.intro hti htt)
  clear hL hA1 hA2 hA3 hB1 hB2 hB3 hsi hst hti htt
  have hse := str_beq
  have z1 : (w.alloc (.cells #[.int .i64 A1, .int .i64 A2, .int .i64 A3] 82)).heap.size = w.heap.size + 1 := by simp
  have z2 : ((w.alloc (.cells #[.int .i64 A1, .int .i64 A2, .int .i64 A3] 82)).alloc (.cells #[.int .i64 B1, .int .i64 B2, .int .i64 B3] 82)).heap.size = w.heap.size + 1 + 1 := by simp
  have z3 : (((w.alloc (.cells #[.int .i64 A1, .int .i64 A2, .int .i64 A3] 82)).alloc (.cells #[.int .i64 B1, .int .i64 B2, .int .i64 B3] 82)).alloc (.cells #[.int .u64 si, .int .u64 st, .string sd] 61)).heap.size = w.heap.size + 1 + 1 + 1 := by simp
  have h0 : TriAt ((((w.alloc (.cells #[.int .i64 A1, .int .i64 A2, .int .i64 A3] 82)).alloc (.cells #[.int .i64 B1, .int .i64 B2, .int .i64 B3] 82)).alloc (.cells #[.int .u64 si, .int .u64 st, .string sd] 61)).alloc (.cells #[.int .u64 ti, .int .u64 tt, .string td] 61)) w.heap.size (.int .i64 A1) (.int .i64 A2) (.int .i64 A3) := (TriAt.new rfl).keep ((((Keep.refl (fun _ => False) (w.alloc (.cells #[.int .i64 A1, .int .i64 A2, .int .i64 A3] 82))).alloc _).alloc _).alloc _) id
  have h1 : TriAt ((((w.alloc (.cells #[.int .i64 A1, .int .i64 A2, .int .i64 A3] 82)).alloc (.cells #[.int .i64 B1, .int .i64 B2, .int .i64 B3] 82)).alloc (.cells #[.int .u64 si, .int .u64 st, .string sd] 61)).alloc (.cells #[.int .u64 ti, .int .u64 tt, .string td] 61)) (w.heap.size + 1) (.int .i64 B1) (.int .i64 B2) (.int .i64 B3) := (TriAt.new z1).keep (((Keep.refl (fun _ => False) ((w.alloc (.cells #[.int .i64 A1, .int .i64 A2, .int .i64 A3] 82)).alloc (.cells #[.int .i64 B1, .int .i64 B2, .int .i64 B3] 82))).alloc _).alloc _) id
  have h2 : TriAt ((((w.alloc (.cells #[.int .i64 A1, .int .i64 A2, .int .i64 A3] 82)).alloc (.cells #[.int .i64 B1, .int .i64 B2, .int .i64 B3] 82)).alloc (.cells #[.int .u64 si, .int .u64 st, .string sd] 61)).alloc (.cells #[.int .u64 ti, .int .u64 tt, .string td] 61)) (w.heap.size + 1 + 1) (.int .u64 si) (.int .u64 st) (.string sd) := (TriAt.new z2).keep ((Keep.refl (fun _ => False) (((w.alloc (.cells #[.int .i64 A1, .int .i64 A2, .int .i64 A3] 82)).alloc (.cells #[.int .i64 B1, .int .i64 B2, .int .i64 B3] 82)).alloc (.cells #[.int .u64 si, .int .u64 st, .string sd] 61))).alloc _) id
  have h3 : TriAt ((((w.alloc (.cells #[.int .i64 A1, .int .i64 A2, .int .i64 A3] 82)).alloc (.cells #[.int .i64 B1, .int .i64 B2, .int .i64 B3] 82)).alloc (.cells #[.int .u64 si, .int .u64 st, .string sd] 61)).alloc (.cells #[.int .u64 ti, .int .u64 tt, .string td] 61)) (w.heap.size + 1 + 1 + 1) (.int .u64 ti) (.int .u64 tt) (.string td) := TriAt.new z3
  have g0 : ∀ i, ((((w.alloc (.cells #[.int .i64 A1, .int .i64 A2, .int .i64 A3] 82)).alloc (.cells #[.int .i64 B1, .int .i64 B2, .int .i64 B3] 82)).alloc (.cells #[.int .u64 si, .int .u64 st, .string sd] 61)).alloc (.cells #[.int .u64 ti, .int .u64 tt, .string td] 61)).frozen? ⟨w.heap.size, i, none⟩ = false := fun i => by rw [((((Keep.refl (fun _ => False) (w.alloc (.cells #[.int .i64 A1, .int .i64 A2, .int .i64 A3] 82))).alloc _).alloc _).alloc _).frozen (p := ⟨w.heap.size, i, none⟩) (by show w.heap.size < _; omega) id]; exact World.frozen?_alloc_at _ _ _ _ rfl
  have g1 : ∀ i, ((((w.alloc (.cells #[.int .i64 A1, .int .i64 A2, .int .i64 A3] 82)).alloc (.cells #[.int .i64 B1, .int .i64 B2, .int .i64 B3] 82)).alloc (.cells #[.int .u64 si, .int .u64 st, .string sd] 61)).alloc (.cells #[.int .u64 ti, .int .u64 tt, .string td] 61)).frozen? ⟨w.heap.size + 1, i, none⟩ = false := fun i => by rw [(((Keep.refl (fun _ => False) ((w.alloc (.cells #[.int .i64 A1, .int .i64 A2, .int .i64 A3] 82)).alloc (.cells #[.int .i64 B1, .int .i64 B2, .int .i64 B3] 82))).alloc _).alloc _).frozen (p := ⟨w.heap.size + 1, i, none⟩) (by show w.heap.size + 1 < _; omega) id]; exact World.frozen?_alloc_at _ _ _ _ z1.symm
  have g2 : ∀ i, ((((w.alloc (.cells #[.int .i64 A1, .int .i64 A2, .int .i64 A3] 82)).alloc (.cells #[.int .i64 B1, .int .i64 B2, .int .i64 B3] 82)).alloc (.cells #[.int .u64 si, .int .u64 st, .string sd] 61)).alloc (.cells #[.int .u64 ti, .int .u64 tt, .string td] 61)).frozen? ⟨w.heap.size + 1 + 1, i, none⟩ = false := fun i => by rw [((Keep.refl (fun _ => False) (((w.alloc (.cells #[.int .i64 A1, .int .i64 A2, .int .i64 A3] 82)).alloc (.cells #[.int .i64 B1, .int .i64 B2, .int .i64 B3] 82)).alloc (.cells #[.int .u64 si, .int .u64 st, .string sd] 61))).alloc _).frozen (p := ⟨w.heap.size + 1 + 1, i, none⟩) (by show w.heap.size + 1 + 1 < _; omega) id]; exact World.frozen?_alloc_at _ _ _ _ z2.symm
  have g3 : ∀ i, ((((w.alloc (.cells #[.int .i64 A1, .int .i64 A2, .int .i64 A3] 82)).alloc (.cells #[.int .i64 B1, .int .i64 B2, .int .i64 B3] 82)).alloc (.cells #[.int .u64 si, .int .u64 st, .string sd] 61)).alloc (.cells #[.int .u64 ti, .int .u64 tt, .string td] 61)).frozen? ⟨w.heap.size + 1 + 1 + 1, i, none⟩ = false := fun i => World.frozen?_alloc_at _ _ _ _ z3.symm
  have hbW : Below w.heap.size w ((((w.alloc (.cells #[.int .i64 A1, .int .i64 A2, .int .i64 A3] 82)).alloc (.cells #[.int .i64 B1, .int .i64 B2, .int .i64 B3] 82)).alloc (.cells #[.int .u64 si, .int .u64 st, .string sd] 61)).alloc (.cells #[.int .u64 ti, .int .u64 tt, .string td] 61)) := ((((Below.refl _ w).alloc (Nat.le_refl _) _).alloc (by omega) _).alloc (by omega) _).alloc (by omega) _
  have H0 := Aside.mk h0
  have H1 := Aside.mk h1
  have H2 := Aside.mk h2
  have H3 := Aside.mk h3
  have G0 := Aside.mk g0
  have G1 := Aside.mk g1
  have G2 := Aside.mk g2
  have G3 := Aside.mk g3
  have HbW := Aside.mk hbW
  clear z1 z2 z3 h0 h1 h2 h3 g0 g1 g2 g3 hbW
  go_enter Try.func13, Try.ntmps13
  go_wp2_with fail
  with_reducible refine (area_examples _).mono ?_
  rintro e w1 ⟨rfl, hb1⟩
  go_upto_if 31 with fail
  generalize ((((w.alloc (.cells #[.int .i64 A1, .int .i64 A2, .int .i64 A3] 82)).alloc (.cells #[.int .i64 B1, .int .i64 B2, .int .i64 B3] 82)).alloc (.cells #[.int .u64 si, .int .u64 st, .string sd] 61)).alloc (.cells #[.int .u64 ti, .int .u64 tt, .string td] 61)) = w0 at *
  generalize hBB : w.heap.size = B at *
  have HBB := Aside.mk hBB
  clear hBB
  have kk : Keep (fun _ => False) w0 w1 := Keep.of_below hb1 fun _ h _ => h
  replace H0 := Aside.mk (H0.out.keep kk id)
  replace H1 := Aside.mk (H1.out.keep kk id)
  replace H2 := Aside.mk (H2.out.keep kk id)
  have l3 := H3.out.lt
  replace G0 := Aside.mk (show ∀ i, w1.frozen? ⟨B, i, none⟩ = false from fun i => by rw [kk.frozen (p := ⟨B, i, none⟩) (by show B < _; omega) id]; exact G0.out i)
  replace G1 := Aside.mk (show ∀ i, w1.frozen? ⟨B + 1, i, none⟩ = false from fun i => by rw [kk.frozen (p := ⟨B + 1, i, none⟩) (by show B + 1 < _; omega) id]; exact G1.out i)
  replace G2 := Aside.mk (show ∀ i, w1.frozen? ⟨B + 1 + 1, i, none⟩ = false from fun i => by rw [kk.frozen (p := ⟨B + 1 + 1, i, none⟩) (by show B + 1 + 1 < _; omega) id]; exact G2.out i)
  replace G3 := Aside.mk (show ∀ i, w1.frozen? ⟨B + 1 + 1 + 1, i, none⟩ = false from fun i => by rw [kk.frozen (p := ⟨B + 1 + 1 + 1, i, none⟩) (by show B + 1 + 1 + 1 < _; omega) id]; exact G3.out i)
  replace H3 := Aside.mk (H3.out.keep kk id)
  have hl1 : B + 1 + 1 + 1 < w1.heap.size := Nat.lt_of_lt_of_le l3 hb1.size
  have Hb1 := Aside.mk (HbW.out.trans (hb1.mono (by omega)))
  clear hb1 kk l3 HbW
  go_cut [] (fun wx => ∃ (a1 a2 a3 b1 b2 b3 : Int) (s t : Snap), (-9223372036854775808 ≤ a1 ∧ a1 ≤ 9223372036854775807) ∧ (-9223372036854775808 ≤ a2 ∧ a2 ≤ 9223372036854775807) ∧ (-9223372036854775808 ≤ a3 ∧ a3 ≤ 9223372036854775807) ∧ (-9223372036854775808 ≤ b1 ∧ b1 ≤ 9223372036854775807) ∧ (-9223372036854775808 ≤ b2 ∧ b2 ≤ 9223372036854775807) ∧ (-9223372036854775808 ≤ b3 ∧ b3 ≤ 9223372036854775807) ∧ s.ok ∧ t.ok ∧
    TriAt wx B (.int .i64 a1) (.int .i64 a2) (.int .i64 a3) ∧ TriAt wx (B + 1) (.int .i64 b1) (.int .i64 b2) (.int .i64 b3) ∧ TriAt wx (B + 1 + 1) (.int .u64 s.i) (.int .u64 s.t) (.string s.d) ∧ TriAt wx (B + 1 + 1 + 1) (.int .u64 t.i) (.int .u64 t.t) (.string t.d) ∧ Below B w wx)
  case first =>
    cases near with
    | false =>
      go_wp2_with fail
      go_meet
      exact ⟨A1, A2, A3, B1, B2, B3, ⟨si, st, sd⟩, ⟨ti, tt, td⟩, HA.out.1, HA.out.2.1, HA.out.2.2, HB.out.1, HB.out.2.1, HB.out.2.2, ⟨HS.out.1.1, HS.out.1.2, HS.out.2.1, HS.out.2.2, by show sd.size ≤ _; omega⟩, ⟨HT.out.1.1, HT.out.1.2, HT.out.2.1, HT.out.2.2, by show td.size ≤ _; omega⟩, H0.out, H1.out, H2.out, H3.out, Hb1.out⟩
    | true =>
      have c00 := H0.out.c0
      have c01 := H0.out.c1
      have c02 := H0.out.c2
      have c10 := H1.out.c0
      have c11 := H1.out.c1
      have c12 := H1.out.c2
      have c22 := H2.out.c2
      have c32 := H3.out.c2
      have f00 := G0.out 0
      have f01 := G0.out 1
      have f02 := G0.out 2
      have f10 := G1.out 0
      have f11 := G1.out 1
      have f12 := G1.out 2
      have f22 := G2.out 2
      have f32 := G3.out 2
      obtain ⟨ms, hms, hms1, hms2⟩ : ∃ m : Nat, min (sd.size : Int) 300 = (m : Int) ∧ m ≤ 300 ∧ m ≤ sd.size := ⟨min sd.size 300, by omega, by omega, by omega⟩
      obtain ⟨mt, hmt, hmt1, hmt2⟩ : ∃ m : Nat, min (td.size : Int) 300 = (m : Int) ∧ m ≤ 300 ∧ m ≤ td.size := ⟨min td.size 300, by omega, by omega, by omega⟩
      obtain ⟨S, hS, hSz⟩ : ∃ X, sd.extract 0 ms = X ∧ X.size ≤ 300 := ⟨_, rfl, by rw [ByteArray.size_extract]; omega⟩
      obtain ⟨T, hT, hTz⟩ : ∃ X, td.extract 0 mt = X ∧ X.size ≤ 300 := ⟨_, rfl, by rw [ByteArray.size_extract]; omega⟩
      go_wp2_with fail
      go_meet
      refine ⟨_, _, _, _, _, _, ⟨si, st, S⟩, ⟨ti, tt, T⟩, wrap_bounds _, wrap_bounds _, wrap_bounds _, wrap_bounds _, wrap_bounds _, wrap_bounds _, ⟨HS.out.1.1, HS.out.1.2, HS.out.2.1, HS.out.2.2, by show S.size ≤ _; omega⟩, ⟨HT.out.1.1, HT.out.1.2, HT.out.2.1, HT.out.2.2, by show T.size ≤ _; omega⟩,
        (((((H0.out.set3 _ _ _).far (by show B + 1 ≠ B; omega) _).far (by show B + 1 ≠ B; omega) _).far (by show B + 1 ≠ B; omega) _).far (by show B + 1 + 1 ≠ B; omega) _).far (by show B + 1 + 1 + 1 ≠ B; omega) _,
        (((((H1.out.far (by show B ≠ B + 1; omega) _).far (by show B ≠ B + 1; omega) _).far (by show B ≠ B + 1; omega) _).set3 _ _ _).far (by show B + 1 + 1 ≠ B + 1; omega) _).far (by show B + 1 + 1 + 1 ≠ B + 1; omega) _,
        (((((((H2.out.far (by show B ≠ B + 1 + 1; omega) _).far (by show B ≠ B + 1 + 1; omega) _).far (by show B ≠ B + 1 + 1; omega) _).far (by show B + 1 ≠ B + 1 + 1; omega) _).far (by show B + 1 ≠ B + 1 + 1; omega) _).far (by show B + 1 ≠ B + 1 + 1; omega) _).set2 _).far (by show B + 1 + 1 + 1 ≠ B + 1 + 1; omega) _,
        (((((((H3.out.far (by show B ≠ B + 1 + 1 + 1; omega) _).far (by show B ≠ B + 1 + 1 + 1; omega) _).far (by show B ≠ B + 1 + 1 + 1; omega) _).far (by show B + 1 ≠ B + 1 + 1 + 1; omega) _).far (by show B + 1 ≠ B + 1 + 1 + 1; omega) _).far (by show B + 1 ≠ B + 1 + 1 + 1; omega) _).far (by show B + 1 + 1 ≠ B + 1 + 1 + 1; omega) _).set2 _, ?_⟩
      exact ((below_set3 (below_set3 Hb1.out (Nat.le_refl _) _ _ _) (by omega) _ _ _).setCell (p := ⟨B + 1 + 1, 2, none⟩) (by show B ≤ B + 1 + 1; omega) _).setCell (p := ⟨B + 1 + 1 + 1, 2, none⟩) (by show B ≤ B + 1 + 1 + 1; omega) _
  case rest =>
    clear H0 H1 H2 H3 G0 G1 G2 G3 HA HB HS HT Hb1 hl1
    obtain ⟨a1, a2, a3, b1, b2, b3, ⟨i1, t1, x1⟩, ⟨i2, t2, x2⟩, ha1, ha2, ha3, hb1, hb2, hb3, hs, ht, h0, h1, h2, h3, hb⟩ := hcut
    have Ha1 := Aside.mk ha1
    have Ha2 := Aside.mk ha2
    have Ha3 := Aside.mk ha3
    have Hb1 := Aside.mk hb1
    have Hb2 := Aside.mk hb2
    have Hb3 := Aside.mk hb3
    replace h2 : TriAt wc (B + 1 + 1) (.int .u64 i1) (.int .u64 t1) (.string x1) := h2
    replace h3 : TriAt wc (B + 1 + 1 + 1) (.int .u64 i2) (.int .u64 t2) (.string x2) := h3
    have Hs := Aside.mk hs
    have Ht := Aside.mk ht
    have H0 := Aside.mk h0
    have H1 := Aside.mk h1
    have H2 := Aside.mk h2
    have H3 := Aside.mk h3
    have l3 := h3.lt
    have hB := Nat.le_trans (Nat.le_add_right B 3) (Nat.le_of_lt l3)
    clear ha1 ha2 ha3 hb1 hb2 hb3 hs ht h0 h1 h2 h3
    go_wp2_with fail
    with_reducible refine (dev_new' 10 10 rfl (by omega) (by omega) _).mono ?_
    rintro e w2 ⟨b, f, m, rfl, e1, e2, e3, hd2, hb2⟩
    have Hd2 := Aside.mk hd2
    have k2 := Keep.of_below (S := fun _ => False) hb2 fun _ h _ => h
    replace H0 := Aside.mk (H0.out.keep k2 id)
    replace H1 := Aside.mk (H1.out.keep k2 id)
    replace H2 := Aside.mk (H2.out.keep k2 id)
    replace H3 := Aside.mk (H3.out.keep k2 id)
    replace hb := hb.trans (hb2.mono (by omega))
    have hB2 := hb2.size
    have l2 := hd2.lt
    clear hb2 hd2 k2
    go_wp2_with fail
    with_reducible refine (ref_new' 10 10 rfl (by omega) (by omega) _).mono ?_
    rintro e w3 ⟨r, N, O, V, rfl, e4, e5, e6, e7, hr3, hb3⟩
    have hp : Pair w3 (B + 4) b f m r N O V (dnew 10) := by
      refine ⟨Hd2.out.below hb3, hr3, ?_, ?_, ?_⟩
      · intro k q1 q2
        unfold devS at q1
        unfold refS at q2
        omega
      · intro k q1
        unfold devS at q1
        omega
      · intro k q1
        unfold refS at q1
        omega
    have Hp := Aside.mk hp
    have k3 := Keep.of_below (S := fun _ => False) hb3 fun _ h _ => h
    replace H0 := Aside.mk (H0.out.keep k3 id)
    replace H1 := Aside.mk (H1.out.keep k3 id)
    replace H2 := Aside.mk (H2.out.keep k3 id)
    replace H3 := Aside.mk (H3.out.keep k3 id)
    replace hb := hb.trans (hb3.mono (by omega))
    have hB3 : B + 4 ≤ w3.heap.size := by have := hb3.size; omega
    have hd10 : (dnew 10).n = 10 := dnew_n 10
    generalize dnew 10 = D0 at *
    clear hb3 hr3 hp k3 e1 e2 e3 e4 e5 e6 e7 Hd2 l2 hB2 l3 hB
    have Nd := Aside.mk (show ∀ j, j < B + 4 → ¬ devS b f m j from fun j hj q => by have := Hp.out.low1 j q; omega)
    have Nr := Aside.mk (show ∀ j, j < B + 4 → ¬ refS r N O V j from fun j hj q => by have := Hp.out.low2 j q; omega)
    go_upto_region 13 with fail
    have c0 := H0.out.c0
    have c1 := H0.out.c1
    have c2 := H0.out.c2
    have c3 := H2.out.c0
    have c4 := H2.out.c1
    have c5 := H2.out.c2
    go_region_held3 (fun w' => w'.cell? ⟨B, 0, none⟩ = some (.int .i64 a1) ∧ w'.cell? ⟨B, 1, none⟩ = some (.int .i64 a2) ∧ w'.cell? ⟨B, 2, none⟩ = some (.int .i64 a3) ∧ w'.cell? ⟨B + 1 + 1, 0, none⟩ = some (.int .u64 i1) ∧ w'.cell? ⟨B + 1 + 1, 1, none⟩ = some (.int .u64 t1) ∧ w'.cell? ⟨B + 1 + 1, 2, none⟩ = some (.string x1)) (first | go_keep | exact hqa | exact hqb | exact hqc) (first
      | (go_at_call 43
         with_reducible refine (area_write' b f m D0 a1 a2 a3 i1 t1 x1 Hs.out Ha1.out Ha2.out Ha3.out _ Hp.out.dev.drew).mono ?_
         rintro e w4 ⟨rfl, hd1, hk1⟩
         have ka := Keep.trans ((Keep.refl (devS b f m) w3).drew) hk1
         have hqa := And.intro (ka.cell c0 (Nd.out _ (by show B < B + 4; omega))) (And.intro (ka.cell c1 (Nd.out _ (by show B < B + 4; omega))) (And.intro (ka.cell c2 (Nd.out _ (by show B < B + 4; omega))) (And.intro (ka.cell c3 (Nd.out _ (by show B + 1 + 1 < B + 4; omega))) (And.intro (ka.cell c4 (Nd.out _ (by show B + 1 + 1 < B + 4; omega))) (ka.cell c5 (Nd.out _ (by show B + 1 + 1 < B + 4; omega)))))))
         have Hd1 := Aside.mk hd1
         have Hr1 := Aside.mk (ref_off Hp.out.ref ka fun k q1 q2 => Hp.out.apart k q2 q1)
         have Ka := Aside.mk ka
         clear hd1 hk1 ka)
      | (go_at_call 37
         with_reducible refine (area_ref' i1 t1 x1 _).mono ?_
         rintro e w5 ⟨rfl, hbr⟩
         have kb := Keep.of_below (S := fun _ => False) hbr fun _ h _ => h
         have hqb := And.intro (kb.cell hqa.1 id) (And.intro (kb.cell hqa.2.1 id) (And.intro (kb.cell hqa.2.2.1 id) (And.intro (kb.cell hqa.2.2.2.1 id) (And.intro (kb.cell hqa.2.2.2.2.1 id) (kb.cell hqa.2.2.2.2.2 id)))))
         have Hd2 := Aside.mk (Hd1.out.below hbr)
         have Hr2 := Aside.mk (Hr1.out.below hbr)
         have Kb := Aside.mk kb
         clear hbr kb)
      | (go_at_call 45
         with_reducible refine (arearef_write' r N O V D0 a1 a2 a3 i1 t1 x1 Hs.out Ha1.out Ha2.out Ha3.out _ Hr2.out).mono ?_
         rintro e w6 ⟨rfl, hr3, hk3⟩
         have hqc := And.intro (hk3.cell hqb.1 (Nr.out _ (by show B < B + 4; omega))) (And.intro (hk3.cell hqb.2.1 (Nr.out _ (by show B < B + 4; omega))) (And.intro (hk3.cell hqb.2.2.1 (Nr.out _ (by show B < B + 4; omega))) (And.intro (hk3.cell hqb.2.2.2.1 (Nr.out _ (by show B + 1 + 1 < B + 4; omega))) (And.intro (hk3.cell hqb.2.2.2.2.1 (Nr.out _ (by show B + 1 + 1 < B + 4; omega))) (hk3.cell hqb.2.2.2.2.2 (Nr.out _ (by show B + 1 + 1 < B + 4; omega)))))))
         have Hr3 := Aside.mk hr3
         have Kc := Aside.mk hk3
         clear hr3 hk3))
    have kt : Keep (fun j => B + 4 ≤ j) w3 w6 := ((Ka.out.mono Hp.out.low1).trans (Kb.out.mono fun _ q => q.elim)).trans (Kc.out.mono Hp.out.low2)
    obtain ⟨RR, hRR⟩ : ∃ RR, awrite D0 a1 a2 a3 ⟨i1, t1, x1⟩ = RR := ⟨_, rfl⟩
    have hdx := dev_off Hd2.out Kc.out Hp.out.apart
    have hrx := Hr3.out
    rw [hRR] at hdx hrx ⊢
    obtain ⟨cd1, D1⟩ := RR
    have Hp6 := Aside.mk (show Pair w6 (B + 4) b f m r N O V D1 from ⟨hdx, hrx, Hp.out.apart, Hp.out.low1, Hp.out.low2⟩)
    replace H0 := Aside.mk (H0.out.keep kt (by show ¬ (B + 4 ≤ B); omega))
    replace H1 := Aside.mk (H1.out.keep kt (by show ¬ (B + 4 ≤ B + 1); omega))
    replace H2 := Aside.mk (H2.out.keep kt (by show ¬ (B + 4 ≤ B + 1 + 1); omega))
    replace H3 := Aside.mk (H3.out.keep kt (by show ¬ (B + 4 ≤ B + 1 + 1 + 1); omega))
    replace hb := hb.trans (kt.below (by omega) fun j hj => by omega)
    have hB6 : B + 4 ≤ w6.heap.size := Nat.le_trans hB3 kt.size
    have hcc : (cd1 == cd1) = true := by simp
    clear kt hRR hdx hrx c0 c1 c2 c3 c4 c5 hqa hqb hqc Ka Kb Kc Hd1 Hd2 Hr1 Hr2 Hr3 Hp
    go_wp2_with fail
    with_reducible refine (dev_flush b f m D1 _ Hp6.out.dev).mono ?_
    rintro e w7 ⟨rfl, hd7, hk7⟩
    have Hd7 := Aside.mk hd7
    have Hr7 := Aside.mk (ref_off Hp6.out.ref hk7 fun k q1 q2 => Hp6.out.apart k q2 q1)
    have Hk7 := Aside.mk hk7
    clear hd7 hk7
    go_wp2_with fail
    with_reducible refine (ref_flush r N O V D1 _ Hr7.out).mono ?_
    rintro e w8 ⟨rfl, hr8, hk8⟩
    have Hp8 := Aside.mk (Hp6.out.step Hd7.out Hk7.out hr8 hk8)
    have kt : Keep (fun j => B + 4 ≤ j) w6 w8 := (Hk7.out.mono Hp6.out.low1).trans (hk8.mono Hp6.out.low2)
    replace H0 := Aside.mk (H0.out.keep kt (by show ¬ (B + 4 ≤ B); omega))
    replace H1 := Aside.mk (H1.out.keep kt (by show ¬ (B + 4 ≤ B + 1); omega))
    replace H2 := Aside.mk (H2.out.keep kt (by show ¬ (B + 4 ≤ B + 1 + 1); omega))
    replace H3 := Aside.mk (H3.out.keep kt (by show ¬ (B + 4 ≤ B + 1 + 1 + 1); omega))
    replace hb := hb.trans (kt.below (by omega) fun j hj => by omega)
    have hB8 : B + 4 ≤ w8.heap.size := Nat.le_trans hB6 kt.size
    clear kt hr8 hk8 Hd7 Hr7 Hk7 Hp6
    obtain ⟨RR, hRR⟩ : ∃ RR, dflush D1 = RR := ⟨_, rfl⟩
    rw [hRR] at Hp8 ⊢
    obtain ⟨cd2, D2⟩ := RR
    have hcc2 : (cd2 == cd2) = true := by simp
    clear hRR
    go_wp2_with fail
    with_reducible refine (dev_arm b f m D2 after hafter _ Hp8.out.dev).mono ?_
    rintro e w9 ⟨rfl, hd9, hk9⟩
    have Hd9 := Aside.mk hd9
    have Hr9 := Aside.mk (ref_off Hp8.out.ref hk9 fun k q1 q2 => Hp8.out.apart k q2 q1)
    have Hk9 := Aside.mk hk9
    clear hd9 hk9
    go_wp2_with fail
    with_reducible refine (ref_arm r N O V D2 after hafter _ Hr9.out).mono ?_
    rintro e w10 ⟨rfl, hr10, hk10⟩
    have Hp10 := Aside.mk (Hp8.out.step Hd9.out Hk9.out hr10 hk10)
    have kt : Keep (fun j => B + 4 ≤ j) w8 w10 := (Hk9.out.mono Hp8.out.low1).trans (hk10.mono Hp8.out.low2)
    replace H0 := Aside.mk (H0.out.keep kt (by show ¬ (B + 4 ≤ B); omega))
    replace H1 := Aside.mk (H1.out.keep kt (by show ¬ (B + 4 ≤ B + 1); omega))
    replace H2 := Aside.mk (H2.out.keep kt (by show ¬ (B + 4 ≤ B + 1 + 1); omega))
    replace H3 := Aside.mk (H3.out.keep kt (by show ¬ (B + 4 ≤ B + 1 + 1 + 1); omega))
    replace hb := hb.trans (kt.below (by omega) fun j hj => by omega)
    have hB10 : B + 4 ≤ w10.heap.size := Nat.le_trans hB8 kt.size
    clear kt hr10 hk10 Hd9 Hr9 Hk9 Hp8
    generalize darm D2 after = D3 at *
    go_upto_region 17 with fail
    have c0 := H1.out.c0
    have c1 := H1.out.c1
    have c2 := H1.out.c2
    have c3 := H3.out.c0
    have c4 := H3.out.c1
    have c5 := H3.out.c2
    go_region_held3 (fun w' => w'.cell? ⟨B + 1, 0, none⟩ = some (.int .i64 b1) ∧ w'.cell? ⟨B + 1, 1, none⟩ = some (.int .i64 b2) ∧ w'.cell? ⟨B + 1, 2, none⟩ = some (.int .i64 b3) ∧ w'.cell? ⟨B + 1 + 1 + 1, 0, none⟩ = some (.int .u64 i2) ∧ w'.cell? ⟨B + 1 + 1 + 1, 1, none⟩ = some (.int .u64 t2) ∧ w'.cell? ⟨B + 1 + 1 + 1, 2, none⟩ = some (.string x2)) (first | go_keep | exact hqa | exact hqb | exact hqc) (first
      | (go_at_call 43
         with_reducible refine (area_write' b f m D3 b1 b2 b3 i2 t2 x2 Ht.out Hb1.out Hb2.out Hb3.out _ Hp10.out.dev.drew).mono ?_
         rintro e w11 ⟨rfl, hd1, hk1⟩
         have ka := Keep.trans ((Keep.refl (devS b f m) w10).drew) hk1
         have hqa := And.intro (ka.cell c0 (Nd.out _ (by show B + 1 < B + 4; omega))) (And.intro (ka.cell c1 (Nd.out _ (by show B + 1 < B + 4; omega))) (And.intro (ka.cell c2 (Nd.out _ (by show B + 1 < B + 4; omega))) (And.intro (ka.cell c3 (Nd.out _ (by show B + 1 + 1 + 1 < B + 4; omega))) (And.intro (ka.cell c4 (Nd.out _ (by show B + 1 + 1 + 1 < B + 4; omega))) (ka.cell c5 (Nd.out _ (by show B + 1 + 1 + 1 < B + 4; omega)))))))
         have Hd1 := Aside.mk hd1
         have Hr1 := Aside.mk (ref_off Hp10.out.ref ka fun k q1 q2 => Hp10.out.apart k q2 q1)
         have Ka := Aside.mk ka
         clear hd1 hk1 ka)
      | (go_at_call 37
         with_reducible refine (area_ref' i2 t2 x2 _).mono ?_
         rintro e w12 ⟨rfl, hbr⟩
         have kb := Keep.of_below (S := fun _ => False) hbr fun _ h _ => h
         have hqb := And.intro (kb.cell hqa.1 id) (And.intro (kb.cell hqa.2.1 id) (And.intro (kb.cell hqa.2.2.1 id) (And.intro (kb.cell hqa.2.2.2.1 id) (And.intro (kb.cell hqa.2.2.2.2.1 id) (kb.cell hqa.2.2.2.2.2 id)))))
         have Hd2 := Aside.mk (Hd1.out.below hbr)
         have Hr2 := Aside.mk (Hr1.out.below hbr)
         have Kb := Aside.mk kb
         clear hbr kb)
      | (go_at_call 45
         with_reducible refine (arearef_write' r N O V D3 b1 b2 b3 i2 t2 x2 Ht.out Hb1.out Hb2.out Hb3.out _ Hr2.out).mono ?_
         rintro e w13 ⟨rfl, hr3, hk3⟩
         have hqc := And.intro (hk3.cell hqb.1 (Nr.out _ (by show B + 1 < B + 4; omega))) (And.intro (hk3.cell hqb.2.1 (Nr.out _ (by show B + 1 < B + 4; omega))) (And.intro (hk3.cell hqb.2.2.1 (Nr.out _ (by show B + 1 < B + 4; omega))) (And.intro (hk3.cell hqb.2.2.2.1 (Nr.out _ (by show B + 1 + 1 + 1 < B + 4; omega))) (And.intro (hk3.cell hqb.2.2.2.2.1 (Nr.out _ (by show B + 1 + 1 + 1 < B + 4; omega))) (hk3.cell hqb.2.2.2.2.2 (Nr.out _ (by show B + 1 + 1 + 1 < B + 4; omega)))))))
         have Hr3 := Aside.mk hr3
         have Kc := Aside.mk hk3
         clear hr3 hk3))
    have kt : Keep (fun j => B + 4 ≤ j) w10 w13 := ((Ka.out.mono Hp10.out.low1).trans (Kb.out.mono fun _ q => q.elim)).trans (Kc.out.mono Hp10.out.low2)
    obtain ⟨RR, hRR⟩ : ∃ RR, awrite D3 b1 b2 b3 ⟨i2, t2, x2⟩ = RR := ⟨_, rfl⟩
    have hdx := dev_off Hd2.out Kc.out Hp10.out.apart
    have hrx := Hr3.out
    rw [hRR] at hdx hrx ⊢
    obtain ⟨cd3, D4⟩ := RR
    have Hp13 := Aside.mk (show Pair w13 (B + 4) b f m r N O V D4 from ⟨hdx, hrx, Hp10.out.apart, Hp10.out.low1, Hp10.out.low2⟩)
    replace H0 := Aside.mk (H0.out.keep kt (by show ¬ (B + 4 ≤ B); omega))
    replace H1 := Aside.mk (H1.out.keep kt (by show ¬ (B + 4 ≤ B + 1); omega))
    replace H2 := Aside.mk (H2.out.keep kt (by show ¬ (B + 4 ≤ B + 1 + 1); omega))
    replace H3 := Aside.mk (H3.out.keep kt (by show ¬ (B + 4 ≤ B + 1 + 1 + 1); omega))
    replace hb := hb.trans (kt.below (by omega) fun j hj => by omega)
    have hB13 : B + 4 ≤ w13.heap.size := Nat.le_trans hB10 kt.size
    have hcc : (cd3 == cd3) = true := by simp
    clear kt hRR hdx hrx c0 c1 c2 c3 c4 c5 hqa hqb hqc Ka Kb Kc Hd1 Hd2 Hr1 Hr2 Hr3 Hp10
    go_wp2_with fail
    obtain ⟨L, hLl, hLn, hLs⟩ := slI_of_open HL.out
    have hbw : Below w.heap.size w w13 := by rw [HBB.out]; exact hb
    have hLs13 := hLs.below hbw
    subst hLl
    have HLs := Aside.mk hLs13
    clear hLs hbw hLs13
    with_reducible refine (dev_after' b f m D4 la L.length lc L rfl _ Hp13.out.dev hLn HLs.out).mono ?_
    rintro e w14 ⟨b2', f2', m2', rfl, e1, e2, e3, hd14, hb14⟩
    have Hd14 := Aside.mk hd14
    have Hr14 := Aside.mk (Hp13.out.ref.below hb14)
    have HLs14 := Aside.mk (HLs.out.below hb14)
    have k14 := Keep.of_below (S := fun _ => False) hb14 fun _ h _ => h
    replace H0 := Aside.mk (H0.out.keep k14 id)
    replace hb := hb.trans (hb14.mono (by omega))
    have hB14 : B + 4 ≤ w14.heap.size := Nat.le_trans hB13 hb14.size
    clear hd14 hb14 k14 HLs Hp13 e1 e2 e3 H1 H2 H3
    go_wp2_with fail
    with_reducible refine (ref_after r N O V D4 la lc L _ Hr14.out hLn HLs14.out).mono ?_
    rintro e w15 ⟨r2', N2', O2', V2', rfl, _, _, _, _, hr15, hb15⟩
    have Hr15 := Aside.mk hr15
    have Hd15 := Aside.mk (Hd14.out.below hb15)
    have k15 := Keep.of_below (S := fun _ => False) hb15 fun _ h _ => h
    replace H0 := Aside.mk (H0.out.keep k15 id)
    replace hb := hb.trans (hb15.mono (by omega))
    have hB15 : B + 4 ≤ w15.heap.size := Nat.le_trans hB14 hb15.size
    clear hr15 hb15 k15 HLs14 Hr14 Hd14
    generalize dafter D4 L = D5 at *
    have c0 := H0.out.c0
    have c1 := H0.out.c1
    obtain ⟨⟨⟨pi, pt, px⟩, pv, pf⟩, hR⟩ : ∃ R, aread D5 a1 a2 = R := ⟨_, rfl⟩
    have hrd : Calls Try.prog 44 #[.pointer (some ⟨b2', 0, none⟩), .int .i64 a1, .int .i64 a2] w15 fun e w' => e = .returned (.tuple #[.agg #[.int .u64 pi, .int .u64 pt, .string px], .int .i64 pv, .int .i64 pf]) ∧ Below w15.heap.size w15 w' := by
      have := area_read b2' f2' m2' D5 a1 a2 Ha1.out Ha2.out w15 Hd15.out
      rw [hR] at this; exact this
    have HR := Aside.mk hR
    clear hR
    go_wp2_with fail
    with_reducible refine hrd.mono ?_
    rintro e w16 ⟨rfl, hb16⟩
    clear hrd
    have k16 : Keep (fun _ => False) w15 (w16.alloc (.cells #[.int .u64 pi, .int .u64 pt, .string px] 61)) := (Keep.of_below (S := fun _ => False) hb16 fun _ h _ => h).alloc _
    have P0 : TriAt (w16.alloc (.cells #[.int .u64 pi, .int .u64 pt, .string px] 61)) w16.heap.size (.int .u64 pi) (.int .u64 pt) (.string px) := TriAt.new rfl
    replace Hr15 := Aside.mk (Hr15.out.keep k16 ⟨id, id, id, id⟩)
    replace Hd15 := Aside.mk (Hd15.out.keep k16 ⟨id, id, id⟩)
    replace c0 := k16.cell c0 id
    replace c1 := k16.cell c1 id
    replace hb := (hb.trans (hb16.mono (by omega))).alloc (by have := hb16.size; omega) (.cells #[.int .u64 pi, .int .u64 pt, .string px] 61)
    have hB16 : B + 4 ≤ (w16.alloc (.cells #[.int .u64 pi, .int .u64 pt, .string px] 61)).heap.size := Nat.le_trans hB15 k16.size
    have hPlt := P0.lt
    clear k16 hb16
    go_upto_region 23 with fail
    generalize (w16.alloc (.cells #[.int .u64 pi, .int .u64 pt, .string px] 61)) = w17 at *
    generalize w16.heap.size = P at *
    have hrd : Calls Try.prog 49 #[.pointer (some ⟨r2', 0, none⟩), .int .i64 a1, .int .i64 a2] w17 fun e w' => e = .returned (.tuple #[.agg #[.int .u64 pi, .int .u64 pt, .string px], .int .i64 pv, .int .i64 pf]) ∧ Below w17.heap.size w17 w' := by
      have := arearef_read r2' N2' O2' V2' D5 a1 a2 Ha1.out Ha2.out w17 Hr15.out
      rw [HR.out] at this; exact this
    go_wp2_with fail
    with_reducible refine hrd.mono ?_
    rintro e w18 ⟨rfl, hb18⟩
    clear hrd c0 c1
    have k18 : Keep (fun _ => False) w17 (w18.alloc (.cells #[.int .u64 pi, .int .u64 pt, .string px] 66)) := (Keep.of_below (S := fun _ => False) hb18 fun _ h _ => h).alloc _
    have Q0 : TriAt (w18.alloc (.cells #[.int .u64 pi, .int .u64 pt, .string px] 66)) w18.heap.size (.int .u64 pi) (.int .u64 pt) (.string px) := TriAt.new rfl
    replace P0 := P0.keep k18 id
    replace Hr15 := Aside.mk (Hr15.out.keep k18 ⟨id, id, id, id⟩)
    replace Hd15 := Aside.mk (Hd15.out.keep k18 ⟨id, id, id⟩)
    replace hb := (hb.trans (hb18.mono (by omega))).alloc (by have := hb18.size; omega) (.cells #[.int .u64 pi, .int .u64 pt, .string px] 66)
    have hB18 : B ≤ (w18.alloc (.cells #[.int .u64 pi, .int .u64 pt, .string px] 66)).heap.size := Nat.le_trans (by omega) k18.size
    clear k18 hb18
    go_upto_region 24 with fail
    generalize (w18.alloc (.cells #[.int .u64 pi, .int .u64 pt, .string px] 66)) = w19 at *
    generalize w18.heap.size = Q at *
    have k0 : ∀ s' : KW (fun _ => False) w19, s'.w.cell? ⟨P, 0, none⟩ = some (.int .u64 pi) := fun s' => s'.keep.cell P0.c0 id
    have k1 : ∀ s' : KW (fun _ => False) w19, s'.w.cell? ⟨P, 1, none⟩ = some (.int .u64 pt) := fun s' => s'.keep.cell P0.c1 id
    have k2 : ∀ s' : KW (fun _ => False) w19, s'.w.cell? ⟨P, 2, none⟩ = some (.string px) := fun s' => s'.keep.cell P0.c2 id
    have k3 : ∀ s' : KW (fun _ => False) w19, s'.w.cell? ⟨Q, 0, none⟩ = some (.int .u64 pi) := fun s' => s'.keep.cell Q0.c0 id
    have k4 : ∀ s' : KW (fun _ => False) w19, s'.w.cell? ⟨Q, 1, none⟩ = some (.int .u64 pt) := fun s' => s'.keep.cell Q0.c1 id
    have k5 : ∀ s' : KW (fun _ => False) w19, s'.w.cell? ⟨Q, 2, none⟩ = some (.string px) := fun s' => s'.keep.cell Q0.c2 id
    obtain ⟨I, hI⟩ : ∃ I, dimage D5 = I := ⟨_, rfl⟩
    have hd19 : ∀ s' : KW (fun _ => False) w19, DevAt s'.w b2' f2' m2' D5 := fun s' => Hd15.out.keep s'.keep ⟨id, id, id⟩
    have hr19 : ∀ s' : KW (fun _ => False) w19, RefAt s'.w r2' N2' O2' V2' D5 := fun s' => Hr15.out.keep s'.keep ⟨id, id, id, id⟩
    have HD := Aside.mk hd19
    have HRf := Aside.mk hr19
    have q1 : ∀ s' : KW (fun _ => False) w19, Calls Try.prog 21 #[.pointer (some ⟨b2', 0, none⟩)] s'.w fun e w' => e = .returned (.string I) ∧ Below s'.w.heap.size s'.w w' := fun s' => dev_image' b2' f2' m2' D5 I hI s'.w (HD.out s')
    have q2 : ∀ s' : KW (fun _ => False) w19, Calls Try.prog 33 #[.pointer (some ⟨r2', 0, none⟩)] s'.w fun e w' => e = .returned (.string I) ∧ Below s'.w.heap.size s'.w w' := fun s' => by
      have := ref_image r2' N2' O2' V2' D5 s'.w (HRf.out s')
      rw [hI] at this
      exact this.mono fun e w' ⟨h1, h2⟩ => ⟨h1, by rw [h2]; exact Below.refl _ _⟩
    have Q1 := Aside.mk q1
    have Q2 := Aside.mk q2
    clear hd19 hr19 q1 q2 hI P0 Q0
    refine wp_region_keep (fun _ => False) (by kernel_rfl) (by kernel_rfl) ?_
    repeat (go_big_quiet_step ((first | (go_at_call 37; exact KW.calls (area_ref' pi pt px _)) | (go_at_call 21; exact KW.calls (Q1.out _)) | (go_at_call 33; exact KW.calls (Q2.out _)))))
    refine wpQuiet_nil ?_
    intro s4
    have hbs := s4.below
    replace hb := hb.trans (hbs.mono hB18)
    clear k0 k1 k2 k3 k4 k5 Q1 Q2 HD HRf
    go_wp2_with fail
    go_ret
    exact ⟨rfl, by rw [HBB.out]; exact hb⟩
end Go.Proofs.Ytlbnbmojgdoieaa
