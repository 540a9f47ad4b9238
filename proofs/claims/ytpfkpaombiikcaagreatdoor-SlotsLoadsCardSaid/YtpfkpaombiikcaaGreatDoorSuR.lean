import Derived.Test.YtpfkpaombiikcaaGreatDoorSuG
import Derived.Test.YtpfkpaombiikcaaGreatDoorSuP
import Derived.Test.YtpfkpaombiikcaaGreatDoorDevT
/- super: what stands in both sectors; which is newer; Read; Write. -/
set_option maxRecDepth 16000
namespace Go.Pin
open Go.RowKit
set_option linter.unusedVariables false
set_option linter.unusedSimpArgs false
/-- What Read tells: the body, its gen, which, the error. -/
def suread (d : Dv) (a : Int) : ByteArray × Int × Int × Int :=
  if (dread d a).2 ≠ 0 then (⟨#[]⟩, 0, 0, (dread d a).2) else
  if (dread d (a + 1)).2 ≠ 0 then (⟨#[]⟩, 0, 0, (dread d (a + 1)).2) else
  if (sget (dread d a).1).1 = 0 ∧ (sget (dread d (a + 1)).1).1 = 0 then (⟨#[]⟩, 0, 0, 6) else
  if (sget (dread d (a + 1)).1).1 ≤ (sget (dread d a).1).1 then ((sget (dread d a).1).2.1, (sget (dread d a).1).1, 0, 0) else ((sget (dread d (a + 1)).1).2.1, (sget (dread d (a + 1)).1).1, 1, 0)
def suwrite (d : Dv) (a : Int) (s : ByteArray) : Int × Dv :=
  if 51 < s.size then (3, d) else
  if (suread d a).2.2.2 ≠ 0 ∧ (suread d a).2.2.2 ≠ 6 then ((suread d a).2.2.2, d) else
  if (suread d a).2.1 = 18446744073709551615 then (4, d) else
  let p := dwrite d (if (suread d a).2.2.2 = 6 then a else a + 1 - (suread d a).2.2.1) (sput ((suread d a).2.1 + 1) s).1
  if p.1 ≠ 0 then p else dflush p.2
/-- Both cells. -/
def suboth (d : Dv) (a : Int) : Int × ByteArray × Int × ByteArray × Int :=
  if (dread d a).2 ≠ 0 then (0, ⟨#[]⟩, 0, ⟨#[]⟩, (dread d a).2) else
  if (dread d (a + 1)).2 ≠ 0 then (0, ⟨#[]⟩, 0, ⟨#[]⟩, (dread d (a + 1)).2) else
  ((sget (dread d a).1).1, (sget (dread d a).1).2.1, (sget (dread d (a + 1)).1).1, (sget (dread d (a + 1)).1).2.1, 0)
def cellsV (x : Int × ByteArray × Int × ByteArray × Int) : Value := .agg #[.int .u64 x.1, .string x.2.1, .int .u64 x.2.2.1, .string x.2.2.2.1]
/-- Block B's four cells. -/
structure FourAt (w : World) (B : Nat) (v0 v1 v2 v3 : Value) : Prop where
  c0 : w.cell? ⟨B, 0, none⟩ = some v0
  c1 : w.cell? ⟨B, 1, none⟩ = some v1
  c2 : w.cell? ⟨B, 2, none⟩ = some v2
  c3 : w.cell? ⟨B, 3, none⟩ = some v3
  f0 : w.frozen? ⟨B, 0, none⟩ = false
  f1 : w.frozen? ⟨B, 1, none⟩ = false
  f2 : w.frozen? ⟨B, 2, none⟩ = false
  f3 : w.frozen? ⟨B, 3, none⟩ = false
theorem FourAt.new (w : World) (v0 v1 v2 v3 : Value) (t : TypeId) : FourAt (w.alloc (.cells #[v0, v1, v2, v3] t)) w.heap.size v0 v1 v2 v3 :=
  ⟨World.cell?_alloc_new w _ _ 0, World.cell?_alloc_new w _ _ 1, World.cell?_alloc_new w _ _ 2, World.cell?_alloc_new w _ _ 3, World.frozen?_alloc_at _ _ _ _ rfl, World.frozen?_alloc_at _ _ _ _ rfl, World.frozen?_alloc_at _ _ _ _ rfl, World.frozen?_alloc_at _ _ _ _ rfl⟩
theorem FourAt.lt {w : World} {B : Nat} {v0 v1 v2 v3 : Value} (h : FourAt w B v0 v1 v2 v3) : B < w.heap.size := World.block_lt_of_cell? (a := ⟨B, 0, none⟩) _ h.c0
theorem FourAt.keep {S : Nat → Prop} {w w' : World} {B : Nat} {v0 v1 v2 v3 : Value} (h : FourAt w B v0 v1 v2 v3) (hk : Keep S w w') (hn : ¬ S B) : FourAt w' B v0 v1 v2 v3 := by
  have hl := h.lt
  exact ⟨hk.cell h.c0 hn, hk.cell h.c1 hn, hk.cell h.c2 hn, hk.cell h.c3 hn, (hk.frozen (p := ⟨B, 0, none⟩) hl hn).trans h.f0, (hk.frozen (p := ⟨B, 1, none⟩) hl hn).trans h.f1, (hk.frozen (p := ⟨B, 2, none⟩) hl hn).trans h.f2, (hk.frozen (p := ⟨B, 3, none⟩) hl hn).trans h.f3⟩
theorem FourAt.below {w w' : World} {B : Nat} {v0 v1 v2 v3 : Value} (h : FourAt w B v0 v1 v2 v3) (hk : Below w.heap.size w w') : FourAt w' B v0 v1 v2 v3 :=
  h.keep (Keep.of_below (S := fun _ => False) hk fun _ hk _ => hk) id
theorem FourAt.set0 {w : World} {B : Nat} {v0 v1 v2 v3 : Value} (h : FourAt w B v0 v1 v2 v3) (x y : Value) : FourAt ((w.setCell ⟨B, 0, none⟩ x).setCell ⟨B, 1, none⟩ y) B x y v2 v3 := by
  refine ⟨?_, ?_, ?_, ?_, ?_, ?_, ?_, ?_⟩
  · rw [World.cell?_setCell_other _ _ _ _ (by simp), World.cell?_setCell_same _ _ _ h.c0]
  · exact World.cell?_setCell_same _ _ _ (by rw [World.cell?_setCell_other _ _ _ _ (by simp)]; exact h.c1)
  · rw [World.cell?_setCell_other _ _ _ _ (by simp), World.cell?_setCell_other _ _ _ _ (by simp), h.c2]
  · rw [World.cell?_setCell_other _ _ _ _ (by simp), World.cell?_setCell_other _ _ _ _ (by simp), h.c3]
  · rw [World.frozen?_setCell, World.frozen?_setCell]; exact h.f0
  · rw [World.frozen?_setCell, World.frozen?_setCell]; exact h.f1
  · rw [World.frozen?_setCell, World.frozen?_setCell]; exact h.f2
  · rw [World.frozen?_setCell, World.frozen?_setCell]; exact h.f3
theorem FourAt.set2 {w : World} {B : Nat} {v0 v1 v2 v3 : Value} (h : FourAt w B v0 v1 v2 v3) (x y : Value) : FourAt ((w.setCell ⟨B, 2, none⟩ x).setCell ⟨B, 3, none⟩ y) B v0 v1 x y := by
  refine ⟨?_, ?_, ?_, ?_, ?_, ?_, ?_, ?_⟩
  · rw [World.cell?_setCell_other _ _ _ _ (by simp), World.cell?_setCell_other _ _ _ _ (by simp), h.c0]
  · rw [World.cell?_setCell_other _ _ _ _ (by simp), World.cell?_setCell_other _ _ _ _ (by simp), h.c1]
  · rw [World.cell?_setCell_other _ _ _ _ (by simp), World.cell?_setCell_same _ _ _ h.c2]
  · exact World.cell?_setCell_same _ _ _ (by rw [World.cell?_setCell_other _ _ _ _ (by simp)]; exact h.c3)
  · rw [World.frozen?_setCell, World.frozen?_setCell]; exact h.f0
  · rw [World.frozen?_setCell, World.frozen?_setCell]; exact h.f1
  · rw [World.frozen?_setCell, World.frozen?_setCell]; exact h.f2
  · rw [World.frozen?_setCell, World.frozen?_setCell]; exact h.f3
theorem FourAt.set4 {w : World} {B : Nat} {v0 v1 v2 v3 : Value} (h : FourAt w B v0 v1 v2 v3) (x0 x1 x2 x3 : Value) : FourAt ((((w.setCell ⟨B, 0, none⟩ x0).setCell ⟨B, 1, none⟩ x1).setCell ⟨B, 2, none⟩ x2).setCell ⟨B, 3, none⟩ x3) B x0 x1 x2 x3 := (h.set0 x0 x1).set2 x2 x3
theorem below_set {N g i : Nat} {a w : World} (h : Below N a w) (hg : N ≤ g) (x : Value) : Below N a (w.setCell ⟨g, i, none⟩ x) := h.setCell (p := ⟨g, i, none⟩) hg _
theorem dread_code (d : Dv) (k : Int) : (dread d k).2 = dref d k := by unfold dread; split <;> simp_all
theorem dread_size {d : Dv} (h : d.ok) (k : Int) : (dread d k).1.size ≤ 64 := by
  unfold dread
  split
  · exact Nat.zero_le _
  · exact Nat.le_of_eq (h.z2 _)
theorem dref_in {d : Dv} {k : Int} (h : dref d k = 0) : 0 ≤ k ∧ k < d.n ∧ d.dead = false := by
  unfold dref at h
  split at h
  · cases h
  · rename_i h1
    split at h
    · cases h
    · rename_i h2
      exact ⟨by omega, by omega, by cases hd : d.dead; rfl; exact absurd hd h1⟩
theorem dref_range (d : Dv) (k : Int) : 0 ≤ dref d k ∧ dref d k ≤ 7 := by unfold dref; split; omega; split <;> omega
end Go.Pin
namespace Go.Proofs.YtpfkpaombiikcaaGreatDoor
open Go.RowKit Go.Pin
set_option linter.unusedVariables false
set_option linter.unusedSimpArgs false
set_option maxHeartbeats 1600000 in
theorem super_both (b f m : Nat) (d : Dv) (a : Int) (ha : -9223372036854775808 ≤ a ∧ a ≤ 9223372036854775807) (w : World) (h : DevAt w b f m d) :
    Calls Tryz.prog 59 #[.pointer (some ⟨b, 0, none⟩), .int .i64 a] w fun e w' => e = .returned (.tuple #[cellsV (suboth d a), .int .i64 (suboth d a).2.2.2.2]) ∧ Below w.heap.size w w' := by
  obtain ⟨⟨s0, c0⟩, h0⟩ : ∃ x, dread d a = x := ⟨_, rfl⟩
  have hz0 : s0.size ≤ 64 := by have := dread_size h.ok a; rw [h0] at this; exact this
  have hcon := fun W (hW : DevAt W b f m d) => dev_read b f m d a ha W hW
  rw [h0] at hcon
  have Hcon := Aside.mk hcon
  have hk := (Keep.refl (fun _ => False) w).alloc (.cells #[.int .u64 0, .string ⟨#[]⟩, .int .u64 0, .string ⟨#[]⟩] 113)
  have hd1 := h.keep hk ⟨id, id, id⟩
  have Hd1 := Aside.mk hd1
  have Hw1 := Aside.mk (hk.below (Nat.le_refl _) fun _ q => q.elim)
  have Hlt := Aside.mk h.lt
  clear hk hcon h hd1
  have hw0 : IntKind.i64.wrap (a + 0) = a := by rw [IntKind.wrap_i64]; omega
  have Hf := Aside.mk (FourAt.new w (.int .u64 0) (.string ⟨#[]⟩) (.int .u64 0) (.string ⟨#[]⟩) 113)
  by_cases e0 : c0 = 0
  · subst e0
    obtain ⟨hn0, hn1, hdd⟩ := dref_in (d := d) (k := a) (by rw [← dread_code, h0])
    obtain ⟨⟨s1, c1⟩, h1⟩ : ∃ x, dread d (a + 1) = x := ⟨_, rfl⟩
    have hz1 : s1.size ≤ 64 := by have := dread_size Hd1.out.ok (a + 1); rw [h1] at this; exact this
    have hn2 := Hd1.out.ok.n2
    have hcon1 := fun W (hW : DevAt W b f m d) => dev_read b f m d (a + 1) (by omega) W hW
    rw [h1] at hcon1
    have Hcon1 := Aside.mk hcon1
    have hg0 := fun W => super_get s0 (by omega) W
    obtain ⟨⟨g0, x0, k0⟩, hq0⟩ : ∃ x, sget s0 = x := ⟨_, rfl⟩
    rw [hq0] at hg0
    have Hg0 := Aside.mk hg0
    have hg1 := fun W => super_get s1 (by omega) W
    obtain ⟨⟨g1, x1, k1⟩, hq1⟩ : ∃ x, sget s1 = x := ⟨_, rfl⟩
    rw [hq1] at hg1
    have Hg1 := Aside.mk hg1
    have hw1 : IntKind.i64.wrap (a + 1) = a + 1 := by rw [IntKind.wrap_i64]; omega
    have E1 := Aside.mk (show suboth d a = if c1 ≠ 0 then (0, ⟨#[]⟩, 0, ⟨#[]⟩, c1) else (g0, x0, g1, x1, 0) by unfold suboth; rw [h0, if_neg (by simp), h1, hq0, hq1])
    clear hcon1 hg0 hg1 h0 h1 hq0 hq1
    go_enter Tryz.func59, Tryz.ntmps59
    go_wp2_with fail
    generalize w.alloc (.cells #[.int .u64 0, .string ⟨#[]⟩, .int .u64 0, .string ⟨#[]⟩] 113) = w1 at *
    generalize hBB : w.heap.size = B at *
    have HBB := Aside.mk hBB
    clear hBB
    refine wp_loop_rounds 3 ?_
    rw [rounds_succ]
    go_upto_region 6 with fail
    refine (Hcon.out _ Hd1.out).mono ?_
    rintro e w2 ⟨rfl, hb2⟩
    have Hd2 := Aside.mk (Hd1.out.below hb2)
    have Hf2 := Aside.mk (Hf.out.below hb2)
    have Hb2 := Aside.mk (Hw1.out.trans (hb2.mono (Nat.le_of_lt Hf.out.lt)))
    clear hb2
    go_wp2_with fail
    refine (Hg0.out w2).mono ?_
    rintro e w3 ⟨rfl, hb3⟩
    have Hd3 := Aside.mk (Hd2.out.below hb3)
    have Hf3 := Aside.mk (Hf2.out.below hb3)
    have Hb3 := Aside.mk (Hb2.out.trans (hb3.mono (Nat.le_of_lt Hf2.out.lt)))
    obtain ⟨d0, d1, d2, d3, f0, f1, f2, f3⟩ := Hf3.out
    have hk4 : Keep (fun k => k = B) w3 ((w3.setCell ⟨B, 0, none⟩ (.int .u64 g0)).setCell ⟨B, 1, none⟩ (.string x0)) := ((Keep.refl (fun k => k = B) w3).setCell (p := ⟨B, 0, none⟩) (.inl rfl) _).setCell (p := ⟨B, 1, none⟩) (.inl rfl) _
    have Hf4 := Aside.mk (Hf3.out.set0 (.int .u64 g0) (.string x0))
    have Hb4 := Aside.mk (below_set (i := 1) (below_set (i := 0) Hb3.out (Nat.le_refl _) (.int .u64 g0)) (Nat.le_refl _) (.string x0))
    have Hd4 := Aside.mk (Hd3.out.keep hk4 ⟨fun q => by have := Hlt.out.1; omega, fun q => by have := Hlt.out.2.1; omega, fun q => by have := Hlt.out.2.2; omega⟩)
    have Hl4 := Aside.mk hk4.size
    clear hb3 hk4
    go_wp2_with fail
    generalize ((w3.setCell ⟨B, 0, none⟩ (.int .u64 g0)).setCell ⟨B, 1, none⟩ (.string x0)) = w4 at *
    clear d0 d1 d2 d3 f0 f1 f2 f3
    rw [rounds_succ]
    go_upto_region 6 with fail
    refine (Hcon1.out _ Hd4.out).mono ?_
    rintro e w5 ⟨rfl, hb5⟩
    have Hf5 := Aside.mk (Hf4.out.below hb5)
    have Hb5 := Aside.mk (Hb4.out.trans (hb5.mono (Nat.le_of_lt Hf4.out.lt)))
    clear hb5
    by_cases e1 : c1 = 0
    · subst e1
      replace E1 := Aside.mk (E1.out.trans (if_neg (by simp)))
      go_wp2_with fail
      refine (Hg1.out w5).mono ?_
      rintro e w6 ⟨rfl, hb6⟩
      have Hf6 := Aside.mk (Hf5.out.below hb6)
      have Hb6 := Aside.mk (Hb5.out.trans (hb6.mono (Nat.le_of_lt Hf5.out.lt)))
      obtain ⟨d0, d1, d2, d3, f0, f1, f2, f3⟩ := Hf6.out
      have Hf7 := Aside.mk (Hf6.out.set2 (.int .u64 g1) (.string x1))
      have Hb7 := Aside.mk (below_set (i := 3) (below_set (i := 2) Hb6.out (Nat.le_refl _) (.int .u64 g1)) (Nat.le_refl _) (.string x1))
      clear hb6
      go_wp2_with fail
      generalize ((w6.setCell ⟨B, 2, none⟩ (.int .u64 g1)).setCell ⟨B, 3, none⟩ (.string x1)) = w7 at *
      clear d0 d1 d2 d3 f0 f1 f2 f3
      obtain ⟨d0, d1, d2, d3, f0, f1, f2, f3⟩ := Hf7.out
      obtain ⟨n0, n1, n2, n3, m0, m1, m2, m3⟩ := Hf7.out.set4 (.int .u64 g0) (.string x0) (.int .u64 g1) (.string x1)
      rw [rounds_succ]
      go_wp2_with fail
      refine bodyPost_ret (v := .tuple #[cellsV (g0, x0, g1, x1, 0), .int .i64 0]) (by simp [results, Tryz.results59, go_sem, *]; rfl) rfl ?_
      rw [E1.out]
      exact ⟨rfl, by rw [HBB.out]; exact below_set (below_set (below_set (below_set Hb7.out (Nat.le_refl _) _) (Nat.le_refl _) _) (Nat.le_refl _) _) (Nat.le_refl _) _⟩
    · replace E1 := Aside.mk (E1.out.trans (if_pos e1))
      have hb : (c1 != 0) = true := by simpa using e1
      clear e1
      obtain ⟨d0, d1, d2, d3, f0, f1, f2, f3⟩ := Hf5.out
      obtain ⟨n0, n1, n2, n3, m0, m1, m2, m3⟩ := Hf5.out.set4 (.int .u64 0) (.string ⟨#[]⟩) (.int .u64 0) (.string ⟨#[]⟩)
      go_wp2_with fail
      refine bodyPost_ret (v := .tuple #[cellsV (0, ⟨#[]⟩, 0, ⟨#[]⟩, c1), .int .i64 c1]) (by simp [results, Tryz.results59, go_sem, *]; rfl) rfl ?_
      rw [E1.out]
      exact ⟨rfl, by rw [HBB.out]; exact below_set (below_set (below_set (below_set Hb5.out (Nat.le_refl _) _) (Nat.le_refl _) _) (Nat.le_refl _) _) (Nat.le_refl _) _⟩
  · have e1 : suboth d a = (0, ⟨#[]⟩, 0, ⟨#[]⟩, c0) := by unfold suboth; rw [h0, if_pos e0]
    have hb : (c0 != 0) = true := by simpa using e0
    rw [e1]
    clear e1 e0 h0
    go_enter Tryz.func59, Tryz.ntmps59
    go_wp2_with fail
    generalize w.alloc (.cells #[.int .u64 0, .string ⟨#[]⟩, .int .u64 0, .string ⟨#[]⟩] 113) = w1 at *
    generalize hBB : w.heap.size = B at *
    have HBB := Aside.mk hBB
    clear hBB
    refine wp_loop_rounds 1 ?_
    rw [rounds_succ]
    go_upto_region 6 with fail
    refine (Hcon.out _ Hd1.out).mono ?_
    rintro e w2 ⟨rfl, hb2⟩
    obtain ⟨d0, d1, d2, d3, f0, f1, f2, f3⟩ := Hf.out.below hb2
    obtain ⟨n0, n1, n2, n3, m0, m1, m2, m3⟩ := (Hf.out.below hb2).set4 (.int .u64 0) (.string ⟨#[]⟩) (.int .u64 0) (.string ⟨#[]⟩)
    have hbb := Hw1.out.trans (hb2.mono (Nat.le_of_lt (Hf.out.lt)))
    clear hb2
    go_wp2_with fail
    refine bodyPost_ret (v := .tuple #[cellsV (0, ⟨#[]⟩, 0, ⟨#[]⟩, c0), .int .i64 c0]) (by simp [results, Tryz.results59, go_sem, *]; rfl) rfl ?_
    exact ⟨rfl, by rw [HBB.out]; exact below_set (below_set (below_set (below_set hbb (Nat.le_refl _) _) (Nat.le_refl _) _) (Nat.le_refl _) _) (Nat.le_refl _) _⟩
end Go.Proofs.YtpfkpaombiikcaaGreatDoor
