import Derived.Test.YtpfkpaombiikcaaGreatDoorZSlM
import Derived.Test.YtpfkpaombiikcaaGreatDoorVarW
import Derived.Test.YtpfkpaombiikcaaGreatDoorRdW
import Derived.Test.YtpfkpaombiikcaaGreatDoorMap
import Derived.Test.YtpfkpaombiikcaaGreatDoorCrcW
/- slots: whether a super may be; the maps of writers and readers. -/
set_option maxRecDepth 16000
namespace Go.Pin
open Go.RowKit
set_option linter.unusedVariables false
set_option linter.unusedSimpArgs false
def inB (n lo hi : Int) : Bool := decide (lo ≤ n ∧ n ≤ hi)
theorem inB_yes {n lo hi : Int} (h : lo ≤ n ∧ n ≤ hi) : inB n lo hi = true := by simpa [inB] using h
theorem inB_no {n lo hi : Int} (h : ¬ (lo ≤ n ∧ n ≤ hi)) : inB n lo hi = false := by simpa [inB] using h
def SupRange (s : Sup) : Prop := (-9223372036854775808 ≤ s.v ∧ s.v ≤ 9223372036854775807) ∧ (-9223372036854775808 ≤ s.snap ∧ s.snap ≤ 9223372036854775807) ∧ (-9223372036854775808 ≤ s.log ∧ s.log ≤ 9223372036854775807) ∧ (-9223372036854775808 ≤ s.area ∧ s.area ≤ 9223372036854775807) ∧ (-9223372036854775808 ≤ s.half ∧ s.half ≤ 9223372036854775807) ∧ (-9223372036854775808 ≤ s.goal ∧ s.goal ≤ 9223372036854775807) ∧ (-9223372036854775808 ≤ s.step ∧ s.step ≤ 9223372036854775807)
theorem mget_twoS (f g : Value) (k : Int) : mget (mset (mset [] 1 f) 2 g) k = if k = 1 then some f else if k = 2 then some g else none := by
  by_cases h1 : k = 1
  · subst h1; simp [mget, mset]
  · by_cases h2 : k = 2
    · subst h2; simp [mget, mset]
    · rw [if_neg h1, if_neg h2]; simp [mget, mset, Ne.symm h1, Ne.symm h2]
/-- The seven cells of a super. -/
structure SevenAt (w : World) (B : Nat) (s : Sup) : Prop where
  c0 : w.cell? ⟨B, 0, none⟩ = some (.int .i64 s.v)
  c1 : w.cell? ⟨B, 1, none⟩ = some (.int .i64 s.snap)
  c2 : w.cell? ⟨B, 2, none⟩ = some (.int .i64 s.log)
  c3 : w.cell? ⟨B, 3, none⟩ = some (.int .i64 s.area)
  c4 : w.cell? ⟨B, 4, none⟩ = some (.int .i64 s.half)
  c5 : w.cell? ⟨B, 5, none⟩ = some (.int .i64 s.goal)
  c6 : w.cell? ⟨B, 6, none⟩ = some (.int .i64 s.step)
def sevenO (s : Sup) (t : TypeId) : Obj := .cells #[.int .i64 s.v, .int .i64 s.snap, .int .i64 s.log, .int .i64 s.area, .int .i64 s.half, .int .i64 s.goal, .int .i64 s.step] t
theorem SevenAt.new (w : World) (s : Sup) (t : TypeId) : SevenAt (w.alloc (sevenO s t)) w.heap.size s :=
  ⟨World.cell?_alloc_new w _ _ 0, World.cell?_alloc_new w _ _ 1, World.cell?_alloc_new w _ _ 2, World.cell?_alloc_new w _ _ 3, World.cell?_alloc_new w _ _ 4, World.cell?_alloc_new w _ _ 5, World.cell?_alloc_new w _ _ 6⟩
theorem SevenAt.keep {S : Nat → Prop} {a w : World} {B : Nat} {s : Sup} (h : SevenAt a B s) (hk : Keep S a w) (hn : ¬ S B) : SevenAt w B s :=
  ⟨hk.cell h.c0 hn, hk.cell h.c1 hn, hk.cell h.c2 hn, hk.cell h.c3 hn, hk.cell h.c4 hn, hk.cell h.c5 hn, hk.cell h.c6 hn⟩
theorem SevenAt.below {a w : World} {B : Nat} {s : Sup} (h : SevenAt a B s) (hk : Below a.heap.size a w) : SevenAt w B s := h.keep (Keep.of_below (S := fun _ => False) hk fun _ hk _ => hk) id
end Go.Pin
namespace Go.Proofs.YtpfkpaombiikcaaGreatDoor
open Go.RowKit Go.Pin
set_option linter.unusedVariables false
set_option linter.unusedSimpArgs false
theorem slots_in (n lo hi : Int) (w : World) : Calls Tryz.prog 74 #[.int .i64 n, .int .i64 lo, .int .i64 hi] w fun e w' => e = .returned (.bool (inB n lo hi)) ∧ w' = w := by
  by_cases h1 : lo ≤ n
  · by_cases h2 : n ≤ hi
    · rw [inB_yes ⟨h1, h2⟩]
      go_enter Tryz.func74, Tryz.ntmps74
      go_wp2_with fail
      go_ret
      exact ⟨rfl, rfl⟩
    · rw [inB_no (fun q => h2 q.2)]
      go_enter Tryz.func74, Tryz.ntmps74
      go_wp2_with fail
      go_ret
      exact ⟨rfl, rfl⟩
  · rw [inB_no (fun q => h1 q.1)]
    go_enter Tryz.func74, Tryz.ntmps74
    go_wp2_with fail
    go_ret
    exact ⟨rfl, rfl⟩
set_option maxHeartbeats 4000000 in
theorem slots_right (s : Sup) (w : World) : Calls Tryz.prog 47 #[.agg #[.int .i64 s.v, .int .i64 s.snap, .int .i64 s.log, .int .i64 s.area, .int .i64 s.half, .int .i64 s.goal, .int .i64 s.step]] w fun e w' => e = .returned (.bool s.right) ∧ Below w.heap.size w w' := by
  obtain ⟨b, hbr⟩ : ∃ b, s.right = b := ⟨_, rfl⟩
  have Hb := Pin.Aside.mk hbr
  have hin := fun n lo hi W => slots_in n lo hi W
  obtain ⟨v, snap, log, area, half, goal, step⟩ := s
  dsimp only
  rw [hbr]
  have Hr := Pin.Aside.mk (show ((⟨v, snap, log, area, half, goal, step⟩ : Sup).right = true) ↔ _ from decide_eq_true_iff)
  clear hbr
  by_cases h0 : ¬ (1 ≤ v ∧ v ≤ 2)
  · have k0 := inB_no h0
    obtain rfl : b = false := by
      rw [← Hb.out]
      cases hq : (⟨v, snap, log, area, half, goal, step⟩ : Sup).right; rfl; exact absurd (Sup.right_iff hq) (by dsimp only; omega)
    go_enter Tryz.func47, Tryz.ntmps47
    go_wp2_with ((go_at_call 74; refine (slots_in _ _ _ _).mono ?_; rintro e w' ⟨rfl, rfl⟩))
    go_ret
    exact ⟨rfl, (Below.refl _ _).alloc (Nat.le_refl _) _⟩
  replace h0 := Classical.not_not.1 h0
  have k0 := inB_yes h0
  by_cases h1 : ¬ (1 ≤ snap ∧ snap ≤ 1000)
  · have k1 := inB_no h1
    obtain rfl : b = false := by
      rw [← Hb.out]
      cases hq : (⟨v, snap, log, area, half, goal, step⟩ : Sup).right; rfl; exact absurd (Sup.right_iff hq) (by dsimp only; omega)
    go_enter Tryz.func47, Tryz.ntmps47
    go_wp2_with ((go_at_call 74; refine (slots_in _ _ _ _).mono ?_; rintro e w' ⟨rfl, rfl⟩))
    go_ret
    exact ⟨rfl, (Below.refl _ _).alloc (Nat.le_refl _) _⟩
  replace h1 := Classical.not_not.1 h1
  have k1 := inB_yes h1
  by_cases h2 : ¬ (1 ≤ log ∧ log ≤ 1000)
  · have k2 := inB_no h2
    obtain rfl : b = false := by
      rw [← Hb.out]
      cases hq : (⟨v, snap, log, area, half, goal, step⟩ : Sup).right; rfl; exact absurd (Sup.right_iff hq) (by dsimp only; omega)
    go_enter Tryz.func47, Tryz.ntmps47
    go_wp2_with ((go_at_call 74; refine (slots_in _ _ _ _).mono ?_; rintro e w' ⟨rfl, rfl⟩))
    go_ret
    exact ⟨rfl, (Below.refl _ _).alloc (Nat.le_refl _) _⟩
  replace h2 := Classical.not_not.1 h2
  have k2 := inB_yes h2
  by_cases h3 : ¬ (0 ≤ area ∧ area ≤ 1)
  · have k3 := inB_no h3
    obtain rfl : b = false := by
      rw [← Hb.out]
      cases hq : (⟨v, snap, log, area, half, goal, step⟩ : Sup).right; rfl; exact absurd (Sup.right_iff hq) (by dsimp only; omega)
    go_enter Tryz.func47, Tryz.ntmps47
    go_wp2_with ((go_at_call 74; refine (slots_in _ _ _ _).mono ?_; rintro e w' ⟨rfl, rfl⟩))
    go_ret
    exact ⟨rfl, (Below.refl _ _).alloc (Nat.le_refl _) _⟩
  replace h3 := Classical.not_not.1 h3
  have k3 := inB_yes h3
  by_cases h4 : ¬ (0 ≤ half ∧ half ≤ 1)
  · have k4 := inB_no h4
    obtain rfl : b = false := by
      rw [← Hb.out]
      cases hq : (⟨v, snap, log, area, half, goal, step⟩ : Sup).right; rfl; exact absurd (Sup.right_iff hq) (by dsimp only; omega)
    go_enter Tryz.func47, Tryz.ntmps47
    go_wp2_with ((go_at_call 74; refine (slots_in _ _ _ _).mono ?_; rintro e w' ⟨rfl, rfl⟩))
    go_ret
    exact ⟨rfl, (Below.refl _ _).alloc (Nat.le_refl _) _⟩
  replace h4 := Classical.not_not.1 h4
  have k4 := inB_yes h4
  by_cases h5 : ¬ (0 ≤ goal ∧ goal ≤ 2)
  · have k5 := inB_no h5
    obtain rfl : b = false := by
      rw [← Hb.out]
      cases hq : (⟨v, snap, log, area, half, goal, step⟩ : Sup).right; rfl; exact absurd (Sup.right_iff hq) (by dsimp only; omega)
    go_enter Tryz.func47, Tryz.ntmps47
    go_wp2_with ((go_at_call 74; refine (slots_in _ _ _ _).mono ?_; rintro e w' ⟨rfl, rfl⟩))
    go_ret
    exact ⟨rfl, (Below.refl _ _).alloc (Nat.le_refl _) _⟩
  replace h5 := Classical.not_not.1 h5
  have k5 := inB_yes h5
  by_cases h6 : ¬ (0 ≤ step ∧ step ≤ 9)
  · have k6 := inB_no h6
    obtain rfl : b = false := by
      rw [← Hb.out]
      cases hq : (⟨v, snap, log, area, half, goal, step⟩ : Sup).right; rfl; exact absurd (Sup.right_iff hq) (by dsimp only; omega)
    go_enter Tryz.func47, Tryz.ntmps47
    go_wp2_with ((go_at_call 74; refine (slots_in _ _ _ _).mono ?_; rintro e w' ⟨rfl, rfl⟩))
    go_ret
    exact ⟨rfl, (Below.refl _ _).alloc (Nat.le_refl _) _⟩
  replace h6 := Classical.not_not.1 h6
  have k6 := inB_yes h6
  by_cases hg : 0 < goal
  · obtain rfl : b = true := by
      rw [← Hb.out]
      rw [Hr.out]; dsimp only; omega
    go_enter Tryz.func47, Tryz.ntmps47
    go_wp2_with ((go_at_call 74; refine (slots_in _ _ _ _).mono ?_; rintro e w' ⟨rfl, rfl⟩))
    go_ret
    exact ⟨rfl, (Below.refl _ _).alloc (Nat.le_refl _) _⟩
  · by_cases hs : step = 0
    · have ks : (step == 0) = true := by simpa using hs
      have kg : decide (0 < goal) = false := by simpa using hg
      obtain rfl : b = true := by
        rw [← Hb.out]
        rw [Hr.out]; dsimp only; omega
      clear hs
      go_enter Tryz.func47, Tryz.ntmps47
      go_wp2_with ((go_at_call 74; refine (slots_in _ _ _ _).mono ?_; rintro e w' ⟨rfl, rfl⟩))
      go_ret
      exact ⟨rfl, (Below.refl _ _).alloc (Nat.le_refl _) _⟩
    · have ks : (step == 0) = false := by simpa using hs
      have kg : decide (0 < goal) = false := by simpa using hg
      obtain rfl : b = false := by
        rw [← Hb.out]
        cases hq : (⟨v, snap, log, area, half, goal, step⟩ : Sup).right; rfl; exact absurd (Sup.right_iff hq) (by dsimp only; omega)
      go_enter Tryz.func47, Tryz.ntmps47
      go_wp2_with ((go_at_call 74; refine (slots_in _ _ _ _).mono ?_; rintro e w' ⟨rfl, rfl⟩))
      go_ret
      exact ⟨rfl, (Below.refl _ _).alloc (Nat.le_refl _) _⟩
/-- The map of writers. -/
def wF : Value := .func (.func 50) #[] #[]
def wV : Value := .func (.func 76) #[] #[]
def rF : Value := .func (.func 52) #[] #[]
def rV : Value := .func (.func 79) #[] #[]
def MadeMap (f g : Value) (w : World) (e : Ending) (w' : World) : Prop := ∃ m, e = .returned (.map (some m)) ∧ w.heap.size ≤ m ∧ MapAt w' m .i64 (mset (mset [] 1 f) 2 g) ∧ Below w.heap.size w w'
set_option maxHeartbeats 800000 in
theorem slots_writers (w : World) : Calls Tryz.prog 48 #[] w (MadeMap wF wV w) := by
  have hmm := @run_makeMap Tryz.prog
  have hm0 := MapAt.made w .i64
  obtain ⟨w4, hu4, hm4, hk4, hz4⟩ := run_map_update (P := Tryz.prog) (t := 99) hm0 Tryz.underlying99 Tryz.underlying3 1 (Value.func (Fn.func 50) #[] #[])
  obtain ⟨w5, hu5, hm5, hk5, hz5⟩ := run_map_update (P := Tryz.prog) (t := 99) hm4 Tryz.underlying99 Tryz.underlying3 2 (Value.func (Fn.func 76) #[] #[])
  have hkm : Keep (fun k => k = w.heap.size) w w5 := (((Keep.refl (fun k => k = w.heap.size) w).alloc (.map #[] 0)).trans hk4).trans hk5
  have Hm := Pin.Aside.mk hm5
  have Hk := Pin.Aside.mk hkm
  clear hm0 hm4 hk4 hk5 hkm hm5 hz4 hz5
  go_enter Tryz.func48, Tryz.ntmps48
  go_wp2_with fail
  go_ret
  exact ⟨_, rfl, Nat.le_refl _, Hm.out, Hk.out.below (Nat.le_refl _) fun k q => by rw [q]; exact Nat.le_refl _⟩
set_option maxHeartbeats 800000 in
theorem slots_readers (w : World) : Calls Tryz.prog 53 #[] w (MadeMap rF rV w) := by
  have hmm := @run_makeMap Tryz.prog
  have hm0 := MapAt.made w .i64
  obtain ⟨w4, hu4, hm4, hk4, hz4⟩ := run_map_update (P := Tryz.prog) (t := 105) hm0 Tryz.underlying105 Tryz.underlying3 1 (Value.func (Fn.func 52) #[] #[])
  obtain ⟨w5, hu5, hm5, hk5, hz5⟩ := run_map_update (P := Tryz.prog) (t := 105) hm4 Tryz.underlying105 Tryz.underlying3 2 (Value.func (Fn.func 79) #[] #[])
  have hkm : Keep (fun k => k = w.heap.size) w w5 := (((Keep.refl (fun k => k = w.heap.size) w).alloc (.map #[] 0)).trans hk4).trans hk5
  have Hm := Pin.Aside.mk hm5
  have Hk := Pin.Aside.mk hkm
  clear hm0 hm4 hk4 hk5 hkm hm5 hz4 hz5
  go_enter Tryz.func53, Tryz.ntmps53
  go_wp2_with fail
  go_ret
  exact ⟨_, rfl, Nat.le_refl _, Hm.out, Hk.out.below (Nat.le_refl _) fun k q => by rw [q]; exact Nat.le_refl _⟩
/-- A number is put by a version's writer. -/
theorem slots_w2 (n k : Int) (hn0 : 0 ≤ n) (hn : n ≤ 18446744073709551615) (w : World) :
    Calls Tryz.prog 76 #[.int .u64 n, .int .i64 k] w fun e w' => e = .returned (.string (vputS n.toNat)) ∧ Below w.heap.size w w' := by
  have hc := var_put n hn0 hn w
  go_enter Tryz.func76, Tryz.ntmps76
  go_wp2_with fail
  refine hc.mono ?_
  rintro e w1 ⟨rfl, hb⟩
  go_wp2_with fail
  go_ret
  exact ⟨rfl, hb⟩
theorem slots_r2 (b : Nat) (r : Rd) (k : Int) (w : World) (h : RdAt w b r) (hs : r.s.size ≤ 1152921504606846976) :
    Calls Tryz.prog 79 #[.pointer (some ⟨b, 0, none⟩), .int .i64 k] w fun e w' => e = .returned (.int .u64 r.var.1) ∧ RdAt w' b r.var.2 ∧ Keep (fun k => k = b) w w' := by
  have hc := rd_var b r w h hs
  go_enter Tryz.func79, Tryz.ntmps79
  go_wp2_with fail
  refine hc.mono ?_
  rintro e w1 ⟨rfl, hb⟩
  go_wp2_with fail
  go_ret
  exact ⟨rfl, hb⟩
theorem slots_sectors (s : Sup) (w : World) : Calls Tryz.prog 27 #[.agg #[.int .i64 s.v, .int .i64 s.snap, .int .i64 s.log, .int .i64 s.area, .int .i64 s.half, .int .i64 s.goal, .int .i64 s.step]] w fun e w' => e = .returned (.int .i64 (ssectors s)) ∧ Below w.heap.size w w' := by
  have Hr := Pin.Aside.mk fun W => slots_right s W
  cases hq : s.right with
  | true =>
    rw [hq] at Hr
    have h := Sup.right_iff hq
    have e1 : ssectors s = 4 + 2 * (s.snap + s.log) := by unfold ssectors; rw [if_pos hq]
    rw [e1]
    have hs1 : 1 ≤ s.snap ∧ s.snap ≤ 1000 := h.2.1
    have hs2 : 1 ≤ s.log ∧ s.log ≤ 1000 := h.2.2.1
    have hn := SevenAt.new w s 23
    have hb0 := (Below.refl w.heap.size w).alloc (Nat.le_refl _) (sevenO s 23)
    have Hn := Pin.Aside.mk hn
    unfold sevenO at hb0
    clear hq e1 h hn
    go_enter Tryz.func27, Tryz.ntmps27
    go_wp2_with fail
    refine (Hr.out _).mono ?_
    rintro e w1 ⟨rfl, hb⟩
    obtain ⟨c0, c1, c2, c3, c4, c5, c6⟩ := Hn.out.below hb
    have hb1 := hb0.trans (hb.mono (by simp))
    clear hb hb0
    go_wp2_with fail
    go_ret
    exact ⟨rfl, hb1⟩
  | false =>
    rw [hq] at Hr
    have e1 : ssectors s = 0 := by unfold ssectors; rw [hq]; rfl
    rw [e1]
    have hb0 := (Below.refl w.heap.size w).alloc (Nat.le_refl _) (sevenO s 23)
    unfold sevenO at hb0
    clear hq e1
    go_enter Tryz.func27, Tryz.ntmps27
    go_wp2_with fail
    refine (Hr.out _).mono ?_
    rintro e w1 ⟨rfl, hb⟩
    have hb1 := hb0.trans (hb.mono (by simp))
    go_wp2_with fail
    go_ret
    exact ⟨rfl, hb1⟩
end Go.Proofs.YtpfkpaombiikcaaGreatDoor
