import Derived.Test.YtpfkpaombiikcaaGreatDoorZSlF
import Derived.Test.YtpfkpaombiikcaaGreatDoorRdRefW
import Derived.BigRegion
/- The document's slots: what is plain in it. -/
set_option maxRecDepth 16000
namespace Go.Proofs.YtpfkpaombiikcaaGreatDoor
open Go.RowKit Go.Pin
set_option linter.unusedVariables false
set_option linter.unusedSimpArgs false
set_option maxHeartbeats 1600000 in
theorem slots_ref (v snap log area half goal step : Int) (w : World) : Calls Tryz.prog 9 #[.agg #[.int .i64 v, .int .i64 snap, .int .i64 log, .int .i64 area, .int .i64 half, .int .i64 goal, .int .i64 step]] w fun e w' => e = .returned (.agg #[.int .i64 v, .int .i64 snap, .int .i64 log, .int .i64 area, .int .i64 half, .int .i64 goal, .int .i64 step]) ∧ Below w.heap.size w w' := by
  have hz : (w.alloc (.cells #[.int .i64 v, .int .i64 snap, .int .i64 log, .int .i64 area, .int .i64 half, .int .i64 goal, .int .i64 step] 23)).heap.size = w.heap.size + 1 := by simp
  have hn := SevenAt.new (w.alloc (.cells #[.int .i64 v, .int .i64 snap, .int .i64 log, .int .i64 area, .int .i64 half, .int .i64 goal, .int .i64 step] 23)) ⟨v, snap, log, area, half, goal, step⟩ 37
  rw [hz] at hn
  unfold sevenO at hn
  dsimp only at hn
  have hb := ((Below.refl w.heap.size w).alloc (Nat.le_refl _) (.cells #[.int .i64 v, .int .i64 snap, .int .i64 log, .int .i64 area, .int .i64 half, .int .i64 goal, .int .i64 step] 23)).alloc (by simp) (.cells #[.int .i64 v, .int .i64 snap, .int .i64 log, .int .i64 area, .int .i64 half, .int .i64 goal, .int .i64 step] 37)
  have Hn := Pin.Aside.mk hn
  have Hb := Pin.Aside.mk hb
  clear hn hb
  go_enter Tryz.func9, Tryz.ntmps9
  go_wp2_with fail
  obtain ⟨c0, c1, c2, c3, c4, c5, c6⟩ := Hn.out
  dsimp only at c0 c1 c2 c3 c4 c5 c6
  refine bodyPost_ret (v := .agg #[.int .i64 v, .int .i64 snap, .int .i64 log, .int .i64 area, .int .i64 half, .int .i64 goal, .int .i64 step]) (by simp [results, Tryz.results9, go_sem, *]) rfl ?_
  exact ⟨rfl, Hb.out⟩
set_option maxHeartbeats 1600000 in
theorem slots_refHard (t o c : Int) (w : World) : Calls Tryz.prog 11 #[.agg #[.int .u64 t, .int .i64 o, .int .u64 c]] w fun e w' => e = .returned (.agg #[.int .u64 t, .int .i64 o, .int .u64 c]) ∧ Below w.heap.size w w' := by
  have hz : (w.alloc (.cells #[.int .u64 t, .int .i64 o, .int .u64 c] 26)).heap.size = w.heap.size + 1 := by simp
  have hn := SevAt.new (w.alloc (.cells #[.int .u64 t, .int .i64 o, .int .u64 c] 26)) #[.int .u64 t, .int .i64 o, .int .u64 c] 40 3 rfl
  rw [hz] at hn
  have hb := ((Below.refl w.heap.size w).alloc (Nat.le_refl _) (.cells #[.int .u64 t, .int .i64 o, .int .u64 c] 26)).alloc (by simp) (.cells #[.int .u64 t, .int .i64 o, .int .u64 c] 40)
  have Hn := Pin.Aside.mk hn.get3
  have Hb := Pin.Aside.mk hb
  clear hn hb
  go_enter Tryz.func11, Tryz.ntmps11
  go_wp2_with fail
  obtain ⟨c0, c1, c2⟩ := Hn.out
  replace c0 : _ = some (Value.int .u64 t) := c0
  replace c1 : _ = some (Value.int .i64 o) := c1
  replace c2 : _ = some (Value.int .u64 c) := c2
  refine bodyPost_ret (v := .agg #[.int .u64 t, .int .i64 o, .int .u64 c]) (by simp [results, Tryz.results11, go_sem, *]) rfl ?_
  exact ⟨rfl, Hb.out⟩
theorem slotsref_number (v n k : Int) (hn0 : 0 ≤ n) (hn : n ≤ 18446744073709551615) (hk0 : 0 ≤ k) (hk : k ≤ 8) (w : World) :
    Calls Tryz.prog 30 #[.int .i64 v, .int .u64 n, .int .i64 k] w fun e w' => e = .returned (.string (snum v n.toNat k)) ∧ Below w.heap.size w w' := by
  by_cases hv : v = 1
  · have hs : snum v n.toNat k = fixedS n.toNat k := by unfold snum; rw [if_pos hv]
    have kv : (v == 1) = true := by simpa using hv
    rw [hs]
    have Hc := Pin.Aside.mk fun W => varref_fixed n k hn0 hn hk0 hk W
    clear hv hs
    go_enter Tryz.func30, Tryz.ntmps30
    go_wp2_with fail
    refine (Hc.out _).mono ?_
    rintro e w1 ⟨rfl, hb⟩
    go_wp2_with fail
    go_ret
    exact ⟨rfl, hb⟩
  · have hs : snum v n.toNat k = vputS n.toNat := by unfold snum; rw [if_neg hv]
    have kv : (v == 1) = false := by simpa using hv
    rw [hs]
    have Hc := Pin.Aside.mk fun W => varref_put n hn0 hn W
    clear hv hs
    go_enter Tryz.func30, Tryz.ntmps30
    go_wp2_with fail
    refine (Hc.out _).mono ?_
    rintro e w1 ⟨rfl, hb⟩
    go_wp2_with fail
    go_ret
    exact ⟨rfl, hb⟩
theorem slotsref_take (b : Nat) (r : Rd) (v k : Int) (hk : -9223372036854775808 ≤ k ∧ k ≤ 9223372036854775807) (w : World) (h : RdAt w b r) (hs : r.s.size ≤ 1152921504606846976) :
    Calls Tryz.prog 73 #[.pointer (some ⟨b, 0, none⟩), .int .i64 v, .int .i64 k] w fun e w' => e = .returned (.int .u64 (stake v r k).1) ∧ RdAt w' b (stake v r k).2 ∧ Keep (fun k => k = b) w w' := by
  by_cases hv : v = 1
  · have hq : stake v r k = r.fixed k := by unfold stake; rw [if_pos hv]
    have kv : (v == 1) = true := by simpa using hv
    rw [hq]
    have Hc := Pin.Aside.mk (rr_fixed b r k w h hk hs)
    clear hv hq
    go_enter Tryz.func73, Tryz.ntmps73
    go_wp2_with fail
    refine Hc.out.mono ?_
    rintro e w1 ⟨rfl, hr, hb⟩
    go_wp2_with fail
    go_ret
    exact ⟨rfl, hr, hb⟩
  · have hq : stake v r k = r.var := by unfold stake; rw [if_neg hv]
    have kv : (v == 1) = false := by simpa using hv
    rw [hq]
    have Hc := Pin.Aside.mk (rr_var b r w h hs)
    clear hv hq
    go_enter Tryz.func73, Tryz.ntmps73
    go_wp2_with fail
    refine Hc.out.mono ?_
    rintro e w1 ⟨rfl, hr, hb⟩
    go_wp2_with fail
    go_ret
    exact ⟨rfl, hr, hb⟩
set_option maxHeartbeats 6400000 in
theorem slotsref_right (s : Sup) (w : World) : Calls Tryz.prog 28 #[.agg #[.int .i64 s.v, .int .i64 s.snap, .int .i64 s.log, .int .i64 s.area, .int .i64 s.half, .int .i64 s.goal, .int .i64 s.step]] w fun e w' => e = .returned (.bool s.right) ∧ Below w.heap.size w w' := by
  obtain ⟨b, hbr⟩ : ∃ b, s.right = b := ⟨_, rfl⟩
  have Hb := Pin.Aside.mk hbr
  obtain ⟨v, snap, log, area, half, goal, step⟩ := s
  dsimp only
  rw [hbr]
  have Hr := Pin.Aside.mk (show ((⟨v, snap, log, area, half, goal, step⟩ : Sup).right = true) ↔ _ from decide_eq_true_iff)
  clear hbr
  by_cases v1 : v = 1
  · subst v1
    by_cases h0 : snap < 1
    · obtain rfl : b = false := by
        rw [← Hb.out]
        cases hq : (⟨1, snap, log, area, half, goal, step⟩ : Sup).right; rfl; exact absurd (Sup.right_iff hq) (by dsimp only; omega)
      have g0 : ¬ 1 ≤ snap := by omega
      go_enter Tryz.func28, Tryz.ntmps28
      go_wp2_with fail
      go_ret
      exact ⟨rfl, (Below.refl _ _).alloc (Nat.le_refl _) _⟩
    have g0 : 1 ≤ snap := by omega
    by_cases h1 : 1000 < snap
    · obtain rfl : b = false := by
        rw [← Hb.out]
        cases hq : (⟨1, snap, log, area, half, goal, step⟩ : Sup).right; rfl; exact absurd (Sup.right_iff hq) (by dsimp only; omega)
      have g1 : ¬ snap ≤ 1000 := by omega
      go_enter Tryz.func28, Tryz.ntmps28
      go_wp2_with fail
      go_ret
      exact ⟨rfl, (Below.refl _ _).alloc (Nat.le_refl _) _⟩
    have g1 : snap ≤ 1000 := by omega
    by_cases h2 : log < 1
    · obtain rfl : b = false := by
        rw [← Hb.out]
        cases hq : (⟨1, snap, log, area, half, goal, step⟩ : Sup).right; rfl; exact absurd (Sup.right_iff hq) (by dsimp only; omega)
      have g2 : ¬ 1 ≤ log := by omega
      go_enter Tryz.func28, Tryz.ntmps28
      go_wp2_with fail
      go_ret
      exact ⟨rfl, (Below.refl _ _).alloc (Nat.le_refl _) _⟩
    have g2 : 1 ≤ log := by omega
    by_cases h3 : 1000 < log
    · obtain rfl : b = false := by
        rw [← Hb.out]
        cases hq : (⟨1, snap, log, area, half, goal, step⟩ : Sup).right; rfl; exact absurd (Sup.right_iff hq) (by dsimp only; omega)
      have g3 : ¬ log ≤ 1000 := by omega
      go_enter Tryz.func28, Tryz.ntmps28
      go_wp2_with fail
      go_ret
      exact ⟨rfl, (Below.refl _ _).alloc (Nat.le_refl _) _⟩
    have g3 : log ≤ 1000 := by omega
    by_cases h4 : area < 0
    · obtain rfl : b = false := by
        rw [← Hb.out]
        cases hq : (⟨1, snap, log, area, half, goal, step⟩ : Sup).right; rfl; exact absurd (Sup.right_iff hq) (by dsimp only; omega)
      have g4 : ¬ 0 ≤ area := by omega
      go_enter Tryz.func28, Tryz.ntmps28
      go_wp2_with fail
      go_ret
      exact ⟨rfl, (Below.refl _ _).alloc (Nat.le_refl _) _⟩
    have g4 : 0 ≤ area := by omega
    by_cases h5 : 1 < area
    · obtain rfl : b = false := by
        rw [← Hb.out]
        cases hq : (⟨1, snap, log, area, half, goal, step⟩ : Sup).right; rfl; exact absurd (Sup.right_iff hq) (by dsimp only; omega)
      have g5 : ¬ area ≤ 1 := by omega
      go_enter Tryz.func28, Tryz.ntmps28
      go_wp2_with fail
      go_ret
      exact ⟨rfl, (Below.refl _ _).alloc (Nat.le_refl _) _⟩
    have g5 : area ≤ 1 := by omega
    by_cases h6 : half < 0
    · obtain rfl : b = false := by
        rw [← Hb.out]
        cases hq : (⟨1, snap, log, area, half, goal, step⟩ : Sup).right; rfl; exact absurd (Sup.right_iff hq) (by dsimp only; omega)
      have g6 : ¬ 0 ≤ half := by omega
      go_enter Tryz.func28, Tryz.ntmps28
      go_wp2_with fail
      go_ret
      exact ⟨rfl, (Below.refl _ _).alloc (Nat.le_refl _) _⟩
    have g6 : 0 ≤ half := by omega
    by_cases h7 : 1 < half
    · obtain rfl : b = false := by
        rw [← Hb.out]
        cases hq : (⟨1, snap, log, area, half, goal, step⟩ : Sup).right; rfl; exact absurd (Sup.right_iff hq) (by dsimp only; omega)
      have g7 : ¬ half ≤ 1 := by omega
      go_enter Tryz.func28, Tryz.ntmps28
      go_wp2_with fail
      go_ret
      exact ⟨rfl, (Below.refl _ _).alloc (Nat.le_refl _) _⟩
    have g7 : half ≤ 1 := by omega
    by_cases h8 : goal < 0
    · obtain rfl : b = false := by
        rw [← Hb.out]
        cases hq : (⟨1, snap, log, area, half, goal, step⟩ : Sup).right; rfl; exact absurd (Sup.right_iff hq) (by dsimp only; omega)
      have g8 : ¬ 0 ≤ goal := by omega
      go_enter Tryz.func28, Tryz.ntmps28
      go_wp2_with fail
      go_ret
      exact ⟨rfl, (Below.refl _ _).alloc (Nat.le_refl _) _⟩
    have g8 : 0 ≤ goal := by omega
    by_cases h9 : 2 < goal
    · obtain rfl : b = false := by
        rw [← Hb.out]
        cases hq : (⟨1, snap, log, area, half, goal, step⟩ : Sup).right; rfl; exact absurd (Sup.right_iff hq) (by dsimp only; omega)
      have g9 : ¬ goal ≤ 2 := by omega
      go_enter Tryz.func28, Tryz.ntmps28
      go_wp2_with fail
      go_ret
      exact ⟨rfl, (Below.refl _ _).alloc (Nat.le_refl _) _⟩
    have g9 : goal ≤ 2 := by omega
    by_cases h10 : step < 0
    · obtain rfl : b = false := by
        rw [← Hb.out]
        cases hq : (⟨1, snap, log, area, half, goal, step⟩ : Sup).right; rfl; exact absurd (Sup.right_iff hq) (by dsimp only; omega)
      have g10 : ¬ 0 ≤ step := by omega
      go_enter Tryz.func28, Tryz.ntmps28
      go_wp2_with fail
      go_ret
      exact ⟨rfl, (Below.refl _ _).alloc (Nat.le_refl _) _⟩
    have g10 : 0 ≤ step := by omega
    by_cases h11 : 9 < step
    · obtain rfl : b = false := by
        rw [← Hb.out]
        cases hq : (⟨1, snap, log, area, half, goal, step⟩ : Sup).right; rfl; exact absurd (Sup.right_iff hq) (by dsimp only; omega)
      have g11 : ¬ step ≤ 9 := by omega
      go_enter Tryz.func28, Tryz.ntmps28
      go_wp2_with fail
      go_ret
      exact ⟨rfl, (Below.refl _ _).alloc (Nat.le_refl _) _⟩
    have g11 : step ≤ 9 := by omega
    by_cases hg : 0 < goal
    · obtain rfl : b = true := by
        rw [← Hb.out]
        rw [Hr.out]; dsimp only; omega
      go_enter Tryz.func28, Tryz.ntmps28
      go_wp2_with fail
      go_ret
      exact ⟨rfl, (Below.refl _ _).alloc (Nat.le_refl _) _⟩
    by_cases hs : step = 0
    · have ks : (step == 0) = true := by simpa using hs
      have kg : decide (0 < goal) = false := by simpa using hg
      obtain rfl : b = true := by
        rw [← Hb.out]
        rw [Hr.out]; dsimp only; omega
      clear hs
      go_enter Tryz.func28, Tryz.ntmps28
      go_wp2_with fail
      go_ret
      exact ⟨rfl, (Below.refl _ _).alloc (Nat.le_refl _) _⟩
    have ks : (step == 0) = false := by simpa using hs
    have kg : decide (0 < goal) = false := by simpa using hg
    obtain rfl : b = false := by
      rw [← Hb.out]
      cases hq : (⟨1, snap, log, area, half, goal, step⟩ : Sup).right; rfl; exact absurd (Sup.right_iff hq) (by dsimp only; omega)
    go_enter Tryz.func28, Tryz.ntmps28
    go_wp2_with fail
    go_ret
    exact ⟨rfl, (Below.refl _ _).alloc (Nat.le_refl _) _⟩
  by_cases v2 : v = 2
  · subst v2
    by_cases h0 : snap < 1
    · obtain rfl : b = false := by
        rw [← Hb.out]
        cases hq : (⟨2, snap, log, area, half, goal, step⟩ : Sup).right; rfl; exact absurd (Sup.right_iff hq) (by dsimp only; omega)
      have g0 : ¬ 1 ≤ snap := by omega
      go_enter Tryz.func28, Tryz.ntmps28
      go_wp2_with fail
      go_ret
      exact ⟨rfl, (Below.refl _ _).alloc (Nat.le_refl _) _⟩
    have g0 : 1 ≤ snap := by omega
    by_cases h1 : 1000 < snap
    · obtain rfl : b = false := by
        rw [← Hb.out]
        cases hq : (⟨2, snap, log, area, half, goal, step⟩ : Sup).right; rfl; exact absurd (Sup.right_iff hq) (by dsimp only; omega)
      have g1 : ¬ snap ≤ 1000 := by omega
      go_enter Tryz.func28, Tryz.ntmps28
      go_wp2_with fail
      go_ret
      exact ⟨rfl, (Below.refl _ _).alloc (Nat.le_refl _) _⟩
    have g1 : snap ≤ 1000 := by omega
    by_cases h2 : log < 1
    · obtain rfl : b = false := by
        rw [← Hb.out]
        cases hq : (⟨2, snap, log, area, half, goal, step⟩ : Sup).right; rfl; exact absurd (Sup.right_iff hq) (by dsimp only; omega)
      have g2 : ¬ 1 ≤ log := by omega
      go_enter Tryz.func28, Tryz.ntmps28
      go_wp2_with fail
      go_ret
      exact ⟨rfl, (Below.refl _ _).alloc (Nat.le_refl _) _⟩
    have g2 : 1 ≤ log := by omega
    by_cases h3 : 1000 < log
    · obtain rfl : b = false := by
        rw [← Hb.out]
        cases hq : (⟨2, snap, log, area, half, goal, step⟩ : Sup).right; rfl; exact absurd (Sup.right_iff hq) (by dsimp only; omega)
      have g3 : ¬ log ≤ 1000 := by omega
      go_enter Tryz.func28, Tryz.ntmps28
      go_wp2_with fail
      go_ret
      exact ⟨rfl, (Below.refl _ _).alloc (Nat.le_refl _) _⟩
    have g3 : log ≤ 1000 := by omega
    by_cases h4 : area < 0
    · obtain rfl : b = false := by
        rw [← Hb.out]
        cases hq : (⟨2, snap, log, area, half, goal, step⟩ : Sup).right; rfl; exact absurd (Sup.right_iff hq) (by dsimp only; omega)
      have g4 : ¬ 0 ≤ area := by omega
      go_enter Tryz.func28, Tryz.ntmps28
      go_wp2_with fail
      go_ret
      exact ⟨rfl, (Below.refl _ _).alloc (Nat.le_refl _) _⟩
    have g4 : 0 ≤ area := by omega
    by_cases h5 : 1 < area
    · obtain rfl : b = false := by
        rw [← Hb.out]
        cases hq : (⟨2, snap, log, area, half, goal, step⟩ : Sup).right; rfl; exact absurd (Sup.right_iff hq) (by dsimp only; omega)
      have g5 : ¬ area ≤ 1 := by omega
      go_enter Tryz.func28, Tryz.ntmps28
      go_wp2_with fail
      go_ret
      exact ⟨rfl, (Below.refl _ _).alloc (Nat.le_refl _) _⟩
    have g5 : area ≤ 1 := by omega
    by_cases h6 : half < 0
    · obtain rfl : b = false := by
        rw [← Hb.out]
        cases hq : (⟨2, snap, log, area, half, goal, step⟩ : Sup).right; rfl; exact absurd (Sup.right_iff hq) (by dsimp only; omega)
      have g6 : ¬ 0 ≤ half := by omega
      go_enter Tryz.func28, Tryz.ntmps28
      go_wp2_with fail
      go_ret
      exact ⟨rfl, (Below.refl _ _).alloc (Nat.le_refl _) _⟩
    have g6 : 0 ≤ half := by omega
    by_cases h7 : 1 < half
    · obtain rfl : b = false := by
        rw [← Hb.out]
        cases hq : (⟨2, snap, log, area, half, goal, step⟩ : Sup).right; rfl; exact absurd (Sup.right_iff hq) (by dsimp only; omega)
      have g7 : ¬ half ≤ 1 := by omega
      go_enter Tryz.func28, Tryz.ntmps28
      go_wp2_with fail
      go_ret
      exact ⟨rfl, (Below.refl _ _).alloc (Nat.le_refl _) _⟩
    have g7 : half ≤ 1 := by omega
    by_cases h8 : goal < 0
    · obtain rfl : b = false := by
        rw [← Hb.out]
        cases hq : (⟨2, snap, log, area, half, goal, step⟩ : Sup).right; rfl; exact absurd (Sup.right_iff hq) (by dsimp only; omega)
      have g8 : ¬ 0 ≤ goal := by omega
      go_enter Tryz.func28, Tryz.ntmps28
      go_wp2_with fail
      go_ret
      exact ⟨rfl, (Below.refl _ _).alloc (Nat.le_refl _) _⟩
    have g8 : 0 ≤ goal := by omega
    by_cases h9 : 2 < goal
    · obtain rfl : b = false := by
        rw [← Hb.out]
        cases hq : (⟨2, snap, log, area, half, goal, step⟩ : Sup).right; rfl; exact absurd (Sup.right_iff hq) (by dsimp only; omega)
      have g9 : ¬ goal ≤ 2 := by omega
      go_enter Tryz.func28, Tryz.ntmps28
      go_wp2_with fail
      go_ret
      exact ⟨rfl, (Below.refl _ _).alloc (Nat.le_refl _) _⟩
    have g9 : goal ≤ 2 := by omega
    by_cases h10 : step < 0
    · obtain rfl : b = false := by
        rw [← Hb.out]
        cases hq : (⟨2, snap, log, area, half, goal, step⟩ : Sup).right; rfl; exact absurd (Sup.right_iff hq) (by dsimp only; omega)
      have g10 : ¬ 0 ≤ step := by omega
      go_enter Tryz.func28, Tryz.ntmps28
      go_wp2_with fail
      go_ret
      exact ⟨rfl, (Below.refl _ _).alloc (Nat.le_refl _) _⟩
    have g10 : 0 ≤ step := by omega
    by_cases h11 : 9 < step
    · obtain rfl : b = false := by
        rw [← Hb.out]
        cases hq : (⟨2, snap, log, area, half, goal, step⟩ : Sup).right; rfl; exact absurd (Sup.right_iff hq) (by dsimp only; omega)
      have g11 : ¬ step ≤ 9 := by omega
      go_enter Tryz.func28, Tryz.ntmps28
      go_wp2_with fail
      go_ret
      exact ⟨rfl, (Below.refl _ _).alloc (Nat.le_refl _) _⟩
    have g11 : step ≤ 9 := by omega
    by_cases hg : 0 < goal
    · obtain rfl : b = true := by
        rw [← Hb.out]
        rw [Hr.out]; dsimp only; omega
      go_enter Tryz.func28, Tryz.ntmps28
      go_wp2_with fail
      go_ret
      exact ⟨rfl, (Below.refl _ _).alloc (Nat.le_refl _) _⟩
    by_cases hs : step = 0
    · have ks : (step == 0) = true := by simpa using hs
      have kg : decide (0 < goal) = false := by simpa using hg
      obtain rfl : b = true := by
        rw [← Hb.out]
        rw [Hr.out]; dsimp only; omega
      clear hs
      go_enter Tryz.func28, Tryz.ntmps28
      go_wp2_with fail
      go_ret
      exact ⟨rfl, (Below.refl _ _).alloc (Nat.le_refl _) _⟩
    have ks : (step == 0) = false := by simpa using hs
    have kg : decide (0 < goal) = false := by simpa using hg
    obtain rfl : b = false := by
      rw [← Hb.out]
      cases hq : (⟨2, snap, log, area, half, goal, step⟩ : Sup).right; rfl; exact absurd (Sup.right_iff hq) (by dsimp only; omega)
    go_enter Tryz.func28, Tryz.ntmps28
    go_wp2_with fail
    go_ret
    exact ⟨rfl, (Below.refl _ _).alloc (Nat.le_refl _) _⟩
  have k1 : (v != 1) = true := by simpa using v1
  have k2 : (v != 2) = true := by simpa using v2
  obtain rfl : b = false := by
    rw [← Hb.out]
    cases hq : (⟨v, snap, log, area, half, goal, step⟩ : Sup).right; rfl; exact absurd (Sup.right_iff hq) (by dsimp only; omega)
  go_enter Tryz.func28, Tryz.ntmps28
  go_wp2_with fail
  go_ret
  exact ⟨rfl, (Below.refl _ _).alloc (Nat.le_refl _) _⟩
theorem slotsref_sectors (s : Sup) (w : World) : Calls Tryz.prog 41 #[.agg #[.int .i64 s.v, .int .i64 s.snap, .int .i64 s.log, .int .i64 s.area, .int .i64 s.half, .int .i64 s.goal, .int .i64 s.step]] w fun e w' => e = .returned (.int .i64 (ssectors s)) ∧ Below w.heap.size w w' := by
  have hr := fun W => slotsref_right s W
  obtain ⟨b, hb⟩ : ∃ b, s.right = b := ⟨_, rfl⟩
  have hn := SevenAt.new w s 37
  have hb0 := (Below.refl w.heap.size w).alloc (Nat.le_refl _) (sevenO s 37)
  rw [hb] at hr
  cases b with
  | false =>
    have E : ssectors s = 0 := by unfold ssectors; rw [if_neg (by rw [hb]; simp)]
    rw [E]
    unfold sevenO at hb0
    have Hr := Pin.Aside.mk hr
    have Hb := Pin.Aside.mk hb0
    clear hr hn hb hb0 E
    obtain ⟨v, snap, log, area, half, goal, step⟩ := s
    go_enter Tryz.func41, Tryz.ntmps41
    go_wp2_with fail
    refine (Hr.out _).mono ?_
    rintro e w1 ⟨rfl, hbb⟩
    have hE := Below.next Hb.out hbb
    clear hbb
    go_wp2_with fail
    go_ret
    exact ⟨rfl, hE⟩
  | true =>
    have E : ssectors s = 4 + 2 * (s.snap + s.log) := by unfold ssectors; rw [if_pos hb]
    obtain ⟨_, ⟨b1, b2⟩, ⟨b3, b4⟩, _⟩ := Sup.right_iff hb
    rw [E]
    unfold sevenO at hb0 hn
    have Hr := Pin.Aside.mk hr
    have Hb := Pin.Aside.mk hb0
    have Hn := Pin.Aside.mk hn
    clear hr hn hb hb0 E
    obtain ⟨v, snap, log, area, half, goal, step⟩ := s
    dsimp only at b1 b2 b3 b4
    go_enter Tryz.func41, Tryz.ntmps41
    go_wp2_with fail
    refine (Hr.out _).mono ?_
    rintro e w1 ⟨rfl, hbb⟩
    have hE := Pin.Aside.mk (Below.next Hb.out hbb)
    obtain ⟨c0, c1, c2, c3, c4, c5, c6⟩ := Hn.out.below hbb
    dsimp only at c0 c1 c2 c3 c4 c5 c6
    clear hbb
    go_wp2_with fail
    go_ret
    exact ⟨rfl, hE.out⟩
end Go.Proofs.YtpfkpaombiikcaaGreatDoor
/- The document's slots: what is put. -/
set_option maxRecDepth 16000
namespace Go.Proofs.YtpfkpaombiikcaaGreatDoor
open Go.RowKit Go.Pin
set_option linter.unusedVariables false
set_option linter.unusedSimpArgs false
set_option maxHeartbeats 3200000 in
theorem slotsref_puthard1 (t o c : Int) (ht : 0 ≤ t ∧ t ≤ 18446744073709551615) (ho : 0 ≤ o ∧ o ≤ 7) (hc : 0 ≤ c ∧ c ≤ 18446744073709551615) (w : World) :
    Calls Tryz.prog 10 #[.int .i64 1, .agg #[.int .u64 t, .int .i64 o, .int .u64 c]] w fun e w' => e = .returned (.tuple #[.string (hardS 1 ⟨t, o, c⟩), .bool true]) ∧ Below w.heap.size w w' := by
  have e : hardS 1 ⟨t, o, c⟩ = fixedS 17 1 ++ snum 1 t.toNat 8 ++ snum 1 o.toNat 1 ++ snum 1 c.toNat 8 := rfl
  rw [e]
  have Hf := Pin.Aside.mk fun W => varref_fixed 17 1 (by omega) (by omega) (by omega) (by omega) W
  have Ht := Pin.Aside.mk fun W => slotsref_number 1 t 8 ht.1 ht.2 (by omega) (by omega) W
  have Ho := Pin.Aside.mk fun W => slotsref_number 1 o 1 ho.1 (by omega) (by omega) (by omega) W
  have Hc := Pin.Aside.mk fun W => slotsref_number 1 c 8 hc.1 hc.2 (by omega) (by omega) W
  have z0 : (fixedS 17 1).size ≤ 10 := by decide +kernel
  have z1 := snum_size 1 t.toNat 8
  have z2 := snum_size 1 o.toNat 1
  have z3 := snum_size 1 c.toNat 8
  obtain ⟨T0, e0⟩ : ∃ T, fixedS 17 1 = T := ⟨_, rfl⟩
  replace Hf : Pin.Aside (∀ W, Calls Tryz.prog 29 #[.int .u64 17, .int .i64 1] W fun e w' => e = .returned (.string (fixedS 17 1)) ∧ Below W.heap.size W w') := Hf
  rw [e0] at z0 Hf
  rw [e0]
  generalize snum 1 t.toNat 8 = T1 at *
  generalize snum 1 o.toNat 1 = T2 at *
  generalize snum 1 c.toNat 8 = T3 at *
  have hn := SevAt.new w #[.int .u64 t, .int .i64 o, .int .u64 c] 40 3 rfl
  have hb := (Below.refl w.heap.size w).alloc (Nat.le_refl _) (.cells #[.int .u64 t, .int .i64 o, .int .u64 c] 40)
  have hN := hn.get3
  have hwo : IntKind.u64.wrap o = o := by rw [IntKind.wrap_u64]; omega
  clear e e0 hn
  go_enter Tryz.func10, Tryz.ntmps10
  go_upto_region 3 with fail
  generalize w.alloc (.cells #[.int .u64 t, .int .i64 o, .int .u64 c] 40) = w1 at *
  generalize hU : w.heap.size = U at *
  have HU := Pin.Aside.mk hU
  have k0 : ∀ s' : KW (fun _ => False) w1, s'.w.cell? ⟨U, 0, none⟩ = some (.int .u64 t) := fun s' => s'.keep.cell hN.1 id
  have k1 : ∀ s' : KW (fun _ => False) w1, s'.w.cell? ⟨U, 1, none⟩ = some (.int .i64 o) := fun s' => s'.keep.cell hN.2.1 id
  have k2 : ∀ s' : KW (fun _ => False) w1, s'.w.cell? ⟨U, 2, none⟩ = some (.int .u64 c) := fun s' => s'.keep.cell hN.2.2 id
  have a1 : ¬ 9223372036854775807 < T0.size + T1.size := by omega
  have a2 : ¬ 9223372036854775807 < T0.size + T1.size + T2.size := by omega
  have a3 : ¬ 9223372036854775807 < T0.size + T1.size + T2.size + T3.size := by omega
  have HB := Pin.Aside.mk hb
  clear hN hU z0 z1 z2 z3 hb
  refine wp_region_keep (fun _ => False) (by kernel_rfl) (by kernel_rfl) ?_
  repeat (go_big_quiet_step ((first | (go_at_call 29; with_reducible exact KW.calls (Hf.out _)) | (go_at_call 30; first | with_reducible exact KW.calls (Ht.out _) | with_reducible exact KW.calls (Ho.out _) | with_reducible exact KW.calls (Hc.out _)))))
  refine wpQuiet_nil ?_
  intro s4'
  have hE := HB.out.trans (s4'.keep.below (by have := HB.out.size; rw [HU.out] at this; exact this) fun _ q => q.elim)
  clear k0 k1 k2
  go_wp2_with fail
  go_ret2
  exact ⟨rfl, by rw [HU.out]; exact hE⟩
set_option maxHeartbeats 3200000 in
theorem slotsref_puthard2 (t o c : Int) (ht : 0 ≤ t ∧ t ≤ 18446744073709551615) (ho : 0 ≤ o ∧ o ≤ 7) (hc : 0 ≤ c ∧ c ≤ 18446744073709551615) (w : World) :
    Calls Tryz.prog 10 #[.int .i64 2, .agg #[.int .u64 t, .int .i64 o, .int .u64 c]] w fun e w' => e = .returned (.tuple #[.string (hardS 2 ⟨t, o, c⟩), .bool true]) ∧ Below w.heap.size w w' := by
  have e : hardS 2 ⟨t, o, c⟩ = fixedS 18 1 ++ snum 2 t.toNat 8 ++ snum 2 o.toNat 1 ++ snum 2 c.toNat 8 := rfl
  rw [e]
  have Hf := Pin.Aside.mk fun W => varref_fixed 18 1 (by omega) (by omega) (by omega) (by omega) W
  have Ht := Pin.Aside.mk fun W => slotsref_number 2 t 8 ht.1 ht.2 (by omega) (by omega) W
  have Ho := Pin.Aside.mk fun W => slotsref_number 2 o 1 ho.1 (by omega) (by omega) (by omega) W
  have Hc := Pin.Aside.mk fun W => slotsref_number 2 c 8 hc.1 hc.2 (by omega) (by omega) W
  have z0 : (fixedS 18 1).size ≤ 10 := by decide +kernel
  have z1 := snum_size 2 t.toNat 8
  have z2 := snum_size 2 o.toNat 1
  have z3 := snum_size 2 c.toNat 8
  obtain ⟨T0, e0⟩ : ∃ T, fixedS 18 1 = T := ⟨_, rfl⟩
  replace Hf : Pin.Aside (∀ W, Calls Tryz.prog 29 #[.int .u64 18, .int .i64 1] W fun e w' => e = .returned (.string (fixedS 18 1)) ∧ Below W.heap.size W w') := Hf
  rw [e0] at z0 Hf
  rw [e0]
  generalize snum 2 t.toNat 8 = T1 at *
  generalize snum 2 o.toNat 1 = T2 at *
  generalize snum 2 c.toNat 8 = T3 at *
  have hn := SevAt.new w #[.int .u64 t, .int .i64 o, .int .u64 c] 40 3 rfl
  have hb := (Below.refl w.heap.size w).alloc (Nat.le_refl _) (.cells #[.int .u64 t, .int .i64 o, .int .u64 c] 40)
  have hN := hn.get3
  have hwo : IntKind.u64.wrap o = o := by rw [IntKind.wrap_u64]; omega
  clear e e0 hn
  go_enter Tryz.func10, Tryz.ntmps10
  go_upto_region 3 with fail
  generalize w.alloc (.cells #[.int .u64 t, .int .i64 o, .int .u64 c] 40) = w1 at *
  generalize hU : w.heap.size = U at *
  have HU := Pin.Aside.mk hU
  have k0 : ∀ s' : KW (fun _ => False) w1, s'.w.cell? ⟨U, 0, none⟩ = some (.int .u64 t) := fun s' => s'.keep.cell hN.1 id
  have k1 : ∀ s' : KW (fun _ => False) w1, s'.w.cell? ⟨U, 1, none⟩ = some (.int .i64 o) := fun s' => s'.keep.cell hN.2.1 id
  have k2 : ∀ s' : KW (fun _ => False) w1, s'.w.cell? ⟨U, 2, none⟩ = some (.int .u64 c) := fun s' => s'.keep.cell hN.2.2 id
  have a1 : ¬ 9223372036854775807 < T0.size + T1.size := by omega
  have a2 : ¬ 9223372036854775807 < T0.size + T1.size + T2.size := by omega
  have a3 : ¬ 9223372036854775807 < T0.size + T1.size + T2.size + T3.size := by omega
  have HB := Pin.Aside.mk hb
  clear hN hU z0 z1 z2 z3 hb
  refine wp_region_keep (fun _ => False) (by kernel_rfl) (by kernel_rfl) ?_
  repeat (go_big_quiet_step ((first | (go_at_call 29; with_reducible exact KW.calls (Hf.out _)) | (go_at_call 30; first | with_reducible exact KW.calls (Ht.out _) | with_reducible exact KW.calls (Ho.out _) | with_reducible exact KW.calls (Hc.out _)))))
  refine wpQuiet_nil ?_
  intro s4'
  have hE := HB.out.trans (s4'.keep.below (by have := HB.out.size; rw [HU.out] at this; exact this) fun _ q => q.elim)
  clear k0 k1 k2
  go_wp2_with fail
  go_ret2
  exact ⟨rfl, by rw [HU.out]; exact hE⟩
set_option maxHeartbeats 1600000 in
theorem slotsref_puthard (v t o c : Int) (ht : 0 ≤ t ∧ t ≤ 18446744073709551615) (hc : 0 ≤ c ∧ c ≤ 18446744073709551615) (w : World) :
    Calls Tryz.prog 10 #[.int .i64 v, .agg #[.int .u64 t, .int .i64 o, .int .u64 c]] w fun e w' => e = .returned (.tuple #[.string (hardput v ⟨t, o, c⟩).1, .bool (hardput v ⟨t, o, c⟩).2]) ∧ Below w.heap.size w w' := by
  by_cases hy : (v = 1 ∨ v = 2) ∧ 0 ≤ o ∧ o ≤ 7
  · have e : hardput v ⟨t, o, c⟩ = (hardS v ⟨t, o, c⟩, true) := by unfold hardput; exact if_pos hy
    rw [e]
    rcases hy.1 with rfl | rfl
    · exact slotsref_puthard1 t o c ht hy.2 hc w
    · exact slotsref_puthard2 t o c ht hy.2 hc w
  · have e : hardput v ⟨t, o, c⟩ = (⟨#[]⟩, false) := by unfold hardput; exact if_neg hy
    rw [e]
    clear e
    by_cases v1 : v = 1
    · subst v1
      have hq : o < 0 ∨ 7 < o := by omega
      by_cases ho : o < 0
      · go_enter Tryz.func10, Tryz.ntmps10
        go_wp2_with fail
        go_ret2
        exact ⟨rfl, (Below.refl _ _).alloc (Nat.le_refl _) _⟩
      · have ho2 : 7 < o := by omega
        have ho3 : 0 ≤ o := by omega
        go_enter Tryz.func10, Tryz.ntmps10
        go_wp2_with fail
        go_ret2
        exact ⟨rfl, (Below.refl _ _).alloc (Nat.le_refl _) _⟩
    by_cases v2 : v = 2
    · subst v2
      have hq : o < 0 ∨ 7 < o := by omega
      by_cases ho : o < 0
      · go_enter Tryz.func10, Tryz.ntmps10
        go_wp2_with fail
        go_ret2
        exact ⟨rfl, (Below.refl _ _).alloc (Nat.le_refl _) _⟩
      · have ho2 : 7 < o := by omega
        have ho3 : 0 ≤ o := by omega
        go_enter Tryz.func10, Tryz.ntmps10
        go_wp2_with fail
        go_ret2
        exact ⟨rfl, (Below.refl _ _).alloc (Nat.le_refl _) _⟩
    have k1 : (v != 1) = true := by simpa using v1
    have k2 : (v != 2) = true := by simpa using v2
    clear hy v1 v2
    go_enter Tryz.func10, Tryz.ntmps10
    go_wp2_with fail
    go_ret2
    exact ⟨rfl, (Below.refl _ _).alloc (Nat.le_refl _) _⟩
end Go.Proofs.YtpfkpaombiikcaaGreatDoor
/- The document's slots: a super is put. -/
set_option maxRecDepth 16000
namespace Go.Pin
open Go.RowKit
set_option linter.unusedVariables false
set_option linter.unusedSimpArgs false
/-- What stands after so many fields. -/
def sacc (T0 T1 T2 T3 T4 T5 T6 : ByteArray) : Nat → ByteArray
  | 0 => T0
  | 1 => T0 ++ T1
  | 2 => T0 ++ T1 ++ T2
  | 3 => T0 ++ T1 ++ T2 ++ T3
  | 4 => T0 ++ T1 ++ T2 ++ T3 ++ T4
  | 5 => T0 ++ T1 ++ T2 ++ T3 ++ T4 ++ T5
  | _ => T0 ++ T1 ++ T2 ++ T3 ++ T4 ++ T5 ++ T6
structure SixAt (w : World) (B : Nat) (snap log area half goal step : Int) : Prop where
  c0 : w.cell? ⟨B, 0, none⟩ = some (.int .i64 snap)
  c1 : w.cell? ⟨B, 1, none⟩ = some (.int .i64 log)
  c2 : w.cell? ⟨B, 2, none⟩ = some (.int .i64 area)
  c3 : w.cell? ⟨B, 3, none⟩ = some (.int .i64 half)
  c4 : w.cell? ⟨B, 4, none⟩ = some (.int .i64 goal)
  c5 : w.cell? ⟨B, 5, none⟩ = some (.int .i64 step)
theorem SixAt.keep {S : Nat → Prop} {a w : World} {B : Nat} {snap log area half goal step : Int} (h : SixAt a B snap log area half goal step) (hk : Keep S a w) (hn : ¬ S B) : SixAt w B snap log area half goal step := ⟨hk.cell h.c0 hn, hk.cell h.c1 hn, hk.cell h.c2 hn, hk.cell h.c3 hn, hk.cell h.c4 hn, hk.cell h.c5 hn⟩
theorem SixAt.new (w : World) (snap log area half goal step : Int) (t : TypeId) : SixAt (w.alloc (.cells #[.int .i64 snap, .int .i64 log, .int .i64 area, .int .i64 half, .int .i64 goal, .int .i64 step] t)) w.heap.size snap log area half goal step :=
  ⟨World.cell?_alloc_at _ _ _ _ rfl, World.cell?_alloc_at _ _ _ _ rfl, World.cell?_alloc_at _ _ _ _ rfl, World.cell?_alloc_at _ _ _ _ rfl, World.cell?_alloc_at _ _ _ _ rfl, World.cell?_alloc_at _ _ _ _ rfl⟩
end Go.Pin
namespace Go.Proofs.YtpfkpaombiikcaaGreatDoor
open Go.RowKit Go.Pin
set_option linter.unusedVariables false
set_option linter.unusedSimpArgs false
set_option maxHeartbeats 6400000 in
theorem slotsref_putsuper_yes (v snap log area half goal step : Int) (hr : (⟨v, snap, log, area, half, goal, step⟩ : Sup).right = true) (w : World) :
    Calls Tryz.prog 8 #[.agg #[.int .i64 v, .int .i64 snap, .int .i64 log, .int .i64 area, .int .i64 half, .int .i64 goal, .int .i64 step]] w fun e w' => e = .returned (.tuple #[.string (supS ⟨v, snap, log, area, half, goal, step⟩), .bool true]) ∧ Below w.heap.size w w' := by
  have E : supS ⟨v, snap, log, area, half, goal, step⟩ = fixedS v.toNat 1 ++ snum v snap.toNat 2 ++ snum v log.toNat 2 ++ snum v area.toNat 1 ++ snum v half.toNat 1 ++ snum v goal.toNat 1 ++ snum v step.toNat 1 := rfl
  rw [E]
  clear E
  obtain ⟨⟨b0, b1⟩, ⟨b2, b3⟩, ⟨b4, b5⟩, ⟨b6, b7⟩, ⟨b8, b9⟩, ⟨b10, b11⟩, ⟨b12, b13⟩, _⟩ := Sup.right_iff hr
  dsimp only at b0 b1 b2 b3 b4 b5 b6 b7 b8 b9 b10 b11 b12 b13
  have Hr := Pin.Aside.mk fun W => slotsref_right ⟨v, snap, log, area, half, goal, step⟩ W
  rw [hr] at Hr
  have Hf := Pin.Aside.mk fun W => varref_fixed v 1 (by omega) (by omega) (by omega) (by omega) W
  have z0 : (fixedS v.toNat 1).size ≤ 10 := by
    unfold fixedS
    rw [if_neg (by omega), size_mk, fixedL_len]; decide
  have Hn0 := Pin.Aside.mk fun W => slotsref_number v snap 2 (by omega) (by omega) (by omega) (by omega) W
  have z1 := snum_size v snap.toNat 2
  have Hn1 := Pin.Aside.mk fun W => slotsref_number v log 2 (by omega) (by omega) (by omega) (by omega) W
  have z2 := snum_size v log.toNat 2
  have Hn2 := Pin.Aside.mk fun W => slotsref_number v area 1 (by omega) (by omega) (by omega) (by omega) W
  have z3 := snum_size v area.toNat 1
  have Hn3 := Pin.Aside.mk fun W => slotsref_number v half 1 (by omega) (by omega) (by omega) (by omega) W
  have z4 := snum_size v half.toNat 1
  have Hn4 := Pin.Aside.mk fun W => slotsref_number v goal 1 (by omega) (by omega) (by omega) (by omega) W
  have z5 := snum_size v goal.toNat 1
  have Hn5 := Pin.Aside.mk fun W => slotsref_number v step 1 (by omega) (by omega) (by omega) (by omega) W
  have z6 := snum_size v step.toNat 1
  generalize fixedS v.toNat 1 = T0 at *
  obtain ⟨T1, e1⟩ : ∃ T, snum v snap.toNat 2 = T := ⟨_, rfl⟩
  rw [e1] at z1 Hn0
  rw [e1]
  obtain ⟨T2, e2⟩ : ∃ T, snum v log.toNat 2 = T := ⟨_, rfl⟩
  rw [e2] at z2 Hn1
  rw [e2]
  obtain ⟨T3, e3⟩ : ∃ T, snum v area.toNat 1 = T := ⟨_, rfl⟩
  rw [e3] at z3 Hn2
  rw [e3]
  obtain ⟨T4, e4⟩ : ∃ T, snum v half.toNat 1 = T := ⟨_, rfl⟩
  rw [e4] at z4 Hn3
  rw [e4]
  obtain ⟨T5, e5⟩ : ∃ T, snum v goal.toNat 1 = T := ⟨_, rfl⟩
  rw [e5] at z5 Hn4
  rw [e5]
  obtain ⟨T6, e6⟩ : ∃ T, snum v step.toNat 1 = T := ⟨_, rfl⟩
  rw [e6] at z6 Hn5
  rw [e6]
  clear e1 e2 e3 e4 e5 e6 hr
  have hw0 : IntKind.u64.wrap v = v := by rw [IntKind.wrap_u64]; omega
  have hw1 : IntKind.u64.wrap snap = snap := by rw [IntKind.wrap_u64]; omega
  have hw2 : IntKind.u64.wrap log = log := by rw [IntKind.wrap_u64]; omega
  have hw3 : IntKind.u64.wrap area = area := by rw [IntKind.wrap_u64]; omega
  have hw4 : IntKind.u64.wrap half = half := by rw [IntKind.wrap_u64]; omega
  have hw5 : IntKind.u64.wrap goal = goal := by rw [IntKind.wrap_u64]; omega
  have hw6 : IntKind.u64.wrap step = step := by rw [IntKind.wrap_u64]; omega
  have hn := SevenAt.new w ⟨v, snap, log, area, half, goal, step⟩ 37
  have hb := (Below.refl w.heap.size w).alloc (Nat.le_refl _) (.cells #[.int .i64 v, .int .i64 snap, .int .i64 log, .int .i64 area, .int .i64 half, .int .i64 goal, .int .i64 step] 37)
  unfold sevenO at hn
  dsimp only at hn
  have HN := Pin.Aside.mk hn
  have HZ := Pin.Aside.mk (show T0.size ≤ 10 ∧ T1.size ≤ 10 ∧ T2.size ≤ 10 ∧ T3.size ≤ 10 ∧ T4.size ≤ 10 ∧ T5.size ≤ 10 ∧ T6.size ≤ 10 from ⟨z0, z1, z2, z3, z4, z5, z6⟩)
  clear hn z0 z1 z2 z3 z4 z5 z6
  go_enter Tryz.func8, Tryz.ntmps8
  go_wp2_with fail
  generalize w.alloc (.cells #[.int .i64 v, .int .i64 snap, .int .i64 log, .int .i64 area, .int .i64 half, .int .i64 goal, .int .i64 step] 37) = w0 at *
  generalize hRR : w.heap.size = R at *
  have HRR := Pin.Aside.mk hRR
  have HS := Pin.Aside.mk (show ∀ x, Below R w x → R ≤ x.heap.size from fun x h => by have := h.size; omega)
  clear hRR
  refine (Hr.out _).mono ?_
  rintro e w1 ⟨rfl, hbb⟩
  have hk := Keep.of_below (S := fun _ => False) hbb fun _ hk _ => hk
  replace HN := Pin.Aside.mk (HN.out.keep hk id)
  replace hb := hb.trans (hk.below (HS.out _ hb) fun _ q => q.elim)
  clear hbb hk
  obtain ⟨c0, c1, c2, c3, c4, c5, c6⟩ := HN.out
  dsimp only at c0 c1 c2 c3 c4 c5 c6
  go_wp2_with fail
  refine (Hf.out _).mono ?_
  rintro e w2 ⟨rfl, hbb⟩
  clear c0 c1 c2 c3 c4 c5 c6
  have hk := Keep.of_below (S := fun _ => False) hbb fun _ hk _ => hk
  replace HN := Pin.Aside.mk (HN.out.keep hk id)
  replace hb := hb.trans (hk.below (HS.out _ hb) fun _ q => q.elim)
  clear hbb hk
  have HA := Pin.Aside.mk (SixAt.new w2 snap log area half goal step 3)
  obtain ⟨c0, c1, c2, c3, c4, c5, c6⟩ := HN.out
  dsimp only at c0 c1 c2 c3 c4 c5 c6
  go_upto_region 6 with fail
  have hk := (Keep.refl (fun _ => False) w2).alloc (.cells #[.int .i64 snap, .int .i64 log, .int .i64 area, .int .i64 half, .int .i64 goal, .int .i64 step] 3)
  replace HN := Pin.Aside.mk (HN.out.keep hk id)
  replace hb := hb.trans (hk.below (HS.out _ hb) fun _ q => q.elim)
  clear c0 c1 c2 c3 c4 c5 c6 hk
  generalize w2.alloc (.cells #[.int .i64 snap, .int .i64 log, .int .i64 area, .int .i64 half, .int .i64 goal, .int .i64 step] 3) = w3 at *
  generalize w2.heap.size = A at *
  go_wp2_with fail
  go_loopw [5, 7] (fun o i wr => ∃ k : Nat, k ≤ 6 ∧ o = .string (sacc T0 T1 T2 T3 T4 T5 T6 k) ∧ i = .int .i64 k ∧ Pin.Aside (SevenAt wr R ⟨v, snap, log, area, half, goal, step⟩) ∧ Pin.Aside (SixAt wr A snap log area half goal step) ∧ Below R w wr) (fun _ i _ => 7 - (intOf i).toNat)
  case atStart => exact ⟨0, by omega, rfl, rfl, HN, HA, hb⟩
  case round =>
    clear hb HN HA
    obtain ⟨k, hk6, rfl, rfl, HN, HA, hb⟩ := hrel
    have hcs : k = 0 ∨ k = 1 ∨ k = 2 ∨ k = 3 ∨ k = 4 ∨ k = 5 ∨ k = 6 := by omega
    clear hk6
    rcases hcs with rfl | rfl | rfl | rfl | rfl | rfl | rfl
    · replace HN : Pin.Aside (SevenAt wr R ⟨v, snap, log, area, half, goal, step⟩) := HN
      have hsz : ¬ 9223372036854775807 < T0.size + T1.size := by have := HZ.out; omega
      have es : sacc T0 T1 T2 T3 T4 T5 T6 0 = T0 := rfl
      rw [es]
      go_upto_region 12 with fail
      have k0 : ∀ s' : KW (fun _ => False) wr, s'.w.cell? ⟨R, 0, none⟩ = some (.int .i64 v) := fun s' => s'.keep.cell HN.out.c0 id
      have k1 : ∀ s' : KW (fun _ => False) wr, s'.w.cell? ⟨A, 0, none⟩ = some (.int .i64 snap) := fun s' => s'.keep.cell HA.out.c0 id
      refine wp_region_keep (fun _ => False) (by kernel_rfl) (by kernel_rfl) ?_
      repeat (go_big_quiet_step ((go_at_call 30; with_reducible exact KW.calls (Hn0.out _))))
      refine wpQuiet_nil ?_
      intro s4'
      replace HN := Pin.Aside.mk (HN.out.keep s4'.keep id)
      replace HA := Pin.Aside.mk (HA.out.keep s4'.keep id)
      replace hb := hb.trans (s4'.keep.below (HS.out _ hb) fun _ q => q.elim)
      clear k0 k1
      generalize s4'.w = w11 at *
      go_wp2_with fail
      go_roundw
      case rel => exact ⟨1, by omega, rfl, rfl, HN, HA, hb⟩
      case measure => simp [intOf]
    · replace HN : Pin.Aside (SevenAt wr R ⟨v, snap, log, area, half, goal, step⟩) := HN
      have hsz : ¬ 9223372036854775807 < T0.size + T1.size + T2.size := by have := HZ.out; omega
      have es : sacc T0 T1 T2 T3 T4 T5 T6 1 = T0 ++ T1 := rfl
      rw [es]
      go_upto_region 12 with fail
      have k0 : ∀ s' : KW (fun _ => False) wr, s'.w.cell? ⟨R, 0, none⟩ = some (.int .i64 v) := fun s' => s'.keep.cell HN.out.c0 id
      have k1 : ∀ s' : KW (fun _ => False) wr, s'.w.cell? ⟨A, 1, none⟩ = some (.int .i64 log) := fun s' => s'.keep.cell HA.out.c1 id
      refine wp_region_keep (fun _ => False) (by kernel_rfl) (by kernel_rfl) ?_
      repeat (go_big_quiet_step ((go_at_call 30; with_reducible exact KW.calls (Hn1.out _))))
      refine wpQuiet_nil ?_
      intro s4'
      replace HN := Pin.Aside.mk (HN.out.keep s4'.keep id)
      replace HA := Pin.Aside.mk (HA.out.keep s4'.keep id)
      replace hb := hb.trans (s4'.keep.below (HS.out _ hb) fun _ q => q.elim)
      clear k0 k1
      generalize s4'.w = w11 at *
      go_wp2_with fail
      go_roundw
      case rel => exact ⟨2, by omega, rfl, rfl, HN, HA, hb⟩
      case measure => simp [intOf]
    · replace HN : Pin.Aside (SevenAt wr R ⟨v, snap, log, area, half, goal, step⟩) := HN
      have hsz : ¬ 9223372036854775807 < T0.size + T1.size + T2.size + T3.size := by have := HZ.out; omega
      have es : sacc T0 T1 T2 T3 T4 T5 T6 2 = T0 ++ T1 ++ T2 := rfl
      rw [es]
      go_upto_region 12 with fail
      have k0 : ∀ s' : KW (fun _ => False) wr, s'.w.cell? ⟨R, 0, none⟩ = some (.int .i64 v) := fun s' => s'.keep.cell HN.out.c0 id
      have k1 : ∀ s' : KW (fun _ => False) wr, s'.w.cell? ⟨A, 2, none⟩ = some (.int .i64 area) := fun s' => s'.keep.cell HA.out.c2 id
      refine wp_region_keep (fun _ => False) (by kernel_rfl) (by kernel_rfl) ?_
      repeat (go_big_quiet_step ((go_at_call 30; with_reducible exact KW.calls (Hn2.out _))))
      refine wpQuiet_nil ?_
      intro s4'
      replace HN := Pin.Aside.mk (HN.out.keep s4'.keep id)
      replace HA := Pin.Aside.mk (HA.out.keep s4'.keep id)
      replace hb := hb.trans (s4'.keep.below (HS.out _ hb) fun _ q => q.elim)
      clear k0 k1
      generalize s4'.w = w11 at *
      go_wp2_with fail
      go_roundw
      case rel => exact ⟨3, by omega, rfl, rfl, HN, HA, hb⟩
      case measure => simp [intOf]
    · replace HN : Pin.Aside (SevenAt wr R ⟨v, snap, log, area, half, goal, step⟩) := HN
      have hsz : ¬ 9223372036854775807 < T0.size + T1.size + T2.size + T3.size + T4.size := by have := HZ.out; omega
      have es : sacc T0 T1 T2 T3 T4 T5 T6 3 = T0 ++ T1 ++ T2 ++ T3 := rfl
      rw [es]
      go_upto_region 12 with fail
      have k0 : ∀ s' : KW (fun _ => False) wr, s'.w.cell? ⟨R, 0, none⟩ = some (.int .i64 v) := fun s' => s'.keep.cell HN.out.c0 id
      have k1 : ∀ s' : KW (fun _ => False) wr, s'.w.cell? ⟨A, 3, none⟩ = some (.int .i64 half) := fun s' => s'.keep.cell HA.out.c3 id
      refine wp_region_keep (fun _ => False) (by kernel_rfl) (by kernel_rfl) ?_
      repeat (go_big_quiet_step ((go_at_call 30; with_reducible exact KW.calls (Hn3.out _))))
      refine wpQuiet_nil ?_
      intro s4'
      replace HN := Pin.Aside.mk (HN.out.keep s4'.keep id)
      replace HA := Pin.Aside.mk (HA.out.keep s4'.keep id)
      replace hb := hb.trans (s4'.keep.below (HS.out _ hb) fun _ q => q.elim)
      clear k0 k1
      generalize s4'.w = w11 at *
      go_wp2_with fail
      go_roundw
      case rel => exact ⟨4, by omega, rfl, rfl, HN, HA, hb⟩
      case measure => simp [intOf]
    · replace HN : Pin.Aside (SevenAt wr R ⟨v, snap, log, area, half, goal, step⟩) := HN
      have hsz : ¬ 9223372036854775807 < T0.size + T1.size + T2.size + T3.size + T4.size + T5.size := by have := HZ.out; omega
      have es : sacc T0 T1 T2 T3 T4 T5 T6 4 = T0 ++ T1 ++ T2 ++ T3 ++ T4 := rfl
      rw [es]
      go_upto_region 12 with fail
      have k0 : ∀ s' : KW (fun _ => False) wr, s'.w.cell? ⟨R, 0, none⟩ = some (.int .i64 v) := fun s' => s'.keep.cell HN.out.c0 id
      have k1 : ∀ s' : KW (fun _ => False) wr, s'.w.cell? ⟨A, 4, none⟩ = some (.int .i64 goal) := fun s' => s'.keep.cell HA.out.c4 id
      refine wp_region_keep (fun _ => False) (by kernel_rfl) (by kernel_rfl) ?_
      repeat (go_big_quiet_step ((go_at_call 30; with_reducible exact KW.calls (Hn4.out _))))
      refine wpQuiet_nil ?_
      intro s4'
      replace HN := Pin.Aside.mk (HN.out.keep s4'.keep id)
      replace HA := Pin.Aside.mk (HA.out.keep s4'.keep id)
      replace hb := hb.trans (s4'.keep.below (HS.out _ hb) fun _ q => q.elim)
      clear k0 k1
      generalize s4'.w = w11 at *
      go_wp2_with fail
      go_roundw
      case rel => exact ⟨5, by omega, rfl, rfl, HN, HA, hb⟩
      case measure => simp [intOf]
    · replace HN : Pin.Aside (SevenAt wr R ⟨v, snap, log, area, half, goal, step⟩) := HN
      have hsz : ¬ 9223372036854775807 < T0.size + T1.size + T2.size + T3.size + T4.size + T5.size + T6.size := by have := HZ.out; omega
      have es : sacc T0 T1 T2 T3 T4 T5 T6 5 = T0 ++ T1 ++ T2 ++ T3 ++ T4 ++ T5 := rfl
      rw [es]
      go_upto_region 12 with fail
      have k0 : ∀ s' : KW (fun _ => False) wr, s'.w.cell? ⟨R, 0, none⟩ = some (.int .i64 v) := fun s' => s'.keep.cell HN.out.c0 id
      have k1 : ∀ s' : KW (fun _ => False) wr, s'.w.cell? ⟨A, 5, none⟩ = some (.int .i64 step) := fun s' => s'.keep.cell HA.out.c5 id
      refine wp_region_keep (fun _ => False) (by kernel_rfl) (by kernel_rfl) ?_
      repeat (go_big_quiet_step ((go_at_call 30; with_reducible exact KW.calls (Hn5.out _))))
      refine wpQuiet_nil ?_
      intro s4'
      replace HN := Pin.Aside.mk (HN.out.keep s4'.keep id)
      replace HA := Pin.Aside.mk (HA.out.keep s4'.keep id)
      replace hb := hb.trans (s4'.keep.below (HS.out _ hb) fun _ q => q.elim)
      clear k0 k1
      generalize s4'.w = w11 at *
      go_wp2_with fail
      go_roundw
      case rel => exact ⟨6, by omega, rfl, rfl, HN, HA, hb⟩
      case measure => simp [intOf]
    · go_wp2_with fail
      go_ret2
      exact ⟨rfl, by rw [HRR.out]; exact hb⟩
theorem slotsref_putsuper (s : Sup) (w : World) : Calls Tryz.prog 8 #[.agg #[.int .i64 s.v, .int .i64 s.snap, .int .i64 s.log, .int .i64 s.area, .int .i64 s.half, .int .i64 s.goal, .int .i64 s.step]] w fun e w' => e = .returned (.tuple #[.string (supput s).1, .bool (supput s).2]) ∧ Below w.heap.size w w' := by
  obtain ⟨b, hb⟩ : ∃ b, s.right = b := ⟨_, rfl⟩
  have E := show supput s = if s.right = true then (supS s, true) else (⟨#[]⟩, false) from rfl
  rw [hb] at E
  cases b with
  | true =>
    rw [E, if_pos rfl]
    obtain ⟨v, snap, log, area, half, goal, step⟩ := s
    exact slotsref_putsuper_yes v snap log area half goal step hb w
  | false =>
    rw [E, if_neg (by simp)]
    have Hr := Pin.Aside.mk fun W => slotsref_right s W
    rw [hb] at Hr
    have hb0 := (Below.refl w.heap.size w).alloc (Nat.le_refl _) (sevenO s 37)
    have hn := SevenAt.new w s 37
    unfold sevenO at hb0 hn
    clear E hb
    obtain ⟨v, snap, log, area, half, goal, step⟩ := s
    dsimp only at Hr hb0 hn
    obtain ⟨c0, c1, c2, c3, c4, c5, c6⟩ := hn
    dsimp only at c0 c1 c2 c3 c4 c5 c6
    go_enter Tryz.func8, Tryz.ntmps8
    go_wp2_with fail
    refine (Hr.out _).mono ?_
    rintro e w1 ⟨rfl, hbb⟩
    have hE := Below.next hb0 hbb
    clear hbb c0 c1 c2 c3 c4 c5 c6
    go_wp2_with fail
    go_ret2
    exact ⟨rfl, hE⟩
end Go.Proofs.YtpfkpaombiikcaaGreatDoor
/- The document's slots: what is got. -/
set_option maxRecDepth 16000
namespace Go.Pin
open Go.RowKit
set_option linter.unusedVariables false
set_option linter.unusedSimpArgs false
theorem stake_pair (v : Int) (r : Rd) (k : Int) : ∃ (n : Nat) (q : Rd), stake v r k = (n, q) ∧ n < 18446744073709551616 ∧ q.s.size ≤ r.s.size :=
  ⟨(stake v r k).1, (stake v r k).2, rfl, stake_lt v r k, stake_le v r k⟩
theorem suprefget_is (b : ByteArray) (xn : Nat) (xr : Rd) (hx : (Rd.mk b false).fixed 1 = (xn, xr)) (n0 n1 n2 n3 n4 n5 : Nat) (q0 q1 q2 q3 q4 q5 : Rd)
    (h0 : stake xn xr 2 = (n0, q0)) (h1 : stake xn q0 2 = (n1, q1)) (h2 : stake xn q1 1 = (n2, q2)) (h3 : stake xn q2 1 = (n3, q3)) (h4 : stake xn q3 1 = (n4, q4)) (h5 : stake xn q4 1 = (n5, q5)) :
    suprefget b = if (supput ⟨(xn : Int), ((n0 % 9999 : Nat) : Int), ((n1 % 9999 : Nat) : Int), ((n2 % 99 : Nat) : Int), ((n3 % 99 : Nat) : Int), ((n4 % 99 : Nat) : Int), ((n5 % 99 : Nat) : Int)⟩).2 = false ∨ (supput ⟨(xn : Int), ((n0 % 9999 : Nat) : Int), ((n1 % 9999 : Nat) : Int), ((n2 % 99 : Nat) : Int), ((n3 % 99 : Nat) : Int), ((n4 % 99 : Nat) : Int), ((n5 % 99 : Nat) : Int)⟩).1 ≠ b then (Sup.zero, false) else (⟨(xn : Int), ((n0 % 9999 : Nat) : Int), ((n1 % 9999 : Nat) : Int), ((n2 % 99 : Nat) : Int), ((n3 % 99 : Nat) : Int), ((n4 % 99 : Nat) : Int), ((n5 % 99 : Nat) : Int)⟩, true) := by
  have e2 : srmod (2 : Int).toNat = 9999 := by decide
  have e1 : srmod (1 : Int).toNat = 99 := by decide
  unfold suprefget
  rw [hx]
  unfold ssix srsmall
  simp only [h0, h1, h2, h3, h4, h5, e1, e2]
theorem hardrefget_is (b : ByteArray) (xn : Nat) (xr : Rd) (hx : (Rd.mk b false).fixed 1 = (xn, xr)) (n0 n1 n2 : Nat) (q0 q1 q2 : Rd)
    (h0 : stake ((xn : Int) - 16) xr 8 = (n0, q0)) (h1 : stake ((xn : Int) - 16) q0 1 = (n1, q1)) (h2 : stake ((xn : Int) - 16) q1 8 = (n2, q2)) :
    hardrefget b = if (hardput ((xn : Int) - 16) ⟨n0, ((n1 % 99 : Nat) : Int), n2⟩).2 = false ∨ (hardput ((xn : Int) - 16) ⟨n0, ((n1 % 99 : Nat) : Int), n2⟩).1 ≠ b then (Hd.zero, 0, false) else (⟨n0, ((n1 % 99 : Nat) : Int), n2⟩, (xn : Int) - 16, true) := by
  unfold hardrefget
  rw [hx]
  unfold hthree
  simp only [h0, h1, h2]
end Go.Pin
namespace Go.Proofs.YtpfkpaombiikcaaGreatDoor
open Go.RowKit Go.Pin
set_option linter.unusedVariables false
set_option linter.unusedSimpArgs false
theorem slotsref_take_is (b : Nat) (r : Rd) (v k : Int) (n : Nat) (q : Rd) (hE : stake v r k = (n, q)) (hk : -9223372036854775808 ≤ k ∧ k ≤ 9223372036854775807) (w : World) (h : RdAt w b r) (hs : r.s.size ≤ 1152921504606846976) :
    Calls Tryz.prog 73 #[.pointer (some ⟨b, 0, none⟩), .int .i64 v, .int .i64 k] w fun e w' => e = .returned (.int .u64 n) ∧ RdAt w' b q ∧ Keep (fun k => k = b) w w' := by
  have := slotsref_take b r v k hk w h hs
  rw [hE] at this; exact this
set_option maxHeartbeats 3200000 in
theorem slotsref_getsuper (b : ByteArray) (hs : b.size ≤ 1152921504606846976) (w : World) :
    Calls Tryz.prog 40 #[.string b] w fun e w' => e = .returned (.tuple #[(suprefget b).1.val, .bool (suprefget b).2]) ∧ Below w.heap.size w w' := by
  have hse := str_beq
  obtain ⟨⟨xn, xr⟩, hx⟩ : ∃ x, (Rd.mk b false).fixed 1 = x := ⟨_, rfl⟩
  have hx1 : xn < 256 := by have := Rd.fixed_ltT ⟨b, false⟩; rw [hx] at this; exact this
  have hx2 : xr.s.size ≤ 1152921504606846976 := by have := Rd.fixed_leT ⟨b, false⟩ 1; rw [hx] at this; exact Nat.le_trans this hs
  obtain ⟨n0, q0, h0, l0, z0⟩ := stake_pair xn xr 2
  obtain ⟨n1, q1, h1, l1, z1⟩ := stake_pair xn q0 2
  obtain ⟨n2, q2, h2, l2, z2⟩ := stake_pair xn q1 1
  obtain ⟨n3, q3, h3, l3, z3⟩ := stake_pair xn q2 1
  obtain ⟨n4, q4, h4, l4, z4⟩ := stake_pair xn q3 1
  obtain ⟨n5, q5, h5, l5, z5⟩ := stake_pair xn q4 1
  have E := Pin.Aside.mk (suprefget_is b xn xr hx n0 n1 n2 n3 n4 n5 q0 q1 q2 q3 q4 q5 h0 h1 h2 h3 h4 h5)
  have Hx := Pin.Aside.mk hx
  obtain ⟨m0, y0⟩ : ∃ m : Int, ((n0 % 9999 : Nat) : Int) = m := ⟨_, rfl⟩
  rw [y0] at E
  obtain ⟨m1, y1⟩ : ∃ m : Int, ((n1 % 9999 : Nat) : Int) = m := ⟨_, rfl⟩
  rw [y1] at E
  obtain ⟨m2, y2⟩ : ∃ m : Int, ((n2 % 99 : Nat) : Int) = m := ⟨_, rfl⟩
  rw [y2] at E
  obtain ⟨m3, y3⟩ : ∃ m : Int, ((n3 % 99 : Nat) : Int) = m := ⟨_, rfl⟩
  rw [y3] at E
  obtain ⟨m4, y4⟩ : ∃ m : Int, ((n4 % 99 : Nat) : Int) = m := ⟨_, rfl⟩
  rw [y4] at E
  obtain ⟨m5, y5⟩ : ∃ m : Int, ((n5 % 99 : Nat) : Int) = m := ⟨_, rfl⟩
  rw [y5] at E
  have u0 : (n0 : Int) % 9999 = m0 := by omega
  have wm0 : IntKind.i64.wrap m0 = m0 := by rw [IntKind.wrap_i64]; omega
  have nn0 : (0 : Int) ≤ (n0 : Int) := by omega
  have u1 : (n1 : Int) % 9999 = m1 := by omega
  have wm1 : IntKind.i64.wrap m1 = m1 := by rw [IntKind.wrap_i64]; omega
  have nn1 : (0 : Int) ≤ (n1 : Int) := by omega
  have u2 : (n2 : Int) % 99 = m2 := by omega
  have wm2 : IntKind.i64.wrap m2 = m2 := by rw [IntKind.wrap_i64]; omega
  have nn2 : (0 : Int) ≤ (n2 : Int) := by omega
  have u3 : (n3 : Int) % 99 = m3 := by omega
  have wm3 : IntKind.i64.wrap m3 = m3 := by rw [IntKind.wrap_i64]; omega
  have nn3 : (0 : Int) ≤ (n3 : Int) := by omega
  have u4 : (n4 : Int) % 99 = m4 := by omega
  have wm4 : IntKind.i64.wrap m4 = m4 := by rw [IntKind.wrap_i64]; omega
  have nn4 : (0 : Int) ≤ (n4 : Int) := by omega
  have u5 : (n5 : Int) % 99 = m5 := by omega
  have wm5 : IntKind.i64.wrap m5 = m5 := by rw [IntKind.wrap_i64]; omega
  have nn5 : (0 : Int) ≤ (n5 : Int) := by omega
  have hv0 : 0 ≤ (xn : Int) ∧ (xn : Int) < 256 := by omega
  obtain ⟨v, hv⟩ : ∃ v : Int, (xn : Int) = v := ⟨_, rfl⟩
  rw [hv] at E hv0 h0 h1 h2 h3 h4 h5
  have Hv := Pin.Aside.mk hv
  have wv : IntKind.i64.wrap v = v := by rw [IntKind.wrap_i64]; omega
  have H0 := Pin.Aside.mk h0
  have H1 := Pin.Aside.mk h1
  have H2 := Pin.Aside.mk h2
  have H3 := Pin.Aside.mk h3
  have H4 := Pin.Aside.mk h4
  have H5 := Pin.Aside.mk h5
  clear hv h0 y0 h1 y1 h2 y2 h3 y3 h4 y4 h5 y5
  obtain ⟨⟨T, ok⟩, hT⟩ : ∃ T, supput ⟨v, m0, m1, m2, m3, m4, m5⟩ = T := ⟨_, rfl⟩
  rw [hT] at E
  dsimp only at E
  have HP := Pin.Aside.mk fun W => slotsref_putsuper ⟨v, m0, m1, m2, m3, m4, m5⟩ W
  rw [hT] at HP
  clear hT
  have hR0 := SevAt.new w #[.int .i64 0, .int .i64 0, .int .i64 0, .int .i64 0, .int .i64 0, .int .i64 0, .int .i64 0] 37 7 rfl
  have hb0 := (Below.refl w.heap.size w).alloc (Nat.le_refl _) (.cells #[.int .i64 0, .int .i64 0, .int .i64 0, .int .i64 0, .int .i64 0, .int .i64 0, .int .i64 0] 37)
  have hz0 : (w.alloc (.cells #[.int .i64 0, .int .i64 0, .int .i64 0, .int .i64 0, .int .i64 0, .int .i64 0, .int .i64 0] 37)).heap.size = w.heap.size + 1 := by simp
  have HR := Pin.Aside.mk hR0
  have Hb := Pin.Aside.mk hb0
  clear hR0 hb0 hx1 hx
  go_enter Tryz.func40, Tryz.ntmps40
  go_wp2_with fail
  generalize w.alloc (.cells #[.int .i64 0, .int .i64 0, .int .i64 0, .int .i64 0, .int .i64 0, .int .i64 0, .int .i64 0] 37) = w0 at *
  generalize hRR : w.heap.size = R at *
  have HRR := Pin.Aside.mk hRR
  have HS := Pin.Aside.mk (show ∀ x, Below R w x → R ≤ x.heap.size from fun x h => by have := h.size; omega)
  clear hRR
  refine (rr_new b _).mono ?_
  rintro e w1 ⟨rfl, hr, hz, hb1⟩
  replace HR := Pin.Aside.mk (HR.out.below hb1)
  replace Hb := Pin.Aside.mk (Hb.out.trans (hb1.mono (HS.out _ Hb.out)))
  have hRQ : R ≠ w0.heap.size := by omega
  have hRQ2 : R ≤ w0.heap.size := by omega
  generalize w0.heap.size = Q at *
  clear hb1 hz hz0
  go_wp2_with fail
  refine (rr_fixed Q _ 1 _ hr (by omega) (by show b.size ≤ _; exact hs)).mono ?_
  rw [Hx.out]
  dsimp only
  rw [Hv.out]
  rintro e w2 ⟨rfl, hr2, hk⟩
  replace HR := Pin.Aside.mk (HR.out.keep hk hRQ)
  replace Hb := Pin.Aside.mk (Hb.out.trans (hk.below (HS.out _ Hb.out) fun _ q => by omega))
  clear hk hr
  go_wp2_with fail
  refine (slotsref_take_is Q xr v 2 n0 q0 H0.out (by omega) _ hr2 (by omega)).mono ?_
  rintro e w3 ⟨rfl, hr3, hk⟩
  replace HR := Pin.Aside.mk (HR.out.keep hk hRQ)
  replace Hb := Pin.Aside.mk (Hb.out.trans (hk.below (HS.out _ Hb.out) fun _ q => by omega))
  clear hk hr2
  go_wp2_with fail
  refine (slotsref_take_is Q q0 v 2 n1 q1 H1.out (by omega) _ hr3 (by omega)).mono ?_
  rintro e w4 ⟨rfl, hr4, hk⟩
  replace HR := Pin.Aside.mk (HR.out.keep hk hRQ)
  replace Hb := Pin.Aside.mk (Hb.out.trans (hk.below (HS.out _ Hb.out) fun _ q => by omega))
  clear hk hr3
  go_wp2_with fail
  refine (slotsref_take_is Q q1 v 1 n2 q2 H2.out (by omega) _ hr4 (by omega)).mono ?_
  rintro e w5 ⟨rfl, hr5, hk⟩
  replace HR := Pin.Aside.mk (HR.out.keep hk hRQ)
  replace Hb := Pin.Aside.mk (Hb.out.trans (hk.below (HS.out _ Hb.out) fun _ q => by omega))
  clear hk hr4
  go_wp2_with fail
  refine (slotsref_take_is Q q2 v 1 n3 q3 H3.out (by omega) _ hr5 (by omega)).mono ?_
  rintro e w6 ⟨rfl, hr6, hk⟩
  replace HR := Pin.Aside.mk (HR.out.keep hk hRQ)
  replace Hb := Pin.Aside.mk (Hb.out.trans (hk.below (HS.out _ Hb.out) fun _ q => by omega))
  clear hk hr5
  go_wp2_with fail
  refine (slotsref_take_is Q q3 v 1 n4 q4 H4.out (by omega) _ hr6 (by omega)).mono ?_
  rintro e w7 ⟨rfl, hr7, hk⟩
  replace HR := Pin.Aside.mk (HR.out.keep hk hRQ)
  replace Hb := Pin.Aside.mk (Hb.out.trans (hk.below (HS.out _ Hb.out) fun _ q => by omega))
  clear hk hr6
  go_wp2_with fail
  refine (slotsref_take_is Q q4 v 1 n5 q5 H5.out (by omega) _ hr7 (by omega)).mono ?_
  rintro e w8 ⟨rfl, hr8, hk⟩
  replace HR := Pin.Aside.mk (HR.out.keep hk hRQ)
  replace Hb := Pin.Aside.mk (Hb.out.trans (hk.below (HS.out _ Hb.out) fun _ q => by omega))
  clear hk hr7
  have hn := SevenAt.new w8 ⟨v, m0, m1, m2, m3, m4, m5⟩ 37
  have hk := (Keep.refl (fun _ => False) w8).alloc (.cells #[.int .i64 v, .int .i64 m0, .int .i64 m1, .int .i64 m2, .int .i64 m3, .int .i64 m4, .int .i64 m5] 37)
  unfold sevenO at hn
  dsimp only at hn
  have HN := Pin.Aside.mk hn
  replace HR := Pin.Aside.mk (HR.out.keep hk id)
  replace Hb := Pin.Aside.mk (Hb.out.trans (hk.below (HS.out _ Hb.out) fun _ q => q.elim))
  clear hn hk hr8
  go_upto_region 4 with fail
  generalize w8.alloc (.cells #[.int .i64 v, .int .i64 m0, .int .i64 m1, .int .i64 m2, .int .i64 m3, .int .i64 m4, .int .i64 m5] 37) = w9 at *
  generalize w8.heap.size = U at *
  clear u0 wm0 nn0 l0 z0 u1 wm1 nn1 l1 z1 u2 wm2 nn2 l2 z2 u3 wm3 nn3 l3 z3 u4 wm4 nn4 l4 z4 u5 wm5 nn5 l5 z5 wv hx2
  obtain ⟨c0, c1, c2, c3, c4, c5, c6⟩ := HN.out
  dsimp only at c0 c1 c2 c3 c4 c5 c6
  go_wp2_with fail
  refine (HP.out _).mono ?_
  rintro e w10 ⟨rfl, hbb⟩
  clear c0 c1 c2 c3 c4 c5 c6
  replace HN := Pin.Aside.mk (HN.out.below hbb)
  replace HR := Pin.Aside.mk (HR.out.below hbb)
  replace Hb := Pin.Aside.mk (Hb.out.trans (hbb.mono (HS.out _ Hb.out)))
  clear hbb
  cases ok with
  | false =>
    have HE := Pin.Aside.mk (E.out.trans (if_pos (.inl rfl)))
    obtain ⟨e0, e1, e2, e3, e4, e5, e6⟩ := HR.out.get7
    obtain ⟨f0, f1, f2, f3, f4, f5, f6⟩ := HR.out.fr7
    have TC := Pin.Aside.mk (HR.out.set7 (.int .i64 0) (.int .i64 0) (.int .i64 0) (.int .i64 0) (.int .i64 0) (.int .i64 0) (.int .i64 0))
    clear E
    go_wp2_with fail
    obtain ⟨n0, n1, n2, n3, n4, n5, n6⟩ := TC.out
    unfold set7 at n0 n1 n2 n3 n4 n5 n6
    refine bodyPost_ret (v := .tuple #[.agg #[.int .i64 0, .int .i64 0, .int .i64 0, .int .i64 0, .int .i64 0, .int .i64 0, .int .i64 0], .bool false]) (by simp [results, Tryz.results40, go_sem, *]) rfl ?_
    rw [HE.out]
    exact ⟨rfl, by rw [HRR.out]; exact below_set7 Hb.out (Nat.le_refl _) _ _ _ _ _ _ _⟩
  | true =>
    by_cases hts : T = b
    · have hd : decide (T = b) = true := by simpa using hts
      have hd2 : T.toList = b.toList := by rw [hts]
      have HE := Pin.Aside.mk (E.out.trans (if_neg (by simp [hts])))
      clear hts
      obtain ⟨e0, e1, e2, e3, e4, e5, e6⟩ := HR.out.get7
      obtain ⟨f0, f1, f2, f3, f4, f5, f6⟩ := HR.out.fr7
      have TC := Pin.Aside.mk (HR.out.set7 (.int .i64 v) (.int .i64 m0) (.int .i64 m1) (.int .i64 m2) (.int .i64 m3) (.int .i64 m4) (.int .i64 m5))
      clear E
      obtain ⟨c0, c1, c2, c3, c4, c5, c6⟩ := HN.out
      dsimp only at c0 c1 c2 c3 c4 c5 c6
      go_wp2_with fail
      obtain ⟨n0, n1, n2, n3, n4, n5, n6⟩ := TC.out
      unfold set7 at n0 n1 n2 n3 n4 n5 n6
      refine bodyPost_ret (v := .tuple #[.agg #[.int .i64 v, .int .i64 m0, .int .i64 m1, .int .i64 m2, .int .i64 m3, .int .i64 m4, .int .i64 m5], .bool true]) (by simp [results, Tryz.results40, go_sem, *]) rfl ?_
      rw [HE.out]
      exact ⟨rfl, by rw [HRR.out]; exact below_set7 Hb.out (Nat.le_refl _) _ _ _ _ _ _ _⟩
    · have hd : decide (T = b) = false := by simpa using hts
      have HE := Pin.Aside.mk (E.out.trans (if_pos (.inr hts)))
      clear hts
      obtain ⟨e0, e1, e2, e3, e4, e5, e6⟩ := HR.out.get7
      obtain ⟨f0, f1, f2, f3, f4, f5, f6⟩ := HR.out.fr7
      have TC := Pin.Aside.mk (HR.out.set7 (.int .i64 0) (.int .i64 0) (.int .i64 0) (.int .i64 0) (.int .i64 0) (.int .i64 0) (.int .i64 0))
      clear E
      go_wp2_with fail
      obtain ⟨n0, n1, n2, n3, n4, n5, n6⟩ := TC.out
      unfold set7 at n0 n1 n2 n3 n4 n5 n6
      refine bodyPost_ret (v := .tuple #[.agg #[.int .i64 0, .int .i64 0, .int .i64 0, .int .i64 0, .int .i64 0, .int .i64 0, .int .i64 0], .bool false]) (by simp [results, Tryz.results40, go_sem, *]) rfl ?_
      rw [HE.out]
      exact ⟨rfl, by rw [HRR.out]; exact below_set7 Hb.out (Nat.le_refl _) _ _ _ _ _ _ _⟩
set_option maxHeartbeats 3200000 in
theorem slotsref_gethard (b : ByteArray) (hs : b.size ≤ 1152921504606846976) (w : World) :
    Calls Tryz.prog 42 #[.string b] w fun e w' => e = .returned (.tuple #[(hardrefget b).1.val, .int .i64 (hardrefget b).2.1, .bool (hardrefget b).2.2]) ∧ Below w.heap.size w w' := by
  have hse := str_beq
  obtain ⟨⟨xn, xr⟩, hx⟩ : ∃ x, (Rd.mk b false).fixed 1 = x := ⟨_, rfl⟩
  have hx1 : xn < 256 := by have := Rd.fixed_ltT ⟨b, false⟩; rw [hx] at this; exact this
  have hx2 : xr.s.size ≤ 1152921504606846976 := by have := Rd.fixed_leT ⟨b, false⟩ 1; rw [hx] at this; exact Nat.le_trans this hs
  obtain ⟨n0, q0, h0, l0, z0⟩ := stake_pair ((xn : Int) - 16) xr 8
  obtain ⟨n1, q1, h1, l1, z1⟩ := stake_pair ((xn : Int) - 16) q0 1
  obtain ⟨n2, q2, h2, l2, z2⟩ := stake_pair ((xn : Int) - 16) q1 8
  have E := Pin.Aside.mk (hardrefget_is b xn xr hx n0 n1 n2 q0 q1 q2 h0 h1 h2)
  have Hx := Pin.Aside.mk hx
  obtain ⟨m1, y1⟩ : ∃ m : Int, ((n1 % 99 : Nat) : Int) = m := ⟨_, rfl⟩
  rw [y1] at E
  have u1 : (n1 : Int) % 99 = m1 := by omega
  have wm1 : IntKind.i64.wrap m1 = m1 := by rw [IntKind.wrap_i64]; omega
  have nn1 : (0 : Int) ≤ (n1 : Int) := by omega
  obtain ⟨v0, hv⟩ : ∃ v : Int, (xn : Int) = v := ⟨_, rfl⟩
  rw [hv] at E h0 h1 h2
  have Hv := Pin.Aside.mk hv
  have hv0 : 0 ≤ v0 ∧ v0 < 256 := by omega
  have wv : IntKind.i64.wrap v0 = v0 := by rw [IntKind.wrap_i64]; omega
  obtain ⟨v, hvv⟩ : ∃ v : Int, v0 - 16 = v := ⟨_, rfl⟩
  rw [hvv] at E h0 h1 h2
  have wv2 : IntKind.i64.wrap v = v := by rw [IntKind.wrap_i64]; omega
  have H0 := Pin.Aside.mk h0
  have H1 := Pin.Aside.mk h1
  have H2 := Pin.Aside.mk h2
  obtain ⟨t0, ht0⟩ : ∃ t : Int, (n0 : Int) = t := ⟨_, rfl⟩
  obtain ⟨t2, ht2⟩ : ∃ t : Int, (n2 : Int) = t := ⟨_, rfl⟩
  have Ht0 := Pin.Aside.mk ht0
  have Ht2 := Pin.Aside.mk ht2
  obtain ⟨⟨T, ok⟩, hT⟩ : ∃ T, hardput v ⟨n0, m1, n2⟩ = T := ⟨_, rfl⟩
  rw [hT] at E
  dsimp only at E
  have HP := Pin.Aside.mk fun W => slotsref_puthard v n0 m1 n2 (by omega) (by omega) W
  rw [hT] at HP
  clear hT hv h0 h1 h2 y1 ht0 ht2 Ht0 Ht2
  have hR0 := SevAt.new w #[.int .u64 0, .int .i64 0, .int .u64 0] 40 3 rfl
  have hb0 := (Below.refl w.heap.size w).alloc (Nat.le_refl _) (.cells #[.int .u64 0, .int .i64 0, .int .u64 0] 40)
  have hz0 : (w.alloc (.cells #[.int .u64 0, .int .i64 0, .int .u64 0] 40)).heap.size = w.heap.size + 1 := by simp
  have HR := Pin.Aside.mk hR0
  have Hb := Pin.Aside.mk hb0
  clear hR0 hb0 hx1 hx
  go_enter Tryz.func42, Tryz.ntmps42
  go_wp2_with fail
  generalize w.alloc (.cells #[.int .u64 0, .int .i64 0, .int .u64 0] 40) = w0 at *
  generalize hRR : w.heap.size = R at *
  have HRR := Pin.Aside.mk hRR
  have HS := Pin.Aside.mk (show ∀ x, Below R w x → R ≤ x.heap.size from fun x h => by have := h.size; omega)
  clear hRR
  refine (rr_new b _).mono ?_
  rintro e w1 ⟨rfl, hr, hz, hb1⟩
  replace HR := Pin.Aside.mk (HR.out.below hb1)
  replace Hb := Pin.Aside.mk (Hb.out.trans (hb1.mono (HS.out _ Hb.out)))
  have hRQ : R ≠ w0.heap.size := by omega
  have hRQ2 : R ≤ w0.heap.size := by omega
  generalize w0.heap.size = Q at *
  clear hb1 hz hz0
  go_wp2_with fail
  refine (rr_fixed Q _ 1 _ hr (by omega) (by show b.size ≤ _; exact hs)).mono ?_
  rw [Hx.out]
  dsimp only
  rw [Hv.out]
  rintro e w2 ⟨rfl, hr2, hk⟩
  replace HR := Pin.Aside.mk (HR.out.keep hk hRQ)
  replace Hb := Pin.Aside.mk (Hb.out.trans (hk.below (HS.out _ Hb.out) fun _ q => by omega))
  clear hk hr
  go_wp2_with fail
  refine (slotsref_take_is Q xr v 8 n0 q0 H0.out (by omega) _ hr2 (by omega)).mono ?_
  rintro e w3 ⟨rfl, hr3, hk⟩
  replace HR := Pin.Aside.mk (HR.out.keep hk hRQ)
  replace Hb := Pin.Aside.mk (Hb.out.trans (hk.below (HS.out _ Hb.out) fun _ q => by omega))
  clear hk hr2
  go_wp2_with fail
  refine (slotsref_take_is Q q0 v 1 n1 q1 H1.out (by omega) _ hr3 (by omega)).mono ?_
  rintro e w4 ⟨rfl, hr4, hk⟩
  replace HR := Pin.Aside.mk (HR.out.keep hk hRQ)
  replace Hb := Pin.Aside.mk (Hb.out.trans (hk.below (HS.out _ Hb.out) fun _ q => by omega))
  clear hk hr3
  go_wp2_with fail
  refine (slotsref_take_is Q q1 v 8 n2 q2 H2.out (by omega) _ hr4 (by omega)).mono ?_
  rintro e w5 ⟨rfl, hr5, hk⟩
  replace HR := Pin.Aside.mk (HR.out.keep hk hRQ)
  replace Hb := Pin.Aside.mk (Hb.out.trans (hk.below (HS.out _ Hb.out) fun _ q => by omega))
  clear hk hr4
  have hn := SevAt.new w5 #[.int .u64 n0, .int .i64 m1, .int .u64 n2] 40 3 rfl
  have hk := (Keep.refl (fun _ => False) w5).alloc (.cells #[.int .u64 n0, .int .i64 m1, .int .u64 n2] 40)
  have HN := Pin.Aside.mk hn
  replace HR := Pin.Aside.mk (HR.out.keep hk id)
  replace Hb := Pin.Aside.mk (Hb.out.trans (hk.below (HS.out _ Hb.out) fun _ q => q.elim))
  clear hn hk hr5
  go_upto_region 4 with fail
  generalize w5.alloc (.cells #[.int .u64 n0, .int .i64 m1, .int .u64 n2] 40) = w9 at *
  generalize w5.heap.size = U at *
  clear u1 wm1 nn1 wv wv2 hx2 hvv l0 l1 l2 z0 z1 z2
  obtain ⟨c0, c1, c2⟩ := HN.out.get3
  replace c0 : w9.cell? ⟨U, 0, none⟩ = some (.int .u64 n0) := c0
  replace c1 : w9.cell? ⟨U, 1, none⟩ = some (.int .i64 m1) := c1
  replace c2 : w9.cell? ⟨U, 2, none⟩ = some (.int .u64 n2) := c2
  go_wp2_with fail
  refine (HP.out _).mono ?_
  rintro e w10 ⟨rfl, hbb⟩
  clear c0 c1 c2
  replace HN := Pin.Aside.mk (HN.out.below hbb)
  replace HR := Pin.Aside.mk (HR.out.below hbb)
  replace Hb := Pin.Aside.mk (Hb.out.trans (hbb.mono (HS.out _ Hb.out)))
  clear hbb
  cases ok with
  | false =>
    have HE := Pin.Aside.mk (E.out.trans (if_pos (.inl rfl)))
    obtain ⟨e0, e1, e2⟩ := HR.out.get3
    obtain ⟨f0, f1, f2⟩ := HR.out.fr3
    have TC := Pin.Aside.mk (HR.out.set3 (.int .u64 0) (.int .i64 0) (.int .u64 0))
    clear E
    go_wp2_with fail
    obtain ⟨n0', n1', n2'⟩ := TC.out
    unfold set3 at n0' n1' n2'
    refine bodyPost_ret (v := .tuple #[.agg #[.int .u64 0, .int .i64 0, .int .u64 0], .int .i64 0, .bool false]) (by simp [results, Tryz.results42, go_sem, *]) rfl ?_
    rw [HE.out]
    exact ⟨rfl, by rw [HRR.out]; exact below_set3S Hb.out (Nat.le_refl _) _ _ _⟩
  | true =>
    by_cases hts : T = b
    · have hd : decide (T = b) = true := by simpa using hts
      have hd2 : T.toList = b.toList := by rw [hts]
      have HE := Pin.Aside.mk (E.out.trans (if_neg (by simp [hts])))
      clear hts
      obtain ⟨e0, e1, e2⟩ := HR.out.get3
      obtain ⟨f0, f1, f2⟩ := HR.out.fr3
      have TC := Pin.Aside.mk (HR.out.set3 (.int .u64 n0) (.int .i64 m1) (.int .u64 n2))
      clear E
      obtain ⟨c0, c1, c2⟩ := HN.out.get3
      replace c0 : w10.cell? ⟨U, 0, none⟩ = some (.int .u64 n0) := c0
      replace c1 : w10.cell? ⟨U, 1, none⟩ = some (.int .i64 m1) := c1
      replace c2 : w10.cell? ⟨U, 2, none⟩ = some (.int .u64 n2) := c2
      go_wp2_with fail
      obtain ⟨n0', n1', n2'⟩ := TC.out
      unfold set3 at n0' n1' n2'
      refine bodyPost_ret (v := .tuple #[.agg #[.int .u64 n0, .int .i64 m1, .int .u64 n2], .int .i64 v, .bool true]) (by simp [results, Tryz.results42, go_sem, *]) rfl ?_
      rw [HE.out]
      exact ⟨rfl, by rw [HRR.out]; exact below_set3S Hb.out (Nat.le_refl _) _ _ _⟩
    · have hd : decide (T = b) = false := by simpa using hts
      have HE := Pin.Aside.mk (E.out.trans (if_pos (.inr hts)))
      clear hts
      obtain ⟨e0, e1, e2⟩ := HR.out.get3
      obtain ⟨f0, f1, f2⟩ := HR.out.fr3
      have TC := Pin.Aside.mk (HR.out.set3 (.int .u64 0) (.int .i64 0) (.int .u64 0))
      clear E
      go_wp2_with fail
      obtain ⟨n0', n1', n2'⟩ := TC.out
      unfold set3 at n0' n1' n2'
      refine bodyPost_ret (v := .tuple #[.agg #[.int .u64 0, .int .i64 0, .int .u64 0], .int .i64 0, .bool false]) (by simp [results, Tryz.results42, go_sem, *]) rfl ?_
      rw [HE.out]
      exact ⟨rfl, by rw [HRR.out]; exact below_set3S Hb.out (Nat.le_refl _) _ _ _⟩
end Go.Proofs.YtpfkpaombiikcaaGreatDoor
