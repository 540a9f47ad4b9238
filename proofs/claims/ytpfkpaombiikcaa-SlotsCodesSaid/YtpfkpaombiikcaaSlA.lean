/- The document's slots: what is plain in it. -/
import Derived.Test.YtpfkpaombiikcaaSlF
import Derived.Test.YtpfkpaombiikcaaRdRefW
import Derived.BigRegion
set_option maxRecDepth 16000
namespace Go.Proofs.Ytpfkpaombiikcaa
open Go.RowKit Go.Pin
set_option linter.unusedVariables false
set_option linter.unusedSimpArgs false
set_option maxHeartbeats 1600000 in
theorem slots_ref (v snap log area half goal step : Int) (w : World) : Calls Try.prog 12 #[.agg #[.int .i64 v, .int .i64 snap, .int .i64 log, .int .i64 area, .int .i64 half, .int .i64 goal, .int .i64 step]] w fun e w' => e = .returned (.agg #[.int .i64 v, .int .i64 snap, .int .i64 log, .int .i64 area, .int .i64 half, .int .i64 goal, .int .i64 step]) ∧ Below w.heap.size w w' := by
  have hz : (w.alloc (.cells #[.int .i64 v, .int .i64 snap, .int .i64 log, .int .i64 area, .int .i64 half, .int .i64 goal, .int .i64 step] 23)).heap.size = w.heap.size + 1 := by simp
  have hn := SevenAt.new (w.alloc (.cells #[.int .i64 v, .int .i64 snap, .int .i64 log, .int .i64 area, .int .i64 half, .int .i64 goal, .int .i64 step] 23)) ⟨v, snap, log, area, half, goal, step⟩ 35
  rw [hz] at hn
  unfold sevenO at hn
  dsimp only at hn
  have hb := ((Below.refl w.heap.size w).alloc (Nat.le_refl _) (.cells #[.int .i64 v, .int .i64 snap, .int .i64 log, .int .i64 area, .int .i64 half, .int .i64 goal, .int .i64 step] 23)).alloc (by simp) (.cells #[.int .i64 v, .int .i64 snap, .int .i64 log, .int .i64 area, .int .i64 half, .int .i64 goal, .int .i64 step] 35)
  have Hn := Pin.Aside.mk hn
  have Hb := Pin.Aside.mk hb
  clear hn hb
  go_enter Try.func12, Try.ntmps12
  go_wp2_with fail
  obtain ⟨c0, c1, c2, c3, c4, c5, c6⟩ := Hn.out
  dsimp only at c0 c1 c2 c3 c4 c5 c6
  refine bodyPost_ret (v := .agg #[.int .i64 v, .int .i64 snap, .int .i64 log, .int .i64 area, .int .i64 half, .int .i64 goal, .int .i64 step]) (by simp [results, Try.results12, go_sem, *]) rfl ?_
  exact ⟨rfl, Hb.out⟩
set_option maxHeartbeats 1600000 in
theorem slots_refHard (t o c : Int) (w : World) : Calls Try.prog 15 #[.agg #[.int .u64 t, .int .i64 o, .int .u64 c]] w fun e w' => e = .returned (.agg #[.int .u64 t, .int .i64 o, .int .u64 c]) ∧ Below w.heap.size w w' := by
  have hz : (w.alloc (.cells #[.int .u64 t, .int .i64 o, .int .u64 c] 33)).heap.size = w.heap.size + 1 := by simp
  have hn := SevAt.new (w.alloc (.cells #[.int .u64 t, .int .i64 o, .int .u64 c] 33)) #[.int .u64 t, .int .i64 o, .int .u64 c] 39 3 rfl
  rw [hz] at hn
  have hb := ((Below.refl w.heap.size w).alloc (Nat.le_refl _) (.cells #[.int .u64 t, .int .i64 o, .int .u64 c] 33)).alloc (by simp) (.cells #[.int .u64 t, .int .i64 o, .int .u64 c] 39)
  have Hn := Pin.Aside.mk hn.get3
  have Hb := Pin.Aside.mk hb
  clear hn hb
  go_enter Try.func15, Try.ntmps15
  go_wp2_with fail
  obtain ⟨c0, c1, c2⟩ := Hn.out
  replace c0 : _ = some (Value.int .u64 t) := c0
  replace c1 : _ = some (Value.int .i64 o) := c1
  replace c2 : _ = some (Value.int .u64 c) := c2
  refine bodyPost_ret (v := .agg #[.int .u64 t, .int .i64 o, .int .u64 c]) (by simp [results, Try.results15, go_sem, *]) rfl ?_
  exact ⟨rfl, Hb.out⟩
theorem slotsref_number (v n k : Int) (hn0 : 0 ≤ n) (hn : n ≤ 18446744073709551615) (hk0 : 0 ≤ k) (hk : k ≤ 8) (w : World) :
    Calls Try.prog 29 #[.int .i64 v, .int .u64 n, .int .i64 k] w fun e w' => e = .returned (.string (snum v n.toNat k)) ∧ Below w.heap.size w w' := by
  by_cases hv : v = 1
  · have hs : snum v n.toNat k = fixedS n.toNat k := by unfold snum; rw [if_pos hv]
    have kv : (v == 1) = true := by simpa using hv
    rw [hs]
    have Hc := Pin.Aside.mk fun W => varref_fixed n k hn0 hn hk0 hk W
    clear hv hs
    go_enter Try.func29, Try.ntmps29
    go_wp2_with fail
    refine (Hc.out _).mono ?_
    rintro e w1 ⟨rfl, hb⟩
    go_wp2_with fail
    go_ret
    exact ⟨rfl, hb⟩
  · have hs : snum v n.toNat k = vputS n.toNat := by unfold snum; rw [if_neg hv]
    have kv : (v == 1) = false := by simpa using hv
    rw [hs]
    have Hc := Pin.Aside.mk fun W => varref_put n hn0 hn W
    clear hv hs
    go_enter Try.func29, Try.ntmps29
    go_wp2_with fail
    refine (Hc.out _).mono ?_
    rintro e w1 ⟨rfl, hb⟩
    go_wp2_with fail
    go_ret
    exact ⟨rfl, hb⟩
theorem slotsref_take (b : Nat) (r : Rd) (v k : Int) (hk : -9223372036854775808 ≤ k ∧ k ≤ 9223372036854775807) (w : World) (h : RdAt w b r) (hs : r.s.size ≤ 1152921504606846976) :
    Calls Try.prog 40 #[.pointer (some ⟨b, 0, none⟩), .int .i64 v, .int .i64 k] w fun e w' => e = .returned (.int .u64 (stake v r k).1) ∧ RdAt w' b (stake v r k).2 ∧ Keep (fun k => k = b) w w' := by
  by_cases hv : v = 1
  · have hq : stake v r k = r.fixed k := by unfold stake; rw [if_pos hv]
    have kv : (v == 1) = true := by simpa using hv
    rw [hq]
    have Hc := Pin.Aside.mk (rr_fixed b r k w h hk hs)
    clear hv hq
    go_enter Try.func40, Try.ntmps40
    go_wp2_with fail
    refine Hc.out.mono ?_
    rintro e w1 ⟨rfl, hr, hb⟩
    go_wp2_with fail
    go_ret
    exact ⟨rfl, hr, hb⟩
  · have hq : stake v r k = r.var := by unfold stake; rw [if_neg hv]
    have kv : (v == 1) = false := by simpa using hv
    rw [hq]
    have Hc := Pin.Aside.mk (rr_var b r w h hs)
    clear hv hq
    go_enter Try.func40, Try.ntmps40
    go_wp2_with fail
    refine Hc.out.mono ?_
    rintro e w1 ⟨rfl, hr, hb⟩
    go_wp2_with fail
    go_ret
    exact ⟨rfl, hr, hb⟩
set_option maxHeartbeats 6400000 in
theorem slotsref_right (s : Sup) (w : World) : Calls Try.prog 27 #[.agg #[.int .i64 s.v, .int .i64 s.snap, .int .i64 s.log, .int .i64 s.area, .int .i64 s.half, .int .i64 s.goal, .int .i64 s.step]] w fun e w' => e = .returned (.bool s.right) ∧ Below w.heap.size w w' := by
  obtain ⟨b, hbr⟩ : ∃ b, s.right = b := ⟨_, rfl⟩
  have Hb := Pin.Aside.mk hbr
  obtain ⟨v, snap, log, area, half, goal, step⟩ := s
  dsimp only
  rw [hbr]
  have Hr := Pin.Aside.mk (show ((⟨v, snap, log, area, half, goal, step⟩ : Sup).right = true) ↔ _ from decide_eq_true_iff)
  clear hbr
  by_cases v1 : v = 1
  · subst v1
    by_cases h0 : snap < 1
    · obtain rfl : b = false := by
        rw [← Hb.out]
        cases hq : (⟨1, snap, log, area, half, goal, step⟩ : Sup).right; rfl; exact absurd (Sup.right_iff hq) (by dsimp only; omega)
      have g0 : ¬ 1 ≤ snap := by omega
      go_enter Try.func27, Try.ntmps27
      go_wp2_with fail
      go_ret
      exact ⟨rfl, (Below.refl _ _).alloc (Nat.le_refl _) _⟩
    have g0 : 1 ≤ snap := by omega
    by_cases h1 : 1000 < snap
    · obtain rfl : b = false := by
        rw [← Hb.out]
        cases hq : (⟨1, snap, log, area, half, goal, step⟩ : Sup).right; rfl; exact absurd (Sup.right_iff hq) (by dsimp only; omega)
      have g1 : ¬ snap ≤ 1000 := by omega
      go_enter Try.func27, Try.ntmps27
      go_wp2_with fail
      go_ret
      exact ⟨rfl, (Below.refl _ _).alloc (Nat.le_refl _) _⟩
    have g1 : snap ≤ 1000 := by omega
    by_cases h2 : log < 1
    · obtain rfl : b = false := by
        rw [← Hb.out]
        cases hq : (⟨1, snap, log, area, half, goal, step⟩ : Sup).right; rfl; exact absurd (Sup.right_iff hq) (by dsimp only; omega)
      have g2 : ¬ 1 ≤ log := by omega
      go_enter Try.func27, Try.ntmps27
      go_wp2_with fail
      go_ret
      exact ⟨rfl, (Below.refl _ _).alloc (Nat.le_refl _) _⟩
    have g2 : 1 ≤ log := by omega
    by_cases h3 : 1000 < log
    · obtain rfl : b = false := by
        rw [← Hb.out]
        cases hq : (⟨1, snap, log, area, half, goal, step⟩ : Sup).right; rfl; exact absurd (Sup.right_iff hq) (by dsimp only; omega)
      have g3 : ¬ log ≤ 1000 := by omega
      go_enter Try.func27, Try.ntmps27
      go_wp2_with fail
      go_ret
      exact ⟨rfl, (Below.refl _ _).alloc (Nat.le_refl _) _⟩
    have g3 : log ≤ 1000 := by omega
    by_cases h4 : area < 0
    · obtain rfl : b = false := by
        rw [← Hb.out]
        cases hq : (⟨1, snap, log, area, half, goal, step⟩ : Sup).right; rfl; exact absurd (Sup.right_iff hq) (by dsimp only; omega)
      have g4 : ¬ 0 ≤ area := by omega
      go_enter Try.func27, Try.ntmps27
      go_wp2_with fail
      go_ret
      exact ⟨rfl, (Below.refl _ _).alloc (Nat.le_refl _) _⟩
    have g4 : 0 ≤ area := by omega
    by_cases h5 : 1 < area
    · obtain rfl : b = false := by
        rw [← Hb.out]
        cases hq : (⟨1, snap, log, area, half, goal, step⟩ : Sup).right; rfl; exact absurd (Sup.right_iff hq) (by dsimp only; omega)
      have g5 : ¬ area ≤ 1 := by omega
      go_enter Try.func27, Try.ntmps27
      go_wp2_with fail
      go_ret
      exact ⟨rfl, (Below.refl _ _).alloc (Nat.le_refl _) _⟩
    have g5 : area ≤ 1 := by omega
    by_cases h6 : half < 0
    · obtain rfl : b = false := by
        rw [← Hb.out]
        cases hq : (⟨1, snap, log, area, half, goal, step⟩ : Sup).right; rfl; exact absurd (Sup.right_iff hq) (by dsimp only; omega)
      have g6 : ¬ 0 ≤ half := by omega
      go_enter Try.func27, Try.ntmps27
      go_wp2_with fail
      go_ret
      exact ⟨rfl, (Below.refl _ _).alloc (Nat.le_refl _) _⟩
    have g6 : 0 ≤ half := by omega
    by_cases h7 : 1 < half
    · obtain rfl : b = false := by
        rw [← Hb.out]
        cases hq : (⟨1, snap, log, area, half, goal, step⟩ : Sup).right; rfl; exact absurd (Sup.right_iff hq) (by dsimp only; omega)
      have g7 : ¬ half ≤ 1 := by omega
      go_enter Try.func27, Try.ntmps27
      go_wp2_with fail
      go_ret
      exact ⟨rfl, (Below.refl _ _).alloc (Nat.le_refl _) _⟩
    have g7 : half ≤ 1 := by omega
    by_cases h8 : goal < 0
    · obtain rfl : b = false := by
        rw [← Hb.out]
        cases hq : (⟨1, snap, log, area, half, goal, step⟩ : Sup).right; rfl; exact absurd (Sup.right_iff hq) (by dsimp only; omega)
      have g8 : ¬ 0 ≤ goal := by omega
      go_enter Try.func27, Try.ntmps27
      go_wp2_with fail
      go_ret
      exact ⟨rfl, (Below.refl _ _).alloc (Nat.le_refl _) _⟩
    have g8 : 0 ≤ goal := by omega
    by_cases h9 : 2 < goal
    · obtain rfl : b = false := by
        rw [← Hb.out]
        cases hq : (⟨1, snap, log, area, half, goal, step⟩ : Sup).right; rfl; exact absurd (Sup.right_iff hq) (by dsimp only; omega)
      have g9 : ¬ goal ≤ 2 := by omega
      go_enter Try.func27, Try.ntmps27
      go_wp2_with fail
      go_ret
      exact ⟨rfl, (Below.refl _ _).alloc (Nat.le_refl _) _⟩
    have g9 : goal ≤ 2 := by omega
    by_cases h10 : step < 0
    · obtain rfl : b = false := by
        rw [← Hb.out]
        cases hq : (⟨1, snap, log, area, half, goal, step⟩ : Sup).right; rfl; exact absurd (Sup.right_iff hq) (by dsimp only; omega)
      have g10 : ¬ 0 ≤ step := by omega
      go_enter Try.func27, Try.ntmps27
      go_wp2_with fail
      go_ret
      exact ⟨rfl, (Below.refl _ _).alloc (Nat.le_refl _) _⟩
    have g10 : 0 ≤ step := by omega
    by_cases h11 : 9 < step
    · obtain rfl : b = false := by
        rw [← Hb.out]
        cases hq : (⟨1, snap, log, area, half, goal, step⟩ : Sup).right; rfl; exact absurd (Sup.right_iff hq) (by dsimp only; omega)
      have g11 : ¬ step ≤ 9 := by omega
      go_enter Try.func27, Try.ntmps27
      go_wp2_with fail
      go_ret
      exact ⟨rfl, (Below.refl _ _).alloc (Nat.le_refl _) _⟩
    have g11 : step ≤ 9 := by omega
    by_cases hg : 0 < goal
    · obtain rfl : b = true := by
        rw [← Hb.out]
        rw [Hr.out]; dsimp only; omega
      go_enter Try.func27, Try.ntmps27
      go_wp2_with fail
      go_ret
      exact ⟨rfl, (Below.refl _ _).alloc (Nat.le_refl _) _⟩
    by_cases hs : step = 0
    · have ks : (step == 0) = true := by simpa using hs
      have kg : decide (0 < goal) = false := by simpa using hg
      obtain rfl : b = true := by
        rw [← Hb.out]
        rw [Hr.out]; dsimp only; omega
      clear hs
      go_enter Try.func27, Try.ntmps27
      go_wp2_with fail
      go_ret
      exact ⟨rfl, (Below.refl _ _).alloc (Nat.le_refl _) _⟩
    have ks : (step == 0) = false := by simpa using hs
    have kg : decide (0 < goal) = false := by simpa using hg
    obtain rfl : b = false := by
      rw [← Hb.out]
      cases hq : (⟨1, snap, log, area, half, goal, step⟩ : Sup).right; rfl; exact absurd (Sup.right_iff hq) (by dsimp only; omega)
    go_enter Try.func27, Try.ntmps27
    go_wp2_with fail
    go_ret
    exact ⟨rfl, (Below.refl _ _).alloc (Nat.le_refl _) _⟩
  by_cases v2 : v = 2
  · subst v2
    by_cases h0 : snap < 1
    · obtain rfl : b = false := by
        rw [← Hb.out]
        cases hq : (⟨2, snap, log, area, half, goal, step⟩ : Sup).right; rfl; exact absurd (Sup.right_iff hq) (by dsimp only; omega)
      have g0 : ¬ 1 ≤ snap := by omega
      go_enter Try.func27, Try.ntmps27
      go_wp2_with fail
      go_ret
      exact ⟨rfl, (Below.refl _ _).alloc (Nat.le_refl _) _⟩
    have g0 : 1 ≤ snap := by omega
    by_cases h1 : 1000 < snap
    · obtain rfl : b = false := by
        rw [← Hb.out]
        cases hq : (⟨2, snap, log, area, half, goal, step⟩ : Sup).right; rfl; exact absurd (Sup.right_iff hq) (by dsimp only; omega)
      have g1 : ¬ snap ≤ 1000 := by omega
      go_enter Try.func27, Try.ntmps27
      go_wp2_with fail
      go_ret
      exact ⟨rfl, (Below.refl _ _).alloc (Nat.le_refl _) _⟩
    have g1 : snap ≤ 1000 := by omega
    by_cases h2 : log < 1
    · obtain rfl : b = false := by
        rw [← Hb.out]
        cases hq : (⟨2, snap, log, area, half, goal, step⟩ : Sup).right; rfl; exact absurd (Sup.right_iff hq) (by dsimp only; omega)
      have g2 : ¬ 1 ≤ log := by omega
      go_enter Try.func27, Try.ntmps27
      go_wp2_with fail
      go_ret
      exact ⟨rfl, (Below.refl _ _).alloc (Nat.le_refl _) _⟩
    have g2 : 1 ≤ log := by omega
    by_cases h3 : 1000 < log
    · obtain rfl : b = false := by
        rw [← Hb.out]
        cases hq : (⟨2, snap, log, area, half, goal, step⟩ : Sup).right; rfl; exact absurd (Sup.right_iff hq) (by dsimp only; omega)
      have g3 : ¬ log ≤ 1000 := by omega
      go_enter Try.func27, Try.ntmps27
      go_wp2_with fail
      go_ret
      exact ⟨rfl, (Below.refl _ _).alloc (Nat.le_refl _) _⟩
    have g3 : log ≤ 1000 := by omega
    by_cases h4 : area < 0
    · obtain rfl : b = false := by
        rw [← Hb.out]
        cases hq : (⟨2, snap, log, area, half, goal, step⟩ : Sup).right; rfl; exact absurd (Sup.right_iff hq) (by dsimp only; omega)
      have g4 : ¬ 0 ≤ area := by omega
      go_enter Try.func27, Try.ntmps27
      go_wp2_with fail
      go_ret
      exact ⟨rfl, (Below.refl _ _).alloc (Nat.le_refl _) _⟩
    have g4 : 0 ≤ area := by omega
    by_cases h5 : 1 < area
    · obtain rfl : b = false := by
        rw [← Hb.out]
        cases hq : (⟨2, snap, log, area, half, goal, step⟩ : Sup).right; rfl; exact absurd (Sup.right_iff hq) (by dsimp only; omega)
      have g5 : ¬ area ≤ 1 := by omega
      go_enter Try.func27, Try.ntmps27
      go_wp2_with fail
      go_ret
      exact ⟨rfl, (Below.refl _ _).alloc (Nat.le_refl _) _⟩
    have g5 : area ≤ 1 := by omega
    by_cases h6 : half < 0
    · obtain rfl : b = false := by
        rw [← Hb.out]
        cases hq : (⟨2, snap, log, area, half, goal, step⟩ : Sup).right; rfl; exact absurd (Sup.right_iff hq) (by dsimp only; omega)
      have g6 : ¬ 0 ≤ half := by omega
      go_enter Try.func27, Try.ntmps27
      go_wp2_with fail
      go_ret
      exact ⟨rfl, (Below.refl _ _).alloc (Nat.le_refl _) _⟩
    have g6 : 0 ≤ half := by omega
    by_cases h7 : 1 < half
    · obtain rfl : b = false := by
        rw [← Hb.out]
        cases hq : (⟨2, snap, log, area, half, goal, step⟩ : Sup).right; rfl; exact absurd (Sup.right_iff hq) (by dsimp only; omega)
      have g7 : ¬ half ≤ 1 := by omega
      go_enter Try.func27, Try.ntmps27
      go_wp2_with fail
      go_ret
      exact ⟨rfl, (Below.refl _ _).alloc (Nat.le_refl _) _⟩
    have g7 : half ≤ 1 := by omega
    by_cases h8 : goal < 0
    · obtain rfl : b = false := by
        rw [← Hb.out]
        cases hq : (⟨2, snap, log, area, half, goal, step⟩ : Sup).right; rfl; exact absurd (Sup.right_iff hq) (by dsimp only; omega)
      have g8 : ¬ 0 ≤ goal := by omega
      go_enter Try.func27, Try.ntmps27
      go_wp2_with fail
      go_ret
      exact ⟨rfl, (Below.refl _ _).alloc (Nat.le_refl _) _⟩
    have g8 : 0 ≤ goal := by omega
    by_cases h9 : 2 < goal
    · obtain rfl : b = false := by
        rw [← Hb.out]
        cases hq : (⟨2, snap, log, area, half, goal, step⟩ : Sup).right; rfl; exact absurd (Sup.right_iff hq) (by dsimp only; omega)
      have g9 : ¬ goal ≤ 2 := by omega
      go_enter Try.func27, Try.ntmps27
      go_wp2_with fail
      go_ret
      exact ⟨rfl, (Below.refl _ _).alloc (Nat.le_refl _) _⟩
    have g9 : goal ≤ 2 := by omega
    by_cases h10 : step < 0
    · obtain rfl : b = false := by
        rw [← Hb.out]
        cases hq : (⟨2, snap, log, area, half, goal, step⟩ : Sup).right; rfl; exact absurd (Sup.right_iff hq) (by dsimp only; omega)
      have g10 : ¬ 0 ≤ step := by omega
      go_enter Try.func27, Try.ntmps27
      go_wp2_with fail
      go_ret
      exact ⟨rfl, (Below.refl _ _).alloc (Nat.le_refl _) _⟩
    have g10 : 0 ≤ step := by omega
    by_cases h11 : 9 < step
    · obtain rfl : b = false := by
        rw [← Hb.out]
        cases hq : (⟨2, snap, log, area, half, goal, step⟩ : Sup).right; rfl; exact absurd (Sup.right_iff hq) (by dsimp only; omega)
      have g11 : ¬ step ≤ 9 := by omega
      go_enter Try.func27, Try.ntmps27
      go_wp2_with fail
      go_ret
      exact ⟨rfl, (Below.refl _ _).alloc (Nat.le_refl _) _⟩
    have g11 : step ≤ 9 := by omega
    by_cases hg : 0 < goal
    · obtain rfl : b = true := by
        rw [← Hb.out]
        rw [Hr.out]; dsimp only; omega
      go_enter Try.func27, Try.ntmps27
      go_wp2_with fail
      go_ret
      exact ⟨rfl, (Below.refl _ _).alloc (Nat.le_refl _) _⟩
    by_cases hs : step = 0
    · have ks : (step == 0) = true := by simpa using hs
      have kg : decide (0 < goal) = false := by simpa using hg
      obtain rfl : b = true := by
        rw [← Hb.out]
        rw [Hr.out]; dsimp only; omega
      clear hs
      go_enter Try.func27, Try.ntmps27
      go_wp2_with fail
      go_ret
      exact ⟨rfl, (Below.refl _ _).alloc (Nat.le_refl _) _⟩
    have ks : (step == 0) = false := by simpa using hs
    have kg : decide (0 < goal) = false := by simpa using hg
    obtain rfl : b = false := by
      rw [← Hb.out]
      cases hq : (⟨2, snap, log, area, half, goal, step⟩ : Sup).right; rfl; exact absurd (Sup.right_iff hq) (by dsimp only; omega)
    go_enter Try.func27, Try.ntmps27
    go_wp2_with fail
    go_ret
    exact ⟨rfl, (Below.refl _ _).alloc (Nat.le_refl _) _⟩
  have k1 : (v != 1) = true := by simpa using v1
  have k2 : (v != 2) = true := by simpa using v2
  obtain rfl : b = false := by
    rw [← Hb.out]
    cases hq : (⟨v, snap, log, area, half, goal, step⟩ : Sup).right; rfl; exact absurd (Sup.right_iff hq) (by dsimp only; omega)
  go_enter Try.func27, Try.ntmps27
  go_wp2_with fail
  go_ret
  exact ⟨rfl, (Below.refl _ _).alloc (Nat.le_refl _) _⟩
theorem slotsref_sectors (s : Sup) (w : World) : Calls Try.prog 21 #[.agg #[.int .i64 s.v, .int .i64 s.snap, .int .i64 s.log, .int .i64 s.area, .int .i64 s.half, .int .i64 s.goal, .int .i64 s.step]] w fun e w' => e = .returned (.int .i64 (ssectors s)) ∧ Below w.heap.size w w' := by
  have hr := fun W => slotsref_right s W
  obtain ⟨b, hb⟩ : ∃ b, s.right = b := ⟨_, rfl⟩
  have hn := SevenAt.new w s 35
  have hb0 := (Below.refl w.heap.size w).alloc (Nat.le_refl _) (sevenO s 35)
  rw [hb] at hr
  cases b with
  | false =>
    have E : ssectors s = 0 := by unfold ssectors; rw [if_neg (by rw [hb]; simp)]
    rw [E]
    unfold sevenO at hb0
    have Hr := Pin.Aside.mk hr
    have Hb := Pin.Aside.mk hb0
    clear hr hn hb hb0 E
    obtain ⟨v, snap, log, area, half, goal, step⟩ := s
    go_enter Try.func21, Try.ntmps21
    go_wp2_with fail
    refine (Hr.out _).mono ?_
    rintro e w1 ⟨rfl, hbb⟩
    have hE := Below.next Hb.out hbb
    clear hbb
    go_wp2_with fail
    go_ret
    exact ⟨rfl, hE⟩
  | true =>
    have E : ssectors s = 4 + 2 * (s.snap + s.log) := by unfold ssectors; rw [if_pos hb]
    obtain ⟨_, ⟨b1, b2⟩, ⟨b3, b4⟩, _⟩ := Sup.right_iff hb
    rw [E]
    unfold sevenO at hb0 hn
    have Hr := Pin.Aside.mk hr
    have Hb := Pin.Aside.mk hb0
    have Hn := Pin.Aside.mk hn
    clear hr hn hb hb0 E
    obtain ⟨v, snap, log, area, half, goal, step⟩ := s
    dsimp only at b1 b2 b3 b4
    go_enter Try.func21, Try.ntmps21
    go_wp2_with fail
    refine (Hr.out _).mono ?_
    rintro e w1 ⟨rfl, hbb⟩
    have hE := Pin.Aside.mk (Below.next Hb.out hbb)
    obtain ⟨c0, c1, c2, c3, c4, c5, c6⟩ := Hn.out.below hbb
    dsimp only at c0 c1 c2 c3 c4 c5 c6
    clear hbb
    go_wp2_with fail
    go_ret
    exact ⟨rfl, hE.out⟩
end Go.Proofs.Ytpfkpaombiikcaa
