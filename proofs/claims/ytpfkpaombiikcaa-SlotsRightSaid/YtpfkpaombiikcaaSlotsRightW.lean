/- SlotsRight: its walk. -/
import Derived.Test.YtpfkpaombiikcaaSlS
set_option maxRecDepth 16000
namespace Go.Proofs.Ytpfkpaombiikcaa
open Go.RowKit Go.Pin
set_option linter.unusedVariables false
set_option linter.unusedSimpArgs false
theorem slots_inR (n lo hi : Int) (w : World) : Calls Try.prog 8 #[.int .i64 n, .int .i64 lo, .int .i64 hi] w fun e w' => e = .returned (.bool (inB n lo hi)) ∧ w' = w := by
  by_cases h1 : lo ≤ n
  · by_cases h2 : n ≤ hi
    · rw [inB_yes ⟨h1, h2⟩]
      go_enter Try.func8, Try.ntmps8
      go_wp2_with fail
      go_ret
      exact ⟨rfl, rfl⟩
    · rw [inB_no (fun q => h2 q.2)]
      go_enter Try.func8, Try.ntmps8
      go_wp2_with fail
      go_ret
      exact ⟨rfl, rfl⟩
  · rw [inB_no (fun q => h1 q.1)]
    go_enter Try.func8, Try.ntmps8
    go_wp2_with fail
    go_ret
    exact ⟨rfl, rfl⟩
theorem supS_pos (s : Sup) : supS s ≠ ⟨#[]⟩ := by
  intro h
  have : (supS s).size = 0 := by rw [h]; rfl
  rw [supS_list, bs_size] at this
  unfold supL at this
  rw [List.length_append, fixedL_len] at this
  omega
set_option maxHeartbeats 6400000 in
theorem slotsRight_walk (v snap log area half goal step : Int) (hv : -9223372036854775808 ≤ v ∧ v ≤ 9223372036854775807) (hsnap : -9223372036854775808 ≤ snap ∧ snap ≤ 9223372036854775807) (hlog : -9223372036854775808 ≤ log ∧ log ≤ 9223372036854775807) (harea : -9223372036854775808 ≤ area ∧ area ≤ 9223372036854775807) (hhalf : -9223372036854775808 ≤ half ∧ half ≤ 9223372036854775807) (hgoal : -9223372036854775808 ≤ goal ∧ goal ≤ 9223372036854775807) (hstep : -9223372036854775808 ≤ step ∧ step ≤ 9223372036854775807) (w : World) :
    Calls Try.prog 3 #[.agg #[.int .i64 v, .int .i64 snap, .int .i64 log, .int .i64 area, .int .i64 half, .int .i64 goal, .int .i64 step]] w fun e w' => e = .returned (.bool true) ∧ Below w.heap.size w w' := by
  have hse := str_beq
  have hb := (Below.refl w.heap.size w).alloc (Nat.le_refl _) (.cells #[.int .i64 v, .int .i64 snap, .int .i64 log, .int .i64 area, .int .i64 half, .int .i64 goal, .int .i64 step] 23)
  have hA := SevenAt.new w ⟨v, snap, log, area, half, goal, step⟩ 23
  unfold sevenO at hA
  have HA := Pin.Aside.mk hA
  clear hA
  go_enter Try.func3, Try.ntmps3
  go_wp2_with fail
  refine (slots_examples _).mono ?_
  rintro e w1 ⟨rfl, hbb⟩
  replace hb := Below.next hb hbb
  replace HA := Pin.Aside.mk (HA.out.below hbb)
  clear hbb
  generalize hRR : w.heap.size = R at *
  have HRR := Pin.Aside.mk hRR
  have HS := Pin.Aside.mk (show ∀ x, Below R w x → R ≤ x.heap.size from fun x h => by have := h.size; omega)
  clear hRR
  obtain ⟨c0, c1, c2, c3, c4, c5, c6⟩ := HA.out
  dsimp only at c0 c1 c2 c3 c4 c5 c6
  go_wp2_with fail
  refine (slots_small v snap log area half goal step _).mono ?_
  rintro e w2 ⟨rfl, hbb⟩
  replace hb := hb.trans (hbb.mono (HS.out _ hb))
  clear hbb c0 c1 c2 c3 c4 c5 c6 HA
  generalize (v.tmod 4) = x0
  generalize (snap.tmod 1003) = x1
  generalize (log.tmod 1003) = x2
  generalize (area.tmod 3) = x3
  generalize (half.tmod 3) = x4
  generalize (goal.tmod 4) = x5
  generalize (step.tmod 11) = x6
  have hX := SevenAt.new w2 ⟨x0, x1, x2, x3, x4, x5, x6⟩ 23
  replace hb := hb.alloc (HS.out _ hb) (sevenO ⟨x0, x1, x2, x3, x4, x5, x6⟩ 23)
  unfold sevenO at hX hb
  dsimp only at hX hb
  have HX := Pin.Aside.mk hX
  clear hX
  go_upto_region 6 with fail
  generalize w2.alloc (.cells #[.int .i64 x0, .int .i64 x1, .int .i64 x2, .int .i64 x3, .int .i64 x4, .int .i64 x5, .int .i64 x6] 23) = w3 at *
  generalize w2.heap.size = B at *
  obtain ⟨c0, c1, c2, c3, c4, c5, c6⟩ := HX.out
  dsimp only at c0 c1 c2 c3 c4 c5 c6
  have Hn := Pin.Aside.mk (show (⟨x0, x1, x2, x3, x4, x5, x6⟩ : Sup).right = false → (∀ W, Calls Try.prog 9 #[.agg #[.int .i64 x0, .int .i64 x1, .int .i64 x2, .int .i64 x3, .int .i64 x4, .int .i64 x5, .int .i64 x6]] W fun e w' => e = .returned (.tuple #[.string ⟨#[]⟩, .bool false]) ∧ Below W.heap.size W w') ∧ (∀ W, Calls Try.prog 10 #[.agg #[.int .i64 x0, .int .i64 x1, .int .i64 x2, .int .i64 x3, .int .i64 x4, .int .i64 x5, .int .i64 x6]] W fun e w' => e = .returned (.int .i64 0) ∧ Below W.heap.size W w') from fun q =>
    ⟨fun W => slots_put_to ⟨x0, x1, x2, x3, x4, x5, x6⟩ _ _ (by unfold supput; rw [if_neg (by rw [q]; simp)]) W, fun W => by
      have := slots_sectors ⟨x0, x1, x2, x3, x4, x5, x6⟩ W
      unfold ssectors at this
      rw [if_neg (by rw [q]; simp)] at this
      exact this⟩)
  have Hy := Pin.Aside.mk (show (⟨x0, x1, x2, x3, x4, x5, x6⟩ : Sup).right = true → (∀ W, Calls Try.prog 9 #[.agg #[.int .i64 x0, .int .i64 x1, .int .i64 x2, .int .i64 x3, .int .i64 x4, .int .i64 x5, .int .i64 x6]] W fun e w' => e = .returned (.tuple #[.string (supS ⟨x0, x1, x2, x3, x4, x5, x6⟩), .bool true]) ∧ Below W.heap.size W w') ∧ (∀ W, Calls Try.prog 10 #[.agg #[.int .i64 x0, .int .i64 x1, .int .i64 x2, .int .i64 x3, .int .i64 x4, .int .i64 x5, .int .i64 x6]] W fun e w' => e = .returned (.int .i64 (ssectors ⟨x0, x1, x2, x3, x4, x5, x6⟩)) ∧ Below W.heap.size W w') from fun q =>
    ⟨fun W => slots_put_to ⟨x0, x1, x2, x3, x4, x5, x6⟩ _ _ (by unfold supput; rw [if_pos q]) W, fun W => slots_sectors ⟨x0, x1, x2, x3, x4, x5, x6⟩ W⟩)
  have Hr := Pin.Aside.mk (show ((⟨x0, x1, x2, x3, x4, x5, x6⟩ : Sup).right = true) ↔ _ from decide_eq_true_iff)
  by_cases h0 : ¬ (1 ≤ x0 ∧ x0 ≤ 2)
  · have k0 := inB_no h0
    have hr : (⟨x0, x1, x2, x3, x4, x5, x6⟩ : Sup).right = false := by
      cases hq : (⟨x0, x1, x2, x3, x4, x5, x6⟩ : Sup).right; rfl; exact absurd (Sup.right_iff hq) (by dsimp only; omega)
    go_wp2_with ((go_at_call 8; refine (slots_inR _ _ _ _).mono ?_; rintro e w' ⟨rfl, rfl⟩))
    refine ((Hn.out hr).1 _).mono ?_
    rintro e w4 ⟨rfl, hbb⟩
    replace hb := hb.trans (hbb.mono (HS.out _ hb))
    replace HX := Pin.Aside.mk (HX.out.below hbb)
    clear hbb c0 c1 c2 c3 c4 c5 c6
    obtain ⟨c0, c1, c2, c3, c4, c5, c6⟩ := HX.out
    dsimp only at c0 c1 c2 c3 c4 c5 c6
    go_wp2_with fail
    refine ((Hn.out hr).2 _).mono ?_
    rintro e w5 ⟨rfl, hbb⟩
    have HE := Pin.Aside.mk (hb.trans (hbb.mono (HS.out _ hb)))
    clear hbb hb c0 c1 c2 c3 c4 c5 c6
    go_wp2_with fail
    go_ret
    exact ⟨rfl, by rw [HRR.out]; exact HE.out⟩
  replace h0 := Classical.not_not.1 h0
  have k0 := inB_yes h0
  by_cases h1 : ¬ (1 ≤ x1 ∧ x1 ≤ 1000)
  · have k1 := inB_no h1
    have hr : (⟨x0, x1, x2, x3, x4, x5, x6⟩ : Sup).right = false := by
      cases hq : (⟨x0, x1, x2, x3, x4, x5, x6⟩ : Sup).right; rfl; exact absurd (Sup.right_iff hq) (by dsimp only; omega)
    go_wp2_with ((go_at_call 8; refine (slots_inR _ _ _ _).mono ?_; rintro e w' ⟨rfl, rfl⟩))
    refine ((Hn.out hr).1 _).mono ?_
    rintro e w4 ⟨rfl, hbb⟩
    replace hb := hb.trans (hbb.mono (HS.out _ hb))
    replace HX := Pin.Aside.mk (HX.out.below hbb)
    clear hbb c0 c1 c2 c3 c4 c5 c6
    obtain ⟨c0, c1, c2, c3, c4, c5, c6⟩ := HX.out
    dsimp only at c0 c1 c2 c3 c4 c5 c6
    go_wp2_with fail
    refine ((Hn.out hr).2 _).mono ?_
    rintro e w5 ⟨rfl, hbb⟩
    have HE := Pin.Aside.mk (hb.trans (hbb.mono (HS.out _ hb)))
    clear hbb hb c0 c1 c2 c3 c4 c5 c6
    go_wp2_with fail
    go_ret
    exact ⟨rfl, by rw [HRR.out]; exact HE.out⟩
  replace h1 := Classical.not_not.1 h1
  have k1 := inB_yes h1
  by_cases h2 : ¬ (1 ≤ x2 ∧ x2 ≤ 1000)
  · have k2 := inB_no h2
    have hr : (⟨x0, x1, x2, x3, x4, x5, x6⟩ : Sup).right = false := by
      cases hq : (⟨x0, x1, x2, x3, x4, x5, x6⟩ : Sup).right; rfl; exact absurd (Sup.right_iff hq) (by dsimp only; omega)
    go_wp2_with ((go_at_call 8; refine (slots_inR _ _ _ _).mono ?_; rintro e w' ⟨rfl, rfl⟩))
    refine ((Hn.out hr).1 _).mono ?_
    rintro e w4 ⟨rfl, hbb⟩
    replace hb := hb.trans (hbb.mono (HS.out _ hb))
    replace HX := Pin.Aside.mk (HX.out.below hbb)
    clear hbb c0 c1 c2 c3 c4 c5 c6
    obtain ⟨c0, c1, c2, c3, c4, c5, c6⟩ := HX.out
    dsimp only at c0 c1 c2 c3 c4 c5 c6
    go_wp2_with fail
    refine ((Hn.out hr).2 _).mono ?_
    rintro e w5 ⟨rfl, hbb⟩
    have HE := Pin.Aside.mk (hb.trans (hbb.mono (HS.out _ hb)))
    clear hbb hb c0 c1 c2 c3 c4 c5 c6
    go_wp2_with fail
    go_ret
    exact ⟨rfl, by rw [HRR.out]; exact HE.out⟩
  replace h2 := Classical.not_not.1 h2
  have k2 := inB_yes h2
  by_cases h3 : ¬ (0 ≤ x3 ∧ x3 ≤ 1)
  · have k3 := inB_no h3
    have hr : (⟨x0, x1, x2, x3, x4, x5, x6⟩ : Sup).right = false := by
      cases hq : (⟨x0, x1, x2, x3, x4, x5, x6⟩ : Sup).right; rfl; exact absurd (Sup.right_iff hq) (by dsimp only; omega)
    go_wp2_with ((go_at_call 8; refine (slots_inR _ _ _ _).mono ?_; rintro e w' ⟨rfl, rfl⟩))
    refine ((Hn.out hr).1 _).mono ?_
    rintro e w4 ⟨rfl, hbb⟩
    replace hb := hb.trans (hbb.mono (HS.out _ hb))
    replace HX := Pin.Aside.mk (HX.out.below hbb)
    clear hbb c0 c1 c2 c3 c4 c5 c6
    obtain ⟨c0, c1, c2, c3, c4, c5, c6⟩ := HX.out
    dsimp only at c0 c1 c2 c3 c4 c5 c6
    go_wp2_with fail
    refine ((Hn.out hr).2 _).mono ?_
    rintro e w5 ⟨rfl, hbb⟩
    have HE := Pin.Aside.mk (hb.trans (hbb.mono (HS.out _ hb)))
    clear hbb hb c0 c1 c2 c3 c4 c5 c6
    go_wp2_with fail
    go_ret
    exact ⟨rfl, by rw [HRR.out]; exact HE.out⟩
  replace h3 := Classical.not_not.1 h3
  have k3 := inB_yes h3
  by_cases h4 : ¬ (0 ≤ x4 ∧ x4 ≤ 1)
  · have k4 := inB_no h4
    have hr : (⟨x0, x1, x2, x3, x4, x5, x6⟩ : Sup).right = false := by
      cases hq : (⟨x0, x1, x2, x3, x4, x5, x6⟩ : Sup).right; rfl; exact absurd (Sup.right_iff hq) (by dsimp only; omega)
    go_wp2_with ((go_at_call 8; refine (slots_inR _ _ _ _).mono ?_; rintro e w' ⟨rfl, rfl⟩))
    refine ((Hn.out hr).1 _).mono ?_
    rintro e w4 ⟨rfl, hbb⟩
    replace hb := hb.trans (hbb.mono (HS.out _ hb))
    replace HX := Pin.Aside.mk (HX.out.below hbb)
    clear hbb c0 c1 c2 c3 c4 c5 c6
    obtain ⟨c0, c1, c2, c3, c4, c5, c6⟩ := HX.out
    dsimp only at c0 c1 c2 c3 c4 c5 c6
    go_wp2_with fail
    refine ((Hn.out hr).2 _).mono ?_
    rintro e w5 ⟨rfl, hbb⟩
    have HE := Pin.Aside.mk (hb.trans (hbb.mono (HS.out _ hb)))
    clear hbb hb c0 c1 c2 c3 c4 c5 c6
    go_wp2_with fail
    go_ret
    exact ⟨rfl, by rw [HRR.out]; exact HE.out⟩
  replace h4 := Classical.not_not.1 h4
  have k4 := inB_yes h4
  by_cases h5 : ¬ (0 ≤ x5 ∧ x5 ≤ 2)
  · have k5 := inB_no h5
    have hr : (⟨x0, x1, x2, x3, x4, x5, x6⟩ : Sup).right = false := by
      cases hq : (⟨x0, x1, x2, x3, x4, x5, x6⟩ : Sup).right; rfl; exact absurd (Sup.right_iff hq) (by dsimp only; omega)
    go_wp2_with ((go_at_call 8; refine (slots_inR _ _ _ _).mono ?_; rintro e w' ⟨rfl, rfl⟩))
    refine ((Hn.out hr).1 _).mono ?_
    rintro e w4 ⟨rfl, hbb⟩
    replace hb := hb.trans (hbb.mono (HS.out _ hb))
    replace HX := Pin.Aside.mk (HX.out.below hbb)
    clear hbb c0 c1 c2 c3 c4 c5 c6
    obtain ⟨c0, c1, c2, c3, c4, c5, c6⟩ := HX.out
    dsimp only at c0 c1 c2 c3 c4 c5 c6
    go_wp2_with fail
    refine ((Hn.out hr).2 _).mono ?_
    rintro e w5 ⟨rfl, hbb⟩
    have HE := Pin.Aside.mk (hb.trans (hbb.mono (HS.out _ hb)))
    clear hbb hb c0 c1 c2 c3 c4 c5 c6
    go_wp2_with fail
    go_ret
    exact ⟨rfl, by rw [HRR.out]; exact HE.out⟩
  replace h5 := Classical.not_not.1 h5
  have k5 := inB_yes h5
  by_cases h6 : ¬ (0 ≤ x6 ∧ x6 ≤ 9)
  · have k6 := inB_no h6
    have hr : (⟨x0, x1, x2, x3, x4, x5, x6⟩ : Sup).right = false := by
      cases hq : (⟨x0, x1, x2, x3, x4, x5, x6⟩ : Sup).right; rfl; exact absurd (Sup.right_iff hq) (by dsimp only; omega)
    go_wp2_with ((go_at_call 8; refine (slots_inR _ _ _ _).mono ?_; rintro e w' ⟨rfl, rfl⟩))
    refine ((Hn.out hr).1 _).mono ?_
    rintro e w4 ⟨rfl, hbb⟩
    replace hb := hb.trans (hbb.mono (HS.out _ hb))
    replace HX := Pin.Aside.mk (HX.out.below hbb)
    clear hbb c0 c1 c2 c3 c4 c5 c6
    obtain ⟨c0, c1, c2, c3, c4, c5, c6⟩ := HX.out
    dsimp only at c0 c1 c2 c3 c4 c5 c6
    go_wp2_with fail
    refine ((Hn.out hr).2 _).mono ?_
    rintro e w5 ⟨rfl, hbb⟩
    have HE := Pin.Aside.mk (hb.trans (hbb.mono (HS.out _ hb)))
    clear hbb hb c0 c1 c2 c3 c4 c5 c6
    go_wp2_with fail
    go_ret
    exact ⟨rfl, by rw [HRR.out]; exact HE.out⟩
  replace h6 := Classical.not_not.1 h6
  have k6 := inB_yes h6
  by_cases hg : 0 < x5
  · have hr : (⟨x0, x1, x2, x3, x4, x5, x6⟩ : Sup).right = true := by
      rw [Hr.out]; dsimp only; omega
    obtain ⟨T, hT⟩ : ∃ T, supS ⟨x0, x1, x2, x3, x4, x5, x6⟩ = T := ⟨_, rfl⟩
    have hTz : (T.size : Int) ≤ 11 := by have := supS_size ⟨x0, x1, x2, x3, x4, x5, x6⟩ hr; rw [hT] at this; omega
    have hT0 : ¬ T.toList = [] := by
      rw [ByteArray.toList_eq, ← hT]
      intro q
      exact supS_pos _ (ByteArray.ext (Array.toList_inj.1 q))
    have hT1 : T.toList.isEmpty = false := by simpa using hT0
    have hN : (0 : Int) < ssectors ⟨x0, x1, x2, x3, x4, x5, x6⟩ := by unfold ssectors; rw [if_pos hr]; dsimp only; omega
    obtain ⟨N, hNN⟩ : ∃ N, ssectors ⟨x0, x1, x2, x3, x4, x5, x6⟩ = N := ⟨_, rfl⟩
    rw [hNN] at hN
    have HY1 := Pin.Aside.mk (Hy.out hr).1
    have HY2 := Pin.Aside.mk (Hy.out hr).2
    rw [hT] at HY1
    rw [hNN] at HY2
    clear hT hNN
    go_wp2_with ((go_at_call 8; refine (slots_inR _ _ _ _).mono ?_; rintro e w' ⟨rfl, rfl⟩))
    refine (HY1.out _).mono ?_
    rintro e w4 ⟨rfl, hbb⟩
    replace hb := hb.trans (hbb.mono (HS.out _ hb))
    replace HX := Pin.Aside.mk (HX.out.below hbb)
    clear hbb c0 c1 c2 c3 c4 c5 c6
    obtain ⟨c0, c1, c2, c3, c4, c5, c6⟩ := HX.out
    dsimp only at c0 c1 c2 c3 c4 c5 c6
    go_wp2_with fail
    refine (HY2.out _).mono ?_
    rintro e w5 ⟨rfl, hbb⟩
    have HE := Pin.Aside.mk (hb.trans (hbb.mono (HS.out _ hb)))
    clear hbb hb c0 c1 c2 c3 c4 c5 c6
    go_wp2_with fail
    go_ret
    exact ⟨rfl, by rw [HRR.out]; exact HE.out⟩
  · have kg : decide (0 < x5) = false := by simpa using hg
    by_cases hs : x6 = 0
    · have ks : (x6 == 0) = true := by simpa using hs
      have hr : (⟨x0, x1, x2, x3, x4, x5, x6⟩ : Sup).right = true := by
        rw [Hr.out]; dsimp only; omega
      obtain ⟨T, hT⟩ : ∃ T, supS ⟨x0, x1, x2, x3, x4, x5, x6⟩ = T := ⟨_, rfl⟩
      have hTz : (T.size : Int) ≤ 11 := by have := supS_size ⟨x0, x1, x2, x3, x4, x5, x6⟩ hr; rw [hT] at this; omega
      have hT0 : ¬ T.toList = [] := by
        rw [ByteArray.toList_eq, ← hT]
        intro q
        exact supS_pos _ (ByteArray.ext (Array.toList_inj.1 q))
      have hT1 : T.toList.isEmpty = false := by simpa using hT0
      have hN : (0 : Int) < ssectors ⟨x0, x1, x2, x3, x4, x5, x6⟩ := by unfold ssectors; rw [if_pos hr]; dsimp only; omega
      obtain ⟨N, hNN⟩ : ∃ N, ssectors ⟨x0, x1, x2, x3, x4, x5, x6⟩ = N := ⟨_, rfl⟩
      rw [hNN] at hN
      have HY1 := Pin.Aside.mk (Hy.out hr).1
      have HY2 := Pin.Aside.mk (Hy.out hr).2
      rw [hT] at HY1
      rw [hNN] at HY2
      clear hT hNN
      clear hs hg
      go_wp2_with ((go_at_call 8; refine (slots_inR _ _ _ _).mono ?_; rintro e w' ⟨rfl, rfl⟩))
      refine (HY1.out _).mono ?_
      rintro e w4 ⟨rfl, hbb⟩
      replace hb := hb.trans (hbb.mono (HS.out _ hb))
      replace HX := Pin.Aside.mk (HX.out.below hbb)
      clear hbb c0 c1 c2 c3 c4 c5 c6
      obtain ⟨c0, c1, c2, c3, c4, c5, c6⟩ := HX.out
      dsimp only at c0 c1 c2 c3 c4 c5 c6
      go_wp2_with fail
      refine (HY2.out _).mono ?_
      rintro e w5 ⟨rfl, hbb⟩
      have HE := Pin.Aside.mk (hb.trans (hbb.mono (HS.out _ hb)))
      clear hbb hb c0 c1 c2 c3 c4 c5 c6
      go_wp2_with fail
      go_ret
      exact ⟨rfl, by rw [HRR.out]; exact HE.out⟩
    · have ks : (x6 == 0) = false := by simpa using hs
      have hr : (⟨x0, x1, x2, x3, x4, x5, x6⟩ : Sup).right = false := by
        cases hq : (⟨x0, x1, x2, x3, x4, x5, x6⟩ : Sup).right; rfl; exact absurd (Sup.right_iff hq) (by dsimp only; omega)
      go_wp2_with ((go_at_call 8; refine (slots_inR _ _ _ _).mono ?_; rintro e w' ⟨rfl, rfl⟩))
      refine ((Hn.out hr).1 _).mono ?_
      rintro e w4 ⟨rfl, hbb⟩
      replace hb := hb.trans (hbb.mono (HS.out _ hb))
      replace HX := Pin.Aside.mk (HX.out.below hbb)
      clear hbb c0 c1 c2 c3 c4 c5 c6
      obtain ⟨c0, c1, c2, c3, c4, c5, c6⟩ := HX.out
      dsimp only at c0 c1 c2 c3 c4 c5 c6
      go_wp2_with fail
      refine ((Hn.out hr).2 _).mono ?_
      rintro e w5 ⟨rfl, hbb⟩
      have HE := Pin.Aside.mk (hb.trans (hbb.mono (HS.out _ hb)))
      clear hbb hb c0 c1 c2 c3 c4 c5 c6
      go_wp2_with fail
      go_ret
      exact ⟨rfl, by rw [HRR.out]; exact HE.out⟩
end Go.Proofs.Ytpfkpaombiikcaa
