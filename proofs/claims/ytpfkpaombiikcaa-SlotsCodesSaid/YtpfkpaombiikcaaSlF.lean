/- slots: contracts whose answers are known, sizes; the examples of chapter 9. -/
import Derived.Test.YtpfkpaombiikcaaSlH
import Derived.Test.YtpfkpaombiikcaaSlP
set_option maxRecDepth 16000
namespace Go.Pin
open Go.RowKit
set_option linter.unusedVariables false
set_option linter.unusedSimpArgs false
theorem snum_short (v : Int) (n k : Nat) (hk : 1 ≤ k ∧ k ≤ 8) (hn : n < 128 ^ k) (hn2 : n < 16384) : (snum v n k).size ≤ k := by
  unfold snum
  split
  · unfold fixedS
    rw [if_neg (by omega), size_mk, fixedL_len]; omega
  · unfold vputS
    rw [size_mk]
    by_cases h : n < 128
    · rw [vput_small n h]; exact hk.1
    · rw [vput_big n (by omega) (by omega), vput_small _ (by omega)]
      show 2 ≤ k
      rcases Nat.lt_or_ge k 2 with q | q
      · have : k = 1 := by omega
        subst this; omega
      · exact q
theorem supS_size (s : Sup) (hr : s.right = true) : (supS s).size ≤ 9 := by
  obtain ⟨⟨_, _⟩, ⟨_, _⟩, ⟨_, _⟩, ⟨_, _⟩, ⟨_, _⟩, ⟨_, _⟩, ⟨_, _⟩, _⟩ := Sup.right_iff hr
  have h1 : (fixedS s.v.toNat 1).size = 1 := by
    unfold fixedS
    rw [if_neg (by omega), size_mk, fixedL_len]; rfl
  have h2 := snum_short s.v s.snap.toNat 2 (by omega) (by omega) (by omega)
  have h3 := snum_short s.v s.log.toNat 2 (by omega) (by omega) (by omega)
  have h4 := snum_short s.v s.area.toNat 1 (by omega) (by omega) (by omega)
  have h5 := snum_short s.v s.half.toNat 1 (by omega) (by omega) (by omega)
  have h6 := snum_short s.v s.goal.toNat 1 (by omega) (by omega) (by omega)
  have h7 := snum_short s.v s.step.toNat 1 (by omega) (by omega) (by omega)
  unfold supS
  simp only [ByteArray.size_append]
  replace h2 : (snum s.v s.snap.toNat 2).size ≤ 2 := h2
  replace h3 : (snum s.v s.log.toNat 2).size ≤ 2 := h3
  replace h4 : (snum s.v s.area.toNat 1).size ≤ 1 := h4
  replace h5 : (snum s.v s.half.toNat 1).size ≤ 1 := h5
  replace h6 : (snum s.v s.goal.toNat 1).size ≤ 1 := h6
  replace h7 : (snum s.v s.step.toNat 1).size ≤ 1 := h7
  omega
theorem hardS_size (v : Int) (h : Hd) : (hardS v h).size ≤ 40 := by
  have h1 : (fixedS (16 + v).toNat 1).size ≤ 10 := by
    unfold fixedS
    split
    · exact Nat.zero_le _
    · rw [size_mk, fixedL_len]; omega
  have h2 := snum_size v h.term.toNat 8
  have h3 := snum_size v h.vote.toNat 1
  have h4 := snum_size v h.commit.toNat 8
  unfold hardS
  simp only [ByteArray.size_append]; omega
end Go.Pin
namespace Go.Proofs.Ytpfkpaombiikcaa
open Go.RowKit Go.Pin
set_option linter.unusedVariables false
set_option linter.unusedSimpArgs false
theorem slots_get_to (b : ByteArray) (hs : b.size ≤ 1152921504606846976) (s : Sup) (o : Bool) (hE : supget b = (s, o)) (w : World) :
    Calls Try.prog 17 #[.string b] w fun e w' => e = .returned (.tuple #[.agg #[.int .i64 s.v, .int .i64 s.snap, .int .i64 s.log, .int .i64 s.area, .int .i64 s.half, .int .i64 s.goal, .int .i64 s.step], .bool o]) ∧ Below w.heap.size w w' := by
  have := slots_getsuper b hs w
  rw [hE] at this; exact this
theorem slots_gethard_to (b : ByteArray) (hs : b.size ≤ 1152921504606846976) (h : Hd) (v : Int) (o : Bool) (hE : hardget b = (h, v, o)) (w : World) :
    Calls Try.prog 19 #[.string b] w fun e w' => e = .returned (.tuple #[.agg #[.int .u64 h.term, .int .i64 h.vote, .int .u64 h.commit], .int .i64 v, .bool o]) ∧ Below w.heap.size w w' := by
  have := slots_gethard b hs w
  rw [hE] at this; exact this
theorem slots_put_to (s : Sup) (b : ByteArray) (o : Bool) (hE : supput s = (b, o)) (w : World) :
    Calls Try.prog 9 #[.agg #[.int .i64 s.v, .int .i64 s.snap, .int .i64 s.log, .int .i64 s.area, .int .i64 s.half, .int .i64 s.goal, .int .i64 s.step]] w fun e w' => e = .returned (.tuple #[.string b, .bool o]) ∧ Below w.heap.size w w' := by
  have := slots_putsuper s w
  rw [hE] at this; exact this
theorem ex_right : (⟨1, 2, 3, 0, 0, 0, 0⟩ : Sup).right = true := by decide
theorem ex_put : supput ⟨1, 2, 3, 0, 0, 0, 0⟩ = (⟨#[1, 0, 2, 0, 3, 0, 0, 0, 0]⟩, true) := by
  unfold supput
  rw [if_pos ex_right]
  have : supS ⟨1, 2, 3, 0, 0, 0, 0⟩ = ⟨#[1, 0, 2, 0, 3, 0, 0, 0, 0]⟩ := by decide +kernel
  rw [this]
theorem ex_get : supget ⟨#[1, 0, 2, 0, 3, 0, 0, 0, 0]⟩ = (⟨1, 2, 3, 0, 0, 0, 0⟩, true) := by
  have : supS ⟨1, 2, 3, 0, 0, 0, 0⟩ = ⟨#[1, 0, 2, 0, 3, 0, 0, 0, 0]⟩ := by decide +kernel
  rw [← this]
  exact supget_put _ ex_right
theorem ex_hard : hardget ⟨#[18, 5, 3, 4]⟩ = (⟨5, 3, 4⟩, 2, true) := by
  have : hardS 2 ⟨5, 3, 4⟩ = ⟨#[18, 5, 3, 4]⟩ := by decide +kernel
  rw [← this]
  exact hardget_put 2 (.inr rfl) ⟨5, 3, 4⟩ ⟨by decide, by decide, by decide, by decide⟩ ⟨by decide, by decide⟩
theorem ex_none : supget ⟨#[]⟩ = (⟨0, 0, 0, 0, 0, 0, 0⟩, false) := by
  rcases supget_inv ⟨#[]⟩ with h | ⟨s, _, h⟩
  · exact h
  · exfalso
    have : (supS s).size = 0 := by rw [← h]; rfl
    rw [supS_list, bs_size] at this
    unfold supL at this
    rw [List.length_append, fixedL_len] at this
    omega
set_option maxHeartbeats 1600000 in
theorem slots_examples (w : World) : Calls Try.prog 6 #[] w fun e w' => e = .returned (.bool true) ∧ Below w.heap.size w w' := by
  have hse := str_beq
  have hb := Below.refl w.heap.size w
  have hs14 : ssectors ⟨1, 2, 3, 0, 0, 0, 0⟩ = 14 := by decide
  have HSec := Pin.Aside.mk fun W => slots_sectors ⟨1, 2, 3, 0, 0, 0, 0⟩ W
  rw [hs14] at HSec
  clear hs14
  go_enter Try.func6, Try.ntmps6
  go_wp2_with fail
  refine (slots_put_to ⟨1, 2, 3, 0, 0, 0, 0⟩ _ _ ex_put _).mono ?_
  rintro e w1 ⟨rfl, hbb⟩
  replace hb := Below.next hb hbb
  clear hbb
  go_wp2_with fail
  refine (slots_get_to _ (by decide) _ _ ex_get _).mono ?_
  rintro e w2 ⟨rfl, hbb⟩
  replace hb := Below.next hb hbb
  have hS := SevenAt.new w2 ⟨1, 2, 3, 0, 0, 0, 0⟩ 23
  replace hb := hb.alloc hb.size (sevenO ⟨1, 2, 3, 0, 0, 0, 0⟩ 23)
  unfold sevenO at hS hb
  clear hbb
  go_wp2_with fail
  refine (slots_gethard_to ⟨#[18, 5, 3, 4]⟩ (by decide) _ _ _ ex_hard _).mono ?_
  rintro e w3 ⟨rfl, hbb⟩
  have hk := (Keep.of_below (S := fun _ => False) hbb fun _ hk _ => hk).alloc (.cells #[.int .u64 5, .int .i64 3, .int .u64 4] 33)
  replace hb := hb.trans (hk.below hb.size fun _ q => q.elim)
  replace hS := hS.keep hk id
  have hT := SevAt.new w3 #[.int .u64 5, .int .i64 3, .int .u64 4] 33 3 rfl
  clear hbb hk
  go_wp2_with fail
  refine (slots_get_to ⟨#[]⟩ (by decide) _ _ ex_none _).mono ?_
  rintro e w4 ⟨rfl, hbb⟩
  have hk := (Keep.of_below (S := fun _ => False) hbb fun _ hk _ => hk).alloc (.cells #[.int .i64 0, .int .i64 0, .int .i64 0, .int .i64 0, .int .i64 0, .int .i64 0, .int .i64 0] 23)
  replace hb := hb.trans (hk.below hb.size fun _ q => q.elim)
  replace hS := hS.keep hk id
  replace hT := hT.keep hk id
  clear hbb hk
  obtain ⟨c0, c1, c2, c3, c4, c5, c6⟩ := hS
  obtain ⟨x0, x1, x2⟩ := hT.get3
  dsimp only at c0 c1 c2 c3 c4 c5 c6
  replace x0 : _ = some (Value.int IntKind.u64 5) := x0
  replace x1 : _ = some (Value.int IntKind.i64 3) := x1
  replace x2 : _ = some (Value.int IntKind.u64 4) := x2
  clear hT
  go_wp2_with fail
  refine (HSec.out _).mono ?_
  rintro e w5 ⟨rfl, hbb⟩
  replace hb := Below.next hb hbb
  clear hbb
  go_wp2_with fail
  go_ret
  exact ⟨rfl, hb⟩
end Go.Proofs.Ytpfkpaombiikcaa
