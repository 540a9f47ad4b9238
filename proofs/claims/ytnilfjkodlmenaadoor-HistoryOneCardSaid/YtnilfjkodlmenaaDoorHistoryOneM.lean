/- HistoryOne: its plain law: what was done one by one. -/
import Derived.Test.YtnilfjkodlmenaaDoorHiP
set_option maxRecDepth 16000
namespace Go.Pin
open Go.RowKit
set_option linter.unusedVariables false
set_option linter.unusedSimpArgs false
/-- The blocks behind the first i ops. -/
def hAfter (L : List HOp) : Nat → List ByteArray
  | 0 => []
  | i + 1 => (hdo (hAfter L i) (hAt L i)).1
/-- Ops one by one; the last one's answer may be open. -/
structure OneL (L : List HOp) : Prop where
  start : ∀ k, k < L.length → (hAt L k).start = 10 * (k : Int) + 1
  stop : ∀ k, k < L.length → (hAt L k).stop = 10 * (k : Int) + 6 ∨ (k + 1 = L.length ∧ (hAt L k).stop = 0)
theorem bit_first (i j : Nat) : (2 ^ i - 1).testBit j = decide (j < i) := Nat.testBit_two_pow_sub_one ..
theorem first_or (i : Nat) : (2 ^ i - 1) ||| 1 <<< i = 2 ^ (i + 1) - 1 := by
  apply Nat.eq_of_testBit_eq
  intro j
  rw [bit_or, bit_first, bit_first]
  by_cases h : j < i
  · rw [decide_eq_true h, decide_eq_true (by omega : j < i + 1)]; rfl
  · rw [decide_eq_false h]
    by_cases h2 : i = j
    · rw [decide_eq_true h2, decide_eq_true (by omega : j < i + 1)]; rfl
    · rw [decide_eq_false h2, decide_eq_false (by omega : ¬ j < i + 1)]; rfl
theorem one_may {L : List HOp} (h : OneL L) {i j : Nat} (hi : i < L.length) (hj : j < L.length) : hMay L (2 ^ i - 1) j = decide (j = i) := by
  unfold hMay
  rw [bit_first]
  by_cases h1 : j < i
  · rw [decide_eq_true h1, decide_eq_false (by omega : ¬ j = i)]
    exact Bool.and_false _
  · rw [decide_eq_false h1]
    by_cases h2 : j = i
    · rw [decide_eq_true h2, List.all_eq_true.2]
      · rfl
      · intro k hk
        rw [List.mem_range] at hk
        simp only [Bool.or_eq_true, decide_eq_true_eq]
        by_cases h3 : k < i
        · exact .inl (.inr (by rw [bit_first]; exact decide_eq_true h3))
        · rcases h.stop k hk with q | ⟨_, q⟩
          · exact .inr (by rw [h.start j hj, q]; omega)
          · exact .inl (.inl (.inr q))
    · rw [decide_eq_false h2, Bool.and_eq_false_iff]
      left
      cases hq : (List.range L.length).all fun k => decide (k = j) || decide ((hAt L k).stop = 0) || (2 ^ i - 1).testBit k || decide ((hAt L j).start < (hAt L k).stop) with
      | false => rfl
      | true =>
        rw [List.all_eq_true] at hq
        have := hq i (List.mem_range.2 hi)
        simp only [Bool.or_eq_true, decide_eq_true_eq] at this
        rw [bit_first, h.start j hj] at this
        rcases h.stop i hi with q0 | ⟨q0, _⟩
        · rw [q0] at this
          rcases this with ((q | q) | q) | q
          · omega
          · omega
          · have := of_decide_eq_true q; omega
          · omega
        · omega
theorem one_over {L : List HOp} {i : Nat} (h0 : ∀ k, k < L.length → i ≤ k → (hAt L k).stop = 0) : hOver L (2 ^ i - 1) = true := by
  unfold hOver
  rw [List.all_eq_true]
  intro k hk
  rw [List.mem_range] at hk
  rw [Bool.or_eq_true]
  by_cases h3 : k < i
  · exact .inr (by rw [bit_first]; exact decide_eq_true h3)
  · exact .inl (decide_eq_true (h0 k hk (by omega)))
theorem one_not_over {L : List HOp} {i k : Nat} (hk : k < L.length) (hik : i ≤ k) (h0 : (hAt L k).stop ≠ 0) : hOver L (2 ^ i - 1) = false := by
  cases hq : hOver L (2 ^ i - 1) with
  | false => rfl
  | true =>
    unfold hOver at hq
    rw [List.all_eq_true] at hq
    have := hq k (List.mem_range.2 hk)
    rw [Bool.or_eq_true, bit_first] at this
    rcases this with q | q
    · exact absurd (of_decide_eq_true q) h0
    · have := of_decide_eq_true q; omega
theorem one_told {L : List HOp} {i : Nat} (h : (hdo (hAfter L i) (hAt L i)).2 = ((hAt L i).re, (hAt L i).rd)) : hTold (hAfter L i) (hAt L i) = true := by
  unfold hTold
  rw [Bool.or_eq_true]
  exact .inr (decide_eq_true h)
/-- One by one: each at its place. -/
theorem one_run {L : List HOp} (h : OneL L) (hs1 : ∀ k, k < L.length → (hAt L k).stop ≠ 0) (ht : ∀ k, k < L.length → (hdo (hAfter L k) (hAt L k)).2 = ((hAt L k).re, (hAt L k).rd)) :
    ∀ (m i f : Nat), i + m = L.length → m ≤ f → hs L f (2 ^ i - 1) (hAfter L i) = some (List.range' i m)
  | 0, i, f, hi, hf => by
    rw [hs_eq, if_pos (one_over (fun k hk q => by omega))]
    rfl
  | m + 1, i, 0, hi, hf => by omega
  | m + 1, i, f + 1, hi, hf => by
    have hi' : i < L.length := by omega
    refine hs_first (k := i) (one_not_over hi' (Nat.le_refl _) (hs1 i hi')) hi' (fun j hj => ?_) ?_
    · unfold hArm
      rw [one_may h hi' (by omega), decide_eq_false (by omega : ¬ j = i)]
      rfl
    · unfold hArm
      rw [one_may h hi' hi', decide_eq_true rfl, one_told (ht i hi'), first_or]
      show (hs L f (2 ^ (i + 1) - 1) (hAfter L (i + 1))).map _ = _
      rw [one_run h hs1 ht m (i + 1) f (by omega) (by omega)]
      rfl
theorem one_order {L : List HOp} (h : OneL L) (hr : hRight L = true) (hs1 : ∀ k, k < L.length → (hAt L k).stop ≠ 0) (ht : ∀ k, k < L.length → (hdo (hAfter L k) (hAt L k)).2 = ((hAt L k).re, (hAt L k).rd)) : hOrder L = some (List.range' 0 L.length) := by
  unfold hOrder
  rw [if_pos hr]
  exact one_run h hs1 ht L.length 0 L.length (by omega) (Nat.le_refl _)
/-- One answer turned: none. -/
theorem one_wrong {L : List HOp} (h : OneL L) {k : Nat} (hk : k < L.length) (hk0 : (hAt L k).stop ≠ 0) (hw : (hdo (hAfter L k) (hAt L k)).2 ≠ ((hAt L k).re, (hAt L k).rd)) :
    ∀ (m i : Nat) (r : List Nat), i + m = k → ¬ hFits L (2 ^ i - 1) (hAfter L i) r
  | m, i, [], hi, hf => by
    have := one_not_over (i := i) hk (by omega) hk0
    rw [show hOver L (2 ^ i - 1) = true from hf] at this
    cases this
  | 0, i, j :: r, hi, hf => by
    obtain ⟨h1, h2, h3, _⟩ := hf
    rw [one_may h (by omega) h1] at h2
    have hj := of_decide_eq_true h2
    have : i = k := by omega
    subst this
    subst hj
    unfold hTold at h3
    rw [Bool.or_eq_true] at h3
    rcases h3 with q | q
    · exact hk0 (of_decide_eq_true q)
    · exact hw (of_decide_eq_true q)
  | m + 1, i, j :: r, hi, hf => by
    obtain ⟨h1, h2, h3, h4⟩ := hf
    rw [one_may h (by omega) h1] at h2
    have hj := of_decide_eq_true h2
    subst hj
    rw [first_or] at h4
    exact one_wrong h hk hk0 hw m (j + 1) r (by omega) h4
theorem one_turned {L : List HOp} (h : OneL L) {k : Nat} (hk : k < L.length) (hk0 : (hAt L k).stop ≠ 0) (hw : (hdo (hAfter L k) (hAt L k)).2 ≠ ((hAt L k).re, (hAt L k).rd)) : hOrder L = none := by
  cases hq : hOrder L with
  | none => rfl
  | some r =>
    unfold hOrder at hq
    split at hq
    · exact absurd (hs_fits L _ _ _ _ hq) (one_wrong h hk hk0 hw k 0 r (by omega))
    · cases hq
/-- The last one open: there is one, whatever it would have been told. -/
theorem one_fits {L : List HOp} (h : OneL L) {n : Nat} (hn : L.length = n + 1) (hz : (hAt L n).stop = 0) (ht : ∀ k, k < n → (hdo (hAfter L k) (hAt L k)).2 = ((hAt L k).re, (hAt L k).rd)) :
    ∀ (m i : Nat), i + m = n → hFits L (2 ^ i - 1) (hAfter L i) (List.range' i m)
  | 0, i, hi => one_over (fun k hk q => by
      have : k = n := by omega
      rw [this]; exact hz)
  | m + 1, i, hi => by
    refine ⟨by omega, by rw [one_may h (by omega) (by omega)]; exact decide_eq_true rfl, one_told (ht i (by omega)), ?_⟩
    rw [first_or]
    exact one_fits h hn hz ht m (i + 1) (by omega)
theorem one_open {L : List HOp} (h : OneL L) (hr : hRight L = true) {n : Nat} (hn : L.length = n + 1) (hz : (hAt L n).stop = 0) (ht : ∀ k, k < n → (hdo (hAfter L k) (hAt L k)).2 = ((hAt L k).re, (hAt L k).rd)) : (hOrder L).isSome = true :=
  (hOrder_iff L hr).2 ⟨_, one_fits h hn hz ht n 0 (by omega)⟩
end Go.Pin
