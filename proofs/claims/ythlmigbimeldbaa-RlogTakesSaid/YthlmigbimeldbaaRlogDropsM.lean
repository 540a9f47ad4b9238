/- RlogDrops: the walk. -/
import Derived.Test.YthlmigbimeldbaaRlogPartsM
import Derived.Test.YthlmigbimeldbaaRsE
set_option maxRecDepth 16000
namespace Go.Pin
open Go.RowKit
set_option linter.unusedVariables false
set_option linter.unusedSimpArgs false
theorem Lg.neat.term_beyond {g : Lg} (h : g.neat) : g.term (g.base + g.l.length + 1) = none := by
  have hb := h.base
  unfold Lg.term
  rw [if_neg (by omega)]
  have hf : (g.l.find? fun x => decide (x.index = g.base + g.l.length + 1)) = none := by
    rw [List.find?_eq_none]
    intro x hx
    obtain ⟨j, hj⟩ := List.getElem?_of_mem hx
    have h1 := h.index j x hj
    have h2 := (List.getElem?_eq_some_iff.1 hj).1
    rw [decide_eq_true_eq, h1]; omega
  rw [hf]; rfl
theorem drop_last {L : List En} (k : Nat) (hk : k < L.length) : (L.drop k).getLast? = L.getLast? := by
  rw [List.getLast?_eq_getElem?, List.getLast?_eq_getElem?, List.getElem?_drop, List.length_drop]
  congr 1; omega
/-- The term at a place of a log that rises: the base's, or the entry's ahead. -/
theorem Lg.neat.term_k {g : Lg} (h : g.neat) (k : Nat) (hk : k ≤ g.l.length) : ∃ t, g.term (g.base + k) = some t ∧ 0 ≤ t ∧ t ≤ 200 ∧ t = lgBefore g.bt g.l k := by
  have hb := h.base
  have ht := h.bt
  cases k with
  | zero => exact ⟨g.bt, by unfold Lg.term; rw [if_pos (by simp)], by omega, by omega, rfl⟩
  | succ k =>
    have he := List.getElem?_eq_getElem (show k < g.l.length by omega)
    have hi := h.index k _ he
    refine ⟨g.l[k].term, ?_, (h.term _ (List.getElem_mem _)).1, (h.term _ (List.getElem_mem _)).2, ?_⟩
    · have := h.term_at k _ he
      rw [hi] at this
      rw [← this]; congr 1; push_cast; omega
    · show _ = (g.l.getD k En.zero).term
      rw [List.getD_eq_getElem?_getD, he]; rfl
/-- Dropped at place k. -/
theorem Lg.neat.dropped {g : Lg} (h : g.neat) (k : Nat) (hk : k ≤ g.l.length) : ∃ t, 0 ≤ t ∧ t ≤ 200 ∧ t = lgBefore g.bt g.l k ∧ Go.Proofs.Ythlmigbimeldbaa.lgDropped g (g.base + k) = (⟨g.base + k, t, g.l.drop k⟩, true) ∧ (Lg.mk (g.base + k) t (g.l.drop k)).last = g.last := by
  have hb := h.base
  have hl := h.len
  obtain ⟨t, h1, h2, h3, h4⟩ := h.term_k k hk
  refine ⟨t, h2, h3, h4, ?_, ?_⟩
  · unfold Go.Proofs.Ythlmigbimeldbaa.lgDropped
    rw [h1]
    dsimp only
    have e1 : (g.base + k + 1) % 18446744073709551616 = g.base + k + 1 := by omega
    rw [e1, h.part _ _ (by omega), show (g.base + (k : Int) + 1 - g.base - 1).toNat = k by omega, List.take_of_length_le (by rw [List.length_drop]; omega)]
  · unfold Lg.last
    dsimp only
    by_cases q : k < g.l.length
    · rw [drop_last k q]
      have hn : g.l ≠ [] := by intro e; rw [e] at q; simp at q
      cases hg : g.l.getLast? with
      | none => exact absurd (List.getLast?_eq_none_iff.1 hg) hn
      | some e => rfl
    · have hk2 : k = g.l.length := by omega
      rw [hk2, List.drop_of_length_le (Nat.le_refl _)]
      have hla := h.last
      cases hg : g.l.getLast? with
      | none =>
        have : g.l = [] := List.getLast?_eq_none_iff.1 hg
        rw [h4, hk2, this]
        simp [lgBefore]
      | some e =>
        dsimp only
        rw [List.getLast?_eq_getElem?] at hg
        have hi := h.index _ e hg
        have hlt := (List.getElem?_eq_some_iff.1 hg).1
        have e2 : t = e.term := by
          rw [h4, hk2]
          obtain ⟨m, hm⟩ : ∃ m, g.l.length = m + 1 := ⟨g.l.length - 1, by omega⟩
          rw [hm]
          show (g.l.getD m En.zero).term = _
          rw [List.getD_eq_getElem?_getD, show g.l[m]? = some e by rw [← hg, hm]; rfl]; rfl
        rw [e2, hi]
        have : (List.getLast? ([] : List En)) = none := rfl
        rw [this]
        dsimp only
        rw [Prod.mk.injEq]
        exact ⟨by omega, rfl⟩
theorem Lg.neat.parts {g : Lg} (h : g.neat) (m : Nat) : g.part (g.base + 1) m = g.l.take m ∧ g.part (g.base + 1 + (g.l.take m).length) g.l.length = g.l.drop m := by
  have hb := h.base
  constructor
  · rw [h.part _ _ (by omega), show (g.base + 1 - g.base - 1).toNat = 0 by omega]; rfl
  · rw [h.part _ _ (by omega), show (g.base + 1 + ((g.l.take m).length : Int) - g.base - 1).toNat = (g.l.take m).length by omega, List.take_of_length_le (by rw [List.length_drop]; omega), List.length_take]
    by_cases q : m ≤ g.l.length
    · rw [Nat.min_eq_left q]
    · rw [Nat.min_eq_right (by omega), List.drop_of_length_le (Nat.le_refl _), List.drop_of_length_le (by omega)]
end Go.Pin
