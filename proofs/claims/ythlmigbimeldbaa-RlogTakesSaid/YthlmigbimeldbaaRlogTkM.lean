/- What Take makes of logs whose places follow one another. -/
import Derived.Test.YthlmigbimeldbaaRlogUp
set_option maxRecDepth 16000
namespace Go.Pin
open Go.RowKit
set_option linter.unusedVariables false
set_option linter.unusedSimpArgs false
/-- Its places follow its base. -/
structure Lg.seq (g : Lg) : Prop where
  base : 0 ≤ g.base ∧ g.base ≤ 1000
  len : g.l.length ≤ 100
  index : ∀ (k : Nat) (e : En), g.l[k]? = some e → e.index = g.base + k + 1
theorem Lg.neat.seq {g : Lg} (h : g.neat) : g.seq := ⟨by have := h.base; omega, by have := h.len; omega, h.index⟩
theorem Lg.seq.term_get {g : Lg} (h : g.seq) (i : Nat) : g.term (g.base + i + 1) = (g.l[i]?).map (·.term) := by
  have hb := h.base
  unfold Lg.term
  rw [if_neg (by omega)]
  cases hi : g.l[i]? with
  | some e =>
    have hk := List.getElem?_eq_some_iff.1 hi
    have hf : (g.l.find? fun x => decide (x.index = g.base + i + 1)) = some e := by
      rw [List.find?_eq_some_iff_getElem]
      refine ⟨by rw [decide_eq_true_eq]; exact h.index i e hi, i, hk.1, hk.2, fun j hj => ?_⟩
      have hjl : j < g.l.length := Nat.lt_trans hj hk.1
      have := h.index j _ (List.getElem?_eq_getElem hjl)
      simp only [Bool.not_eq_true', decide_eq_false_iff_not]
      omega
    rw [hf]
  | none =>
    have hf : (g.l.find? fun x => decide (x.index = g.base + i + 1)) = none := by
      rw [List.find?_eq_none]
      intro x hx
      obtain ⟨j, hj⟩ := List.getElem?_of_mem hx
      have h1 := h.index j x hj
      have h2 := (List.getElem?_eq_some_iff.1 hj).1
      have h3 := List.getElem?_eq_none_iff.1 hi
      rw [decide_eq_true_eq, h1]; omega
    rw [hf]
theorem Lg.seq.term_k {g : Lg} (h : g.seq) (k : Nat) (hk : k ≤ g.l.length) : g.term (g.base + k) = some (lgBefore g.bt g.l k) := by
  cases k with
  | zero => unfold Lg.term; rw [if_pos (by simp)]; rfl
  | succ k =>
    have h1 := h.term_get k
    rw [List.getElem?_eq_getElem (by omega)] at h1
    rw [show g.base + ((k + 1 : Nat) : Int) = g.base + k + 1 by push_cast; omega, h1]
    show some (g.l[k]).term = some ((g.l.getD k En.zero).term)
    rw [List.getD_eq_getElem?_getD, List.getElem?_eq_getElem (by omega)]; rfl
/-- An entry of place base + i + 1 is missed just if the log has none of its term there. -/
theorem Lg.seq.miss {g : Lg} (h : g.seq) (i : Nat) (e : En) (he : e.index = g.base + i + 1) : lgMiss g e = true ↔ (g.l[i]?).map (·.term) ≠ some e.term := by
  unfold lgMiss Lg.same
  rw [he, h.term_get i]
  have hb := h.base
  rw [show decide (g.base < g.base + (i : Int) + 1) = true from decide_eq_true (by omega), Bool.true_and]
  simp
theorem Lg.seq.right {g : Lg} (h : g.seq) (hr : g.rises) : g.right = true :=
  Lg.chain_right (by have := h.base; omega) (by have := h.len; omega) h.index hr
/-- The log with other entries from place j on. -/
theorem take_seq {g : Lg} (hs : g.seq) (hr : g.rises) (k : Nat) (hk : k ≤ g.l.length) (more : List En) (hml : more.length ≤ 50) (hgl : g.l.length ≤ 50)
    (hm : ∀ (j : Nat) (e : En), more[j]? = some e → e.index = g.base + k + j + 1) (hmr : (Lg.mk (g.base + k) (lgBefore g.bt g.l k) more).rises) (hbk : g.base + k ≤ 1000) :
    ((∀ (j : Nat) (e : En), more[j]? = some e → (g.l[k + j]?).map (·.term) = some e.term) ∧ g.take (g.base + k) (lgBefore g.bt g.l k) more = (g, 0, true)) ∨
    ∃ j e, more[j]? = some e ∧ (g.l[k + j]?).map (·.term) ≠ some e.term ∧ (∀ (i : Nat) (x : En), i < j → more[i]? = some x → (g.l[k + i]?).map (·.term) = some x.term) ∧ k + j ≤ g.l.length ∧
      (Lg.mk g.base g.bt (g.l.take (k + j) ++ more.drop j)).seq ∧ (Lg.mk g.base g.bt (g.l.take (k + j) ++ more.drop j)).rises ∧
      g.take (g.base + k) (lgBefore g.bt g.l k) more = (⟨g.base, g.bt, g.l.take (k + j) ++ more.drop j⟩, g.base + k + j + 1, true) := by
  have hb := hs.base
  have h1 : g.right = true := hs.right hr
  have h2 : (Lg.mk (g.base + k) (lgBefore g.bt g.l k) more).right = true := Lg.seq.right ⟨by dsimp only; omega, by dsimp only; omega, fun j e he => by dsimp only; exact hm j e he⟩ hmr
  have h3 : g.same (g.base + k) (lgBefore g.bt g.l k) = true := by unfold Lg.same; rw [hs.term_k k hk]; simp
  have hno : ¬ (g.right = false ∨ (Lg.mk (g.base + k) (lgBefore g.bt g.l k) more).right = false ∨ g.base ≤ g.base + k ∧ g.same (g.base + k) (lgBefore g.bt g.l k) = false) := by
    rw [h1, h2, h3]; simp
  have hmiss : ∀ (j : Nat) (e : En), more[j]? = some e → (lgMiss g e = true ↔ (g.l[k + j]?).map (·.term) ≠ some e.term) := fun j e he => hs.miss (k + j) e (by rw [hm j e he]; push_cast; omega)
  cases hf : more.findIdx? (lgMiss g) with
  | none =>
    left
    rw [List.findIdx?_eq_none_iff] at hf
    refine ⟨fun j e he => ?_, ?_⟩
    · have q := hf e (List.mem_of_getElem? he)
      by_cases q2 : (g.l[k + j]?).map (·.term) = some e.term
      · exact q2
      · rw [(hmiss j e he).2 q2] at q; cases q
    · unfold Lg.take
      rw [if_neg hno, List.findIdx?_eq_none_iff.2 hf]
  | some j =>
    right
    have hf2 := hf
    rw [List.findIdx?_eq_some_iff_getElem] at hf2
    obtain ⟨hj, hj1, hj2⟩ := hf2
    have he := List.getElem?_eq_getElem hj
    have hbef : ∀ (i : Nat) (x : En), i < j → more[i]? = some x → (g.l[k + i]?).map (·.term) = some x.term := fun i x hi hx => by
      have q := hj2 i hi
      have hx2 : more[i]'(by omega) = x := by rw [List.getElem?_eq_getElem (by omega)] at hx; simpa using hx
      rw [hx2] at q
      by_cases q2 : (g.l[k + i]?).map (·.term) = some x.term
      · exact q2
      · exact absurd ((hmiss i x hx).2 q2) (by simpa using q)
    have hkj : k + j ≤ g.l.length := by
      cases j with
      | zero => exact hk
      | succ i =>
        have hx := List.getElem?_eq_getElem (show i < more.length by omega)
        have q := hbef i _ (by omega) hx
        cases q2 : g.l[k + i]? with
        | none => rw [q2] at q; cases q
        | some y => have := (List.getElem?_eq_some_iff.1 q2).1; omega
    have hseq : (Lg.mk g.base g.bt (g.l.take (k + j) ++ more.drop j)).seq := by
      refine ⟨hs.base, by dsimp only; rw [List.length_append, List.length_take, List.length_drop]; omega, fun i e hi => ?_⟩
      dsimp only at hi ⊢
      have hl : (g.l.take (k + j)).length = k + j := by rw [List.length_take]; omega
      by_cases q : i < k + j
      · rw [List.getElem?_append_left (by omega), List.getElem?_take, if_pos q] at hi
        exact hs.index i e hi
      · rw [List.getElem?_append_right (by omega), hl, List.getElem?_drop] at hi
        rw [hm _ e hi]; omega
    have hris : (Lg.mk g.base g.bt (g.l.take (k + j) ++ more.drop j)).rises := by
      have hl : (g.l.take (k + j)).length = k + j := by rw [List.length_take]; omega
      refine ⟨fun e he2 => ?_, fun i e hi => ?_⟩
      · rcases List.mem_append.1 he2 with q | q
        · exact hr.right e (List.mem_of_mem_take q)
        · exact hmr.right e (List.mem_of_mem_drop q)
      · dsimp only at hi ⊢
        by_cases q : i < k + j
        · rw [List.getElem?_append_left (by omega), List.getElem?_take, if_pos q] at hi
          have e1 : lgBefore g.bt (g.l.take (k + j) ++ more.drop j) i = lgBefore g.bt g.l i := by
            cases i with
            | zero => rfl
            | succ i =>
              show ((g.l.take (k + j) ++ more.drop j).getD i En.zero).term = (g.l.getD i En.zero).term
              rw [List.getD_eq_getElem?_getD, List.getD_eq_getElem?_getD, List.getElem?_append_left (by omega), List.getElem?_take, if_pos (by omega)]
          rw [e1]; exact hr.up i e hi
        · rw [List.getElem?_append_right (by omega), hl, List.getElem?_drop] at hi
          have hup := hmr.up _ e hi
          dsimp only at hup
          refine Int.le_trans ?_ hup
          have e2 : j + (i - (k + j)) = i - k := by omega
          rw [e2]
          by_cases q3 : i = k + j
          · -- the entry ahead is the log's own
            subst q3
            rw [show k + j - k = j by omega]
            cases j with
            | zero =>
              show lgBefore g.bt _ (k + 0) ≤ lgBefore g.bt g.l k
              cases k with
              | zero => exact Int.le_refl _
              | succ k =>
                show ((g.l.take (k + 1 + 0) ++ more.drop 0).getD k En.zero).term ≤ (g.l.getD k En.zero).term
                rw [List.getD_eq_getElem?_getD, List.getD_eq_getElem?_getD, List.getElem?_append_left (by rw [List.length_take]; omega), List.getElem?_take, if_pos (by omega)]
                exact Int.le_refl _
            | succ m =>
              show ((g.l.take (k + (m + 1)) ++ more.drop (m + 1)).getD (k + m) En.zero).term ≤ (more.getD m En.zero).term
              have hx := List.getElem?_eq_getElem (show m < more.length by omega)
              have q5 := hbef m _ (by omega) hx
              rw [List.getD_eq_getElem?_getD, List.getD_eq_getElem?_getD, List.getElem?_append_left (by rw [List.length_take]; omega), List.getElem?_take, if_pos (by omega), hx]
              cases q6 : g.l[k + m]? with
              | none => rw [q6] at q5; cases q5
              | some y =>
                rw [q6] at q5
                simp at q5
                show y.term ≤ _
                rw [q5]; exact Int.le_refl _
          · obtain ⟨m, hm2⟩ : ∃ m, i = k + j + m + 1 := ⟨i - (k + j) - 1, by omega⟩
            subst hm2
            rw [show k + j + m + 1 - k = j + m + 1 by omega]
            show ((g.l.take (k + j) ++ more.drop j).getD (k + j + m) En.zero).term ≤ (more.getD (j + m) En.zero).term
            rw [List.getD_eq_getElem?_getD, List.getD_eq_getElem?_getD, List.getElem?_append_right (by omega), hl, List.getElem?_drop, show j + (k + j + m - (k + j)) = j + m by omega]
            exact Int.le_refl _
    refine ⟨j, more[j], he, (hmiss j _ he).1 hj1, hbef, hkj, hseq, hris, ?_⟩
    unfold Lg.take
    rw [if_neg hno, hf]
    dsimp only
    have e3 : (more.getD j En.zero).index = g.base + k + j + 1 := by rw [List.getD_eq_getElem?_getD, he]; exact hm j _ he
    rw [e3, show min (g.base + k + j + 1 - g.base - 1).toNat g.l.length = k + j by omega, if_pos (hseq.right hris)]
end Go.Pin
