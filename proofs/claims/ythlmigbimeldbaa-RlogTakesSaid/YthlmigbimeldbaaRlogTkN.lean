/- Taken again: nothing changes; what was taken is there, and what stood ahead of it. -/
import Derived.Test.YthlmigbimeldbaaRlogTkM
set_option maxRecDepth 16000
namespace Go.Pin
open Go.RowKit
set_option linter.unusedVariables false
set_option linter.unusedSimpArgs false
theorem lgBefore_take (bt : Int) (A B C : List En) (k : Nat) (hA : A.length = k) : lgBefore bt (A ++ B) k = lgBefore bt (A ++ C) k := by
  cases k with
  | zero => rfl
  | succ k =>
    show ((A ++ B).getD k En.zero).term = ((A ++ C).getD k En.zero).term
    rw [List.getD_eq_getElem?_getD, List.getD_eq_getElem?_getD, List.getElem?_append_left (by omega), List.getElem?_append_left (by omega)]
/-- What Take answers at logs that fit: the log a, which has the entries taken (by their terms), and those that stood ahead; taken again it stays. -/
theorem take_twice {g : Lg} (hs : g.seq) (hr : g.rises) (k : Nat) (hk : k ≤ g.l.length) (more : List En) (hml : more.length ≤ 20) (hgl : g.l.length ≤ 20)
    (hm : ∀ (j : Nat) (e : En), more[j]? = some e → e.index = g.base + k + j + 1) (hmr : (Lg.mk (g.base + k) (lgBefore g.bt g.l k) more).rises) (hbk : g.base + k ≤ 900) :
    ∃ (a : Lg) (f : Int), g.take (g.base + k) (lgBefore g.bt g.l k) more = (a, f, true) ∧ a.seq ∧ a.rises ∧ a.l.length ≤ 50 ∧ (f = 0 ∨ g.base + k < f ∧ f ≤ 1000) ∧ a.base = g.base ∧
      (∀ i, i < k → a.l[i]? = g.l[i]?) ∧ (∀ (j : Nat) (e : En), more[j]? = some e → (a.l[k + j]?).map (·.term) = some e.term) ∧
      a.take (g.base + k) (lgBefore g.bt g.l k) more = (a, 0, true) := by
  rcases take_seq hs hr k hk more (by omega) (by omega) hm hmr (by omega) with ⟨h1, h2⟩ | ⟨j, e, h1, h2, h3, h4, h5, h6, h7⟩
  · exact ⟨g, 0, h2, hs, hr, by omega, .inl rfl, rfl, fun i _ => rfl, h1, h2⟩
  · have hjl : j < more.length := (List.getElem?_eq_some_iff.1 h1).1
    have hb := hs.base
    have hl : (g.l.take (k + j)).length = k + j := by rw [List.length_take]; omega
    have hla : (g.l.take (k + j) ++ more.drop j).length ≤ 50 := by rw [List.length_append, List.length_drop]; omega
    have hget : ∀ (i : Nat) (x : En), more[i]? = some x → ((g.l.take (k + j) ++ more.drop j)[k + i]?).map (·.term) = some x.term := by
      intro i x hx
      by_cases q : i < j
      · rw [List.getElem?_append_left (by omega), List.getElem?_take, if_pos (by omega)]
        exact h3 i x q hx
      · rw [List.getElem?_append_right (by omega), hl, List.getElem?_drop, show j + (k + i - (k + j)) = i by omega, hx]; rfl
    have hpre : ∀ i, i < k → (g.l.take (k + j) ++ more.drop j)[i]? = g.l[i]? := fun i hi => by
      rw [List.getElem?_append_left (by omega), List.getElem?_take, if_pos (by omega)]
    have hbe : lgBefore g.bt (g.l.take (k + j) ++ more.drop j) k = lgBefore g.bt g.l k := by
      cases k with
      | zero => rfl
      | succ k =>
        show ((g.l.take (k + 1 + j) ++ more.drop j).getD k En.zero).term = (g.l.getD k En.zero).term
        rw [List.getD_eq_getElem?_getD, List.getD_eq_getElem?_getD, hpre k (by omega)]
    refine ⟨_, _, h7, h5, h6, hla, .inr (by omega), rfl, hpre, hget, ?_⟩
    rcases take_seq h5 h6 k (by dsimp only; rw [List.length_append, hl]; omega) more (by omega) (by dsimp only; omega) hm (by dsimp only; rw [hbe]; exact hmr) (by dsimp only; omega) with ⟨_, g2⟩ | ⟨i, x, g1, g2, _⟩
    · dsimp only at g2
      rw [hbe] at g2
      exact g2
    · exact absurd (hget i x g1) g2
end Go.Pin
