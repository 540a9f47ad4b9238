/- A log that rises is right, and so is what is left of it. -/
import Derived.Test.YthlmigbimeldbaaMkR
import Derived.Test.YthlmigbimeldbaaRlogHintsW
set_option maxRecDepth 16000
namespace Go.Pin
open Go.RowKit
set_option linter.unusedVariables false
set_option linter.unusedSimpArgs false
/-- Its entries are right, its terms do not fall. -/
structure Lg.rises (g : Lg) : Prop where
  right : ∀ e ∈ g.l, e.right = true
  up : ∀ (k : Nat) (e : En), g.l[k]? = some e → lgBefore g.bt g.l k ≤ e.term
theorem lgTop_mono (L : List En) (t : Int) (k : Nat) : lgTop t (L.take k) ≤ lgTop t (L.take (k + 1)) := by
  cases h : L[k]? with
  | none =>
    have : L.length ≤ k := List.getElem?_eq_none_iff.1 h
    rw [List.take_of_length_le (by omega), List.take_of_length_le (by omega)]; omega
  | some e =>
    rw [lgTop_snoc L k e t h]
    have h2 := lgTop_le [e] (lgTop t (L.take k))
    have h3 : lgTop (lgTop t (L.take k)) [e] = lgTop t (L.take k) + e.term % 3 / 2 := rfl
    omega
theorem lgRising_rises (M : List (En × Bool)) (base term : Int) (h1 : 0 ≤ base) (h2 : 0 ≤ term) (hM : ∀ x ∈ M, x.1.ok) : (lgRising M base term 10).rises := by
  have hn := lgRising_neat M base term h1 h2
  have hb := hn.base
  refine ⟨fun e he => ?_, fun k e he => ?_⟩
  · obtain ⟨k, hk⟩ := List.getElem?_of_mem he
    have h4 := hn.index k e hk
    obtain ⟨x, hx, rfl⟩ := lgRise_get _ _ _ _ hk
    have h5 := lgTop_le ((lgLogged (base % 100) (M.take 10)).take (k + 1)) (max (term % 3) 1)
    unfold lgLogged at hx
    rw [List.getElem?_mapIdx] at hx
    cases hq : (M.take 10)[k]? with
    | none => rw [hq] at hx; cases hx
    | some y =>
      rw [hq] at hx
      simp only [Option.map_some, Option.some.injEq] at hx
      subst hx
      have := En.own_right y.1 (hM y (List.mem_of_mem_take (List.mem_of_getElem? hq))) (base % 100 + k + 1) (lgTop (max (term % 3) 1) ((lgLogged (base % 100) (M.take 10)).take (k + 1))) (by omega) (by omega)
      exact this
  · obtain ⟨x, hx, rfl⟩ := lgRise_get _ _ _ _ he
    dsimp only
    cases k with
    | zero =>
      have h5 := lgTop_le ((lgLogged (base % 100) (M.take 10)).take (0 + 1)) (max (term % 3) 1)
      show term % 3 ≤ _
      omega
    | succ k =>
      show ((lgRise (max (term % 3) 1) (lgLogged (base % 100) (M.take 10))).getD k En.zero).term ≤ _
      have hk : k < (lgRise (max (term % 3) 1) (lgLogged (base % 100) (M.take 10))).length := by
        have := (List.getElem?_eq_some_iff.1 he).1
        have e2 : (lgRising M base term 10).l = lgRise (max (term % 3) 1) (lgLogged (base % 100) (M.take 10)) := rfl
        rw [e2] at this; omega
      have hg := List.getElem?_eq_getElem hk
      obtain ⟨y, hy, hye⟩ := lgRise_get _ _ _ _ hg
      rw [List.getD_eq_getElem?_getD, hg]
      show ((lgRise (max (term % 3) 1) (lgLogged (base % 100) (M.take 10)))[k]).term ≤ _
      rw [hye]
      exact lgTop_mono _ _ _
theorem Lg.chain_right {g : Lg} (hb : g.base < 4611686018427387904 ∧ 0 ≤ g.base) (hl : g.l.length ≤ 1000) (hi : ∀ (k : Nat) (e : En), g.l[k]? = some e → e.index = g.base + k + 1) (h : g.rises) : g.right = true := by
  unfold Lg.right
  rw [Bool.and_eq_true, lgChain_fits]
  refine ⟨fun k e he => ?_, decide_eq_true hb.1⟩
  have h1 := hi k e he
  have h2 := (List.getElem?_eq_some_iff.1 he).1
  unfold lgFits
  rw [h.right e (List.mem_of_getElem? he), decide_eq_true (h.up k e he), Bool.true_and, Bool.and_true, decide_eq_true_eq, h1]
  omega
theorem lgBefore_drop (L : List En) (bt : Int) (k j : Nat) : lgBefore (lgBefore bt L k) (L.drop k) j = lgBefore bt L (k + j) := by
  cases j with
  | zero => rfl
  | succ j =>
    show ((L.drop k).getD j En.zero).term = (L.getD (k + j) En.zero).term
    rw [List.getD_eq_getElem?_getD, List.getD_eq_getElem?_getD, List.getElem?_drop]
theorem Lg.rises.drop {g : Lg} (h : g.rises) (k : Nat) (b : Int) : (Lg.mk b (lgBefore g.bt g.l k) (g.l.drop k)).rises := by
  refine ⟨fun e he => h.right e (List.mem_of_mem_drop he), fun j e he => ?_⟩
  dsimp only at he ⊢
  rw [lgBefore_drop]
  rw [List.getElem?_drop] at he
  exact h.up _ e he
end Go.Pin
