/- RlogTaken: plain laws of the list that is taken. -/
import Derived.Test.YthlmigbimeldbaaRlogTkN
set_option maxRecDepth 16000
namespace Go.Pin
open Go.RowKit
set_option linter.unusedVariables false
set_option linter.unusedSimpArgs false
/-- An entry at its place behind prev, of a term above t. -/
def tkPut (prev t : Int) (j : Nat) (e : En) : En := { e with index := prev + j + 1, term := t + e.term }
theorem mapIdx_step (f : Nat → En → En) (L : List En) (i : Nat) (e : En) (h : L[i]? = some e) :
    ((L.take i).mapIdx f ++ L.drop i)[i]? = some e ∧ ((L.take i).mapIdx f ++ L.drop i).set i (f i e) = (L.take (i + 1)).mapIdx f ++ L.drop (i + 1) := by
  have hk : i < L.length := (List.getElem?_eq_some_iff.1 h).1
  have hl : ((L.take i).mapIdx f).length = i := by rw [List.length_mapIdx, List.length_take]; omega
  have hd : L.drop i = e :: L.drop (i + 1) := by
    rw [List.drop_eq_getElem_cons hk]
    rw [List.getElem?_eq_getElem hk] at h
    simp at h; rw [h]
  constructor
  · rw [List.getElem?_append_right (by omega), hl, hd]; simp
  · rw [List.set_append, if_neg (by omega), hl, hd, List.take_add_one, h]
    simp only [Option.toList_some]
    rw [List.mapIdx_append]
    simp [List.length_take, Nat.min_eq_left (Nat.le_of_lt hk)]
theorem En.right_put {e : En} (h : e.right = true) (i t : Int) (hi : 0 < i) (ht : 0 < t) : ({ e with index := i, term := t } : En).right = true := by
  unfold En.right at h ⊢
  simp only [Bool.and_eq_true, decide_eq_true_eq] at h ⊢
  obtain ⟨⟨⟨h1, h2⟩, h3⟩, h4⟩ := h
  exact ⟨⟨⟨h1, ht⟩, hi⟩, h4⟩
theorem tk_get {prev t : Int} {L : List En} {j : Nat} {e : En} (h : (L.mapIdx (tkPut prev t))[j]? = some e) : ∃ x, L[j]? = some x ∧ e = tkPut prev t j x := by
  rw [List.getElem?_mapIdx] at h
  cases hq : L[j]? with
  | none => rw [hq] at h; cases h
  | some x => rw [hq] at h; simp only [Option.map_some, Option.some.injEq] at h; exact ⟨x, rfl, h.symm⟩
theorem tk_rises {Z : Lg} (hn : Z.neat) (hr : Z.rises) (prev t : Int) (hp : 0 ≤ prev) (ht : 0 ≤ t) : (Lg.mk prev t (Z.l.mapIdx (tkPut prev t))).rises := by
  refine ⟨fun e he => ?_, fun j e he => ?_⟩
  · obtain ⟨j, hj⟩ := List.getElem?_of_mem he
    obtain ⟨x, hx, rfl⟩ := tk_get hj
    have hxm := List.mem_of_getElem? hx
    have h1 := hr.right x hxm
    have h2 : 0 < x.term := by
      unfold En.right at h1
      simp only [Bool.and_eq_true, decide_eq_true_eq] at h1
      exact h1.1.1.2
    exact En.right_put h1 _ _ (by omega) (by omega)
  · dsimp only at he ⊢
    obtain ⟨x, hx, rfl⟩ := tk_get he
    have hx0 := (hn.term x (List.mem_of_getElem? hx)).1
    cases j with
    | zero => show t ≤ t + x.term; omega
    | succ j =>
      show ((Z.l.mapIdx (tkPut prev t)).getD j En.zero).term ≤ t + x.term
      have hj : j < Z.l.length := by have := (List.getElem?_eq_some_iff.1 hx).1; omega
      have hup := hr.up (j + 1) x hx
      have e1 : lgBefore Z.bt Z.l (j + 1) = (Z.l.getD j En.zero).term := rfl
      rw [e1, List.getD_eq_getElem?_getD, List.getElem?_eq_getElem hj] at hup
      rw [List.getD_eq_getElem?_getD, List.getElem?_mapIdx, List.getElem?_eq_getElem hj]
      show t + (Z.l[j]).term ≤ t + x.term
      have hup2 : (Z.l[j]).term ≤ x.term := hup
      omega
theorem tk_ok {Z : Lg} (hn : Z.neat) (ho : Z.ok) (prev t : Int) (hp : 0 ≤ prev ∧ prev ≤ 1000) (ht : 0 ≤ t ∧ t ≤ 1000) : ∀ e ∈ Z.l.mapIdx (tkPut prev t), e.ok := by
  intro e he
  obtain ⟨j, hj⟩ := List.getElem?_of_mem he
  obtain ⟨x, hx, rfl⟩ := tk_get hj
  have hx0 := hn.term x (List.mem_of_getElem? hx)
  have hj2 := (List.getElem?_eq_some_iff.1 hx).1
  have hl := hn.len
  have hxo := ho.l x (List.mem_of_getElem? hx)
  exact ⟨by show 0 ≤ t + x.term ∧ t + x.term ≤ _; omega, by show 0 ≤ prev + j + 1 ∧ prev + j + 1 ≤ _; omega, hxo.kind, hxo.client, hxo.seq, hxo.block, hxo.many, hxo.node, hxo.level, hxo.data, hxo.old⟩
theorem take_ok {g : Lg} (ho : g.ok) (prev t : Int) (more : List En) (hm : ∀ e ∈ more, e.ok) : (g.take prev t more).1.ok := by
  unfold Lg.take
  split
  · exact ho
  · split
    · exact ho
    · dsimp only
      split
      · refine ⟨ho.base, ho.bt, fun e he => ?_⟩
        rcases List.mem_append.1 he with q | q
        · exact ho.l e (List.mem_of_mem_take q)
        · exact hm e (List.mem_of_mem_drop q)
      · exact ho
end Go.Pin
