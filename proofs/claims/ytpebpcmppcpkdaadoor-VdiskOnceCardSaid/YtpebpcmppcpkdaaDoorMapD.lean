/- Maps whose keys are whole numbers: delete, also beneath a range. -/
import Derived.Test.YtpebpcmppcpkdaaDoorMap
namespace Go.Pin
open Go.RowKit Go.MapKept
set_option linter.unusedVariables false
set_option linter.unusedSimpArgs false
theorem filter_erase : ∀ (L : List Ent) (j : Nat) (k : Int), (L.map (·.1)).Nodup → (L.map (·.1))[j]? = some k → L.filter (fun p => decide (p.1 ≠ k)) = L.eraseIdx j
  | [], j, k, _, h => by simp at h
  | p :: L, 0, k, hn, h => by
    simp at h
    subst h
    rw [List.filter_cons_of_neg (by simp), List.eraseIdx_cons_zero, List.filter_eq_self]
    intro q hq
    have hno := (List.nodup_cons.1 hn).1
    simp only [decide_eq_true_eq]
    intro e
    exact hno (List.mem_map.2 ⟨q, hq, e⟩)
  | p :: L, j + 1, k, hn, h => by
    have h2 : (L.map (·.1))[j]? = some k := by simpa using h
    have hne : p.1 ≠ k := by
      intro e
      have h5 := List.mem_of_getElem? h2
      rw [← e] at h5
      exact (List.nodup_cons.1 hn).1 h5
    rw [List.filter_cons_of_pos (by simpa using hne), List.eraseIdx_cons_succ, filter_erase L j k (List.nodup_cons.1 hn).2 h2]
theorem Ents.erase {kk : IntKind} {es : List MapEntry} {L : List Ent} (h : Ents kk es L) (j : Nat) : Ents kk (es.eraseIdx j) (L.eraseIdx j) := by
  unfold Ents at *
  have key : ∀ {α β : Type} (f : α → β) (l : List α) (j : Nat), (l.eraseIdx j).map f = (l.map f).eraseIdx j := by
    intro α β f l
    induction l with
    | nil => intro j; rfl
    | cons x l ih => intro j; cases j with
      | zero => rfl
      | succ j => simp only [List.eraseIdx_cons_succ, List.map_cons, ih]
  rw [key, key, h]
theorem filter_eraseIdx {α : Type} (p : α → Bool) : ∀ (l : List α) (j : Nat) (x : α), l[j]? = some x → p x = false → (l.eraseIdx j).filter p = l.filter p
  | [], j, x, h, _ => by simp at h
  | y :: l, 0, x, h, hp => by
    simp at h; subst h
    rw [List.eraseIdx_cons_zero, List.filter_cons_of_neg (by simp [hp])]
  | y :: l, j + 1, x, h, hp => by
    rw [List.eraseIdx_cons_succ, List.filter_cons, List.filter_cons, filter_eraseIdx p l j x (by simpa using h) hp]
section
variable {P : Program} {w : World} {m : Nat} {kk : IntKind} {L : List Ent} {t kt et : TypeId}
theorem erase_toList (es : Array MapEntry) (j : Nat) : (es.eraseIdxIfInBounds j).toList = es.toList.eraseIdx j := by
  unfold Array.eraseIdxIfInBounds
  split
  · simp only [Array.toList_eraseIdx]
  · rename_i h
    rw [List.eraseIdx_of_length_le]
    simpa using h
theorem run_map_delete (h : MapAt w m kk L) (ht : P.underlying t = some (.map kt et)) (hd : P.underlying kt = some (.int kk)) (k : Int) (ty : TypeId) :
    ∃ w', (Builtin.delete_ #[t, kt] ty #[.map (some m), .int kk k]).run P w = .ok (.tuple #[]) w' ∧ MapAt w' m kk (L.filter fun p => decide (p.1 ≠ k)) ∧ Keep (fun j => j = m) w w' ∧ w'.heap.size = w.heap.size := by
  have hnd := h.nodup
  obtain ⟨es, c, h1, h2, h3⟩ := h
  have hk : IsKey (.int kk) (.int kk k) := rfl
  rcases findNow_get k es.toList L 0 h3 with ⟨g1, g2, g3⟩ | ⟨j, e, g1, g2, g3, g4, g5⟩
  · refine ⟨{ w with heap := w.heap.setIfInBounds m (.map es c) }, by simp [Builtin.delete_, run_underlying ht, Go.MapKept.run_getObj_map h1, run_checkKey hd hk, run_findKey hd g1, run_setObj_map _ h1, Result.andThen], ⟨es, c, (heap_set h1).1, h2, ?_⟩, keep_setObj h1, by simp⟩
    rw [List.filter_eq_self.2 (fun p hp => by simp only [decide_eq_true_eq]; intro q; exact g3 (List.mem_map.2 ⟨p, hp, q⟩))]
    exact h3
  · have g1' : Instr.findNow (.int kk) (.int kk k) es.toList 0 = some (some (j, e.val)) := by simpa using g1
    have hkj : (L.map (·.1))[j]? = some k := by
      have := h3.keyList
      have h4 : (es.toList.map (·.key))[j]? = some (Value.int kk k) := by rw [List.getElem?_map, g2]; simp [g3]
      rw [this, List.getElem?_map] at h4
      cases hq : (L.map (·.1))[j]? with
      | none => rw [hq] at h4; cases h4
      | some x => rw [hq] at h4; simp at h4; rw [h4]
    refine ⟨{ w with heap := w.heap.setIfInBounds m (.map (es.eraseIdxIfInBounds j) c) }, by simp [Builtin.delete_, run_underlying ht, Go.MapKept.run_getObj_map h1, run_checkKey hd hk, run_findKey hd g1', run_setObj_map _ h1, Result.andThen], ⟨_, c, (heap_set h1).1, stamped_erase h2 _, ?_⟩, keep_setObj h1, by simp⟩
    rw [erase_toList, filter_erase L j k hnd hkj]
    exact h3.erase j
/-- A key that has been told is deleted beneath the range: what is still to come stays. -/
theorem run_range_delete {r : Nat} {left : List Ent} (h : RangeAt w r m kk L left) (ht : P.underlying t = some (.map kt et)) (hd : P.underlying kt = some (.int kk)) (k : Int) (hk0 : k ∉ left.map (·.1)) (ty : TypeId) :
    ∃ w', (Builtin.delete_ #[t, kt] ty #[.map (some m), .int kk k]).run P w = .ok (.tuple #[]) w' ∧ RangeAt w' r m kk (L.filter fun p => decide (p.1 ≠ k)) left ∧ Keep (fun j => j = m) w w' ∧ w'.heap.size = w.heap.size := by
  have hnd := h.map.nodup
  obtain ⟨es, clock, seen, since, c0, h1, h2, h3, h4, h6, h7, h8, h9⟩ := h
  have hrm : r ≠ m := by rintro rfl; rw [h1] at h2; cases h2
  have hk : IsKey (.int kk) (.int kk k) := rfl
  rcases findNow_get k es.toList L 0 h4 with ⟨g1, g2, g3⟩ | ⟨j, e, g1, g2, g3, g4, g5⟩
  · refine ⟨{ w with heap := w.heap.setIfInBounds m (.map es clock) }, by simp [Builtin.delete_, run_underlying ht, Go.MapKept.run_getObj_map h2, run_checkKey hd hk, run_findKey hd g1, run_setObj_map _ h2, Result.andThen], ⟨es, clock, seen, since, c0, by rw [(heap_set h2).2 r hrm]; exact h1, (heap_set h2).1, h3, ?_, h6, h7, h8, h9⟩, keep_setObj h2, by simp⟩
    rw [List.filter_eq_self.2 (fun p hp => by simp only [decide_eq_true_eq]; intro q; exact g3 (List.mem_map.2 ⟨p, hp, q⟩))]
    exact h4
  · have g1' : Instr.findNow (.int kk) (.int kk k) es.toList 0 = some (some (j, e.val)) := by simpa using g1
    have hkj : (L.map (·.1))[j]? = some k := by
      have := h4.keyList
      have h5 : (es.toList.map (·.key))[j]? = some (Value.int kk k) := by rw [List.getElem?_map, g2]; simp [g3]
      rw [this, List.getElem?_map] at h5
      cases hq : (L.map (·.1))[j]? with
      | none => rw [hq] at h5; cases h5
      | some x => rw [hq] at h5; simp at h5; rw [h5]
    have hseen : (!seen.contains e.born) = false := by
      cases hq : (!seen.contains e.born) with
      | false => rfl
      | true =>
        exfalso
        have hm : e ∈ (leftOf es seen).toList := by
          unfold leftOf
          rw [Array.toList_filter, List.mem_filter]
          exact ⟨List.mem_of_getElem? g2, hq⟩
        obtain ⟨n', q1, q2⟩ := ents_mem _ _ e h9 hm
        rw [g3] at q1
        simp only [Value.int.injEq, true_and] at q1
        rw [← q1] at q2
        exact hk0 (List.mem_map.2 ⟨_, q2, rfl⟩)
    have hleft : (leftOf (es.eraseIdxIfInBounds j) seen).toList = (leftOf es seen).toList := by
      unfold leftOf
      rw [Array.toList_filter, Array.toList_filter, erase_toList]
      exact filter_eraseIdx _ es.toList j e g2 hseen
    refine ⟨{ w with heap := w.heap.setIfInBounds m (.map (es.eraseIdxIfInBounds j) clock) }, by simp [Builtin.delete_, run_underlying ht, Go.MapKept.run_getObj_map h2, run_checkKey hd hk, run_findKey hd g1', run_setObj_map _ h2, Result.andThen], ⟨_, clock, seen, since, c0, by rw [(heap_set h2).2 r hrm]; exact h1, (heap_set h2).1, stamped_erase h3 _, ?_, ?_, h7, h8, ?_⟩, keep_setObj h2, by simp⟩
    · rw [erase_toList, filter_erase L j k hnd hkj]
      exact h4.erase j
    · intro x hx
      rw [erase_toList] at hx
      exact h6 x ((List.eraseIdx_sublist _ _).subset hx)
    · rw [hleft]; exact h9
end
end Go.Pin
