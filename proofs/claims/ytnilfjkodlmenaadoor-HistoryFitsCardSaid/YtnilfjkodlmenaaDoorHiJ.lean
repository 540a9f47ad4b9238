/- history: ops appended to a row of the call's own: nil or not. -/
import Derived.Test.YtnilfjkodlmenaaDoorHiZ
import Derived.Maps.AppendAt
import Derived.Deep.Upon
set_option maxRecDepth 16000
namespace Go.Proofs.YtnilfjkodlmenaaDoor
open Go.RowKit Go.Pin
set_option linter.unusedVariables false
set_option linter.unusedSimpArgs false
theorem run_op_append (w : World) (H : Nat) (hH : H ≤ w.heap.size) (v : Value) (L M : List HOp) (v2 : Value) (hv : hRow w H v L) (hM : hRow w H v2 M) (hl : L.length ≤ 1000) (hm : M.length ≤ 1000) (ty : TypeId) :
    ∃ v' w', (Builtin.append_ #[24, 24] ty #[v, v2]).run Tryd.prog w = .ok v' w' ∧ hRow w' H v' (L ++ M) ∧ w.grownBy w' v.ownBlock ∧ (v'.ownBlock = v.ownBlock ∨ v'.ownBlock = some w.heap.size) := by
  obtain ⟨i0, hi, hz0, hzs, hzb⟩ := info_parts op_info
  rcases hM.2 with ⟨rfl, q⟩ | ⟨g, cap, cur, rfl, h1, h2, h3, h4, h5, h6⟩
  · have hM0 : M = [] := List.eq_nil_of_length_eq_zero q
    subst hM0
    have hcap : ∃ p c, v = .slice p L.length c ∧ L.length ≤ c := by
      rcases hv.2 with ⟨rfl, q⟩ | ⟨g, cap, cur, rfl, _, _, h, _⟩
      · exact ⟨none, 0, by rw [q], by omega⟩
      · exact ⟨_, _, rfl, h⟩
    obtain ⟨pv, cv, rfl, hc⟩ := hcap
    refine ⟨_, w, run_append_nothing w _ _ ty 33 i0 Tryd.underlying24 hi pv L.length cv hc _ ?_, by rw [List.append_nil]; exact hv, ⟨rfl, rfl, rfl, Nat.le_refl _, fun _ _ _ => rfl⟩, .inl rfl⟩
    refine ⟨.inl ⟨_, Tryd.underlying24⟩, fun w' => ?_, ?_, ?_, by simp, fun u hu => by cases hu⟩
    · simp [Builtin.lenOf]
    · simp [Builtin.firstCells]
    · simp [Builtin.firstCells]
  · have hnews : ∀ (j : Nat) (u : Value), (hFlat M)[j]? = some u → w.cell? ((⟨g, 0, none⟩ : Addr).add j) = some u := fun j u hu => by
      have hadd : (⟨g, 0, none⟩ : Addr).add j = ⟨g, j, none⟩ := by unfold Addr.add; split <;> simp_all
      have hj : j < (hFlat M).length := (List.getElem?_eq_some_iff.1 hu).1
      rw [hFlat_len] at hj
      rw [hadd, World.ownsRow.cellAt hM j hj]
      exact hu
    have h1c : ∀ u ∈ hFlat M, u.oneCell' = true := fun u hu => by
      obtain ⟨x, _, hx⟩ := List.mem_flatMap.1 hu
      exact hCells_one x u hx
    obtain ⟨v', w', r1, r2, r3, _, r5⟩ := run_append_own_at (P := Tryd.prog) w H 24 ty 33 i0 _ 15 144 Tryd.underlying24 hi hz0 hzs hzb rfl (by decide) v L.length (hFlat L) hv ⟨g, 0, none⟩ M.length cap (hFlat M) (hFlat_len M) hnews h1c (by unfold maxLen; omega) (by omega) hH
    refine ⟨v', w', r1, ?_, r3, r5⟩
    unfold hRow
    rw [List.length_append, hFlat_append]
    exact r2
theorem wpList_op_append {ops : Array Oper} {rest : List Oper} {o : Oper} {a : Act} {w : World} {Q : Exit → Act → World → Prop} (hgd : o.guard = none) (s x : Operand) (ho : o.op = .call { callee := .builtin .append, args := #[s, x], argTypes := #[24, 24] })
    (H : Nat) (hH : H ≤ w.heap.size) (v v2 : Value) (L M : List HOp) (hs : a.eval s = v) (hx : a.eval x = v2) (hv : hRow w H v L) (hM : hRow w H v2 M) (hl : L.length ≤ 1000) (hm : M.length ≤ 1000)
    (h : ∀ v' w', hRow w' H v' (L ++ M) → w.grownBy w' v.ownBlock → (v'.ownBlock = v.ownBlock ∨ v'.ownBlock = some w.heap.size) → wpList Tryd.prog ops Q rest (a.put o.dst v') w') : wpList Tryd.prog ops Q (o :: rest) a w :=
  wpList_plain hgd fun _ hK => by
    obtain ⟨v', w', hr, h2, h3, h4⟩ := run_op_append w H hH v L M v2 hv hM hl hm o.type
    unfold Oper.wp execOp
    simp only [ho, resolve, invoke, builtin, Sem.run_bind, Sem.run_pure, Result.andThen_ok, List.map_toArray, List.map_cons, List.map_nil, hs, hx, hr]
    exact hK _ _ (h v' w' h2 h3 h4)
end Go.Proofs.YtnilfjkodlmenaaDoor
