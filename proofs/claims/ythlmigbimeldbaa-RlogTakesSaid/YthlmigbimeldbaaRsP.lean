/- Entries appended to a row of the call's own. -/
import Derived.Test.YthlmigbimeldbaaLgP
import Derived.Deep.Upon
set_option maxRecDepth 16000
namespace Go.Proofs.Ythlmigbimeldbaa
open Go.RowKit Go.Pin
set_option linter.unusedVariables false
set_option linter.unusedSimpArgs false
theorem run_en_append (w : World) (N : Nat) (hN : N ≤ w.heap.size) (v : Value) (L M : List En) (p : Option Addr) (n c : Nat) (hv : OwnE w N 32 v L) (hM : EntsAt w p n M) (hl : L.length ≤ 1000) (hm : n ≤ 1000) (ty : TypeId) :
    ∃ v' w', (Builtin.append_ #[25, 25] ty #[v, .slice p n c]).run Try.prog w = .ok v' w' ∧ OwnE w' N 32 v' (L ++ M) ∧ w.grownBy w' v.ownBlock := by
  obtain ⟨i0, hi, hz0, hzs, hzb⟩ := info_parts en_info
  cases p with
  | none =>
    have hM0 : M = [] := by
      cases M with
      | nil => rfl
      | cons e M => obtain ⟨A, o, q, _⟩ := hM.at' 0 e rfl; cases q
    subst hM0
    have hn0 : n = 0 := by rw [← hM.len]; rfl
    subst hn0
    obtain ⟨pv, cv, rfl, _, _, hc⟩ := OwnE.open hv
    refine ⟨_, w, run_append_nothing w _ _ ty 32 i0 Try.underlying25 hi pv L.length cv hc _ ?_, by rw [List.append_nil]; exact hv, ⟨rfl, rfl, rfl, Nat.le_refl _, fun _ _ _ => rfl⟩⟩
    refine ⟨.inl ⟨_, Try.underlying25⟩, fun w' => ?_, ?_, ?_, by simp, fun u hu => by cases hu⟩
    · simp [Builtin.lenOf]
    · simp [Builtin.firstCells]
    · simp [Builtin.firstCells]
  | some ad =>
    obtain ⟨v', w', h1, h2, h3, _⟩ := run_append_own (P := Try.prog) w N 25 ty 32 i0 En.zero.val 11 104 Try.underlying25 hi hz0 hzs hzb rfl (by decide) v L.length (enCells L) hv ad n c (enCells M) (by rw [enCells_len, hM.len]) (fun j u hu => hM.news j u hu) (enCells_one M) (by unfold maxLen; omega) (by omega) hN
    refine ⟨v', w', h1, ?_, h3⟩
    unfold OwnE
    rw [List.length_append, hM.len, enCells_app]
    exact h2
theorem wp_en_append {o : Oper} {a : Act} {w : World} {K : Act → World → Prop} {Q : Exit → Act → World → Prop} (s x : Operand) (ho : o.op = .call { callee := .builtin .append, args := #[s, x], argTypes := #[25, 25] })
    (N : Nat) (hN : N ≤ w.heap.size) (v : Value) (L M : List En) (p : Option Addr) (n c : Nat) (hs : a.eval s = v) (hx : a.eval x = .slice p n c) (hv : OwnE w N 32 v L) (hM : EntsAt w p n M) (hl : L.length ≤ 1000) (hm : n ≤ 1000)
    (h : ∀ v' w', OwnE w' N 32 v' (L ++ M) → w.grownBy w' v.ownBlock → K (a.put o.dst v') w') : o.wp Try.prog a w K Q := by
  obtain ⟨v', w', hr, h2, h3⟩ := run_en_append w N hN v L M p n c hv hM hl hm o.type
  unfold Oper.wp execOp
  simp only [ho, resolve, invoke, builtin, Sem.run_bind, Sem.run_pure, Result.andThen_ok, List.map_toArray, List.map_cons, List.map_nil, hs, hx, hr]
  exact h v' w' h2 h3
end Go.Proofs.Ythlmigbimeldbaa
