/- Regions that draw: lookups are plain too. -/
import Derived.Test.YtpebpcmppcpkdaaDoorRegK
set_option maxRecDepth 16000
namespace Go.Pin
open Go.RowKit
set_option linter.unusedVariables false
set_option linter.unusedSimpArgs false
section
variable {P : Program} {ops : Array Oper} {Q : Exit → Act → World → Prop} {md : Region.Mode} {S : World → Prop}
def plainOpN : Op → Bool
  | .lookup .. => true
  | o => plainOpS o
theorem plainN_noEnter {o : Oper} {a : Act} {w : World} (hp : plainOpN o.op = true) : ∀ f args w', (execOp a.eval o).run P w ≠ .ok (.enter f args) w' := by
  intro f args w' h
  by_cases q2 : ∃ t x k b, o.op = .lookup t x k b
  · obtain ⟨t, x, k, b, q2⟩ := q2
    unfold execOp at h
    rw [q2] at h
    rcases run_v (s := Instr.lookup t (a.eval x) (a.eval k) b) h with ⟨v, w2, q⟩ | ⟨x, w2, q⟩ <;> cases q
  · refine plainS_noEnter ?_ f args w' h
    unfold plainOpN at hp
    split at hp
    · rename_i hq; exact absurd ⟨_, _, _, _, hq⟩ q2
    · exact hp
theorem wpStay_quietSN {F : Act → Prop} : ∀ (n : Nat) (l : List Oper) (a : Act), (l.take n).all (fun o => plainOpN o.op) = true → wpQuiet P ops S (fun a' => wpStay P ops S F (l.drop n) a') (l.take n) a → wpStay P ops S F l a
  | 0, l, a, _, h => h
  | n + 1, [], a, _, h => h
  | n + 1, o :: l, a, hp, h => by
    simp only [List.take_succ_cons, List.drop_succ_cons, List.all_cons, Bool.and_eq_true] at hp h
    unfold wpQuiet at h
    by_cases hw : Region.wanted o (yielded ops a.tmps) = true
    · rw [if_pos hw] at h
      obtain ⟨v, hv, h'⟩ := h
      exact ⟨v, .inl ⟨hw, fun w hw' => stays_of_quiet (plainN_noEnter hp.1) (hv w hw')⟩, wpStay_quietSN n l _ hp.2 h'⟩
    · rw [if_neg hw] at h
      exact ⟨undef, .inr ⟨by simpa using hw, rfl⟩, wpStay_quietSN n l _ hp.2 h⟩
end
end Go.Pin
