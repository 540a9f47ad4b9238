/- Regions that draw: slices are plain too. -/
import Derived.Test.YtnilfjkodlmenaaDoorReg
set_option maxRecDepth 16000
namespace Go.Pin
open Go.RowKit
set_option linter.unusedVariables false
set_option linter.unusedSimpArgs false
section
variable {P : Program} {ops : Array Oper} {Q : Exit → Act → World → Prop} {md : Region.Mode} {S : World → Prop}
def plainOpS : Op → Bool
  | .slice .. => true
  | o => plainOp o
theorem plainS_noEnter {o : Oper} {a : Act} {w : World} (hp : plainOpS o.op = true) : ∀ f args w', (execOp a.eval o).run P w ≠ .ok (.enter f args) w' := by
  intro f args w' h
  by_cases q : ∃ t x lo hi mx, o.op = .slice t x lo hi mx
  · obtain ⟨t, x, lo, hi, mx, q⟩ := q
    unfold execOp at h
    rw [q] at h
    rcases run_v (s := Instr.sliceAt t (a.eval x) (lo.map a.eval) (hi.map a.eval) (mx.map a.eval)) h with ⟨v, w2, q⟩ | ⟨x, w2, q⟩ <;> cases q
  · refine plain_noEnter ?_ f args w' h
    unfold plainOpS at hp
    split at hp
    · rename_i hq; exact absurd ⟨_, _, _, _, _, hq⟩ q
    · exact hp
theorem wpStay_quietS {F : Act → Prop} : ∀ (n : Nat) (l : List Oper) (a : Act), (l.take n).all (fun o => plainOpS o.op) = true → wpQuiet P ops S (fun a' => wpStay P ops S F (l.drop n) a') (l.take n) a → wpStay P ops S F l a
  | 0, l, a, _, h => h
  | n + 1, [], a, _, h => h
  | n + 1, o :: l, a, hp, h => by
    simp only [List.take_succ_cons, List.drop_succ_cons, List.all_cons, Bool.and_eq_true] at hp h
    unfold wpQuiet at h
    by_cases hw : Region.wanted o (yielded ops a.tmps) = true
    · rw [if_pos hw] at h
      obtain ⟨v, hv, h'⟩ := h
      exact ⟨v, .inl ⟨hw, fun w hw' => stays_of_quiet (plainS_noEnter hp.1) (hv w hw')⟩, wpStay_quietS n l _ hp.2 h'⟩
    · rw [if_neg hw] at h
      exact ⟨undef, .inr ⟨by simpa using hw, rfl⟩, wpStay_quietS n l _ hp.2 h⟩
/-- In the midst of a region: n operations from number k on stay. -/
theorem wpAnyH_more {g : Nat} {l0 : List Oper} {listed : Array Bool} {a : Act} {w : World} (k n : Nat) (hn : k + n ≤ l0.length) (hs : Region.noSelect l0.toArray = true) (hB : Region.headB .any l0.toArray n k listed = true) (hS : S w)
    (h : wpStay P l0.toArray S (fun a' => wpAnyH P .any l0.toArray (NoPanic Q) S g (Region.headL n k listed) a' w) ((l0.drop k).take n) a) : wpAnyH P .any l0.toArray (NoPanic Q) S (n + g) listed a w := by
  have hl : ((l0.drop k).take n).length = n := by simp; omega
  have := wpAnyH_stay (md := .any) (Q := NoPanic Q) (S := S) (g := g) (w := w) hs (fun _ _ _ _ _ h => h) ((l0.drop k).take n) k listed a (fun j hj => by simp [hl] at hj; simp [hj, List.getElem?_take, List.getElem?_drop]) (by rw [hl]; exact hB) hS (by rw [hl]; exact h)
  rw [hl] at this
  exact this
end
end Go.Pin
