/- entry.Same; what one entry's bytes tell. -/
import Derived.Test.YthlmigbimeldbaaSecE
import Derived.Test.YthlmigbimeldbaaMkS
import Derived.Test.YthlmigbimeldbaaMkR
set_option maxRecDepth 16000
namespace Go.Pin
open Go.RowKit
set_option linter.unusedVariables false
set_option linter.unusedSimpArgs false
def enSame (a b : En) : Bool := decide (a.term = b.term) && decide (a.index = b.index) && decide (a.kind = b.kind) && decide (a.client = b.client) && decide (a.seq = b.seq) && decide (a.block = b.block) && decide (a.many = b.many) && decide (a.node = b.node) && decide (a.level = b.level) && decide (a.data = b.data) && decide (a.old = b.old)
theorem enSame_iff (a b : En) : enSame a b = true ↔ a = b := by
  constructor
  · intro h
    unfold enSame at h
    simp only [Bool.and_eq_true, decide_eq_true_eq] at h
    obtain ⟨⟨⟨⟨⟨⟨⟨⟨⟨⟨h1, h2⟩, h3⟩, h4⟩, h5⟩, h6⟩, h7⟩, h8⟩, h9⟩, h10⟩, h11⟩ := h
    cases a; cases b
    dsimp only at *
    subst h1 h2 h3 h4 h5 h6 h7 h8 h9 h10 h11
    rfl
  · rintro rfl
    simp [enSame]
/-- The bytes of two entries: the same just if these are; else none begins the other's. -/
theorem put_prefix {a b : En} (ha : a.small) (hb : b.small) (n : Nat) (hn : n = min (secPut a).length (secPut b).length) (h : (secPut a).take n = (secPut b).take n) : a = b := by
  by_cases q : (secPut a).length ≤ (secPut b).length
  · rw [hn, Nat.min_eq_left q, List.take_length] at h
    have h2 : secPut a ++ (secPut b).drop (secPut a).length = secPut b ++ [] := by
      rw [List.append_nil]
      conv => rhs; rw [← List.take_append_drop (secPut a).length (secPut b)]
      rw [← h]
    exact (secPut_inj ha hb _ _ h2).1
  · rw [hn, Nat.min_eq_right (by omega), List.take_length] at h
    have h2 : secPut b ++ (secPut a).drop (secPut b).length = secPut a ++ [] := by
      rw [List.append_nil]
      conv => rhs; rw [← List.take_append_drop (secPut b).length (secPut a)]
      rw [h]
    exact (secPut_inj hb ha _ _ h2).1.symm
end Go.Pin
namespace Go.Proofs.Ythlmigbimeldbaa
open Go.RowKit Go.Pin
set_option linter.unusedVariables false
set_option linter.unusedSimpArgs false
set_option maxHeartbeats 1600000 in
theorem sec_same (a b : En) (w : World) : Calls Try.prog 41 #[.agg a.cells, .agg b.cells] w fun x w' => x = .returned (.bool (enSame a b)) ∧ Below w.heap.size w w' := by
  have hse := str_beq
  unfold En.cells at *
  go_enter Try.func41, Try.ntmps41
  go_wp2_with fail
  all_goals go_ret
  all_goals refine ⟨?_, (((Keep.refl (fun _ => False) w).alloc _).alloc _).below (Nat.le_refl _) fun _ q => q.elim⟩
  all_goals first
    | (simp [enSame, *]; done)
    | (congr 2; simp [enSame, *]; done)
    | (trace_state; sorry)
end Go.Proofs.Ythlmigbimeldbaa
