/- Two entries are compared: it answers something, and the world stays. -/
import Derived.Test.YthlmigbimeldbaaEnX
set_option maxRecDepth 16000
namespace Go.Proofs.Ythlmigbimeldbaa
open Go.RowKit Go.Pin
set_option linter.unusedVariables false
set_option linter.unusedSimpArgs false
theorem run_neq_en (a b : En) : ∃ B, ∀ w, (binOp .neq 32 (.agg a.cells) (.agg b.cells)).run Try.prog w = .ok (.bool B) w := by
  have hse := str_beq
  have hu := Try.underlying32
  by_cases h_term : a.term = b.term
  case neg =>
    refine ⟨true, fun w => ?_⟩
    go_simp
  by_cases h_index : a.index = b.index
  case neg =>
    refine ⟨true, fun w => ?_⟩
    go_simp
  by_cases h_kind : a.kind = b.kind
  case neg =>
    refine ⟨true, fun w => ?_⟩
    go_simp
  by_cases h_client : a.client = b.client
  case neg =>
    refine ⟨true, fun w => ?_⟩
    go_simp
  by_cases h_seq : a.seq = b.seq
  case neg =>
    refine ⟨true, fun w => ?_⟩
    go_simp
  by_cases h_block : a.block = b.block
  case neg =>
    refine ⟨true, fun w => ?_⟩
    go_simp
  by_cases h_many : a.many = b.many
  case neg =>
    refine ⟨true, fun w => ?_⟩
    go_simp
  by_cases h_node : a.node = b.node
  case neg =>
    refine ⟨true, fun w => ?_⟩
    go_simp
  by_cases h_level : a.level = b.level
  case neg =>
    refine ⟨true, fun w => ?_⟩
    go_simp
  by_cases h_data : a.data = b.data
  case neg =>
    refine ⟨true, fun w => ?_⟩
    go_simp
  by_cases h_old : a.old = b.old
  case neg =>
    refine ⟨true, fun w => ?_⟩
    go_simp
  refine ⟨false, fun w => ?_⟩
  go_simp
end Go.Proofs.Ythlmigbimeldbaa
