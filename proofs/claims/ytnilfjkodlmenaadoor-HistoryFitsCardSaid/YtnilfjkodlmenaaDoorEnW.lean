/- entry: small, node, Fields. -/
import Derived.Test.YtnilfjkodlmenaaDoorProg
import Derived.Test.YtnilfjkodlmenaaDoorEnM
import Derived.Test.YtnilfjkodlmenaaDoorBytes
import Derived.Test.YtnilfjkodlmenaaDoorMap
set_option maxRecDepth 16000
namespace Go.Pin
open Go.RowKit
set_option linter.unusedVariables false
set_option linter.unusedSimpArgs false
def enL : List Ent := [(0, Value.string ⟨#[]⟩), (1, Value.string ⟨#[99, 98, 100]⟩), (2, Value.string ⟨#[99, 98, 109]⟩), (3, Value.string ⟨#[99, 109]⟩), (4, Value.string ⟨#[99]⟩), (5, Value.string ⟨#[110]⟩), (6, Value.string ⟨#[110]⟩), (7, Value.string ⟨#[110, 108]⟩), (8, Value.string ⟨#[]⟩), (9, Value.string ⟨#[]⟩), (10, Value.string ⟨#[]⟩), (11, Value.string ⟨#[99, 98, 100, 111]⟩)]
theorem enL_eq : (mset (mset (mset (mset (mset (mset (mset (mset (mset (mset (mset (mset [] 0 (Value.string ⟨#[]⟩)) 1 (Value.string ⟨#[99, 98, 100]⟩)) 2 (Value.string ⟨#[99, 98, 109]⟩)) 3 (Value.string ⟨#[99, 109]⟩)) 4 (Value.string ⟨#[99]⟩)) 5 (Value.string ⟨#[110]⟩)) 6 (Value.string ⟨#[110]⟩)) 7 (Value.string ⟨#[110, 108]⟩)) 8 (Value.string ⟨#[]⟩)) 9 (Value.string ⟨#[]⟩)) 10 (Value.string ⟨#[]⟩)) 11 (Value.string ⟨#[99, 98, 100, 111]⟩)) = enL := by simp [mset, enL]
theorem enL_get (k : Int) : (mget enL k).getD (.string ⟨#[]⟩) = .string (enF k).1 ∧ (mget enL k).isSome = (enF k).2 := by
  by_cases h : 0 ≤ k ∧ k ≤ 11
  · have hc : k = 0 ∨ k = 1 ∨ k = 2 ∨ k = 3 ∨ k = 4 ∨ k = 5 ∨ k = 6 ∨ k = 7 ∨ k = 8 ∨ k = 9 ∨ k = 10 ∨ k = 11 := by omega
    rcases hc with rfl | rfl | rfl | rfl | rfl | rfl | rfl | rfl | rfl | rfl | rfl | rfl <;> exact ⟨rfl, rfl⟩
  · have e : enF k = (⟨#[]⟩, false) := by
      unfold enF
      rw [if_neg (by omega), if_neg (by omega), if_neg (by omega), if_neg (by omega), if_neg (by omega), if_neg (by omega), if_neg (by omega), if_neg (by omega)]
    have g : mget enL k = none := by
      unfold mget
      rw [show enL.find? (fun p => decide (p.1 = k)) = none from List.find?_eq_none.2 (by
        intro p hp
        unfold enL at hp
        simp only [List.mem_cons, List.not_mem_nil, or_false] at hp
        rcases hp with rfl | rfl | rfl | rfl | rfl | rfl | rfl | rfl | rfl | rfl | rfl | rfl <;> simp <;> omega)]
      rfl
    rw [e, g]; exact ⟨rfl, rfl⟩
end Go.Pin
namespace Go.Proofs.YtnilfjkodlmenaaDoor
open Go.RowKit Go.Pin
set_option linter.unusedVariables false
set_option linter.unusedSimpArgs false
end Go.Proofs.YtnilfjkodlmenaaDoor
