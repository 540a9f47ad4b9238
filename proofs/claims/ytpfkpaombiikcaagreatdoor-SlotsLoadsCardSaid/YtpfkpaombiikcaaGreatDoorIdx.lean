import Derived.Test.YtpfkpaombiikcaaGreatDoorBytes
import Derived.Test.YtpfkpaombiikcaaGreatDoorProg
/- slices.Index, slices.Contains of numbers. -/
set_option maxRecDepth 16000
namespace Go.Pin
open Go.RowKit
set_option linter.unusedVariables false
set_option linter.unusedSimpArgs false
/-- The first place of x, or -1. -/
def idxI (zs : List Int) (x : Int) : Int := if x ∈ zs then ((zs.findIdx fun y => decide (y = x) : Nat) : Int) else -1
theorem idxI_at (zs : List Int) (x : Int) (k : Nat) (hk : k < zs.length) (h : zs.getD k 0 = x) (hl : ∀ j, j < k → zs.getD j 0 ≠ x) : idxI zs x = (k : Int) := by
  have hm : x ∈ zs := by rw [← h]; simp only [List.getD, List.getElem?_eq_getElem hk, Option.getD_some]; exact List.getElem_mem hk
  unfold idxI
  rw [if_pos hm]
  congr 1
  rw [List.findIdx_eq hk]
  refine ⟨?_, fun j hj => ?_⟩
  · simp only [List.getD, List.getElem?_eq_getElem hk, Option.getD_some] at h; simpa using h
  · have := hl j hj
    simp only [List.getD, List.getElem?_eq_getElem (show j < zs.length by omega), Option.getD_some] at this; simpa using this
theorem idxI_none (zs : List Int) (x : Int) (hl : ∀ j, j < zs.length → zs.getD j 0 ≠ x) : idxI zs x = -1 := by
  unfold idxI
  rw [if_neg]
  intro hm
  obtain ⟨j, hj, e⟩ := List.mem_iff_getElem.1 hm
  have := hl j hj
  simp only [List.getD, List.getElem?_eq_getElem hj, Option.getD_some] at this
  exact this e
theorem idxI_range (zs : List Int) (x : Int) : -1 ≤ idxI zs x ∧ idxI zs x ≤ zs.length := by
  unfold idxI
  split
  · have := List.findIdx_le_length (p := fun y => decide (y = x)) (xs := zs); omega
  · omega
theorem idxI_mem (zs : List Int) (x : Int) : decide (0 ≤ idxI zs x) = decide (x ∈ zs) := by
  unfold idxI
  split
  · rename_i h; simp [h]
  · rename_i h; simp [h]
end Go.Pin
namespace Go.Proofs.YtpfkpaombiikcaaGreatDoor
open Go.RowKit Go.Pin
set_option linter.unusedVariables false
set_option linter.unusedSimpArgs false
end Go.Proofs.YtpfkpaombiikcaaGreatDoor
