/- history: an op in a box of its own. -/
import Derived.Test.YtnilfjkodlmenaaDoorHiY
import Derived.Test.YtnilfjkodlmenaaDoorHiB
set_option maxRecDepth 16000
namespace Go.Pin
open Go.RowKit
set_option linter.unusedVariables false
set_option linter.unusedSimpArgs false
structure BoxAt (w : World) (E : Nat) (x : HOp) : Prop where
  op : HOpAt w E 0 x
  fr : ∀ i, w.frozen? ⟨E, i, none⟩ = false
theorem BoxAt.lt {w : World} {E : Nat} {x : HOp} (h : BoxAt w E x) : E < w.heap.size := World.block_lt_of_cell? _ _ h.op.cells.1
theorem BoxAt.new (w : World) (T : TypeId) (x : HOp) : BoxAt (w.alloc (.cells x.cells T)) w.heap.size x := ⟨HOpAt.new w T x, fun i => by simp⟩
theorem BoxAt.keep {S : Nat → Prop} {a w : World} {E : Nat} {x : HOp} (h : BoxAt a E x) (hk : Keep S a w) (hn : ¬ S E) : BoxAt w E x :=
  ⟨h.op.keep hk hn, fun i => (hk.frozen_at (q := ⟨E, i, none⟩) h.op.cells.1 rfl hn).trans (h.fr i)⟩
theorem BoxAt.cell {w : World} {E : Nat} {x : HOp} (h : BoxAt w E x) (i : Nat) (v : Value) (hv : x.cells.toList[i]? = some v) : w.cell? ⟨E, i, none⟩ = some v := by
  have := h.op.row i v hv
  rw [Nat.zero_add] at this; exact this
theorem BoxAt.set {w : World} {E : Nat} {x y : HOp} (h : BoxAt w E x) {i : Nat} {v : Value} (hi : i < 15) (hv : y.cells.toList = x.cells.toList.set i v) : BoxAt (w.setCell ⟨E, i, none⟩ v) E y := by
  refine ⟨⟨fun j u hu => ?_⟩, fun j => by rw [World.frozen?_setCell]; exact h.fr j⟩
  rw [Nat.zero_add]
  rw [hv, List.getElem?_set] at hu
  have hl : x.cells.toList.length = 15 := rfl
  by_cases hij : i = j
  · subst hij
    rw [if_pos rfl, if_pos (by rw [hl]; exact hi)] at hu
    cases hu
    exact World.cell?_setCell_same _ _ _ (h.cell i _ (List.getElem?_eq_getElem (by rw [hl]; exact hi)))
  · rw [if_neg hij] at hu
    rw [World.cell?_setCell_other _ _ _ _ (by simp <;> omega)]
    exact h.cell j u hu
theorem hRow.keepB {S : Nat → Prop} {a w : World} {H g n c : Nat} {L : List HOp} (h : hRow a H (.slice (some ⟨g, 0, none⟩) n c) L) (hk : Keep S a w) (hn : ¬ S g) : hRow w H (.slice (some ⟨g, 0, none⟩) n c) L := by
  refine ⟨h.1, ?_⟩
  rcases h.2 with q | ⟨g', cap, cur, q, h1, h2, h3⟩
  · exact .inl q
  · have hg := (Array.getElem?_eq_some_iff.1 h2).1
    injection q with q1 q2 q3
    injection q1 with q1
    injection q1 with q1
    subst q1 q3
    exact .inr ⟨g, c, cur, by rw [q2], h1, by rw [hk.block g hg hn]; exact h2, by rw [← q2]; rw [← q2] at h3; exact h3⟩
end Go.Pin
