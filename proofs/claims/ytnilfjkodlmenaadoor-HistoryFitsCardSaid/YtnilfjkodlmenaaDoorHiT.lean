/- history: Itoa beyond 99: the table that the row lists. -/
import Derived.Test.YtnilfjkodlmenaaDoorHiF
import Derived.Lib.LaidTab
import Derived.Stop.LaidErr
import Derived.Lib.AppendIntMem
import Derived.LaidMore
set_option maxRecDepth 16000
namespace Go.Proofs.YtnilfjkodlmenaaDoor
open Go.RowKit Go.Pin
set_option linter.unusedVariables false
set_option linter.unusedSimpArgs false
def HTab (w : World) : Prop := Lib.TabIs Tryd.prog w "internal/strconv.uint64pow10" .u64 Lib.pow10Tab
theorem HTab.keep {S : Nat → Prop} {a w : World} (h : HTab a) (hk : Keep S a w) (hS : ∀ k, k < a.heap.size → ¬ S k) : HTab w := by
  unfold HTab Lib.TabIs World.var? at *
  cases hg : Tryd.prog.globalNamed "internal/strconv.uint64pow10" with
  | none => rw [hg] at h; cases h
  | some g =>
    rw [hg] at h
    simp only [Option.bind_some] at h ⊢
    by_cases hlt : g < a.heap.size
    · rw [hk.block g hlt (hS g hlt)]; exact h
    · rw [Array.getElem?_eq_none (Nat.le_of_not_lt hlt)] at h; cases h
theorem HTab.below {a w : World} (h : HTab a) (hb : Below a.heap.size a w) : HTab w := h.keep (Keep.of_below hb fun _ q _ => q : Keep (fun _ => False) a w) fun _ _ => id
theorem itoa_tab (n : Nat) (hn : n ≤ 10) (w0 : World) (h : HTab w0) : ItoaOk n w0.heap.size w0 := by
  intro d hd W hW
  have hd10 : d < 2 ^ 10 := Nat.lt_of_lt_of_le hd (Nat.pow_le_pow_right (by decide) hn)
  have hd' : d < 1024 := hd10
  have ht : HTab W := h.keep hW fun k hk => Nat.not_le.2 hk
  refine (YtnilfjkodlmenaaDoorSh.strconv_Itoa (d : Int) (by omega) (by omega) W ht).mono ?_
  rintro e w' ⟨rfl, k, os, rfl⟩
  rw [Lib.itoa_nonneg]
  exact ⟨rfl, Lib.below_grow _ _ (Nat.le_refl _) _ _⟩
end Go.Proofs.YtnilfjkodlmenaaDoor
