/- Parts of a log that rises. -/
import Derived.Test.YthlmigbimeldbaaRlogHintsW
set_option maxRecDepth 16000
namespace Go.Pin
open Go.RowKit
set_option linter.unusedVariables false
set_option linter.unusedSimpArgs false
theorem fold_part (b i m : Int) (h : b < i) : ∀ (L out : List En), L.foldl (lgStep b i m) out = out ++ (L.filter fun e => decide (i ≤ e.index)).take (m - out.length).toNat
  | [], out => by simp
  | e :: L, out => by
    rw [List.foldl_cons, fold_part b i m h L, List.filter_cons]
    unfold lgStep
    by_cases h1 : i ≤ e.index
    · rw [if_pos (show decide (i ≤ e.index) = true from decide_eq_true h1)]
      by_cases h2 : (out.length : Int) < m
      · rw [if_pos ⟨h, h1, h2⟩]
        have e1 : (m - ((out ++ [e]).length : Nat)).toNat + 1 = (m - out.length).toNat := by simp only [List.length_append, List.length_cons, List.length_nil]; omega
        rw [← e1, List.take_succ_cons, List.append_assoc]; rfl
      · rw [if_neg (fun q => h2 q.2.2), show (m - (out.length : Int)).toNat = 0 by omega]; simp
    · rw [if_neg (fun q => h1 q.2.1), if_neg (by rw [decide_eq_true_eq]; exact h1)]
theorem filter_drop (i : Int) : ∀ (L : List En) (b : Int), (∀ (k : Nat) (e : En), L[k]? = some e → e.index = b + k + 1) → (L.filter fun e => decide (i ≤ e.index)) = L.drop (i - b - 1).toNat
  | [], b, _ => by simp
  | e :: L, b, h => by
    have h0 : e.index = b + 1 := by have := h 0 e rfl; simpa using this
    have hL : ∀ (k : Nat) (x : En), L[k]? = some x → x.index = b + 1 + k + 1 := fun k x hx => by have := h (k + 1) x (by simpa using hx); rw [this]; push_cast; omega
    rw [List.filter_cons, filter_drop i L (b + 1) hL]
    by_cases q : i ≤ e.index
    · rw [if_pos (by rw [decide_eq_true_eq]; exact q), show (i - b - 1).toNat = 0 by omega, show (i - (b + 1) - 1).toNat = 0 by omega]; rfl
    · rw [if_neg (by rw [decide_eq_true_eq]; exact q), show (i - b - 1).toNat = (i - (b + 1) - 1).toNat + 1 by omega]; rfl
theorem Lg.neat.part {g : Lg} (h : g.neat) (i m : Int) (h1 : g.base < i) : g.part i m = (g.l.drop (i - g.base - 1).toNat).take m.toNat := by
  unfold Lg.part
  rw [fold_part g.base i m h1, filter_drop i g.l g.base h.index]
  simp
theorem part_none (g : Lg) (i m : Int) (h1 : ¬ g.base < i) : g.part i m = [] := by
  have key : ∀ L : List En, L.foldl (lgStep g.base i m) [] = [] := by
    intro L
    induction L with
    | nil => rfl
    | cons e L ih => rw [List.foldl_cons, show lgStep g.base i m [] e = [] from if_neg fun q => h1 q.1, ih]
  exact key g.l
theorem Lg.neat.term_at {g : Lg} (h : g.neat) (k : Nat) (e : En) (he : g.l[k]? = some e) : g.term e.index = some e.term := by
  have hi := h.index k e he
  have hb := h.base
  have hk := (List.getElem?_eq_some_iff.1 he)
  unfold Lg.term
  rw [if_neg (by omega)]
  have hf : (g.l.find? fun x => decide (x.index = e.index)) = some e := by
    rw [List.find?_eq_some_iff_getElem]
    refine ⟨by simp, k, hk.1, hk.2, fun j hj => ?_⟩
    have hjl : j < g.l.length := Nat.lt_trans hj hk.1
    have := h.index j _ (List.getElem?_eq_getElem hjl)
    simp only [Bool.not_eq_true', decide_eq_false_iff_not]
    omega
  rw [hf]; rfl
end Go.Pin
