/- history: a row of ops of the call's own. -/
import Derived.Test.YtnilfjkodlmenaaDoorHiO
import Derived.Test.YtnilfjkodlmenaaDoorHiC
set_option maxRecDepth 16000
namespace Go.Pin
open Go.RowKit
set_option linter.unusedVariables false
set_option linter.unusedSimpArgs false
def hFlat (L : List HOp) : List Value := L.flatMap fun x => x.cells.toList
theorem hFlat_cons (x : HOp) (L : List HOp) : hFlat (x :: L) = x.cells.toList ++ hFlat L := List.flatMap_cons ..
theorem hFlat_append (L M : List HOp) : hFlat (L ++ M) = hFlat L ++ hFlat M := List.flatMap_append ..
theorem hFlat_len (L : List HOp) : (hFlat L).length = L.length * 15 := by
  induction L with
  | nil => rfl
  | cons x L ih =>
    have hl : x.cells.toList.length = 15 := rfl
    rw [hFlat_cons, List.length_append, ih, hl, List.length_cons]; omega
theorem hFlat_at : ∀ (L : List HOp) (j i : Nat) (x : HOp) (v : Value), L[j]? = some x → x.cells.toList[i]? = some v → (hFlat L)[j * 15 + i]? = some v
  | [], j, i, x, v, h, _ => by simp at h
  | y :: L, 0, i, x, v, h, hv => by
    have : y = x := by simpa using h
    subst this
    rw [hFlat_cons, Nat.zero_mul, Nat.zero_add, List.getElem?_append_left (List.getElem?_eq_some_iff.1 hv).1]
    exact hv
  | y :: L, j + 1, i, x, v, h, hv => by
    have hl : y.cells.toList.length = 15 := rfl
    rw [hFlat_cons, List.getElem?_append_right (by rw [hl]; omega), hl, show (j + 1) * 15 + i - 15 = j * 15 + i by omega]
    exact hFlat_at L j i x v (by simpa using h) hv
theorem hFlat_set : ∀ (L : List HOp) (j i : Nat) (x y : HOp) (v : Value), L[j]? = some x → i < 15 → y.cells.toList = x.cells.toList.set i v → (hFlat L).set (j * 15 + i) v = hFlat (L.set j y)
  | [], j, i, x, y, v, h, _, _ => by simp at h
  | z :: L, 0, i, x, y, v, h, hi, hv => by
    have : z = x := by simpa using h
    subst this
    have hl : z.cells.toList.length = 15 := rfl
    rw [List.set_cons_zero, hFlat_cons, hFlat_cons, Nat.zero_mul, Nat.zero_add, List.set_append_left _ _ (by rw [hl]; exact hi), hv]
  | z :: L, j + 1, i, x, y, v, h, hi, hv => by
    have hl : z.cells.toList.length = 15 := rfl
    rw [List.set_cons_succ, hFlat_cons, hFlat_cons, List.set_append_right _ _ (by rw [hl]; omega), hl, show (j + 1) * 15 + i - 15 = j * 15 + i by omega, hFlat_set L j i x y v (by simpa using h) hi hv]
/-- A slice of ops that is the call's own. -/
def hRow (w : World) (H : Nat) (v : Value) (L : List HOp) : Prop := w.ownsRow H 33 15 v L.length (hFlat L)
theorem hRow.nil (w : World) (H : Nat) : hRow w H (.slice none 0 0) [] := World.ownsRow_nil ..
theorem hRow.made (w : World) (H : Nat) (L : List HOp) (hH : H ≤ w.heap.size) (hm : L.length ≤ maxLen) : hRow (w.alloc (.cells (hFlat L).toArray 33)) H (.slice (some ⟨w.heap.size, 0, none⟩) L.length L.length) L := by
  have := World.ownsRow_lit (base := H) (e := 33) (size := 15) w (hFlat L).toArray L.length hH hm (by rw [List.size_toArray, hFlat_len])
  exact this
theorem hRow.slice {w : World} {H : Nat} {v : Value} {L : List HOp} (h : hRow w H v L) : ∃ p c, v = .slice p L.length c := by
  rcases h.2 with ⟨rfl, q⟩ | ⟨g, cap, cur, rfl, _⟩
  · exact ⟨none, 0, by rw [q]⟩
  · exact ⟨_, _, rfl⟩
theorem hRow.form {w : World} {H : Nat} {p : Option Addr} {n c : Nat} {L : List HOp} (h : hRow w H (.slice p n c) L) (hn : 0 < L.length) : ∃ g, p = some ⟨g, 0, none⟩ ∧ n = L.length ∧ H ≤ g ∧ g < w.heap.size := by
  obtain ⟨g, cap, q, h1, h2⟩ := World.ownsRow.form h hn
  injection q with q1 q2 q3
  exact ⟨g, q1, q2, h1, h2⟩
theorem hRow.ops {w : World} {H : Nat} {p : Option Addr} {n c : Nat} {L : List HOp} (h : hRow w H (.slice p n c) L) : OpsAt w p L := by
  refine ⟨fun j x hx => ?_⟩
  have hj : j < L.length := (List.getElem?_eq_some_iff.1 hx).1
  obtain ⟨g, rfl, rfl, h1, h2⟩ := h.form (by omega)
  refine ⟨g, 0, rfl, ⟨fun i v hv => ?_⟩⟩
  have hi : i < 15 := (List.getElem?_eq_some_iff.1 hv).1
  rw [Nat.zero_add, World.ownsRow.cellAt h (j * 15 + i) (by omega)]
  exact hFlat_at L j i x v hx hv
theorem hRow.keep {S : Nat → Prop} {a w : World} {H : Nat} {v : Value} {L : List HOp} (h : hRow a H v L) (hk : Keep S a w) (hn : ∀ k, H ≤ k → k < a.heap.size → ¬ S k) : hRow w H v L := by
  refine ⟨h.1, ?_⟩
  rcases h.2 with q | ⟨g, cap, cur, rfl, h1, h2, h3⟩
  · exact .inl q
  · have hg := (Array.getElem?_eq_some_iff.1 h2).1
    exact .inr ⟨g, cap, cur, rfl, h1, by rw [hk.block g hg (hn g h1 hg)]; exact h2, h3⟩
theorem hRow.below {a w : World} {H : Nat} {v : Value} {L : List HOp} (h : hRow a H v L) (hb : Below a.heap.size a w) : hRow w H v L := h.keep (Keep.of_below hb fun _ q _ => q : Keep (fun _ => False) a w) fun _ _ _ => id
theorem hRow.there {w : World} {H g n c : Nat} {L : List HOp} (h : hRow w H (.slice (some ⟨g, 0, none⟩) n c) L) (hn : n = L.length) (j : Nat) : w.frozen? ⟨g, j, none⟩ = false := by
  unfold hRow at h
  subst hn
  exact World.ownsRow.frozenAt h j
theorem hRow.store {w : World} {H g n c : Nat} {L : List HOp} (h : hRow w H (.slice (some ⟨g, 0, none⟩) n c) L) (hn : n = L.length) {j i : Nat} {x y : HOp} {v : Value} (hx : L[j]? = some x) (hi : i < 15) (hv : y.cells.toList = x.cells.toList.set i v) : hRow (w.setCell ⟨g, j * 15 + i, none⟩ v) H (.slice (some ⟨g, 0, none⟩) n c) (L.set j y) := by
  unfold hRow at *
  subst hn
  have := (World.ownsRow.stored h (j * 15 + i) v).1
  rw [hFlat_set L j i x y v hx hi hv] at this
  rw [List.length_set]
  exact this
theorem hRow.snoc {w : World} {H n : Nat} {v : Value} {L : List HOp} {x : HOp} (hn : L.length + 1 = n) (h : w.ownsRow H 33 15 v n (hFlat L ++ x.cells.toList)) : hRow w H v (L ++ [x]) := by
  unfold hRow
  rw [hFlat_append, List.length_append, List.length_singleton, hn]
  have : hFlat [x] = x.cells.toList := by rw [hFlat_cons]; exact List.append_nil _
  rw [this]; exact h
theorem hCells_one (x : HOp) : ∀ u ∈ x.cells.toList, u.oneCell' = true := by
  intro u hu
  simp [HOp.cells] at hu
  rcases hu with rfl | rfl | rfl | rfl | rfl | rfl | rfl | rfl | rfl | rfl | rfl | rfl | rfl | rfl | rfl <;> rfl
end Go.Pin
namespace Go.Proofs.YtnilfjkodlmenaaDoor
open Go.RowKit Go.Pin
theorem op_info : (Tryd.prog.info? 33).map (fun i => (i.zero, i.size, i.bytes)) = some (some (.agg (HOp.cells ⟨En.zero, 0, 0, 0, ⟨#[]⟩⟩)), 15, 144) := by kernel_rfl
end Go.Proofs.YtnilfjkodlmenaaDoor
