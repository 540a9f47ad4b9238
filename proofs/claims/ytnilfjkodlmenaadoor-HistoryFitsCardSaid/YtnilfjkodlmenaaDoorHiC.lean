/- history: rows of texts of the call's own; Clone. -/
import Derived.Test.YtnilfjkodlmenaaDoorHiB
set_option maxRecDepth 16000
namespace Go.Pin
open Go.RowKit
set_option linter.unusedVariables false
set_option linter.unusedSimpArgs false
theorem keep_grownBy {w w' : World} {r : Option Nat} (h : w.grownBy w' r) : Keep (fun k => r = some k) w w' := ⟨h.os, h.tape, h.output, h.size, fun k hk hn => h.block k hk fun e => hn e.symm⟩
/-- A slice of texts that is the call's own. -/
def hOwn (w : World) (H : Nat) (v : Value) (B : List ByteArray) : Prop := w.ownsRow H 9 1 v B.length (B.map Value.string)
theorem hOwn.slice {w : World} {H : Nat} {v : Value} {B : List ByteArray} (h : hOwn w H v B) : ∃ p c, v = .slice p B.length c := by
  rcases h.2 with ⟨rfl, q⟩ | ⟨g, cap, cur, rfl, _⟩
  · exact ⟨none, 0, by rw [q]⟩
  · exact ⟨_, _, rfl⟩
theorem hOwn.form {w : World} {H : Nat} {p : Option Addr} {n c : Nat} {B : List ByteArray} (h : hOwn w H (.slice p n c) B) (hn : 0 < B.length) : ∃ g, p = some ⟨g, 0, none⟩ ∧ n = B.length ∧ H ≤ g ∧ g < w.heap.size := by
  obtain ⟨g, cap, q, h1, h2⟩ := World.ownsRow.form h hn
  injection q with q1 q2 q3
  exact ⟨g, q1, q2, h1, h2⟩
theorem hOwn.fresh {w : World} {H : Nat} {v : Value} {B : List ByteArray} (h : hOwn w H v B) : ∀ p n c, v = .slice p n c → ∀ b o, p = some ⟨b, o, none⟩ → H ≤ b := by
  rintro p n c rfl b o rfl
  exact (World.ownsRow.lt h b rfl).1
theorem hOwn.blk {w : World} {H : Nat} {v : Value} {B : List ByteArray} (h : hOwn w H v B) : BlkAt w v B := by
  rcases h.2 with ⟨rfl, q⟩ | ⟨g, cap, cur, rfl, h1, h2, h3, _⟩
  · exact ⟨.inl ⟨rfl, List.eq_nil_of_length_eq_zero q⟩⟩
  · refine ⟨.inr ⟨g, 0, cap, rfl, h3, (Array.getElem?_eq_some_iff.1 h2).1, fun j x hx => ?_⟩⟩
    have hj : j < B.length := (List.getElem?_eq_some_iff.1 hx).1
    have := World.ownsRow.cellAt h j (by omega)
    rw [Nat.zero_add, this, List.getElem?_map, hx]
    rfl
theorem hOwn.keep {S : Nat → Prop} {a w : World} {H : Nat} {v : Value} {B : List ByteArray} (h : hOwn a H v B) (hk : Keep S a w) (hn : ∀ k, v.ownBlock = some k → ¬ S k) : hOwn w H v B := by
  refine ⟨h.1, ?_⟩
  rcases h.2 with q | ⟨g, cap, cur, rfl, h1, h2, h3⟩
  · exact .inl q
  · exact .inr ⟨g, cap, cur, rfl, h1, by rw [hk.block g (Array.getElem?_eq_some_iff.1 h2).1 (hn g rfl)]; exact h2, h3⟩
theorem hOwn.keep' {S : Nat → Prop} {a w : World} {H : Nat} {v : Value} {B : List ByteArray} (h : hOwn a H v B) (hk : Keep S a w) (hn : ∀ k, H ≤ k → ¬ S k) : hOwn w H v B :=
  h.keep hk fun k q => hn k (World.ownsRow.lt h k q).1
theorem hOwn.store {w : World} {H g n c : Nat} {B : List ByteArray} (h : hOwn w H (.slice (some ⟨g, 0, none⟩) n c) B) (hn : n = B.length) (j : Nat) (x : ByteArray) : hOwn (w.setCell ⟨g, j, none⟩ (.string x)) H (.slice (some ⟨g, 0, none⟩) n c) (B.set j x) := by
  unfold hOwn at *
  subst hn
  have := (World.ownsRow.stored h j (.string x)).1
  rw [List.length_set, List.map_set]
  exact this
theorem hOwn.cell {w : World} {H g n c : Nat} {B : List ByteArray} (h : hOwn w H (.slice (some ⟨g, 0, none⟩) n c) B) (hn : n = B.length) (j : Nat) (hj : j < B.length) : w.cell? ⟨g, j, none⟩ = some (.string B[j]) ∧ w.frozen? ⟨g, j, none⟩ = false := by
  unfold hOwn at h
  subst hn
  refine ⟨?_, World.ownsRow.frozenAt h j⟩
  rw [World.ownsRow.cellAt h j (by omega), List.getElem?_map, List.getElem?_eq_getElem hj]
  rfl
end Go.Pin
namespace Go.Proofs.YtnilfjkodlmenaaDoor
open Go.RowKit Go.Pin
set_option linter.unusedVariables false
set_option linter.unusedSimpArgs false
theorem hi_clone (B : List ByteArray) (hB : B.length ≤ 128) (v : Value) (w : World) (hV : BlkAt w v B) :
    Calls Tryd.prog 32 #[v] w fun e w' => ∃ v', e = .returned v' ∧ hOwn w' w.heap.size v' B ∧ Below w.heap.size w w' := by
  rcases hV.of with ⟨rfl, rfl⟩ | ⟨b, o, c, rfl, h2, h3, h4⟩
  · refine (YtnilfjkodlmenaaDoorSh.slices_Clone_string_nil 0 0 w).mono ?_
    rintro e w' ⟨rfl, rfl⟩
    exact ⟨_, rfl, World.ownsRow_nil _ _ _ _, Below.refl _ _⟩
  · refine (YtnilfjkodlmenaaDoorSh.slices_Clone_string b o B.length c B w (Nat.le_refl _) (by omega) (fun j hj => h4 j _ (by rw [List.getD, List.getElem?_eq_getElem hj]; rfl))).mono ?_
    rintro e w' ⟨v', rfl, ho, _, hb⟩
    rw [List.take_length] at ho
    exact ⟨_, rfl, ho, hb⟩
end Go.Proofs.YtnilfjkodlmenaaDoor
