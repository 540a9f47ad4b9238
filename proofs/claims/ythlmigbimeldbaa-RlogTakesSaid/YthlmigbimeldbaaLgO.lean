/- Entries in a row of the call's own. -/
import Derived.Test.YthlmigbimeldbaaLgR
set_option maxRecDepth 16000
namespace Go.Pin
open Go.RowKit
set_option linter.unusedVariables false
set_option linter.unusedSimpArgs false
def enCells (L : List En) : List Value := L.flatMap fun e => e.cells.toList
theorem enCells_len (L : List En) : (enCells L).length = L.length * 11 := by
  induction L with
  | nil => rfl
  | cons e L ih =>
    have : enCells (e :: L) = e.cells.toList ++ enCells L := rfl
    rw [this, List.length_append, ih]; simp; omega
theorem enCells_app (L M : List En) : enCells (L ++ M) = enCells L ++ enCells M := by simp [enCells]
theorem enCells_get : ∀ (L : List En) (j : Nat) (e : En) (i : Nat), L[j]? = some e → i < 11 → (enCells L)[j * 11 + i]? = e.cells.toList[i]?
  | [], j, e, i, h, _ => by simp at h
  | x :: L, 0, e, i, h, hi => by
    simp at h; subst h
    show (x.cells.toList ++ enCells L)[0 * 11 + i]? = _
    rw [List.getElem?_append_left (by simp; omega)]; simp
  | x :: L, j + 1, e, i, h, hi => by
    show (x.cells.toList ++ enCells L)[(j + 1) * 11 + i]? = _
    rw [List.getElem?_append_right (by simp; omega)]
    have := enCells_get L j e i (by simpa using h) hi
    rw [← this]
    congr 1
    simp; omega
theorem enCells_one (L : List En) : ∀ u ∈ enCells L, u.oneCell' = true := by
  intro u hu
  unfold enCells at hu
  rw [List.mem_flatMap] at hu
  obtain ⟨e, _, h⟩ := hu
  simp at h
  rcases h with rfl | rfl | rfl | rfl | rfl | rfl | rfl | rfl | rfl | rfl | rfl <;> rfl
theorem EnAt.cell {w : World} {A o : Nat} {e : En} (h : EnAt w A o e) (i : Nat) (hi : i < 11) (v : Value) (hv : e.cells.toList[i]? = some v) : w.cell? ⟨A, o + i, none⟩ = some v := by
  have hc : i = 0 ∨ i = 1 ∨ i = 2 ∨ i = 3 ∨ i = 4 ∨ i = 5 ∨ i = 6 ∨ i = 7 ∨ i = 8 ∨ i = 9 ∨ i = 10 := by omega
  rcases hc with rfl | rfl | rfl | rfl | rfl | rfl | rfl | rfl | rfl | rfl | rfl <;> (simp at hv; subst hv)
  · exact h.c0
  · exact h.c1
  · exact h.c2
  · exact h.c3
  · exact h.c4
  · exact h.c5
  · exact h.c6
  · exact h.c7
  · exact h.c8
  · exact h.c9
  · exact h.c10
theorem EntsAt.news {w : World} {ad : Addr} {n : Nat} {L : List En} (h : EntsAt w (some ad) n L) (j : Nat) (u : Value) (hu : (enCells L)[j]? = some u) : w.cell? (ad.add j) = some u := by
  have hj : j < L.length * 11 := by rw [← enCells_len]; exact (List.getElem?_eq_some_iff.1 hu).1
  have hq : j / 11 < L.length := by omega
  obtain ⟨A, o, q, hE⟩ := h.at' (j / 11) _ (List.getElem?_eq_getElem hq)
  cases q
  have h1 := enCells_get L (j / 11) _ (j % 11) (List.getElem?_eq_getElem hq) (Nat.mod_lt _ (by omega))
  rw [show j / 11 * 11 + j % 11 = j by omega, hu] at h1
  have h2 := hE.cell (j % 11) (Nat.mod_lt _ (by omega)) u h1.symm
  rw [show o + j / 11 * 11 + j % 11 = o + j by omega] at h2
  have e : (⟨A, o, none⟩ : Addr).add j = ⟨A, o + j, none⟩ := by unfold Addr.add; split <;> simp_all
  rw [e]; exact h2
theorem EntsAt.take {w : World} {p : Option Addr} {n : Nat} {L : List En} (h : EntsAt w p n L) (k : Nat) (hk : k ≤ n) : EntsAt w p k (L.take k) :=
  ⟨by rw [List.length_take, h.len]; omega, fun j e he => by
    rw [List.getElem?_take] at he
    split at he
    · exact h.at' j e he
    · cases he⟩
theorem EntsAt.drop {w : World} {A o n : Nat} {L : List En} (h : EntsAt w (some ⟨A, o, none⟩) n L) (k : Nat) : EntsAt w (some ⟨A, o + k * 11, none⟩) (n - k) (L.drop k) :=
  ⟨by rw [List.length_drop, h.len], fun j e he => by
    rw [List.getElem?_drop] at he
    obtain ⟨A', o', q, hE⟩ := h.at' (k + j) e he
    cases q
    exact ⟨A, o + k * 11, rfl, by rw [show o + k * 11 + j * 11 = o + (k + j) * 11 by omega]; exact hE⟩⟩
/-- The row of a call's own holds these entries. -/
abbrev OwnE (w : World) (base : Nat) (T : TypeId) (v : Value) (L : List En) : Prop := w.ownsRow base T 11 v L.length (enCells L)
theorem OwnE.open {w : World} {base : Nat} {T : TypeId} {v : Value} {L : List En} (h : OwnE w base T v L) : ∃ p c, v = .slice p L.length c ∧ EntsAt w p L.length L ∧ (∀ A o, p = some ⟨A, o, none⟩ → base ≤ A ∧ o = 0) ∧ L.length ≤ c := by
  obtain ⟨h1, h2⟩ := h
  rcases h2 with ⟨h2, h3⟩ | ⟨g, cap, cur, rfl, hb, hg, hn, hc, hs, ht⟩
  · have hl : L = [] := List.eq_nil_of_length_eq_zero h3
    subst hl
    exact ⟨none, 0, h2, EntsAt.nil _ _, fun A o q => (by cases q), Nat.le_refl _⟩
  · refine ⟨_, cap, rfl, ⟨rfl, fun j e he => ⟨g, 0, rfl, ?_⟩⟩, fun A o q => (by cases q; exact ⟨hb, rfl⟩), hn⟩
    have hj : j < L.length := (List.getElem?_eq_some_iff.1 he).1
    have key : ∀ i, i < 11 → ∀ v, e.cells.toList[i]? = some v → w.cell? ⟨g, 0 + j * 11 + i, none⟩ = some v := by
      intro i hi v hv
      rw [cell_of_row w g _ cur T (0, 0) hg]
      have h4 := enCells_get L j e i he hi
      rw [← ht, hv, List.getElem?_take] at h4
      rw [if_pos (by omega)] at h4
      simpa using h4
    constructor
    · exact key 0 (by omega) _ rfl
    · exact key 1 (by omega) _ rfl
    · exact key 2 (by omega) _ rfl
    · exact key 3 (by omega) _ rfl
    · exact key 4 (by omega) _ rfl
    · exact key 5 (by omega) _ rfl
    · exact key 6 (by omega) _ rfl
    · exact key 7 (by omega) _ rfl
    · exact key 8 (by omega) _ rfl
    · exact key 9 (by omega) _ rfl
    · exact key 10 (by omega) _ rfl
theorem OwnE.ents {w : World} {base n c : Nat} {T : TypeId} {p : Option Addr} {L : List En} (h : OwnE w base T (.slice p n c) L) : EntsAt w p n L ∧ n ≤ c ∧ ∀ A o, p = some ⟨A, o, none⟩ → base ≤ A := by
  obtain ⟨p', c', q, hE, hA, hc⟩ := OwnE.open h
  simp only [Value.slice.injEq] at q
  obtain ⟨rfl, rfl, rfl⟩ := q
  exact ⟨hE, hc, fun A o q => (hA A o q).1⟩
theorem ownE_keep {S : Nat → Prop} {a w : World} {N T : Nat} {v : Value} {L : List En} (h : OwnE a N T v L) (hk : Keep S a w) (hn : ∀ g, v.ownBlock = some g → ¬ S g) : OwnE w N T v L := by
  refine ⟨h.1, ?_⟩
  rcases h.2 with h2 | ⟨g, cap, cur, hv, hb, hg, hr⟩
  · exact .inl h2
  · refine .inr ⟨g, cap, cur, hv, hb, ?_, hr⟩
    rw [hk.block g (Array.getElem?_eq_some_iff.1 hg).1 (hn g (by rw [hv]; rfl))]; exact hg
theorem Keep.frozen_at {S : Nat → Prop} {a b : World} (h : Keep S a b) {p q : Addr} {v : Value} (hc : a.cell? p = some v) (hq : q.block = p.block) (hn : ¬ S q.block) : b.frozen? q = a.frozen? q :=
  h.frozen (by rw [hq]; exact World.block_lt_of_cell? _ _ hc) hn
theorem below_drew {B : Nat} {a b : World} (h : Below B a b) : Below B a b.drew := ⟨h.os, h.tape, h.output, h.size, h.block⟩
theorem ownE_le {w : World} {N N' T : Nat} {v : Value} {L : List En} (h : OwnE w N T v L) (hN : N' ≤ N) : OwnE w N' T v L :=
  ⟨h.1, h.2.imp id fun ⟨g, cap, cur, hv, hb, hr⟩ => ⟨g, cap, cur, hv, Nat.le_trans hN hb, hr⟩⟩
theorem ownE_nil (w : World) (N T : Nat) : OwnE w N T (.slice none 0 0) [] := ⟨rfl, .inl ⟨rfl, rfl⟩⟩
theorem ownE_snoc {w : World} {N T g cap : Nat} {L : List En} {e : En} (h : w.ownsRow N T 11 (.slice (some ⟨g, 0, none⟩) (L.length + 1) cap) (L.length + 1) (enCells L ++ e.cells.toList)) : OwnE w N T (.slice (some ⟨g, 0, none⟩) (L.length + 1) cap) (L ++ [e]) := by
  unfold OwnE
  rw [List.length_append, enCells_app]
  exact h
end Go.Pin
