/- An entry by its parts, in memory. -/
import Derived.Test.YthlmigbimeldbaaSecS
set_option maxRecDepth 16000
namespace Go.Pin
open Go.RowKit
set_option linter.unusedVariables false
set_option linter.unusedSimpArgs false
abbrev En.mcells (e : En) (own : Bool) : Array Value := #[.int .u64 e.term, .int .u64 e.index, .int .i64 e.kind, .int .u64 e.client, .int .u64 e.seq, .int .u64 e.block, .int .u64 e.many, .int .i64 e.node, .int .i64 e.level, .string e.data, .string e.old, .bool own]
structure MadeAt (w : World) (M : Nat) (e : En) (own : Bool) : Prop where
  en : EnAt w M 0 e
  ow : w.cell? ⟨M, 11, none⟩ = some (.bool own)
  fr : ∀ j, w.frozen? ⟨M, j, none⟩ = false
theorem MadeAt.lt {w : World} {M : Nat} {e : En} {own : Bool} (h : MadeAt w M e own) : M < w.heap.size := World.block_lt_of_cell? _ _ h.ow
theorem MadeAt.keep {S : Nat → Prop} {a w : World} {M : Nat} {e : En} {own : Bool} (h : MadeAt a M e own) (hk : Keep S a w) (hn : ¬ S M) : MadeAt w M e own :=
  ⟨h.en.keep hk hn, hk.cell h.ow hn, fun j => (hk.frozen_at (q := ⟨M, j, none⟩) h.ow rfl hn).trans (h.fr j)⟩
theorem MadeAt.new (w : World) (e : En) (own : Bool) (T : TypeId) : MadeAt (w.alloc (.cells (e.mcells own) T)) w.heap.size e own := ⟨by constructor <;> simp, by simp, fun j => by simp⟩
theorem MadeAt.setOwn {w : World} {M : Nat} {e : En} {own : Bool} (h : MadeAt w M e own) (b : Bool) : MadeAt (w.setCell ⟨M, 11, none⟩ (.bool b)) M e b :=
  ⟨EnAt.of_cells fun i hi u hu => by rw [World.cell?_setCell_other _ _ _ _ (by simp <;> omega)]; exact h.en.cell i hi u hu, World.cell?_setCell_same _ _ _ h.ow, fun j => by rw [World.frozen?_setCell]; exact h.fr j⟩
theorem MadeAt.cells {w : World} {M : Nat} {e : En} {own : Bool} (h : MadeAt w M e own) : w.cell? ⟨M, 0, none⟩ = some (.int .u64 e.term) ∧ w.cell? ⟨M, 1, none⟩ = some (.int .u64 e.index) ∧ w.cell? ⟨M, 2, none⟩ = some (.int .i64 e.kind) ∧ w.cell? ⟨M, 3, none⟩ = some (.int .u64 e.client) ∧ w.cell? ⟨M, 4, none⟩ = some (.int .u64 e.seq) ∧ w.cell? ⟨M, 5, none⟩ = some (.int .u64 e.block) ∧ w.cell? ⟨M, 6, none⟩ = some (.int .u64 e.many) ∧ w.cell? ⟨M, 7, none⟩ = some (.int .i64 e.node) ∧ w.cell? ⟨M, 8, none⟩ = some (.int .i64 e.level) ∧ w.cell? ⟨M, 9, none⟩ = some (.string e.data) ∧ w.cell? ⟨M, 10, none⟩ = some (.string e.old) ∧ w.cell? ⟨M, 11, none⟩ = some (.bool own) := by
  obtain ⟨c0, c1, c2, c3, c4, c5, c6, c7, c8, c9, c10⟩ := h.en
  simp only [Nat.zero_add] at c1 c2 c3 c4 c5 c6 c7 c8 c9 c10
  exact ⟨c0, c1, c2, c3, c4, c5, c6, c7, c8, c9, c10, h.ow⟩
/-- An entry in memory, that may be written. -/
structure EnW (w : World) (R : Nat) (e : En) : Prop where
  en : EnAt w R 0 e
  fr : ∀ j, w.frozen? ⟨R, j, none⟩ = false
theorem EnW.keep {S : Nat → Prop} {a w : World} {R : Nat} {e : En} (h : EnW a R e) (hk : Keep S a w) (hn : ¬ S R) : EnW w R e :=
  ⟨h.en.keep hk hn, fun j => (hk.frozen_at (q := ⟨R, j, none⟩) h.en.c0 rfl hn).trans (h.fr j)⟩
theorem EnW.new (w : World) (T : TypeId) (e : En) : EnW (w.alloc (.cells e.cells T)) w.heap.size e := ⟨EnAt.new w T e, fun j => by simp⟩
theorem EnW.lt {w : World} {R : Nat} {e : En} (h : EnW w R e) : R < w.heap.size := World.block_lt_of_cell? _ _ h.en.c0
theorem EnW.set {w : World} {R : Nat} {e e' : En} (h : EnW w R e) (i : Nat) (hi : i < 11) (v : Value) (he : e'.cells.toList = e.cells.toList.set i v) : EnW (w.setCell ⟨R, i, none⟩ v) R e' := by
  have := h.en.set i hi v he
  rw [Nat.zero_add] at this
  exact ⟨this, fun j => by rw [World.frozen?_setCell]; exact h.fr j⟩
theorem EnW.cells {w : World} {M : Nat} {e : En} (h : EnW w M e) : w.cell? ⟨M, 0, none⟩ = some (.int .u64 e.term) ∧ w.cell? ⟨M, 1, none⟩ = some (.int .u64 e.index) ∧ w.cell? ⟨M, 2, none⟩ = some (.int .i64 e.kind) ∧ w.cell? ⟨M, 3, none⟩ = some (.int .u64 e.client) ∧ w.cell? ⟨M, 4, none⟩ = some (.int .u64 e.seq) ∧ w.cell? ⟨M, 5, none⟩ = some (.int .u64 e.block) ∧ w.cell? ⟨M, 6, none⟩ = some (.int .u64 e.many) ∧ w.cell? ⟨M, 7, none⟩ = some (.int .i64 e.node) ∧ w.cell? ⟨M, 8, none⟩ = some (.int .i64 e.level) ∧ w.cell? ⟨M, 9, none⟩ = some (.string e.data) ∧ w.cell? ⟨M, 10, none⟩ = some (.string e.old) := by
  obtain ⟨c0, c1, c2, c3, c4, c5, c6, c7, c8, c9, c10⟩ := h.en
  simp only [Nat.zero_add] at c1 c2 c3 c4 c5 c6 c7 c8 c9 c10
  exact ⟨c0, c1, c2, c3, c4, c5, c6, c7, c8, c9, c10⟩
theorem own_right' (e : En) (he : e.ok) : e.own.right = true ∧ e.own.ok := by
  have hk := enKind_in e.kind
  have h1 : 0 ≤ e.client % 5 + 1 ∧ e.client % 5 + 1 ≤ 10 := by have := he.client; omega
  have h2 : 0 ≤ e.block % 9 ∧ e.block % 9 ≤ 10 := by omega
  have h3 : 0 ≤ e.many % 9 ∧ e.many % 9 ≤ 10 := by omega
  have h4 : 1 ≤ e.node % 18446744073709551616 % 7 + 1 ∧ e.node % 18446744073709551616 % 7 + 1 ≤ 7 := by omega
  have h5 : 1 ≤ e.level % 18446744073709551616 % 2 + 1 ∧ e.level % 18446744073709551616 % 2 + 1 ≤ 2 := by omega
  have h6 := cut64_le e.data
  have h7 := cut64_le e.old
  have h8 : 0 ≤ e.seq % 9 ∧ e.seq % 9 ≤ 10 := by omega
  have h9 : 0 < e.term % 1000 + 1 ∧ e.term % 1000 + 1 ≤ 1000 := by omega
  have h10 : 0 < e.index % 1000 + 1 ∧ e.index % 1000 + 1 ≤ 1000 := by omega
  have hpos : 0 < e.own.index ∧ 0 < e.own.term ∧ e.own.ok := by
    generalize hS : e.seq % 9 = S at *
    generalize hT : e.term % 1000 + 1 = T at *
    generalize hI : e.index % 1000 + 1 = I at *
    generalize hC : e.client % 5 + 1 = C at *
    generalize hB : e.block % 9 = B at *
    generalize hM : e.many % 9 = M at *
    generalize hN : e.node % 18446744073709551616 % 7 + 1 = N at *
    generalize hL : e.level % 18446744073709551616 % 2 + 1 = L at *
    generalize hD : cut64 e.data = D at *
    generalize hO : cut64 e.old = O at *
    have hc : enKind e.kind = 0 ∨ enKind e.kind = 1 ∨ enKind e.kind = 2 ∨ enKind e.kind = 3 ∨ enKind e.kind = 4 ∨ enKind e.kind = 5 ∨ enKind e.kind = 6 ∨ enKind e.kind = 7 ∨ enKind e.kind = 8 ∨ enKind e.kind = 9 ∨ enKind e.kind = 10 ∨ enKind e.kind = 11 := by omega
    unfold En.own enStart
    rcases hc with q | q | q | q | q | q | q | q | q | q | q | q <;> rw [q] <;> simp [enF, enPut, En.zero, hC, hB, hM, hN, hL, hD, hO, hS, hT, hI]
    all_goals refine ⟨h10.1, h9.1, ?_⟩
    all_goals (constructor <;> (try (constructor <;> (dsimp only; omega))) <;> (dsimp only; first | omega | exact Nat.zero_le _))
  exact ⟨En.own_right e he e.own.index e.own.term hpos.1 hpos.2.1, hpos.2.2⟩
end Go.Pin
