/- pintlelaw06: made. -/
import Derived.Test.YthlmigbimeldbaaMkM
import Derived.OpenShut
set_option maxRecDepth 16000
namespace Go.Pin
open Go.RowKit
set_option linter.unusedVariables false
set_option linter.unusedSimpArgs false
theorem EnAt.cell {w : World} {A o : Nat} {e : En} (h : EnAt w A o e) (i : Nat) (hi : i < 11) (v : Value) (hv : e.cells.toList[i]? = some v) : w.cell? ⟨A, o + i, none⟩ = some v := by
  have hc : i = 0 ∨ i = 1 ∨ i = 2 ∨ i = 3 ∨ i = 4 ∨ i = 5 ∨ i = 6 ∨ i = 7 ∨ i = 8 ∨ i = 9 ∨ i = 10 := by omega
  rcases hc with rfl | rfl | rfl | rfl | rfl | rfl | rfl | rfl | rfl | rfl | rfl <;> (simp at hv; subst hv)
  · exact h.c0
  · exact h.c1
  · exact h.c2
  · exact h.c3
  · exact h.c4
  · exact h.c5
  · exact h.c6
  · exact h.c7
  · exact h.c8
  · exact h.c9
  · exact h.c10
theorem EnAt.of_cells {w : World} {A o : Nat} {e : En} (h : ∀ i, i < 11 → ∀ v, e.cells.toList[i]? = some v → w.cell? ⟨A, o + i, none⟩ = some v) : EnAt w A o e :=
  ⟨h 0 (by omega) _ rfl, h 1 (by omega) _ rfl, h 2 (by omega) _ rfl, h 3 (by omega) _ rfl, h 4 (by omega) _ rfl, h 5 (by omega) _ rfl, h 6 (by omega) _ rfl, h 7 (by omega) _ rfl, h 8 (by omega) _ rfl, h 9 (by omega) _ rfl, h 10 (by omega) _ rfl⟩
theorem EnAt.set {w : World} {A o : Nat} {e e' : En} (h : EnAt w A o e) (i : Nat) (hi : i < 11) (v : Value) (he : e'.cells.toList = e.cells.toList.set i v) : EnAt (w.setCell ⟨A, o + i, none⟩ v) A o e' := by
  refine EnAt.of_cells fun j hj u hu => ?_
  rw [he, List.getElem?_set] at hu
  have h0 : e.cells.toList.length = 11 := rfl
  by_cases q : i = j
  · subst q
    rw [if_pos rfl, if_pos (by omega)] at hu
    cases hu
    obtain ⟨x, hx⟩ : ∃ x, e.cells.toList[i]? = some x := ⟨_, List.getElem?_eq_getElem (by omega)⟩
    exact World.cell?_setCell_same _ _ _ (h.cell i hi x hx)
  · rw [if_neg q] at hu
    rw [World.cell?_setCell_other _ _ _ _ (by intro q2; simp at q2; done)]
    exact h.cell j hj u hu
theorem Keep.frozen_at {S : Nat → Prop} {a b : World} (h : Keep S a b) {p q : Addr} {v : Value} (hc : a.cell? p = some v) (hq : q.block = p.block) (hn : ¬ S q.block) : b.frozen? q = a.frozen? q :=
  h.frozen (by rw [hq]; exact World.block_lt_of_cell? _ _ hc) hn
/-- A row of an entry that may be written. -/
def RowOk (w : World) (A : Nat) : Prop := ∀ j, j < 11 → (∃ v, w.cell? ⟨A, j, none⟩ = some v) ∧ w.frozen? ⟨A, j, none⟩ = false
theorem RowOk.keep {S : Nat → Prop} {a w : World} {A : Nat} (h : RowOk a A) (hk : Keep S a w) (hn : ¬ S A) : RowOk w A := fun j hj => by
  obtain ⟨⟨v, hv⟩, hf⟩ := h j hj
  exact ⟨⟨v, hk.cell hv hn⟩, (hk.frozen_at (q := ⟨A, j, none⟩) hv rfl hn).trans hf⟩
theorem RowOk.setCell {w : World} {A : Nat} (h : RowOk w A) (p : Addr) (u : Value) : RowOk (w.setCell p u) A := fun j hj => by
  obtain ⟨⟨v, hv⟩, hf⟩ := h j hj
  refine ⟨?_, by simpa using hf⟩
  by_cases q : p = ⟨A, j, none⟩
  · subst q; exact ⟨u, World.cell?_setCell_same _ _ _ hv⟩
  · exact ⟨v, by rw [World.cell?_setCell_other _ _ _ _ q]; exact hv⟩
theorem RowOk.new (w : World) (T : TypeId) (e : En) : RowOk (w.alloc (.cells e.cells T)) w.heap.size := fun j hj => by
  have h := EnAt.new w T e
  obtain ⟨x, hx⟩ : ∃ x, e.cells.toList[j]? = some x := ⟨_, List.getElem?_eq_getElem (by show j < 11; exact hj)⟩
  refine ⟨⟨x, ?_⟩, by simp⟩
  have := h.cell j hj x hx
  rwa [Nat.zero_add] at this
end Go.Pin
namespace Go.Proofs.Ythlmigbimeldbaa
open Go.RowKit Go.Pin
set_option linter.unusedVariables false
set_option linter.unusedSimpArgs false
set_option maxHeartbeats 3200000 in
theorem mk_made_no (e : En) (w : World) : Calls Try.prog 31 #[.agg #[.int .u64 e.term, .int .u64 e.index, .int .i64 e.kind, .int .u64 e.client, .int .u64 e.seq, .int .u64 e.block, .int .u64 e.many, .int .i64 e.node, .int .i64 e.level, .string e.data, .string e.old, .bool false]] w fun x w' => x = .returned (.agg e.cells) ∧ Below w.heap.size w w' := by
  have hE : EnAt (w.alloc (.cells #[.int .u64 e.term, .int .u64 e.index, .int .i64 e.kind, .int .u64 e.client, .int .u64 e.seq, .int .u64 e.block, .int .u64 e.many, .int .i64 e.node, .int .i64 e.level, .string e.data, .string e.old, .bool false] 56)) w.heap.size 0 e := by constructor <;> exact World.cell?_alloc_new w _ _ _
  have hO : (w.alloc (.cells #[.int .u64 e.term, .int .u64 e.index, .int .i64 e.kind, .int .u64 e.client, .int .u64 e.seq, .int .u64 e.block, .int .u64 e.many, .int .i64 e.node, .int .i64 e.level, .string e.data, .string e.old, .bool false] 56)).cell? ⟨w.heap.size, 11, none⟩ = some (.bool false) := World.cell?_alloc_new w _ _ _
  have hk := (Keep.refl (fun _ => False) w).alloc (.cells #[.int .u64 e.term, .int .u64 e.index, .int .i64 e.kind, .int .u64 e.client, .int .u64 e.seq, .int .u64 e.block, .int .u64 e.many, .int .i64 e.node, .int .i64 e.level, .string e.data, .string e.old, .bool false] 56)
  have hk2 := (Keep.refl (fun _ => False) (w.alloc (.cells #[.int .u64 e.term, .int .u64 e.index, .int .i64 e.kind, .int .u64 e.client, .int .u64 e.seq, .int .u64 e.block, .int .u64 e.many, .int .i64 e.node, .int .i64 e.level, .string e.data, .string e.old, .bool false] 56))).alloc (.cells #[.int .u64 0, .int .u64 0, .int .i64 0, .int .u64 0, .int .u64 0, .int .u64 0, .int .u64 0, .int .i64 0, .int .i64 0, .string ⟨#[]⟩, .string ⟨#[]⟩] 32)
  have hR : RowOk ((w.alloc (.cells #[.int .u64 e.term, .int .u64 e.index, .int .i64 e.kind, .int .u64 e.client, .int .u64 e.seq, .int .u64 e.block, .int .u64 e.many, .int .i64 e.node, .int .i64 e.level, .string e.data, .string e.old, .bool false] 56)).alloc (.cells #[.int .u64 0, .int .u64 0, .int .i64 0, .int .u64 0, .int .u64 0, .int .u64 0, .int .u64 0, .int .i64 0, .int .i64 0, .string ⟨#[]⟩, .string ⟨#[]⟩] 32)) (w.heap.size + 1) := by
    have := RowOk.new (w.alloc (.cells #[.int .u64 e.term, .int .u64 e.index, .int .i64 e.kind, .int .u64 e.client, .int .u64 e.seq, .int .u64 e.block, .int .u64 e.many, .int .i64 e.node, .int .i64 e.level, .string e.data, .string e.old, .bool false] 56)) 32 En.zero
    rw [show (w.alloc (.cells #[.int .u64 e.term, .int .u64 e.index, .int .i64 e.kind, .int .u64 e.client, .int .u64 e.seq, .int .u64 e.block, .int .u64 e.many, .int .i64 e.node, .int .i64 e.level, .string e.data, .string e.old, .bool false] 56)).heap.size = w.heap.size + 1 by simp] at this
    exact this
  have hb := (hk.trans hk2).below (Nat.le_refl _) fun _ q => q.elim
  replace hE := hE.keep hk2 id
  replace hO := hk2.cell hO id
  clear hk hk2
  obtain ⟨term, index, kind, client, seq, block, many, node, level, data, old⟩ := e
  dsimp only [En.cells] at *
  go_enter Try.func31, Try.ntmps31
  go_upto_region 1 with fail
  generalize World.alloc (World.alloc _ _) _ = wa at *
  generalize hB : w.heap.size = B at *
  have hk4 := ((((((((((((Keep.refl (fun b => b = B + 1) wa).setCell (p := ⟨B + 1, 0, none⟩) (.inl rfl) (.int .u64 term)).setCell (p := ⟨B + 1, 1, none⟩) (.inl rfl) (.int .u64 index)).setCell (p := ⟨B + 1, 2, none⟩) (.inl rfl) (.int .i64 kind)).setCell (p := ⟨B + 1, 3, none⟩) (.inl rfl) (.int .u64 client)).setCell (p := ⟨B + 1, 4, none⟩) (.inl rfl) (.int .u64 seq)).setCell (p := ⟨B + 1, 5, none⟩) (.inl rfl) (.int .u64 block)).setCell (p := ⟨B + 1, 6, none⟩) (.inl rfl) (.int .u64 many)).setCell (p := ⟨B + 1, 7, none⟩) (.inl rfl) (.int .i64 node)).setCell (p := ⟨B + 1, 8, none⟩) (.inl rfl) (.int .i64 level)).setCell (p := ⟨B + 1, 9, none⟩) (.inl rfl) (.string data)).setCell (p := ⟨B + 1, 10, none⟩) (.inl rfl) (.string old))
  have HB := Pin.Aside.mk (hb.trans (hk4.below (by first | exact hb.size | (rw [← hB]; exact hb.size)) fun q h => by rw [h]; omega))
  obtain ⟨c0, c1, c2, c3, c4, c5, c6, c7, c8, c9, c10⟩ := hE
  dsimp only at c0 c1 c2 c3 c4 c5 c6 c7 c8 c9 c10
  simp only [Nat.zero_add] at c0 c1 c2 c3 c4 c5 c6 c7 c8 c9 c10
  obtain ⟨⟨z0, hz0⟩, hf0⟩ := hR 0 (by omega)
  obtain ⟨⟨z1, hz1⟩, hf1⟩ := hR 1 (by omega)
  obtain ⟨⟨z2, hz2⟩, hf2⟩ := hR 2 (by omega)
  obtain ⟨⟨z3, hz3⟩, hf3⟩ := hR 3 (by omega)
  obtain ⟨⟨z4, hz4⟩, hf4⟩ := hR 4 (by omega)
  obtain ⟨⟨z5, hz5⟩, hf5⟩ := hR 5 (by omega)
  obtain ⟨⟨z6, hz6⟩, hf6⟩ := hR 6 (by omega)
  obtain ⟨⟨z7, hz7⟩, hf7⟩ := hR 7 (by omega)
  obtain ⟨⟨z8, hz8⟩, hf8⟩ := hR 8 (by omega)
  obtain ⟨⟨z9, hz9⟩, hf9⟩ := hR 9 (by omega)
  obtain ⟨⟨z10, hz10⟩, hf10⟩ := hR 10 (by omega)
  clear hk4 hb hR
  go_wp2_with fail
  refine bodyPost_ret (v := .agg #[.int .u64 term, .int .u64 index, .int .i64 kind, .int .u64 client, .int .u64 seq, .int .u64 block, .int .u64 many, .int .i64 node, .int .i64 level, .string data, .string old]) (by simp [results, Try.results31, go_sem, *]) rfl ?_
  exact ⟨rfl, by first | exact HB.out | (rw [hB]; exact HB.out)⟩
set_option maxHeartbeats 3200000 in
theorem mk_made_own (e : En) (ho : e.ok) (w : World) : Calls Try.prog 31 #[.agg #[.int .u64 e.term, .int .u64 e.index, .int .i64 e.kind, .int .u64 e.client, .int .u64 e.seq, .int .u64 e.block, .int .u64 e.many, .int .i64 e.node, .int .i64 e.level, .string e.data, .string e.old, .bool true]] w fun x w' => x = .returned (.agg e.own.cells) ∧ Below w.heap.size w w' := by
  have hE : EnAt (w.alloc (.cells #[.int .u64 e.term, .int .u64 e.index, .int .i64 e.kind, .int .u64 e.client, .int .u64 e.seq, .int .u64 e.block, .int .u64 e.many, .int .i64 e.node, .int .i64 e.level, .string e.data, .string e.old, .bool true] 56)) w.heap.size 0 e := by constructor <;> exact World.cell?_alloc_new w _ _ _
  have hO : (w.alloc (.cells #[.int .u64 e.term, .int .u64 e.index, .int .i64 e.kind, .int .u64 e.client, .int .u64 e.seq, .int .u64 e.block, .int .u64 e.many, .int .i64 e.node, .int .i64 e.level, .string e.data, .string e.old, .bool true] 56)).cell? ⟨w.heap.size, 11, none⟩ = some (.bool true) := World.cell?_alloc_new w _ _ _
  have hk := (Keep.refl (fun _ => False) w).alloc (.cells #[.int .u64 e.term, .int .u64 e.index, .int .i64 e.kind, .int .u64 e.client, .int .u64 e.seq, .int .u64 e.block, .int .u64 e.many, .int .i64 e.node, .int .i64 e.level, .string e.data, .string e.old, .bool true] 56)
  have hk2 := (Keep.refl (fun _ => False) (w.alloc (.cells #[.int .u64 e.term, .int .u64 e.index, .int .i64 e.kind, .int .u64 e.client, .int .u64 e.seq, .int .u64 e.block, .int .u64 e.many, .int .i64 e.node, .int .i64 e.level, .string e.data, .string e.old, .bool true] 56))).alloc (.cells #[.int .u64 0, .int .u64 0, .int .i64 0, .int .u64 0, .int .u64 0, .int .u64 0, .int .u64 0, .int .i64 0, .int .i64 0, .string ⟨#[]⟩, .string ⟨#[]⟩] 32)
  have hk3 := (Keep.refl (fun _ => False) ((w.alloc (.cells #[.int .u64 e.term, .int .u64 e.index, .int .i64 e.kind, .int .u64 e.client, .int .u64 e.seq, .int .u64 e.block, .int .u64 e.many, .int .i64 e.node, .int .i64 e.level, .string e.data, .string e.old, .bool true] 56)).alloc (.cells #[.int .u64 0, .int .u64 0, .int .i64 0, .int .u64 0, .int .u64 0, .int .u64 0, .int .u64 0, .int .i64 0, .int .i64 0, .string ⟨#[]⟩, .string ⟨#[]⟩] 32))).alloc (.cells e.cells 32)
  have hR : RowOk ((w.alloc (.cells #[.int .u64 e.term, .int .u64 e.index, .int .i64 e.kind, .int .u64 e.client, .int .u64 e.seq, .int .u64 e.block, .int .u64 e.many, .int .i64 e.node, .int .i64 e.level, .string e.data, .string e.old, .bool true] 56)).alloc (.cells #[.int .u64 0, .int .u64 0, .int .i64 0, .int .u64 0, .int .u64 0, .int .u64 0, .int .u64 0, .int .i64 0, .int .i64 0, .string ⟨#[]⟩, .string ⟨#[]⟩] 32)) (w.heap.size + 1) := by
    have := RowOk.new (w.alloc (.cells #[.int .u64 e.term, .int .u64 e.index, .int .i64 e.kind, .int .u64 e.client, .int .u64 e.seq, .int .u64 e.block, .int .u64 e.many, .int .i64 e.node, .int .i64 e.level, .string e.data, .string e.old, .bool true] 56)) 32 En.zero
    rw [show (w.alloc (.cells #[.int .u64 e.term, .int .u64 e.index, .int .i64 e.kind, .int .u64 e.client, .int .u64 e.seq, .int .u64 e.block, .int .u64 e.many, .int .i64 e.node, .int .i64 e.level, .string e.data, .string e.old, .bool true] 56)).heap.size = w.heap.size + 1 by simp] at this
    exact this
  replace hR := hR.keep hk3 id
  have hE3 : EnAt (((w.alloc (.cells #[.int .u64 e.term, .int .u64 e.index, .int .i64 e.kind, .int .u64 e.client, .int .u64 e.seq, .int .u64 e.block, .int .u64 e.many, .int .i64 e.node, .int .i64 e.level, .string e.data, .string e.old, .bool true] 56)).alloc (.cells #[.int .u64 0, .int .u64 0, .int .i64 0, .int .u64 0, .int .u64 0, .int .u64 0, .int .u64 0, .int .i64 0, .int .i64 0, .string ⟨#[]⟩, .string ⟨#[]⟩] 32)).alloc (.cells e.cells 32)) (w.heap.size + 2) 0 e := by
    have := EnAt.new ((w.alloc (.cells #[.int .u64 e.term, .int .u64 e.index, .int .i64 e.kind, .int .u64 e.client, .int .u64 e.seq, .int .u64 e.block, .int .u64 e.many, .int .i64 e.node, .int .i64 e.level, .string e.data, .string e.old, .bool true] 56)).alloc (.cells #[.int .u64 0, .int .u64 0, .int .i64 0, .int .u64 0, .int .u64 0, .int .u64 0, .int .u64 0, .int .i64 0, .int .i64 0, .string ⟨#[]⟩, .string ⟨#[]⟩] 32)) 32 e
    rw [show ((w.alloc (.cells #[.int .u64 e.term, .int .u64 e.index, .int .i64 e.kind, .int .u64 e.client, .int .u64 e.seq, .int .u64 e.block, .int .u64 e.many, .int .i64 e.node, .int .i64 e.level, .string e.data, .string e.old, .bool true] 56)).alloc (.cells #[.int .u64 0, .int .u64 0, .int .i64 0, .int .u64 0, .int .u64 0, .int .u64 0, .int .u64 0, .int .i64 0, .int .i64 0, .string ⟨#[]⟩, .string ⟨#[]⟩] 32)).heap.size = w.heap.size + 2 by simp] at this
    exact this
  have hb := (hk.trans (hk2.trans hk3)).below (Nat.le_refl _) fun _ q => q.elim
  replace hE := hE.keep hk2 id
  replace hO := hk2.cell hO id
  have hkz := (Keep.refl (fun _ => False) (w.alloc (.cells #[.int .u64 e.term, .int .u64 e.index, .int .i64 e.kind, .int .u64 e.client, .int .u64 e.seq, .int .u64 e.block, .int .u64 e.many, .int .i64 e.node, .int .i64 e.level, .string e.data, .string e.old, .bool true] 56))).alloc (.cells #[.int .u64 0, .int .u64 0, .int .i64 0, .int .u64 0, .int .u64 0, .int .u64 0, .int .u64 0, .int .i64 0, .int .i64 0, .string ⟨#[]⟩, .string ⟨#[]⟩] 32)
  have Hf := Pin.Aside.mk (fun W => mk_fields (enKind e.kind) W)
  have hkin := enKind_in e.kind
  have hst : enStart e = ⟨e.term % 1000 + 1, e.index % 1000 + 1, enKind e.kind, 0, 0, 0, 0, 0, 0, ⟨#[]⟩, ⟨#[]⟩⟩ := rfl
  have hown : e.own = (enF (enKind e.kind)).1.data.toList.foldl (fun o c => enPut e c o) (enStart e) := rfl
  obtain ⟨⟨S, ok⟩, hS⟩ : ∃ q, enF (enKind e.kind) = q := ⟨_, rfl⟩
  have hsz : S.size ≤ 4 := by
    have : S = (enF (enKind e.kind)).1 := by rw [hS]
    rw [this]
    have hc : enKind e.kind = 0 ∨ enKind e.kind = 1 ∨ enKind e.kind = 2 ∨ enKind e.kind = 3 ∨ enKind e.kind = 4 ∨ enKind e.kind = 5 ∨ enKind e.kind = 6 ∨ enKind e.kind = 7 ∨ enKind e.kind = 8 ∨ enKind e.kind = 9 ∨ enKind e.kind = 10 ∨ enKind e.kind = 11 := by omega
    rcases hc with q | q | q | q | q | q | q | q | q | q | q | q <;> rw [q] <;> decide
  rw [hS] at Hf hown
  dsimp only at Hf hown
  have Hst := Pin.Aside.mk hst
  have Hown := Pin.Aside.mk hown
  have Ho := Pin.Aside.mk ho
  have Hk := Pin.Aside.mk (show enKind e.kind = (if e.kind.tmod 12 < 0 then e.kind.tmod 12 + 12 else e.kind.tmod 12) from rfl)
  have hr1 := Int.tmod_lt_of_pos e.kind (show (0 : Int) < 12 by omega)
  have hr2 := Int.lt_tmod_of_pos e.kind (show (0 : Int) < 12 by omega)
  clear hk hk2 hk3 hkz hS hst hown ho
  generalize hKD : enKind e.kind = KD at *
  clear hKD
  have He := Pin.Aside.mk (show e = e from rfl)
  go_enter Try.func31, Try.ntmps31
  obtain ⟨c0, c1, c2, c3, c4, c5, c6, c7, c8, c9, c10⟩ := hE
  simp only [Nat.zero_add] at c0 c1 c2 c3 c4 c5 c6 c7 c8 c9 c10
  go_upto_region 4 with fail
  clear c0 c1 c2 c3 c4 c5 c6 c7 c8 c9 c10 hO
  generalize World.alloc (World.alloc (World.alloc w _) _) _ = w3 at *
  have hB0 : w.heap.size = w.heap.size := rfl
  generalize hB : w.heap.size = B at hb hR hE3 hB0 ⊢
  clear hB0
  have HR := Pin.Aside.mk hR
  have HE3 := Pin.Aside.mk hE3
  have c0 := hE3.c0
  have c1 := hE3.c1
  have c2 := hE3.c2
  simp only [Nat.zero_add] at c0 c1 c2
  have ht0 := Ho.out.term
  have hi0 := Ho.out.index
  clear hR hE3
  obtain ⟨r, hr⟩ : ∃ r, e.kind.tmod 12 = r := ⟨_, rfl⟩
  rw [hr] at hr1 hr2 Hk
  have hKD : KD = if r < 0 then r + 12 else r := Hk.out
  clear Hk
  by_cases hneg : r < 0
  · rw [if_pos hneg] at hKD
    subst hKD
    go_wp2_with fail
    generalize r + 12 = KD at *
    clear hr hr1 hr2 hneg
    refine (Hf.out _).mono ?_
    rintro x w4 ⟨rfl, hbb⟩
    have hkk : Keep (fun _ => False) w3 w4 := Keep.of_below hbb fun _ q _ => q
    replace hb := hb.trans (hbb.mono (by first | exact hb.size | (rw [← hB]; exact hb.size)))
    replace HR := Pin.Aside.mk (HR.out.keep hkk id)
    replace HE3 := Pin.Aside.mk (HE3.out.keep hkk id)
    replace c0 := hkk.cell c0 id
    replace c1 := hkk.cell c1 id
    clear c2 hbb hkk Hf
    have hO2 := World.block_lt_of_cell? _ _ c0
    dsimp only at hO2
    have hN : EnAt (w4.alloc (.cells #[.int .u64 (e.term % 1000 + 1), .int .u64 (e.index % 1000 + 1), .int .i64 KD, .int .u64 0, .int .u64 0, .int .u64 0, .int .u64 0, .int .i64 0, .int .i64 0, .string ⟨#[]⟩, .string ⟨#[]⟩] 32)) w4.heap.size 0 (enStart e) := by rw [Hst.out]; exact EnAt.new w4 32 ⟨e.term % 1000 + 1, e.index % 1000 + 1, KD, 0, 0, 0, 0, 0, 0, ⟨#[]⟩, ⟨#[]⟩⟩
    have hN2 : RowOk (w4.alloc (.cells #[.int .u64 (e.term % 1000 + 1), .int .u64 (e.index % 1000 + 1), .int .i64 KD, .int .u64 0, .int .u64 0, .int .u64 0, .int .u64 0, .int .i64 0, .int .i64 0, .string ⟨#[]⟩, .string ⟨#[]⟩] 32)) w4.heap.size := RowOk.new w4 32 ⟨e.term % 1000 + 1, e.index % 1000 + 1, KD, 0, 0, 0, 0, 0, 0, ⟨#[]⟩, ⟨#[]⟩⟩
    have hka := (Keep.refl (fun _ => False) w4).alloc (.cells #[.int .u64 (e.term % 1000 + 1), .int .u64 (e.index % 1000 + 1), .int .i64 KD, .int .u64 0, .int .u64 0, .int .u64 0, .int .u64 0, .int .i64 0, .int .i64 0, .string ⟨#[]⟩, .string ⟨#[]⟩] 32)
    replace hb := hb.trans (hka.below (by first | exact hb.size | (rw [← hB]; exact hb.size)) fun _ q => q.elim)
    replace HR := Pin.Aside.mk (HR.out.keep hka id)
    replace HE3 := Pin.Aside.mk (HE3.out.keep hka id)
    have HN := Pin.Aside.mk hN
    have HN2 := Pin.Aside.mk hN2
    clear hN hN2 hka
    go_upto_region 9 with fail
    clear c0 c1
    generalize hw5 : World.alloc w4 _ = w5 at *
    generalize w4.heap.size = O at *
    clear hw5 Hst hi0 ht0 hkin
    have hsz2 : (S.size : Int) ≤ 4 := by omega
    go_wp2_with fail
    go_loopw [8] (fun x wr => ∃ k : Nat, k ≤ S.size ∧ x = .int .i64 k ∧ Below B w wr ∧ Pin.Aside (RowOk wr (B + 1)) ∧ Pin.Aside (EnAt wr (B + 2) 0 e) ∧ Pin.Aside (RowOk wr O) ∧ Pin.Aside (EnAt wr O 0 ((S.data.toList.take k).foldl (fun o c => enPut e c o) (enStart e)))) (fun x _ => S.size - (intOf x).toNat)
    case atStart => exact ⟨0, by omega, rfl, hb, HR, HE3, HN2, HN⟩
    case round =>
      clear hb HR HE3 HN HN2
      obtain ⟨k, hk, rfl, hb, HR, HE3, HN2, HN⟩ := hrel
      by_cases hlt : k < S.size
      · have hk0 : (0 : Int) ≤ (k : Int) := by omega
        have hk1 : (k : Int) < (S.size : Int) := by omega
        obtain ⟨X, hX⟩ : ∃ X, (S.data.toList.take k).foldl (fun o c => enPut e c o) (enStart e) = X := ⟨_, rfl⟩
        have hX1 : (S.data.toList.take (k + 1)).foldl (fun o c => enPut e c o) (enStart e) = enPut e S[k] X := by
          rw [List.take_add_one, List.foldl_append, hX, show S.data.toList[k]? = some S[k] by rw [Array.getElem?_toList]; exact Array.getElem?_eq_getElem hlt]
          rfl
        rw [hX] at HN
        have HX1 := Pin.Aside.mk hX1
        clear hX hX1
        obtain ⟨c, hc⟩ : ∃ c : Int, (S[k].toNat : Int) = c := ⟨_, rfl⟩
        have HC := Pin.Aside.mk (fun (d : UInt8) (h : c = (d.toNat : Int)) => (UInt8.toNat_inj.1 (by omega) : S[k] = d))
        by_cases h99 : c = 99
        case pos =>
          have hS : S[k] = 99 := HC.out 99 (by rw [h99]; rfl)
          have HP := Pin.Aside.mk (show enPut e S[k] X = { X with client := e.client % 5 + 1, seq := e.seq % 9 } by rw [hS]; rfl)
          clear hS HC
          rw [h99] at hc
          have e3 := HE3.out.c3
          have b3 := Ho.out.client
          obtain ⟨⟨y3, n3⟩, f3⟩ := HN2.out 3 (by omega)
          have e4 := HE3.out.c4
          have b4 := Ho.out.seq
          obtain ⟨⟨y4, n4⟩, f4⟩ := HN2.out 4 (by omega)
          simp only [Nat.zero_add] at e3 e4
          go_wp2_with fail
          go_roundw
          case rel =>
            refine ⟨k + 1, by omega, by go_num, ((hb.setCell (p := ⟨O, 3, none⟩) (by simp; omega) _).setCell (p := ⟨O, 4, none⟩) (by simp; omega) _), Pin.Aside.mk ((HR.out.setCell _ _).setCell _ _), Pin.Aside.mk (HE3.out.keep (((Keep.refl (fun b => b = O) wr).setCell (p := ⟨O, 3, none⟩) (.inl rfl) _).setCell (p := ⟨O, 4, none⟩) (.inl rfl) _) (by omega)), Pin.Aside.mk ((HN2.out.setCell _ _).setCell _ _), Pin.Aside.mk ?_⟩
            rw [HX1.out, HP.out]
            exact ((HN.out.set (e' := { X with client := e.client % 5 + 1 }) 3 (by omega) _ rfl).set (e' := { X with client := e.client % 5 + 1, seq := e.seq % 9 }) 4 (by omega) _ rfl)
          case measure => simp [intOf]; omega
        by_cases h98 : c = 98
        case pos =>
          have hS : S[k] = 98 := HC.out 98 (by rw [h98]; rfl)
          have HP := Pin.Aside.mk (show enPut e S[k] X = { X with block := e.block % 9 } by rw [hS]; rfl)
          clear hS HC
          rw [h98] at hc
          have e5 := HE3.out.c5
          have b5 := Ho.out.block
          obtain ⟨⟨y5, n5⟩, f5⟩ := HN2.out 5 (by omega)
          simp only [Nat.zero_add] at e5
          go_wp2_with fail
          go_roundw
          case rel =>
            refine ⟨k + 1, by omega, by go_num, (hb.setCell (p := ⟨O, 5, none⟩) (by simp; omega) _), Pin.Aside.mk (HR.out.setCell _ _), Pin.Aside.mk (HE3.out.keep ((Keep.refl (fun b => b = O) wr).setCell (p := ⟨O, 5, none⟩) (.inl rfl) _) (by omega)), Pin.Aside.mk (HN2.out.setCell _ _), Pin.Aside.mk ?_⟩
            rw [HX1.out, HP.out]
            exact (HN.out.set (e' := { X with block := e.block % 9 }) 5 (by omega) _ rfl)
          case measure => simp [intOf]; omega
        by_cases h109 : c = 109
        case pos =>
          have hS : S[k] = 109 := HC.out 109 (by rw [h109]; rfl)
          have HP := Pin.Aside.mk (show enPut e S[k] X = { X with many := e.many % 9 } by rw [hS]; rfl)
          clear hS HC
          rw [h109] at hc
          have e6 := HE3.out.c6
          have b6 := Ho.out.many
          obtain ⟨⟨y6, n6⟩, f6⟩ := HN2.out 6 (by omega)
          simp only [Nat.zero_add] at e6
          go_wp2_with fail
          go_roundw
          case rel =>
            refine ⟨k + 1, by omega, by go_num, (hb.setCell (p := ⟨O, 6, none⟩) (by simp; omega) _), Pin.Aside.mk (HR.out.setCell _ _), Pin.Aside.mk (HE3.out.keep ((Keep.refl (fun b => b = O) wr).setCell (p := ⟨O, 6, none⟩) (.inl rfl) _) (by omega)), Pin.Aside.mk (HN2.out.setCell _ _), Pin.Aside.mk ?_⟩
            rw [HX1.out, HP.out]
            exact (HN.out.set (e' := { X with many := e.many % 9 }) 6 (by omega) _ rfl)
          case measure => simp [intOf]; omega
        by_cases h110 : c = 110
        case pos =>
          have hS : S[k] = 110 := HC.out 110 (by rw [h110]; rfl)
          have HP := Pin.Aside.mk (show enPut e S[k] X = { X with node := e.node % 18446744073709551616 % 7 + 1 } by rw [hS]; rfl)
          clear hS HC
          rw [h110] at hc
          have e7 := HE3.out.c7
          have b7 := Ho.out.node
          obtain ⟨⟨y7, n7⟩, f7⟩ := HN2.out 7 (by omega)
          simp only [Nat.zero_add] at e7
          go_wp2_with fail
          go_roundw
          case rel =>
            have hv : wrap64 (wrap64 ((IntKind.u64.wrap e.node).tmod 7) + 1) = e.node % 18446744073709551616 % 7 + 1 := by
              rw [IntKind.wrap_u64, Int.tmod_eq_emod_of_nonneg (by omega)]; unfold wrap64; omega
            rw [hv]
            refine ⟨k + 1, by omega, by go_num, (hb.setCell (p := ⟨O, 7, none⟩) (by simp; omega) _), Pin.Aside.mk (HR.out.setCell _ _), Pin.Aside.mk (HE3.out.keep ((Keep.refl (fun b => b = O) wr).setCell (p := ⟨O, 7, none⟩) (.inl rfl) _) (by omega)), Pin.Aside.mk (HN2.out.setCell _ _), Pin.Aside.mk ?_⟩
            rw [HX1.out, HP.out]
            exact (HN.out.set (e' := { X with node := e.node % 18446744073709551616 % 7 + 1 }) 7 (by omega) _ rfl)
          case measure => simp [intOf]; omega
        by_cases h108 : c = 108
        case pos =>
          have hS : S[k] = 108 := HC.out 108 (by rw [h108]; rfl)
          have HP := Pin.Aside.mk (show enPut e S[k] X = { X with level := e.level % 18446744073709551616 % 2 + 1 } by rw [hS]; rfl)
          clear hS HC
          rw [h108] at hc
          have e8 := HE3.out.c8
          have b8 := Ho.out.level
          obtain ⟨⟨y8, n8⟩, f8⟩ := HN2.out 8 (by omega)
          simp only [Nat.zero_add] at e8
          go_wp2_with fail
          go_roundw
          case rel =>
            have hv : wrap64 (wrap64 ((IntKind.u64.wrap e.level).tmod 2) + 1) = e.level % 18446744073709551616 % 2 + 1 := by
              rw [IntKind.wrap_u64, Int.tmod_eq_emod_of_nonneg (by omega)]; unfold wrap64; omega
            rw [hv]
            refine ⟨k + 1, by omega, by go_num, (hb.setCell (p := ⟨O, 8, none⟩) (by simp; omega) _), Pin.Aside.mk (HR.out.setCell _ _), Pin.Aside.mk (HE3.out.keep ((Keep.refl (fun b => b = O) wr).setCell (p := ⟨O, 8, none⟩) (.inl rfl) _) (by omega)), Pin.Aside.mk (HN2.out.setCell _ _), Pin.Aside.mk ?_⟩
            rw [HX1.out, HP.out]
            exact (HN.out.set (e' := { X with level := e.level % 18446744073709551616 % 2 + 1 }) 8 (by omega) _ rfl)
          case measure => simp [intOf]; omega
        by_cases h100 : c = 100
        case pos =>
          have hS : S[k] = 100 := HC.out 100 (by rw [h100]; rfl)
          have HP := Pin.Aside.mk (show enPut e S[k] X = { X with data := cut64 e.data } by rw [hS]; rfl)
          clear hS HC
          rw [h100] at hc
          have e9 := HE3.out.c9
          have b9 := Ho.out.data
          obtain ⟨⟨y9, n9⟩, f9⟩ := HN2.out 9 (by omega)
          simp only [Nat.zero_add] at e9
          obtain ⟨m, hm⟩ : ∃ m, min e.data.size 64 = m := ⟨_, rfl⟩
          have hmin : min (e.data.size : Int) 64 = (m : Int) := by omega
          have hm0 : (0 : Int) ≤ (m : Int) := by omega
          have hm1 : (m : Int) ≤ (e.data.size : Int) := by omega
          have HCut := Pin.Aside.mk (show cut64 e.data = e.data.extract 0 m by unfold cut64; rw [hm])
          clear hm
          go_wp2_with fail
          go_roundw
          case rel =>
            refine ⟨k + 1, by omega, by go_num, (hb.setCell (p := ⟨O, 9, none⟩) (by simp; omega) _), Pin.Aside.mk (HR.out.setCell _ _), Pin.Aside.mk (HE3.out.keep ((Keep.refl (fun b => b = O) wr).setCell (p := ⟨O, 9, none⟩) (.inl rfl) _) (by omega)), Pin.Aside.mk (HN2.out.setCell _ _), Pin.Aside.mk ?_⟩
            rw [HX1.out, HP.out, HCut.out]
            exact HN.out.set (e' := { X with data := e.data.extract 0 m }) 9 (by omega) _ rfl
          case measure => simp [intOf]; omega
        by_cases h111 : c = 111
        case pos =>
          have hS : S[k] = 111 := HC.out 111 (by rw [h111]; rfl)
          have HP := Pin.Aside.mk (show enPut e S[k] X = { X with old := cut64 e.old } by rw [hS]; rfl)
          clear hS HC
          rw [h111] at hc
          have e10 := HE3.out.c10
          have b10 := Ho.out.old
          obtain ⟨⟨y10, n10⟩, f10⟩ := HN2.out 10 (by omega)
          simp only [Nat.zero_add] at e10
          obtain ⟨m, hm⟩ : ∃ m, min e.old.size 64 = m := ⟨_, rfl⟩
          have hmin : min (e.old.size : Int) 64 = (m : Int) := by omega
          have hm0 : (0 : Int) ≤ (m : Int) := by omega
          have hm1 : (m : Int) ≤ (e.old.size : Int) := by omega
          have HCut := Pin.Aside.mk (show cut64 e.old = e.old.extract 0 m by unfold cut64; rw [hm])
          clear hm
          go_wp2_with fail
          go_roundw
          case rel =>
            refine ⟨k + 1, by omega, by go_num, (hb.setCell (p := ⟨O, 10, none⟩) (by simp; omega) _), Pin.Aside.mk (HR.out.setCell _ _), Pin.Aside.mk (HE3.out.keep ((Keep.refl (fun b => b = O) wr).setCell (p := ⟨O, 10, none⟩) (.inl rfl) _) (by omega)), Pin.Aside.mk (HN2.out.setCell _ _), Pin.Aside.mk ?_⟩
            rw [HX1.out, HP.out, HCut.out]
            exact HN.out.set (e' := { X with old := e.old.extract 0 m }) 10 (by omega) _ rfl
          case measure => simp [intOf]; omega
        have HP := Pin.Aside.mk (show enPut e S[k] X = X by
          unfold enPut
          rw [if_neg (fun q => h99 (by rw [← hc, q]; rfl)), if_neg (fun q => h98 (by rw [← hc, q]; rfl)), if_neg (fun q => h109 (by rw [← hc, q]; rfl)), if_neg (fun q => h110 (by rw [← hc, q]; rfl)), if_neg (fun q => h108 (by rw [← hc, q]; rfl)), if_neg (fun q => h100 (by rw [← hc, q]; rfl)), if_neg (fun q => h111 (by rw [← hc, q]; rfl))])
        clear HC
        go_wp2_with fail
        go_roundw
        case rel => exact ⟨k + 1, by omega, by go_num, hb, HR, HE3, HN2, Pin.Aside.mk (by rw [HX1.out, HP.out]; exact HN.out)⟩
        case measure => simp [intOf]; omega
      · have hk2 : k = S.size := by omega
        have hfin : (S.data.toList.take k).foldl (fun o c => enPut e c o) (enStart e) = e.own := by
          rw [Hown.out, List.take_of_length_le (by rw [hk2]; exact Nat.le_refl _)]
        rw [hfin] at HN
        obtain ⟨X, hX⟩ : ∃ X, e.own = X := ⟨_, rfl⟩
        rw [hX] at HN
        have HX := Pin.Aside.mk hX
        clear hX hfin Hown Ho HE3 HN2
        obtain ⟨xterm, xindex, xkind, xclient, xseq, xblock, xmany, xnode, xlevel, xdata, xold⟩ := X
        obtain ⟨x0, x1, x2, x3, x4, x5, x6, x7, x8, x9, x10⟩ := HN.out
        dsimp only at x0 x1 x2 x3 x4 x5 x6 x7 x8 x9 x10
        simp only [Nat.zero_add] at x0 x1 x2 x3 x4 x5 x6 x7 x8 x9 x10
        obtain ⟨⟨z0, hz0⟩, hf0⟩ := HR.out 0 (by omega)
        obtain ⟨⟨z1, hz1⟩, hf1⟩ := HR.out 1 (by omega)
        obtain ⟨⟨z2, hz2⟩, hf2⟩ := HR.out 2 (by omega)
        obtain ⟨⟨z3, hz3⟩, hf3⟩ := HR.out 3 (by omega)
        obtain ⟨⟨z4, hz4⟩, hf4⟩ := HR.out 4 (by omega)
        obtain ⟨⟨z5, hz5⟩, hf5⟩ := HR.out 5 (by omega)
        obtain ⟨⟨z6, hz6⟩, hf6⟩ := HR.out 6 (by omega)
        obtain ⟨⟨z7, hz7⟩, hf7⟩ := HR.out 7 (by omega)
        obtain ⟨⟨z8, hz8⟩, hf8⟩ := HR.out 8 (by omega)
        obtain ⟨⟨z9, hz9⟩, hf9⟩ := HR.out 9 (by omega)
        obtain ⟨⟨z10, hz10⟩, hf10⟩ := HR.out 10 (by omega)
        have hk4 := ((((((((((((Keep.refl (fun b => b = B + 1) wr).setCell (p := ⟨B + 1, 0, none⟩) (.inl rfl) (.int .u64 xterm)).setCell (p := ⟨B + 1, 1, none⟩) (.inl rfl) (.int .u64 xindex)).setCell (p := ⟨B + 1, 2, none⟩) (.inl rfl) (.int .i64 xkind)).setCell (p := ⟨B + 1, 3, none⟩) (.inl rfl) (.int .u64 xclient)).setCell (p := ⟨B + 1, 4, none⟩) (.inl rfl) (.int .u64 xseq)).setCell (p := ⟨B + 1, 5, none⟩) (.inl rfl) (.int .u64 xblock)).setCell (p := ⟨B + 1, 6, none⟩) (.inl rfl) (.int .u64 xmany)).setCell (p := ⟨B + 1, 7, none⟩) (.inl rfl) (.int .i64 xnode)).setCell (p := ⟨B + 1, 8, none⟩) (.inl rfl) (.int .i64 xlevel)).setCell (p := ⟨B + 1, 9, none⟩) (.inl rfl) (.string xdata)).setCell (p := ⟨B + 1, 10, none⟩) (.inl rfl) (.string xold))
        have HB := Pin.Aside.mk (hb.trans (hk4.below (by first | exact hb.size | (rw [← hB]; exact hb.size)) fun q h => by rw [h]; omega))
        clear hk4 hb HR
        go_wp2_with fail
        refine bodyPost_ret (v := .agg #[.int .u64 xterm, .int .u64 xindex, .int .i64 xkind, .int .u64 xclient, .int .u64 xseq, .int .u64 xblock, .int .u64 xmany, .int .i64 xnode, .int .i64 xlevel, .string xdata, .string xold]) (by simp [results, Try.results31, go_sem, *]) rfl ?_
        exact ⟨by rw [HX.out], by first | exact HB.out | (rw [hB]; exact HB.out)⟩
  · rw [if_neg hneg] at hKD
    subst hKD
    go_wp2_with fail
    clear hr hr1 hr2 hneg
    refine (Hf.out _).mono ?_
    rintro x w4 ⟨rfl, hbb⟩
    have hkk : Keep (fun _ => False) w3 w4 := Keep.of_below hbb fun _ q _ => q
    replace hb := hb.trans (hbb.mono (by first | exact hb.size | (rw [← hB]; exact hb.size)))
    replace HR := Pin.Aside.mk (HR.out.keep hkk id)
    replace HE3 := Pin.Aside.mk (HE3.out.keep hkk id)
    replace c0 := hkk.cell c0 id
    replace c1 := hkk.cell c1 id
    clear c2 hbb hkk Hf
    have hO2 := World.block_lt_of_cell? _ _ c0
    dsimp only at hO2
    have hN : EnAt (w4.alloc (.cells #[.int .u64 (e.term % 1000 + 1), .int .u64 (e.index % 1000 + 1), .int .i64 KD, .int .u64 0, .int .u64 0, .int .u64 0, .int .u64 0, .int .i64 0, .int .i64 0, .string ⟨#[]⟩, .string ⟨#[]⟩] 32)) w4.heap.size 0 (enStart e) := by rw [Hst.out]; exact EnAt.new w4 32 ⟨e.term % 1000 + 1, e.index % 1000 + 1, KD, 0, 0, 0, 0, 0, 0, ⟨#[]⟩, ⟨#[]⟩⟩
    have hN2 : RowOk (w4.alloc (.cells #[.int .u64 (e.term % 1000 + 1), .int .u64 (e.index % 1000 + 1), .int .i64 KD, .int .u64 0, .int .u64 0, .int .u64 0, .int .u64 0, .int .i64 0, .int .i64 0, .string ⟨#[]⟩, .string ⟨#[]⟩] 32)) w4.heap.size := RowOk.new w4 32 ⟨e.term % 1000 + 1, e.index % 1000 + 1, KD, 0, 0, 0, 0, 0, 0, ⟨#[]⟩, ⟨#[]⟩⟩
    have hka := (Keep.refl (fun _ => False) w4).alloc (.cells #[.int .u64 (e.term % 1000 + 1), .int .u64 (e.index % 1000 + 1), .int .i64 KD, .int .u64 0, .int .u64 0, .int .u64 0, .int .u64 0, .int .i64 0, .int .i64 0, .string ⟨#[]⟩, .string ⟨#[]⟩] 32)
    replace hb := hb.trans (hka.below (by first | exact hb.size | (rw [← hB]; exact hb.size)) fun _ q => q.elim)
    replace HR := Pin.Aside.mk (HR.out.keep hka id)
    replace HE3 := Pin.Aside.mk (HE3.out.keep hka id)
    have HN := Pin.Aside.mk hN
    have HN2 := Pin.Aside.mk hN2
    clear hN hN2 hka
    go_upto_region 9 with fail
    clear c0 c1
    generalize hw5 : World.alloc w4 _ = w5 at *
    generalize w4.heap.size = O at *
    clear hw5 Hst hi0 ht0 hkin
    have hsz2 : (S.size : Int) ≤ 4 := by omega
    go_wp2_with fail
    go_loopw [8] (fun x wr => ∃ k : Nat, k ≤ S.size ∧ x = .int .i64 k ∧ Below B w wr ∧ Pin.Aside (RowOk wr (B + 1)) ∧ Pin.Aside (EnAt wr (B + 2) 0 e) ∧ Pin.Aside (RowOk wr O) ∧ Pin.Aside (EnAt wr O 0 ((S.data.toList.take k).foldl (fun o c => enPut e c o) (enStart e)))) (fun x _ => S.size - (intOf x).toNat)
    case atStart => exact ⟨0, by omega, rfl, hb, HR, HE3, HN2, HN⟩
    case round =>
      clear hb HR HE3 HN HN2
      obtain ⟨k, hk, rfl, hb, HR, HE3, HN2, HN⟩ := hrel
      by_cases hlt : k < S.size
      · have hk0 : (0 : Int) ≤ (k : Int) := by omega
        have hk1 : (k : Int) < (S.size : Int) := by omega
        obtain ⟨X, hX⟩ : ∃ X, (S.data.toList.take k).foldl (fun o c => enPut e c o) (enStart e) = X := ⟨_, rfl⟩
        have hX1 : (S.data.toList.take (k + 1)).foldl (fun o c => enPut e c o) (enStart e) = enPut e S[k] X := by
          rw [List.take_add_one, List.foldl_append, hX, show S.data.toList[k]? = some S[k] by rw [Array.getElem?_toList]; exact Array.getElem?_eq_getElem hlt]
          rfl
        rw [hX] at HN
        have HX1 := Pin.Aside.mk hX1
        clear hX hX1
        obtain ⟨c, hc⟩ : ∃ c : Int, (S[k].toNat : Int) = c := ⟨_, rfl⟩
        have HC := Pin.Aside.mk (fun (d : UInt8) (h : c = (d.toNat : Int)) => (UInt8.toNat_inj.1 (by omega) : S[k] = d))
        by_cases h99 : c = 99
        case pos =>
          have hS : S[k] = 99 := HC.out 99 (by rw [h99]; rfl)
          have HP := Pin.Aside.mk (show enPut e S[k] X = { X with client := e.client % 5 + 1, seq := e.seq % 9 } by rw [hS]; rfl)
          clear hS HC
          rw [h99] at hc
          have e3 := HE3.out.c3
          have b3 := Ho.out.client
          obtain ⟨⟨y3, n3⟩, f3⟩ := HN2.out 3 (by omega)
          have e4 := HE3.out.c4
          have b4 := Ho.out.seq
          obtain ⟨⟨y4, n4⟩, f4⟩ := HN2.out 4 (by omega)
          simp only [Nat.zero_add] at e3 e4
          go_wp2_with fail
          go_roundw
          case rel =>
            refine ⟨k + 1, by omega, by go_num, ((hb.setCell (p := ⟨O, 3, none⟩) (by simp; omega) _).setCell (p := ⟨O, 4, none⟩) (by simp; omega) _), Pin.Aside.mk ((HR.out.setCell _ _).setCell _ _), Pin.Aside.mk (HE3.out.keep (((Keep.refl (fun b => b = O) wr).setCell (p := ⟨O, 3, none⟩) (.inl rfl) _).setCell (p := ⟨O, 4, none⟩) (.inl rfl) _) (by omega)), Pin.Aside.mk ((HN2.out.setCell _ _).setCell _ _), Pin.Aside.mk ?_⟩
            rw [HX1.out, HP.out]
            exact ((HN.out.set (e' := { X with client := e.client % 5 + 1 }) 3 (by omega) _ rfl).set (e' := { X with client := e.client % 5 + 1, seq := e.seq % 9 }) 4 (by omega) _ rfl)
          case measure => simp [intOf]; omega
        by_cases h98 : c = 98
        case pos =>
          have hS : S[k] = 98 := HC.out 98 (by rw [h98]; rfl)
          have HP := Pin.Aside.mk (show enPut e S[k] X = { X with block := e.block % 9 } by rw [hS]; rfl)
          clear hS HC
          rw [h98] at hc
          have e5 := HE3.out.c5
          have b5 := Ho.out.block
          obtain ⟨⟨y5, n5⟩, f5⟩ := HN2.out 5 (by omega)
          simp only [Nat.zero_add] at e5
          go_wp2_with fail
          go_roundw
          case rel =>
            refine ⟨k + 1, by omega, by go_num, (hb.setCell (p := ⟨O, 5, none⟩) (by simp; omega) _), Pin.Aside.mk (HR.out.setCell _ _), Pin.Aside.mk (HE3.out.keep ((Keep.refl (fun b => b = O) wr).setCell (p := ⟨O, 5, none⟩) (.inl rfl) _) (by omega)), Pin.Aside.mk (HN2.out.setCell _ _), Pin.Aside.mk ?_⟩
            rw [HX1.out, HP.out]
            exact (HN.out.set (e' := { X with block := e.block % 9 }) 5 (by omega) _ rfl)
          case measure => simp [intOf]; omega
        by_cases h109 : c = 109
        case pos =>
          have hS : S[k] = 109 := HC.out 109 (by rw [h109]; rfl)
          have HP := Pin.Aside.mk (show enPut e S[k] X = { X with many := e.many % 9 } by rw [hS]; rfl)
          clear hS HC
          rw [h109] at hc
          have e6 := HE3.out.c6
          have b6 := Ho.out.many
          obtain ⟨⟨y6, n6⟩, f6⟩ := HN2.out 6 (by omega)
          simp only [Nat.zero_add] at e6
          go_wp2_with fail
          go_roundw
          case rel =>
            refine ⟨k + 1, by omega, by go_num, (hb.setCell (p := ⟨O, 6, none⟩) (by simp; omega) _), Pin.Aside.mk (HR.out.setCell _ _), Pin.Aside.mk (HE3.out.keep ((Keep.refl (fun b => b = O) wr).setCell (p := ⟨O, 6, none⟩) (.inl rfl) _) (by omega)), Pin.Aside.mk (HN2.out.setCell _ _), Pin.Aside.mk ?_⟩
            rw [HX1.out, HP.out]
            exact (HN.out.set (e' := { X with many := e.many % 9 }) 6 (by omega) _ rfl)
          case measure => simp [intOf]; omega
        by_cases h110 : c = 110
        case pos =>
          have hS : S[k] = 110 := HC.out 110 (by rw [h110]; rfl)
          have HP := Pin.Aside.mk (show enPut e S[k] X = { X with node := e.node % 18446744073709551616 % 7 + 1 } by rw [hS]; rfl)
          clear hS HC
          rw [h110] at hc
          have e7 := HE3.out.c7
          have b7 := Ho.out.node
          obtain ⟨⟨y7, n7⟩, f7⟩ := HN2.out 7 (by omega)
          simp only [Nat.zero_add] at e7
          go_wp2_with fail
          go_roundw
          case rel =>
            have hv : wrap64 (wrap64 ((IntKind.u64.wrap e.node).tmod 7) + 1) = e.node % 18446744073709551616 % 7 + 1 := by
              rw [IntKind.wrap_u64, Int.tmod_eq_emod_of_nonneg (by omega)]; unfold wrap64; omega
            rw [hv]
            refine ⟨k + 1, by omega, by go_num, (hb.setCell (p := ⟨O, 7, none⟩) (by simp; omega) _), Pin.Aside.mk (HR.out.setCell _ _), Pin.Aside.mk (HE3.out.keep ((Keep.refl (fun b => b = O) wr).setCell (p := ⟨O, 7, none⟩) (.inl rfl) _) (by omega)), Pin.Aside.mk (HN2.out.setCell _ _), Pin.Aside.mk ?_⟩
            rw [HX1.out, HP.out]
            exact (HN.out.set (e' := { X with node := e.node % 18446744073709551616 % 7 + 1 }) 7 (by omega) _ rfl)
          case measure => simp [intOf]; omega
        by_cases h108 : c = 108
        case pos =>
          have hS : S[k] = 108 := HC.out 108 (by rw [h108]; rfl)
          have HP := Pin.Aside.mk (show enPut e S[k] X = { X with level := e.level % 18446744073709551616 % 2 + 1 } by rw [hS]; rfl)
          clear hS HC
          rw [h108] at hc
          have e8 := HE3.out.c8
          have b8 := Ho.out.level
          obtain ⟨⟨y8, n8⟩, f8⟩ := HN2.out 8 (by omega)
          simp only [Nat.zero_add] at e8
          go_wp2_with fail
          go_roundw
          case rel =>
            have hv : wrap64 (wrap64 ((IntKind.u64.wrap e.level).tmod 2) + 1) = e.level % 18446744073709551616 % 2 + 1 := by
              rw [IntKind.wrap_u64, Int.tmod_eq_emod_of_nonneg (by omega)]; unfold wrap64; omega
            rw [hv]
            refine ⟨k + 1, by omega, by go_num, (hb.setCell (p := ⟨O, 8, none⟩) (by simp; omega) _), Pin.Aside.mk (HR.out.setCell _ _), Pin.Aside.mk (HE3.out.keep ((Keep.refl (fun b => b = O) wr).setCell (p := ⟨O, 8, none⟩) (.inl rfl) _) (by omega)), Pin.Aside.mk (HN2.out.setCell _ _), Pin.Aside.mk ?_⟩
            rw [HX1.out, HP.out]
            exact (HN.out.set (e' := { X with level := e.level % 18446744073709551616 % 2 + 1 }) 8 (by omega) _ rfl)
          case measure => simp [intOf]; omega
        by_cases h100 : c = 100
        case pos =>
          have hS : S[k] = 100 := HC.out 100 (by rw [h100]; rfl)
          have HP := Pin.Aside.mk (show enPut e S[k] X = { X with data := cut64 e.data } by rw [hS]; rfl)
          clear hS HC
          rw [h100] at hc
          have e9 := HE3.out.c9
          have b9 := Ho.out.data
          obtain ⟨⟨y9, n9⟩, f9⟩ := HN2.out 9 (by omega)
          simp only [Nat.zero_add] at e9
          obtain ⟨m, hm⟩ : ∃ m, min e.data.size 64 = m := ⟨_, rfl⟩
          have hmin : min (e.data.size : Int) 64 = (m : Int) := by omega
          have hm0 : (0 : Int) ≤ (m : Int) := by omega
          have hm1 : (m : Int) ≤ (e.data.size : Int) := by omega
          have HCut := Pin.Aside.mk (show cut64 e.data = e.data.extract 0 m by unfold cut64; rw [hm])
          clear hm
          go_wp2_with fail
          go_roundw
          case rel =>
            refine ⟨k + 1, by omega, by go_num, (hb.setCell (p := ⟨O, 9, none⟩) (by simp; omega) _), Pin.Aside.mk (HR.out.setCell _ _), Pin.Aside.mk (HE3.out.keep ((Keep.refl (fun b => b = O) wr).setCell (p := ⟨O, 9, none⟩) (.inl rfl) _) (by omega)), Pin.Aside.mk (HN2.out.setCell _ _), Pin.Aside.mk ?_⟩
            rw [HX1.out, HP.out, HCut.out]
            exact HN.out.set (e' := { X with data := e.data.extract 0 m }) 9 (by omega) _ rfl
          case measure => simp [intOf]; omega
        by_cases h111 : c = 111
        case pos =>
          have hS : S[k] = 111 := HC.out 111 (by rw [h111]; rfl)
          have HP := Pin.Aside.mk (show enPut e S[k] X = { X with old := cut64 e.old } by rw [hS]; rfl)
          clear hS HC
          rw [h111] at hc
          have e10 := HE3.out.c10
          have b10 := Ho.out.old
          obtain ⟨⟨y10, n10⟩, f10⟩ := HN2.out 10 (by omega)
          simp only [Nat.zero_add] at e10
          obtain ⟨m, hm⟩ : ∃ m, min e.old.size 64 = m := ⟨_, rfl⟩
          have hmin : min (e.old.size : Int) 64 = (m : Int) := by omega
          have hm0 : (0 : Int) ≤ (m : Int) := by omega
          have hm1 : (m : Int) ≤ (e.old.size : Int) := by omega
          have HCut := Pin.Aside.mk (show cut64 e.old = e.old.extract 0 m by unfold cut64; rw [hm])
          clear hm
          go_wp2_with fail
          go_roundw
          case rel =>
            refine ⟨k + 1, by omega, by go_num, (hb.setCell (p := ⟨O, 10, none⟩) (by simp; omega) _), Pin.Aside.mk (HR.out.setCell _ _), Pin.Aside.mk (HE3.out.keep ((Keep.refl (fun b => b = O) wr).setCell (p := ⟨O, 10, none⟩) (.inl rfl) _) (by omega)), Pin.Aside.mk (HN2.out.setCell _ _), Pin.Aside.mk ?_⟩
            rw [HX1.out, HP.out, HCut.out]
            exact HN.out.set (e' := { X with old := e.old.extract 0 m }) 10 (by omega) _ rfl
          case measure => simp [intOf]; omega
        have HP := Pin.Aside.mk (show enPut e S[k] X = X by
          unfold enPut
          rw [if_neg (fun q => h99 (by rw [← hc, q]; rfl)), if_neg (fun q => h98 (by rw [← hc, q]; rfl)), if_neg (fun q => h109 (by rw [← hc, q]; rfl)), if_neg (fun q => h110 (by rw [← hc, q]; rfl)), if_neg (fun q => h108 (by rw [← hc, q]; rfl)), if_neg (fun q => h100 (by rw [← hc, q]; rfl)), if_neg (fun q => h111 (by rw [← hc, q]; rfl))])
        clear HC
        go_wp2_with fail
        go_roundw
        case rel => exact ⟨k + 1, by omega, by go_num, hb, HR, HE3, HN2, Pin.Aside.mk (by rw [HX1.out, HP.out]; exact HN.out)⟩
        case measure => simp [intOf]; omega
      · have hk2 : k = S.size := by omega
        have hfin : (S.data.toList.take k).foldl (fun o c => enPut e c o) (enStart e) = e.own := by
          rw [Hown.out, List.take_of_length_le (by rw [hk2]; exact Nat.le_refl _)]
        rw [hfin] at HN
        obtain ⟨X, hX⟩ : ∃ X, e.own = X := ⟨_, rfl⟩
        rw [hX] at HN
        have HX := Pin.Aside.mk hX
        clear hX hfin Hown Ho HE3 HN2
        obtain ⟨xterm, xindex, xkind, xclient, xseq, xblock, xmany, xnode, xlevel, xdata, xold⟩ := X
        obtain ⟨x0, x1, x2, x3, x4, x5, x6, x7, x8, x9, x10⟩ := HN.out
        dsimp only at x0 x1 x2 x3 x4 x5 x6 x7 x8 x9 x10
        simp only [Nat.zero_add] at x0 x1 x2 x3 x4 x5 x6 x7 x8 x9 x10
        obtain ⟨⟨z0, hz0⟩, hf0⟩ := HR.out 0 (by omega)
        obtain ⟨⟨z1, hz1⟩, hf1⟩ := HR.out 1 (by omega)
        obtain ⟨⟨z2, hz2⟩, hf2⟩ := HR.out 2 (by omega)
        obtain ⟨⟨z3, hz3⟩, hf3⟩ := HR.out 3 (by omega)
        obtain ⟨⟨z4, hz4⟩, hf4⟩ := HR.out 4 (by omega)
        obtain ⟨⟨z5, hz5⟩, hf5⟩ := HR.out 5 (by omega)
        obtain ⟨⟨z6, hz6⟩, hf6⟩ := HR.out 6 (by omega)
        obtain ⟨⟨z7, hz7⟩, hf7⟩ := HR.out 7 (by omega)
        obtain ⟨⟨z8, hz8⟩, hf8⟩ := HR.out 8 (by omega)
        obtain ⟨⟨z9, hz9⟩, hf9⟩ := HR.out 9 (by omega)
        obtain ⟨⟨z10, hz10⟩, hf10⟩ := HR.out 10 (by omega)
        have hk4 := ((((((((((((Keep.refl (fun b => b = B + 1) wr).setCell (p := ⟨B + 1, 0, none⟩) (.inl rfl) (.int .u64 xterm)).setCell (p := ⟨B + 1, 1, none⟩) (.inl rfl) (.int .u64 xindex)).setCell (p := ⟨B + 1, 2, none⟩) (.inl rfl) (.int .i64 xkind)).setCell (p := ⟨B + 1, 3, none⟩) (.inl rfl) (.int .u64 xclient)).setCell (p := ⟨B + 1, 4, none⟩) (.inl rfl) (.int .u64 xseq)).setCell (p := ⟨B + 1, 5, none⟩) (.inl rfl) (.int .u64 xblock)).setCell (p := ⟨B + 1, 6, none⟩) (.inl rfl) (.int .u64 xmany)).setCell (p := ⟨B + 1, 7, none⟩) (.inl rfl) (.int .i64 xnode)).setCell (p := ⟨B + 1, 8, none⟩) (.inl rfl) (.int .i64 xlevel)).setCell (p := ⟨B + 1, 9, none⟩) (.inl rfl) (.string xdata)).setCell (p := ⟨B + 1, 10, none⟩) (.inl rfl) (.string xold))
        have HB := Pin.Aside.mk (hb.trans (hk4.below (by first | exact hb.size | (rw [← hB]; exact hb.size)) fun q h => by rw [h]; omega))
        clear hk4 hb HR
        go_wp2_with fail
        refine bodyPost_ret (v := .agg #[.int .u64 xterm, .int .u64 xindex, .int .i64 xkind, .int .u64 xclient, .int .u64 xseq, .int .u64 xblock, .int .u64 xmany, .int .i64 xnode, .int .i64 xlevel, .string xdata, .string xold]) (by simp [results, Try.results31, go_sem, *]) rfl ?_
        exact ⟨by rw [HX.out], by first | exact HB.out | (rw [hB]; exact HB.out)⟩
end Go.Proofs.Ythlmigbimeldbaa
