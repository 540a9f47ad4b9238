import Derived.Test.YtpfkpaombiikcaaGreatDoorDevC
/- The document's device: what holds it in memory. -/
set_option maxRecDepth 16000
namespace Go.Pin
open Go.RowKit
set_option linter.unusedVariables false
set_option linter.unusedSimpArgs false
theorem owns_keep {S : Nat → Prop} {a w : World} {N e n : Nat} {v : Value} {xs : List Value} (h : a.ownsRow N e 1 v n xs) (hk : Keep S a w) (hn : ∀ g, v.ownBlock = some g → ¬ S g) : w.ownsRow N e 1 v n xs := by
  refine ⟨h.1, ?_⟩
  rcases h.2 with hx | ⟨g, cap, cur, rfl, hb, hgg, rest⟩
  · exact .inl hx
  · refine .inr ⟨g, cap, cur, rfl, hb, ?_, rest⟩
    rw [hk.block g (Array.getElem?_eq_some_iff.1 hgg).1 (hn g rfl)]; exact hgg
/-- Block g holds the cells that f tells, the first n of them; they may be written. -/
structure RowAt (w : World) (g n : Nat) (f : Nat → Value) : Prop where
  at' : ∀ i, i < n → w.cell? ⟨g, i, none⟩ = some (f i)
  fr : ∀ i, i < n → w.frozen? ⟨g, i, none⟩ = false
theorem RowAt.keep {S : Nat → Prop} {a w : World} {g n : Nat} {f : Nat → Value} (h : RowAt a g n f) (hk : Keep S a w) (hn : ¬ S g) : RowAt w g n f :=
  ⟨fun i hi => hk.cell (h.at' i hi) hn, fun i hi => by rw [hk.frozen (p := ⟨g, i, none⟩) (World.block_lt_of_cell? _ _ (h.at' i hi)) hn]; exact h.fr i hi⟩
theorem RowAt.set {a : World} {g n : Nat} {f : Nat → Value} (h : RowAt a g n f) (k : Nat) (hk : k < n) (v : Value) : RowAt (a.setCell ⟨g, k, none⟩ v) g n (fun i => if i = k then v else f i) := by
  refine ⟨fun i hi => ?_, fun i hi => by rw [World.frozen?_setCell]; exact h.fr i hi⟩
  by_cases e : i = k
  · subst e
    rw [World.cell?_setCell_same _ _ _ (h.at' i hi), if_pos rfl]
  · rw [World.cell?_setCell_other _ _ _ _ (fun q => e (congrArg Addr.off q).symm), h.at' i hi, if_neg e]
theorem RowAt.drew {a : World} {g n : Nat} {f : Nat → Value} (h : RowAt a g n f) : RowAt a.drew g n f := ⟨h.at', h.fr⟩
theorem RowAt.drewN {a : World} {g n : Nat} {f : Nat → Value} (h : RowAt a g n f) (k : Nat) : RowAt (a.drewN k) g n f := ⟨h.at', h.fr⟩
theorem RowAt.congr {a : World} {g n : Nat} {f f' : Nat → Value} (h : RowAt a g n f) (he : ∀ i, i < n → f i = f' i) : RowAt a g n f' := ⟨fun i hi => by rw [← he i hi]; exact h.at' i hi, h.fr⟩
theorem RowAt.of_owns {w : World} {N e n : Nat} {v : Value} {xs : List Value} (h : w.ownsRow N e 1 v n xs) (hn : 0 < n) : ∃ g c, v = .slice (some ⟨g, 0, none⟩) n c ∧ n ≤ c ∧ c ≤ 9223372036854775807 ∧ N ≤ g ∧ g < w.heap.size ∧ ∀ f : Nat → Value, (∀ i, i < n → xs[i]? = some (f i)) → RowAt w g n f := by
  rcases h.2 with ⟨_, q⟩ | ⟨g, cap, cur, rfl, hb, hgg, hnc, hcm, _, _⟩
  · omega
  · unfold maxLen at hcm
    refine ⟨g, cap, rfl, hnc, by omega, hb, (Array.getElem?_eq_some_iff.1 hgg).1, fun f hf => ⟨fun i hi => ?_, fun i _ => Lib.frozen_of_heap hgg i⟩⟩
    have := h.cells (g := g) rfl i (f i) (hf i hi)
    rw [Addr.add_mid, Nat.zero_add] at this; exact this
/-- Blocks b, N, O, V hold the document's device d. -/
structure RefAt (w : World) (b N O V : Nat) (d : Dv) : Prop where
  ok : d.ok
  c0 : ∃ c : Nat, d.n ≤ c ∧ c ≤ 9223372036854775807 ∧ w.cell? ⟨b, 0, none⟩ = some (.slice (some ⟨N, 0, none⟩) d.n c)
  c1 : ∃ c : Nat, d.n ≤ c ∧ c ≤ 9223372036854775807 ∧ w.cell? ⟨b, 1, none⟩ = some (.slice (some ⟨O, 0, none⟩) d.n c)
  c2 : ∃ c : Nat, d.n ≤ c ∧ c ≤ 9223372036854775807 ∧ w.cell? ⟨b, 2, none⟩ = some (.slice (some ⟨V, 0, none⟩) d.n c)
  c3 : w.cell? ⟨b, 3, none⟩ = some (.int .i64 d.armed)
  c4 : w.cell? ⟨b, 4, none⟩ = some (.bool d.dead)
  fr : ∀ i, i < 5 → w.frozen? ⟨b, i, none⟩ = false
  rN : RowAt w N d.n fun i => .string (d.s i)
  rO : RowAt w O d.n fun i => .string (d.o i)
  rV : RowAt w V d.n fun i => .bool (d.w i)
  bN : b ≠ N
  bO : b ≠ O
  bV : b ≠ V
  NO : N ≠ O
  NV : N ≠ V
  OV : O ≠ V
def refS (b N O V : Nat) : Nat → Prop := fun k => k = b ∨ k = N ∨ k = O ∨ k = V
theorem RefAt.keep {S : Nat → Prop} {a w : World} {b N O V : Nat} {d : Dv} (h : RefAt a b N O V d) (hk : Keep S a w) (hn : ¬ S b ∧ ¬ S N ∧ ¬ S O ∧ ¬ S V) : RefAt w b N O V d := by
  obtain ⟨x0, p0, q0, r0⟩ := h.c0
  obtain ⟨x1, p1, q1, r1⟩ := h.c1
  obtain ⟨x2, p2, q2, r2⟩ := h.c2
  have hb : b < a.heap.size := World.block_lt_of_cell? (a := ⟨b, 3, none⟩) _ h.c3
  exact ⟨h.ok, ⟨x0, p0, q0, hk.cell r0 hn.1⟩, ⟨x1, p1, q1, hk.cell r1 hn.1⟩, ⟨x2, p2, q2, hk.cell r2 hn.1⟩, hk.cell h.c3 hn.1, hk.cell h.c4 hn.1, fun i hi => by rw [hk.frozen (p := ⟨b, i, none⟩) hb hn.1]; exact h.fr i hi,
    h.rN.keep hk hn.2.1, h.rO.keep hk hn.2.2.1, h.rV.keep hk hn.2.2.2, h.bN, h.bO, h.bV, h.NO, h.NV, h.OV⟩
theorem RefAt.below {a w : World} {b N O V : Nat} {d : Dv} (h : RefAt a b N O V d) (hk : Below a.heap.size a w) : RefAt w b N O V d :=
  h.keep (Keep.of_below (S := fun _ => False) hk fun _ hk _ => hk) ⟨id, id, id, id⟩
theorem RefAt.drewN {a : World} {b N O V : Nat} {d : Dv} (h : RefAt a b N O V d) (k : Nat) : RefAt (a.drewN k) b N O V d := h.keep ((Keep.refl (fun _ => False) a).drewN k) ⟨id, id, id, id⟩
theorem RefAt.drew {a : World} {b N O V : Nat} {d : Dv} (h : RefAt a b N O V d) : RefAt a.drew b N O V d := h.keep (Keep.refl (fun _ => False) a).drew ⟨id, id, id, id⟩
theorem RefAt.lt {a : World} {b N O V : Nat} {d : Dv} (h : RefAt a b N O V d) : b < a.heap.size ∧ N < a.heap.size ∧ O < a.heap.size ∧ V < a.heap.size :=
  ⟨World.block_lt_of_cell? (a := ⟨b, 3, none⟩) _ h.c3, World.block_lt_of_cell? _ _ (h.rN.at' 0 h.ok.n1), World.block_lt_of_cell? _ _ (h.rO.at' 0 h.ok.n1), World.block_lt_of_cell? _ _ (h.rV.at' 0 h.ok.n1)⟩
theorem RefAt.setArmed {a : World} {b N O V : Nat} {d : Dv} (h : RefAt a b N O V d) (k : Int) (h0 : -1 ≤ k) (h1 : k ≤ 9223372036854775807) : RefAt (a.setCell ⟨b, 3, none⟩ (.int .i64 k)) b N O V { d with armed := k } := by
  obtain ⟨x0, p0, q0, r0⟩ := h.c0
  obtain ⟨x1, p1, q1, r1⟩ := h.c1
  obtain ⟨x2, p2, q2, r2⟩ := h.c2
  have hk : Keep (fun k => k = b) a (a.setCell ⟨b, 3, none⟩ (.int .i64 k)) := (Keep.refl (fun k => k = b) a).setCell (p := ⟨b, 3, none⟩) (.inl rfl) _
  refine ⟨⟨h.ok.n1, h.ok.n2, h.ok.l1, h.ok.l2, h.ok.z1, h.ok.z2, h.ok.same, h0, h1⟩, ⟨x0, p0, q0, ?_⟩, ⟨x1, p1, q1, ?_⟩, ⟨x2, p2, q2, ?_⟩, World.cell?_setCell_same _ _ _ h.c3, ?_, fun i hi => by rw [World.frozen?_setCell]; exact h.fr i hi,
    h.rN.keep hk (fun q => h.bN q.symm), h.rO.keep hk (fun q => h.bO q.symm), h.rV.keep hk (fun q => h.bV q.symm), h.bN, h.bO, h.bV, h.NO, h.NV, h.OV⟩
  · rw [World.cell?_setCell_other _ _ _ _ (by simp)]; exact r0
  · rw [World.cell?_setCell_other _ _ _ _ (by simp)]; exact r1
  · rw [World.cell?_setCell_other _ _ _ _ (by simp)]; exact r2
  · rw [World.cell?_setCell_other _ _ _ _ (by simp)]; exact h.c4
theorem RefAt.setDead {a : World} {b N O V : Nat} {d : Dv} (h : RefAt a b N O V d) (x : Bool) : RefAt (a.setCell ⟨b, 4, none⟩ (.bool x)) b N O V { d with dead := x } := by
  obtain ⟨x0, p0, q0, r0⟩ := h.c0
  obtain ⟨x1, p1, q1, r1⟩ := h.c1
  obtain ⟨x2, p2, q2, r2⟩ := h.c2
  have hk : Keep (fun k => k = b) a (a.setCell ⟨b, 4, none⟩ (.bool x)) := (Keep.refl (fun k => k = b) a).setCell (p := ⟨b, 4, none⟩) (.inl rfl) _
  refine ⟨dead_ok h.ok x, ⟨x0, p0, q0, ?_⟩, ⟨x1, p1, q1, ?_⟩, ⟨x2, p2, q2, ?_⟩, ?_, World.cell?_setCell_same _ _ _ h.c4, fun i hi => by rw [World.frozen?_setCell]; exact h.fr i hi,
    h.rN.keep hk (fun q => h.bN q.symm), h.rO.keep hk (fun q => h.bO q.symm), h.rV.keep hk (fun q => h.bV q.symm), h.bN, h.bO, h.bV, h.NO, h.NV, h.OV⟩
  · rw [World.cell?_setCell_other _ _ _ _ (by simp)]; exact r0
  · rw [World.cell?_setCell_other _ _ _ _ (by simp)]; exact r1
  · rw [World.cell?_setCell_other _ _ _ _ (by simp)]; exact r2
  · rw [World.cell?_setCell_other _ _ _ _ (by simp)]; exact h.c3
/-- A sector is written: its text, then that it waits. -/
theorem RefAt.setSec {a a' : World} {b N O V : Nat} {d : Dv} (h : RefAt a b N O V d) (k : Nat) (hk : k < d.n) (s : ByteArray) (hs : s.size ≤ 64) (hka : Keep (fun _ => False) (a.setCell ⟨N, k, none⟩ (.string (pad s))) a') : RefAt (a'.setCell ⟨V, k, none⟩ (.bool true)) b N O V (dset k s d) := by
  obtain ⟨x0, p0, q0, r0⟩ := h.c0
  obtain ⟨x1, p1, q1, r1⟩ := h.c1
  obtain ⟨x2, p2, q2, r2⟩ := h.c2
  have k0 : Keep (fun j => j = N) a (a.setCell ⟨N, k, none⟩ (.string (pad s))) := (Keep.refl (fun j => j = N) a).setCell (p := ⟨N, k, none⟩) (.inl rfl) _
  have k1 : Keep (fun j => j = N) a a' := k0.trans (hka.mono fun _ q => q.elim)
  have k2 : Keep (fun j => j = V) a' (a'.setCell ⟨V, k, none⟩ (.bool true)) := (Keep.refl (fun j => j = V) _).setCell (p := ⟨V, k, none⟩) (.inl rfl) _
  have hb : b < a.heap.size := World.block_lt_of_cell? (a := ⟨b, 3, none⟩) _ h.c3
  refine ⟨dset_ok h.ok hk hs, ⟨x0, p0, q0, k2.cell (k1.cell r0 h.bN) h.bV⟩, ⟨x1, p1, q1, k2.cell (k1.cell r1 h.bN) h.bV⟩, ⟨x2, p2, q2, k2.cell (k1.cell r2 h.bN) h.bV⟩, k2.cell (k1.cell h.c3 h.bN) h.bV, k2.cell (k1.cell h.c4 h.bN) h.bV,
    fun i hi => by rw [World.frozen?_setCell, k1.frozen (p := ⟨b, i, none⟩) hb h.bN]; exact h.fr i hi, ?_, ?_, ?_, h.bN, h.bO, h.bV, h.NO, h.NV, h.OV⟩
  · refine (((h.rN.set k hk _).keep hka id).keep k2 h.NV).congr fun i hi => ?_
    rw [dset_s h.ok hk]
    by_cases e : i = k <;> simp [e]
  · exact (h.rO.keep k1 (fun q => h.NO q.symm)).keep k2 h.OV
  · refine ((h.rV.keep k1 (fun q => h.NV q.symm)).set k hk _).congr fun i hi => ?_
    rw [dset_w h.ok hk]
    by_cases e : i = k <;> simp [e]
end Go.Pin
