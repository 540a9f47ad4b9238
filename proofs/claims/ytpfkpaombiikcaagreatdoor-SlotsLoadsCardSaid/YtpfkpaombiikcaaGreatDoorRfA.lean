import Derived.Test.YtpfkpaombiikcaaGreatDoorRfN
import Derived.Test.YtpfkpaombiikcaaGreatDoorRfF
import Derived.BigRegion
/- What the document's device computes: After. -/
set_option maxRecDepth 16000
namespace Go.Pin
open Go.RowKit
set_option linter.unusedVariables false
set_option linter.unusedSimpArgs false
theorem run_make_bools {P : Program} (w : World) (t e : TypeId) (i : TypeInfo) (ht : P.underlying t = some (.slice e)) (hi : P.info? e = some i) (hz : i.zero = some (.bool false)) (hs : i.size = 1) (hb : i.bytes = 1)
    (n : Nat) (hn : n ≤ 281474976710656) :
    (Instr.makeSlice t (.int .i64 (n : Int)) (.int .i64 (n : Int))).run P w = .ok (.slice (some ⟨w.heap.size, 0, none⟩) n n) (w.alloc (.cells (Array.replicate n (.bool false)) e)) := by
  have h := run_make (P := P) w t e i (.bool false) ht hi hz .i64 .i64 n n (by omega) (Int.le_refl _) (by rw [hb]; omega) (by omega)
  rw [h, hs]
  have : madeCells (Value.bool false).cells ((n : Int).toNat * 1) = Array.replicate n (.bool false) := by
    apply Array.ext
    · simp [madeCells]
    · intro j h1 h2
      have hj : j < n := by simpa [madeCells] using h1
      simp [madeCells, Value.cells, Nat.mod_one]
  rw [this]; simp
theorem RowAt.of_slice {w : World} {B e n g c : Nat} {xs : List Value} (h : w.ownsRow B e 1 (.slice (some ⟨g, 0, none⟩) n c) n xs) (hn : 0 < n) {f : Nat → Value} (hf : ∀ i, i < n → xs[i]? = some (f i)) : n ≤ c ∧ c ≤ 9223372036854775807 ∧ B ≤ g ∧ RowAt w g n f := by
  obtain ⟨g', c', e', q1, q2, q3, _, q5⟩ := RowAt.of_owns h hn
  injection e' with e1 _ e3
  injection e1 with e1
  injection e1 with e1
  subst e1 e3
  exact ⟨q1, q2, q3, q5 f hf⟩
/-- A device behind a crash, while it is made. -/
structure HalfAt (w : World) (b N V n c : Nat) (f : Nat → ByteArray) : Prop where
  hc1 : n ≤ c
  hc2 : c ≤ 9223372036854775807
  c0 : w.cell? ⟨b, 0, none⟩ = some (.slice (some ⟨N, 0, none⟩) n c)
  c1 : w.cell? ⟨b, 1, none⟩ = some (.slice none 0 0)
  c2 : w.cell? ⟨b, 2, none⟩ = some (.slice (some ⟨V, 0, none⟩) n n)
  c3 : w.cell? ⟨b, 3, none⟩ = some (.int .i64 (-1))
  c4 : w.cell? ⟨b, 4, none⟩ = some (.bool false)
  fr : ∀ i, i < 5 → w.frozen? ⟨b, i, none⟩ = false
  rN : RowAt w N n fun i => .string (f i)
  rV : RowAt w V n fun _ => .bool false
  bN : b ≠ N
  bV : b ≠ V
  NV : N ≠ V
theorem HalfAt.lt {w : World} {b N V n c : Nat} {f : Nat → ByteArray} (h : HalfAt w b N V n c f) : b < w.heap.size := World.block_lt_of_cell? (a := ⟨b, 3, none⟩) _ h.c3
theorem HalfAt.keep {S : Nat → Prop} {a w : World} {b N V n c : Nat} {f : Nat → ByteArray} (h : HalfAt a b N V n c f) (hk : Keep S a w) (hn : ¬ S b ∧ ¬ S N ∧ ¬ S V) : HalfAt w b N V n c f :=
  ⟨h.hc1, h.hc2, hk.cell h.c0 hn.1, hk.cell h.c1 hn.1, hk.cell h.c2 hn.1, hk.cell h.c3 hn.1, hk.cell h.c4 hn.1, fun i hi => by rw [hk.frozen (p := ⟨b, i, none⟩) h.lt hn.1]; exact h.fr i hi, h.rN.keep hk hn.2.1, h.rV.keep hk hn.2.2, h.bN, h.bV, h.NV⟩
theorem HalfAt.congr {w : World} {b N V n c : Nat} {f f' : Nat → ByteArray} (h : HalfAt w b N V n c f) (he : ∀ i, i < n → f i = f' i) : HalfAt w b N V n c f' :=
  ⟨h.hc1, h.hc2, h.c0, h.c1, h.c2, h.c3, h.c4, h.fr, h.rN.congr fun i hi => by rw [he i hi], h.rV, h.bN, h.bV, h.NV⟩
theorem HalfAt.set {a : World} {b N V n c : Nat} {f : Nat → ByteArray} (h : HalfAt a b N V n c f) (k : Nat) (hk : k < n) (s : ByteArray) : HalfAt (a.setCell ⟨N, k, none⟩ (.string s)) b N V n c (fun i => if i = k then s else f i) := by
  have hks : Keep (fun j => j = N) a (a.setCell ⟨N, k, none⟩ (.string s)) := (Keep.refl (fun j => j = N) a).setCell (p := ⟨N, k, none⟩) (.inl rfl) _
  refine ⟨h.hc1, h.hc2, hks.cell h.c0 h.bN, hks.cell h.c1 h.bN, hks.cell h.c2 h.bN, hks.cell h.c3 h.bN, hks.cell h.c4 h.bN, fun i hi => by rw [World.frozen?_setCell]; exact h.fr i hi, ?_, h.rV.keep hks (fun q => h.NV q.symm), h.bN, h.bV, h.NV⟩
  exact (h.rN.set k hk _).congr fun i hi => by by_cases e : i = k <;> simp [e]
theorem below_drewN {B : Nat} {a w : World} (h : Below B a w) (n : Nat) : Below B a (w.drewN n) := ⟨h.os, h.tape, h.output, h.size, h.block⟩
theorem aft_case {d : Dv} {x : Int} {i j : Nat} (hx : x = (j : Int)) (hw : d.w j = false) : (i : Int) ≠ x ∨ d.w i = false := by
  by_cases e : i = j
  · right; rw [e]; exact hw
  · left; omega
def sVals (f : Nat → ByteArray) (n : Nat) : List Value := (List.range n).map fun i => Value.string (f i)
theorem sVals_len (f : Nat → ByteArray) (n : Nat) : (sVals f n).length = n := by simp [sVals]
theorem sVals_at (f : Nat → ByteArray) (n i : Nat) (hi : i < n) : (sVals f n)[i]? = some (.string (f i)) := by unfold sVals; rw [List.getElem?_map, List.getElem?_range hi]; rfl
theorem sVals_one (f : Nat → ByteArray) (n : Nat) : ∀ u ∈ sVals f n, u.oneCell' = true := by
  intro u hu
  obtain ⟨x, _, rfl⟩ := List.mem_map.1 hu
  rfl
theorem sVals_news {w : World} {g n : Nat} {f : Nat → ByteArray} (h : RowAt w g n fun i => .string (f i)) : ∀ j u, (sVals f n)[j]? = some u → w.cell? ((⟨g, 0, none⟩ : Addr).add j) = some u := fun j u hu => by
  have hj : j < n := by have := (List.getElem?_eq_some_iff.1 hu).1; rw [sVals_len] at this; exact this
  rw [sVals_at f n j hj] at hu
  rw [Addr.add_mid, Nat.zero_add, ← hu]
  exact h.at' j hj
/-- What is left of sector i, once the first k of those that are lost have been seen. -/
def aftK (d : Dv) (lost : List Int) (k i : Nat) : ByteArray := aft d (lost.take k) i
theorem aftK_skip (d : Dv) (lost : List Int) (k i : Nat) (hk : k < lost.length) (h : (i : Int) ≠ lost.getD k 0 ∨ d.w i = false) : aftK d lost k i = aftK d lost (k + 1) i := by
  unfold aftK aft
  have ht : lost.take (k + 1) = lost.take k ++ [lost.getD k 0] := by rw [List.take_add_one]; simp [List.getD, hk]
  rw [ht]
  rcases h with h | h
  · have : ((i : Int) ∈ lost.take k ++ [lost.getD k 0]) ↔ (i : Int) ∈ lost.take k := by rw [List.mem_append, List.mem_singleton]; exact ⟨fun q => q.resolve_right h, .inl⟩
    simp only [this]
  · simp [h]
theorem aftK_hit (d : Dv) (lost : List Int) (k i : Nat) (hk : k < lost.length) (h : (i : Int) = lost.getD k 0) (hw : d.w i = true) : d.o i = aftK d lost (k + 1) i := by
  unfold aftK aft
  have ht : lost.take (k + 1) = lost.take k ++ [lost.getD k 0] := by rw [List.take_add_one]; simp [List.getD, hk]
  rw [ht, if_pos ⟨hw, by rw [← h]; simp⟩]
end Go.Pin
namespace Go.Proofs.YtpfkpaombiikcaaGreatDoor
open Go.RowKit Go.Pin
set_option linter.unusedVariables false
set_option linter.unusedSimpArgs false
theorem make_bools (w : World) (n : Nat) (hn : n ≤ 4096) : (Instr.makeSlice 66 (.int .i64 (n : Int)) (.int .i64 (n : Int))).run Tryz.prog w = .ok (.slice (some ⟨w.heap.size, 0, none⟩) n n) (w.alloc (.cells (Array.replicate n (.bool false)) 4)) := by
  obtain ⟨i0, hi, hz0, hz1, hz2⟩ := info_parts bool_info
  exact run_make_bools (P := Tryz.prog) w 66 4 i0 Tryz.underlying66 hi hz0 hz1 hz2 n (by omega)
end Go.Proofs.YtpfkpaombiikcaaGreatDoor
