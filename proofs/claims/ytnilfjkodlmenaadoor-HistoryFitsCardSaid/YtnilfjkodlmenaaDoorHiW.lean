/- history: known, whole, bounds. -/
import Derived.Test.YtnilfjkodlmenaaDoorHiM
import Derived.Test.YtnilfjkodlmenaaDoorHiS
import Derived.Test.YtnilfjkodlmenaaDoorEnW
set_option maxRecDepth 16000
namespace Go.Pin
open Go.RowKit
set_option linter.unusedVariables false
set_option linter.unusedSimpArgs false
abbrev hEnC (e : En) : Array Value := #[.int .u64 e.term, .int .u64 e.index, .int .i64 e.kind, .int .u64 e.client, .int .u64 e.seq, .int .u64 e.block, .int .u64 e.many, .int .i64 e.node, .int .i64 e.level, .string e.data, .string e.old]
abbrev HOp.cells (o : HOp) : Array Value := #[.int .u64 o.e.term, .int .u64 o.e.index, .int .i64 o.e.kind, .int .u64 o.e.client, .int .u64 o.e.seq, .int .u64 o.e.block, .int .u64 o.e.many, .int .i64 o.e.node, .int .i64 o.e.level, .string o.e.data, .string o.e.old, .int .u64 o.start, .int .u64 o.stop, .int .i64 o.re, .string o.rd]
/-- An op in memory. -/
structure HOpAt (w : World) (A o : Nat) (x : HOp) : Prop where
  row : ∀ i v, x.cells.toList[i]? = some v → w.cell? ⟨A, o + i, none⟩ = some v
theorem HOpAt.keep {S : Nat → Prop} {a w : World} {A o : Nat} {x : HOp} (h : HOpAt a A o x) (hk : Keep S a w) (hn : ¬ S A) : HOpAt w A o x :=
  ⟨fun i v hv => hk.cell (h.row i v hv) hn⟩
theorem HOpAt.new (w : World) (T : TypeId) (x : HOp) : HOpAt (w.alloc (.cells x.cells T)) w.heap.size 0 x :=
  ⟨fun i v hv => by
    rw [Nat.zero_add]
    have hi : i < 15 := (List.getElem?_eq_some_iff.1 hv).1
    have : i = 0 ∨ i = 1 ∨ i = 2 ∨ i = 3 ∨ i = 4 ∨ i = 5 ∨ i = 6 ∨ i = 7 ∨ i = 8 ∨ i = 9 ∨ i = 10 ∨ i = 11 ∨ i = 12 ∨ i = 13 ∨ i = 14 := by omega
    rcases this with rfl | rfl | rfl | rfl | rfl | rfl | rfl | rfl | rfl | rfl | rfl | rfl | rfl | rfl | rfl <;> (cases hv; simp)⟩
theorem hsize_mk (l : List UInt8) : (⟨l.toArray⟩ : ByteArray).size = l.length := by show l.toArray.size = _; simp
theorem hWhole_eq (s : ByteArray) (h : s.size ≤ 64) : hWhole s = s ++ ⟨(List.replicate (64 - s.size) (0 : UInt8)).toArray⟩ := by
  apply ByteArray.ext
  apply Array.ext'
  unfold hWhole
  rw [ByteArray.data_append]
  simp
theorem repeat_zero (k : Nat) : Lib.repeatL [0] k = List.replicate k (0 : UInt8) := by
  induction k with
  | zero => rfl
  | succ k ih => unfold Lib.repeatL; first | (rw [ih]; rfl) | (simp [Lib.repeatL] at ih ⊢; simp [ih, List.replicate_succ])
theorem hKnown_eq (k : Int) : ([1, 2, 3, 11, 100] : List Int).contains k = hKnown k := by
  unfold hKnown
  simp only [List.contains_cons, List.contains_nil, Bool.or_false]
  rw [Bool.eq_iff_iff]
  simp
end Go.Pin
namespace Go.Proofs.YtnilfjkodlmenaaDoor
open Go.RowKit Go.Pin
set_option linter.unusedVariables false
set_option linter.unusedSimpArgs false
set_option maxHeartbeats 800000 in
theorem hi_known (k : Int) (w : World) :
    Calls Tryd.prog 28 #[.int .i64 k] w fun x w' => x = .returned (.bool (hKnown k)) ∧ Below w.heap.size w w' := by
  have hk0 := (Keep.refl (fun _ => False) w).alloc (.cells #[.int .i64 1, .int .i64 2, .int .i64 3, .int .i64 11, .int .i64 100] 3)
  have hb := hk0.below (Nat.le_refl w.heap.size) fun _ q => q.elim
  have hc := YtnilfjkodlmenaaDoorSh.slices_Contains_int w.heap.size 0 5 5 [1, 2, 3, 11, 100] k (w.alloc (.cells #[.int .i64 1, .int .i64 2, .int .i64 3, .int .i64 11, .int .i64 100] 3)) (by decide) (by decide) (fun j hj => by
    have : j = 0 ∨ j = 1 ∨ j = 2 ∨ j = 3 ∨ j = 4 := by simp at hj; omega
    rcases this with rfl | rfl | rfl | rfl | rfl <;> simp)
  rw [show ([1, 2, 3, 11, 100] : List Int).take 5 = [1, 2, 3, 11, 100] from rfl, hKnown_eq] at hc
  have HC := Pin.Aside.mk hc
  clear hc hk0
  go_enter Tryd.func28, Tryd.ntmps28
  go_wp2_with fail
  refine HC.out.mono ?_
  rintro x w1 ⟨rfl, rfl⟩
  go_wp2_with fail
  go_ret
  exact ⟨rfl, hb⟩
set_option maxHeartbeats 800000 in
theorem hi_bounds (n : Nat) (a : Option Addr) (c : Nat) (e : En) (many : Int) (hn : n ≤ 1000) (hb0 : 0 ≤ e.block ∧ e.block ≤ 18446744073709551615) (hm : 0 ≤ many ∧ many ≤ 18446744073709551615) (w : World) :
    Calls Tryd.prog 30 #[.slice a n c, .agg (hEnC e), .int .u64 many] w fun x w' => x = .returned (.bool (hBounds n e many)) ∧ Below w.heap.size w w' := by
  have hk0 := (Keep.refl (fun _ => False) w).alloc (.cells (hEnC e) 28)
  have hb := hk0.below (Nat.le_refl w.heap.size) fun _ q => q.elim
  clear hk0
  have hw : IntKind.u64.wrap (n : Int) = (n : Int) := by rw [IntKind.wrap_u64]; omega
  have hB : Pin.Aside (hBounds n e many = (decide (e.block ≤ (n : Int)) && decide (many ≤ (n : Int) - e.block))) := Pin.Aside.mk rfl
  unfold hEnC at hb ⊢
  generalize e.block = bl at *
  by_cases h1 : bl ≤ (n : Int)
  · have hw2 : IntKind.u64.wrap ((n : Int) - bl) = (n : Int) - bl := by rw [IntKind.wrap_u64]; omega
    by_cases h2 : many ≤ (n : Int) - bl
    · go_enter Tryd.func30, Tryd.ntmps30
      go_wp2_with fail
      go_ret
      exact ⟨by rw [hB.out, decide_eq_true h1, decide_eq_true h2]; rfl, hb⟩
    · go_enter Tryd.func30, Tryd.ntmps30
      go_wp2_with fail
      go_ret
      exact ⟨by rw [hB.out, decide_eq_true h1, decide_eq_false (show ¬ many ≤ (n : Int) - bl by omega)]; rfl, hb⟩
  · go_enter Tryd.func30, Tryd.ntmps30
    go_wp2_with fail
    go_ret
    exact ⟨by rw [hB.out, decide_eq_false (show ¬ bl ≤ (n : Int) by omega)]; rfl, hb⟩
set_option maxHeartbeats 800000 in
theorem hi_whole (s : ByteArray) (hs : s.size ≤ 64) (w : World) :
    Calls Tryd.prog 33 #[.string s] w fun x w' => x = .returned (.string (hWhole s)) ∧ Below w.heap.size w w' := by
  have hR := YtnilfjkodlmenaaDoorSh.strings_Repeat ⟨#[0]⟩ (64 - s.size) w (by omega) (by show 1 * (64 - s.size) ≤ _; omega)
  rw [show (⟨#[0]⟩ : ByteArray).data.toList = [0] from rfl, repeat_zero] at hR
  have hsub : ((64 - s.size : Nat) : Int) = 64 - (s.size : Int) := by omega
  rw [hsub] at hR
  have HR := Pin.Aside.mk hR
  have HW := Pin.Aside.mk (hWhole_eq s hs)
  have hz : (⟨(List.replicate (64 - s.size) (0 : UInt8)).toArray⟩ : ByteArray).size = 64 - s.size := by rw [hsize_mk, List.length_replicate]
  clear hR hsub
  generalize (⟨(List.replicate (64 - s.size) (0 : UInt8)).toArray⟩ : ByteArray) = Z at *
  go_enter Tryd.func33, Tryd.ntmps33
  go_wp2_with fail
  refine HR.out.mono ?_
  rintro x w1 ⟨rfl, hb1⟩
  go_wp2_with fail
  go_ret
  exact ⟨by rw [HW.out]; rfl, hb1⟩
end Go.Proofs.YtnilfjkodlmenaaDoor
