import Derived.Test.YtpfkpaombiikcaaGreatDoorDevX
import Derived.Carry
/- What device.New computes. -/
set_option maxRecDepth 16000
namespace Go.Pin
open Go.RowKit
set_option linter.unusedVariables false
set_option linter.unusedSimpArgs false
/-- The cells of n sectors of 0. -/
def flatZ (t : TypeId) (n : Nat) : Obj := .cells (Array.replicate (n * 64) (Value.int .u8 0)) t
theorem secZ_list : secCells secZ = List.replicate 64 (Value.int .u8 0) := by
  unfold secCells secZ zeros
  show List.map _ (Array.replicate 64 (0 : UInt8)).toList = _
  rw [Array.toList_replicate, List.map_replicate]; rfl
theorem madeCells_rep (z : Value) (k n : Nat) (hk : 0 < k) : madeCells (Array.replicate k z) n = Array.replicate n z := by
  have h : ∀ i : Nat, (Array.replicate k z)[i % k]! = z := fun i => by
    rw [getElem!_pos (Array.replicate k z) (i % k) (by rw [Array.size_replicate]; exact Nat.mod_lt i hk)]; simp
  unfold madeCells
  rw [Array.size_replicate]
  have e : (fun x => (Array.replicate k z)[x % k]!) = fun _ => z := funext h
  rw [e]
  apply Array.ext
  · simp
  · intro j h1 h2; simp
theorem secZ_cells : (secVal secZ).cells = Array.replicate 64 (Value.int .u8 0) := by
  show (secCells secZ).toArray = _
  rw [secZ_list, List.toArray_replicate]
theorem madeCells_flat (n : Nat) : madeCells (secVal secZ).cells (n * 64) = Array.replicate (n * 64) (Value.int .u8 0) := by
  rw [secZ_cells]; exact madeCells_rep _ _ _ (by omega)
theorem flatZ_sec (w : World) (t : TypeId) (n i : Nat) (hi : i < n) : SecAt (w.alloc (flatZ t n)) w.heap.size (i * 64) secZ := by
  have hz := secZ_list
  refine ⟨rfl, fun j v hv => ?_, fun j hj => ?_⟩
  · rw [hz, List.getElem?_replicate] at hv
    split at hv
    · rename_i hj
      unfold flatZ
      rw [World.cell?_alloc_new, ← hv, Array.getElem?_replicate, if_pos (by omega)]
    · cases hv
  · unfold flatZ; exact World.frozen?_alloc_at _ _ _ _ rfl
theorem DevAt.made (w : World) (t t' : TypeId) (n : Nat) (h1 : 1 ≤ n) (h2 : n ≤ 4096) :
    DevAt (((w.alloc (flatZ t n)).alloc (.map #[] 0)).alloc (.cells #[.slice (some ⟨w.heap.size, 0, none⟩) n n, .map (some (w.heap.size + 1)), .int .i64 (-1), .bool false] t')) (w.heap.size + 2) w.heap.size (w.heap.size + 1) (dnew n) := by
  have hn : (dnew n).n = n := by simp [dnew, Dv.n]
  have ho : ∀ i, (dnew n).o i = secZ := fun i => getD_rep _ _ _
  have hz : ((w.alloc (flatZ t n)).alloc (.map #[] 0)).heap.size = w.heap.size + 2 := by simp
  have hc : ∀ i, (((w.alloc (flatZ t n)).alloc (.map #[] 0)).alloc (.cells #[.slice (some ⟨w.heap.size, 0, none⟩) n n, .map (some (w.heap.size + 1)), .int .i64 (-1), .bool false] t')).cell? ⟨w.heap.size + 2, i, none⟩ = (#[.slice (some ⟨w.heap.size, 0, none⟩) n n, .map (some (w.heap.size + 1)), .int .i64 (-1), .bool false] : Array Value)[i]? := fun i => World.cell?_alloc_at _ _ _ _ hz.symm
  have hk : Keep (fun _ => False) (w.alloc (flatZ t n)) (((w.alloc (flatZ t n)).alloc (.map #[] 0)).alloc (.cells #[.slice (some ⟨w.heap.size, 0, none⟩) n n, .map (some (w.heap.size + 1)), .int .i64 (-1), .bool false] t')) := ((Keep.refl _ _).alloc _).alloc _
  refine ⟨dnew_ok n h1 h2, ⟨n, by rw [hn]; exact Nat.le_refl _, by omega, by rw [hn]; exact hc 0⟩, hc 1, hc 2, hc 3, fun i _ => World.frozen?_alloc_at _ _ _ _ hz.symm, ⟨[], ?_, fun k => ?_⟩, fun i hi => ?_, by omega, by omega, by omega⟩
  · have := (MapAt.made (w.alloc (flatZ t n)) .i64).alloc (.cells #[.slice (some ⟨w.heap.size, 0, none⟩) n n, .map (some (w.heap.size + 1)), .int .i64 (-1), .bool false] t')
    have e : (w.alloc (flatZ t n)).heap.size = w.heap.size + 1 := by simp
    rw [e] at this; exact this
  · have : (dnew n).waits k = none := by
      unfold Dv.waits
      have hw : (dnew n).w k.toNat = false := getD_rep _ _ _
      rw [hw]; simp
    rw [this]; rfl
  · rw [ho]
    exact (flatZ_sec w t n i (by rw [← hn]; exact hi)).keep hk id
end Go.Pin
namespace Go.Proofs.YtpfkpaombiikcaaGreatDoor
open Go.RowKit Go.Pin
set_option linter.unusedVariables false
set_option linter.unusedSimpArgs false
theorem run_make_secs (n : Nat) (hn : n ≤ 4096) (w : World) : (Instr.makeSlice 61 (.int .i64 (n : Int)) (.int .i64 (n : Int))).run Tryz.prog w = .ok (.slice (some ⟨w.heap.size, 0, none⟩) n n) (w.alloc (flatZ 93 n)) := by
  have hp : (Tryz.prog.info? 93).map (fun i => (i.zero, i.size, i.bytes)) = some (some (secVal secZ), 64, 64) := by kernel_rfl
  obtain ⟨i, hi, hz, hs, hb⟩ := info_parts hp
  have := run_make (P := Tryz.prog) w 61 93 i (secVal secZ) Tryz.underlying61 hi hz .i64 .i64 (n : Int) (n : Int) (by omega) (Int.le_refl _) (by rw [hb]; omega) (by omega)
  rw [this, hs]
  simp only [Int.toNat_natCast]
  rw [madeCells_flat]; rfl
set_option maxHeartbeats 800000 in
theorem dev_new_no (n : Int) (hn : n < 1 ∨ 4096 < n) (w : World) :
    Calls Tryz.prog 5 #[.int .i64 n] w fun e w' => e = .returned (.tuple #[.pointer none, .int .i64 1]) ∧ w' = w := by
  rcases hn with h | h
  · go_enter Tryz.func5, Tryz.ntmps5
    go_wp2_with fail
    go_ret2
    exact ⟨rfl, rfl⟩
  · have h2 : ¬ n < 1 := by omega
    go_enter Tryz.func5, Tryz.ntmps5
    go_wp2_with fail
    go_ret2
    exact ⟨rfl, rfl⟩
set_option maxHeartbeats 800000 in
theorem dev_new (n : Nat) (h1 : 1 ≤ n) (h2 : n ≤ 4096) (w : World) :
    Calls Tryz.prog 5 #[.int .i64 (n : Int)] w fun e w' => e = .returned (.tuple #[.pointer (some ⟨w.heap.size + 2, 0, none⟩), .int .i64 0]) ∧ DevAt w' (w.heap.size + 2) w.heap.size (w.heap.size + 1) (dnew n) ∧ w'.heap.size = w.heap.size + 3 ∧ Below w.heap.size w w' := by
  have hmk := run_make_secs n h2
  have hmm := @run_makeMap Tryz.prog
  have h3 : ¬ ((n : Int) < 1) := by omega
  have h4 : ¬ ((4096 : Int) < n) := by omega
  go_enter Tryz.func5, Tryz.ntmps5
  go_wp2_with fail
  go_ret2
  refine ⟨rfl, DevAt.made w _ _ n h1 h2, by simp, (((Below.refl _ _).alloc (Nat.le_refl _) _).alloc (by simp) _).alloc (by simp; omega) _⟩
end Go.Proofs.YtpfkpaombiikcaaGreatDoor
