/- vdisk: plain laws of blocks: whole and bare. -/
import Derived.Test.YtpebpcmppcpkdaaDoorVdE
import Derived.Lib.LazyBuf
set_option maxRecDepth 16000
namespace Go.Pin
open Go.RowKit
set_option linter.unusedVariables false
set_option linter.unusedSimpArgs false
theorem repeat_eq (n : Nat) : Lib.repeatL [0] n = List.replicate n 0 := by
  induction n with
  | zero => rfl
  | succ n ih => simp [Lib.repeatL, ih, List.replicate_succ]
theorem trim_app (l : List UInt8) (k : Nat) : Lib.trimRightB (l ++ List.replicate k 0) 0 = Lib.trimRightB l 0 := by
  unfold Lib.trimRightB
  rw [List.reverse_append, List.reverse_replicate]
  congr 1
  induction k with
  | zero => rfl
  | succ k ih => rw [List.replicate_succ, List.cons_append, List.dropWhile_cons_of_pos (by decide)]; exact ih
theorem zeros_of_all : ∀ l : List UInt8, (∀ x ∈ l, (x == 0) = true) → l = List.replicate l.length 0
  | [], _ => rfl
  | x :: l, h => by
    have hx : x = 0 := by simpa using h x (by simp)
    rw [List.length_cons, List.replicate_succ, hx, ← zeros_of_all l fun y hy => h y (by simp [hy])]
theorem trim_split (l : List UInt8) : ∃ k, l = Lib.trimRightB l 0 ++ List.replicate k 0 := by
  have h := List.takeWhile_append_dropWhile (p := (· == (0 : UInt8))) (l := l.reverse)
  have h2 := zeros_of_all (l.reverse.takeWhile (· == 0)) (fun x hx => by
    have := List.all_takeWhile (p := (· == (0 : UInt8))) (l := l.reverse)
    rw [List.all_eq_true] at this
    exact this x hx)
  refine ⟨(l.reverse.takeWhile (· == 0)).length, ?_⟩
  have h3 := congrArg List.reverse h
  rw [List.reverse_append, List.reverse_reverse] at h3
  unfold Lib.trimRightB
  rw [← List.reverse_replicate, ← h2]
  exact h3.symm
theorem ba_ext {s t : ByteArray} (h : s.data.toList = t.data.toList) : s = t := by
  cases s; cases t
  simp only [ByteArray.mk.injEq]
  exact Array.toList_inj.1 h
theorem whole_list (s : ByteArray) : (wholeB s).data.toList = s.data.toList ++ List.replicate (64 - s.size) 0 := by
  unfold wholeB
  rw [ByteArray.data_append, Array.toList_append]
  show s.data.toList ++ (Lib.repeatL [0] (64 - s.size)).toArray.toList = _
  rw [List.toList_toArray, repeat_eq]
theorem bare_list (s : ByteArray) : (bareB s).data.toList = Lib.trimRightB s.data.toList 0 := by
  unfold bareB; rw [List.toList_toArray]
theorem ba_size (s : ByteArray) : s.data.toList.length = s.size := by rw [Array.length_toList]; rfl
theorem bare_whole (s : ByteArray) : bareB (wholeB s) = bareB s := by
  apply ba_ext
  rw [bare_list, bare_list, whole_list, trim_app]
theorem whole_bare (s : ByteArray) (h : s.size ≤ 64) : wholeB (bareB s) = wholeB s := by
  apply ba_ext
  rw [whole_list, whole_list, bare_list]
  obtain ⟨k, hk⟩ := trim_split s.data.toList
  have h1 : (bareB s).size + k = s.size := by
    rw [← ba_size, ← ba_size, bare_list]
    have := congrArg List.length hk
    rw [List.length_append, List.length_replicate] at this
    omega
  conv => rhs; rw [hk]
  rw [List.append_assoc, List.replicate_append_replicate]
  congr 2
  omega
/-- Two texts are the same block just if they are the same without the 0 at their ends. -/
theorem whole_eq (s t : ByteArray) (hs : s.size ≤ 64) (ht : t.size ≤ 64) : wholeB s = wholeB t ↔ bareB s = bareB t := by
  constructor
  · intro h; rw [← bare_whole s, h, bare_whole]
  · intro h; rw [← whole_bare s hs, h, whole_bare t ht]
theorem blk_setB (D : Vd) (k j : Int) (s : ByteArray) : (D.setB k s).blk j = if j = k then bareB s else D.blk j := by
  unfold Vd.setB
  split
  · rename_i h
    unfold Vd.blk
    dsimp only
    rw [aget_del]
    split
    · rw [h]; rfl
    · rfl
  · unfold Vd.blk
    dsimp only
    rw [aget_set]
    split <;> rfl
end Go.Pin
namespace Go.Proofs.YtpebpcmppcpkdaaDoor
open Go.RowKit Go.Pin
set_option linter.unusedVariables false
set_option linter.unusedSimpArgs false
def zeros (n : Nat) : ByteArray := ⟨Array.replicate n 0⟩
theorem run_string_zeros (w : World) (n c : Nat) (h : w.heap[c]? = some (.cells (Array.replicate n (.int .u8 0)) 5 (0, 0))) (k : Nat) : (convert 40 9 (.slice (some ⟨c, 0, none⟩) n k)).run Tryd.prog w = .ok (.string (zeros n)) w := by
  have hb : BytesAt w c (List.replicate n 0) := fun j hj => by
    rw [List.length_replicate] at hj
    unfold World.cell?
    simp [h, List.getD, hj]
  have := run_string_bytes (P := Tryd.prog) w 40 9 5 Tryd.underlying40 Tryd.underlying5 Tryd.underlying9 c (List.replicate n 0) n k (by simp) hb
  rw [this]
  unfold zeros
  rw [List.toArray_replicate]
theorem make_u8 (w : World) (n : Nat) (hn : n ≤ 64) : (Instr.makeSlice 40 (.int .i64 (n : Int)) (.int .i64 (n : Int))).run Tryd.prog w = .ok (.slice (some ⟨w.heap.size, 0, none⟩) n n) (w.alloc (.cells (Array.replicate n (.int .u8 0)) 5)) := by
  have hp : (Tryd.prog.info? 5).map (fun i => (i.zero, i.size, i.bytes)) = some (some (.int .u8 0), 1, 1) := by kernel_rfl
  obtain ⟨i0, hi, hz0, hz1, hz2⟩ := info_parts hp
  exact run_make_bytes (P := Tryd.prog) w 40 5 i0 Tryd.underlying40 hi hz0 hz1 hz2 n (by omega)
theorem whole_cut (s : ByteArray) (h : s.size ≤ 64) : (s ++ zeros 64).extract 0 64 = wholeB s := by
  apply ba_ext
  rw [whole_list, ByteArray.data_extract, ByteArray.data_append]
  simp only [Array.toList_extract, Array.toList_append, List.extract_eq_take_drop, List.drop_zero, Nat.sub_zero]
  have h1 := ba_size s
  rw [List.take_append, h1, List.take_of_length_le (by omega)]
  congr 1
  show (Array.replicate 64 (0 : UInt8)).toList.take (64 - s.size) = _
  rw [Array.toList_replicate, List.take_replicate]
  congr 1; omega
set_option maxHeartbeats 800000 in
theorem mk_whole (s : ByteArray) (h : s.size ≤ 64) (w : World) :
    Calls Tryd.prog 13 #[.string s] w fun x w' => x = .returned (.string (wholeB s)) ∧ Below w.heap.size w w' := by
  have hmk : ∀ W : World, (Instr.makeSlice 40 (.int .i64 64) (.int .i64 64)).run Tryd.prog W = .ok (.slice (some ⟨W.heap.size, 0, none⟩) 64 64) (W.alloc (.cells (Array.replicate 64 (.int .u8 0)) 5)) := fun W => make_u8 W 64 (by omega)
  have hcv := run_string_zeros (w.alloc (.cells (Array.replicate 64 (.int .u8 0)) 5)) 64 w.heap.size (Go.heap_alloc_new w _) 64
  have hz : (zeros 64).size = 64 := by show (Array.replicate 64 (0 : UInt8)).size = 64; simp
  have HR := Pin.Aside.mk (whole_cut s h)
  generalize zeros 64 = z at *
  have hsum : s.size + z.size ≤ 9223372036854775807 := by omega
  have hs2 : (s ++ z).size = s.size + 64 := by rw [ByteArray.size_append, hz]
  have HB := Pin.Aside.mk (((Keep.refl (fun _ => False) w).alloc (.cells (Array.replicate 64 (.int .u8 0)) 5)).below (Nat.le_refl _) fun _ q => q.elim)
  generalize hM : Array.replicate 64 (Value.int .u8 0) = M at *
  clear hM
  go_enter Tryd.func13, Tryd.ntmps13
  go_wp2_with fail
  go_ret
  exact ⟨by rw [← HR.out]; rfl, HB.out⟩
end Go.Proofs.YtpebpcmppcpkdaaDoor
