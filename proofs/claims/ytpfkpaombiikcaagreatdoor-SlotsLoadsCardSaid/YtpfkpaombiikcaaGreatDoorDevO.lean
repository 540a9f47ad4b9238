import Derived.Test.YtpfkpaombiikcaaGreatDoorDevC
/- What device.Of computes. -/
set_option maxRecDepth 16000
namespace Go.Pin
open Go.RowKit
set_option linter.unusedVariables false
set_option linter.unusedSimpArgs false
/-- The sectors of an image. -/
def chunk (s : ByteArray) (i : Nat) : ByteArray := s.extract (64 * i) (64 * i + 64)
def dofv (s : ByteArray) : Dv := ⟨(List.range (s.size / 64)).map (chunk s), (List.range (s.size / 64)).map (chunk s), List.replicate (s.size / 64) false, -1, false⟩
theorem chunk_size (s : ByteArray) (n i : Nat) (hs : s.size = n * 64) (hi : i < n) : (chunk s i).size = 64 := by
  unfold chunk; rw [ByteArray.size_extract]; omega
theorem dofv_n (s : ByteArray) : (dofv s).n = s.size / 64 := by show (dofv s).old.length = _; simp [dofv]
theorem dofv_o (s : ByteArray) (i : Nat) (hi : i < s.size / 64) : (dofv s).o i = chunk s i := by unfold Dv.o dofv; simp [List.getD, hi]
theorem dofv_w (s : ByteArray) (i : Nat) : (dofv s).w i = false := getD_rep _ _ _
theorem dofv_ok (s : ByteArray) (n : Nat) (hs : s.size = n * 64) (h1 : 1 ≤ n) (h2 : n ≤ 4096) : (dofv s).ok := by
  have hn := dofv_n s
  have hd : s.size / 64 = n := by omega
  have hz : ∀ i, ((dofv s).o i).size = 64 := fun i => by
    by_cases hi : i < n
    · rw [dofv_o s i (by omega)]; exact chunk_size s n i hs hi
    · have : (dofv s).old.length ≤ i := by
        have : (dofv s).n ≤ i := by rw [hn]; omega
        exact this
      unfold Dv.o
      rw [List.getD, List.getElem?_eq_none this]; rfl
  exact ⟨by rw [hn]; omega, by rw [hn]; omega, by rw [hn]; simp [dofv], by rw [hn]; simp [dofv], hz, hz, fun _ _ => rfl, by simp [dofv], by simp [dofv]⟩
theorem chunk_cells (s : ByteArray) (n i : Nat) (hs : s.size = n * 64) (hi : i < n) : ((s.extract (64 * i) s.size).data.toList.map fun x => Value.int .u8 (x.toNat : Int)).take 64 = secCells (chunk s i) := by
  unfold secCells chunk
  rw [← List.map_take]
  congr 1
  simp only [ByteArray.data_extract, Array.toList_extract, List.extract_eq_take_drop]
  rw [List.take_take]
  congr 1
  omega
section
variable {P : Program}
/-- copy(dst, s), s a text at least as long as dst. -/
theorem run_copy_long (w : World) (dT sT ty elem : TypeId) (b o dLen dCap : Nat) (t : ByteArray)
    (hu : P.underlying dT = some (.slice elem)) (hz : ∀ w, (Go.sizeOf elem).run P w = .ok 1 w) (hle : dLen ≤ t.size)
    (hc : ∀ j, j < dLen → (w.cell? ⟨b, o + j, none⟩).isSome = true) (hf : ∀ j, j < dLen → w.frozen? ⟨b, o + j, none⟩ = false) :
    (Builtin.copy_ #[dT, sT] ty #[.slice (some ⟨b, o, none⟩) dLen dCap, .string t]).run P w = .ok (goInt dLen) (w.setCells b o ((t.data.toList.map fun x => Value.int .u8 (x.toNat : Int)).take dLen)) := by
  have hmin : Nat.min t.size dLen = dLen := Nat.min_eq_right hle
  have hl : ((t.data.toList.map fun x => Value.int .u8 (x.toNat : Int)).take dLen).length = dLen := by
    rw [List.length_take, List.length_map]; exact Nat.min_eq_left (by have : t.data.toList.length = t.size := rfl
                                                                      omega)
  have hst := run_storeCells_cells (P := P) b o ((t.data.toList.map fun x => Value.int .u8 (x.toNat : Int)).take dLen) 0 w (by rw [hl]; simpa using hc) (by rw [hl]; simpa using hf) (by
    intro v hv
    obtain ⟨x, _, rfl⟩ := List.mem_map.1 (List.mem_of_mem_take hv)
    rfl)
  simp [Builtin.copy_, run_underlying hu, Builtin.lenOf, Builtin.firstCells, hz, hmin]
  simp only [Nat.add_zero, List.map_take] at hst
  rw [hst]
  rfl
theorem step_copy_chunk {ops : Array Oper} {o : Oper} {a : Act} {w w' : World} {K : Act → World → Prop} {Q : Exit → Act → World → Prop} {E : Prop}
    (hg : o.guard = none) (d x : Operand) (dT sT : TypeId) (hop : o.op = Op.call { callee := Callee.builtin Builtin.copy, args := #[d, x], argTypes := #[dT, sT] })
    (elem : TypeId) (hu : P.underlying dT = some (.slice elem)) (hz : ∀ w, (Go.sizeOf elem).run P w = .ok 1 w)
    (b off dLen dCap : Nat) (hd : a.eval d = .slice (some ⟨b, off, none⟩) dLen dCap) (t : ByteArray) (hx : a.eval x = .string t) (hle : dLen ≤ t.size)
    (hc : ∀ j, j < dLen → (w.cell? ⟨b, off + j, none⟩).isSome = true) (hf : ∀ j, j < dLen → w.frozen? ⟨b, off + j, none⟩ = false)
    (hw : w.setCells b off ((t.data.toList.map fun x => Value.int .u8 (x.toNat : Int)).take dLen) = w')
    (hK : K (a.put o.dst (goInt dLen)) w') :
    if Region.wanted o (yielded ops a.tmps) = true then Oper.wp P o a w K Q else E := by
  have hw2 : Region.wanted o (yielded ops a.tmps) = true := by simp [Region.wanted, hg]
  rw [if_pos hw2]
  have hrun := run_copy_long (P := P) w dT sT o.type elem b off dLen dCap t hu hz hle hc hf
  unfold Oper.wp
  simp [execOp, hop, resolve, invoke, builtin, hd, hx, hrun, Result.andThen]
  rw [hw]
  exact hK
end
/-- The device of an image. -/
theorem DevAt.filled {a w : World} {b f m n : Nat} {s : ByteArray} (h : DevAt a b f m (dnew n)) (hk : Keep (fun k => k = f) a w) (hs : s.size = n * 64) (h1 : 1 ≤ n) (h2 : n ≤ 4096) (hc : ∀ i, i < n → SecAt w f (i * 64) (chunk s i)) : DevAt w b f m (dofv s) := by
  obtain ⟨c, hc1, hc2, hc0⟩ := h.c0
  obtain ⟨L, hL1, hL2⟩ := h.mp
  have hd : s.size / 64 = n := by omega
  have hn : (dofv s).n = n := by rw [dofv_n, hd]
  have hnn : (dnew n).n = n := by simp [dnew, Dv.n]
  rw [hnn] at hc1 hc0
  refine ⟨dofv_ok s n hs h1 h2, ⟨c, by rw [hn]; exact hc1, hc2, by rw [hn]; exact hk.cell hc0 h.bf⟩, hk.cell h.c1 h.bf, hk.cell h.c2 h.bf, hk.cell h.c3 h.bf, fun i hi => by rw [hk.frozen (p := ⟨b, i, none⟩) h.lt.1 h.bf]; exact h.fr i hi, ⟨L, hL1.keep hk (fun q => h.fm q.symm), fun k => ?_⟩, fun i hi => ?_, h.bf, h.bm, h.fm⟩
  · rw [hL2 k]
    have e1 : (dnew n).waits k = none := by unfold Dv.waits; rw [show (dnew n).w k.toNat = false from getD_rep _ _ _]; simp
    have e2 : (dofv s).waits k = none := by unfold Dv.waits; rw [dofv_w]; simp
    rw [e1, e2]
  · rw [hn] at hi
    rw [dofv_o s i (by omega)]
    exact hc i hi
end Go.Pin
namespace Go.Proofs.YtpfkpaombiikcaaGreatDoor
open Go.RowKit Go.Pin
set_option linter.unusedVariables false
set_option linter.unusedSimpArgs false
/-- A device in blocks of its own. -/
def NewTo (d : Dv) (B : Nat) (w : World) (e : Ending) (w' : World) : Prop :=
  e = .returned (.tuple #[.pointer (some ⟨B + 2, 0, none⟩), .int .i64 0]) ∧ DevAt w' (B + 2) B (B + 1) d ∧ B + 3 ≤ w'.heap.size ∧ Below B w w'
end Go.Proofs.YtpfkpaombiikcaaGreatDoor
