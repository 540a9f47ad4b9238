/- slots: a super and a hard state, as plain words: what is put, what is got. -/
import Derived.Test.YtpfkpaombiikcaaBase
import Derived.Test.YtpfkpaombiikcaaRdL
import Derived.Test.YtpfkpaombiikcaaFrameL
set_option maxRecDepth 16000
namespace Go.Pin
open Go.RowKit
set_option linter.unusedVariables false
set_option linter.unusedSimpArgs false
structure Sup where
  v : Int
  snap : Int
  log : Int
  area : Int
  half : Int
  goal : Int
  step : Int
def Sup.val (s : Sup) : Value := .agg #[.int .i64 s.v, .int .i64 s.snap, .int .i64 s.log, .int .i64 s.area, .int .i64 s.half, .int .i64 s.goal, .int .i64 s.step]
def Sup.zero : Sup := ⟨0, 0, 0, 0, 0, 0, 0⟩
def Sup.right (s : Sup) : Bool := decide ((1 ≤ s.v ∧ s.v ≤ 2) ∧ (1 ≤ s.snap ∧ s.snap ≤ 1000) ∧ (1 ≤ s.log ∧ s.log ≤ 1000) ∧ (0 ≤ s.area ∧ s.area ≤ 1) ∧ (0 ≤ s.half ∧ s.half ≤ 1) ∧ (0 ≤ s.goal ∧ s.goal ≤ 2) ∧ (0 ≤ s.step ∧ s.step ≤ 9) ∧ (0 < s.goal ∨ s.step = 0))
theorem Sup.right_iff {s : Sup} (h : s.right = true) : (1 ≤ s.v ∧ s.v ≤ 2) ∧ (1 ≤ s.snap ∧ s.snap ≤ 1000) ∧ (1 ≤ s.log ∧ s.log ≤ 1000) ∧ (0 ≤ s.area ∧ s.area ≤ 1) ∧ (0 ≤ s.half ∧ s.half ≤ 1) ∧ (0 ≤ s.goal ∧ s.goal ≤ 2) ∧ (0 ≤ s.step ∧ s.step ≤ 9) ∧ (0 < s.goal ∨ s.step = 0) := by simpa [Sup.right] using h
/-- A number of a version, of so many bytes in the first. -/
def snum (v : Int) (n : Nat) (k : Int) : ByteArray := if v = 1 then fixedS n k else vputS n
def stake (v : Int) (r : Rd) (k : Int) : Nat × Rd := if v = 1 then r.fixed k else r.var
def supS (s : Sup) : ByteArray := fixedS s.v.toNat 1 ++ snum s.v s.snap.toNat 2 ++ snum s.v s.log.toNat 2 ++ snum s.v s.area.toNat 1 ++ snum s.v s.half.toNat 1 ++ snum s.v s.goal.toNat 1 ++ snum s.v s.step.toNat 1
def supput (s : Sup) : ByteArray × Bool := if s.right = true then (supS s, true) else (⟨#[]⟩, false)
/-- One field as the program takes it. -/
def ssmall (v : Int) (r : Rd) (k : Int) : Int × Rd := (IntKind.i64.wrap ((stake v r k).1 : Int), if 1000 < (stake v r k).1 then Rd.fail else (stake v r k).2)
/-- Six fields, one behind the other. -/
def ssix (t : Rd → Int → Int × Rd) (v : Int) (r : Rd) : Sup × Rd :=
  let a := t r 2
  let b := t a.2 2
  let c := t b.2 1
  let d := t c.2 1
  let e := t d.2 1
  let f := t e.2 1
  (⟨v, a.1, b.1, c.1, d.1, e.1, f.1⟩, f.2)
def supget (b : ByteArray) : Sup × Bool :=
  let x := (Rd.mk b false).fixed 1
  if (x.1 : Int) ≠ 1 ∧ (x.1 : Int) ≠ 2 then (Sup.zero, false) else
  let q := ssix (ssmall x.1) x.1 x.2
  if q.2.bad = true ∨ 0 < q.2.s.size ∨ q.1.right = false then (Sup.zero, false) else (q.1, true)
/-- One field as the document takes it. -/
def srsmall (v : Int) (m : Nat → Nat) (r : Rd) (k : Int) : Int × Rd := (((stake v r k).1 % m k.toNat : Nat), (stake v r k).2)
def srmod (k : Nat) : Nat := if k = 2 then 9999 else 99
def suprefget (b : ByteArray) : Sup × Bool :=
  let x := (Rd.mk b false).fixed 1
  let q := ssix (srsmall x.1 srmod) x.1 x.2
  if (supput q.1).2 = false ∨ (supput q.1).1 ≠ b then (Sup.zero, false) else (q.1, true)
structure Hd where
  term : Int
  vote : Int
  commit : Int
def Hd.val (h : Hd) : Value := .agg #[.int .u64 h.term, .int .i64 h.vote, .int .u64 h.commit]
def Hd.zero : Hd := ⟨0, 0, 0⟩
def hardS (v : Int) (h : Hd) : ByteArray := fixedS (16 + v).toNat 1 ++ snum v h.term.toNat 8 ++ snum v h.vote.toNat 1 ++ snum v h.commit.toNat 8
def hardput (v : Int) (h : Hd) : ByteArray × Bool := if (v = 1 ∨ v = 2) ∧ 0 ≤ h.vote ∧ h.vote ≤ 7 then (hardS v h, true) else (⟨#[]⟩, false)
def hthree (v : Int) (r : Rd) : (Nat × Nat × Nat) × Rd :=
  let a := stake v r 8
  let b := stake v a.2 1
  let c := stake v b.2 8
  ((a.1, b.1, c.1), c.2)
def hardget (b : ByteArray) : Hd × Int × Bool :=
  let x := (Rd.mk b false).fixed 1
  let v := (x.1 : Int) - 16
  if v ≠ 1 ∧ v ≠ 2 then (Hd.zero, 0, false) else
  let q := hthree v x.2
  if q.2.bad = true ∨ 0 < q.2.s.size ∨ 7 < q.1.2.1 then (Hd.zero, 0, false) else (⟨q.1.1, q.1.2.1, q.1.2.2⟩, v, true)
def hardrefget (b : ByteArray) : Hd × Int × Bool :=
  let x := (Rd.mk b false).fixed 1
  let v := (x.1 : Int) - 16
  let q := hthree v x.2
  let h : Hd := ⟨q.1.1, ((q.1.2.1 % 99 : Nat) : Int), q.1.2.2⟩
  if (hardput v h).2 = false ∨ (hardput v h).1 ≠ b then (Hd.zero, 0, false) else (h, v, true)
def ssectors (s : Sup) : Int := if s.right = true then 4 + 2 * (s.snap + s.log) else 0
theorem stake_lt (v : Int) (r : Rd) (k : Int) : (stake v r k).1 < 18446744073709551616 := by
  unfold stake
  split
  · unfold Rd.fixed
    refine Nat.lt_of_lt_of_le (beNat_lt _) ?_
    have h8 : (if (8 : Int) < k then Rd.fail else r).bytes k = (if (8 : Int) < k then Rd.fail else r).bytes k := rfl
    by_cases hk : 8 < k
    · rw [if_pos hk]
      have : (Rd.fail.bytes k).1 = ⟨#[]⟩ := by unfold Rd.bytes; rw [if_pos (.inl rfl)]
      rw [this]; decide
    · rw [if_neg hk]
      have h := Rd.bytes_size r k
      have h3 : (r.bytes k).1.data.toList.length ≤ 8 := by rw [Array.length_toList]; show (r.bytes k).1.size ≤ 8; omega
      exact Nat.le_trans (Nat.pow_le_pow_right (by omega) h3) (by omega)
  · exact Rd.var_lt r
theorem stake_le (v : Int) (r : Rd) (k : Int) : (stake v r k).2.s.size ≤ r.s.size := by
  unfold stake
  split
  · unfold Rd.fixed
    refine Nat.le_trans (Rd.bytes_le _ _) ?_
    split
    · exact Nat.zero_le _
    · exact Nat.le_refl _
  · exact Rd.var_le r
theorem snum_size (v : Int) (n : Nat) (k : Int) : (snum v n k).size ≤ 10 := by
  unfold snum
  split
  · unfold fixedS
    split
    · exact Nat.zero_le _
    · rw [size_mk, fixedL_len]; omega
  · exact (vputS_size n).1
end Go.Pin
