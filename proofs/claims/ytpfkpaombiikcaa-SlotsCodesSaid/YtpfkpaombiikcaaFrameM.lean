/- Frames, plainly: what is packed, and what a text begins with. -/
import Derived.Test.YtpfkpaombiikcaaVarM
import Derived.Test.YtpfkpaombiikcaaCrcM
import Derived.Test.YtpfkpaombiikcaaRdM
import Derived.Test.YtpfkpaombiikcaaRdL
namespace Go.Pin
set_option linter.unusedVariables false
def flen (v : Int) (n : Nat) : ByteArray := if v = 1 then fixedS n 4 else vputS n
def fhead (v : Int) (n : Nat) : ByteArray := fixedS (160 + v).toNat 1 ++ flen v n
def csum (head body : ByteArray) : BitVec 32 := cmore (cmore 0#32 head.data.toList) body.data.toList
def fpack (v : Int) (b : ByteArray) : ByteArray × Bool :=
  if v < 1 ∨ 2 < v ∨ 1048576 < b.size then (⟨#[]⟩, false) else (fhead v b.size ++ fixedS (csum (fhead v b.size) b).toNat 4 ++ b, true)
/-- What stands in a frame's head: the version, how long its body is, and the reader behind it. -/
def fopen (s : ByteArray) : Int × Nat × Rd :=
  let x := (Rd.mk s false).fixed 1
  let v := (x.1 : Int) - 160
  let y := if v = 1 then x.2.fixed 4 else x.2.var
  (v, y.1, y.2)
abbrev Frame := Int × ByteArray × Int × Bool
def fnone : Frame := (0, ⟨#[]⟩, 0, false)
/-- The frame that a text begins with, as the program reads it. -/
def fnext (s : ByteArray) : Frame :=
  let o := fopen s
  if o.1 ≠ 1 ∧ o.1 ≠ 2 then fnone else
  let head := s.extract 0 (s.size - o.2.2.s.size)
  let z := o.2.2.fixed 4
  if z.2.bad = true ∨ 1048576 < o.2.1 ∨ z.2.s.size < o.2.1 then fnone else
  let b := z.2.bytes o.2.1
  if ((csum head b.1).toNat : Int) ≠ (z.1 : Int) then fnone else (o.1, b.1, (s.size : Int) - b.2.s.size, true)
/-- .. as the document does. -/
def fnextR (s : ByteArray) : Frame :=
  let o := fopen s
  let z := o.2.2.fixed 4
  if z.2.s.size < o.2.1 then fnone else
  let b := z.2.bytes o.2.1
  let t := fpack o.1 b.1
  if b.2.bad = true ∨ t.2 = false ∨ s.size < t.1.size ∨ s.extract 0 t.1.size ≠ t.1 then fnone else (o.1, b.1, t.1.size, true)
theorem fixedS_size (n : Nat) (k : Int) : (fixedS n k).size ≤ 8 := by
  unfold fixedS
  split
  · exact Nat.zero_le _
  · rename_i h; rw [size_mk, fixedL_len]; omega
theorem flen_size (v : Int) (n : Nat) : (flen v n).size ≤ 10 := by
  unfold flen
  split
  · exact Nat.le_trans (fixedS_size _ _) (by omega)
  · exact (vputS_size n).1
theorem fhead_size (v : Int) (n : Nat) : (fhead v n).size ≤ 18 := by
  unfold fhead
  have h1 := fixedS_size (160 + v).toNat 1
  have h2 := flen_size v n
  rw [ByteArray.size_append]; omega
theorem fpack_size (v : Int) (b : ByteArray) : (fpack v b).1.size ≤ b.size + 26 := by
  unfold fpack
  split
  · exact Nat.zero_le _
  · have h1 := fhead_size v b.size
    have h2 := fixedS_size (csum (fhead v b.size) b).toNat 4
    simp only [ByteArray.size_append]; omega
end Go.Pin
