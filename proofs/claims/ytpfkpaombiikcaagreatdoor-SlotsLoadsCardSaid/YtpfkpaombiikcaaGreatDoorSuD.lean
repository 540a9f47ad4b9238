import Derived.Test.YtpfkpaombiikcaaGreatDoorZPlain
import Derived.Test.YtpfkpaombiikcaaGreatDoorSec
import Derived.Lib.TrimByte
/- What super.Put and super.Get compute: a sector with a body. -/
set_option maxRecDepth 16000
namespace Go.Pin
open Go.RowKit
set_option linter.unusedVariables false
set_option linter.unusedSimpArgs false
theorem fixedS_size8 (n : Nat) (k : Int) : (fixedS n k).size ≤ 8 := by
  unfold fixedS
  split
  · exact Nat.zero_le _
  · rename_i h; rw [size_mk, fixedL_len]; omega
/-- A sector with a body. -/
def sbody (g : Nat) (b : ByteArray) : ByteArray := fixedS g 8 ++ fixedS b.size 1 ++ b ++ zeros (51 - b.size)
def sput (g : Int) (b : ByteArray) : ByteArray × Bool := if g = 0 ∨ 51 < b.size then (⟨#[]⟩, false) else (cput (sbody g.toNat b), true)
theorem sbody_size (g : Nat) (b : ByteArray) (hb : b.size ≤ 51) : (sbody g b).size ≤ 67 := by
  unfold sbody
  have h1 := fixedS_size8 g 8
  have h2 := fixedS_size8 b.size 1
  simp only [ByteArray.size_append, zeros_size]; omega
theorem Rd.fixed_leS (r : Rd) (k : Int) : (r.fixed k).2.s.size ≤ r.s.size := by
  unfold Rd.fixed
  refine Nat.le_trans (Rd.bytes_le _ _) ?_
  split
  · exact Nat.zero_le _
  · exact Nat.le_refl _
theorem Rd.fixed_ltS (r : Rd) : (r.fixed 1).1 < 256 := by
  unfold Rd.fixed
  rw [if_neg (by omega)]
  have h := Rd.bytes_size r 1
  have h2 := beNat_lt (r.bytes 1).1.data.toList
  have h3 : (r.bytes 1).1.data.toList.length ≤ 1 := by rw [Array.length_toList]; show (r.bytes 1).1.size ≤ 1; omega
  exact Nat.lt_of_lt_of_le h2 (Nat.pow_le_pow_right (by omega) h3)
/-- What the reader finds in a sector's text behind its sum: gen, body, the rest, the reader at the end. -/
def sread8 (c : ByteArray) : Nat × ByteArray × ByteArray × Rd :=
  let x := (Rd.mk c false).fixed 8
  let y := x.2.fixed 1
  let z := y.2.bytes y.1
  let r := z.2.bytes z.2.s.size
  (x.1, z.1, r.1, r.2)
def sget (s : ByteArray) : Int × ByteArray × Bool :=
  if (cget s).2 = false ∨ s.size ≠ 64 then (0, ⟨#[]⟩, false) else
  let q := sread8 (cget s).1
  if q.2.2.2.bad = true ∨ q.1 = 0 ∨ Lib.trimB q.2.2.1.data.toList 0 ≠ [] then (0, ⟨#[]⟩, false) else (q.1, q.2.1, true)
end Go.Pin
