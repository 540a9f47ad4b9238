/- The sum of chapter 1 as plain words on 32 bits. -/
import Derived.Laws.BitsLemmas
import Derived.Laws.BytesArg

namespace Go.Pin
set_option linter.unusedVariables false
set_option linter.unusedSimpArgs false

def cpoly : BitVec 32 := 0x82f63b78#32
def cstep (r : BitVec 32) : BitVec 32 := (r >>> 1) ^^^ (if r.getLsbD 0 then cpoly else 0#32)
def csteps : Nat → BitVec 32 → BitVec 32
  | 0, r => r
  | n + 1, r => cstep (csteps n r)
def ctake (r : BitVec 32) (b : UInt8) : BitVec 32 := csteps 8 (r ^^^ b.toBitVec.zeroExtend 32)
def crun (r : BitVec 32) (l : List UInt8) : BitVec 32 := l.foldl ctake r
def cmore (sum : BitVec 32) (l : List UInt8) : BitVec 32 := ~~~ (crun (~~~ sum) l)
/-- The four bytes, the highest first. -/
def u32be (r : BitVec 32) : List UInt8 := [UInt8.ofNat (r.toNat / 16777216), UInt8.ofNat (r.toNat / 65536), UInt8.ofNat (r.toNat / 256), UInt8.ofNat r.toNat]
def u32v (r : BitVec 32) : Int := (r.toNat : Int)

theorem u32v_range (r : BitVec 32) : 0 ≤ u32v r ∧ u32v r < 4294967296 := by
  unfold u32v; have := r.isLt; omega

theorem ofInt_u32v (r : BitVec 32) : BitVec.ofInt 32 (u32v r) = r := by
  apply BitVec.eq_of_toNat_eq
  rw [u32v, BitVec.ofInt_natCast, BitVec.toNat_ofNat]; exact Nat.mod_eq_of_lt r.isLt

theorem wrap_u32v (r : BitVec 32) : IntKind.u32.wrap (u32v r) = u32v r := by
  rw [IntKind.wrap_u32]; have := u32v_range r; omega

theorem bits_xor_u32v (a b : BitVec 32) : bits .xor .u32 (u32v a) (u32v b) = u32v (a ^^^ b) := by
  show IntKind.u32.wrap ((BitVec.ofInt 32 (u32v a) ^^^ BitVec.ofInt 32 (u32v b)).toNat : Int) = _
  rw [ofInt_u32v, ofInt_u32v]; exact wrap_u32v _

theorem bits_and_u32v (a b : BitVec 32) : bits .and .u32 (u32v a) (u32v b) = u32v (a &&& b) := by
  show IntKind.u32.wrap ((BitVec.ofInt 32 (u32v a) &&& BitVec.ofInt 32 (u32v b)).toNat : Int) = _
  rw [ofInt_u32v, ofInt_u32v]; exact wrap_u32v _

theorem u32v_shr (a : BitVec 32) (k : Nat) : u32v a / (2 ^ k : Nat) = u32v (a >>> k) := by
  unfold u32v
  rw [BitVec.toNat_ushiftRight, Nat.shiftRight_eq_div_pow]; simp

theorem u32v_one : u32v 1#32 = 1 := by decide

theorem cstep_law (r : BitVec 32) : bits .xor .u32 (u32v r / 2) (2197175160 * bits .and .u32 (u32v r) 1 % 4294967296) = u32v (cstep r) := by
  have e1 : u32v r / (2 : Int) = u32v (r >>> 1) := by unfold u32v; rw [BitVec.toNat_ushiftRight, Nat.shiftRight_eq_div_pow]; omega
  have e2 : bits .and .u32 (u32v r) 1 = u32v (r &&& 1#32) := by rw [← u32v_one]; exact bits_and_u32v r 1#32
  have e3 : r &&& 1#32 = if r.getLsbD 0 then 1#32 else 0#32 := by
    have : r &&& 1#32 = if r.getLsbD 0 then BitVec.twoPow 32 0 else 0#32 := by rw [← BitVec.and_twoPow]; rfl
    rw [this]; rfl
  have e4 : 2197175160 * u32v (r &&& 1#32) % 4294967296 = u32v (if r.getLsbD 0 then cpoly else 0#32) := by
    rw [e3]; split <;> decide
  rw [e1, e2, e4, bits_xor_u32v]; rfl

theorem u32v_xor_byte (r : BitVec 32) (b : UInt8) : bits .xor .u32 (u32v r) (b.toNat : Int) = u32v (r ^^^ b.toBitVec.zeroExtend 32) := by
  have : (b.toNat : Int) = u32v (b.toBitVec.zeroExtend 32) := by
    unfold u32v
    rw [BitVec.toNat_setWidth]
    have := b.toNat_lt
    simp only [UInt8.toNat_toBitVec]
    omega
  rw [this, bits_xor_u32v]
theorem not_u32v (n : BitVec 32) : bits BinOp.xor IntKind.u32 IntKind.u32.max (u32v n) = u32v (~~~ n) := by
  have : IntKind.u32.max = u32v (BitVec.allOnes 32) := by decide
  rw [this, bits_xor_u32v, BitVec.allOnes_xor]

theorem crun_take (r : BitVec 32) (l : List UInt8) (k : Nat) (h : k < l.length) : crun r (l.take (k + 1)) = ctake (crun r (l.take k)) (l.getD k 0) := by
  unfold crun
  rw [List.take_succ_eq_append_getElem h, List.foldl_append]; simp [h]


def cput (s : ByteArray) : ByteArray := ⟨(u32be (cmore 0#32 s.data.toList) ++ s.data.toList).toArray⟩
def cget (s : ByteArray) : ByteArray × Bool := if s.size < 4 ∨ cput (s.extract 4 s.size) ≠ s then (ByteArray.empty, false) else (s.extract 4 s.size, true)

theorem ofNat_mod (n : Nat) : UInt8.ofNat (n % 256) = UInt8.ofNat n := by
  apply UInt8.toNat_inj.1; simp

theorem cput_law (s : ByteArray) : strOfNums [u32v (cmore 0#32 s.data.toList) / 16777216, u32v (cmore 0#32 s.data.toList) / 65536 % 256, u32v (cmore 0#32 s.data.toList) / 256 % 256, u32v (cmore 0#32 s.data.toList) % 256] ++ s = cput s := by
  generalize hr : cmore 0#32 s.data.toList = r
  have h1 : UInt8.ofNat ((u32v r / (16777216 : Int)).toNat) = UInt8.ofNat (r.toNat / 16777216) := by
    have : (u32v r / (16777216 : Int)).toNat = r.toNat / 16777216 := by unfold u32v; omega
    rw [this]
  have h2 : UInt8.ofNat ((u32v r / (65536 : Int) % 256).toNat) = UInt8.ofNat (r.toNat / 65536) := by
    have : (u32v r / (65536 : Int) % 256).toNat = r.toNat / 65536 % 256 := by unfold u32v; omega
    rw [this, ofNat_mod]
  have h3 : UInt8.ofNat ((u32v r / (256 : Int) % 256).toNat) = UInt8.ofNat (r.toNat / 256) := by
    have : (u32v r / (256 : Int) % 256).toNat = r.toNat / 256 % 256 := by unfold u32v; omega
    rw [this, ofNat_mod]
  have h4 : UInt8.ofNat ((u32v r % 256).toNat) = UInt8.ofNat r.toNat := by
    have : (u32v r % 256).toNat = r.toNat % 256 := by unfold u32v; omega
    rw [this, ofNat_mod]
  apply ByteArray.ext
  unfold cput strOfNums u32be
  simp only [hr, List.map, ByteArray.data_append]
  rw [h1, h2, h3, h4]
  simp

/-! ### the document's own loop: a byte's bits one by one -/
def rbit (r : BitVec 32) (b : BitVec 32) : BitVec 32 := (r >>> 1) ^^^ (if (r ^^^ b).getLsbD 0 then cpoly else 0#32)
def rbits : Nat → BitVec 32 → UInt8 → BitVec 32
  | 0, r, _ => r
  | n + 1, r, b => rbit (rbits n r b) (b.toBitVec.zeroExtend 32 >>> n)

theorem rbits_csteps (r : BitVec 32) (b : UInt8) (n : Nat) : csteps n (r ^^^ b.toBitVec.zeroExtend 32) = rbits n r b ^^^ (b.toBitVec.zeroExtend 32 >>> n) := by
  induction n with
  | zero => simp [csteps, rbits]
  | succ n ih =>
    rw [csteps, ih, rbits, rbit, cstep, BitVec.ushiftRight_xor_distrib, BitVec.shiftRight_add]
    generalize rbits n r b = x
    generalize b.toBitVec.zeroExtend 32 >>> n = y
    rw [BitVec.xor_assoc, BitVec.xor_assoc, BitVec.xor_comm (y >>> 1)]

theorem rbits_take (r : BitVec 32) (b : UInt8) : rbits 8 r b = ctake r b := by
  rw [ctake, rbits_csteps]
  have : (b.toBitVec.zeroExtend 32 >>> 8) = 0#32 := by
    apply BitVec.eq_of_toNat_eq
    rw [BitVec.toNat_ushiftRight, BitVec.toNat_setWidth]
    have := b.toNat_lt
    simp only [UInt8.toNat_toBitVec, Nat.shiftRight_eq_div_pow]
    simp; omega
  rw [this, BitVec.xor_zero]

theorem byte_shr (c : UInt8) (j : Nat) : ((c.toNat : Int) / 2 ^ j % 4294967296) = u32v (c.toBitVec.zeroExtend 32 >>> j) := by
  unfold u32v
  rw [BitVec.toNat_ushiftRight, BitVec.toNat_setWidth, Nat.shiftRight_eq_div_pow]
  simp only [UInt8.toNat_toBitVec]
  have h := c.toNat_lt
  have h1 : c.toNat / 2 ^ j ≤ c.toNat := Nat.div_le_self _ _
  have h2 : c.toNat % 2 ^ 32 = c.toNat := Nat.mod_eq_of_lt (by omega)
  rw [h2]
  have h3 : ((c.toNat : Int) / 2 ^ j) = ((c.toNat / 2 ^ j : Nat) : Int) := by simp
  rw [h3]; generalize c.toNat / 2 ^ j = d at h1 ⊢; omega

theorem rbit_test (x : BitVec 32) (c : UInt8) (j : Nat) :
    ((bits .xor .u32 (u32v x) ((c.toNat : Int) / 2 ^ j % 4294967296)).tmod 2 == 1) = (x ^^^ (c.toBitVec.zeroExtend 32 >>> j)).getLsbD 0 := by
  rw [byte_shr, bits_xor_u32v]
  generalize x ^^^ (c.toBitVec.zeroExtend 32 >>> j) = y
  have h0 := (u32v_range y).1
  rw [Int.tmod_eq_emod_of_nonneg h0]
  have : y.getLsbD 0 = decide (y.toNat % 2 = 1) := by
    rw [BitVec.getLsbD, Nat.testBit_zero]
  rw [this, Bool.eq_iff_iff]
  unfold u32v
  simp only [beq_iff_eq, decide_eq_true_iff]
  omega

theorem rbit_yes (x b : BitVec 32) (h : (x ^^^ b).getLsbD 0 = true) : bits .xor .u32 (u32v x / 2) 2197175160 = u32v (rbit x b) := by
  have e1 : u32v x / (2 : Int) = u32v (x >>> 1) := by unfold u32v; rw [BitVec.toNat_ushiftRight, Nat.shiftRight_eq_div_pow]; omega
  have e2 : (2197175160 : Int) = u32v cpoly := by decide
  rw [e1, e2, bits_xor_u32v, rbit, if_pos h]
theorem rbit_no (x b : BitVec 32) (h : (x ^^^ b).getLsbD 0 = false) : u32v x / 2 = u32v (rbit x b) := by
  have e1 : u32v x / (2 : Int) = u32v (x >>> 1) := by unfold u32v; rw [BitVec.toNat_ushiftRight, Nat.shiftRight_eq_div_pow]; omega
  rw [e1, rbit, h]; simp

theorem cput_size (s : ByteArray) : (cput s).size = s.size + 4 := by
  show (u32be (cmore 0#32 s.data.toList) ++ s.data.toList).toArray.size = _
  simp [u32be]
theorem cput_extract (s : ByteArray) : (cput s).extract 4 (cput s).size = s := by
  apply ByteArray.ext
  rw [ByteArray.data_extract, cput_size]
  show (u32be (cmore 0#32 s.data.toList) ++ s.data.toList).toArray.extract 4 (s.size + 4) = s.data
  apply Array.ext'
  simp [u32be, List.extract]
  exact List.take_of_length_le (Nat.le_refl _)
theorem cget_cput (s : ByteArray) : cget (cput s) = (s, true) := by
  unfold cget
  rw [cput_extract, if_neg]
  rintro (h | h)
  · rw [cput_size] at h; omega
  · exact h rfl
theorem cmore_append (r : BitVec 32) (a b : List UInt8) : cmore (cmore r a) b = cmore r (a ++ b) := by
  unfold cmore crun
  rw [List.foldl_append, BitVec.not_not]
theorem extract_data (s : ByteArray) (i j : Nat) : (s.extract i j).data.toList = (s.data.toList.take j).drop i := by
  rw [ByteArray.data_extract]; simp [List.extract_eq_take_drop, List.drop_take]
theorem cmore_parts (s : ByteArray) (k : Nat) : cmore (cmore 0#32 (List.take k s.data.toList)) (List.take (s.size - k) (List.drop k s.data.toList)) = cmore 0#32 s.data.toList := by
  rw [cmore_append]
  congr 1
  have : List.take (s.size - k) (List.drop k s.data.toList) = List.drop k s.data.toList := List.take_of_length_le (by simp)
  rw [this, List.take_append_drop]

end Go.Pin
