/- The plain laws of the sum: it is linear; a run of up to 32 turned bits turns it. -/
import Derived.Test.YtpfkpaombiikcaaCrcM
import Derived.Test.YtpfkpaombiikcaaBytes
namespace Go.Pin
set_option linter.unusedVariables false
set_option linter.unusedSimpArgs false

theorem cstep_xor (a b : BitVec 32) : cstep (a ^^^ b) = cstep a ^^^ cstep b := by
  unfold cstep
  rw [BitVec.ushiftRight_xor_distrib, BitVec.getLsbD_xor]
  cases a.getLsbD 0 <;> cases b.getLsbD 0 <;> simp
  · rw [BitVec.xor_assoc]
  · rw [BitVec.xor_assoc, BitVec.xor_comm (b >>> 1), ← BitVec.xor_assoc]
  · rw [show (a >>> 1 ^^^ cpoly) ^^^ (b >>> 1 ^^^ cpoly) = (a >>> 1 ^^^ b >>> 1) ^^^ (cpoly ^^^ cpoly) from by
      rw [BitVec.xor_assoc, BitVec.xor_assoc, BitVec.xor_comm cpoly (b >>> 1 ^^^ cpoly), BitVec.xor_assoc]]
    simp

theorem csteps_xor (n : Nat) (a b : BitVec 32) : csteps n (a ^^^ b) = csteps n a ^^^ csteps n b := by
  induction n with
  | zero => rfl
  | succ n ih => rw [csteps, ih, cstep_xor]; rfl

def xorL : List UInt8 → List UInt8 → List UInt8 := List.zipWith (· ^^^ ·)

theorem ctake_xor (r1 r2 : BitVec 32) (a b : UInt8) : ctake (r1 ^^^ r2) (a ^^^ b) = ctake r1 a ^^^ ctake r2 b := by
  unfold ctake
  rw [← csteps_xor]
  congr 1
  rw [UInt8.toBitVec_xor]
  have : (a.toBitVec ^^^ b.toBitVec).zeroExtend 32 = a.toBitVec.zeroExtend 32 ^^^ b.toBitVec.zeroExtend 32 := by
    apply BitVec.eq_of_getLsbD_eq; intro i hi; simp
  rw [this, BitVec.xor_assoc, BitVec.xor_assoc]
  congr 1
  rw [← BitVec.xor_assoc, BitVec.xor_comm r2, BitVec.xor_assoc]

theorem crun_xor (l1 l2 : List UInt8) (h : l1.length = l2.length) (r1 r2 : BitVec 32) : crun (r1 ^^^ r2) (xorL l1 l2) = crun r1 l1 ^^^ crun r2 l2 := by
  induction l1 generalizing l2 r1 r2 with
  | nil => cases l2 with
    | nil => rfl
    | cons => simp at h
  | cons a l1 ih => cases l2 with
    | nil => simp at h
    | cons b l2 =>
      show crun (ctake (r1 ^^^ r2) (a ^^^ b)) (xorL l1 l2) = crun (ctake r1 a) l1 ^^^ crun (ctake r2 b) l2
      rw [ctake_xor]; exact ih l2 (by simpa using h) _ _

theorem cmore_xor3 (a b c : List UInt8) (h1 : a.length = b.length) (h2 : b.length = c.length) : cmore 0#32 (xorL (xorL a b) c) = cmore 0#32 a ^^^ cmore 0#32 b ^^^ cmore 0#32 c := by
  unfold cmore
  have hl : (xorL a b).length = c.length := by unfold xorL; simp; omega
  have e : (~~~0#32 : BitVec 32) = (~~~0#32 ^^^ ~~~0#32) ^^^ ~~~0#32 := by decide
  have : crun (~~~0#32) (xorL (xorL a b) c) = (crun (~~~0#32) a ^^^ crun (~~~0#32) b) ^^^ crun (~~~0#32) c := by
    conv => lhs; rw [e]
    rw [crun_xor _ _ hl, crun_xor _ _ h1]
  rw [this]
  generalize crun (~~~0#32) a = x
  generalize crun (~~~0#32) b = y
  generalize crun (~~~0#32) c = z
  apply BitVec.eq_of_getLsbD_eq
  intro i hi
  simp only [BitVec.getLsbD_not, BitVec.getLsbD_xor, hi, decide_true, Bool.true_and]
  cases x.getLsbD i <;> cases y.getLsbD i <;> cases z.getLsbD i <;> rfl
theorem bits_xor_byte (a b : UInt8) : bits .xor .u8 (a.toNat : Int) (b.toNat : Int) = ((a ^^^ b).toNat : Int) := by
  have h (a : UInt8) : BitVec.ofInt 8 (a.toNat : Int) = a.toBitVec := by
    apply BitVec.eq_of_toNat_eq
    rw [BitVec.ofInt_natCast, BitVec.toNat_ofNat]; exact Nat.mod_eq_of_lt a.toNat_lt
  show IntKind.u8.wrap ((BitVec.ofInt 8 (a.toNat : Int) ^^^ BitVec.ofInt 8 (b.toNat : Int)).toNat : Int) = _
  rw [h, h, ← UInt8.toBitVec_xor, UInt8.toNat_toBitVec, IntKind.wrap_u8]
  have := (a ^^^ b).toNat_lt
  omega
theorem xor3_len (s t u : ByteArray) (n : Nat) (h1 : n ≤ s.size) (h2 : n ≤ t.size) (h3 : n ≤ u.size) : (xorL (xorL (s.data.toList.take n) (t.data.toList.take n)) (u.data.toList.take n)).length = n := by
  have e1 : s.data.toList.length = s.size := rfl
  have e2 : t.data.toList.length = t.size := rfl
  have e3 : u.data.toList.length = u.size := rfl
  unfold xorL; simp only [List.length_zipWith, List.length_take]; omega
theorem xor3_at (s t u : ByteArray) (n k : Nat) (hk : k < n) (h1 : n ≤ s.size) (h2 : n ≤ t.size) (h3 : n ≤ u.size) :
    (xorL (xorL (s.data.toList.take n) (t.data.toList.take n)) (u.data.toList.take n)).getD k 0 = s[k] ^^^ t[k] ^^^ u[k] := by
  have e1 : k < s.data.toList.length := by have : s.data.toList.length = s.size := rfl; omega
  have e2 : k < t.data.toList.length := by have : t.data.toList.length = t.size := rfl; omega
  have e3 : k < u.data.toList.length := by have : u.data.toList.length = u.size := rfl; omega
  unfold xorL
  simp only [List.getD, List.getElem?_zipWith, List.getElem?_take, if_pos hk, List.getElem?_eq_getElem e1, List.getElem?_eq_getElem e2, List.getElem?_eq_getElem e3, Option.getD_some]
  rfl
theorem xor3_open (s t u : ByteArray) (n : Nat) (h1 : n ≤ s.size) (h2 : n ≤ t.size) (h3 : n ≤ u.size) :
    ∃ X : List UInt8, X.length = n ∧ (∀ k, k < n → ∀ (g1 : k < s.size) (g2 : k < t.size) (g3 : k < u.size), X.getD k 0 = s[k] ^^^ t[k] ^^^ u[k]) ∧
      u32v (cmore 0#32 X) = bits .xor .u32 (bits .xor .u32 (u32v (cmore 0#32 (s.data.toList.take n))) (u32v (cmore 0#32 (t.data.toList.take n)))) (u32v (cmore 0#32 (u.data.toList.take n))) := by
  have e1 : s.data.toList.length = s.size := rfl
  have e2 : t.data.toList.length = t.size := rfl
  have e3 : u.data.toList.length = u.size := rfl
  refine ⟨_, xor3_len s t u n h1 h2 h3, fun k hk _ _ _ => xor3_at s t u n k hk h1 h2 h3, ?_⟩
  rw [bits_xor_u32v, bits_xor_u32v, cmore_xor3 _ _ _ (by simp; omega) (by simp; omega)]
end Go.Pin
