/- Varints and fixed numbers as plain words on lists of bytes. -/
import Derived.Laws.BitsLemmas
import Derived.Laws.BytesArg
namespace Go.Pin
set_option linter.unusedVariables false
set_option linter.unusedSimpArgs false

def vputF : Nat → Nat → List UInt8
  | 0, n => [UInt8.ofNat n]
  | f + 1, n => if n < 128 then [UInt8.ofNat n] else UInt8.ofNat (n % 128 + 128) :: vputF f (n / 128)
/-- A number's bytes. -/
def vput (n : Nat) : List UInt8 := vputF 9 n

theorem vputF_succ (f n : Nat) (h : n < 128 ^ (f + 1)) : vputF (f + 1) n = vputF f n := by
  induction f generalizing n with
  | zero => unfold vputF; rw [if_pos (by simpa using h)]
  | succ f ih =>
    rw [vputF]
    conv => rhs; rw [vputF]
    by_cases h1 : n < 128
    · rw [if_pos h1, if_pos h1]
    · rw [if_neg h1, if_neg h1, ih (n / 128) (by rw [Nat.div_lt_iff_lt_mul (by decide)]; rw [Nat.pow_succ] at h; exact h)]
theorem vput_small (n : Nat) (h : n < 128) : vput n = [UInt8.ofNat n] := by unfold vput; rw [vputF, if_pos h]
theorem vput_big (n : Nat) (h : 128 ≤ n) (hn : n < 18446744073709551616) : vput n = UInt8.ofNat (n % 128 + 128) :: vput (n / 128) := by
  unfold vput
  rw [vputF, if_neg (by omega)]
  rw [vputF_succ 8 (n / 128) (by rw [show (128 : Nat) ^ (8 + 1) = 9223372036854775808 from by decide]; omega)]
theorem vputF_len (f n : Nat) : (vputF f n).length ≤ f + 1 := by
  induction f generalizing n with
  | zero => simp [vputF]
  | succ f ih => rw [vputF]; split
                 · simp
                 · have := ih (n / 128); simp; omega
theorem vput_len (n : Nat) : (vput n).length ≤ 10 := vputF_len 9 n
theorem vputF_pos (f n : Nat) : 0 < (vputF f n).length := by
  cases f with
  | zero => simp [vputF]
  | succ f => rw [vputF]; split <;> simp
theorem vput_pos (n : Nat) : 0 < (vput n).length := vputF_pos 9 n

/-- n's k lowest bytes, the highest first. -/
def fixedL : Nat → Nat → List UInt8
  | 0, _ => []
  | k + 1, n => fixedL k (n / 256) ++ [UInt8.ofNat n]
theorem fixedL_len (k n : Nat) : (fixedL k n).length = k := by
  induction k generalizing n with
  | zero => rfl
  | succ k ih => rw [fixedL, List.length_append, ih]; rfl
theorem fixedL_getD (k n j : Nat) (h : j < k) : (fixedL k n).getD j 0 = UInt8.ofNat (n / 256 ^ (k - 1 - j)) := by
  induction k generalizing n with
  | zero => omega
  | succ k ih =>
    rw [fixedL, List.getD, List.getElem?_append]
    by_cases hj : j < k
    · rw [if_pos (by rw [fixedL_len]; exact hj)]
      have := ih (n / 256) hj
      rw [List.getD] at this
      rw [this, Nat.div_div_eq_div_mul, ← Nat.pow_succ']
      congr 3; omega
    · rw [if_neg (by rw [fixedL_len]; exact hj), fixedL_len]
      have : j = k := by omega
      subst this
      simp

/-- Put, Fixed, Text as strings. -/
def vputS (n : Nat) : ByteArray := ⟨(vput n).toArray⟩
def fixedS (n : Nat) (k : Int) : ByteArray := if k < 0 ∨ 8 < k then ByteArray.empty else ⟨(fixedL k.toNat n).toArray⟩
def textS (s : ByteArray) : ByteArray := vputS s.size ++ s
theorem size_mk (l : List UInt8) : (⟨l.toArray⟩ : ByteArray).size = l.length := by
  show l.toArray.size = _; rw [List.size_toArray]
theorem vputS_size (n : Nat) : (vputS n).size ≤ 10 ∧ 0 < (vputS n).size := by
  unfold vputS; rw [size_mk]; exact ⟨vput_len n, vput_pos n⟩
theorem textS_size (s : ByteArray) : (textS s).size ≤ s.size + 10 := by
  unfold textS; rw [ByteArray.size_append]; have := (vputS_size s.size).1; omega
end Go.Pin
