/- The reader over what was put. -/
import Derived.Test.YthlmigbimeldbaaVarP
namespace Go.Pin
set_option linter.unusedVariables false
set_option linter.unusedSimpArgs false
def bs (l : List UInt8) : ByteArray := ⟨l.toArray⟩
theorem bs_data (l : List UInt8) : (bs l).data.toList = l := by simp [bs]
theorem bs_size (l : List UInt8) : (bs l).size = l.length := by unfold bs; rw [size_mk]
theorem bs_of (s : ByteArray) : bs s.data.toList = s := by apply ByteArray.ext; apply Array.ext'; rw [bs_data]
theorem bs_ext (s t : ByteArray) (h : s.data.toList = t.data.toList) : s = t := by apply ByteArray.ext; apply Array.ext'; exact h
theorem bs_append (a b : List UInt8) : bs a ++ bs b = bs (a ++ b) := by apply bs_ext; rw [ByteArray.data_append, Array.toList_append, bs_data, bs_data, bs_data]
theorem bs_extract (l : List UInt8) (i j : Nat) : (bs l).extract i j = bs ((l.take j).drop i) := by
  apply bs_ext
  rw [ByteArray.data_extract, bs_data]
  simp only [Array.toList_extract, List.extract_eq_take_drop, bs_data, List.drop_take]
theorem bs_inj {a b : List UInt8} (h : bs a = bs b) : a = b := by
  have := congrArg (fun x : ByteArray => x.data.toList) h
  simpa [bs_data] using this

theorem rd_var_put (n : Nat) (rest : List UInt8) (x : Bool) (hn : n < 18446744073709551616) : (Rd.mk (bs (vput n ++ rest)) x).var = (n, ⟨bs rest, x⟩) := by
  unfold Rd.var
  have : vget (bs (vput n ++ rest)).data.toList = some (n, (vput n).length) := by rw [bs_data]; exact vget_put n rest hn
  simp only [this, bs_size, bs_extract]
  congr 3
  rw [List.take_of_length_le (Nat.le_refl _)]; simp
theorem rd_bytes_app (p rest : List UInt8) : (Rd.mk (bs (p ++ rest)) false).bytes (p.length : Int) = (bs p, ⟨bs rest, false⟩) := by
  unfold Rd.bytes
  rw [if_neg]
  · simp only [bs_size, bs_extract, Int.toNat_natCast]
    congr 2
    · simp
    · congr 1
      rw [List.take_of_length_le (Nat.le_refl _)]; simp
  · simp only [bs_size, List.length_append]
    rintro (h | h | h)
    · cases h
    · omega
    · omega
theorem rd_text_put (s : List UInt8) (rest : List UInt8) (hs : s.length < 18446744073709551616) : (Rd.mk (bs (vput s.length ++ s ++ rest)) false).text = (bs s, ⟨bs rest, false⟩) := by
  unfold Rd.text
  rw [List.append_assoc, rd_var_put _ _ _ hs]
  simp only [bs_size, List.length_append]
  rw [if_neg (by omega)]
  exact rd_bytes_app s rest
theorem beNat_fixed (k n : Nat) : beNat (fixedL k n) = n % 256 ^ k := by
  induction k generalizing n with
  | zero => simp [fixedL, beNat, Nat.mod_one]
  | succ k ih =>
    have : beNat (fixedL (k + 1) n) = beNat (fixedL k (n / 256)) * 256 + (UInt8.ofNat n).toNat := by
      unfold beNat; rw [fixedL, List.foldl_append]; rfl
    have e : (UInt8.ofNat n).toNat = n % 256 := by simp
    rw [this, ih, e, Nat.pow_succ, Nat.mul_comm (256 ^ k) 256, Nat.mod_mul]; omega
theorem rd_fixed_put (k n : Nat) (rest : List UInt8) (hk : k ≤ 8) : (Rd.mk (bs (fixedL k n ++ rest)) false).fixed (k : Int) = (n % 256 ^ k, ⟨bs rest, false⟩) := by
  unfold Rd.fixed
  rw [if_neg (by omega)]
  have h := rd_bytes_app (fixedL k n) rest
  rw [fixedL_len] at h
  simp only [h, bs_data, beNat_fixed]
end Go.Pin
