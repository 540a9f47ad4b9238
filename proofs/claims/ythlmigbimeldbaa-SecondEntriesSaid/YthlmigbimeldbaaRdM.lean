/- A reader of numbers, as a plain word. -/
import Derived.Test.YthlmigbimeldbaaVarM
import Derived.Laws.Bits64b
namespace Go.Pin
set_option linter.unusedVariables false
set_option linter.unusedSimpArgs false

structure Rd where
  s : ByteArray
  bad : Bool
def Rd.fail : Rd := ⟨⟨#[]⟩, true⟩
def Rd.bytes (r : Rd) (n : Int) : ByteArray × Rd :=
  if r.bad = true ∨ n < 0 ∨ (r.s.size : Int) < n then (⟨#[]⟩, Rd.fail) else (r.s.extract 0 n.toNat, ⟨r.s.extract n.toNat r.s.size, r.bad⟩)
/-- The scan: at place i, n so far, f places to go. -/
def vscan (l : List UInt8) : Nat → Nat → Nat → Option (Nat × Nat)
  | 0, _, _ => none
  | f + 1, i, n =>
    if i < l.length then
      let b := (l.getD i 0).toNat
      let n' := n + b % 128 * 128 ^ i % 18446744073709551616
      if 128 ≤ b then vscan l f (i + 1) n'
      else if (0 < i ∧ b = 0) ∨ (i = 9 ∧ 1 < b) then none
      else some (n', i + 1)
    else none
def vget (l : List UInt8) : Option (Nat × Nat) := vscan l 10 0 0
def Rd.var (r : Rd) : Nat × Rd :=
  match vget r.s.data.toList with
  | some (n, k) => (n, ⟨r.s.extract k r.s.size, r.bad⟩)
  | none => (0, Rd.fail)
def beNat (l : List UInt8) : Nat := l.foldl (fun n b => n * 256 + b.toNat) 0
def Rd.fixed (r : Rd) (k : Int) : Nat × Rd :=
  let x := (if 8 < k then Rd.fail else r).bytes k
  (beNat x.1.data.toList, x.2)
def Rd.text (r : Rd) : ByteArray × Rd :=
  if r.var.2.s.size < r.var.1 then (⟨#[]⟩, Rd.fail) else r.var.2.bytes r.var.1

theorem vscan_acc (l : List UInt8) : ∀ (f i n : Nat), i + f ≤ 10 → n < 128 ^ i → ∀ m k, vscan l f i n = some (m, k) → m < 18446744073709551616 ∧ k ≤ l.length ∧ i < k
  | 0, _, _, _, _, _, _, h => by simp [vscan] at h
  | f + 1, i, n, hi, hn, m, k, h => by
    rw [vscan] at h
    split at h
    · rename_i hil
      simp only at h
      generalize hb : (l.getD i 0).toNat = b at h
      have hb255 : b < 256 := by rw [← hb]; exact (l.getD i 0).toNat_lt
      have hle : b % 128 * 128 ^ i % 18446744073709551616 ≤ b % 128 * 128 ^ i := Nat.mod_le _ _
      have hmul : b % 128 * 128 ^ i + 128 ^ i ≤ 128 * 128 ^ i := by
        rw [← Nat.succ_mul]; exact Nat.mul_le_mul_right _ (by omega)
      split at h
      · have := vscan_acc l f (i + 1) _ (by omega) (by rw [Nat.pow_succ]; omega) m k h
        omega
      · split at h
        · cases h
        · rename_i h1 h2
          simp only [Option.some.injEq, Prod.mk.injEq] at h
          obtain ⟨rfl, rfl⟩ := h
          refine ⟨?_, by omega, by omega⟩
          by_cases h9 : i = 9
          · subst h9
            have hb1 : b ≤ 1 := by omega
            have : b % 128 * 128 ^ 9 ≤ 1 * 128 ^ 9 := Nat.mul_le_mul_right _ (by omega)
            have e : (128 : Nat) ^ 9 = 9223372036854775808 := by decide
            rw [e] at *
            omega
          · have : (128 : Nat) ^ (i + 1) ≤ 128 ^ 9 := Nat.pow_le_pow_right (by omega) (by omega)
            have e : (128 : Nat) ^ 9 = 9223372036854775808 := by decide
            rw [Nat.pow_succ] at this
            omega
    · cases h
theorem vget_spec (l : List UInt8) (m k : Nat) (h : vget l = some (m, k)) : m < 18446744073709551616 ∧ k ≤ l.length ∧ 0 < k := vscan_acc l 10 0 0 (by omega) (by omega) m k h
theorem Rd.var_lt (r : Rd) : r.var.1 < 18446744073709551616 := by
  unfold Rd.var
  split
  · rename_i n k h; exact (vget_spec _ _ _ h).1
  · decide
theorem beNat_lt (l : List UInt8) : beNat l < 256 ^ l.length := by
  have : ∀ (l : List UInt8) (a : Nat) (j : Nat), a < 256 ^ j → l.foldl (fun n b => n * 256 + b.toNat) a < 256 ^ (j + l.length) := by
    intro l
    induction l with
    | nil => intro a j h; simpa using h
    | cons b l ih =>
      intro a j h
      rw [List.foldl_cons, List.length_cons, show j + (l.length + 1) = (j + 1) + l.length from by omega]
      refine ih _ _ ?_
      have := b.toNat_lt
      rw [Nat.pow_succ]; omega
  have := this l 0 0 (by decide)
  simpa [beNat] using this
theorem andNot_byte (c : UInt8) : bits .andNot .u8 (c.toNat : Int) 128 = ((c.toNat % 128 : Nat) : Int) := by
  have h : ∀ m : Fin 256, bits .andNot .u8 (m.val : Int) 128 = ((m.val % 128 : Nat) : Int) := by decide +kernel
  exact h ⟨c.toNat, c.toNat_lt⟩
theorem wrap_u64_small (n : Nat) (h : n < 18446744073709551616) : IntKind.u64.wrap (n : Int) = (n : Int) := by rw [IntKind.wrap_u64]; omega
theorem pow128 (j : Nat) : (128 : Nat) ^ j = 2 ^ (7 * j) := by rw [show (128 : Nat) = 2 ^ 7 from rfl, ← Nat.pow_mul]
theorem or_law (x : Int) (c : UInt8) (j : Nat) (hj : j ≤ 9) (h0 : 0 ≤ x) (hx : x.toNat < 128 ^ j) :
    bits .or .u64 x (IntKind.u64.wrap (IntKind.u64.wrap (bits .andNot .u8 (c.toNat : Int) 128) * 2 ^ (7 * j))) = ((x.toNat + c.toNat % 128 * 128 ^ j % 18446744073709551616 : Nat) : Int) := by
  obtain ⟨n, rfl⟩ := Int.eq_ofNat_of_zero_le h0
  simp only [Int.toNat_natCast] at hx ⊢
  rw [andNot_byte, wrap_u64_small _ (by omega)]
  have e : IntKind.u64.wrap (((c.toNat % 128 : Nat) : Int) * 2 ^ (7 * j)) = ((c.toNat % 128 * 128 ^ j % 18446744073709551616 : Nat) : Int) := by
    rw [IntKind.wrap_u64, pow128]; simp
  rw [e]
  have hp : (128 : Nat) ^ j ≤ 128 ^ 9 := Nat.pow_le_pow_right (by omega) hj
  have e9 : (128 : Nat) ^ 9 = 9223372036854775808 := by decide
  rw [e9] at hp
  have hy : c.toNat % 128 * 128 ^ j % 18446744073709551616 < 18446744073709551616 := Nat.mod_lt _ (by decide)
  rw [bits_or_u64_nat _ _ (by omega) hy]
  congr 1
  -- the second is a multiple of 128 ^ j
  have hm : c.toNat % 128 * 128 ^ j % 18446744073709551616 = 2 ^ (7 * j) * (c.toNat % 128 % 2 ^ (64 - 7 * j)) := by
    have : (18446744073709551616 : Nat) = 2 ^ (7 * j) * 2 ^ (64 - 7 * j) := by rw [← Nat.pow_add, show 7 * j + (64 - 7 * j) = 64 from by omega]
    rw [this, pow128, Nat.mul_comm (c.toNat % 128), Nat.mul_mod_mul_left]
  rw [hm]
  rw [pow128] at hx
  have := Nat.two_pow_add_eq_or_of_lt hx (c.toNat % 128 % 2 ^ (64 - 7 * j))
  rw [Nat.or_comm, ← this, Nat.add_comm]
theorem vscan_step (l : List UInt8) (j n : Nat) (hl : j < l.length) (hj : j < 10) : vscan l (10 - j) j n =
    if 128 ≤ (l.getD j 0).toNat then vscan l (10 - (j + 1)) (j + 1) (n + (l.getD j 0).toNat % 128 * 128 ^ j % 18446744073709551616)
    else if (0 < j ∧ (l.getD j 0).toNat = 0) ∨ (j = 9 ∧ 1 < (l.getD j 0).toNat) then none
    else some (n + (l.getD j 0).toNat % 128 * 128 ^ j % 18446744073709551616, j + 1) := by
  rw [show 10 - j = (10 - (j + 1)) + 1 from by omega, vscan, if_pos hl]
theorem vscan_end (l : List UInt8) (j n : Nat) (h : j = min 10 l.length) : vscan l (10 - j) j n = none := by
  by_cases h10 : j = 10
  · subst h10; rfl
  · rw [show 10 - j = (10 - (j + 1)) + 1 from by omega, vscan, if_neg (by omega)]
theorem acc_lt (x c j : Nat) (hx : x < 128 ^ j) : x + c % 128 * 128 ^ j % 18446744073709551616 < 128 ^ (j + 1) := by
  have hle : c % 128 * 128 ^ j % 18446744073709551616 ≤ c % 128 * 128 ^ j := Nat.mod_le _ _
  have hmul : c % 128 * 128 ^ j + 128 ^ j ≤ 128 * 128 ^ j := by
    rw [← Nat.succ_mul]; exact Nat.mul_le_mul_right _ (by omega)
  rw [Nat.pow_succ]; omega

theorem beNat_take (l : List UInt8) (j : Nat) (h : j < l.length) : beNat (l.take (j + 1)) = beNat (l.take j) * 256 + (l.getD j 0).toNat := by
  unfold beNat
  rw [List.take_succ_eq_append_getElem h, List.foldl_append]
  simp [List.getD, h]
theorem be_law (x : Int) (c : UInt8) (h0 : 0 ≤ x) (hx : x < 72057594037927936) : bits .or .u64 (x * 256) (IntKind.u64.wrap (c.toNat : Int)) = x * 256 + (c.toNat : Int) := by
  obtain ⟨n, rfl⟩ := Int.eq_ofNat_of_zero_le h0
  have hc := c.toNat_lt
  have e : ((n : Int) * 256) = ((n * 256 : Nat) : Int) := by omega
  rw [e, wrap_u64_small _ (by omega), bits_or_u64_nat _ _ (by omega) (by omega)]
  have := Nat.two_pow_add_eq_or_of_lt (i := 8) (by omega : c.toNat < 2 ^ 8) n
  rw [show n * 256 = 2 ^ 8 * n from by omega, ← this]
  omega
theorem Rd.bytes_size (r : Rd) (k : Int) : ((r.bytes k).1.size : Int) ≤ max k 0 := by
  unfold Rd.bytes
  split
  · show ((0 : Nat) : Int) ≤ _; omega
  · rename_i h
    show ((r.s.extract 0 k.toNat).size : Int) ≤ _
    rw [ByteArray.size_extract]; omega
theorem Rd.bytes_le (r : Rd) (k : Int) : (r.bytes k).2.s.size ≤ r.s.size := by
  unfold Rd.bytes
  split
  · exact Nat.zero_le _
  · show (r.s.extract k.toNat r.s.size).size ≤ _
    rw [ByteArray.size_extract]; omega
theorem Rd.var_le (r : Rd) : r.var.2.s.size ≤ r.s.size := by
  unfold Rd.var
  split
  · show (r.s.extract _ r.s.size).size ≤ _
    rw [ByteArray.size_extract]; omega
  · exact Nat.zero_le _
end Go.Pin
