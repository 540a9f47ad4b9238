import Derived.Laws.BitsLemmas
import Derived.Laws.BytesArg
import Derived.Laws.Bits64b
/- Varints and fixed numbers as plain words on lists of bytes. -/
namespace Go.Pin
set_option linter.unusedVariables false
set_option linter.unusedSimpArgs false

def vputF : Nat → Nat → List UInt8
  | 0, n => [UInt8.ofNat n]
  | f + 1, n => if n < 128 then [UInt8.ofNat n] else UInt8.ofNat (n % 128 + 128) :: vputF f (n / 128)
/-- A number's bytes. -/
def vput (n : Nat) : List UInt8 := vputF 9 n

theorem vputF_succ (f n : Nat) (h : n < 128 ^ (f + 1)) : vputF (f + 1) n = vputF f n := by
  induction f generalizing n with
  | zero => unfold vputF; rw [if_pos (by simpa using h)]
  | succ f ih =>
    rw [vputF]
    conv => rhs; rw [vputF]
    by_cases h1 : n < 128
    · rw [if_pos h1, if_pos h1]
    · rw [if_neg h1, if_neg h1, ih (n / 128) (by rw [Nat.div_lt_iff_lt_mul (by decide)]; rw [Nat.pow_succ] at h; exact h)]
theorem vput_small (n : Nat) (h : n < 128) : vput n = [UInt8.ofNat n] := by unfold vput; rw [vputF, if_pos h]
theorem vput_big (n : Nat) (h : 128 ≤ n) (hn : n < 18446744073709551616) : vput n = UInt8.ofNat (n % 128 + 128) :: vput (n / 128) := by
  unfold vput
  rw [vputF, if_neg (by omega)]
  rw [vputF_succ 8 (n / 128) (by rw [show (128 : Nat) ^ (8 + 1) = 9223372036854775808 from by decide]; omega)]
theorem vputF_len (f n : Nat) : (vputF f n).length ≤ f + 1 := by
  induction f generalizing n with
  | zero => simp [vputF]
  | succ f ih => rw [vputF]; split
                 · simp
                 · have := ih (n / 128); simp; omega
theorem vput_len (n : Nat) : (vput n).length ≤ 10 := vputF_len 9 n
theorem vputF_pos (f n : Nat) : 0 < (vputF f n).length := by
  cases f with
  | zero => simp [vputF]
  | succ f => rw [vputF]; split <;> simp
theorem vput_pos (n : Nat) : 0 < (vput n).length := vputF_pos 9 n

/-- n's k lowest bytes, the highest first. -/
def fixedL : Nat → Nat → List UInt8
  | 0, _ => []
  | k + 1, n => fixedL k (n / 256) ++ [UInt8.ofNat n]
theorem fixedL_len (k n : Nat) : (fixedL k n).length = k := by
  induction k generalizing n with
  | zero => rfl
  | succ k ih => rw [fixedL, List.length_append, ih]; rfl
theorem fixedL_getD (k n j : Nat) (h : j < k) : (fixedL k n).getD j 0 = UInt8.ofNat (n / 256 ^ (k - 1 - j)) := by
  induction k generalizing n with
  | zero => omega
  | succ k ih =>
    rw [fixedL, List.getD, List.getElem?_append]
    by_cases hj : j < k
    · rw [if_pos (by rw [fixedL_len]; exact hj)]
      have := ih (n / 256) hj
      rw [List.getD] at this
      rw [this, Nat.div_div_eq_div_mul, ← Nat.pow_succ']
      congr 3; omega
    · rw [if_neg (by rw [fixedL_len]; exact hj), fixedL_len]
      have : j = k := by omega
      subst this
      simp

/-- Put, Fixed, Text as strings. -/
def vputS (n : Nat) : ByteArray := ⟨(vput n).toArray⟩
def fixedS (n : Nat) (k : Int) : ByteArray := if k < 0 ∨ 8 < k then ByteArray.empty else ⟨(fixedL k.toNat n).toArray⟩
def textS (s : ByteArray) : ByteArray := vputS s.size ++ s
theorem size_mk (l : List UInt8) : (⟨l.toArray⟩ : ByteArray).size = l.length := by
  show l.toArray.size = _; rw [List.size_toArray]
theorem vputS_size (n : Nat) : (vputS n).size ≤ 10 ∧ 0 < (vputS n).size := by
  unfold vputS; rw [size_mk]; exact ⟨vput_len n, vput_pos n⟩
theorem textS_size (s : ByteArray) : (textS s).size ≤ s.size + 10 := by
  unfold textS; rw [ByteArray.size_append]; have := (vputS_size s.size).1; omega
end Go.Pin
/- A reader of numbers, as a plain word. -/
namespace Go.Pin
set_option linter.unusedVariables false
set_option linter.unusedSimpArgs false

structure Rd where
  s : ByteArray
  bad : Bool
def Rd.fail : Rd := ⟨⟨#[]⟩, true⟩
def Rd.bytes (r : Rd) (n : Int) : ByteArray × Rd :=
  if r.bad = true ∨ n < 0 ∨ (r.s.size : Int) < n then (⟨#[]⟩, Rd.fail) else (r.s.extract 0 n.toNat, ⟨r.s.extract n.toNat r.s.size, r.bad⟩)
/-- The scan: at place i, n so far, f places to go. -/
def vscan (l : List UInt8) : Nat → Nat → Nat → Option (Nat × Nat)
  | 0, _, _ => none
  | f + 1, i, n =>
    if i < l.length then
      let b := (l.getD i 0).toNat
      let n' := n + b % 128 * 128 ^ i % 18446744073709551616
      if 128 ≤ b then vscan l f (i + 1) n'
      else if (0 < i ∧ b = 0) ∨ (i = 9 ∧ 1 < b) then none
      else some (n', i + 1)
    else none
def vget (l : List UInt8) : Option (Nat × Nat) := vscan l 10 0 0
def Rd.var (r : Rd) : Nat × Rd :=
  match vget r.s.data.toList with
  | some (n, k) => (n, ⟨r.s.extract k r.s.size, r.bad⟩)
  | none => (0, Rd.fail)
def beNat (l : List UInt8) : Nat := l.foldl (fun n b => n * 256 + b.toNat) 0
def Rd.fixed (r : Rd) (k : Int) : Nat × Rd :=
  let x := (if 8 < k then Rd.fail else r).bytes k
  (beNat x.1.data.toList, x.2)
def Rd.text (r : Rd) : ByteArray × Rd :=
  if r.var.2.s.size < r.var.1 then (⟨#[]⟩, Rd.fail) else r.var.2.bytes r.var.1

theorem vscan_acc (l : List UInt8) : ∀ (f i n : Nat), i + f ≤ 10 → n < 128 ^ i → ∀ m k, vscan l f i n = some (m, k) → m < 18446744073709551616 ∧ k ≤ l.length ∧ i < k
  | 0, _, _, _, _, _, _, h => by simp [vscan] at h
  | f + 1, i, n, hi, hn, m, k, h => by
    rw [vscan] at h
    split at h
    · rename_i hil
      simp only at h
      generalize hb : (l.getD i 0).toNat = b at h
      have hb255 : b < 256 := by rw [← hb]; exact (l.getD i 0).toNat_lt
      have hle : b % 128 * 128 ^ i % 18446744073709551616 ≤ b % 128 * 128 ^ i := Nat.mod_le _ _
      have hmul : b % 128 * 128 ^ i + 128 ^ i ≤ 128 * 128 ^ i := by
        rw [← Nat.succ_mul]; exact Nat.mul_le_mul_right _ (by omega)
      split at h
      · have := vscan_acc l f (i + 1) _ (by omega) (by rw [Nat.pow_succ]; omega) m k h
        omega
      · split at h
        · cases h
        · rename_i h1 h2
          simp only [Option.some.injEq, Prod.mk.injEq] at h
          obtain ⟨rfl, rfl⟩ := h
          refine ⟨?_, by omega, by omega⟩
          by_cases h9 : i = 9
          · subst h9
            have hb1 : b ≤ 1 := by omega
            have : b % 128 * 128 ^ 9 ≤ 1 * 128 ^ 9 := Nat.mul_le_mul_right _ (by omega)
            have e : (128 : Nat) ^ 9 = 9223372036854775808 := by decide
            rw [e] at *
            omega
          · have : (128 : Nat) ^ (i + 1) ≤ 128 ^ 9 := Nat.pow_le_pow_right (by omega) (by omega)
            have e : (128 : Nat) ^ 9 = 9223372036854775808 := by decide
            rw [Nat.pow_succ] at this
            omega
    · cases h
theorem vget_spec (l : List UInt8) (m k : Nat) (h : vget l = some (m, k)) : m < 18446744073709551616 ∧ k ≤ l.length ∧ 0 < k := vscan_acc l 10 0 0 (by omega) (by omega) m k h
theorem Rd.var_lt (r : Rd) : r.var.1 < 18446744073709551616 := by
  unfold Rd.var
  split
  · rename_i n k h; exact (vget_spec _ _ _ h).1
  · decide
theorem beNat_lt (l : List UInt8) : beNat l < 256 ^ l.length := by
  have : ∀ (l : List UInt8) (a : Nat) (j : Nat), a < 256 ^ j → l.foldl (fun n b => n * 256 + b.toNat) a < 256 ^ (j + l.length) := by
    intro l
    induction l with
    | nil => intro a j h; simpa using h
    | cons b l ih =>
      intro a j h
      rw [List.foldl_cons, List.length_cons, show j + (l.length + 1) = (j + 1) + l.length from by omega]
      refine ih _ _ ?_
      have := b.toNat_lt
      rw [Nat.pow_succ]; omega
  have := this l 0 0 (by decide)
  simpa [beNat] using this
theorem andNot_byte (c : UInt8) : bits .andNot .u8 (c.toNat : Int) 128 = ((c.toNat % 128 : Nat) : Int) := by
  have h : ∀ m : Fin 256, bits .andNot .u8 (m.val : Int) 128 = ((m.val % 128 : Nat) : Int) := by decide +kernel
  exact h ⟨c.toNat, c.toNat_lt⟩
theorem wrap_u64_small (n : Nat) (h : n < 18446744073709551616) : IntKind.u64.wrap (n : Int) = (n : Int) := by rw [IntKind.wrap_u64]; omega
theorem pow128 (j : Nat) : (128 : Nat) ^ j = 2 ^ (7 * j) := by rw [show (128 : Nat) = 2 ^ 7 from rfl, ← Nat.pow_mul]
theorem or_law (x : Int) (c : UInt8) (j : Nat) (hj : j ≤ 9) (h0 : 0 ≤ x) (hx : x.toNat < 128 ^ j) :
    bits .or .u64 x (IntKind.u64.wrap (IntKind.u64.wrap (bits .andNot .u8 (c.toNat : Int) 128) * 2 ^ (7 * j))) = ((x.toNat + c.toNat % 128 * 128 ^ j % 18446744073709551616 : Nat) : Int) := by
  obtain ⟨n, rfl⟩ := Int.eq_ofNat_of_zero_le h0
  simp only [Int.toNat_natCast] at hx ⊢
  rw [andNot_byte, wrap_u64_small _ (by omega)]
  have e : IntKind.u64.wrap (((c.toNat % 128 : Nat) : Int) * 2 ^ (7 * j)) = ((c.toNat % 128 * 128 ^ j % 18446744073709551616 : Nat) : Int) := by
    rw [IntKind.wrap_u64, pow128]; simp
  rw [e]
  have hp : (128 : Nat) ^ j ≤ 128 ^ 9 := Nat.pow_le_pow_right (by omega) hj
  have e9 : (128 : Nat) ^ 9 = 9223372036854775808 := by decide
  rw [e9] at hp
  have hy : c.toNat % 128 * 128 ^ j % 18446744073709551616 < 18446744073709551616 := Nat.mod_lt _ (by decide)
  rw [bits_or_u64_nat _ _ (by omega) hy]
  congr 1
  -- the second is a multiple of 128 ^ j
  have hm : c.toNat % 128 * 128 ^ j % 18446744073709551616 = 2 ^ (7 * j) * (c.toNat % 128 % 2 ^ (64 - 7 * j)) := by
    have : (18446744073709551616 : Nat) = 2 ^ (7 * j) * 2 ^ (64 - 7 * j) := by rw [← Nat.pow_add, show 7 * j + (64 - 7 * j) = 64 from by omega]
    rw [this, pow128, Nat.mul_comm (c.toNat % 128), Nat.mul_mod_mul_left]
  rw [hm]
  rw [pow128] at hx
  have := Nat.two_pow_add_eq_or_of_lt hx (c.toNat % 128 % 2 ^ (64 - 7 * j))
  rw [Nat.or_comm, ← this, Nat.add_comm]
theorem vscan_step (l : List UInt8) (j n : Nat) (hl : j < l.length) (hj : j < 10) : vscan l (10 - j) j n =
    if 128 ≤ (l.getD j 0).toNat then vscan l (10 - (j + 1)) (j + 1) (n + (l.getD j 0).toNat % 128 * 128 ^ j % 18446744073709551616)
    else if (0 < j ∧ (l.getD j 0).toNat = 0) ∨ (j = 9 ∧ 1 < (l.getD j 0).toNat) then none
    else some (n + (l.getD j 0).toNat % 128 * 128 ^ j % 18446744073709551616, j + 1) := by
  rw [show 10 - j = (10 - (j + 1)) + 1 from by omega, vscan, if_pos hl]
theorem vscan_end (l : List UInt8) (j n : Nat) (h : j = min 10 l.length) : vscan l (10 - j) j n = none := by
  by_cases h10 : j = 10
  · subst h10; rfl
  · rw [show 10 - j = (10 - (j + 1)) + 1 from by omega, vscan, if_neg (by omega)]
theorem acc_lt (x c j : Nat) (hx : x < 128 ^ j) : x + c % 128 * 128 ^ j % 18446744073709551616 < 128 ^ (j + 1) := by
  have hle : c % 128 * 128 ^ j % 18446744073709551616 ≤ c % 128 * 128 ^ j := Nat.mod_le _ _
  have hmul : c % 128 * 128 ^ j + 128 ^ j ≤ 128 * 128 ^ j := by
    rw [← Nat.succ_mul]; exact Nat.mul_le_mul_right _ (by omega)
  rw [Nat.pow_succ]; omega

theorem beNat_take (l : List UInt8) (j : Nat) (h : j < l.length) : beNat (l.take (j + 1)) = beNat (l.take j) * 256 + (l.getD j 0).toNat := by
  unfold beNat
  rw [List.take_succ_eq_append_getElem h, List.foldl_append]
  simp [List.getD, h]
theorem be_law (x : Int) (c : UInt8) (h0 : 0 ≤ x) (hx : x < 72057594037927936) : bits .or .u64 (x * 256) (IntKind.u64.wrap (c.toNat : Int)) = x * 256 + (c.toNat : Int) := by
  obtain ⟨n, rfl⟩ := Int.eq_ofNat_of_zero_le h0
  have hc := c.toNat_lt
  have e : ((n : Int) * 256) = ((n * 256 : Nat) : Int) := by omega
  rw [e, wrap_u64_small _ (by omega), bits_or_u64_nat _ _ (by omega) (by omega)]
  have := Nat.two_pow_add_eq_or_of_lt (i := 8) (by omega : c.toNat < 2 ^ 8) n
  rw [show n * 256 = 2 ^ 8 * n from by omega, ← this]
  omega
theorem Rd.bytes_size (r : Rd) (k : Int) : ((r.bytes k).1.size : Int) ≤ max k 0 := by
  unfold Rd.bytes
  split
  · show ((0 : Nat) : Int) ≤ _; omega
  · rename_i h
    show ((r.s.extract 0 k.toNat).size : Int) ≤ _
    rw [ByteArray.size_extract]; omega
theorem Rd.bytes_le (r : Rd) (k : Int) : (r.bytes k).2.s.size ≤ r.s.size := by
  unfold Rd.bytes
  split
  · exact Nat.zero_le _
  · show (r.s.extract k.toNat r.s.size).size ≤ _
    rw [ByteArray.size_extract]; omega
theorem Rd.var_le (r : Rd) : r.var.2.s.size ≤ r.s.size := by
  unfold Rd.var
  split
  · show (r.s.extract _ r.s.size).size ≤ _
    rw [ByteArray.size_extract]; omega
  · exact Nat.zero_le _
end Go.Pin
/- The plain law of the varint: a number has one writing; what is read is what is put. -/
namespace Go.Pin
set_option linter.unusedVariables false
set_option linter.unusedSimpArgs false

def vval : List UInt8 → Nat
  | [] => 0
  | a :: l => a.toNat % 128 + 128 * vval l
theorem vval_append (l : List UInt8) (b : UInt8) : vval (l ++ [b]) = vval l + b.toNat % 128 * 128 ^ l.length := by
  induction l with
  | nil => simp [vval]
  | cons a l ih =>
    rw [List.cons_append, vval, ih, vval, List.length_cons, Nat.pow_succ, Nat.mul_add, Nat.add_assoc]
    congr 2
    rw [Nat.mul_comm (128 ^ l.length) 128, ← Nat.mul_assoc, Nat.mul_comm 128, Nat.mul_assoc]
theorem vval_lt (l : List UInt8) : vval l < 128 ^ l.length := by
  induction l with
  | nil => simp [vval]
  | cons a l ih =>
    rw [vval, List.length_cons, Nat.pow_succ]
    have : a.toNat % 128 < 128 := Nat.mod_lt _ (by decide)
    omega
theorem ofNat_toNat8 (a : UInt8) : UInt8.ofNat a.toNat = a := by apply UInt8.toNat_inj.1; simp

/-- A writing that ends well is the number's own. -/
theorem vput_vval (cs : List UInt8) (b : UInt8) (hcs : ∀ a ∈ cs, 128 ≤ a.toNat) (hb : b.toNat < 128) (h0 : cs ≠ [] → 0 < b.toNat) (hv : vval (cs ++ [b]) < 18446744073709551616) : vput (vval (cs ++ [b])) = cs ++ [b] := by
  induction cs with
  | nil =>
    have e : vval ([] ++ [b]) = b.toNat := by simp [vval]; omega
    rw [e, vput_small _ hb, ofNat_toNat8]; rfl
  | cons a cs ih =>
    have hb0 := h0 (by simp)
    have ha := hcs a (by simp)
    have ha2 := a.toNat_lt
    have e : vval (a :: cs ++ [b]) = a.toNat % 128 + 128 * vval (cs ++ [b]) := rfl
    rw [e] at hv ⊢
    have hpos : 0 < vval (cs ++ [b]) := by
      rw [vval_append]
      have : 0 < b.toNat % 128 * 128 ^ cs.length := Nat.mul_pos (by omega) (Nat.pow_pos (by decide))
      omega
    rw [vput_big _ (by omega) hv]
    have e1 : (a.toNat % 128 + 128 * vval (cs ++ [b])) % 128 + 128 = a.toNat := by omega
    have e2 : (a.toNat % 128 + 128 * vval (cs ++ [b])) / 128 = vval (cs ++ [b]) := by omega
    rw [e1, e2, ih (fun x hx => hcs x (by simp [hx])) (fun _ => hb0) (by omega), ofNat_toNat8]; rfl
theorem vputF_len_lt (f k n : Nat) (hk : 0 < k) (h : n < 128 ^ k) : (vputF f n).length ≤ k := by
  induction f generalizing n k with
  | zero => simp [vputF]; omega
  | succ f ih =>
    rw [vputF]
    split
    · simp; omega
    · rename_i h1
      have hk2 : 1 < k := by
        rcases Nat.lt_or_ge 1 k with h2 | h2
        · exact h2
        · have : k = 1 := by omega
          subst this; simp at h; omega
      obtain ⟨m, rfl⟩ : ∃ m, k = m + 1 := ⟨k - 1, by omega⟩
      have := ih m (n / 128) (by omega) (by rw [Nat.div_lt_iff_lt_mul (by decide), ← Nat.pow_succ]; exact h)
      simp; exact this
theorem vputF_last (f n : Nat) : ((vputF f n).getD f 0).toNat ≤ n / 128 ^ f := by
  induction f generalizing n with
  | zero => simp [vputF]; exact Nat.mod_le _ _
  | succ f ih =>
    rw [vputF]
    split
    · simp [List.getD]
    · have := ih (n / 128)
      rw [Nat.div_div_eq_div_mul, ← Nat.pow_succ'] at this
      simpa [List.getD] using this

/-- The document's own test: is it put so? -/
theorem vput_test (l : List UInt8) (j : Nat) (hj : j < 10) (hl : j < l.length) (hcs : ∀ a ∈ l.take j, 128 ≤ a.toNat) (hb : (l.getD j 0).toNat < 128) :
    vput (vval (l.take j) + (l.getD j 0).toNat % 128 * 128 ^ j % 18446744073709551616) = l.take (j + 1) ↔ ¬ ((0 < j ∧ (l.getD j 0).toNat = 0) ∨ (j = 9 ∧ 1 < (l.getD j 0).toNat)) := by
  have hgd : l.getD j 0 = l[j] := by simp [List.getD, hl]
  have ht : l.take (j + 1) = l.take j ++ [l.getD j 0] := by rw [hgd, List.take_succ_eq_append_getElem hl]
  have hlen : (l.take j).length = j := by rw [List.length_take]; omega
  have hxl := vval_lt (l.take j)
  rw [hlen] at hxl
  generalize hB : l.getD j 0 = b at *
  have hp : (128 : Nat) ^ j ≤ 128 ^ 9 := Nat.pow_le_pow_right (by omega) (by omega)
  have e9 : (128 : Nat) ^ 9 = 9223372036854775808 := by decide
  rw [e9] at hp
  constructor
  · rintro h (⟨h1, h2⟩ | ⟨h1, h2⟩)
    · rw [h2, Nat.zero_mod, Nat.zero_mul, Nat.zero_mod, Nat.add_zero] at h
      have h3 := vputF_len_lt 9 j _ h1 hxl
      have h4 := congrArg List.length h
      rw [ht, List.length_append, hlen] at h4
      unfold vput at h4
      simp at h4; omega
    · subst h1
      have h3 := vputF_last 9 (vval (l.take 9) + b.toNat % 128 * 128 ^ 9 % 18446744073709551616)
      have h4 : (vputF 9 (vval (l.take 9) + b.toNat % 128 * 128 ^ 9 % 18446744073709551616)).getD 9 0 = b := by
        have : vputF 9 (vval (l.take 9) + b.toNat % 128 * 128 ^ 9 % 18446744073709551616) = l.take 10 := h
        rw [this, ht, List.getD, List.getElem?_append_right (by omega), hlen]; simp
      rw [h4] at h3
      rw [e9] at h3 hxl
      have : b.toNat % 128 * 9223372036854775808 % 18446744073709551616 < 18446744073709551616 := Nat.mod_lt _ (by decide)
      have h6 : b.toNat % 128 * 9223372036854775808 % 18446744073709551616 ≤ 9223372036854775808 := by omega
      have h5 : (vval (l.take 9) + b.toNat % 128 * 9223372036854775808 % 18446744073709551616) / 9223372036854775808 < 2 := by
        rw [Nat.div_lt_iff_lt_mul (by decide)]; omega
      omega
  · intro h
    have hmod : b.toNat % 128 * 128 ^ j % 18446744073709551616 = b.toNat % 128 * 128 ^ j := by
      apply Nat.mod_eq_of_lt
      by_cases h9 : j = 9
      · subst h9
        have : b.toNat ≤ 1 := by omega
        have : b.toNat % 128 * 128 ^ 9 ≤ 1 * 128 ^ 9 := Nat.mul_le_mul_right _ (by omega)
        rw [e9] at this ⊢; omega
      · have : b.toNat % 128 * 128 ^ j ≤ 127 * 128 ^ 8 := Nat.mul_le_mul (by omega) (Nat.pow_le_pow_right (by omega) (by omega))
        have e8 : (128 : Nat) ^ 8 = 72057594037927936 := by decide
        rw [e8] at this; omega
    have hv := vval_append (l.take j) b
    rw [hlen] at hv
    rw [hmod, ← hv, ht]
    refine vput_vval _ _ hcs hb (fun hne => ?_) ?_
    · have : 0 < j := by
        rcases Nat.eq_zero_or_pos j with h0 | h0
        · subst h0; simp at hne
        · exact h0
      omega
    · rw [hv]
      rw [← hmod]
      have h1 : b.toNat % 128 * 128 ^ j % 18446744073709551616 < 18446744073709551616 := Nat.mod_lt _ (by decide)
      by_cases h9 : j = 9
      · subst h9
        have : b.toNat ≤ 1 := by omega
        have : b.toNat % 128 * 128 ^ 9 ≤ 1 * 128 ^ 9 := Nat.mul_le_mul_right _ (by omega)
        rw [hmod]
        rw [e9] at this hxl ⊢; omega
      · have : b.toNat % 128 * 128 ^ j ≤ 127 * 128 ^ 8 := Nat.mul_le_mul (by omega) (Nat.pow_le_pow_right (by omega) (by omega))
        have e8 : (128 : Nat) ^ 8 = 72057594037927936 := by decide
        rw [hmod]
        rw [e8] at this; omega

theorem or_law2 (x : Int) (c : UInt8) (j : Nat) (hj : j ≤ 9) (h0 : 0 ≤ x) (hx : x.toNat < 128 ^ j) :
    bits .or .u64 x (IntKind.u64.wrap ((c.toNat : Int) % 128 * 2 ^ (7 * j))) = ((x.toNat + c.toNat % 128 * 128 ^ j % 18446744073709551616 : Nat) : Int) := by
  have := or_law x c j hj h0 hx
  rw [andNot_byte, wrap_u64_small _ (by omega)] at this
  exact this
theorem vputS_eq (n : Nat) (s : ByteArray) (j : Nat) : vputS n = s.extract 0 j ↔ vput n = s.data.toList.take j := by
  constructor
  · intro h
    have := congrArg (fun x : ByteArray => x.data.toList) h
    simp only [ByteArray.data_extract] at this
    have e : (vputS n).data.toList = vput n := by simp [vputS]
    rw [e] at this
    simpa [List.extract_eq_take_drop] using this
  · intro h
    apply ByteArray.ext; apply Array.ext'
    have e : (vputS n).data.toList = vput n := by simp [vputS]
    rw [e, h, ByteArray.data_extract]
    simp [List.extract_eq_take_drop]
end Go.Pin
/- What was put is read. -/
namespace Go.Pin
set_option linter.unusedVariables false
set_option linter.unusedSimpArgs false

theorem pow9 : (128 : Nat) ^ 9 = 9223372036854775808 := by decide
theorem vscan_put (pre rest : List UInt8) (n acc : Nat) (hi : pre.length ≤ 9) (hacc : acc < 128 ^ pre.length) (hn : acc + n * 128 ^ pre.length < 18446744073709551616) (h0 : 0 < pre.length → 0 < n) :
    vscan (pre ++ vput n ++ rest) (10 - pre.length) pre.length acc = some (acc + n * 128 ^ pre.length, pre.length + (vput n).length) := by
  induction n using Nat.strongRecOn generalizing pre acc with
  | _ n ih =>
    have hpos : 0 < 128 ^ pre.length := Nat.pow_pos (by decide)
    have hn64 : n < 18446744073709551616 := by
      have : n * 1 ≤ n * 128 ^ pre.length := Nat.mul_le_mul_left _ hpos
      omega
    have hlen : pre.length < (pre ++ vput n ++ rest).length := by have := vput_pos n; simp; omega
    rw [vscan_step _ _ _ hlen (by omega)]
    by_cases hs : n < 128
    · have hb : ((pre ++ vput n ++ rest).getD pre.length 0).toNat = n := by
        rw [vput_small n hs, List.getD, List.append_assoc, List.getElem?_append_right (Nat.le_refl _), Nat.sub_self]
        simp; omega
      rw [hb, if_neg (by omega), if_neg]
      · rw [vput_small n hs, Nat.mod_eq_of_lt hs, Nat.mod_eq_of_lt (by omega)]; rfl
      · rintro (⟨h1, h2⟩ | ⟨h1, h2⟩)
        · have := h0 h1; omega
        · rw [h1, pow9] at hn; omega
    · have hb : ((pre ++ vput n ++ rest).getD pre.length 0).toNat = n % 128 + 128 := by
        rw [vput_big n (by omega) hn64, List.getD, List.append_assoc, List.getElem?_append_right (Nat.le_refl _), Nat.sub_self]
        simp; omega
      rw [hb, if_pos (by omega)]
      have hm : (n % 128 + 128) % 128 = n % 128 := by omega
      rw [hm]
      have hdec : n * 128 ^ pre.length = n % 128 * 128 ^ pre.length + n / 128 * 128 ^ (pre.length + 1) := by
        rw [Nat.pow_succ, Nat.mul_comm (128 ^ pre.length) 128, ← Nat.mul_assoc, ← Nat.add_mul]
        congr 1; omega
      have hle : n % 128 * 128 ^ pre.length ≤ n * 128 ^ pre.length := Nat.mul_le_mul_right _ (Nat.mod_le _ _)
      rw [Nat.mod_eq_of_lt (show n % 128 * 128 ^ pre.length < 18446744073709551616 by omega)]
      have h9 : pre.length + 1 ≤ 9 := by
        rcases Nat.lt_or_ge pre.length 9 with h | h
        · omega
        · have : pre.length = 9 := by omega
          rw [this, pow9] at hn; omega
      have e : pre ++ vput n ++ rest = (pre ++ [UInt8.ofNat (n % 128 + 128)]) ++ vput (n / 128) ++ rest := by
        rw [vput_big n (by omega) hn64]; simp
      have el : (pre ++ [UInt8.ofNat (n % 128 + 128)]).length = pre.length + 1 := by simp
      have hx := acc_lt acc n pre.length hacc
      rw [Nat.mod_eq_of_lt (show n % 128 * 128 ^ pre.length < 18446744073709551616 by omega)] at hx
      have := ih (n / 128) (by omega) (pre ++ [UInt8.ofNat (n % 128 + 128)]) (acc + n % 128 * 128 ^ pre.length) (by rw [el]; exact h9) (by rw [el]; exact hx) (by rw [el]; omega) (fun _ => by omega)
      rw [el] at this
      rw [e, this, vput_big n (by omega) hn64, List.length_cons]
      congr 2
      · omega
      · omega
theorem vget_put (n : Nat) (rest : List UInt8) (hn : n < 18446744073709551616) : vget (vput n ++ rest) = some (n, (vput n).length) := by
  have := vscan_put [] rest n 0 (by simp) (by simp) (by simp; exact hn) (by simp)
  simpa [vget] using this
theorem vput_inj (a b : Nat) (ha : a < 18446744073709551616) (hb : b < 18446744073709551616) (h : vput a = vput b) : a = b := by
  have h1 := vget_put a [] ha
  have h2 := vget_put b [] hb
  rw [h, h2] at h1
  simpa using h1.symm

/-- The shape of a writing. -/
theorem vput_shape (n : Nat) (hn : n < 18446744073709551616) : ∃ cs b, vput n = cs ++ [b] ∧ (∀ a ∈ cs, 128 ≤ a.toNat) ∧ b.toNat < 128 := by
  induction n using Nat.strongRecOn with
  | _ n ih =>
    by_cases h : n < 128
    · exact ⟨[], UInt8.ofNat n, by rw [vput_small n h]; rfl, by simp, by simp; omega⟩
    · obtain ⟨cs, b, h1, h2, h3⟩ := ih (n / 128) (by omega) (by omega)
      refine ⟨UInt8.ofNat (n % 128 + 128) :: cs, b, by rw [vput_big n (by omega) hn, h1]; rfl, ?_, h3⟩
      intro a ha
      rcases List.mem_cons.1 ha with rfl | ha
      · rw [UInt8.toNat_ofNat']; omega
      · exact h2 a ha
theorem vput_len_mono (a b : Nat) (h : a ≤ b) (hb : b < 18446744073709551616) : (vput a).length ≤ (vput b).length := by
  induction b using Nat.strongRecOn generalizing a with
  | _ b ih =>
    by_cases h1 : a < 128
    · rw [vput_small a h1]; exact vput_pos b
    · rw [vput_big a (by omega) (by omega), vput_big b (by omega) hb]
      have := ih (b / 128) (by omega) (a / 128) (by omega) (by omega)
      simp; omega

/-- Past the bytes that go on. -/
theorem vscan_skip (l : List UInt8) (q : Nat) (hq : q ≤ 10) (hl : q ≤ l.length) (h : ∀ a ∈ l.take q, 128 ≤ a.toNat) : ∃ acc, vget l = vscan l (10 - q) q acc := by
  induction q with
  | zero => exact ⟨0, rfl⟩
  | succ q ih =>
    have ht : l.take (q + 1) = l.take q ++ [l[q]] := List.take_succ_eq_append_getElem (by omega)
    obtain ⟨acc, ha⟩ := ih (by omega) (by omega) (fun a ha => h a (by rw [ht]; exact List.mem_append.2 (.inl ha)))
    rw [vscan_step l q acc (by omega) (by omega)] at ha
    have hq2 : 128 ≤ (l.getD q 0).toNat := by
      have e : l.getD q 0 = l[q] := by simp [List.getD, show q < l.length by omega]
      rw [e]; exact h _ (by rw [ht]; exact List.mem_append.2 (.inr (List.mem_singleton.2 rfl)))
    rw [if_pos hq2] at ha
    exact ⟨_, ha⟩
theorem vget_endless (l : List UInt8) (h : ∀ a ∈ l.take (min 10 l.length), 128 ≤ a.toNat) : vget l = none := by
  obtain ⟨acc, ha⟩ := vscan_skip l (min 10 l.length) (by omega) (by omega) h
  rw [ha]; exact vscan_end l _ acc rfl
theorem vget_zero (cs : List UInt8) (h0 : 0 < cs.length) (h : ∀ a ∈ cs, 128 ≤ a.toNat) : vget (cs ++ [0]) = none := by
  by_cases h10 : 10 ≤ cs.length
  · refine vget_endless _ fun a ha => ?_
    rw [Nat.min_eq_left (by simp; omega), List.take_append_of_le_length h10] at ha
    exact h a (List.mem_of_mem_take ha)
  · obtain ⟨acc, ha⟩ := vscan_skip (cs ++ [0]) cs.length (by omega) (by simp) (by rw [List.take_left']; exact h; rfl)
    rw [ha, vscan_step _ _ _ (by simp) (by omega)]
    have e : ((cs ++ [0]).getD cs.length 0).toNat = 0 := by simp [List.getD]
    rw [e, if_neg (by omega), if_pos (.inl ⟨h0, rfl⟩)]
theorem or128 (b : UInt8) : bits .or .u8 (b.toNat : Int) 128 = ((b ||| 128).toNat : Int) := by
  have h : ∀ m : Fin 256, bits .or .u8 (m.val : Int) 128 = (((UInt8.ofNat m.val) ||| 128).toNat : Int) := by decide +kernel
  have := h ⟨b.toNat, b.toNat_lt⟩
  rw [this]
  congr 3
  exact ofNat_toNat8 b
theorem or128_ge (b : UInt8) : 128 ≤ (b ||| 128).toNat := by
  have h : ∀ m : Fin 256, 128 ≤ ((UInt8.ofNat m.val) ||| 128).toNat := by decide +kernel
  have := h ⟨b.toNat, b.toNat_lt⟩
  rwa [show UInt8.ofNat (⟨b.toNat, b.toNat_lt⟩ : Fin 256).val = b from ofNat_toNat8 b] at this
end Go.Pin
/- The reader over what was put. -/
namespace Go.Pin
set_option linter.unusedVariables false
set_option linter.unusedSimpArgs false
def bs (l : List UInt8) : ByteArray := ⟨l.toArray⟩
theorem bs_data (l : List UInt8) : (bs l).data.toList = l := by simp [bs]
theorem bs_size (l : List UInt8) : (bs l).size = l.length := by unfold bs; rw [size_mk]
theorem bs_of (s : ByteArray) : bs s.data.toList = s := by apply ByteArray.ext; apply Array.ext'; rw [bs_data]
theorem bs_ext (s t : ByteArray) (h : s.data.toList = t.data.toList) : s = t := by apply ByteArray.ext; apply Array.ext'; exact h
theorem bs_append (a b : List UInt8) : bs a ++ bs b = bs (a ++ b) := by apply bs_ext; rw [ByteArray.data_append, Array.toList_append, bs_data, bs_data, bs_data]
theorem bs_extract (l : List UInt8) (i j : Nat) : (bs l).extract i j = bs ((l.take j).drop i) := by
  apply bs_ext
  rw [ByteArray.data_extract, bs_data]
  simp only [Array.toList_extract, List.extract_eq_take_drop, bs_data, List.drop_take]
theorem bs_inj {a b : List UInt8} (h : bs a = bs b) : a = b := by
  have := congrArg (fun x : ByteArray => x.data.toList) h
  simpa [bs_data] using this

theorem rd_var_put (n : Nat) (rest : List UInt8) (x : Bool) (hn : n < 18446744073709551616) : (Rd.mk (bs (vput n ++ rest)) x).var = (n, ⟨bs rest, x⟩) := by
  unfold Rd.var
  have : vget (bs (vput n ++ rest)).data.toList = some (n, (vput n).length) := by rw [bs_data]; exact vget_put n rest hn
  simp only [this, bs_size, bs_extract]
  congr 3
  rw [List.take_of_length_le (Nat.le_refl _)]; simp
theorem rd_bytes_app (p rest : List UInt8) : (Rd.mk (bs (p ++ rest)) false).bytes (p.length : Int) = (bs p, ⟨bs rest, false⟩) := by
  unfold Rd.bytes
  rw [if_neg]
  · simp only [bs_size, bs_extract, Int.toNat_natCast]
    congr 2
    · simp
    · congr 1
      rw [List.take_of_length_le (Nat.le_refl _)]; simp
  · simp only [bs_size, List.length_append]
    rintro (h | h | h)
    · cases h
    · omega
    · omega
theorem rd_text_put (s : List UInt8) (rest : List UInt8) (hs : s.length < 18446744073709551616) : (Rd.mk (bs (vput s.length ++ s ++ rest)) false).text = (bs s, ⟨bs rest, false⟩) := by
  unfold Rd.text
  rw [List.append_assoc, rd_var_put _ _ _ hs]
  simp only [bs_size, List.length_append]
  rw [if_neg (by omega)]
  exact rd_bytes_app s rest
theorem beNat_fixed (k n : Nat) : beNat (fixedL k n) = n % 256 ^ k := by
  induction k generalizing n with
  | zero => simp [fixedL, beNat, Nat.mod_one]
  | succ k ih =>
    have : beNat (fixedL (k + 1) n) = beNat (fixedL k (n / 256)) * 256 + (UInt8.ofNat n).toNat := by
      unfold beNat; rw [fixedL, List.foldl_append]; rfl
    have e : (UInt8.ofNat n).toNat = n % 256 := by simp
    rw [this, ih, e, Nat.pow_succ, Nat.mul_comm (256 ^ k) 256, Nat.mod_mul]; omega
theorem rd_fixed_put (k n : Nat) (rest : List UInt8) (hk : k ≤ 8) : (Rd.mk (bs (fixedL k n ++ rest)) false).fixed (k : Int) = (n % 256 ^ k, ⟨bs rest, false⟩) := by
  unfold Rd.fixed
  rw [if_neg (by omega)]
  have h := rd_bytes_app (fixedL k n) rest
  rw [fixedL_len] at h
  simp only [h, bs_data, beNat_fixed]
end Go.Pin
/- The sum of chapter 1 as plain words on 32 bits. -/

namespace Go.Pin
set_option linter.unusedVariables false
set_option linter.unusedSimpArgs false

def cpoly : BitVec 32 := 0x82f63b78#32
def cstep (r : BitVec 32) : BitVec 32 := (r >>> 1) ^^^ (if r.getLsbD 0 then cpoly else 0#32)
def csteps : Nat → BitVec 32 → BitVec 32
  | 0, r => r
  | n + 1, r => cstep (csteps n r)
def ctake (r : BitVec 32) (b : UInt8) : BitVec 32 := csteps 8 (r ^^^ b.toBitVec.zeroExtend 32)
def crun (r : BitVec 32) (l : List UInt8) : BitVec 32 := l.foldl ctake r
def cmore (sum : BitVec 32) (l : List UInt8) : BitVec 32 := ~~~ (crun (~~~ sum) l)
/-- The four bytes, the highest first. -/
def u32be (r : BitVec 32) : List UInt8 := [UInt8.ofNat (r.toNat / 16777216), UInt8.ofNat (r.toNat / 65536), UInt8.ofNat (r.toNat / 256), UInt8.ofNat r.toNat]
def u32v (r : BitVec 32) : Int := (r.toNat : Int)

theorem u32v_range (r : BitVec 32) : 0 ≤ u32v r ∧ u32v r < 4294967296 := by
  unfold u32v; have := r.isLt; omega

theorem ofInt_u32v (r : BitVec 32) : BitVec.ofInt 32 (u32v r) = r := by
  apply BitVec.eq_of_toNat_eq
  rw [u32v, BitVec.ofInt_natCast, BitVec.toNat_ofNat]; exact Nat.mod_eq_of_lt r.isLt

theorem wrap_u32v (r : BitVec 32) : IntKind.u32.wrap (u32v r) = u32v r := by
  rw [IntKind.wrap_u32]; have := u32v_range r; omega

theorem bits_xor_u32v (a b : BitVec 32) : bits .xor .u32 (u32v a) (u32v b) = u32v (a ^^^ b) := by
  show IntKind.u32.wrap ((BitVec.ofInt 32 (u32v a) ^^^ BitVec.ofInt 32 (u32v b)).toNat : Int) = _
  rw [ofInt_u32v, ofInt_u32v]; exact wrap_u32v _

theorem bits_and_u32v (a b : BitVec 32) : bits .and .u32 (u32v a) (u32v b) = u32v (a &&& b) := by
  show IntKind.u32.wrap ((BitVec.ofInt 32 (u32v a) &&& BitVec.ofInt 32 (u32v b)).toNat : Int) = _
  rw [ofInt_u32v, ofInt_u32v]; exact wrap_u32v _

theorem u32v_shr (a : BitVec 32) (k : Nat) : u32v a / (2 ^ k : Nat) = u32v (a >>> k) := by
  unfold u32v
  rw [BitVec.toNat_ushiftRight, Nat.shiftRight_eq_div_pow]; simp

theorem u32v_one : u32v 1#32 = 1 := by decide

theorem cstep_law (r : BitVec 32) : bits .xor .u32 (u32v r / 2) (2197175160 * bits .and .u32 (u32v r) 1 % 4294967296) = u32v (cstep r) := by
  have e1 : u32v r / (2 : Int) = u32v (r >>> 1) := by unfold u32v; rw [BitVec.toNat_ushiftRight, Nat.shiftRight_eq_div_pow]; omega
  have e2 : bits .and .u32 (u32v r) 1 = u32v (r &&& 1#32) := by rw [← u32v_one]; exact bits_and_u32v r 1#32
  have e3 : r &&& 1#32 = if r.getLsbD 0 then 1#32 else 0#32 := by
    have : r &&& 1#32 = if r.getLsbD 0 then BitVec.twoPow 32 0 else 0#32 := by rw [← BitVec.and_twoPow]; rfl
    rw [this]; rfl
  have e4 : 2197175160 * u32v (r &&& 1#32) % 4294967296 = u32v (if r.getLsbD 0 then cpoly else 0#32) := by
    rw [e3]; split <;> decide
  rw [e1, e2, e4, bits_xor_u32v]; rfl

theorem u32v_xor_byte (r : BitVec 32) (b : UInt8) : bits .xor .u32 (u32v r) (b.toNat : Int) = u32v (r ^^^ b.toBitVec.zeroExtend 32) := by
  have : (b.toNat : Int) = u32v (b.toBitVec.zeroExtend 32) := by
    unfold u32v
    rw [BitVec.toNat_setWidth]
    have := b.toNat_lt
    simp only [UInt8.toNat_toBitVec]
    omega
  rw [this, bits_xor_u32v]
theorem not_u32v (n : BitVec 32) : bits BinOp.xor IntKind.u32 IntKind.u32.max (u32v n) = u32v (~~~ n) := by
  have : IntKind.u32.max = u32v (BitVec.allOnes 32) := by decide
  rw [this, bits_xor_u32v, BitVec.allOnes_xor]

theorem crun_take (r : BitVec 32) (l : List UInt8) (k : Nat) (h : k < l.length) : crun r (l.take (k + 1)) = ctake (crun r (l.take k)) (l.getD k 0) := by
  unfold crun
  rw [List.take_succ_eq_append_getElem h, List.foldl_append]; simp [h]


def cput (s : ByteArray) : ByteArray := ⟨(u32be (cmore 0#32 s.data.toList) ++ s.data.toList).toArray⟩
def cget (s : ByteArray) : ByteArray × Bool := if s.size < 4 ∨ cput (s.extract 4 s.size) ≠ s then (ByteArray.empty, false) else (s.extract 4 s.size, true)

theorem ofNat_mod (n : Nat) : UInt8.ofNat (n % 256) = UInt8.ofNat n := by
  apply UInt8.toNat_inj.1; simp

theorem cput_law (s : ByteArray) : strOfNums [u32v (cmore 0#32 s.data.toList) / 16777216, u32v (cmore 0#32 s.data.toList) / 65536 % 256, u32v (cmore 0#32 s.data.toList) / 256 % 256, u32v (cmore 0#32 s.data.toList) % 256] ++ s = cput s := by
  generalize hr : cmore 0#32 s.data.toList = r
  have h1 : UInt8.ofNat ((u32v r / (16777216 : Int)).toNat) = UInt8.ofNat (r.toNat / 16777216) := by
    have : (u32v r / (16777216 : Int)).toNat = r.toNat / 16777216 := by unfold u32v; omega
    rw [this]
  have h2 : UInt8.ofNat ((u32v r / (65536 : Int) % 256).toNat) = UInt8.ofNat (r.toNat / 65536) := by
    have : (u32v r / (65536 : Int) % 256).toNat = r.toNat / 65536 % 256 := by unfold u32v; omega
    rw [this, ofNat_mod]
  have h3 : UInt8.ofNat ((u32v r / (256 : Int) % 256).toNat) = UInt8.ofNat (r.toNat / 256) := by
    have : (u32v r / (256 : Int) % 256).toNat = r.toNat / 256 % 256 := by unfold u32v; omega
    rw [this, ofNat_mod]
  have h4 : UInt8.ofNat ((u32v r % 256).toNat) = UInt8.ofNat r.toNat := by
    have : (u32v r % 256).toNat = r.toNat % 256 := by unfold u32v; omega
    rw [this, ofNat_mod]
  apply ByteArray.ext
  unfold cput strOfNums u32be
  simp only [hr, List.map, ByteArray.data_append]
  rw [h1, h2, h3, h4]
  simp

/-! ### the document's own loop: a byte's bits one by one -/
def rbit (r : BitVec 32) (b : BitVec 32) : BitVec 32 := (r >>> 1) ^^^ (if (r ^^^ b).getLsbD 0 then cpoly else 0#32)
def rbits : Nat → BitVec 32 → UInt8 → BitVec 32
  | 0, r, _ => r
  | n + 1, r, b => rbit (rbits n r b) (b.toBitVec.zeroExtend 32 >>> n)

theorem rbits_csteps (r : BitVec 32) (b : UInt8) (n : Nat) : csteps n (r ^^^ b.toBitVec.zeroExtend 32) = rbits n r b ^^^ (b.toBitVec.zeroExtend 32 >>> n) := by
  induction n with
  | zero => simp [csteps, rbits]
  | succ n ih =>
    rw [csteps, ih, rbits, rbit, cstep, BitVec.ushiftRight_xor_distrib, BitVec.shiftRight_add]
    generalize rbits n r b = x
    generalize b.toBitVec.zeroExtend 32 >>> n = y
    rw [BitVec.xor_assoc, BitVec.xor_assoc, BitVec.xor_comm (y >>> 1)]

theorem rbits_take (r : BitVec 32) (b : UInt8) : rbits 8 r b = ctake r b := by
  rw [ctake, rbits_csteps]
  have : (b.toBitVec.zeroExtend 32 >>> 8) = 0#32 := by
    apply BitVec.eq_of_toNat_eq
    rw [BitVec.toNat_ushiftRight, BitVec.toNat_setWidth]
    have := b.toNat_lt
    simp only [UInt8.toNat_toBitVec, Nat.shiftRight_eq_div_pow]
    simp; omega
  rw [this, BitVec.xor_zero]

theorem byte_shr (c : UInt8) (j : Nat) : ((c.toNat : Int) / 2 ^ j % 4294967296) = u32v (c.toBitVec.zeroExtend 32 >>> j) := by
  unfold u32v
  rw [BitVec.toNat_ushiftRight, BitVec.toNat_setWidth, Nat.shiftRight_eq_div_pow]
  simp only [UInt8.toNat_toBitVec]
  have h := c.toNat_lt
  have h1 : c.toNat / 2 ^ j ≤ c.toNat := Nat.div_le_self _ _
  have h2 : c.toNat % 2 ^ 32 = c.toNat := Nat.mod_eq_of_lt (by omega)
  rw [h2]
  have h3 : ((c.toNat : Int) / 2 ^ j) = ((c.toNat / 2 ^ j : Nat) : Int) := by simp
  rw [h3]; generalize c.toNat / 2 ^ j = d at h1 ⊢; omega

theorem rbit_test (x : BitVec 32) (c : UInt8) (j : Nat) :
    ((bits .xor .u32 (u32v x) ((c.toNat : Int) / 2 ^ j % 4294967296)).tmod 2 == 1) = (x ^^^ (c.toBitVec.zeroExtend 32 >>> j)).getLsbD 0 := by
  rw [byte_shr, bits_xor_u32v]
  generalize x ^^^ (c.toBitVec.zeroExtend 32 >>> j) = y
  have h0 := (u32v_range y).1
  rw [Int.tmod_eq_emod_of_nonneg h0]
  have : y.getLsbD 0 = decide (y.toNat % 2 = 1) := by
    rw [BitVec.getLsbD, Nat.testBit_zero]
  rw [this, Bool.eq_iff_iff]
  unfold u32v
  simp only [beq_iff_eq, decide_eq_true_iff]
  omega

theorem rbit_yes (x b : BitVec 32) (h : (x ^^^ b).getLsbD 0 = true) : bits .xor .u32 (u32v x / 2) 2197175160 = u32v (rbit x b) := by
  have e1 : u32v x / (2 : Int) = u32v (x >>> 1) := by unfold u32v; rw [BitVec.toNat_ushiftRight, Nat.shiftRight_eq_div_pow]; omega
  have e2 : (2197175160 : Int) = u32v cpoly := by decide
  rw [e1, e2, bits_xor_u32v, rbit, if_pos h]
theorem rbit_no (x b : BitVec 32) (h : (x ^^^ b).getLsbD 0 = false) : u32v x / 2 = u32v (rbit x b) := by
  have e1 : u32v x / (2 : Int) = u32v (x >>> 1) := by unfold u32v; rw [BitVec.toNat_ushiftRight, Nat.shiftRight_eq_div_pow]; omega
  rw [e1, rbit, h]; simp

theorem cput_size (s : ByteArray) : (cput s).size = s.size + 4 := by
  show (u32be (cmore 0#32 s.data.toList) ++ s.data.toList).toArray.size = _
  simp [u32be]
theorem cput_extract (s : ByteArray) : (cput s).extract 4 (cput s).size = s := by
  apply ByteArray.ext
  rw [ByteArray.data_extract, cput_size]
  show (u32be (cmore 0#32 s.data.toList) ++ s.data.toList).toArray.extract 4 (s.size + 4) = s.data
  apply Array.ext'
  simp [u32be, List.extract]
  exact List.take_of_length_le (Nat.le_refl _)
theorem cget_cput (s : ByteArray) : cget (cput s) = (s, true) := by
  unfold cget
  rw [cput_extract, if_neg]
  rintro (h | h)
  · rw [cput_size] at h; omega
  · exact h rfl
theorem cmore_append (r : BitVec 32) (a b : List UInt8) : cmore (cmore r a) b = cmore r (a ++ b) := by
  unfold cmore crun
  rw [List.foldl_append, BitVec.not_not]
theorem extract_data (s : ByteArray) (i j : Nat) : (s.extract i j).data.toList = (s.data.toList.take j).drop i := by
  rw [ByteArray.data_extract]; simp [List.extract_eq_take_drop, List.drop_take]
theorem cmore_parts (s : ByteArray) (k : Nat) : cmore (cmore 0#32 (List.take k s.data.toList)) (List.take (s.size - k) (List.drop k s.data.toList)) = cmore 0#32 s.data.toList := by
  rw [cmore_append]
  congr 1
  have : List.take (s.size - k) (List.drop k s.data.toList) = List.drop k s.data.toList := List.take_of_length_le (by simp)
  rw [this, List.take_append_drop]

end Go.Pin
/- Frames, plainly: what is packed, and what a text begins with. -/
namespace Go.Pin
set_option linter.unusedVariables false
def flen (v : Int) (n : Nat) : ByteArray := if v = 1 then fixedS n 4 else vputS n
def fhead (v : Int) (n : Nat) : ByteArray := fixedS (160 + v).toNat 1 ++ flen v n
def csum (head body : ByteArray) : BitVec 32 := cmore (cmore 0#32 head.data.toList) body.data.toList
def fpack (v : Int) (b : ByteArray) : ByteArray × Bool :=
  if v < 1 ∨ 2 < v ∨ 1048576 < b.size then (⟨#[]⟩, false) else (fhead v b.size ++ fixedS (csum (fhead v b.size) b).toNat 4 ++ b, true)
/-- What stands in a frame's head: the version, how long its body is, and the reader behind it. -/
def fopen (s : ByteArray) : Int × Nat × Rd :=
  let x := (Rd.mk s false).fixed 1
  let v := (x.1 : Int) - 160
  let y := if v = 1 then x.2.fixed 4 else x.2.var
  (v, y.1, y.2)
abbrev Frame := Int × ByteArray × Int × Bool
def fnone : Frame := (0, ⟨#[]⟩, 0, false)
/-- The frame that a text begins with, as the program reads it. -/
def fnext (s : ByteArray) : Frame :=
  let o := fopen s
  if o.1 ≠ 1 ∧ o.1 ≠ 2 then fnone else
  let head := s.extract 0 (s.size - o.2.2.s.size)
  let z := o.2.2.fixed 4
  if z.2.bad = true ∨ 1048576 < o.2.1 ∨ z.2.s.size < o.2.1 then fnone else
  let b := z.2.bytes o.2.1
  if ((csum head b.1).toNat : Int) ≠ (z.1 : Int) then fnone else (o.1, b.1, (s.size : Int) - b.2.s.size, true)
/-- .. as the document does. -/
def fnextR (s : ByteArray) : Frame :=
  let o := fopen s
  let z := o.2.2.fixed 4
  if z.2.s.size < o.2.1 then fnone else
  let b := z.2.bytes o.2.1
  let t := fpack o.1 b.1
  if b.2.bad = true ∨ t.2 = false ∨ s.size < t.1.size ∨ s.extract 0 t.1.size ≠ t.1 then fnone else (o.1, b.1, t.1.size, true)
theorem fixedS_size (n : Nat) (k : Int) : (fixedS n k).size ≤ 8 := by
  unfold fixedS
  split
  · exact Nat.zero_le _
  · rename_i h; rw [size_mk, fixedL_len]; omega
theorem flen_size (v : Int) (n : Nat) : (flen v n).size ≤ 10 := by
  unfold flen
  split
  · exact Nat.le_trans (fixedS_size _ _) (by omega)
  · exact (vputS_size n).1
theorem fhead_size (v : Int) (n : Nat) : (fhead v n).size ≤ 18 := by
  unfold fhead
  have h1 := fixedS_size (160 + v).toNat 1
  have h2 := flen_size v n
  rw [ByteArray.size_append]; omega
theorem fpack_size (v : Int) (b : ByteArray) : (fpack v b).1.size ≤ b.size + 26 := by
  unfold fpack
  split
  · exact Nat.zero_le _
  · have h1 := fhead_size v b.size
    have h2 := fixedS_size (csum (fhead v b.size) b).toNat 4
    simp only [ByteArray.size_append]; omega
end Go.Pin
/- The plain law of frames: the program and the document read the same frame. -/
namespace Go.Pin
set_option linter.unusedVariables false
set_option linter.unusedSimpArgs false

theorem vscan_inv (l : List UInt8) : ∀ (f i n m k : Nat), i + f ≤ 10 → i ≤ l.length → (∀ a ∈ l.take i, 128 ≤ a.toNat) → n = vval (l.take i) → vscan l f i n = some (m, k) → l.take k = vput m ∧ k ≤ l.length
  | 0, _, _, _, _, _, _, _, _, h => by simp [vscan] at h
  | f + 1, i, n, m, k, hi, hl, hall, hn, h => by
    rw [vscan] at h
    split at h
    · rename_i hlt
      have htk : l.take (i + 1) = l.take i ++ [l.getD i 0] := by
        rw [List.take_succ_eq_append_getElem hlt]; simp [List.getD, hlt]
      have hlen : (l.take i).length = i := by rw [List.length_take]; omega
      have hvi : vval (l.take i) < 128 ^ i := by have := vval_lt (l.take i); rwa [hlen] at this
      generalize hc : l.getD i 0 = c at *
      have hv1 : vval (l.take (i + 1)) = vval (l.take i) + c.toNat % 128 * 128 ^ i := by rw [htk, vval_append, hlen]
      have hp9 : i ≤ 9 → 128 ^ i ≤ 9223372036854775808 := fun h9 => by
        have : (128 : Nat) ^ i ≤ 128 ^ 9 := Nat.pow_le_pow_right (by decide) h9
        simpa using this
      have hp8 : i ≤ 8 → 128 ^ i ≤ 72057594037927936 := fun h9 => by
        have : (128 : Nat) ^ i ≤ 128 ^ 8 := Nat.pow_le_pow_right (by decide) h9
        simpa using this
      dsimp only at h
      split at h
      · rename_i h128
        by_cases h9 : i = 9
        · subst h9
          have : f = 0 := by omega
          subst this
          simp [vscan] at h
        · have hsm : c.toNat % 128 * 128 ^ i < 18446744073709551616 := by
            have h1 := hp8 (by omega)
            have h2 : c.toNat % 128 * 128 ^ i ≤ 128 * 72057594037927936 := Nat.mul_le_mul (by omega) h1
            omega
          rw [Nat.mod_eq_of_lt hsm] at h
          refine vscan_inv l f (i + 1) _ m k (by omega) (by omega) ?_ ?_ h
          · intro a ha
            rw [htk, List.mem_append] at ha
            rcases ha with ha | ha
            · exact hall a ha
            · simp at ha; subst ha; exact h128
          · rw [hv1, hn]
      · rename_i h128
        split at h
        · cases h
        · rename_i hno
          simp only [Option.some.injEq, Prod.mk.injEq] at h
          obtain ⟨rfl, rfl⟩ := h
          have hsm : c.toNat % 128 * 128 ^ i < 18446744073709551616 ∧ vval (l.take i) + c.toNat % 128 * 128 ^ i < 18446744073709551616 := by
            by_cases h9 : i = 9
            · subst h9
              have hc1 : c.toNat ≤ 1 := by
                rcases Nat.lt_or_ge 1 c.toNat with h1 | h1
                · exact absurd (.inr ⟨rfl, h1⟩) hno
                · exact h1
              have h1 := hp9 (by omega)
              have h2 : c.toNat % 128 * 128 ^ 9 ≤ 1 * 9223372036854775808 := Nat.mul_le_mul (by omega) h1
              omega
            · have h1 := hp8 (by omega)
              have h2 : c.toNat % 128 * 128 ^ i ≤ 128 * 72057594037927936 := Nat.mul_le_mul (by omega) h1
              omega
          refine ⟨?_, by omega⟩
          rw [Nat.mod_eq_of_lt hsm.1, htk, hn, ← hv1, htk]
          refine (vput_vval (l.take i) c hall (by omega) (fun hne => ?_) (by rw [← htk, hv1]; exact hsm.2)).symm
          have hi0 : 0 < i := by
            rcases Nat.eq_zero_or_pos i with h0 | h0
            · exact absurd (by rw [h0]; rfl) hne
            · exact h0
          rcases Nat.eq_zero_or_pos c.toNat with h0 | h0
          · exact absurd (.inl ⟨hi0, h0⟩) hno
          · exact h0
    · cases h
theorem vget_inv (l : List UInt8) (m k : Nat) (h : vget l = some (m, k)) : l.take k = vput m ∧ k ≤ l.length :=
  vscan_inv l 10 0 0 m k (by omega) (by omega) (by simp) (by simp [vval]) h

theorem take_drop_data (s : ByteArray) (k : Nat) (hk : k ≤ s.size) : s.data.toList = (s.extract 0 k).data.toList ++ (s.extract k s.size).data.toList := by
  rw [extract_data, extract_data]
  have : s.data.toList.length = s.size := rfl
  rw [List.drop_zero, ← this, List.take_length, List.take_append_drop]
theorem Rd.bytes_inv (r : Rd) (n : Int) (h : (r.bytes n).2.bad = false) : r.bad = false ∧ 0 ≤ n ∧ ((r.bytes n).1.size : Int) = n ∧ r.s.data.toList = (r.bytes n).1.data.toList ++ (r.bytes n).2.s.data.toList := by
  unfold Rd.bytes at h ⊢
  split at h
  · simp [Rd.fail] at h
  · rename_i hno
    rw [if_neg hno]
    have hb : r.bad = false := h
    refine ⟨hb, by omega, ?_, take_drop_data _ _ (by omega)⟩
    show ((r.s.extract 0 n.toNat).size : Int) = n
    rw [ByteArray.size_extract]; omega
theorem Rd.var_inv (r : Rd) (h : r.var.2.bad = false) : r.bad = false ∧ r.s.data.toList = vput r.var.1 ++ r.var.2.s.data.toList := by
  unfold Rd.var at h ⊢
  split at h
  · rename_i n k hg
    obtain ⟨h1, h2⟩ := vget_inv _ _ _ hg
    simp only [hg]
    refine ⟨h, ?_⟩
    rw [← h1]
    have := take_drop_data r.s k h2
    rw [extract_data] at this
    simpa using this
  · simp [Rd.fail] at h
theorem beNat_snoc (l : List UInt8) (b : UInt8) : beNat (l ++ [b]) = beNat l * 256 + b.toNat := by
  unfold beNat; rw [List.foldl_append]; rfl
theorem fixed_beNat (l : List UInt8) : ∀ k, l.length = k → fixedL k (beNat l) = l := by
  intro k hk
  induction k generalizing l with
  | zero => rw [List.eq_nil_of_length_eq_zero hk]; rfl
  | succ k ih =>
    obtain ⟨l', b, rfl⟩ : ∃ l' b, l = l' ++ [b] := ⟨l.dropLast, l.getLast (by intro h; rw [h] at hk; simp at hk), by rw [List.dropLast_concat_getLast]⟩
    have hl' : l'.length = k := by simpa using hk
    have hb := b.toNat_lt
    rw [beNat_snoc, fixedL, show (beNat l' * 256 + b.toNat) / 256 = beNat l' from by omega, ih l' hl']
    congr 1
    have : UInt8.ofNat (beNat l' * 256 + b.toNat) = b := by
      apply UInt8.toNat_inj.1
      rw [UInt8.toNat_ofNat']; omega
    rw [this]
theorem Rd.fixed_inv (r : Rd) (k : Nat) (hk : k ≤ 8) (h : (r.fixed k).2.bad = false) : r.bad = false ∧ r.s.data.toList = fixedL k (r.fixed k).1 ++ (r.fixed k).2.s.data.toList := by
  unfold Rd.fixed at h ⊢
  rw [if_neg (by omega)] at h ⊢
  obtain ⟨h1, h2, h3, h4⟩ := Rd.bytes_inv r k h
  refine ⟨h1, ?_⟩
  have hl : (r.bytes k).1.data.toList.length = k := by
    have : (r.bytes k).1.data.toList.length = (r.bytes k).1.size := rfl
    omega
  show _ = fixedL k (beNat (r.bytes k).1.data.toList) ++ _
  rw [fixed_beNat _ k hl]; exact h4
theorem fixedS_data (n k : Nat) (hk : k ≤ 8) : (fixedS n k).data.toList = fixedL k n := by
  unfold fixedS
  rw [if_neg (by omega)]
  simp
theorem vputS_data (n : Nat) : (vputS n).data.toList = vput n := by simp [vputS]
theorem flen_data (v : Int) (n : Nat) : (flen v n).data.toList = if v = 1 then fixedL 4 n else vput n := by
  unfold flen
  split
  · exact fixedS_data n 4 (by omega)
  · exact vputS_data n
theorem fhead_data (v : Int) (n : Nat) : (fhead v n).data.toList = fixedL 1 (160 + v).toNat ++ (if v = 1 then fixedL 4 n else vput n) := by
  unfold fhead
  rw [ByteArray.data_append, Array.toList_append, flen_data]
  have : (fixedS (160 + v).toNat 1).data.toList = fixedL 1 (160 + v).toNat := fixedS_data _ 1 (by omega)
  rw [this]
theorem extract_pre (s a : ByteArray) (rest : List UInt8) (h : s.data.toList = a.data.toList ++ rest) : s.extract 0 a.size = a := by
  apply bs_ext
  rw [extract_data, List.drop_zero, h]
  have : a.size = a.data.toList.length := rfl
  rw [this, List.take_left]
theorem Rd.fixed_lt4 (r : Rd) : (r.fixed 4).1 < 256 ^ 4 := by
  unfold Rd.fixed
  refine Nat.lt_of_lt_of_le (beNat_lt _) (Nat.pow_le_pow_right (by omega) ?_)
  have h := Rd.bytes_size (if (8 : Int) < 4 then Rd.fail else r) 4
  have : ((if (8 : Int) < 4 then Rd.fail else r).bytes 4).1.data.toList.length = ((if (8 : Int) < 4 then Rd.fail else r).bytes 4).1.size := rfl
  rw [this]; omega
/-- What was opened well. -/
theorem fopen_inv (s : ByteArray) (h : (fopen s).2.2.bad = false) (hv : (fopen s).1 = 1 ∨ (fopen s).1 = 2) :
    s.data.toList = (fhead (fopen s).1 (fopen s).2.1).data.toList ++ (fopen s).2.2.s.data.toList := by
  rw [fhead_data]
  unfold fopen at h hv ⊢
  dsimp only at h hv ⊢
  generalize hx : (Rd.mk s false).fixed 1 = x at *
  obtain ⟨n, r⟩ := x
  dsimp only at h hv ⊢
  have hn : (160 + ((n : Int) - 160)).toNat = n := by omega
  rw [hn]
  by_cases h1 : (n : Int) - 160 = 1
  · rw [if_pos h1] at h ⊢
    rw [if_pos h1]
    obtain ⟨g1, g2⟩ := Rd.fixed_inv r 4 (by omega) h
    have h0 : (((Rd.mk s false).fixed ((1 : Nat) : Int)).2).bad = false := by rw [show (((1 : Nat) : Int)) = 1 from rfl, hx]; exact g1
    obtain ⟨_, g3⟩ := Rd.fixed_inv ⟨s, false⟩ 1 (by omega) h0
    rw [show (((1 : Nat) : Int)) = 1 from rfl, hx] at g3
    rw [show s.data.toList = (Rd.mk s false).s.data.toList from rfl, g3]
    dsimp only
    rw [g2, List.append_assoc]; rfl
  · rw [if_neg h1] at h ⊢
    rw [if_neg h1]
    obtain ⟨g1, g2⟩ := Rd.var_inv r h
    have h0 : (((Rd.mk s false).fixed ((1 : Nat) : Int)).2).bad = false := by rw [show (((1 : Nat) : Int)) = 1 from rfl, hx]; exact g1
    obtain ⟨_, g3⟩ := Rd.fixed_inv ⟨s, false⟩ 1 (by omega) h0
    rw [show (((1 : Nat) : Int)) = 1 from rfl, hx] at g3
    rw [show s.data.toList = (Rd.mk s false).s.data.toList from rfl, g3]
    dsimp only
    rw [g2, List.append_assoc]

theorem fnext_eq (s : ByteArray) : fnextR s = fnext s := by
  unfold fnextR fnext
  dsimp only
  generalize hv : (fopen s).1 = v
  generalize hn : (fopen s).2.1 = n
  generalize hr : (fopen s).2.2 = r
  by_cases h12 : v ≠ 1 ∧ v ≠ 2
  · rw [if_pos h12]
    split
    · rfl
    · rw [if_pos]
      right; left
      unfold fpack
      rw [if_pos (by omega)]
  · rw [if_neg h12]
    have h12' : v = 1 ∨ v = 2 := by omega
    by_cases hsz : (r.fixed 4).2.s.size < n
    · rw [if_pos hsz, if_pos (.inr (.inr hsz))]
    · rw [if_neg hsz]
      cases hbad : (r.fixed 4).2.bad with
      | true =>
        have hb2 : ((r.fixed 4).2.bytes n).2.bad = true := by
          unfold Rd.bytes
          rw [if_pos (.inl hbad)]; rfl
        rw [if_pos (.inl hb2), if_pos (.inl rfl)]
      | false =>
        have hz := Rd.fixed_inv r 4 (by omega) hbad
        obtain ⟨hrb, hrd⟩ := hz
        replace hrd : r.s.data.toList = fixedL 4 (r.fixed 4).1 ++ (r.fixed 4).2.s.data.toList := hrd
        have hby : ((r.fixed 4).2.bytes n).2.bad = false := by
          unfold Rd.bytes
          rw [if_neg (by rw [hbad]; simp; omega)]
          exact hbad
        obtain ⟨_, _, hbs, hbd⟩ := Rd.bytes_inv _ _ hby
        have hso := fopen_inv s (by rw [hr]; exact hrb) (by rw [hv]; exact h12')
        rw [hv, hn, hr, hrd, hbd] at hso
        have hS : (r.fixed 4).1 < 256 ^ 4 := Rd.fixed_lt4 r
        have hrs : r.s.size = 4 + (((r.fixed 4).2.bytes n).1.size + ((r.fixed 4).2.bytes n).2.s.size) := by
          have h1 := congrArg List.length hrd
          rw [hbd] at h1
          simp only [List.length_append, fixedL_len] at h1
          exact h1
        rw [hby]
        generalize (r.fixed 4).1 = S at *
        generalize ((r.fixed 4).2.bytes n).2 = r4 at *
        generalize ((r.fixed 4).2.bytes n).1 = body at *
        have hbn : body.size = n := by omega
        have hss : s.size = (fhead v n).size + r.s.size := by
          have h1 := congrArg List.length hso
          simp only [List.length_append, fixedL_len] at h1
          have e1 : s.size = s.data.toList.length := rfl
          have e2 : (fhead v n).size = (fhead v n).data.toList.length := rfl
          have e3 : body.size = body.data.toList.length := rfl
          have e4 : r4.s.size = r4.s.data.toList.length := rfl
          omega
        have hhead : s.extract 0 (s.size - r.s.size) = fhead v n := by
          rw [hss, Nat.add_sub_cancel]
          exact extract_pre s (fhead v n) _ hso
        rw [hhead]
        by_cases hbig : 1048576 < n
        · rw [if_pos (show false = true ∨ 1048576 < n ∨ (r.fixed 4).2.s.size < n from .inr (.inl hbig)), if_pos]
          right; left
          unfold fpack
          rw [if_pos (by omega)]
        · rw [if_neg (show ¬ (false = true ∨ 1048576 < n ∨ (r.fixed 4).2.s.size < n) from by simp; omega)]
          have hp : fpack v body = (fhead v n ++ fixedS (csum (fhead v n) body).toNat 4 ++ body, true) := by
            unfold fpack
            rw [if_neg (by omega), hbn]
          rw [hp]
          dsimp only
          have hq : (csum (fhead v n) body).toNat < 256 ^ 4 := by have := (csum (fhead v n) body).isLt; simpa using this
          generalize (csum (fhead v n) body).toNat = q at *
          have h4 : (fixedS q 4).data.toList = fixedL 4 q := fixedS_data q 4 (by omega)
          have h4z : (fixedS q 4).size = 4 := by
            have : (fixedS q 4).size = (fixedS q 4).data.toList.length := rfl
            rw [this, h4, fixedL_len]
          have htz : (fhead v n ++ fixedS q 4 ++ body).size = (fhead v n).size + 4 + n := by
            rw [ByteArray.size_append, ByteArray.size_append, h4z, hbn]
          have htd : (fhead v n ++ fixedS q 4 ++ body).data.toList = (fhead v n).data.toList ++ (fixedL 4 q ++ body.data.toList) := by
            rw [ByteArray.data_append, Array.toList_append, ByteArray.data_append, Array.toList_append, h4, List.append_assoc]
          by_cases hqS : q = S
          · subst hqS
            have hex : s.extract 0 (fhead v n ++ fixedS q 4 ++ body).size = fhead v n ++ fixedS q 4 ++ body := by
              refine extract_pre s _ r4.s.data.toList ?_
              rw [hso, htd]; simp only [List.append_assoc]
            rw [if_neg (by rw [hex, htz]; simp; omega), if_neg (by simp), htz]
            congr 3
            omega
          · rw [if_pos (c := ((q : Int) ≠ (S : Int))) (by omega), if_pos]
            right; right; right
            intro hex
            have h1 := congrArg (fun x : ByteArray => x.data.toList) hex
            rw [extract_data, List.drop_zero, hso, htd, htz] at h1
            rw [List.take_append] at h1
            have e2 : (fhead v n).size = (fhead v n).data.toList.length := rfl
            rw [List.take_of_length_le (by omega)] at h1
            have h2 := List.append_cancel_left h1
            rw [List.take_append, List.take_of_length_le (by rw [fixedL_len]; omega)] at h2
            have h3 := List.append_inj_left h2 (by rw [fixedL_len, fixedL_len])
            have h5 := congrArg beNat h3
            rw [beNat_fixed, beNat_fixed, Nat.mod_eq_of_lt hS, Nat.mod_eq_of_lt hq] at h5
            exact hqS h5.symm
end Go.Pin
