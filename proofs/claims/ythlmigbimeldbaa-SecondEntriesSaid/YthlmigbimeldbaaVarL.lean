/- The plain law of the varint: a number has one writing; what is read is what is put. -/
import Derived.Test.YthlmigbimeldbaaRdM
namespace Go.Pin
set_option linter.unusedVariables false
set_option linter.unusedSimpArgs false

def vval : List UInt8 → Nat
  | [] => 0
  | a :: l => a.toNat % 128 + 128 * vval l
theorem vval_append (l : List UInt8) (b : UInt8) : vval (l ++ [b]) = vval l + b.toNat % 128 * 128 ^ l.length := by
  induction l with
  | nil => simp [vval]
  | cons a l ih =>
    rw [List.cons_append, vval, ih, vval, List.length_cons, Nat.pow_succ, Nat.mul_add, Nat.add_assoc]
    congr 2
    rw [Nat.mul_comm (128 ^ l.length) 128, ← Nat.mul_assoc, Nat.mul_comm 128, Nat.mul_assoc]
theorem vval_lt (l : List UInt8) : vval l < 128 ^ l.length := by
  induction l with
  | nil => simp [vval]
  | cons a l ih =>
    rw [vval, List.length_cons, Nat.pow_succ]
    have : a.toNat % 128 < 128 := Nat.mod_lt _ (by decide)
    omega
theorem ofNat_toNat8 (a : UInt8) : UInt8.ofNat a.toNat = a := by apply UInt8.toNat_inj.1; simp

/-- A writing that ends well is the number's own. -/
theorem vput_vval (cs : List UInt8) (b : UInt8) (hcs : ∀ a ∈ cs, 128 ≤ a.toNat) (hb : b.toNat < 128) (h0 : cs ≠ [] → 0 < b.toNat) (hv : vval (cs ++ [b]) < 18446744073709551616) : vput (vval (cs ++ [b])) = cs ++ [b] := by
  induction cs with
  | nil =>
    have e : vval ([] ++ [b]) = b.toNat := by simp [vval]; omega
    rw [e, vput_small _ hb, ofNat_toNat8]; rfl
  | cons a cs ih =>
    have hb0 := h0 (by simp)
    have ha := hcs a (by simp)
    have ha2 := a.toNat_lt
    have e : vval (a :: cs ++ [b]) = a.toNat % 128 + 128 * vval (cs ++ [b]) := rfl
    rw [e] at hv ⊢
    have hpos : 0 < vval (cs ++ [b]) := by
      rw [vval_append]
      have : 0 < b.toNat % 128 * 128 ^ cs.length := Nat.mul_pos (by omega) (Nat.pow_pos (by decide))
      omega
    rw [vput_big _ (by omega) hv]
    have e1 : (a.toNat % 128 + 128 * vval (cs ++ [b])) % 128 + 128 = a.toNat := by omega
    have e2 : (a.toNat % 128 + 128 * vval (cs ++ [b])) / 128 = vval (cs ++ [b]) := by omega
    rw [e1, e2, ih (fun x hx => hcs x (by simp [hx])) (fun _ => hb0) (by omega), ofNat_toNat8]; rfl
theorem vputF_len_lt (f k n : Nat) (hk : 0 < k) (h : n < 128 ^ k) : (vputF f n).length ≤ k := by
  induction f generalizing n k with
  | zero => simp [vputF]; omega
  | succ f ih =>
    rw [vputF]
    split
    · simp; omega
    · rename_i h1
      have hk2 : 1 < k := by
        rcases Nat.lt_or_ge 1 k with h2 | h2
        · exact h2
        · have : k = 1 := by omega
          subst this; simp at h; omega
      obtain ⟨m, rfl⟩ : ∃ m, k = m + 1 := ⟨k - 1, by omega⟩
      have := ih m (n / 128) (by omega) (by rw [Nat.div_lt_iff_lt_mul (by decide), ← Nat.pow_succ]; exact h)
      simp; exact this
theorem vputF_last (f n : Nat) : ((vputF f n).getD f 0).toNat ≤ n / 128 ^ f := by
  induction f generalizing n with
  | zero => simp [vputF]; exact Nat.mod_le _ _
  | succ f ih =>
    rw [vputF]
    split
    · simp [List.getD]
    · have := ih (n / 128)
      rw [Nat.div_div_eq_div_mul, ← Nat.pow_succ'] at this
      simpa [List.getD] using this

/-- The document's own test: is it put so? -/
theorem vput_test (l : List UInt8) (j : Nat) (hj : j < 10) (hl : j < l.length) (hcs : ∀ a ∈ l.take j, 128 ≤ a.toNat) (hb : (l.getD j 0).toNat < 128) :
    vput (vval (l.take j) + (l.getD j 0).toNat % 128 * 128 ^ j % 18446744073709551616) = l.take (j + 1) ↔ ¬ ((0 < j ∧ (l.getD j 0).toNat = 0) ∨ (j = 9 ∧ 1 < (l.getD j 0).toNat)) := by
  have hgd : l.getD j 0 = l[j] := by simp [List.getD, hl]
  have ht : l.take (j + 1) = l.take j ++ [l.getD j 0] := by rw [hgd, List.take_succ_eq_append_getElem hl]
  have hlen : (l.take j).length = j := by rw [List.length_take]; omega
  have hxl := vval_lt (l.take j)
  rw [hlen] at hxl
  generalize hB : l.getD j 0 = b at *
  have hp : (128 : Nat) ^ j ≤ 128 ^ 9 := Nat.pow_le_pow_right (by omega) (by omega)
  have e9 : (128 : Nat) ^ 9 = 9223372036854775808 := by decide
  rw [e9] at hp
  constructor
  · rintro h (⟨h1, h2⟩ | ⟨h1, h2⟩)
    · rw [h2, Nat.zero_mod, Nat.zero_mul, Nat.zero_mod, Nat.add_zero] at h
      have h3 := vputF_len_lt 9 j _ h1 hxl
      have h4 := congrArg List.length h
      rw [ht, List.length_append, hlen] at h4
      unfold vput at h4
      simp at h4; omega
    · subst h1
      have h3 := vputF_last 9 (vval (l.take 9) + b.toNat % 128 * 128 ^ 9 % 18446744073709551616)
      have h4 : (vputF 9 (vval (l.take 9) + b.toNat % 128 * 128 ^ 9 % 18446744073709551616)).getD 9 0 = b := by
        have : vputF 9 (vval (l.take 9) + b.toNat % 128 * 128 ^ 9 % 18446744073709551616) = l.take 10 := h
        rw [this, ht, List.getD, List.getElem?_append_right (by omega), hlen]; simp
      rw [h4] at h3
      rw [e9] at h3 hxl
      have : b.toNat % 128 * 9223372036854775808 % 18446744073709551616 < 18446744073709551616 := Nat.mod_lt _ (by decide)
      have h6 : b.toNat % 128 * 9223372036854775808 % 18446744073709551616 ≤ 9223372036854775808 := by omega
      have h5 : (vval (l.take 9) + b.toNat % 128 * 9223372036854775808 % 18446744073709551616) / 9223372036854775808 < 2 := by
        rw [Nat.div_lt_iff_lt_mul (by decide)]; omega
      omega
  · intro h
    have hmod : b.toNat % 128 * 128 ^ j % 18446744073709551616 = b.toNat % 128 * 128 ^ j := by
      apply Nat.mod_eq_of_lt
      by_cases h9 : j = 9
      · subst h9
        have : b.toNat ≤ 1 := by omega
        have : b.toNat % 128 * 128 ^ 9 ≤ 1 * 128 ^ 9 := Nat.mul_le_mul_right _ (by omega)
        rw [e9] at this ⊢; omega
      · have : b.toNat % 128 * 128 ^ j ≤ 127 * 128 ^ 8 := Nat.mul_le_mul (by omega) (Nat.pow_le_pow_right (by omega) (by omega))
        have e8 : (128 : Nat) ^ 8 = 72057594037927936 := by decide
        rw [e8] at this; omega
    have hv := vval_append (l.take j) b
    rw [hlen] at hv
    rw [hmod, ← hv, ht]
    refine vput_vval _ _ hcs hb (fun hne => ?_) ?_
    · have : 0 < j := by
        rcases Nat.eq_zero_or_pos j with h0 | h0
        · subst h0; simp at hne
        · exact h0
      omega
    · rw [hv]
      rw [← hmod]
      have h1 : b.toNat % 128 * 128 ^ j % 18446744073709551616 < 18446744073709551616 := Nat.mod_lt _ (by decide)
      by_cases h9 : j = 9
      · subst h9
        have : b.toNat ≤ 1 := by omega
        have : b.toNat % 128 * 128 ^ 9 ≤ 1 * 128 ^ 9 := Nat.mul_le_mul_right _ (by omega)
        rw [hmod]
        rw [e9] at this hxl ⊢; omega
      · have : b.toNat % 128 * 128 ^ j ≤ 127 * 128 ^ 8 := Nat.mul_le_mul (by omega) (Nat.pow_le_pow_right (by omega) (by omega))
        have e8 : (128 : Nat) ^ 8 = 72057594037927936 := by decide
        rw [hmod]
        rw [e8] at this; omega

theorem or_law2 (x : Int) (c : UInt8) (j : Nat) (hj : j ≤ 9) (h0 : 0 ≤ x) (hx : x.toNat < 128 ^ j) :
    bits .or .u64 x (IntKind.u64.wrap ((c.toNat : Int) % 128 * 2 ^ (7 * j))) = ((x.toNat + c.toNat % 128 * 128 ^ j % 18446744073709551616 : Nat) : Int) := by
  have := or_law x c j hj h0 hx
  rw [andNot_byte, wrap_u64_small _ (by omega)] at this
  exact this
theorem vputS_eq (n : Nat) (s : ByteArray) (j : Nat) : vputS n = s.extract 0 j ↔ vput n = s.data.toList.take j := by
  constructor
  · intro h
    have := congrArg (fun x : ByteArray => x.data.toList) h
    simp only [ByteArray.data_extract] at this
    have e : (vputS n).data.toList = vput n := by simp [vputS]
    rw [e] at this
    simpa [List.extract_eq_take_drop] using this
  · intro h
    apply ByteArray.ext; apply Array.ext'
    have e : (vputS n).data.toList = vput n := by simp [vputS]
    rw [e, h, ByteArray.data_extract]
    simp [List.extract_eq_take_drop]
end Go.Pin
