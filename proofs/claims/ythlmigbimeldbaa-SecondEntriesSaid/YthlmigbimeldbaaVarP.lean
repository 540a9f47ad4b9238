/- What was put is read. -/
import Derived.Test.YthlmigbimeldbaaVarL
namespace Go.Pin
set_option linter.unusedVariables false
set_option linter.unusedSimpArgs false

theorem pow9 : (128 : Nat) ^ 9 = 9223372036854775808 := by decide
theorem vscan_put (pre rest : List UInt8) (n acc : Nat) (hi : pre.length ≤ 9) (hacc : acc < 128 ^ pre.length) (hn : acc + n * 128 ^ pre.length < 18446744073709551616) (h0 : 0 < pre.length → 0 < n) :
    vscan (pre ++ vput n ++ rest) (10 - pre.length) pre.length acc = some (acc + n * 128 ^ pre.length, pre.length + (vput n).length) := by
  induction n using Nat.strongRecOn generalizing pre acc with
  | _ n ih =>
    have hpos : 0 < 128 ^ pre.length := Nat.pow_pos (by decide)
    have hn64 : n < 18446744073709551616 := by
      have : n * 1 ≤ n * 128 ^ pre.length := Nat.mul_le_mul_left _ hpos
      omega
    have hlen : pre.length < (pre ++ vput n ++ rest).length := by have := vput_pos n; simp; omega
    rw [vscan_step _ _ _ hlen (by omega)]
    by_cases hs : n < 128
    · have hb : ((pre ++ vput n ++ rest).getD pre.length 0).toNat = n := by
        rw [vput_small n hs, List.getD, List.append_assoc, List.getElem?_append_right (Nat.le_refl _), Nat.sub_self]
        simp; omega
      rw [hb, if_neg (by omega), if_neg]
      · rw [vput_small n hs, Nat.mod_eq_of_lt hs, Nat.mod_eq_of_lt (by omega)]; rfl
      · rintro (⟨h1, h2⟩ | ⟨h1, h2⟩)
        · have := h0 h1; omega
        · rw [h1, pow9] at hn; omega
    · have hb : ((pre ++ vput n ++ rest).getD pre.length 0).toNat = n % 128 + 128 := by
        rw [vput_big n (by omega) hn64, List.getD, List.append_assoc, List.getElem?_append_right (Nat.le_refl _), Nat.sub_self]
        simp; omega
      rw [hb, if_pos (by omega)]
      have hm : (n % 128 + 128) % 128 = n % 128 := by omega
      rw [hm]
      have hdec : n * 128 ^ pre.length = n % 128 * 128 ^ pre.length + n / 128 * 128 ^ (pre.length + 1) := by
        rw [Nat.pow_succ, Nat.mul_comm (128 ^ pre.length) 128, ← Nat.mul_assoc, ← Nat.add_mul]
        congr 1; omega
      have hle : n % 128 * 128 ^ pre.length ≤ n * 128 ^ pre.length := Nat.mul_le_mul_right _ (Nat.mod_le _ _)
      rw [Nat.mod_eq_of_lt (show n % 128 * 128 ^ pre.length < 18446744073709551616 by omega)]
      have h9 : pre.length + 1 ≤ 9 := by
        rcases Nat.lt_or_ge pre.length 9 with h | h
        · omega
        · have : pre.length = 9 := by omega
          rw [this, pow9] at hn; omega
      have e : pre ++ vput n ++ rest = (pre ++ [UInt8.ofNat (n % 128 + 128)]) ++ vput (n / 128) ++ rest := by
        rw [vput_big n (by omega) hn64]; simp
      have el : (pre ++ [UInt8.ofNat (n % 128 + 128)]).length = pre.length + 1 := by simp
      have hx := acc_lt acc n pre.length hacc
      rw [Nat.mod_eq_of_lt (show n % 128 * 128 ^ pre.length < 18446744073709551616 by omega)] at hx
      have := ih (n / 128) (by omega) (pre ++ [UInt8.ofNat (n % 128 + 128)]) (acc + n % 128 * 128 ^ pre.length) (by rw [el]; exact h9) (by rw [el]; exact hx) (by rw [el]; omega) (fun _ => by omega)
      rw [el] at this
      rw [e, this, vput_big n (by omega) hn64, List.length_cons]
      congr 2
      · omega
      · omega
theorem vget_put (n : Nat) (rest : List UInt8) (hn : n < 18446744073709551616) : vget (vput n ++ rest) = some (n, (vput n).length) := by
  have := vscan_put [] rest n 0 (by simp) (by simp) (by simp; exact hn) (by simp)
  simpa [vget] using this
theorem vput_inj (a b : Nat) (ha : a < 18446744073709551616) (hb : b < 18446744073709551616) (h : vput a = vput b) : a = b := by
  have h1 := vget_put a [] ha
  have h2 := vget_put b [] hb
  rw [h, h2] at h1
  simpa using h1.symm

/-- The shape of a writing. -/
theorem vput_shape (n : Nat) (hn : n < 18446744073709551616) : ∃ cs b, vput n = cs ++ [b] ∧ (∀ a ∈ cs, 128 ≤ a.toNat) ∧ b.toNat < 128 := by
  induction n using Nat.strongRecOn with
  | _ n ih =>
    by_cases h : n < 128
    · exact ⟨[], UInt8.ofNat n, by rw [vput_small n h]; rfl, by simp, by simp; omega⟩
    · obtain ⟨cs, b, h1, h2, h3⟩ := ih (n / 128) (by omega) (by omega)
      refine ⟨UInt8.ofNat (n % 128 + 128) :: cs, b, by rw [vput_big n (by omega) hn, h1]; rfl, ?_, h3⟩
      intro a ha
      rcases List.mem_cons.1 ha with rfl | ha
      · rw [UInt8.toNat_ofNat']; omega
      · exact h2 a ha
theorem vput_len_mono (a b : Nat) (h : a ≤ b) (hb : b < 18446744073709551616) : (vput a).length ≤ (vput b).length := by
  induction b using Nat.strongRecOn generalizing a with
  | _ b ih =>
    by_cases h1 : a < 128
    · rw [vput_small a h1]; exact vput_pos b
    · rw [vput_big a (by omega) (by omega), vput_big b (by omega) hb]
      have := ih (b / 128) (by omega) (a / 128) (by omega) (by omega)
      simp; omega

/-- Past the bytes that go on. -/
theorem vscan_skip (l : List UInt8) (q : Nat) (hq : q ≤ 10) (hl : q ≤ l.length) (h : ∀ a ∈ l.take q, 128 ≤ a.toNat) : ∃ acc, vget l = vscan l (10 - q) q acc := by
  induction q with
  | zero => exact ⟨0, rfl⟩
  | succ q ih =>
    have ht : l.take (q + 1) = l.take q ++ [l[q]] := List.take_succ_eq_append_getElem (by omega)
    obtain ⟨acc, ha⟩ := ih (by omega) (by omega) (fun a ha => h a (by rw [ht]; exact List.mem_append.2 (.inl ha)))
    rw [vscan_step l q acc (by omega) (by omega)] at ha
    have hq2 : 128 ≤ (l.getD q 0).toNat := by
      have e : l.getD q 0 = l[q] := by simp [List.getD, show q < l.length by omega]
      rw [e]; exact h _ (by rw [ht]; exact List.mem_append.2 (.inr (List.mem_singleton.2 rfl)))
    rw [if_pos hq2] at ha
    exact ⟨_, ha⟩
theorem vget_endless (l : List UInt8) (h : ∀ a ∈ l.take (min 10 l.length), 128 ≤ a.toNat) : vget l = none := by
  obtain ⟨acc, ha⟩ := vscan_skip l (min 10 l.length) (by omega) (by omega) h
  rw [ha]; exact vscan_end l _ acc rfl
theorem vget_zero (cs : List UInt8) (h0 : 0 < cs.length) (h : ∀ a ∈ cs, 128 ≤ a.toNat) : vget (cs ++ [0]) = none := by
  by_cases h10 : 10 ≤ cs.length
  · refine vget_endless _ fun a ha => ?_
    rw [Nat.min_eq_left (by simp; omega), List.take_append_of_le_length h10] at ha
    exact h a (List.mem_of_mem_take ha)
  · obtain ⟨acc, ha⟩ := vscan_skip (cs ++ [0]) cs.length (by omega) (by simp) (by rw [List.take_left']; exact h; rfl)
    rw [ha, vscan_step _ _ _ (by simp) (by omega)]
    have e : ((cs ++ [0]).getD cs.length 0).toNat = 0 := by simp [List.getD]
    rw [e, if_neg (by omega), if_pos (.inl ⟨h0, rfl⟩)]
theorem or128 (b : UInt8) : bits .or .u8 (b.toNat : Int) 128 = ((b ||| 128).toNat : Int) := by
  have h : ∀ m : Fin 256, bits .or .u8 (m.val : Int) 128 = (((UInt8.ofNat m.val) ||| 128).toNat : Int) := by decide +kernel
  have := h ⟨b.toNat, b.toNat_lt⟩
  rw [this]
  congr 3
  exact ofNat_toNat8 b
theorem or128_ge (b : UInt8) : 128 ≤ (b ||| 128).toNat := by
  have h : ∀ m : Fin 256, 128 ≤ ((UInt8.ofNat m.val) ||| 128).toNat := by decide +kernel
  have := h ⟨b.toNat, b.toNat_lt⟩
  rwa [show UInt8.ofNat (⟨b.toNat, b.toNat_lt⟩ : Fin 256).val = b from ofNat_toNat8 b] at this
end Go.Pin
