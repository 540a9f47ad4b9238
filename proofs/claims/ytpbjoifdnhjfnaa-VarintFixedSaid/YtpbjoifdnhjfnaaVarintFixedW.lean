/- VarintFixed: its walk. -/
import Derived.Test.YtpbjoifdnhjfnaaVarX
namespace Go.Pin
set_option linter.unusedVariables false
set_option linter.unusedSimpArgs false
theorem bytesLess_snoc (x y : List UInt8) (c d : UInt8) (h : x.length = y.length) : Op.bytesLess (x ++ [c]) (y ++ [d]) = (Op.bytesLess x y || (decide (x = y) && decide (c < d))) := by
  induction x generalizing y with
  | nil => cases y with
    | nil => simp [Op.bytesLess]
    | cons => simp at h
  | cons a x ih => cases y with
    | nil => simp at h
    | cons b y =>
      have := ih y (by simpa using h)
      simp only [List.cons_append, Op.bytesLess, this, List.cons.injEq]
      by_cases h1 : a < b
      · simp [h1]
      · by_cases h2 : a = b
        · subst h2; simp
        · have h3 : (a == b) = false := by simpa using h2
          simp [h1, h2, h3]
theorem mod_split (a k : Nat) : a % 256 ^ (k + 1) = (a / 256) % 256 ^ k * 256 + a % 256 := by
  rw [Nat.pow_succ, Nat.mul_comm (256 ^ k) 256, Nat.mod_mul]; omega
theorem ofNat_eq (a b : Nat) : UInt8.ofNat a = UInt8.ofNat b ↔ a % 256 = b % 256 := by
  rw [← UInt8.toNat_inj]; simp
theorem ofNat_lt (a b : Nat) : UInt8.ofNat a < UInt8.ofNat b ↔ a % 256 < b % 256 := by
  rw [UInt8.lt_iff_toNat_lt]; simp
theorem fixedL_eq (k a b : Nat) : fixedL k a = fixedL k b ↔ a % 256 ^ k = b % 256 ^ k := by
  induction k generalizing a b with
  | zero => simp [fixedL, Nat.mod_one]
  | succ k ih =>
    rw [mod_split a, mod_split b]
    have hl : (fixedL k (a / 256)).length = (fixedL k (b / 256)).length := by rw [fixedL_len, fixedL_len]
    constructor
    · intro h
      obtain ⟨h1, h2⟩ := List.append_inj h hl
      rw [ih] at h1
      simp only [List.cons.injEq, and_true] at h2
      rw [ofNat_eq] at h2
      omega
    · intro h
      have h1 : a / 256 % 256 ^ k = b / 256 % 256 ^ k := by omega
      have h2 : a % 256 = b % 256 := by omega
      rw [fixedL, fixedL, (ih _ _).2 h1, (ofNat_eq _ _).2 h2]
theorem fixedL_less (k a b : Nat) : Op.bytesLess (fixedL k a) (fixedL k b) = decide (a % 256 ^ k < b % 256 ^ k) := by
  induction k generalizing a b with
  | zero => simp [fixedL, Op.bytesLess, Nat.mod_one]
  | succ k ih =>
    rw [fixedL, fixedL, bytesLess_snoc _ _ _ _ (by rw [fixedL_len, fixedL_len]), ih, mod_split a, mod_split b, Bool.eq_iff_iff]
    simp only [Bool.or_eq_true, Bool.and_eq_true, decide_eq_true_iff, fixedL_eq, ofNat_lt]
    omega
theorem fixedS_data (n k : Nat) (hk : k ≤ 8) : (fixedS n k).data.toList = fixedL k n := by unfold fixedS; rw [if_neg (by omega)]; simp
theorem fixedS_size (n k : Nat) (hk : k ≤ 8) : (fixedS n k).size = k := by
  have : (fixedS n k).data.toList.length = k := by rw [fixedS_data n k hk, fixedL_len]
  exact this
theorem fixedS_less (a b : Nat) (ha : a < 18446744073709551616) (hb : b < 18446744073709551616) : Op.bytesLess (fixedS a 8).toList (fixedS b 8).toList = decide (a < b) := by
  have h8 : ∀ n, (fixedS n 8).data.toList = fixedL 8 n := fun n => fixedS_data n 8 (by omega)
  rw [ByteArray.toList_eq, ByteArray.toList_eq, h8, h8, fixedL_less]
  rw [show (256 : Nat) ^ 8 = 18446744073709551616 from by decide, Nat.mod_eq_of_lt ha, Nat.mod_eq_of_lt hb]
theorem fixedS_low (n k : Nat) (hk : k ≤ 8) : (fixedS n 8).extract (8 - k) 8 = fixedS n k := by
  apply ByteArray.ext; apply Array.ext'
  rw [fixedS_data n k hk, ByteArray.data_extract]
  simp only [Array.toList_extract, List.extract_eq_take_drop]
  have h8 := fixedS_data n 8 (by omega)
  have e8 : (fixedS n ((8 : Nat) : Int)) = fixedS n 8 := rfl
  rw [e8] at h8
  rw [h8]
  apply List.ext_getElem
  · simp [fixedL_len]; omega
  · intro j h1 h2
    rw [fixedL_len] at h2
    have g1 := fixedL_getD 8 n (8 - k + j) (by omega)
    have g2 := fixedL_getD k n j h2
    simp only [List.getElem_take, List.getElem_drop]
    rw [List.getD, List.getElem?_eq_getElem (by rw [fixedL_len]; omega), Option.getD_some] at g1
    rw [List.getD, List.getElem?_eq_getElem (by rw [fixedL_len]; omega), Option.getD_some] at g2
    rw [g1, g2, show 8 - 1 - (8 - k + j) = k - 1 - j from by omega]
end Go.Pin
namespace Go.Proofs.Ytpbjoifdnhjfnaa
open Go.RowKit Go.Pin
set_option linter.unusedVariables false
set_option linter.unusedSimpArgs false

set_option maxHeartbeats 800000 in
theorem varintFixed_walk (a b z : Int) (ha : 0 ≤ a ∧ a ≤ 18446744073709551615) (hb0 : 0 ≤ b ∧ b ≤ 18446744073709551615) (hz : 0 ≤ z ∧ z ≤ 255) (w : World) :
    Calls Try.prog 10 #[.int .u64 a, .int .u64 b, .int .u8 z] w fun e w' => e = .returned (.bool true) ∧ Below w.heap.size w w' := by
  have hse := str_beq
  have hb := Below.refl w.heap.size w
  obtain ⟨k, hk, hk0, hk1⟩ : ∃ k : Nat, z % 9 = (k : Int) ∧ 0 ≤ (k : Int) ∧ k ≤ 8 := ⟨(z % 9).toNat, by omega, by omega, by omega⟩
  obtain ⟨S, hS⟩ : ∃ S, fixedS a.toNat 8 = S := ⟨_, rfl⟩
  obtain ⟨T, hT⟩ : ∃ T, fixedS b.toNat 8 = T := ⟨_, rfl⟩
  obtain ⟨K, hK⟩ : ∃ K, fixedS a.toNat k = K := ⟨_, rfl⟩
  have hsz : S.size = 8 := by rw [← hS]; exact fixedS_size a.toNat 8 (by omega)
  have hless : Op.bytesLess S.toList T.toList = decide (a < b) := by
    rw [← hS, ← hT, fixedS_less _ _ (by omega) (by omega)]
    congr 1; exact propext ⟨fun h => by omega, fun h => by omega⟩
  have hext : S.extract (8 - k) 8 = K := by rw [← hS, ← hK]; exact fixedS_low a.toNat k hk1
  have CK := Aside.mk (show ∀ w, Calls Try.prog 27 #[.int .u64 a, .int .i64 k] w fun e w' => e = .returned (.string K) ∧ Below w.heap.size w w' from fun w => by rw [← hK]; exact var_fixed a k ha.1 ha.2 (by omega) (by omega) w)
  have HS := Aside.mk hS
  have HT := Aside.mk hT
  have HK := Aside.mk hK
  clear hS hT hK
  go_enter Try.func10, Try.ntmps10
  go_wp2_with fail
  refine (var_examples _).mono ?_
  rintro e w0 ⟨rfl, hb'⟩
  replace hb := Below.next hb hb'
  clear hb'
  go_wp2_with fail
  refine (var_fixed _ _ ha.1 ha.2 (by omega) (by omega) _).mono ?_
  rw [HS.out]
  rintro e w1 ⟨rfl, hb'⟩
  replace hb := Below.next hb hb'
  clear hb'
  go_wp2_with fail
  refine (var_fixed _ _ hb0.1 hb0.2 (by omega) (by omega) _).mono ?_
  rw [HT.out]
  rintro e w2 ⟨rfl, hb'⟩
  replace hb := Below.next hb hb'
  clear hb'
  go_wp2_with fail
  refine wp_region_keep (fun _ => False) (by kernel_rfl) (by kernel_rfl) ?_
  repeat (go_big_quiet_step ((first | (go_at_call 27; with_reducible exact KW.calls (CK.out _)) | (go_at_call 27; exact KW.calls_same (var_fixed_out _ _ (by omega) _)))))
  refine wpQuiet_nil ?_
  intro s4
  have hb4 := s4.below
  go_wp2_with fail
  go_ret
  exact ⟨rfl, Below.next hb hb4⟩
end Go.Proofs.Ytpbjoifdnhjfnaa
