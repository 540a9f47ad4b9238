/- VarintBack: its walk. -/
import Derived.Test.YtpbjoifdnhjfnaaVarX
import Derived.Test.YtpbjoifdnhjfnaaRdL
namespace Go.Proofs.Ytpbjoifdnhjfnaa
open Go.RowKit Go.Pin
set_option linter.unusedVariables false
set_option linter.unusedSimpArgs false

set_option maxHeartbeats 800000 in
theorem varintBack_walk (a b : Int) (s : ByteArray) (z : Int) (ha : 0 ≤ a ∧ a ≤ 18446744073709551615) (hb0 : 0 ≤ b ∧ b ≤ 18446744073709551615) (hs : s.size ≤ 140737488351232) (hz : 0 ≤ z ∧ z ≤ 255) (w : World) :
    Calls Try.prog 13 #[.int .u64 a, .int .u64 b, .string s, .int .u8 z] w fun e w' => e = .returned (.bool true) ∧ Below w.heap.size w w' := by
  have hse := str_beq
  have hb := Below.refl w.heap.size w
  obtain ⟨k, hk, hk0, hk1⟩ : ∃ k : Nat, z % 9 = (k : Int) ∧ 0 ≤ (k : Int) ∧ k ≤ 8 := ⟨(z % 9).toNat, by omega, by omega, by omega⟩
  obtain ⟨A, hA, hAz⟩ : ∃ A, vputS a.toNat = A ∧ A.size ≤ 10 := ⟨_, rfl, (vputS_size _).1⟩
  obtain ⟨X, hX, hXz⟩ : ∃ X, textS s = X ∧ X.size ≤ s.size + 10 := ⟨_, rfl, textS_size s⟩
  obtain ⟨F, hF, hFz⟩ : ∃ F, fixedS b.toNat k = F ∧ F.size ≤ 10 := ⟨_, rfl, by
    unfold fixedS; rw [if_neg (by omega), size_mk, fixedL_len]; omega⟩
  have hsl : s.data.toList.length = s.size := rfl
  have hin : A ++ X ++ F ++ (⟨#[120]⟩ : ByteArray) = bs (vput a.toNat ++ (vput s.size ++ s.data.toList ++ (fixedL k b.toNat ++ [120]))) := by
    have e1 : A = bs (vput a.toNat) := hA.symm
    have e2 : X = bs (vput s.size ++ s.data.toList) := by rw [← hX]; unfold textS; rw [← bs_append, bs_of]; rfl
    have e3 : F = bs (fixedL k b.toNat) := by rw [← hF]; unfold fixedS; rw [if_neg (by omega)]; rfl
    have e4 : (⟨#[120]⟩ : ByteArray) = bs [120] := rfl
    rw [e1, e2, e3, e4, bs_append, bs_append, bs_append]
    congr 1; simp
  obtain ⟨I, hI⟩ : ∃ I, A ++ X ++ F ++ (⟨#[120]⟩ : ByteArray) = I := ⟨_, rfl⟩
  rw [hI] at hin
  have hIz : I.size ≤ 1152921504606846976 := by rw [← hI]; simp only [ByteArray.size_append]; show A.size + X.size + F.size + 1 ≤ _; omega
  have HA := Aside.mk hA
  have HX := Aside.mk hX
  have HF := Aside.mk hF
  have Hin := Aside.mk hin
  have HIz := Aside.mk hIz
  clear hA hX hF hin hIz hsl
  go_enter Try.func13, Try.ntmps13
  go_wp2_with fail
  refine (var_examples _).mono ?_
  rintro e w0 ⟨rfl, hb'⟩
  replace hb := Below.next hb hb'
  clear hb'
  go_wp2_with fail
  refine (var_put _ ha.1 ha.2 _).mono ?_
  rw [HA.out]
  rintro e w1 ⟨rfl, hb'⟩
  replace hb := Below.next hb hb'
  clear hb'
  go_wp2_with fail
  refine (var_text _ (by omega) _).mono ?_
  rw [HX.out]
  rintro e w2 ⟨rfl, hb'⟩
  replace hb := Below.next hb hb'
  clear hb'
  go_wp2_with fail
  refine (var_fixed _ _ hb0.1 hb0.2 (by omega) (by omega) _).mono ?_
  rw [HF.out]
  rintro e w3 ⟨rfl, hb'⟩
  replace hb := Below.next hb hb'
  clear hb'
  go_wp2_with fail
  refine (rd_new _ _).mono ?_
  rintro e w4 ⟨rfl, hr, hz4, hb4⟩
  have hB := hb.size
  replace hb := Below.next hb hb4
  rw [Hin.out] at hr
  generalize w3.heap.size = B at *
  clear hb4 hz4
  go_wp2_with fail
  refine (rd_var _ _ _ hr (by show (bs _).size ≤ _; rw [← Hin.out]; exact HIz.out)).mono ?_
  rw [rd_var_put _ _ _ (by omega), Int.toNat_of_nonneg ha.1]
  rintro e w5 ⟨rfl, hr5, hk5⟩
  replace hb := Keep.drop hb hB hk5
  clear hk5 hr
  have hl : (s.data.toList).length = s.size := rfl
  have hsz5 : (bs (vput s.size ++ s.data.toList ++ (fixedL k b.toNat ++ [120]))).size ≤ 1152921504606846976 := by
    rw [bs_size]; simp only [List.length_append, fixedL_len, hl]; have := vput_len s.size; simp; omega
  have H5 := Aside.mk hsz5
  clear hsz5 hl
  go_wp2_with fail
  refine (rd_text _ _ _ hr5 H5.out).mono ?_
  rw [show s.size = s.data.toList.length from rfl, rd_text_put _ _ (by show s.size < _; omega), bs_of]
  rintro e w6 ⟨rfl, hr6, hk6⟩
  replace hb := Keep.drop hb hB hk6
  clear hk6 hr5
  go_wp2_with fail
  refine (rd_fixed _ _ _ _ hr6 (by omega) (by show (bs _).size ≤ _; rw [bs_size]; simp [fixedL_len]; omega)).mono ?_
  obtain ⟨y, hy⟩ : ∃ y : Int, ((b.toNat % 256 ^ k : Nat) : Int) = y := ⟨_, rfl⟩
  rw [rd_fixed_put _ _ _ hk1, hy]
  have Hy := Aside.mk hy
  clear hy
  rintro e w7 ⟨rfl, hr7, hk7⟩
  replace hb := Keep.drop hb hB hk7
  clear hk7 hr6
  go_wp2_with fail
  refine (rd_left _ _ _ hr7).mono ?_
  rintro e w8 ⟨rfl, rfl⟩
  rw [show (Rd.mk (bs [120]) false).s.size = 1 from rfl]
  go_wp2_with fail
  refine (rd_bytes _ _ _ _ hr7 (by omega) (by decide)).mono ?_
  rw [show (Rd.mk (bs [120]) false).bytes 1 = (⟨#[120]⟩, ⟨bs [], false⟩) from rfl]
  rintro e w9 ⟨rfl, hr9, hk9⟩
  replace hb := Keep.drop hb hB hk9
  clear hk9 hr7
  by_cases h8 : k = 8
  · subst h8
    have hbm : y = b := by rw [← Hy.out, show (256 : Nat) ^ 8 = 18446744073709551616 from by decide]; omega
    rw [hbm]
    clear hbm
    go_wp2_with fail
    refine (rd_ok _ _ _ hr9).mono ?_
    rintro e w10 ⟨rfl, rfl⟩
    go_wp2_with fail
    go_ret
    exact ⟨rfl, hb⟩
  · have hk8 : k < 8 := by omega
    clear h8
    obtain ⟨m, hm, hm0, hmod⟩ : ∃ m : Int, IntKind.u64.wrap (2 ^ (8 * k)) = m ∧ 0 < m ∧ b % m = y := by
      have e : ((2 : Int) ^ (8 * k)) = ((256 ^ k : Nat) : Int) := by
        rw [show (256 : Nat) = 2 ^ 8 from rfl, ← Nat.pow_mul]; simp
      have hp : (256 : Nat) ^ k ≤ 256 ^ 7 := Nat.pow_le_pow_right (by omega) (by omega)
      have e7 : (256 : Nat) ^ 7 = 72057594037927936 := by decide
      have h0 : 0 < (256 : Nat) ^ k := Nat.pow_pos (by decide)
      rw [e7] at hp
      refine ⟨((256 ^ k : Nat) : Int), by rw [e]; exact wrap_u64_small _ (by omega), by omega, ?_⟩
      rw [← Hy.out, Int.natCast_emod, Int.toNat_of_nonneg hb0.1]
    go_wp2_with fail
    refine (rd_ok _ _ _ hr9).mono ?_
    rintro e w10 ⟨rfl, rfl⟩
    go_wp2_with fail
    go_ret
    exact ⟨rfl, hb⟩
end Go.Proofs.Ytpbjoifdnhjfnaa
