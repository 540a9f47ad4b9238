/- The examples of chapter 2. -/
import Derived.Test.YtpbjoifdnhjfnaaRdW
namespace Go.Proofs.Ytpbjoifdnhjfnaa
open Go.RowKit Go.Pin
set_option linter.unusedVariables false
set_option linter.unusedSimpArgs false

theorem var_ex1 : (Rd.mk ⟨#[172, 2, 1, 0]⟩ false).var = (300, Rd.mk ⟨#[1, 0]⟩ false) := by rfl
theorem var_ex2 : (Rd.mk ⟨#[1, 0]⟩ false).fixed 2 = (256, Rd.mk ⟨#[]⟩ false) := by rfl
theorem var_ex3 : (Rd.mk ⟨#[]⟩ false).var = (0, Rd.fail) := by rfl
theorem var_ex4 : vputS 300 = ⟨#[172, 2]⟩ := by rfl
theorem var_ex5 : fixedS 258 2 = ⟨#[1, 2]⟩ := by rfl
theorem var_ex6 : textS ⟨#[97, 98]⟩ = ⟨#[2, 97, 98]⟩ := by rfl

theorem Keep.drop {w w1 w2 : World} {b : Nat} (h : Below w.heap.size w w1) (hb : w.heap.size ≤ b) (k : Keep (fun k => k = b) w1 w2) : Below w.heap.size w w2 :=
  h.trans (k.below h.size fun j hj => by omega)

set_option maxHeartbeats 800000 in
theorem var_examples (w : World) : Calls Try.prog 24 #[] w fun e w' => e = .returned (.bool true) ∧ Below w.heap.size w w' := by
  have hse := str_beq
  go_enter Try.func24, Try.ntmps24
  go_wp2_with fail
  refine (rd_new _ _).mono ?_
  rintro e w1 ⟨rfl, hr1, hz1, hb1⟩
  go_wp2_with fail
  refine (rd_var _ _ _ hr1 (by decide)).mono ?_
  rw [var_ex1]
  rintro e w2 ⟨rfl, hr2, hk2⟩
  replace hb1 := Keep.drop hb1 (Nat.le_refl _) hk2
  go_wp2_with fail
  refine (rd_fixed _ _ _ _ hr2 (by omega) (by decide)).mono ?_
  rw [var_ex2]
  rintro e w3 ⟨rfl, hr3, hk3⟩
  replace hb1 := Keep.drop hb1 (Nat.le_refl _) hk3
  go_wp2_with fail
  refine (rd_var _ _ _ hr3 (by decide)).mono ?_
  rw [var_ex3]
  rintro e w4 ⟨rfl, hr4, hk4⟩
  replace hb1 := Keep.drop hb1 (Nat.le_refl _) hk4
  clear hk2 hk3 hk4 hr1 hr2 hr3
  go_wp2_with fail
  refine (var_put _ (by omega) (by omega) _).mono ?_
  rw [show (300 : Int).toNat = 300 from rfl, var_ex4]
  rintro e w5 ⟨rfl, hb5⟩
  replace hr4 := hr4.below hb5
  replace hb1 := Below.next hb1 hb5
  go_wp2_with fail
  refine (rd_ok _ _ _ hr4).mono ?_
  rintro e w6 ⟨rfl, rfl⟩
  go_wp2_with fail
  refine (var_fixed _ _ (by omega) (by omega) (by omega) (by omega) _).mono ?_
  rw [show (258 : Int).toNat = 258 from rfl, var_ex5]
  rintro e w7 ⟨rfl, hb7⟩
  replace hb1 := Below.next hb1 hb7
  go_wp2_with fail
  refine (var_text _ (by decide) _).mono ?_
  rw [var_ex6]
  rintro e w8 ⟨rfl, hb8⟩
  replace hb1 := Below.next hb1 hb8
  go_wp2_with fail
  go_ret
  exact ⟨rfl, hb1⟩
end Go.Proofs.Ytpbjoifdnhjfnaa
