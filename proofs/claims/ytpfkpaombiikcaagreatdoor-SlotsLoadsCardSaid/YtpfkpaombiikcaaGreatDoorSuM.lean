import Derived.Test.YtpfkpaombiikcaaGreatDoorCrcW
import Derived.Test.YtpfkpaombiikcaaGreatDoorVarW
import Derived.Test.YtpfkpaombiikcaaGreatDoorSuS
import Derived.Test.YtpfkpaombiikcaaGreatDoorSuD
/- What super.Put and its reference compute. -/
set_option maxRecDepth 16000
namespace Go.Pin
open Go.RowKit
set_option linter.unusedVariables false
set_option linter.unusedSimpArgs false
theorem repeat_zeros (n : Nat) : (⟨(Lib.repeatL (⟨#[0]⟩ : ByteArray).data.toList n).toArray⟩ : ByteArray) = zeros n := by
  apply ByteArray.ext; apply Array.ext'
  show Lib.repeatL [0] n = (zeros n).data.toList
  have h : ∀ k, Lib.repeatL [(0 : UInt8)] k = List.replicate k 0 := by
    intro k
    induction k with
    | zero => simp [Lib.repeatL]
    | succ k ih => simp [Lib.repeatL, List.replicate_succ]; exact ih
  rw [h]; simp [zeros]
end Go.Pin
namespace Go.Proofs.YtpfkpaombiikcaaGreatDoor
open Go.RowKit Go.Pin
set_option linter.unusedVariables false
set_option linter.unusedSimpArgs false
set_option maxHeartbeats 1600000 in
theorem super_put (g : Int) (hg : 0 ≤ g ∧ g ≤ 18446744073709551615) (b : ByteArray) (hb : b.size ≤ 1152921504606846976) (w : World) :
    Calls Tryz.prog 32 #[.int .u64 g, .string b] w fun e w' => e = .returned (.tuple #[.string (sput g b).1, .bool (sput g b).2]) ∧ Below w.heap.size w w' := by
  by_cases h0 : g = 0
  · have e1 : sput g b = (⟨#[]⟩, false) := by unfold sput; rw [if_pos (.inl h0)]
    rw [e1]
    have hq : (g == 0) = true := by simpa using h0
    clear e1 h0
    go_enter Tryz.func32, Tryz.ntmps32
    go_wp2_with fail
    go_ret2
    exact ⟨rfl, Below.refl _ _⟩
  · have hq : (g == 0) = false := by simpa using h0
    by_cases h1 : 51 < b.size
    · have e1 : sput g b = (⟨#[]⟩, false) := by unfold sput; rw [if_pos (.inr h1)]
      rw [e1]
      clear e1 h0
      go_enter Tryz.func32, Tryz.ntmps32
      go_wp2_with fail
      go_ret2
      exact ⟨rfl, Below.refl _ _⟩
    · have e1 : sput g b = (cput (sbody g.toNat b), true) := by unfold sput; rw [if_neg (by omega)]
      rw [e1]
      clear e1 h0
      have hw : IntKind.i64.wrap (51 - (b.size : Int)) = ((51 - b.size : Nat) : Int) := by rw [IntKind.wrap_i64]; omega
      have hu : IntKind.u64.wrap (b.size : Int) = (b.size : Int) := by rw [IntKind.wrap_u64]; omega
      have hf1 := fixedS_size8 g.toNat 8
      have hf2 := fixedS_size8 b.size 1
      have hrep : ∀ W : World, Calls Tryz.prog 62 #[.string ⟨#[0]⟩, .int .i64 ((51 - b.size : Nat) : Int)] W fun e w' => e = .returned (.string (zeros (51 - b.size))) ∧ Below W.heap.size W w' := fun W => by
        have := YtpfkpaombiikcaaGreatDoorSh.strings_Repeat ⟨#[0]⟩ (51 - b.size) W (by omega) (by show 1 * (51 - b.size) ≤ _; omega)
        rw [repeat_zeros] at this; exact this
      have hfx : ∀ W : World, Calls Tryz.prog 50 #[.int .u64 (b.size : Int), .int .i64 1] W fun e w' => e = .returned (.string (fixedS b.size 1)) ∧ Below W.heap.size W w' := fun W => by
        have := var_fixed (b.size : Int) 1 (by omega) (by omega) (by omega) (by omega) W
        rw [Int.toNat_natCast] at this; exact this
      have hpc : ∀ W : World, Calls Tryz.prog 61 #[.string (sbody g.toNat b)] W fun e w' => e = .returned (.string (cput (sbody g.toNat b))) ∧ Below W.heap.size W w' := fun W => crc_put _ W (by have := sbody_size g.toNat b (by omega); omega)
      have hdef : fixedS g.toNat 8 ++ fixedS b.size 1 ++ b ++ zeros (51 - b.size) = sbody g.toNat b := rfl
      have hzz : (zeros (51 - b.size)).size ≤ 51 := by rw [zeros_size]; omega
      have hbs : (b.size : Int) ≤ 51 := by omega
      have hfg : ∀ W : World, Calls Tryz.prog 50 #[.int .u64 g, .int .i64 8] W fun e w' => e = .returned (.string (fixedS g.toNat 8)) ∧ Below W.heap.size W w' := fun W => var_fixed g 8 hg.1 hg.2 (by omega) (by omega) W
      have Hfg := Aside.mk hfg
      have Hrep := Aside.mk hrep
      have Hfx := Aside.mk hfx
      have Hpc := Aside.mk hpc
      clear hrep hfx hpc hfg
      generalize hn : 51 - b.size = n at *
      generalize zeros n = Z at *
      generalize fixedS g.toNat 8 = F8 at *
      generalize fixedS b.size 1 = F1 at *
      generalize sbody g.toNat b = SB at *
      have h51 : ¬ (51 : Int) < (b.size : Int) := by omega
      clear hn h1
      go_enter Tryz.func32, Tryz.ntmps32
      go_wp2_with fail
      refine (Hfg.out w).mono ?_
      rintro e w1 ⟨rfl, hb1⟩
      go_wp2_with fail
      refine (Hfx.out _).mono ?_
      rintro e w2 ⟨rfl, hb2⟩
      replace hb1 := Below.next hb1 hb2
      go_wp2_with fail
      refine (Hrep.out _).mono ?_
      rintro e w3 ⟨rfl, hb3⟩
      replace hb1 := Below.next hb1 hb3
      go_wp2_with fail
      refine (Hpc.out _).mono ?_
      rintro e w4 ⟨rfl, hb4⟩
      replace hb1 := Below.next hb1 hb4
      go_wp2_with fail
      go_ret2
      exact ⟨rfl, hb1⟩
end Go.Proofs.YtpfkpaombiikcaaGreatDoor
