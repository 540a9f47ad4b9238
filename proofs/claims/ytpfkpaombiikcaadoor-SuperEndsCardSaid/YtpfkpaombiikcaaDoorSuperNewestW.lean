/- SuperNewest: its walk. -/
import Derived.Test.YtpfkpaombiikcaaDoorSuE
set_option maxRecDepth 16000
namespace Go.Pin
open Go.RowKit
set_option linter.unusedVariables false
set_option linter.unusedSimpArgs false
theorem sput_pad (g : Int) (hg : 0 ≤ g ∧ g ≤ 18446744073709551615) (s : ByteArray) (hs : s.size ≤ 51) :
    (sput g s = (⟨#[]⟩, false) ∧ g = 0) ∨ ∃ T, sput g s = (T, true) ∧ T.size = 64 ∧ 1 ≤ g ∧ sget (pad T) = (g, s, true) := by
  obtain ⟨n, rfl⟩ := Int.eq_ofNat_of_zero_le hg.1
  by_cases h0 : n = 0
  · left; subst h0; exact ⟨by unfold sput; rw [if_pos (.inl rfl)], rfl⟩
  · right
    refine ⟨_, sput_ok n (by omega) s hs, cput_size64 n s hs, by omega, ?_⟩
    rw [pad64 _ (cput_size64 n s hs)]
    exact sget_put n (by omega) (by omega) s hs
theorem sget_pad_nil : sget (pad ⟨#[]⟩) = (0, ⟨#[]⟩, false) := sget_none _ (by decide +kernel)
theorem sget_pad_junk : sget (pad ⟨#[106, 117, 110, 107]⟩) = (0, ⟨#[]⟩, false) := sget_none _ (by decide +kernel)
theorem two_cells (A B : ByteArray) (hA : A.size ≤ 64) (hB : B.size ≤ 64) (RA RB : Got) (h1 : sget (pad A) = RA) (h2 : sget (pad B) = RB) : suread (dset 1 B (dset 0 A (dnew 2))) ((0 : Nat) : Int) = sucells RA RB := by
  have ok0 := dnew_ok 2 (by omega) (by omega)
  have n0 : (dnew 2).n = 2 := dnew_n 2
  have ok1 := dset_ok ok0 (k := 0) (by omega) hA
  rw [suread_live (((live_new 2).set 0 A).set 1 B) (by show 0 + 1 < (dnew 2).n; omega)]
  rw [dset_s ok1 (k := 1) (by show 1 < (dnew 2).n; omega), dset_s ok1 (k := 1) (by show 1 < (dnew 2).n; omega), dset_s ok0 (by omega), if_neg (by omega), if_pos rfl, if_pos rfl, h1, h2]
end Go.Pin
namespace Go.Proofs.YtpfkpaombiikcaaDoor
open Go.RowKit Go.Pin
set_option linter.unusedVariables false
set_option linter.unusedSimpArgs false
set_option maxHeartbeats 4000000 in
theorem superNewest_walk (g h : Int) (s t : ByteArray) (r : Int) (hg : 0 ≤ g ∧ g ≤ 18446744073709551615) (hh : 0 ≤ h ∧ h ≤ 18446744073709551615) (hs : s.size ≤ 140737488351232) (ht : t.size ≤ 140737488351232) (hr : 0 ≤ r ∧ r ≤ 255) (w : World) :
    Calls Tryd.prog 5 #[.int .u64 g, .int .u64 h, .string s, .string t, .int .u8 r] w fun e w' => e = .returned (.bool true) ∧ Below w.heap.size w w' := by
  have hse := str_beq
  obtain ⟨m, hm, hm51, hms⟩ : ∃ m : Nat, (if (51 : Int) < s.size then 51 else (s.size : Int)) = (m : Int) ∧ m ≤ 51 ∧ m ≤ s.size := ⟨min 51 s.size, by split <;> omega, by omega, by omega⟩
  obtain ⟨k, hk, hk51, hkt⟩ : ∃ m : Nat, (if (51 : Int) < t.size then 51 else (t.size : Int)) = (m : Int) ∧ m ≤ 51 ∧ m ≤ t.size := ⟨min 51 t.size, by split <;> omega, by omega, by omega⟩
  have hm2 : min (s.size : Int) 51 = (m : Int) := by rw [← hm]; split <;> omega
  have hk2 : min (t.size : Int) 51 = (k : Int) := by rw [← hk]; split <;> omega
  have hS : (s.extract 0 m).size ≤ 51 := by rw [ByteArray.size_extract]; omega
  have hT : (t.extract 0 k).size ≤ 51 := by rw [ByteArray.size_extract]; omega
  obtain ⟨S, hSS⟩ : ∃ S, s.extract 0 m = S := ⟨_, rfl⟩
  obtain ⟨T, hTT⟩ : ∃ T, t.extract 0 k = T := ⟨_, rfl⟩
  rw [hSS] at hS
  rw [hTT] at hT
  have hp := fun W => super_put g hg S (by omega) W
  have hq := fun W => super_put h hh T (by omega) W
  have cA := sput_pad g hg S hS
  have cB := sput_pad h hh T hT
  obtain ⟨⟨A, oa⟩, hA⟩ : ∃ T, sput g S = T := ⟨_, rfl⟩
  obtain ⟨⟨B, ob⟩, hB⟩ : ∃ R, sput h T = R := ⟨_, rfl⟩
  have HA := Aside.mk hA
  have HB := Aside.mk hB
  rw [hA] at hp cA
  rw [hB] at hq cB
  have hAz : A.size ≤ 64 := by have := sput_size g S; rw [hA] at this; exact this
  have hBz : B.size ≤ 64 := by have := sput_size h T; rw [hB] at this; exact this
  have Hp := Aside.mk hp
  have Hq := Aside.mk hq
  have hb := Below.refl w.heap.size w
  have hms2 : (m : Int) ≤ (s.size : Int) := by omega
  have hkt2 : (k : Int) ≤ (t.size : Int) := by omega
  have hr3 : 0 ≤ r % 3 ∧ r % 3 < 3 := by omega
  clear hA hB hp hq
  rcases (show r % 3 = 0 ∨ r % 3 = 1 ∨ r % 3 = 2 by omega) with h3 | h3 | h3
  · have q1 : (r % 3 == 1) = false := by rw [h3]; rfl
    have q2 : (r % 3 == 2) = false := by rw [h3]; rfl
    clear h3 hr3
    rcases cA with ⟨hA0, hg0⟩ | ⟨A1, hA0, hA1, hg1, hA2⟩
    · cases hA0
      rcases cB with ⟨hB0, hh0⟩ | ⟨B1, hB0, hB1, hh1, hB2⟩
      · cases hB0
        have HE := Aside.mk (show suread (dset 1 ⟨#[]⟩ (dset 0 ⟨#[]⟩ (dnew 2))) ((0 : Nat) : Int) = (⟨#[]⟩, 0, 0, 6) by rw [two_cells _ _ (by decide) (by decide) _ _ sget_pad_nil sget_pad_nil]; unfold sucells; rfl)
        clear hg0 hh0
        go_enter Tryd.func5, Tryd.ntmps5
        go_wp2_with fail
        refine (super_examples _).mono ?_
        rintro e w1 ⟨rfl, hbb⟩
        replace hb := Below.next hb hbb
        clear hbb
        go_wp2_with fail
        refine (Hp.out _).mono ?_
        rintro e w2 ⟨rfl, hbb⟩
        replace hb := Below.next hb hbb
        clear hbb
        go_wp2_with fail
        refine (Hq.out _).mono ?_
        rintro e w3 ⟨rfl, hbb⟩
        replace hb := Below.next hb hbb
        clear hbb
        go_wp2_with fail
        with_reducible refine (dev_new' 2 2 rfl (by omega) (by omega) _).mono ?_
        rintro e w4 ⟨bA, fA, mA, rfl, hbA, hfA, hmA, dA, hbb⟩
        replace hbA := Nat.le_trans hb.size hbA
        replace hfA := Nat.le_trans hb.size hfA
        replace hmA := Nat.le_trans hb.size hmA
        replace hb := Below.next hb hbb
        clear hbb
        go_wp2_with fail
        with_reducible refine (dev_write_ok bA fA mA _ 0 0 rfl (by rw [dnew_n]; omega) ⟨#[]⟩ (by decide) (live_new 2) _ dA).mono ?_
        rintro e w5 ⟨rfl, qA, hkk⟩
        replace hb := Below.dev hb hkk hb.size hbA hfA hmA
        clear dA hkk
        go_wp2_with fail
        with_reducible refine (dev_write_ok bA fA mA _ 1 1 rfl (by rw [dset_n, dnew_n]; omega) ⟨#[]⟩ (by decide) ((live_new 2).set _ _) _ qA).mono ?_
        rintro e w6 ⟨rfl, dA, hkk⟩
        replace hb := Below.dev hb hkk hb.size hbA hfA hmA
        clear qA hkk
        go_wp2_with fail
        with_reducible refine (super_read_to bA fA mA _ 0 0 rfl (by omega) _ _ _ _ HE.out _ dA).mono ?_
        rintro e w7 ⟨rfl, hbb⟩
        replace hb := Below.next hb hbb
        clear hbb dA
        go_wp2_with fail
        go_ret
        exact ⟨rfl, hb⟩
      · cases hB0
        have HE := Aside.mk (show suread (dset 1 B (dset 0 ⟨#[]⟩ (dnew 2))) ((0 : Nat) : Int) = (T, h, 1, 0) by rw [two_cells _ _ (by decide) hBz _ _ sget_pad_nil hB2]; unfold sucells; rw [if_neg (by rintro ⟨_, q⟩; dsimp only at q; omega), if_neg (by dsimp only; omega)])
        clear hg0 hh1 hB2 hB1
        go_enter Tryd.func5, Tryd.ntmps5
        go_wp2_with fail
        refine (super_examples _).mono ?_
        rintro e w1 ⟨rfl, hbb⟩
        replace hb := Below.next hb hbb
        clear hbb
        go_wp2_with fail
        refine (Hp.out _).mono ?_
        rintro e w2 ⟨rfl, hbb⟩
        replace hb := Below.next hb hbb
        clear hbb
        go_wp2_with fail
        refine (Hq.out _).mono ?_
        rintro e w3 ⟨rfl, hbb⟩
        replace hb := Below.next hb hbb
        clear hbb
        go_wp2_with fail
        with_reducible refine (dev_new' 2 2 rfl (by omega) (by omega) _).mono ?_
        rintro e w4 ⟨bA, fA, mA, rfl, hbA, hfA, hmA, dA, hbb⟩
        replace hbA := Nat.le_trans hb.size hbA
        replace hfA := Nat.le_trans hb.size hfA
        replace hmA := Nat.le_trans hb.size hmA
        replace hb := Below.next hb hbb
        clear hbb
        go_wp2_with fail
        with_reducible refine (dev_write_ok bA fA mA _ 0 0 rfl (by rw [dnew_n]; omega) ⟨#[]⟩ (by decide) (live_new 2) _ dA).mono ?_
        rintro e w5 ⟨rfl, qA, hkk⟩
        replace hb := Below.dev hb hkk hb.size hbA hfA hmA
        clear dA hkk
        go_wp2_with fail
        with_reducible refine (dev_write_ok bA fA mA _ 1 1 rfl (by rw [dset_n, dnew_n]; omega) B hBz ((live_new 2).set _ _) _ qA).mono ?_
        rintro e w6 ⟨rfl, dA, hkk⟩
        replace hb := Below.dev hb hkk hb.size hbA hfA hmA
        clear qA hkk
        go_wp2_with fail
        with_reducible refine (super_read_to bA fA mA _ 0 0 rfl (by omega) _ _ _ _ HE.out _ dA).mono ?_
        rintro e w7 ⟨rfl, hbb⟩
        replace hb := Below.next hb hbb
        clear hbb dA
        go_wp2_with fail
        go_ret
        exact ⟨rfl, hb⟩
    · cases hA0
      rcases cB with ⟨hB0, hh0⟩ | ⟨B1, hB0, hB1, hh1, hB2⟩
      · cases hB0
        have HE := Aside.mk (show suread (dset 1 ⟨#[]⟩ (dset 0 A (dnew 2))) ((0 : Nat) : Int) = (S, g, 0, 0) by rw [two_cells _ _ hAz (by decide) _ _ hA2 sget_pad_nil]; unfold sucells; rw [if_neg (by rintro ⟨q, _⟩; dsimp only at q; omega), if_pos (by dsimp only; omega)])
        clear hg1 hh0 hA2 hA1
        go_enter Tryd.func5, Tryd.ntmps5
        go_wp2_with fail
        refine (super_examples _).mono ?_
        rintro e w1 ⟨rfl, hbb⟩
        replace hb := Below.next hb hbb
        clear hbb
        go_wp2_with fail
        refine (Hp.out _).mono ?_
        rintro e w2 ⟨rfl, hbb⟩
        replace hb := Below.next hb hbb
        clear hbb
        go_wp2_with fail
        refine (Hq.out _).mono ?_
        rintro e w3 ⟨rfl, hbb⟩
        replace hb := Below.next hb hbb
        clear hbb
        go_wp2_with fail
        with_reducible refine (dev_new' 2 2 rfl (by omega) (by omega) _).mono ?_
        rintro e w4 ⟨bA, fA, mA, rfl, hbA, hfA, hmA, dA, hbb⟩
        replace hbA := Nat.le_trans hb.size hbA
        replace hfA := Nat.le_trans hb.size hfA
        replace hmA := Nat.le_trans hb.size hmA
        replace hb := Below.next hb hbb
        clear hbb
        go_wp2_with fail
        with_reducible refine (dev_write_ok bA fA mA _ 0 0 rfl (by rw [dnew_n]; omega) A hAz (live_new 2) _ dA).mono ?_
        rintro e w5 ⟨rfl, qA, hkk⟩
        replace hb := Below.dev hb hkk hb.size hbA hfA hmA
        clear dA hkk
        go_wp2_with fail
        with_reducible refine (dev_write_ok bA fA mA _ 1 1 rfl (by rw [dset_n, dnew_n]; omega) ⟨#[]⟩ (by decide) ((live_new 2).set _ _) _ qA).mono ?_
        rintro e w6 ⟨rfl, dA, hkk⟩
        replace hb := Below.dev hb hkk hb.size hbA hfA hmA
        clear qA hkk
        go_wp2_with fail
        with_reducible refine (super_read_to bA fA mA _ 0 0 rfl (by omega) _ _ _ _ HE.out _ dA).mono ?_
        rintro e w7 ⟨rfl, hbb⟩
        replace hb := Below.next hb hbb
        clear hbb dA
        go_wp2_with fail
        go_ret
        exact ⟨rfl, hb⟩
      · cases hB0
        by_cases hle : h ≤ g
        · have HE := Aside.mk (show suread (dset 1 B (dset 0 A (dnew 2))) ((0 : Nat) : Int) = (S, g, 0, 0) by rw [two_cells _ _ hAz hBz _ _ hA2 hB2]; unfold sucells; rw [if_neg (by rintro ⟨q, _⟩; dsimp only at q; omega), if_pos (by dsimp only; omega)])
          clear hg1 hA2 hA1 hh1 hB2 hB1
          go_enter Tryd.func5, Tryd.ntmps5
          go_wp2_with fail
          refine (super_examples _).mono ?_
          rintro e w1 ⟨rfl, hbb⟩
          replace hb := Below.next hb hbb
          clear hbb
          go_wp2_with fail
          refine (Hp.out _).mono ?_
          rintro e w2 ⟨rfl, hbb⟩
          replace hb := Below.next hb hbb
          clear hbb
          go_wp2_with fail
          refine (Hq.out _).mono ?_
          rintro e w3 ⟨rfl, hbb⟩
          replace hb := Below.next hb hbb
          clear hbb
          go_wp2_with fail
          with_reducible refine (dev_new' 2 2 rfl (by omega) (by omega) _).mono ?_
          rintro e w4 ⟨bA, fA, mA, rfl, hbA, hfA, hmA, dA, hbb⟩
          replace hbA := Nat.le_trans hb.size hbA
          replace hfA := Nat.le_trans hb.size hfA
          replace hmA := Nat.le_trans hb.size hmA
          replace hb := Below.next hb hbb
          clear hbb
          go_wp2_with fail
          with_reducible refine (dev_write_ok bA fA mA _ 0 0 rfl (by rw [dnew_n]; omega) A hAz (live_new 2) _ dA).mono ?_
          rintro e w5 ⟨rfl, qA, hkk⟩
          replace hb := Below.dev hb hkk hb.size hbA hfA hmA
          clear dA hkk
          go_wp2_with fail
          with_reducible refine (dev_write_ok bA fA mA _ 1 1 rfl (by rw [dset_n, dnew_n]; omega) B hBz ((live_new 2).set _ _) _ qA).mono ?_
          rintro e w6 ⟨rfl, dA, hkk⟩
          replace hb := Below.dev hb hkk hb.size hbA hfA hmA
          clear qA hkk
          go_wp2_with fail
          with_reducible refine (super_read_to bA fA mA _ 0 0 rfl (by omega) _ _ _ _ HE.out _ dA).mono ?_
          rintro e w7 ⟨rfl, hbb⟩
          replace hb := Below.next hb hbb
          clear hbb dA
          go_wp2_with fail
          go_ret
          exact ⟨rfl, hb⟩
        · have HE := Aside.mk (show suread (dset 1 B (dset 0 A (dnew 2))) ((0 : Nat) : Int) = (T, h, 1, 0) by rw [two_cells _ _ hAz hBz _ _ hA2 hB2]; unfold sucells; rw [if_neg (by rintro ⟨q, _⟩; dsimp only at q; omega), if_neg (by dsimp only; omega)])
          clear hg1 hA2 hA1 hh1 hB2 hB1
          go_enter Tryd.func5, Tryd.ntmps5
          go_wp2_with fail
          refine (super_examples _).mono ?_
          rintro e w1 ⟨rfl, hbb⟩
          replace hb := Below.next hb hbb
          clear hbb
          go_wp2_with fail
          refine (Hp.out _).mono ?_
          rintro e w2 ⟨rfl, hbb⟩
          replace hb := Below.next hb hbb
          clear hbb
          go_wp2_with fail
          refine (Hq.out _).mono ?_
          rintro e w3 ⟨rfl, hbb⟩
          replace hb := Below.next hb hbb
          clear hbb
          go_wp2_with fail
          with_reducible refine (dev_new' 2 2 rfl (by omega) (by omega) _).mono ?_
          rintro e w4 ⟨bA, fA, mA, rfl, hbA, hfA, hmA, dA, hbb⟩
          replace hbA := Nat.le_trans hb.size hbA
          replace hfA := Nat.le_trans hb.size hfA
          replace hmA := Nat.le_trans hb.size hmA
          replace hb := Below.next hb hbb
          clear hbb
          go_wp2_with fail
          with_reducible refine (dev_write_ok bA fA mA _ 0 0 rfl (by rw [dnew_n]; omega) A hAz (live_new 2) _ dA).mono ?_
          rintro e w5 ⟨rfl, qA, hkk⟩
          replace hb := Below.dev hb hkk hb.size hbA hfA hmA
          clear dA hkk
          go_wp2_with fail
          with_reducible refine (dev_write_ok bA fA mA _ 1 1 rfl (by rw [dset_n, dnew_n]; omega) B hBz ((live_new 2).set _ _) _ qA).mono ?_
          rintro e w6 ⟨rfl, dA, hkk⟩
          replace hb := Below.dev hb hkk hb.size hbA hfA hmA
          clear qA hkk
          go_wp2_with fail
          with_reducible refine (super_read_to bA fA mA _ 0 0 rfl (by omega) _ _ _ _ HE.out _ dA).mono ?_
          rintro e w7 ⟨rfl, hbb⟩
          replace hb := Below.next hb hbb
          clear hbb dA
          go_wp2_with fail
          go_ret
          exact ⟨rfl, hb⟩
  · have q1 : (r % 3 == 1) = true := by rw [h3]; rfl
    have q2 : (r % 3 == 2) = false := by rw [h3]; rfl
    clear h3 hr3
    rcases cB with ⟨hB0, hh0⟩ | ⟨B1, hB0, hB1, hh1, hB2⟩
    · cases hB0
      have HE := Aside.mk (show suread (dset 1 ⟨#[]⟩ (dset 0 ⟨#[]⟩ (dnew 2))) ((0 : Nat) : Int) = (⟨#[]⟩, 0, 0, 6) by rw [two_cells _ _ (by decide) (by decide) _ _ sget_pad_nil sget_pad_nil]; unfold sucells; rfl)
      clear cA hh0
      go_enter Tryd.func5, Tryd.ntmps5
      go_wp2_with fail
      refine (super_examples _).mono ?_
      rintro e w1 ⟨rfl, hbb⟩
      replace hb := Below.next hb hbb
      clear hbb
      go_wp2_with fail
      refine (Hp.out _).mono ?_
      rintro e w2 ⟨rfl, hbb⟩
      replace hb := Below.next hb hbb
      clear hbb
      go_wp2_with fail
      refine (Hq.out _).mono ?_
      rintro e w3 ⟨rfl, hbb⟩
      replace hb := Below.next hb hbb
      clear hbb
      go_wp2_with fail
      with_reducible refine (dev_new' 2 2 rfl (by omega) (by omega) _).mono ?_
      rintro e w4 ⟨bA, fA, mA, rfl, hbA, hfA, hmA, dA, hbb⟩
      replace hbA := Nat.le_trans hb.size hbA
      replace hfA := Nat.le_trans hb.size hfA
      replace hmA := Nat.le_trans hb.size hmA
      replace hb := Below.next hb hbb
      clear hbb
      go_wp2_with fail
      with_reducible refine (dev_write_ok bA fA mA _ 0 0 rfl (by rw [dnew_n]; omega) ⟨#[]⟩ (by decide) (live_new 2) _ dA).mono ?_
      rintro e w5 ⟨rfl, qA, hkk⟩
      replace hb := Below.dev hb hkk hb.size hbA hfA hmA
      clear dA hkk
      go_wp2_with fail
      with_reducible refine (dev_write_ok bA fA mA _ 1 1 rfl (by rw [dset_n, dnew_n]; omega) ⟨#[]⟩ (by decide) ((live_new 2).set _ _) _ qA).mono ?_
      rintro e w6 ⟨rfl, dA, hkk⟩
      replace hb := Below.dev hb hkk hb.size hbA hfA hmA
      clear qA hkk
      go_wp2_with fail
      with_reducible refine (super_read_to bA fA mA _ 0 0 rfl (by omega) _ _ _ _ HE.out _ dA).mono ?_
      rintro e w7 ⟨rfl, hbb⟩
      replace hb := Below.next hb hbb
      clear hbb dA
      go_wp2_with fail
      go_ret
      exact ⟨rfl, hb⟩
    · cases hB0
      have HE := Aside.mk (show suread (dset 1 B (dset 0 ⟨#[]⟩ (dnew 2))) ((0 : Nat) : Int) = (T, h, 1, 0) by rw [two_cells _ _ (by decide) hBz _ _ sget_pad_nil hB2]; unfold sucells; rw [if_neg (by rintro ⟨_, q⟩; dsimp only at q; omega), if_neg (by dsimp only; omega)])
      clear cA hh1 hB2 hB1
      go_enter Tryd.func5, Tryd.ntmps5
      go_wp2_with fail
      refine (super_examples _).mono ?_
      rintro e w1 ⟨rfl, hbb⟩
      replace hb := Below.next hb hbb
      clear hbb
      go_wp2_with fail
      refine (Hp.out _).mono ?_
      rintro e w2 ⟨rfl, hbb⟩
      replace hb := Below.next hb hbb
      clear hbb
      go_wp2_with fail
      refine (Hq.out _).mono ?_
      rintro e w3 ⟨rfl, hbb⟩
      replace hb := Below.next hb hbb
      clear hbb
      go_wp2_with fail
      with_reducible refine (dev_new' 2 2 rfl (by omega) (by omega) _).mono ?_
      rintro e w4 ⟨bA, fA, mA, rfl, hbA, hfA, hmA, dA, hbb⟩
      replace hbA := Nat.le_trans hb.size hbA
      replace hfA := Nat.le_trans hb.size hfA
      replace hmA := Nat.le_trans hb.size hmA
      replace hb := Below.next hb hbb
      clear hbb
      go_wp2_with fail
      with_reducible refine (dev_write_ok bA fA mA _ 0 0 rfl (by rw [dnew_n]; omega) ⟨#[]⟩ (by decide) (live_new 2) _ dA).mono ?_
      rintro e w5 ⟨rfl, qA, hkk⟩
      replace hb := Below.dev hb hkk hb.size hbA hfA hmA
      clear dA hkk
      go_wp2_with fail
      with_reducible refine (dev_write_ok bA fA mA _ 1 1 rfl (by rw [dset_n, dnew_n]; omega) B hBz ((live_new 2).set _ _) _ qA).mono ?_
      rintro e w6 ⟨rfl, dA, hkk⟩
      replace hb := Below.dev hb hkk hb.size hbA hfA hmA
      clear qA hkk
      go_wp2_with fail
      with_reducible refine (super_read_to bA fA mA _ 0 0 rfl (by omega) _ _ _ _ HE.out _ dA).mono ?_
      rintro e w7 ⟨rfl, hbb⟩
      replace hb := Below.next hb hbb
      clear hbb dA
      go_wp2_with fail
      go_ret
      exact ⟨rfl, hb⟩
  · have q1 : (r % 3 == 1) = false := by rw [h3]; rfl
    have q2 : (r % 3 == 2) = true := by rw [h3]; rfl
    clear h3 hr3
    rcases cA with ⟨hA0, hg0⟩ | ⟨A1, hA0, hA1, hg1, hA2⟩
    · cases hA0
      have HE := Aside.mk (show suread (dset 1 ⟨#[106, 117, 110, 107]⟩ (dset 0 ⟨#[]⟩ (dnew 2))) ((0 : Nat) : Int) = (⟨#[]⟩, 0, 0, 6) by rw [two_cells _ _ (by decide) (by decide) _ _ sget_pad_nil sget_pad_junk]; unfold sucells; rfl)
      clear cB hg0
      go_enter Tryd.func5, Tryd.ntmps5
      go_wp2_with fail
      refine (super_examples _).mono ?_
      rintro e w1 ⟨rfl, hbb⟩
      replace hb := Below.next hb hbb
      clear hbb
      go_wp2_with fail
      refine (Hp.out _).mono ?_
      rintro e w2 ⟨rfl, hbb⟩
      replace hb := Below.next hb hbb
      clear hbb
      go_wp2_with fail
      refine (Hq.out _).mono ?_
      rintro e w3 ⟨rfl, hbb⟩
      replace hb := Below.next hb hbb
      clear hbb
      go_wp2_with fail
      with_reducible refine (dev_new' 2 2 rfl (by omega) (by omega) _).mono ?_
      rintro e w4 ⟨bA, fA, mA, rfl, hbA, hfA, hmA, dA, hbb⟩
      replace hbA := Nat.le_trans hb.size hbA
      replace hfA := Nat.le_trans hb.size hfA
      replace hmA := Nat.le_trans hb.size hmA
      replace hb := Below.next hb hbb
      clear hbb
      go_wp2_with fail
      with_reducible refine (dev_write_ok bA fA mA _ 0 0 rfl (by rw [dnew_n]; omega) ⟨#[]⟩ (by decide) (live_new 2) _ dA).mono ?_
      rintro e w5 ⟨rfl, qA, hkk⟩
      replace hb := Below.dev hb hkk hb.size hbA hfA hmA
      clear dA hkk
      go_wp2_with fail
      with_reducible refine (dev_write_ok bA fA mA _ 1 1 rfl (by rw [dset_n, dnew_n]; omega) ⟨#[106, 117, 110, 107]⟩ (by decide) ((live_new 2).set _ _) _ qA).mono ?_
      rintro e w6 ⟨rfl, dA, hkk⟩
      replace hb := Below.dev hb hkk hb.size hbA hfA hmA
      clear qA hkk
      go_wp2_with fail
      with_reducible refine (super_read_to bA fA mA _ 0 0 rfl (by omega) _ _ _ _ HE.out _ dA).mono ?_
      rintro e w7 ⟨rfl, hbb⟩
      replace hb := Below.next hb hbb
      clear hbb dA
      go_wp2_with fail
      go_ret
      exact ⟨rfl, hb⟩
    · cases hA0
      have HE := Aside.mk (show suread (dset 1 ⟨#[106, 117, 110, 107]⟩ (dset 0 A (dnew 2))) ((0 : Nat) : Int) = (S, g, 0, 0) by rw [two_cells _ _ hAz (by decide) _ _ hA2 sget_pad_junk]; unfold sucells; rw [if_neg (by rintro ⟨q, _⟩; dsimp only at q; omega), if_pos (by dsimp only; omega)])
      clear cB hg1 hA2 hA1
      go_enter Tryd.func5, Tryd.ntmps5
      go_wp2_with fail
      refine (super_examples _).mono ?_
      rintro e w1 ⟨rfl, hbb⟩
      replace hb := Below.next hb hbb
      clear hbb
      go_wp2_with fail
      refine (Hp.out _).mono ?_
      rintro e w2 ⟨rfl, hbb⟩
      replace hb := Below.next hb hbb
      clear hbb
      go_wp2_with fail
      refine (Hq.out _).mono ?_
      rintro e w3 ⟨rfl, hbb⟩
      replace hb := Below.next hb hbb
      clear hbb
      go_wp2_with fail
      with_reducible refine (dev_new' 2 2 rfl (by omega) (by omega) _).mono ?_
      rintro e w4 ⟨bA, fA, mA, rfl, hbA, hfA, hmA, dA, hbb⟩
      replace hbA := Nat.le_trans hb.size hbA
      replace hfA := Nat.le_trans hb.size hfA
      replace hmA := Nat.le_trans hb.size hmA
      replace hb := Below.next hb hbb
      clear hbb
      go_wp2_with fail
      with_reducible refine (dev_write_ok bA fA mA _ 0 0 rfl (by rw [dnew_n]; omega) A hAz (live_new 2) _ dA).mono ?_
      rintro e w5 ⟨rfl, qA, hkk⟩
      replace hb := Below.dev hb hkk hb.size hbA hfA hmA
      clear dA hkk
      go_wp2_with fail
      with_reducible refine (dev_write_ok bA fA mA _ 1 1 rfl (by rw [dset_n, dnew_n]; omega) ⟨#[106, 117, 110, 107]⟩ (by decide) ((live_new 2).set _ _) _ qA).mono ?_
      rintro e w6 ⟨rfl, dA, hkk⟩
      replace hb := Below.dev hb hkk hb.size hbA hfA hmA
      clear qA hkk
      go_wp2_with fail
      with_reducible refine (super_read_to bA fA mA _ 0 0 rfl (by omega) _ _ _ _ HE.out _ dA).mono ?_
      rintro e w7 ⟨rfl, hbb⟩
      replace hb := Below.next hb hbb
      clear hbb dA
      go_wp2_with fail
      go_ret
      exact ⟨rfl, hb⟩
end Go.Proofs.YtpfkpaombiikcaaDoor
