/- SuperEnds: its walk. -/
import Derived.Test.YtpfkpaombiikcaaDoorSuperNewestW
import Derived.Test.YtpfkpaombiikcaaDoorDevI
set_option maxRecDepth 16000
namespace Go.Pin
open Go.RowKit
set_option linter.unusedVariables false
set_option linter.unusedSimpArgs false
theorem cut51N (s : ByteArray) : ∃ m : Nat, (if (51 : Int) < s.size then 51 else (s.size : Int)) = (m : Int) ∧ min (s.size : Int) 51 = (m : Int) ∧ m ≤ 51 ∧ (m : Int) ≤ (s.size : Int) ∧ (s.extract 0 m).size ≤ 51 :=
  ⟨min 51 s.size, by split <;> omega, by omega, by omega, by omega, by rw [ByteArray.size_extract]; omega⟩
/-- A device whose first cell has a gen. -/
theorem one_cell_read (g : Int) (hg : 1 ≤ g ∧ g ≤ 18446744073709551615) (T s : ByteArray) (hT : T.size = 64) (h : sget (pad T) = (g, s, true)) : (dsettle (dset 0 T (dnew 2))).ok ∧ Live (dsettle (dset 0 T (dnew 2))) ∧ (dsettle (dset 0 T (dnew 2))).n = 2 ∧ suread (dsettle (dset 0 T (dnew 2))) ((0 : Nat) : Int) = (s, g, 0, 0) := by
  have ok0 := dnew_ok 2 (by omega) (by omega)
  have n0 : (dnew 2).n = 2 := dnew_n 2
  have ok1 := dset_ok ok0 (k := 0) (by omega) (Nat.le_of_eq hT)
  have hl := ((live_new 2).set 0 T).settle
  have hn : (dsettle (dset 0 T (dnew 2))).n = 2 := (dsettle_n ok1).trans n0
  refine ⟨dsettle_ok ok1, hl, hn, ?_⟩
  have hs : ∀ i, (dsettle (dset 0 T (dnew 2))).s i = if i = 0 then pad T else secZ := fun i => by
    show (dset 0 T (dnew 2)).s i = _
    rw [dset_s ok0 (by omega)]
    split
    · rfl
    · exact getD_rep _ _ _
  rw [suread_live hl (by omega), hs, hs, if_pos rfl, if_neg (by omega), h, sget_secZ]
  unfold sucells
  rw [if_neg (by rintro ⟨q, _⟩; dsimp only at q; omega), if_pos (by dsimp only; omega)]
end Go.Pin
namespace Go.Proofs.YtpfkpaombiikcaaDoor
open Go.RowKit Go.Pin
set_option linter.unusedVariables false
set_option linter.unusedSimpArgs false
set_option maxHeartbeats 4000000 in
theorem superEnds_walk (s : ByteArray) (n : Int) (hs : s.size ≤ 140737488351232) (hn : 0 ≤ n ∧ n ≤ 255) (w : World) :
    Calls Tryd.prog 6 #[.string s, .int .u8 n] w fun e w' => e = .returned (.bool true) ∧ Below w.heap.size w w' := by
  have hse := str_beq
  obtain ⟨m, hm1, hm2, hm51, hms, hSz⟩ := cut51N s
  obtain ⟨S, hS⟩ : ∃ S, s.extract 0 m = S := ⟨_, rfl⟩
  rw [hS] at hSz
  obtain ⟨K, hK⟩ : ∃ K, n % 4 = K := ⟨_, rfl⟩
  have hK3 : 0 ≤ K ∧ K ≤ 3 := by omega
  obtain ⟨G, hG⟩ : ∃ G, IntKind.u64.wrap (18446744073709551615 - K) = G := ⟨_, rfl⟩
  have hGK : 1 ≤ G ∧ G ≤ 18446744073709551615 ∧ G + K = 18446744073709551615 := by rw [IntKind.wrap_u64] at hG; omega
  have hp := fun W => super_put G (by omega) ⟨#[111, 108, 100]⟩ (by decide) W
  rcases sput_pad G (by omega) ⟨#[111, 108, 100]⟩ (by decide) with ⟨_, h0⟩ | ⟨T, hT, hTz, hG1, hTg⟩
  · omega
  rw [hT] at hp
  have Hp := Aside.mk hp
  have Hi := Aside.mk (one_cell_read G (by omega) T _ hTz hTg)
  have HGK := Aside.mk hGK
  have hG5 : 0 ≤ G := by omega
  have hb := Below.refl w.heap.size w
  clear hp hT hTg hGK hG1
  go_enter Tryd.func6, Tryd.ntmps6
  go_wp2_with fail
  refine (super_examples _).mono ?_
  rintro e w1 ⟨rfl, hbb⟩
  replace hb := Below.next hb hbb
  clear hbb
  go_wp2_with fail
  refine (Hp.out _).mono ?_
  rintro e w2 ⟨rfl, hbb⟩
  replace hb := Below.next hb hbb
  clear hbb
  go_wp2_with fail
  with_reducible refine (dev_new' 2 2 rfl (by omega) (by omega) _).mono ?_
  rintro e w4 ⟨bA, fA, mA, rfl, hbA, hfA, hmA, dA, hbb⟩
  replace hbA := Nat.le_trans hb.size hbA
  replace hfA := Nat.le_trans hb.size hfA
  replace hmA := Nat.le_trans hb.size hmA
  replace hb := Below.next hb hbb
  clear hbb
  go_wp2_with fail
  with_reducible refine (dev_write_ok bA fA mA _ 0 0 rfl (by rw [dnew_n]; omega) T (by omega) (live_new 2) _ dA).mono ?_
  rintro e w5 ⟨rfl, qA, hkk⟩
  replace hb := Below.dev hb hkk hb.size hbA hfA hmA
  clear dA hkk
  go_wp2_with fail
  with_reducible refine (dev_flush_ok bA fA mA _ ((live_new 2).set _ _) _ qA).mono ?_
  rintro e w6 ⟨rfl, dA, hkk⟩
  replace hb := Below.dev hb hkk hb.size hbA hfA hmA
  clear qA hkk
  generalize dsettle (dset 0 T (dnew 2)) = D0 at *
  go_wp2_with fail
  go_loopw [11] (fun q wr => ∃ (i : Int) (D : Dv) (g k : Int), 0 ≤ i ∧ i ≤ K ∧ q = .int .u64 i ∧ DevAt wr bA fA mA D ∧ Below w.heap.size w wr ∧ Pin.Aside (D.ok ∧ Live D ∧ D.n = 2 ∧ suread D ((0 : Nat) : Int) = ((if i = 0 then ⟨#[111, 108, 100]⟩ else S), g, k, 0) ∧ g = G + i)) (fun q _ => 10 - (intOf q).toNat)
  case atStart =>
    refine ⟨0, D0, G, 0, by omega, by omega, rfl, dA, hb, Pin.Aside.mk (And.intro Hi.out.1 (And.intro Hi.out.2.1 (And.intro Hi.out.2.2.1 (And.intro ?_ (by omega)))))⟩
    rw [if_pos rfl]; exact Hi.out.2.2.2
  case round =>
    clear hb dA Hi
    obtain ⟨i, D, g, k, hi0, hiK, rfl, dA, hb, HR⟩ := hrel
    by_cases hlt : i < K
    · obtain ⟨E, hE1, hE2, hE3, hE4, hE5, hE6⟩ := su_step HR.out.1 HR.out.2.1 (a := 0) (by rw [HR.out.2.2.1]; omega) S hSz _ HR.out.2.2.2.1 (by have := HR.out.2.2.2.2; have := HGK.out; dsimp only; omega)
      have HE1 := Aside.mk hE1
      have hnx : (suNext ((if i = 0 then (⟨#[111, 108, 100]⟩ : ByteArray) else S), g, k, 0)).1 = G + (i + 1) := by unfold suNext; rw [if_neg (by simp)]; have := HR.out.2.2.2.2; dsimp only; omega
      rw [hnx] at hE5
      generalize hkk : (suNext ((if i = 0 then (⟨#[111, 108, 100]⟩ : ByteArray) else S), g, k, 0)).2 = k' at hE5
      have HE5 := Pin.Aside.mk hE5
      have HE2 := Pin.Aside.mk (And.intro hE2 (And.intro hE3 (hE4.trans HR.out.2.2.1)))
      clear hE1 hE2 hE3 hE4 hE5 hE6 HR hnx hkk
      go_wp2_with fail
      refine (super_write_to bA fA mA _ 0 0 rfl (by omega) S (by omega) 0 E HE1.out _ dA).mono ?_
      rintro e w7 ⟨rfl, qA, hkk⟩
      replace hb := Below.dev hb hkk hb.size hbA hfA hmA
      clear dA hkk
      go_wp2_with fail
      go_roundw
      case rel =>
        refine ⟨i + 1, E, G + (i + 1), k', by omega, by omega, rfl, qA, hb, Pin.Aside.mk (And.intro HE2.out.1 (And.intro HE2.out.2.1 (And.intro HE2.out.2.2 (And.intro ?_ rfl))))⟩
        rw [if_neg (by omega)]; exact HE5.out
      case measure => simp [intOf]; omega
    · have hiK2 : i = K := by omega
      have hg : g = 18446744073709551615 := by have := HR.out.2.2.2.2; have := HGK.out; omega
      have HF := Pin.Aside.mk (show suwrite D ((0 : Nat) : Int) ⟨#[110, 101, 119]⟩ = (4, D) by
        unfold suwrite; rw [if_neg (by decide), HR.out.2.2.2.1, if_neg (by simp), if_pos hg])
      obtain ⟨I, hI⟩ : ∃ I, dimage D = I := ⟨_, rfl⟩
      have Him := Pin.Aside.mk fun W hW => dev_image' bA fA mA D I hI W hW
      obtain ⟨R, hR⟩ : ∃ R, (if i = 0 then (⟨#[111, 108, 100]⟩ : ByteArray) else S) = R := ⟨_, rfl⟩
      have HRd := Pin.Aside.mk HR.out.2.2.2.1
      rw [hR] at HRd
      rw [hg] at HRd
      have hRS : R = if 0 < K then S else ⟨#[111, 108, 100]⟩ := by rw [← hR, hiK2]; by_cases q : K = 0; rw [if_pos q, if_neg (by omega)]; rw [if_neg q, if_pos (by omega)]
      clear hI hR hg HR hiK2
      by_cases hK0 : 0 < K
      all_goals
        first | rw [if_pos hK0] at hRS | rw [if_neg hK0] at hRS
        subst hRS
        go_wp2_with fail
        refine (Him.out _ dA).mono ?_
        rintro e w7 ⟨rfl, hbb⟩
        have qA := dA.below hbb
        have hb2 := Below.next hb hbb
        clear hbb
        go_wp2_with fail
        refine (super_write_to bA fA mA _ 0 0 rfl (by omega) ⟨#[110, 101, 119]⟩ (by decide) 4 D HF.out _ qA).mono ?_
        rintro e w8 ⟨rfl, rA, hkk⟩
        replace hb2 := Below.dev hb2 hkk hb2.size hbA hfA hmA
        clear qA hkk
        go_wp2_with fail
        refine (super_read_to bA fA mA _ 0 0 rfl (by omega) _ _ _ _ HRd.out _ rA).mono ?_
        rintro e w9 ⟨rfl, hbb⟩
        have qA := rA.below hbb
        replace hb2 := Below.next hb2 hbb
        clear hbb
        go_wp2_with fail
        refine (Him.out _ qA).mono ?_
        rintro e w10 ⟨rfl, hbb⟩
        replace hb2 := Below.next hb2 hbb
        clear hbb
        go_wp2_with fail
        go_ret
        exact ⟨rfl, hb2⟩
end Go.Proofs.YtpfkpaombiikcaaDoor
