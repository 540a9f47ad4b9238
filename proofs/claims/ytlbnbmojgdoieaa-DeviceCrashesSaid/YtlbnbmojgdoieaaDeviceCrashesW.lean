/- DeviceCrashes: its walk. -/
import Derived.Test.YtlbnbmojgdoieaaDevE
import Derived.OpenShut
set_option maxRecDepth 16000
namespace Go.Proofs.Ytlbnbmojgdoieaa
open Go.RowKit Go.Pin
set_option linter.unusedVariables false
set_option linter.unusedSimpArgs false

end Go.Proofs.Ytlbnbmojgdoieaa
namespace Go.Pin
open Go.RowKit
set_option linter.unusedVariables false
def bX : ByteArray := ⟨#[120]⟩
/-- The device of the statement behind i writes. -/
structure Crashing (K i : Nat) (d : Dv) : Prop where
  ok : d.ok
  n : d.n = 30
  arm : i ≤ K → d.armed = (K : Int) - i
  dead : d.dead = decide (K < i)
  s : ∀ j, j < 30 → d.s j = if j < i ∧ j < K then pad bX else secZ
  w : ∀ j, j < 30 → d.w j = decide (j < i ∧ j < K)
theorem Crashing.start (K : Nat) (hK : K ≤ 20) : Crashing K 0 (darm (dnew 30) K) := by
  have ok := dnew_ok 30 (by omega) (by omega)
  refine ⟨darm_ok ok K (by omega), dnew_n 30, fun _ => ?_, rfl, fun j _ => ?_, fun j _ => ?_⟩
  · show (if (K : Int) < -1 then -1 else (K : Int)) = _
    rw [if_neg (by omega)]; omega
  · rw [if_neg (by omega)]; exact getD_rep _ _ _
  · have : decide (j < 0 ∧ j < K) = false := by simp
    rw [this]; exact getD_rep _ _ _
theorem Crashing.go {K i : Nat} {d : Dv} (h : Crashing K i d) (hi : i < K) (hK : K ≤ 20) : dwrite d (i : Int) bX = (0, dset i bX (dstep d)) ∧ Crashing K (i + 1) (dset i bX (dstep d)) := by
  have hd : d.dead = false := by rw [h.dead]; simp; omega
  have ha := h.arm (by omega)
  have hin : i < d.n := by rw [h.n]; omega
  refine ⟨?_, dset_ok (dstep_ok h.ok) hin (by decide), h.n, fun hj => ?_, ?_, fun j hj => ?_, fun j hj => ?_⟩
  · unfold dwrite dtry
    have hr : dref d (i : Int) = 0 := by unfold dref; rw [if_neg (by rw [hd]; simp), if_neg (by omega)]
    rw [hr, if_neg (by simp), if_neg (by decide), if_neg (by rw [ha]; omega), Int.toNat_natCast]
  · show (if 0 < d.armed then d.armed - 1 else d.armed) = _
    rw [ha, if_pos (by omega)]; omega
  · show d.dead = _
    rw [hd]; simp; omega
  · rw [dset_s (dstep_ok h.ok) hin]
    by_cases e : j = i
    · rw [if_pos e, if_pos (by omega)]
    · rw [if_neg e]
      show d.s j = _
      rw [h.s j hj]
      by_cases q : j < i ∧ j < K
      · rw [if_pos q, if_pos (by omega)]
      · rw [if_neg q, if_neg (by omega)]
  · rw [dset_w (dstep_ok h.ok) hin]
    by_cases e : j = i
    · rw [if_pos e]; symm; simp; omega
    · rw [if_neg e]
      show d.w j = _
      rw [h.w j hj]
      congr 1
      simp only [eq_iff_iff]
      constructor <;> (intro q; omega)
theorem Crashing.crash {K : Nat} {d : Dv} (h : Crashing K K d) (hK : K ≤ 20) : dwrite d (K : Int) bX = (7, { d with dead := true }) ∧ Crashing K (K + 1) { d with dead := true } := by
  have hd : d.dead = false := by rw [h.dead]; simp
  have ha := h.arm (Nat.le_refl _)
  refine ⟨?_, dead_ok h.ok true, h.n, fun hj => by omega, by simp, fun j hj => ?_, fun j hj => ?_⟩
  · unfold dwrite dtry
    have hr : dref d (K : Int) = 0 := by unfold dref; rw [if_neg (by rw [hd]; simp), if_neg (by rw [h.n]; omega)]
    rw [hr, if_neg (by simp), if_neg (by decide), if_pos (by rw [ha]; omega)]
  · show d.s j = _
    rw [h.s j hj]
    by_cases q : j < K
    · rw [if_pos ⟨q, q⟩, if_pos (by omega)]
    · rw [if_neg (by omega), if_neg (by omega)]
  · show d.w j = _
    rw [h.w j hj]
    congr 1
    simp only [eq_iff_iff]
    constructor <;> (intro q; omega)
theorem Crashing.lies {K i : Nat} {d : Dv} (h : Crashing K i d) (hi : K < i) : dwrite d (i : Int) bX = (7, d) ∧ Crashing K (i + 1) d := by
  have hd : d.dead = true := by rw [h.dead]; simpa using hi
  refine ⟨?_, h.ok, h.n, fun hj => by omega, by rw [hd]; simp; omega, fun j hj => ?_, fun j hj => ?_⟩
  · have hr : dref d (i : Int) = 7 := by unfold dref; rw [if_pos hd]
    unfold dwrite
    rw [hr, if_pos (by decide)]
  · rw [h.s j hj]
    by_cases q : j < K
    · rw [if_pos (by omega), if_pos (by omega)]
    · rw [if_neg (by omega), if_neg (by omega)]
  · rw [h.w j hj]
    congr 1
    simp only [eq_iff_iff]
    constructor <;> (intro q; omega)
theorem bX_ne : ¬ (secZ = pad bX) := by
  intro q
  have h1 : secZ.data[0]? = (pad bX).data[0]? := by rw [q]
  exact absurd h1 (by decide +kernel)
end Go.Pin
namespace Go.Proofs.Ytlbnbmojgdoieaa
open Go.RowKit Go.Pin
set_option linter.unusedVariables false
set_option linter.unusedSimpArgs false
set_option maxHeartbeats 3200000 in
theorem deviceCrashes_core (n : Int) (K : Nat) (hn : 0 ≤ n ∧ n ≤ 255) (hK : n % 21 = (K : Int)) (w : World) :
    Calls Try.prog 8 #[.int .u8 n] w fun e w' => e = .returned (.bool true) ∧ Below w.heap.size w w' := by
  obtain ⟨hn0, hn1⟩ := hn
  have hK20 : K ≤ 20 := by omega
  have CS := Aside.mk (Crashing.start K hK20)
  have hb := Below.refl w.heap.size w
  have hse := str_beq
  go_enter Try.func8, Try.ntmps8
  go_wp2_with fail
  with_reducible refine (dev_examples _).mono ?_
  rintro e w1 ⟨rfl, hbb⟩
  replace hb := Below.next hb hbb
  clear hbb
  go_wp2_with fail
  with_reducible refine (dev_new' 30 30 rfl (by omega) (by omega) _).mono ?_
  rintro e w2 ⟨bA, fA, mA, rfl, hbA, hfA, hmA, dA, hbb⟩
  replace hbA := Nat.le_trans hb.size hbA
  replace hfA := Nat.le_trans hb.size hfA
  replace hmA := Nat.le_trans hb.size hmA
  replace hb := Below.next hb hbb
  clear hbb
  clear hK
  go_wp2_with fail
  with_reducible refine (dev_arm bA fA mA _ (K : Int) (by omega) _ dA).mono ?_
  rintro e w3 ⟨rfl, qA, hkk⟩
  replace hb := Below.dev hb hkk hb.size hbA hfA hmA
  clear dA hkk
  have dA := qA
  clear qA
  go_wp2_with fail
  go_loopw [7] (fun i wr => ∃ (k : Nat) (d : Dv), k ≤ 30 ∧ i = .int .i64 k ∧ Crashing K k d ∧ DevAt wr bA fA mA d ∧ Below w.heap.size w wr) (fun i _ => 30 - (intOf i).toNat)
  case atStart => exact ⟨0, _, by omega, rfl, CS.out, dA, hb⟩
  case round =>
    clear dA hb
    obtain ⟨k, d, hk, rfl, hcr, dA, hb⟩ := hrel
    have HC := Aside.mk hcr
    clear hcr
    by_cases hlt : k < 30
    · rcases Nat.lt_trichotomy k K with hkK | hkK | hkK
      · obtain ⟨e1, e2⟩ := HC.out.go hkK hK20
        have hcon := dev_write bA fA mA d k bX (by omega) (by decide) wr dA
        rw [e1] at hcon
        replace hcon : Calls Try.prog 17 #[.pointer (some ⟨bA, 0, none⟩), .int .i64 k, .string ⟨#[120]⟩] wr fun e w' => e = .returned (.int .i64 0) ∧ DevAt w' bA fA mA (dset k bX (dstep d)) ∧ Keep (devS bA fA mA) wr w' := hcon
        have HE := Aside.mk e2
        have hdd : (dset k bX (dstep d)).dead = false := by rw [e2.dead]; simp; omega
        have b1 : decide (k < K) = true := by simpa using hkK
        have b2 : decide (K ≤ k) = false := by simp; omega
        have HDD := Aside.mk hdd
        clear e1 e2 hdd
        go_wp2_with fail
        refine hcon.mono ?_
        rintro e w1 ⟨rfl, qA, hkk⟩
        replace hb := Below.dev hb hkk hb.size hbA hfA hmA
        clear dA hkk hcon
        go_wp2_with fail
        refine (dev_crashed bA fA mA _ _ qA).mono ?_
        rw [HDD.out]
        rintro e w' ⟨rfl, rfl⟩
        go_wp2_with fail
        go_roundw
        case rel => exact ⟨k + 1, _, by omega, by go_num, HE.out, qA, hb⟩
        case measure => simp [intOf]; omega
      · subst hkK
        obtain ⟨e1, e2⟩ := HC.out.crash hK20
        have hcon := dev_write bA fA mA d k bX (by omega) (by decide) wr dA
        rw [e1] at hcon
        replace hcon : Calls Try.prog 17 #[.pointer (some ⟨bA, 0, none⟩), .int .i64 k, .string ⟨#[120]⟩] wr fun e w' => e = .returned (.int .i64 7) ∧ DevAt w' bA fA mA { d with dead := true } ∧ Keep (devS bA fA mA) wr w' := hcon
        have HE := Aside.mk e2
        have b1 : decide (k < k) = false := by simp
        have b2 : decide (k ≤ k) = true := by simp
        clear e1 e2
        go_wp2_with fail
        refine hcon.mono ?_
        rintro e w1 ⟨rfl, qA, hkk⟩
        replace hb := Below.dev hb hkk hb.size hbA hfA hmA
        clear dA hkk hcon
        go_wp2_with fail
        refine (dev_crashed bA fA mA _ _ qA).mono ?_
        rintro e w' ⟨rfl, rfl⟩
        go_wp2_with fail
        go_roundw
        case rel => exact ⟨k + 1, _, by omega, by go_num, HE.out, qA, hb⟩
        case measure => simp [intOf]; omega
      · obtain ⟨e1, e2⟩ := HC.out.lies hkK
        have hcon := dev_write bA fA mA d k bX (by omega) (by decide) wr dA
        rw [e1] at hcon
        replace hcon : Calls Try.prog 17 #[.pointer (some ⟨bA, 0, none⟩), .int .i64 k, .string ⟨#[120]⟩] wr fun e w' => e = .returned (.int .i64 7) ∧ DevAt w' bA fA mA d ∧ Keep (devS bA fA mA) wr w' := hcon
        have HE := Aside.mk e2
        have HDD := Aside.mk (show d.dead = true by rw [HC.out.dead]; simpa using hkK)
        have b1 : decide (k < K) = false := by simp; omega
        have b2 : decide (K ≤ k) = true := by simp; omega
        clear e1 e2
        go_wp2_with fail
        refine hcon.mono ?_
        rintro e w1 ⟨rfl, qA, hkk⟩
        replace hb := Below.dev hb hkk hb.size hbA hfA hmA
        clear dA hkk hcon
        go_wp2_with fail
        refine (dev_crashed bA fA mA _ _ qA).mono ?_
        rw [HDD.out]
        rintro e w' ⟨rfl, rfl⟩
        go_wp2_with fail
        go_roundw
        case rel => exact ⟨k + 1, _, by omega, by go_num, HE.out, qA, hb⟩
        case measure => simp [intOf]; omega
    · obtain rfl : k = 30 := by omega
      have hdd : d.dead = true := by rw [HC.out.dead]; simp; omega
      have HR := Aside.mk (show dref d 0 = 7 by unfold dref; rw [if_pos hdd])
      have HF := Aside.mk (show dflush d = (7, d) by unfold dflush; rw [if_pos hdd])
      have HS := Aside.mk HC.out.s
      have HX := Aside.mk (show ∀ j, j < 30 → (dafter d []).s j = if j < K then pad bX else secZ from fun j hj => by
        rw [dafter_s, dafter_o d [] j (by rw [HC.out.n]; exact hj)]
        unfold aft
        rw [if_neg (by simp), HC.out.s j hj]
        by_cases q : j < K
        · rw [if_pos ⟨by omega, q⟩, if_pos q]
        · rw [if_neg (by omega), if_neg q])
      have HN := Aside.mk (show (dafter d []).n = 30 by rw [dafter_n, HC.out.n])
      clear hdd
      go_wp2_with fail
      with_reducible refine (dev_read' bA fA mA _ 0 (by omega) ⟨#[]⟩ 7 (dread_ref HR.out (by decide)) _ dA).mono ?_
      rintro e w51 ⟨rfl, hbb⟩
      replace dA := dA.below hbb
      replace hb := Below.next hb hbb
      clear hbb
      go_wp2_with fail
      with_reducible refine (dev_after' bA fA mA _ none 0 0 [] rfl _ dA (by decide) (slI_nil _ _)).mono ?_
      rintro e w52 ⟨bX', fX', mX', rfl, hbX, hfX, hmX, dX, hbb⟩
      have apAX := dA.apart hbX hfX hmX
      have apXA := apAX.symm
      replace dA := dA.below hbb
      replace hbX := Nat.le_trans hb.size hbX
      replace hfX := Nat.le_trans hb.size hfX
      replace hmX := Nat.le_trans hb.size hmX
      replace hb := Below.next hb hbb
      clear hbb
      go_wp2_with fail
      have lX := live_after d []
      generalize dafter d [] = DX at *
      go_loopw [12, 13] (fun c i wr => ∃ (j : Nat), j ≤ 30 ∧ i = .int .i64 j ∧ c = .int .i64 ((min j K : Nat) : Int) ∧ DevAt wr bA fA mA d ∧ DevAt wr bX' fX' mX' DX ∧ Below w.heap.size w wr) (fun _ i _ => 30 - (intOf i).toNat)
      case atStart => exact ⟨0, by omega, rfl, by rw [Nat.zero_min]; rfl, dA, dX, hb⟩
      case round =>
        clear dA dX hb
        obtain ⟨j, hj, rfl, rfl, dA, dX, hb⟩ := hrel
        by_cases hlt2 : j < 30
        · by_cases hjK : j < K
          · have hs : DX.s j = pad bX := by rw [HX.out j hlt2, if_pos hjK]
            have hm1 : min j K = j := by omega
            have hm2 : min (j + 1) K = j + 1 := by omega
            have Hs := Aside.mk hs
            have Hm2 := Aside.mk hm2
            rw [hm1]
            clear hs hm1 hm2
            go_wp2_with fail
            refine (dev_read_ok bX' fX' mX' DX j j rfl (by rw [HN.out]; exact hlt2) lX _ dX).mono ?_
            rw [Hs.out]
            rintro e w1 ⟨rfl, hbb⟩
            replace dA := dA.below hbb
            replace dX := dX.below hbb
            replace hb := Below.next hb hbb
            clear hbb
            go_wp2_with fail
            have hwh : Calls Try.prog 24 #[.string ⟨#[120]⟩] w1 fun e w' => e = .returned (.string (pad bX)) ∧ Below w1.heap.size w1 w' := law03_whole bX (by decide) w1
            refine hwh.mono ?_
            rintro e w2 ⟨rfl, hbb⟩
            replace dA := dA.below hbb
            replace dX := dX.below hbb
            replace hb := Below.next hb hbb
            clear hbb hwh
            go_wp2_with fail
            go_roundw
            case rel => exact ⟨j + 1, by omega, by go_num, by rw [Hm2.out]; go_num, dA, dX, hb⟩
            case measure => simp [intOf]; omega
          · have hs : DX.s j = secZ := by rw [HX.out j hlt2, if_neg hjK]
            have hm1 : min j K = K := by omega
            have hm2 : min (j + 1) K = K := by omega
            have Hs := Aside.mk hs
            have Hm2 := Aside.mk hm2
            have hne := bX_ne
            rw [hm1]
            clear hs hm1 hm2
            go_wp2_with fail
            refine (dev_read_ok bX' fX' mX' DX j j rfl (by rw [HN.out]; exact hlt2) lX _ dX).mono ?_
            rw [Hs.out]
            rintro e w1 ⟨rfl, hbb⟩
            replace dA := dA.below hbb
            replace dX := dX.below hbb
            replace hb := Below.next hb hbb
            clear hbb
            have hwh : Calls Try.prog 24 #[.string ⟨#[120]⟩] w1 fun e w' => e = .returned (.string (pad bX)) ∧ Below w1.heap.size w1 w' := law03_whole bX (by decide) w1
            generalize pad bX = PB at *
            generalize secZ = SZ at *
            go_wp2_with fail
            refine hwh.mono ?_
            rintro e w2 ⟨rfl, hbb⟩
            replace dA := dA.below hbb
            replace dX := dX.below hbb
            replace hb := Below.next hb hbb
            clear hbb hwh
            go_wp2_with fail
            go_roundw
            case rel => exact ⟨j + 1, by omega, by go_num, by rw [Hm2.out], dA, dX, hb⟩
            case measure => simp [intOf]; omega
        · obtain rfl : j = 30 := by omega
          have hm : min 30 K = K := by omega
          rw [hm]
          clear hm
          have hcon := dev_flush bA fA mA d wr dA
          rw [HF.out] at hcon
          go_wp2_with fail
          refine hcon.mono ?_
          rintro e w1 ⟨rfl, qA, hkk⟩
          replace hb := Below.dev hb hkk hb.size hbA hfA hmA
          clear hcon
          go_wp2_with fail
          go_ret
          exact ⟨rfl, hb⟩
theorem deviceCrashes_walk (n : Int) (hn : 0 ≤ n ∧ n ≤ 255) (w : World) :
    Calls Try.prog 8 #[.int .u8 n] w fun e w' => e = .returned (.bool true) ∧ Below w.heap.size w w' := by
  obtain ⟨K, hK⟩ : ∃ K : Nat, n % 21 = (K : Int) := Int.eq_ofNat_of_zero_le (by omega)
  exact deviceCrashes_core n K hn hK w
end Go.Proofs.Ytlbnbmojgdoieaa
