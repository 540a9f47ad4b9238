/- SuperTurns: its walk. -/
import Derived.Test.YtpfkpaombiikcaaDoorSuE
import Derived.Test.YtpfkpaombiikcaaDoorRfX
import Derived.Test.YtpfkpaombiikcaaDoorOpens
set_option maxRecDepth 16000
namespace Go.Pin
open Go.RowKit
set_option linter.unusedVariables false
set_option linter.unusedSimpArgs false
/-- Texts that came in: one at each place. -/
theorem str_at {w : World} {a : Option Addr} {len cap : Nat} (h : isSlice [isStr] w (.slice a len cap)) (i : Int) (h0 : 0 ≤ i) (hi : i < (len : Int)) : ∃ b o X, a = some ⟨b, o, none⟩ ∧ w.cell? ⟨b, o + i.toNat, none⟩ = some (.string X) ∧ X.size ≤ 140737488351232 := by
  obtain ⟨a', len', cap', e, hl, hc, hp⟩ := h
  cases e
  obtain ⟨b, o, rfl, hx⟩ := hp (by omega)
  obtain ⟨x, hx1, s, rfl, hs⟩ := hx i.toNat (by omega) 0 isStr rfl
  simp at hx1
  exact ⟨b, o, s, rfl, hx1, hs⟩
theorem slice_len {w : World} {a : Option Addr} {len cap : Nat} {ps : List Pred} (h : isSlice ps w (.slice a len cap)) : len ≤ 9223372036854775807 := by
  obtain ⟨a', len', cap', e, hl, hc, hp⟩ := h
  cases e; omega
theorem cut51 (s : ByteArray) : ∃ m : Nat, (if (51 : Int) < s.size then 51 else (s.size : Int)) = (m : Int) ∧ min (s.size : Int) 51 = (m : Int) ∧ m ≤ 51 ∧ (m : Int) ≤ (s.size : Int) ∧ (s.extract 0 m).size ≤ 51 :=
  ⟨min 51 s.size, by split <;> omega, by omega, by omega, by omega, by rw [ByteArray.size_extract]; omega⟩
theorem below_drewNT {B : Nat} {a w : World} (h : Below B a w) (n : Nat) : Below B a (w.drewN n) := ⟨h.os, h.tape, h.output, h.size, h.block⟩
theorem other5 : (pad ⟨#[111, 116, 104, 101, 114]⟩).extract 0 5 = ⟨#[111, 116, 104, 101, 114]⟩ := by decide +kernel
theorem one3 : (pad ⟨#[111, 110, 101]⟩).extract 0 3 = ⟨#[111, 110, 101]⟩ := by decide +kernel
end Go.Pin
namespace Go.Proofs.YtpfkpaombiikcaaDoor
open Go.RowKit Go.Pin
set_option linter.unusedVariables false
set_option linter.unusedSimpArgs false
set_option maxHeartbeats 4000000 in
theorem superTurns_walk (a : Option Addr) (len cap : Nat) (w : World) (h : isSlice [isStr] w (.slice a len cap)) :
    Calls Tryd.prog 4 #[.slice a len cap] w fun e w' => e = .returned (.bool true) ∧ Below w.heap.size w w' := by
  have hse := str_beq
  have hlen := slice_len h
  have hl2 : (len : Int) ≤ 9223372036854775807 := by omega
  have H := Aside.mk fun i h0 hi => str_at h i h0 hi
  have hb := Below.refl w.heap.size w
  clear h hlen
  go_enter Tryd.func4, Tryd.ntmps4
  go_wp2_with fail
  refine (super_examples _).mono ?_
  rintro e w1 ⟨rfl, hbb⟩
  replace hb := Below.next hb hbb
  clear hbb
  go_wp2_with fail
  with_reducible refine (dev_new' 4 4 rfl (by omega) (by omega) _).mono ?_
  rintro e w4 ⟨bA, fA, mA, rfl, hbA, hfA, hmA, dA, hbb⟩
  replace hbA := Nat.le_trans hb.size hbA
  replace hfA := Nat.le_trans hb.size hfA
  replace hmA := Nat.le_trans hb.size hmA
  replace hb := Below.next hb hbb
  clear hbb
  go_wp2_with fail
  with_reducible refine (dev_write_ok bA fA mA _ 0 0 rfl (by rw [dnew_n]; omega) ⟨#[111, 116, 104, 101, 114]⟩ (by decide) (live_new 4) _ dA).mono ?_
  rintro e w5 ⟨rfl, qA, hkk⟩
  replace hb := Below.dev hb hkk hb.size hbA hfA hmA
  clear dA hkk
  go_wp2_with fail
  with_reducible refine (dev_write_ok bA fA mA _ 3 3 rfl (by rw [dset_n, dnew_n]; omega) ⟨#[111, 110, 101]⟩ (by decide) ((live_new 4).set _ _) _ qA).mono ?_
  rintro e w6 ⟨rfl, dA, hkk⟩
  replace hb := Below.dev hb hkk hb.size hbA hfA hmA
  clear qA hkk
  obtain ⟨D0, hD0⟩ : ∃ D, dset 3 ⟨#[111, 110, 101]⟩ (dset 0 ⟨#[111, 116, 104, 101, 114]⟩ (dnew 4)) = D := ⟨_, rfl⟩
  have hinit : D0.ok ∧ Live D0 ∧ D0.n = 4 ∧ suread D0 ((1 : Nat) : Int) = (⟨#[]⟩, 0, 0, 6) ∧ D0.s 0 = pad ⟨#[111, 116, 104, 101, 114]⟩ ∧ D0.s 3 = pad ⟨#[111, 110, 101]⟩ := by
    have ok0 := dnew_ok 4 (by omega) (by omega)
    have n0 : (dnew 4).n = 4 := dnew_n 4
    have z : ∀ i, (dnew 4).s i = secZ := fun i => getD_rep _ _ _
    have ok1 := dset_ok ok0 (k := 0) (by omega) (s := ⟨#[111, 116, 104, 101, 114]⟩) (by decide)
    have ok2 := dset_ok ok1 (k := 3) (by show 3 < (dnew 4).n; omega) (s := ⟨#[111, 110, 101]⟩) (by decide)
    have hs : ∀ i, D0.s i = if i = 3 then pad ⟨#[111, 110, 101]⟩ else if i = 0 then pad ⟨#[111, 116, 104, 101, 114]⟩ else secZ := fun i => by
      rw [← hD0, dset_s ok1 (by show 3 < (dnew 4).n; omega), dset_s ok0 (by omega), z]
    have hl : Live D0 := by rw [← hD0]; exact ((live_new 4).set _ _).set _ _
    have hn : D0.n = 4 := by rw [← hD0]; exact n0
    refine ⟨by rw [← hD0]; exact ok2, hl, hn, ?_, by rw [hs]; rfl, by rw [hs]; rfl⟩
    rw [suread_live hl (by omega), hs, hs, if_neg (by omega), if_neg (by omega), if_neg (by omega), if_neg (by omega), sget_secZ]
    rfl
  rw [hD0] at dA
  clear hD0
  have Hi := Aside.mk hinit
  clear hinit
  go_wp2_with fail
  go_loopw [6] (fun s wr => ∃ (i : Int) (D : Dv) (r : ByteArray × Int × Int × Int), 0 ≤ i ∧ i ≤ 10 ∧ i ≤ (len : Int) ∧ s = .int .i64 i ∧ DevAt wr bA fA mA D ∧ Below w.heap.size w wr ∧ Pin.Aside (D.ok ∧ Live D ∧ D.n = 4 ∧ suread D ((1 : Nat) : Int) = r ∧ r.2.1 = i ∧ suNext r = (i + 1, i % 2) ∧ D.s 0 = pad ⟨#[111, 116, 104, 101, 114]⟩ ∧ D.s 3 = pad ⟨#[111, 110, 101]⟩)) (fun s _ => 10 - (intOf s).toNat)
  case atStart =>
    exact ⟨0, D0, _, by omega, by omega, by omega, rfl, dA, hb, ⟨Hi.out.1, Hi.out.2.1, Hi.out.2.2.1, Hi.out.2.2.2.1, rfl, rfl, Hi.out.2.2.2.2⟩⟩
  case round =>
    clear hb dA Hi
    obtain ⟨i, D, r, hi0, hi10, hil, rfl, dA, hb, HR⟩ := hrel
    by_cases hlt : i < 10 ∧ i < (len : Int)
    · obtain ⟨hlt, hlt2⟩ := hlt
      obtain ⟨lb, lo, X, rfl, hX, hXz⟩ := H.out i hi0 hlt2
      have cX := hb.cell (World.block_lt_of_cell? _ _ hX) |>.trans hX
      obtain ⟨m, hm1, hm2, hm51, hmX, hXm⟩ := cut51 X
      obtain ⟨S, hS⟩ : ∃ S, X.extract 0 m = S := ⟨_, rfl⟩
      rw [hS] at hXm
      obtain ⟨E, hE1, hE2, hE3, hE4, hE5, hE6⟩ := su_step HR.out.1 HR.out.2.1 (a := 1) (by rw [HR.out.2.2.1]; omega) S hXm r HR.out.2.2.2.1 (by rw [HR.out.2.2.2.2.1]; omega)
      rw [HR.out.2.2.2.2.2.1] at hE5
      have HE1 := Aside.mk hE1
      have HE5 := Aside.mk hE5
      have HE := Aside.mk (show E.ok ∧ Live E ∧ E.n = 4 ∧ suread E ((1 : Nat) : Int) = (S, i + 1, i % 2, 0) ∧ (S, i + 1, i % 2, (0 : Int)).2.1 = i + 1 ∧ suNext (S, i + 1, i % 2, 0) = (i + 1 + 1, (i + 1) % 2) ∧ E.s 0 = pad ⟨#[111, 116, 104, 101, 114]⟩ ∧ E.s 3 = pad ⟨#[111, 110, 101]⟩ from
        ⟨hE2, hE3, by rw [hE4, HR.out.2.2.1], hE5, rfl, by unfold suNext; rw [if_neg (by simp)]; dsimp only; congr 1; omega, by rw [hE6 0 (by omega) (by omega), HR.out.2.2.2.2.2.2.1], by rw [hE6 3 (by omega) (by omega), HR.out.2.2.2.2.2.2.2]⟩)
      have hw3 : IntKind.i64.wrap (i + 1) = i + 1 := by rw [IntKind.wrap_i64]; omega
      clear hX hE1 hE2 hE3 hE4 hE5 hE6 HR
      go_upto_region 10 with fail
      go_quiet (fail)
      go_wp2_with fail
      refine (super_write_to bA fA mA _ 1 1 rfl (by omega) S (by omega) 0 E HE1.out _ (dA.drewN _)).mono ?_
      rintro e w7 ⟨rfl, qA, hkk⟩
      replace hb := Below.dev (below_drewNT hb _) hkk hb.size hbA hfA hmA
      clear dA hkk
      go_wp2_with fail
      refine (super_read_to bA fA mA _ 1 1 rfl (by omega) _ _ _ _ HE5.out _ qA).mono ?_
      rintro e w8 ⟨rfl, hbb⟩
      replace qA := qA.below hbb
      replace hb := Below.next hb hbb
      clear hbb
      go_wp2_with fail
      go_roundw
      case rel =>
        refine ⟨i + 1, E, (S, i + 1, i % 2, 0), by omega, by omega, by omega, rfl, qA, hb, ?_⟩
        obtain ⟨e1, e2, e3, e4, _, e6, e7, e8⟩ := HE.out
        exact Pin.Aside.mk (And.intro e1 (And.intro e2 (And.intro e3 (And.intro e4 (And.intro rfl (And.intro e6 (And.intro e7 e8)))))))
      case measure => simp [intOf]; omega
    · have HX0 := Aside.mk other5
      have HX3 := Aside.mk one3
      have Hr0 := Aside.mk (HR.out.2.1.read (k := 0) (by rw [HR.out.2.2.1]; omega))
      have Hr3 := Aside.mk (HR.out.2.1.read (k := 3) (by rw [HR.out.2.2.1]; omega))
      rw [HR.out.2.2.2.2.2.2.1] at Hr0
      rw [HR.out.2.2.2.2.2.2.2] at Hr3
      obtain ⟨X0, hX0⟩ : ∃ X, pad ⟨#[111, 116, 104, 101, 114]⟩ = X := ⟨_, rfl⟩
      obtain ⟨X3, hX3⟩ : ∃ X, pad ⟨#[111, 110, 101]⟩ = X := ⟨_, rfl⟩
      have hz0 : (5 : Int) ≤ (X0.size : Int) := by rw [← hX0, pad_size _ (by decide)]; omega
      have hz3 : (3 : Int) ≤ (X3.size : Int) := by rw [← hX3, pad_size _ (by decide)]; omega
      rw [hX0] at HX0 Hr0
      rw [hX3] at HX3 Hr3
      have x0 := HX0.out
      have x3 := HX3.out
      have hw1 := Aside.mk (show suwrite D ((3 : Nat) : Int) ⟨#[]⟩ = (5, D) by
        have h4 : dref D (((3 : Nat) : Int) + 1) = 5 := by unfold dref; rw [if_neg (by rw [HR.out.2.1.dead]; simp), if_pos (.inr (by rw [HR.out.2.2.1]; omega))]
        have h3 : dref D ((3 : Nat) : Int) = 0 := HR.out.2.1.ref (by rw [HR.out.2.2.1]; omega)
        have hr : suread D ((3 : Nat) : Int) = (⟨#[]⟩, 0, 0, 5) := by unfold suread; rw [if_neg (by rw [dread_code, h3]; simp), if_pos (by rw [dread_code, h4]; simp), dread_code, h4]
        unfold suwrite; rw [if_neg (by decide), hr, if_pos ⟨by simp, by simp⟩])
      have hw2 := Aside.mk (show suwrite D ((1 : Nat) : Int) (zeros 52) = (3, D) by unfold suwrite; rw [if_pos (by rw [zeros_size]; omega)])
      have hmk : ∀ W : World, (Instr.makeSlice 41 (.int .i64 52) (.int .i64 52)).run Tryd.prog W = .ok (.slice (some ⟨W.heap.size, 0, none⟩) 52 52) (W.alloc (.cells (Array.replicate 52 (.int .u8 0)) 5)) := fun W => make_u8 W 52 (by omega)
      have hcv : ∀ W : World, (convert 41 9 (.slice (some ⟨W.heap.size, 0, none⟩) 52 52)).run Tryd.prog (W.alloc (.cells (Array.replicate 52 (.int .u8 0)) 5)) = .ok (.string (zeros 52)) (W.alloc (.cells (Array.replicate 52 (.int .u8 0)) 5)) := fun W => conv_zeros W 52
      have hz52 : (zeros 52).size ≤ 1152921504606846976 := by rw [zeros_size]; omega
      generalize zeros 52 = Z at *
      generalize Array.replicate 52 (Value.int .u8 0) = Ar at *
      clear hX0 hX3 HX0 HX3 HR
      by_cases hlt2 : i < (len : Int)
      all_goals
        have hlt3 : i < (len : Int) → ¬ i < 10 := fun q r => hlt ⟨r, q⟩
        first | (have hlt4 := hlt3 hlt2) | skip
        go_wp2_with fail
        with_reducible refine (dev_read' bA fA mA _ 0 (by omega) _ _ Hr0.out _ dA).mono ?_
        rintro e w8 ⟨rfl, hbb⟩
        have qA := dA.below hbb
        have hb2 := Below.next hb hbb
        clear hbb
        go_wp2_with fail
        with_reducible refine (dev_read' bA fA mA _ 3 (by omega) _ _ Hr3.out _ qA).mono ?_
        rintro e w9 ⟨rfl, hbb⟩
        replace qA := qA.below hbb
        replace hb2 := Below.next hb2 hbb
        clear hbb
        go_wp2_with fail
        refine (super_write_to bA fA mA _ 3 3 rfl (by omega) ⟨#[]⟩ (by decide) 5 D hw1.out _ qA).mono ?_
        rintro e w10 ⟨rfl, rA, hkk⟩
        have hb3 := Below.dev hb2 hkk hb2.size hbA hfA hmA
        clear qA hkk
        go_wp2_with fail
        have hk10 : Keep (fun _ => False) w10 (w10.alloc (.cells Ar 5)) := (Keep.refl _ _).alloc _
        have hb4 := hb3.alloc hb3.size (.cells Ar 5)
        refine (super_write_to bA fA mA _ 1 1 rfl (by omega) Z hz52 3 D hw2.out _ (rA.keep hk10 ⟨id, id, id⟩)).mono ?_
        rintro e w11 ⟨rfl, qA, hkk⟩
        have hb5 := Below.dev hb4 hkk hb4.size hbA hfA hmA
        clear hkk hk10
        go_wp2_with fail
        go_ret
        exact ⟨rfl, hb5⟩
end Go.Proofs.YtpfkpaombiikcaaDoor
