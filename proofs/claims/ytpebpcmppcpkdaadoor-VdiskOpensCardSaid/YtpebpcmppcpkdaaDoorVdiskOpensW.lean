/- VdiskOpens: its walk. -/
import Derived.Test.YtpebpcmppcpkdaaDoorVdiskOpensM
import Derived.OpenShut
set_option maxRecDepth 16000
namespace Go.Proofs.YtpebpcmppcpkdaaDoor
open Go.RowKit Go.Pin
set_option linter.unusedVariables false
set_option linter.unusedSimpArgs false
set_option maxHeartbeats 3200000 in
theorem vdiskOpens_walk (a : Int) (ha : 0 ≤ a ∧ a ≤ 255) (w : World) :
    Calls Tryd.prog 7 #[.int .u8 a] w fun e w' => e = .returned (.bool true) ∧ Below w.heap.size w w' := by
  obtain ⟨k, hk, hk1⟩ : ∃ k : Nat, a.tmod 71 = (k : Int) ∧ k ≤ 70 := ⟨(a % 71).toNat, by rw [Int.tmod_eq_emod_of_nonneg ha.1]; omega, by omega⟩
  have hb := Below.refl w.heap.size w
  have hB0 : w.heap.size ≤ w.heap.size := Nat.le_refl _
  generalize hB : w.heap.size = B at hb hB0
  have E0 := Pin.Aside.mk (mk_examples15 w)
  have N0 := Pin.Aside.mk vd_new
  have A0 : Pin.Aside (∀ (c : Nat), 0 < c → c ≤ 70 → ∀ b mb mo W, VdAt W b mb mo (vdOpens (min (c - 1) 64)) → Calls Tryd.prog 12 #[.pointer (some ⟨b, 0, none⟩), .agg #[.int .u64 1, .int .u64 1, .int .i64 4, .int .u64 c, .int .u64 0, .int .u64 0, .int .u64 0, .int .i64 0, .int .i64 0, .string noB, .string noB]] W fun x w' => x = .returned (.agg #[.int .i64 (if c ≤ 64 then 0 else 3), .string noB]) ∧ VdAt w' b mb mo (vdOpens (min c 64)) ∧ Keep (VK b mb mo) W w') := Pin.Aside.mk (fun c h1 h2 b mb mo W hW => by
    have := vd_apply b mb mo _ (enOf 4 c 0 0 0 noB noB) (enOf_ok _ _ _ _ _ _ _ (by decide) (by omega) (by decide) (by decide) (by decide) (by decide) (by decide)) (opens_ok _) W hW
    rw [opens_step c h1] at this
    exact this)
  obtain ⟨D1, D2, p, q, h1, h2, ok1, ok2, hq0, hsome, hlaw⟩ := vd_opens k
  have A1 := Pin.Aside.mk (fun b mb mo W (hW : VdAt W b mb mo (vdOpens (min k 64))) => vd_apply b mb mo (vdOpens (min k 64)) (enOf 3 1 3 0 5 noB noB) (enOf_ok _ _ _ _ _ _ _ (by decide) (by decide) (by decide) (by decide) (by decide) (by decide) (by decide)) (opens_ok _) W hW)
  have A2 := Pin.Aside.mk (fun b mb mo W (hW : VdAt W b mb mo D1) => vd_apply b mb mo D1 (enOf 4 1 0 0 0 noB noB) (enOf_ok _ _ _ _ _ _ _ (by decide) (by decide) (by decide) (by decide) (by decide) (by decide) (by decide)) ok1 W hW)
  rw [h1] at A1
  rw [h2] at A2
  dsimp only [En.cells, Res.val] at A1 A2
  have L0 := Pin.Aside.mk (fun b mb mo W (hW : VdAt W b mb mo D2) => vd_last b mb mo D2 1 W hW)
  unfold Vd.ses at L0
  rw [hsome] at L0
  have B0 := Pin.Aside.mk (fun b mb mo W (hW : VdAt W b mb mo D2) => vd_blocks b mb mo D2 W hW)
  have HL := Pin.Aside.mk (And.intro hq0 hlaw)
  clear h1 h2 ok1 ok2 hq0 hsome hlaw
  generalize (aget D2.opens 1).getD Ses.zero = s2 at *
  go_enter Tryd.func7, Tryd.ntmps7
  go_wp2_with fail
  refine E0.out.mono ?_
  rintro x w1 ⟨rfl, hbb⟩
  replace hb := hb.trans (by rw [← hB]; exact hbb)
  clear hbb
  go_wp2_with fail
  refine (N0.out _).mono ?_
  rintro x w2 ⟨rfl, hV, hbb⟩
  obtain ⟨b, hb1⟩ : ∃ b, w1.heap.size + 2 = b := ⟨_, rfl⟩
  obtain ⟨mb, hmb⟩ : ∃ mb, w1.heap.size = mb := ⟨_, rfl⟩
  obtain ⟨mo, hmo⟩ : ∃ mo, w1.heap.size + 1 = mo := ⟨_, rfl⟩
  have hq1 : B ≤ b := by have := hb.size; omega
  have hq2 : B ≤ mb := by have := hb.size; omega
  have hq3 : B ≤ mo := by have := hb.size; omega
  rw [hb1, hmo] at hV
  rw [hb1]
  have HV := Pin.Aside.mk (show VdAt w2 b mb mo (vdOpens 0) by rw [← hmb]; exact hV)
  replace hb := hb.trans (hbb.mono (by have := hb.size; omega))
  clear hV hbb hb1 hmb hmo N0
  have hb2 := Pin.Aside.mk hb
  clear hb
  go_wp2_with fail
  go_loopw [6] (fun x wr => ∃ c : Nat, 1 ≤ c ∧ c ≤ k + 1 ∧ x = .int .u64 c ∧ Pin.Aside (Keep (VK b mb mo) w2 wr) ∧ Pin.Aside (VdAt wr b mb mo (vdOpens (min (c - 1) 64)))) (fun x _ => 80 - (intOf x).toNat)
  case atStart => exact ⟨1, by omega, by omega, rfl, Pin.Aside.mk (Keep.refl _ _), HV⟩
  case round =>
    clear HV
    obtain ⟨c, hc1, hc2, rfl, HK, HV⟩ := hrel
    by_cases hlt : c ≤ k
    · have hA := Pin.Aside.mk (A0.out c (by omega) (by omega))
      by_cases h64 : c ≤ 64
      · rw [if_pos h64] at hA
        go_wp2_with fail
        refine (hA.out b mb mo _ HV.out).mono ?_
        rintro x w3 ⟨rfl, hV2, hk2⟩
        have hka := (Keep.refl (fun _ => False) w3).alloc (.cells #[.int .i64 0, .string noB] 28)
        have HV2 := Pin.Aside.mk (hV2.keep' hka)
        have HK2 := Pin.Aside.mk ((HK.out.trans hk2).alloc (.cells #[.int .i64 0, .string noB] 28))
        clear hV2 hk2 hka
        go_wp2_with fail
        go_roundw
        case rel => exact ⟨c + 1, by omega, by omega, by go_num, HK2, HV2⟩
        case measure => simp [intOf]; omega
      · rw [if_neg h64] at hA
        go_wp2_with fail
        refine (hA.out b mb mo _ HV.out).mono ?_
        rintro x w3 ⟨rfl, hV2, hk2⟩
        have hka := (Keep.refl (fun _ => False) w3).alloc (.cells #[.int .i64 3, .string noB] 28)
        have HV2 := Pin.Aside.mk (hV2.keep' hka)
        have HK2 := Pin.Aside.mk ((HK.out.trans hk2).alloc (.cells #[.int .i64 3, .string noB] 28))
        clear hV2 hk2 hka
        go_wp2_with fail
        go_roundw
        case rel => exact ⟨c + 1, by omega, by omega, by go_num, HK2, HV2⟩
        case measure => simp [intOf]; omega
    · obtain rfl : c = k + 1 := by omega
      rw [show k + 1 - 1 = k from rfl] at HV
      rename_i wr
      have hb := hb2.out.trans (HK.out.below (B := B) (by have := hb2.out.size; omega) (by rintro k (q | q | q) <;> omega))
      clear hb2 HK
      go_wp2_with fail
      refine (A1.out b mb mo _ HV.out).mono ?_
      rintro x w3 ⟨rfl, hV2, hk2⟩
      have hka := (Keep.refl (fun _ => False) w3).alloc (.cells #[.int .i64 p.e, .string p.data] 28)
      replace HV := Pin.Aside.mk (hV2.keep' hka)
      have RA0 : (w3.alloc (.cells #[.int .i64 p.e, .string p.data] 28)).cell? ⟨w3.heap.size, 0, none⟩ = some (.int .i64 p.e) := by simp
      have RAL := hV2.lt
      replace hb := (hb.trans (hk2.below (B := B) (by have := hb.size; omega) (by rintro k (q | q | q) <;> omega))).trans (hka.below (B := B) (by have := hb.size; have := hk2.size; omega) fun _ q => q.elim)
      clear hk2 hka hV2
      go_upto_region 15 with fail
      generalize World.alloc w3 _ = w4 at *
      generalize w3.heap.size = RA at *
      go_wp2_with fail
      refine (A2.out b mb mo _ HV.out).mono ?_
      rintro x w5 ⟨rfl, hV2, hk2⟩
      have hka := (Keep.refl (fun _ => False) w5).alloc (.cells #[.int .i64 q.e, .string q.data] 28)
      replace HV := Pin.Aside.mk (hV2.keep' hka)
      have RB0 : (w5.alloc (.cells #[.int .i64 q.e, .string q.data] 28)).cell? ⟨w5.heap.size, 0, none⟩ = some (.int .i64 q.e) := by simp
      have RBL := hV2.lt
      replace hb := (hb.trans (hk2.below (B := B) (by have := hb.size; omega) (by rintro k (q | q | q) <;> omega))).trans (hka.below (B := B) (by have := hb.size; have := hk2.size; omega) fun _ q => q.elim)
      replace RA0 := hka.cell (hk2.cell RA0 (by rintro (q | q | q) <;> (dsimp only at q; omega))) id
      clear hk2 hka hV2
      go_upto_region 16 with fail
      generalize World.alloc w5 _ = w6 at *
      generalize w5.heap.size = RB at *
      go_wp2_with fail
      refine (L0.out b mb mo _ HV.out).mono ?_
      rintro x w7 ⟨rfl, hbb⟩
      have hkk : Keep (fun _ => False) w6 w7 := Keep.of_below hbb fun _ q _ => q
      replace HV := Pin.Aside.mk (HV.out.keep' hkk)
      replace RA0 := hkk.cell RA0 id
      replace RB0 := hkk.cell RB0 id
      replace hb := hb.trans (hbb.mono (by have := hb.size; omega))
      clear hbb hkk
      have hka := (Keep.refl (fun _ => False) w7).alloc (.cells #[.int .i64 s2.e, .string s2.data] 28)
      replace HV := Pin.Aside.mk (HV.out.keep' hka)
      replace RA0 := hka.cell RA0 id
      replace RB0 := hka.cell RB0 id
      replace hb := hb.trans (hka.below (B := B) (by have := hb.size; omega) fun _ q => q.elim)
      clear hka
      obtain ⟨hq0, hl⟩ := HL.out
      clear HL
      rw [hq0] at RB0
      rcases hl with ⟨hk0, ha0, hs0, hm0⟩ | ⟨hk0, ha0, hs0, hm0⟩
      · rw [ha0] at RA0
        subst hk0
        rw [hm0] at B0
        rw [hs0]
        go_upto_region 17 with fail
        generalize World.alloc w7 _ = w8 at *
        go_wp2_with fail
        refine (B0.out b mb mo _ HV.out).mono ?_
        rintro x w9 ⟨rfl, rfl⟩
        go_wp2_with fail
        go_ret
        exact ⟨rfl, hb⟩
      · rw [ha0] at RA0
        rw [hm0] at B0
        rw [hs0]
        go_upto_region 17 with fail
        generalize World.alloc w7 _ = w8 at *
        have hk2 : ¬ (k : Int) = 0 := by omega
        go_wp2_with fail
        refine (B0.out b mb mo _ HV.out).mono ?_
        rintro x w9 ⟨rfl, rfl⟩
        go_wp2_with fail
        go_ret
        exact ⟨rfl, hb⟩
end Go.Proofs.YtpebpcmppcpkdaaDoor
