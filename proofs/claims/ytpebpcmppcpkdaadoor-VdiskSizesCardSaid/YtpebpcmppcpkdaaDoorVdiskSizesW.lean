/- VdiskSizes: its walk. -/
import Derived.Test.YtpebpcmppcpkdaaDoorVdiskSizesM
import Derived.OpenShut
set_option maxRecDepth 16000
namespace Go.Proofs.YtpebpcmppcpkdaaDoor
open Go.RowKit Go.Pin
set_option linter.unusedVariables false
set_option linter.unusedSimpArgs false
theorem whole_s_ne (x : ByteArray) : wholeB ⟨#[]⟩ ≠ wholeB (⟨#[115]⟩ ++ x) := by
  intro h
  have h2 := congrArg (fun b : ByteArray => b.data.toList) h
  rw [whole_list, whole_list, ByteArray.data_append, Array.toList_append] at h2
  have h3 := congrArg List.head? h2
  simp [List.replicate] at h3
  revert h3
  decide
set_option maxHeartbeats 3200000 in
theorem vdiskSizes_walk (a c k0 : Int) (s : ByteArray) (ha : 0 ≤ a ∧ a ≤ 255) (hc : 0 ≤ c ∧ c ≤ 255) (hk0 : 0 ≤ k0 ∧ k0 ≤ 255) (hs : s.size ≤ 140737488351232) (w : World) :
    Calls Tryd.prog 5 #[.int .u8 a, .int .u8 c, .int .u8 k0, .string s] w fun e w' => e = .returned (.bool true) ∧ Below w.heap.size w w' := by
  obtain ⟨ms, hms, hms1, hms2⟩ : ∃ m : Nat, min (s.size : Int) 63 = (m : Int) ∧ m ≤ 63 ∧ m ≤ s.size := ⟨min s.size 63, by omega, by omega, by omega⟩
  obtain ⟨X, hcX, hzX⟩ : ∃ X, s.extract 0 ms = X ∧ X.size ≤ 63 := ⟨_, rfl, by rw [ByteArray.size_extract]; omega⟩
  obtain ⟨S, hS⟩ : ∃ S, (⟨#[115]⟩ : ByteArray) ++ X = S := ⟨_, rfl⟩
  have hzS : S.size ≤ 64 := by rw [← hS, ByteArray.size_append]; show 1 + X.size ≤ 64; omega
  have hne := whole_s_ne X
  rw [hS] at hne
  obtain ⟨k, hk, hk1⟩ : ∃ k, k0.tmod 128 = k ∧ (0 ≤ k ∧ k < 128) := ⟨_, rfl, by rw [Int.tmod_eq_emod_of_nonneg hk0.1]; omega⟩
  obtain ⟨n, hn, hn1⟩ : ∃ n, a.tmod 130 = n ∧ (0 ≤ n ∧ n < 130) := ⟨_, rfl, by rw [Int.tmod_eq_emod_of_nonneg ha.1]; omega⟩
  obtain ⟨m, hm, hm1⟩ : ∃ m, c.tmod 130 = m ∧ (0 ≤ m ∧ m < 130) := ⟨_, rfl, by rw [Int.tmod_eq_emod_of_nonneg hc.1]; omega⟩
  obtain ⟨D1, D2, D3, r, p, q, h1, h2, h3, ok1, ok2, ok3, hr, hp, hq, hmy, hbl⟩ := vd_sizes k n m S hk1 hn1 hm1 hzS
  have hb := Below.refl w.heap.size w
  have hB0 : w.heap.size ≤ w.heap.size := Nat.le_refl _
  generalize hB : w.heap.size = B at hb hB0
  have E0 := Pin.Aside.mk (mk_examples15 w)
  have G0 := Pin.Aside.mk (mk_begun 128 (by decide))
  have A1 := Pin.Aside.mk (fun b mb mo W (hW : VdAt W b mb mo (vdBegun 128)) => vd_apply b mb mo (vdBegun 128) (enOf 1 1 1 k 0 S noB) (enOf_ok _ _ _ _ _ _ _ (by decide) (by decide) (by decide) (by omega) (by decide) (by omega) (by decide)) (begun_ok 128 (by decide)) W hW)
  have A2 := Pin.Aside.mk (fun b mb mo W (hW : VdAt W b mb mo D1) => vd_apply b mb mo D1 (enOf 3 1 2 0 n noB noB) (enOf_ok _ _ _ _ _ _ _ (by decide) (by decide) (by decide) (by decide) (by omega) (by decide) (by decide)) ok1 W hW)
  have A3 := Pin.Aside.mk (fun b mb mo W (hW : VdAt W b mb mo D2) => vd_apply b mb mo D2 (enOf 3 1 3 0 m noB noB) (enOf_ok _ _ _ _ _ _ _ (by decide) (by decide) (by decide) (by decide) (by omega) (by decide) (by decide)) ok2 W hW)
  rw [h1] at A1
  rw [h2] at A2
  rw [h3] at A3
  dsimp only [En.cells, Res.val] at A1 A2 A3
  have R0 := Pin.Aside.mk (fun b mb mo W (hW : VdAt W b mb mo D3) => vd_read b mb mo D3 k (by have := ok3.many; omega) (by omega) (ok3.blk _) W hW)
  have B0 := Pin.Aside.mk (fun b mb mo W (hW : VdAt W b mb mo D3) => vd_blocks b mb mo D3 W hW)
  have K0 := Pin.Aside.mk (fun W => mk_whole S hzS W)
  have hrd : Vd.read1 D3 k = if k < D3.many then (wholeB (D3.blk k), 0) else (⟨#[]⟩, 5) := by
    unfold Vd.read1
    by_cases h : k < D3.many
    · rw [if_pos h, if_pos ((bounds_one D3 k).2 h)]
    · rw [if_neg h, if_neg (fun q => h ((bounds_one D3 k).1 q))]
  rw [hrd] at R0
  have hwb : wholeB (bareB S) = wholeB S := whole_bare S hzS
  clear h1 h2 h3 ok1 ok2 ok3 hrd
  have HQ := Pin.Aside.mk (And.intro hr (And.intro hp (And.intro hq (And.intro hmy (And.intro hbl (And.intro hwb hne))))))
  clear hr hp hq hmy hbl hwb hne
  have HS := Pin.Aside.mk hS
  have hse := str_beq
  go_enter Tryd.func5, Tryd.ntmps5
  go_wp2_with fail
  refine E0.out.mono ?_
  rintro x w1 ⟨rfl, hbb⟩
  replace hb := hb.trans (by rw [← hB]; exact hbb)
  clear hbb
  go_wp2_with fail
  refine (G0.out _).mono ?_
  rintro x w2 ⟨b, mb, mo, rfl, hV, hq, hbb⟩
  have HV := Pin.Aside.mk hV
  have hq1 : B ≤ b := Nat.le_trans (by have := hb.size; omega) hq.1
  have hq2 : B ≤ mb := Nat.le_trans (by have := hb.size; omega) hq.2.1
  have hq3 : B ≤ mo := Nat.le_trans (by have := hb.size; omega) hq.2.2
  replace hb := hb.trans (hbb.mono (by have := hb.size; omega))
  clear hV hq hbb
  go_wp2_with fail
  refine (A1.out b mb mo _ HV.out).mono ?_
  rintro x w3 ⟨rfl, hV2, hk2⟩
  have hka := (Keep.refl (fun _ => False) w3).alloc (.cells #[.int .i64 r.e, .string r.data] 28)
  replace HV := Pin.Aside.mk (hV2.keep' hka)
  have RA0 : (w3.alloc (.cells #[.int .i64 r.e, .string r.data] 28)).cell? ⟨w3.heap.size, 0, none⟩ = some (.int .i64 r.e) := by simp
  have RAL := hV2.lt
  replace hb := (hb.trans (hk2.below (B := B) (by have := hb.size; omega) (by rintro k (q | q | q) <;> omega))).trans (hka.below (B := B) (by have := hb.size; have := hk2.size; omega) fun _ q => q.elim)
  clear hk2 hka hV2
  go_upto_region 12 with fail
  generalize World.alloc w3 _ = w4 at *
  generalize w3.heap.size = RA at *
  go_wp2_with fail
  refine (A2.out b mb mo _ HV.out).mono ?_
  rintro x w5 ⟨rfl, hV2, hk2⟩
  have hka := (Keep.refl (fun _ => False) w5).alloc (.cells #[.int .i64 p.e, .string p.data] 28)
  replace HV := Pin.Aside.mk (hV2.keep' hka)
  have RB0 : (w5.alloc (.cells #[.int .i64 p.e, .string p.data] 28)).cell? ⟨w5.heap.size, 0, none⟩ = some (.int .i64 p.e) := by simp
  have RBL := hV2.lt
  replace hb := (hb.trans (hk2.below (B := B) (by have := hb.size; omega) (by rintro k (q | q | q) <;> omega))).trans (hka.below (B := B) (by have := hb.size; have := hk2.size; omega) fun _ q => q.elim)
  replace RA0 := hka.cell (hk2.cell RA0 (by rintro (q | q | q) <;> (dsimp only at q; omega))) id
  clear hk2 hka hV2
  go_upto_region 13 with fail
  generalize World.alloc w5 _ = w6 at *
  generalize w5.heap.size = RB at *
  go_wp2_with fail
  refine (A3.out b mb mo _ HV.out).mono ?_
  rintro x w7 ⟨rfl, hV2, hk2⟩
  have hka := (Keep.refl (fun _ => False) w7).alloc (.cells #[.int .i64 q.e, .string q.data] 28)
  replace HV := Pin.Aside.mk (hV2.keep' hka)
  have RC0 : (w7.alloc (.cells #[.int .i64 q.e, .string q.data] 28)).cell? ⟨w7.heap.size, 0, none⟩ = some (.int .i64 q.e) := by simp
  have RCL := hV2.lt
  replace hb := (hb.trans (hk2.below (B := B) (by have := hb.size; omega) (by rintro k (q | q | q) <;> omega))).trans (hka.below (B := B) (by have := hb.size; have := hk2.size; omega) fun _ q => q.elim)
  replace RA0 := hka.cell (hk2.cell RA0 (by rintro (q | q | q) <;> (dsimp only at q; omega))) id
  replace RB0 := hka.cell (hk2.cell RB0 (by rintro (q | q | q) <;> (dsimp only at q; omega))) id
  clear hk2 hka hV2
  go_upto_region 14 with fail
  generalize World.alloc w7 _ = w8 at *
  generalize w7.heap.size = RC at *
  obtain ⟨hr, hp, hq, hmy, hbl, hwb, hne⟩ := HQ.out
  clear HQ
  have hpE : (p.e == 0) = decide (n ≤ 128) := by rw [Bool.eq_iff_iff, beq_iff_eq, decide_eq_true_eq]; exact hp
  have hqE : (q.e == 0) = decide (m ≤ 128) := by rw [Bool.eq_iff_iff, beq_iff_eq, decide_eq_true_eq]; exact hq
  have hrd : ∀ b mb mo W, VdAt W b mb mo D3 → Calls Tryd.prog 14 #[.pointer (some ⟨b, 0, none⟩), .int .u64 k, .int .u64 1] W fun e w' => ∃ G EE, e = .returned (.tuple #[.string G, .int .i64 EE]) ∧ Below W.heap.size W w' ∧ ((k < D3.many ∧ G = wholeB (D3.blk k) ∧ EE = 0) ∨ (¬ k < D3.many ∧ EE = 5)) := fun b mb mo W hW => (R0.out b mb mo W hW).mono (by
    rintro x w' ⟨rfl, hbb⟩
    refine ⟨_, _, rfl, hbb, ?_⟩
    by_cases h : k < D3.many
    · rw [if_pos h]; exact .inl ⟨h, rfl, rfl⟩
    · rw [if_neg h]; exact .inr ⟨h, rfl⟩)
  have RD := Pin.Aside.mk hrd
  clear hrd R0
  rw [hbl] at RD
  rw [hmy] at RD B0
  by_cases gn : n ≤ 128 <;> by_cases gm : m ≤ 128 <;> by_cases gkn : k < n <;> by_cases gkm : k < m
  all_goals have gk128 : k < 128 := hk1.2
  all_goals (
    simp only [gk128, gn, gm, gkn, gkm, if_pos, if_neg, not_false_eq_true, true_implies, false_implies, and_self, and_true, true_and, and_false, false_and, if_true, if_false] at RD B0 hp hq
    go_wp2_with fail
    refine (RD.out b mb mo _ HV.out).mono ?_
    rintro x w9 ⟨G, EE, rfl, hbb, hG⟩)
  all_goals (
    have hkk : Keep (fun _ => False) w8 w9 := Keep.of_below hbb fun _ q _ => q
    replace HV := Pin.Aside.mk (HV.out.keep' hkk)
    replace RA0 := hkk.cell RA0 id
    replace RB0 := hkk.cell RB0 id
    replace RC0 := hkk.cell RC0 id
    replace hb := hb.trans (hbb.mono (by have := hb.size; omega))
    clear hbb hkk)
  all_goals first
    | (exfalso; omega)
    | (simp only [not_true_eq_false, false_and, or_false, false_or] at hG
       first
        | obtain ⟨rfl, rfl⟩ := hG
        | obtain rfl := hG
       try rw [hwb]
       go_wp2_with fail
       refine (B0.out b mb mo _ HV.out).mono ?_
       rintro x w10 ⟨rfl, rfl⟩
       go_wp2_with fail
       first
        | (refine (K0.out _).mono ?_
           rintro x w11 ⟨rfl, hbb⟩
           replace hb := hb.trans (hbb.mono (by have := hb.size; omega))
           go_wp2_with fail
           go_ret
           refine ⟨?_, hb⟩
           simp [hp, hq, hne])
        | (go_ret
           exact ⟨rfl, hb⟩))
end Go.Proofs.YtpebpcmppcpkdaaDoor
