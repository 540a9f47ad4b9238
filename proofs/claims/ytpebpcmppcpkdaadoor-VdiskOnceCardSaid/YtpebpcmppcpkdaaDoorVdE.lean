/- pintlelaw15: begun, whole, examples. -/
import Derived.Test.YtpebpcmppcpkdaaDoorVdA
set_option maxRecDepth 16000
namespace Go.Pin
open Go.RowKit
set_option linter.unusedVariables false
set_option linter.unusedSimpArgs false
abbrev noB : ByteArray := ⟨#[]⟩
/-- An entry of few fields. -/
abbrev enOf (kind client seq block many : Int) (data old : ByteArray) : En := ⟨1, 1, kind, client, seq, block, many, 0, 0, data, old⟩
abbrev vd0 : Vd := ⟨0, [], []⟩
abbrev vdBegun (n : Int) : Vd := ⟨n, [], [(1, ⟨0, 0, noB⟩), (2, ⟨1, 0, noB⟩)]⟩
theorem vd0_ok : vd0.ok := ⟨⟨by decide, by decide⟩, fun k => Nat.zero_le _, fun c s h => by cases h⟩
theorem enOf_ok (kind client seq block many : Int) (data old : ByteArray) (h1 : 0 ≤ kind ∧ kind ≤ 100) (h2 : 0 ≤ client ∧ client ≤ 18446744073709551615) (h3 : 0 ≤ seq ∧ seq ≤ 18446744073709551615) (h4 : 0 ≤ block ∧ block ≤ 18446744073709551615) (h5 : 0 ≤ many ∧ many ≤ 18446744073709551615) (h6 : data.size ≤ 9223372036854775807) (h7 : old.size ≤ 9223372036854775807) : (enOf kind client seq block many data old).ok :=
  ⟨⟨by dsimp only; decide, by dsimp only; decide⟩, ⟨by dsimp only; decide, by dsimp only; decide⟩, ⟨by dsimp only; omega, by dsimp only; omega⟩, h2, h3, h4, h5, ⟨by dsimp only; decide, by dsimp only; decide⟩, ⟨by dsimp only; decide, by dsimp only; decide⟩, h6, h7⟩
theorem begun_1 : vd0.apply (enOf 4 1 0 0 0 noB noB) = (⟨0, [], [(1, Ses.zero)]⟩, ⟨0, noB⟩) := by rfl
theorem begun_2 : (⟨0, [], [(1, Ses.zero)]⟩ : Vd).apply (enOf 4 2 0 0 0 noB noB) = (⟨0, [], [(1, Ses.zero), (2, Ses.zero)]⟩, ⟨0, noB⟩) := by rfl
theorem resize_right (c q n : Int) (hc : 0 < c) (h : 0 ≤ n ∧ n < 4294967296) : (enOf 3 c q 0 n noB noB).right = true := by
  unfold En.right enFit
  simp [enF, enHas, hc, h.2]
theorem begun_3 (n : Int) (h : 0 ≤ n ∧ n ≤ 128) : (⟨0, [], [(1, Ses.zero), (2, Ses.zero)]⟩ : Vd).apply (enOf 3 2 1 0 n noB noB) = (vdBegun n, ⟨0, noB⟩) := by
  have h1 : ¬ 128 < n := by omega
  unfold Vd.apply
  rw [if_neg (by rw [resize_right 2 1 n (by decide) (by omega)]; decide), if_neg (by dsimp only; decide), if_neg (by dsimp only; decide)]
  simp [aget, aset, Vd.does, Vd.resize, h1, Ses.zero, noB]
abbrev exD1 : Vd := ⟨0, [], [(5, ⟨0, 0, noB⟩)]⟩
abbrev exD2 : Vd := ⟨2, [], [(5, ⟨1, 0, noB⟩)]⟩
abbrev abB : ByteArray := ⟨#[97, 98]⟩
abbrev exD3 : Vd := ⟨2, [(1, abB)], [(5, ⟨2, 0, noB⟩)]⟩
abbrev exE1 : En := ⟨1, 1, 4, 5, 0, 0, 0, 0, 0, noB, noB⟩
abbrev exE2 : En := ⟨1, 2, 3, 5, 1, 0, 2, 0, 0, noB, noB⟩
abbrev exE3 : En := ⟨1, 3, 1, 5, 2, 1, 0, 0, 0, abB, noB⟩
abbrev exE4 : En := ⟨1, 3, 1, 6, 1, 1, 0, 0, 0, abB, noB⟩
theorem ex_1 : vd0.apply exE1 = (exD1, ⟨0, noB⟩) := by rfl
theorem ex_2 : exD1.apply exE2 = (exD2, ⟨0, noB⟩) := by rfl
theorem ex_3 : exD2.apply exE3 = (exD3, ⟨0, noB⟩) := by rfl
theorem ex_4 : exD3.apply exE4 = (exD3, ⟨12, noB⟩) := by rfl
theorem exE_ok (e : En) (h : e = exE1 ∨ e = exE2 ∨ e = exE3 ∨ e = exE4) : e.ok := by
  rcases h with rfl | rfl | rfl | rfl <;> exact ⟨⟨by decide, by decide⟩, ⟨by decide, by decide⟩, ⟨by decide, by decide⟩, ⟨by decide, by decide⟩, ⟨by decide, by decide⟩, ⟨by decide, by decide⟩, ⟨by decide, by decide⟩, ⟨by decide, by decide⟩, ⟨by decide, by decide⟩, by decide, by decide⟩
theorem ex_blk (k : Int) : (exD3.blk k).size ≤ 64 := by
  unfold Vd.blk aget
  by_cases h : (1 : Int) = k
  · subst h; decide
  · simp only [List.find?_cons, h, decide_false, List.find?_nil, Option.map_none, Option.getD_none]
    decide
theorem ex_ok : exD1.ok ∧ exD2.ok ∧ exD3.ok := by
  have h1 := vd0_ok.apply exE1 (exE_ok _ (.inl rfl))
  rw [ex_1] at h1
  have h2 := Vd.ok.apply h1 exE2 (exE_ok _ (.inr (.inl rfl)))
  rw [ex_2] at h2
  have h3 := Vd.ok.apply h2 exE3 (exE_ok _ (.inr (.inr (.inl rfl))))
  rw [ex_3] at h3
  exact ⟨h1, h2, h3⟩
theorem ex_read0 : vd0.bounds 0 1 = false := by rfl
theorem ex_bounds : exD3.bounds 1 1 = true := by rfl
theorem ex_whole : (wholeB abB).size = 64 ∧ (wholeB abB).extract 0 3 = ⟨#[97, 98, 0]⟩ := ⟨by rfl, by rfl⟩
end Go.Pin
namespace Go.Proofs.YtpebpcmppcpkdaaDoor
open Go.RowKit Go.Pin
set_option linter.unusedVariables false
set_option linter.unusedSimpArgs false
theorem res_field (e : Int) (d : ByteArray) : ∀ W : World, (Instr.field 28 (.agg #[.int .i64 e, .string d]) 0).run Tryd.prog W = .ok (.int .i64 e) W := fun _ => by kernel_rfl
set_option maxHeartbeats 1600000 in
theorem mk_begun (n : Int) (hn : 0 ≤ n ∧ n ≤ 128) (w : World) :
    Calls Tryd.prog 11 #[.int .u64 n] w fun x w' => ∃ b mb mo, x = .returned (.pointer (some ⟨b, 0, none⟩)) ∧ VdAt w' b mb mo (vdBegun n) ∧ (w.heap.size ≤ b ∧ w.heap.size ≤ mb ∧ w.heap.size ≤ mo) ∧ Below w.heap.size w w' := by
  have A1 := Pin.Aside.mk (fun b mb mo W (hW : VdAt W b mb mo vd0) => vd_apply b mb mo vd0 (enOf 4 1 0 0 0 noB noB) (enOf_ok _ _ _ _ _ _ _ (by decide) (by decide) (by decide) (by decide) (by decide) (by decide) (by decide)) vd0_ok W hW)
  have ok1 : (⟨0, [], [(1, Ses.zero)]⟩ : Vd).ok := by have := vd0_ok.apply (enOf 4 1 0 0 0 noB noB) (enOf_ok _ _ _ _ _ _ _ (by decide) (by decide) (by decide) (by decide) (by decide) (by decide) (by decide)); rw [begun_1] at this; exact this
  have ok2 : (⟨0, [], [(1, Ses.zero), (2, Ses.zero)]⟩ : Vd).ok := by have := ok1.apply (enOf 4 2 0 0 0 noB noB) (enOf_ok _ _ _ _ _ _ _ (by decide) (by decide) (by decide) (by decide) (by decide) (by decide) (by decide)); rw [begun_2] at this; exact this
  have A2 := Pin.Aside.mk (fun b mb mo W (hW : VdAt W b mb mo ⟨0, [], [(1, Ses.zero)]⟩) => vd_apply b mb mo _ (enOf 4 2 0 0 0 noB noB) (enOf_ok _ _ _ _ _ _ _ (by decide) (by decide) (by decide) (by decide) (by decide) (by decide) (by decide)) ok1 W hW)
  have A3 := Pin.Aside.mk (fun b mb mo W (hW : VdAt W b mb mo ⟨0, [], [(1, Ses.zero), (2, Ses.zero)]⟩) => vd_apply b mb mo _ (enOf 3 2 1 0 n noB noB) (enOf_ok _ _ _ _ _ _ _ (by decide) (by decide) (by decide) (by decide) (by omega) (by decide) (by decide)) ok2 W hW)
  rw [begun_1] at A1
  rw [begun_2] at A2
  rw [begun_3 n hn] at A3
  clear ok1 ok2
  dsimp only [En.cells, Res.val] at A1 A2 A3
  have Hn := Pin.Aside.mk (vd_new w)
  have hfd := res_field 0 noB
  go_enter Tryd.func11, Tryd.ntmps11
  go_wp2_with fail
  refine Hn.out.mono ?_
  rintro x w1 ⟨rfl, hV, hbb⟩
  obtain ⟨b, hb⟩ : ∃ b, w.heap.size + 2 = b := ⟨_, rfl⟩
  obtain ⟨mb, hmb⟩ : ∃ mb, w.heap.size = mb := ⟨_, rfl⟩
  obtain ⟨mo, hmo⟩ : ∃ mo, w.heap.size + 1 = mo := ⟨_, rfl⟩
  rw [hb, hmo] at hV
  rw [hb]
  have HV := Pin.Aside.mk (show VdAt w1 b mb mo vd0 by rw [← hmb]; exact hV)
  have HBB := Pin.Aside.mk hbb
  have HQ := Pin.Aside.mk (show w.heap.size ≤ b ∧ w.heap.size ≤ mb ∧ w.heap.size ≤ mo by omega)
  clear hV hbb hb hmb hmo Hn
  go_wp2_with fail
  go_loopw [4] (fun x wr => Pin.Aside (Keep (VK b mb mo) w1 wr) ∧ ((x = .int .u64 1 ∧ Pin.Aside (VdAt wr b mb mo vd0)) ∨ (x = .int .u64 2 ∧ Pin.Aside (VdAt wr b mb mo ⟨0, [], [(1, Ses.zero)]⟩)) ∨ (x = .int .u64 3 ∧ Pin.Aside (VdAt wr b mb mo ⟨0, [], [(1, Ses.zero), (2, Ses.zero)]⟩)))) (fun x _ => 3 - (intOf x).toNat)
  case atStart => exact ⟨Pin.Aside.mk (Keep.refl _ _), .inl ⟨rfl, HV⟩⟩
  case round =>
    clear HV
    obtain ⟨HK, h | h | h⟩ := hrel
    · obtain ⟨rfl, HV⟩ := h
      go_wp2_with fail
      refine (A1.out b mb mo _ HV.out).mono ?_
      rintro x w2 ⟨rfl, hV2, hk2⟩
      have HV2 := Pin.Aside.mk hV2
      have HK2 := Pin.Aside.mk (HK.out.trans hk2)
      clear hV2 hk2
      go_wp2_with fail
      go_roundw
      case rel => exact ⟨HK2, .inr (.inl ⟨rfl, HV2⟩)⟩
      case measure => simp [intOf]
    · obtain ⟨rfl, HV⟩ := h
      go_wp2_with fail
      refine (A2.out b mb mo _ HV.out).mono ?_
      rintro x w2 ⟨rfl, hV2, hk2⟩
      have HV2 := Pin.Aside.mk hV2
      have HK2 := Pin.Aside.mk (HK.out.trans hk2)
      clear hV2 hk2
      go_wp2_with fail
      go_roundw
      case rel => exact ⟨HK2, .inr (.inr ⟨rfl, HV2⟩)⟩
      case measure => simp [intOf]
    · obtain ⟨rfl, HV⟩ := h
      go_wp2_with fail
      refine (A3.out b mb mo _ HV.out).mono ?_
      rintro x w2 ⟨rfl, hV2, hk2⟩
      have HV2 := Pin.Aside.mk hV2
      have HK2 := Pin.Aside.mk (HK.out.trans hk2)
      clear hV2 hk2
      go_wp2_with fail
      go_ret
      exact ⟨b, mb, mo, rfl, HV2.out, HQ.out, HBB.out.trans (HK2.out.below HBB.out.size (by rintro k (q | q | q) <;> (have := HQ.out; omega)))⟩
set_option maxHeartbeats 3200000 in
theorem mk_examples15 (w : World) :
    Calls Tryd.prog 10 #[] w fun x w' => x = .returned (.bool true) ∧ Below w.heap.size w w' := by
  have Hn := Pin.Aside.mk (vd_new w)
  have A1 := Pin.Aside.mk (fun b mb mo W (hW : VdAt W b mb mo vd0) => vd_apply b mb mo _ exE1 (exE_ok _ (.inl rfl)) vd0_ok W hW)
  have A2 := Pin.Aside.mk (fun b mb mo W (hW : VdAt W b mb mo exD1) => vd_apply b mb mo _ exE2 (exE_ok _ (.inr (.inl rfl))) ex_ok.1 W hW)
  have A3 := Pin.Aside.mk (fun b mb mo W (hW : VdAt W b mb mo exD2) => vd_apply b mb mo _ exE3 (exE_ok _ (.inr (.inr (.inl rfl)))) ex_ok.2.1 W hW)
  have A4 := Pin.Aside.mk (fun b mb mo W (hW : VdAt W b mb mo exD3) => vd_apply b mb mo _ exE4 (exE_ok _ (.inr (.inr (.inr rfl)))) ex_ok.2.2 W hW)
  rw [ex_1] at A1
  rw [ex_2] at A2
  rw [ex_3] at A3
  rw [ex_4] at A4
  dsimp only [En.cells, Res.val] at A1 A2 A3 A4
  have R0 := Pin.Aside.mk (fun b mb mo W (hW : VdAt W b mb mo vd0) => vd_read b mb mo vd0 0 (by decide) (by decide) (Nat.zero_le _) W hW)
  have R1 := Pin.Aside.mk (fun b mb mo W (hW : VdAt W b mb mo exD3) => vd_read b mb mo exD3 1 (by decide) (by decide) (ex_blk 1) W hW)
  have e0 : Vd.read1 vd0 0 = (noB, 5) := by unfold Vd.read1; rw [ex_read0]; rfl
  have e1 : Vd.read1 exD3 1 = (wholeB abB, 0) := by unfold Vd.read1; rw [ex_bounds]; rfl
  rw [e0] at R0
  rw [e1] at R1
  dsimp only at R0 R1
  obtain ⟨hw1, hw2⟩ := ex_whole
  generalize wholeB abB = s at *
  clear e0 e1
  have B1 := Pin.Aside.mk (fun b mb mo W (hW : VdAt W b mb mo exD3) => vd_blocks b mb mo exD3 W hW)
  have HW1 := Pin.Aside.mk hw1
  have HW2 := Pin.Aside.mk hw2
  clear hw1 hw2
  have hb := Below.refl w.heap.size w
  go_enter Tryd.func10, Tryd.ntmps10
  go_wp2_with fail
  refine Hn.out.mono ?_
  rintro x w1 ⟨rfl, hV, hbb⟩
  replace hb := hb.trans hbb
  obtain ⟨b, hbq⟩ : ∃ b, w.heap.size + 2 = b := ⟨_, rfl⟩
  obtain ⟨mb, hmb⟩ : ∃ mb, w.heap.size = mb := ⟨_, rfl⟩
  obtain ⟨mo, hmo⟩ : ∃ mo, w.heap.size + 1 = mo := ⟨_, rfl⟩
  rw [hbq, hmo] at hV
  rw [hbq]
  have HV := Pin.Aside.mk (show VdAt w1 b mb mo vd0 by rw [← hmb]; exact hV)
  have hq1 : w.heap.size ≤ b := by omega
  have hq2 : w.heap.size ≤ mb := by omega
  have hq3 : w.heap.size ≤ mo := by omega
  clear hV hbb hbq hmb hmo Hn
  have hB0 : w.heap.size = w.heap.size := rfl
  generalize hB : w.heap.size = B at hb hq1 hq2 hq3 hB0 ⊢
  clear hB0
  go_wp2_with fail
  refine (R0.out b mb mo _ HV.out).mono ?_
  rintro x w2 ⟨rfl, hbb⟩
  replace HV := Pin.Aside.mk (HV.out.keep' (Keep.of_below hbb fun _ q _ => q))
  replace hb := hb.trans (hbb.mono (by first | exact hb.size | (rw [← hB]; exact hb.size)))
  clear hbb R0
  go_wp2_with fail
  refine (A1.out b mb mo _ HV.out).mono ?_
  rintro x w2' ⟨rfl, hV2, hk2⟩
  have hka := (Keep.refl (fun _ => False) w2').alloc (.cells #[.int .i64 0, .string noB] 28)
  replace HV := Pin.Aside.mk (hV2.keep' hka)
  have RA0 : (w2'.alloc (.cells #[.int .i64 0, .string noB] 28)).cell? ⟨w2'.heap.size, 0, none⟩ = some (.int .i64 0) := by simp
  have RAL := hV2.lt
  replace hb := (hb.trans (hk2.below (B := B) (by first | exact hb.size | (rw [← hB]; exact hb.size)) (by rintro k (q | q | q) <;> omega))).trans (hka.below (B := B) (by have := hb.size; have := hk2.size; omega) fun _ q => q.elim)
  clear hk2 hka hV2
  go_upto_region 6 with fail
  generalize World.alloc w2' _ = w3 at *
  generalize w2'.heap.size = RA at *
  go_wp2_with fail
  refine (A2.out b mb mo _ HV.out).mono ?_
  rintro x w3' ⟨rfl, hV2, hk2⟩
  have hka := (Keep.refl (fun _ => False) w3').alloc (.cells #[.int .i64 0, .string noB] 28)
  replace HV := Pin.Aside.mk (hV2.keep' hka)
  have RB0 : (w3'.alloc (.cells #[.int .i64 0, .string noB] 28)).cell? ⟨w3'.heap.size, 0, none⟩ = some (.int .i64 0) := by simp
  have RBL := hV2.lt
  replace hb := (hb.trans (hk2.below (B := B) (by first | exact hb.size | (rw [← hB]; exact hb.size)) (by rintro k (q | q | q) <;> omega))).trans (hka.below (B := B) (by have := hb.size; have := hk2.size; omega) fun _ q => q.elim)
  replace RA0 := hka.cell (hk2.cell RA0 (by rintro (q | q | q) <;> (dsimp only at q; omega))) id
  clear hk2 hka hV2
  go_upto_region 7 with fail
  generalize World.alloc w3' _ = w4 at *
  generalize w3'.heap.size = RB at *
  go_wp2_with fail
  refine (A3.out b mb mo _ HV.out).mono ?_
  rintro x w4' ⟨rfl, hV2, hk2⟩
  have hka := (Keep.refl (fun _ => False) w4').alloc (.cells #[.int .i64 0, .string noB] 28)
  replace HV := Pin.Aside.mk (hV2.keep' hka)
  have RC0 : (w4'.alloc (.cells #[.int .i64 0, .string noB] 28)).cell? ⟨w4'.heap.size, 0, none⟩ = some (.int .i64 0) := by simp
  have RCL := hV2.lt
  replace hb := (hb.trans (hk2.below (B := B) (by first | exact hb.size | (rw [← hB]; exact hb.size)) (by rintro k (q | q | q) <;> omega))).trans (hka.below (B := B) (by have := hb.size; have := hk2.size; omega) fun _ q => q.elim)
  replace RA0 := hka.cell (hk2.cell RA0 (by rintro (q | q | q) <;> (dsimp only at q; omega))) id
  replace RB0 := hka.cell (hk2.cell RB0 (by rintro (q | q | q) <;> (dsimp only at q; omega))) id
  clear hk2 hka hV2
  go_upto_region 8 with fail
  generalize World.alloc w4' _ = w5 at *
  generalize w4'.heap.size = RC at *
  go_wp2_with fail
  refine (A4.out b mb mo _ HV.out).mono ?_
  rintro x w5' ⟨rfl, hV2, hk2⟩
  have hka := (Keep.refl (fun _ => False) w5').alloc (.cells #[.int .i64 12, .string noB] 28)
  replace HV := Pin.Aside.mk (hV2.keep' hka)
  have RD0 : (w5'.alloc (.cells #[.int .i64 12, .string noB] 28)).cell? ⟨w5'.heap.size, 0, none⟩ = some (.int .i64 12) := by simp
  have RDL := hV2.lt
  replace hb := (hb.trans (hk2.below (B := B) (by first | exact hb.size | (rw [← hB]; exact hb.size)) (by rintro k (q | q | q) <;> omega))).trans (hka.below (B := B) (by have := hb.size; have := hk2.size; omega) fun _ q => q.elim)
  replace RA0 := hka.cell (hk2.cell RA0 (by rintro (q | q | q) <;> (dsimp only at q; omega))) id
  replace RB0 := hka.cell (hk2.cell RB0 (by rintro (q | q | q) <;> (dsimp only at q; omega))) id
  replace RC0 := hka.cell (hk2.cell RC0 (by rintro (q | q | q) <;> (dsimp only at q; omega))) id
  clear hk2 hka hV2
  go_upto_region 9 with fail
  generalize World.alloc w5' _ = w6 at *
  generalize w5'.heap.size = RD at *
  go_wp2_with fail
  refine (R1.out b mb mo _ HV.out).mono ?_
  rintro x w7 ⟨rfl, hbb⟩
  have hkk : Keep (fun _ => False) w6 w7 := Keep.of_below hbb fun _ q _ => q
  replace HV := Pin.Aside.mk (HV.out.keep' hkk)
  replace RA0 := hkk.cell RA0 id
  replace RB0 := hkk.cell RB0 id
  replace RC0 := hkk.cell RC0 id
  replace RD0 := hkk.cell RD0 id
  replace hb := hb.trans (hbb.mono (by first | exact hb.size | (rw [← hB]; exact hb.size)))
  clear hbb hkk R1
  have hw1 := HW1.out
  have hw2 := HW2.out
  have hse := str_beq
  go_wp2_with fail
  refine (B1.out b mb mo _ HV.out).mono ?_
  rintro x w8 ⟨rfl, rfl⟩
  go_wp2_with fail
  go_ret
  exact ⟨rfl, by first | exact hb | (rw [hB]; exact hb)⟩
end Go.Proofs.YtpebpcmppcpkdaaDoor
