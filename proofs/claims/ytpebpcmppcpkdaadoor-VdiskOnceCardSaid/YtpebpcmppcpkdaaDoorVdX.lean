/- vdisk: write, trim, resize, swap, begin, Last. -/
import Derived.Test.YtpebpcmppcpkdaaDoorVdW
import Derived.Test.YtpebpcmppcpkdaaDoorRegN
set_option maxRecDepth 16000
namespace Go.Proofs.YtpebpcmppcpkdaaDoor
open Go.RowKit Go.Pin
set_option linter.unusedVariables false
set_option linter.unusedSimpArgs false
set_option maxHeartbeats 1600000 in
theorem vd_write (b mb mo : Nat) (D : Vd) (e : En) (ho : e.ok) (hm : 0 ≤ D.many ∧ D.many ≤ 18446744073709551615) (w : World) (h : VdAt w b mb mo D) :
    Calls Tryd.prog 23 #[.pointer (some ⟨b, 0, none⟩), .agg e.cells] w fun x w' => x = .returned (D.write e).2.val ∧ VdAt w' b mb mo (D.write e).1 ∧ Keep (VK b mb mo) w w' := by
  have hse := str_beq
  have hlt := h.lt
  have hk := (Keep.refl (fun _ => False) w).alloc (.cells e.cells 31)
  have hk2 := (Keep.refl (fun _ => False) (w.alloc (.cells e.cells 31))).alloc (.cells #[.int .i64 0, .string ⟨#[]⟩] 28)
  have hE2 := (EnAt.new w 31 e).keep hk2 id
  have hr0 : ((w.alloc (.cells e.cells 31)).alloc (.cells #[.int .i64 0, .string ⟨#[]⟩] 28)).cell? ⟨w.heap.size + 1, 0, none⟩ = some (.int .i64 0) := by simp
  have hr1 : ((w.alloc (.cells e.cells 31)).alloc (.cells #[.int .i64 0, .string ⟨#[]⟩] 28)).cell? ⟨w.heap.size + 1, 1, none⟩ = some (.string ⟨#[]⟩) := by simp
  have hf0 : ∀ j, ((w.alloc (.cells e.cells 31)).alloc (.cells #[.int .i64 0, .string ⟨#[]⟩] 28)).frozen? ⟨w.heap.size + 1, j, none⟩ = false := by intro j; simp
  have HV := Pin.Aside.mk (h.keep' (hk.trans hk2))
  have HK := Pin.Aside.mk ((hk.trans hk2).mono (T := VK b mb mo) fun _ q => q.elim)
  have Hb := Pin.Aside.mk (fun W (hW : VdAt W b mb mo D) => vd_bounds b mb mo D e.block 1 hm ho.block W hW)
  have Hs := Pin.Aside.mk (fun W (hW : VdAt W b mb mo D) => vd_set b mb mo D e.block e.data ho.data W hW)
  obtain ⟨q, hq⟩ : ∃ q, D.bounds e.block 1 = q := ⟨_, rfl⟩
  rw [hq] at Hb
  have HR := Pin.Aside.mk (show D.write e = if q = true then (D.setB e.block e.data, ⟨0, ⟨#[]⟩⟩) else (D, ⟨5, ⟨#[]⟩⟩) by unfold Vd.write; rw [hq])
  clear hq ho
  clear h hk hk2
  obtain ⟨term, index, kind, client, seq, block, many, node, level, data, old⟩ := e
  dsimp only [En.cells] at *
  go_enter Tryd.func23, Tryd.ntmps23
  go_upto_region 1 with fail
  generalize World.alloc (World.alloc _ _) _ = wa at *
  generalize hB : w.heap.size = B at *
  have HF := Pin.Aside.mk hf0
  clear hf0
  obtain ⟨c0, c1, c2, c3, c4, c5, c6, c7, c8, c9, c10⟩ := hE2
  dsimp only at c0 c1 c2 c3 c4 c5 c6 c7 c8 c9 c10
  simp only [Nat.zero_add] at c0 c1 c2 c3 c4 c5 c6 c7 c8 c9 c10
  have hwl : B + 1 < wa.heap.size := World.block_lt_of_cell? _ _ hr0
  go_wp2_with fail
  refine (Hb.out _ HV.out).mono ?_
  rintro x w1 ⟨rfl, rfl⟩
  cases q with
  | false =>
    rw [if_neg (by decide)] at HR
    have hfa := HF.out 0
    have hfb := HF.out 1
    have hks := ((Keep.refl (fun k => k = B + 1) w1).setCell (p := ⟨B + 1, 0, none⟩) (.inl rfl) (.int .i64 5)).setCell (p := ⟨B + 1, 1, none⟩) (.inl rfl) (.string ⟨#[]⟩)
    have HV' := Pin.Aside.mk (HV.out.keep hks (by intro q; omega) (by intro q; omega) (by intro q; omega))
    have HK' := Pin.Aside.mk ((HK.out.setCell (p := ⟨B + 1, 0, none⟩) (.inr (by show w.heap.size ≤ B + 1; omega)) (.int .i64 5)).setCell (p := ⟨B + 1, 1, none⟩) (.inr (by show w.heap.size ≤ B + 1; omega)) (.string ⟨#[]⟩))
    clear hks HV HK HF Hb Hs
    go_wp2_with fail
    refine bodyPost_ret (v := .agg #[.int .i64 5, .string ⟨#[]⟩]) (by simp [results, Tryd.results23, go_sem, *]) rfl ?_
    rw [HR.out]
    exact ⟨rfl, HV'.out, HK'.out⟩
  | true =>
    rw [if_pos rfl] at HR
    go_wp2_with fail
    refine (Hs.out _ HV.out).mono ?_
    rintro x w2 ⟨rfl, hV2, hkk⟩
    replace HV := Pin.Aside.mk hV2
    replace hr0 := hkk.cell hr0 (by rintro (q | q | q) <;> (dsimp only at q; omega))
    replace hr1 := hkk.cell hr1 (by rintro (q | q | q) <;> (dsimp only at q; omega))
    replace HF : Pin.Aside (∀ j, w2.frozen? ⟨B + 1, j, none⟩ = false) := Pin.Aside.mk (fun j => by rw [hkk.frozen (p := ⟨B + 1, j, none⟩) (show B + 1 < w1.heap.size from hwl) (by rintro (q | q | q) <;> (dsimp only at q; omega))]; exact HF.out j)
    replace HK := Pin.Aside.mk (HK.out.trans hkk)
    clear hkk
    clear hV2 c0 c1 c2 c3 c4 c5 c6 c7 c8 c9 c10
    have hfa := HF.out 0
    have hfb := HF.out 1
    have hks := ((Keep.refl (fun k => k = B + 1) w2).setCell (p := ⟨B + 1, 0, none⟩) (.inl rfl) (.int .i64 0)).setCell (p := ⟨B + 1, 1, none⟩) (.inl rfl) (.string ⟨#[]⟩)
    have HV' := Pin.Aside.mk (HV.out.keep hks (by intro q; omega) (by intro q; omega) (by intro q; omega))
    have HK' := Pin.Aside.mk ((HK.out.setCell (p := ⟨B + 1, 0, none⟩) (.inr (by show w.heap.size ≤ B + 1; omega)) (.int .i64 0)).setCell (p := ⟨B + 1, 1, none⟩) (.inr (by show w.heap.size ≤ B + 1; omega)) (.string ⟨#[]⟩))
    clear hks HV HK HF Hb Hs
    go_wp2_with fail
    refine bodyPost_ret (v := .agg #[.int .i64 0, .string ⟨#[]⟩]) (by simp [results, Tryd.results23, go_sem, *]) rfl ?_
    rw [HR.out]
    exact ⟨rfl, HV'.out, HK'.out⟩
set_option maxHeartbeats 3200000 in
theorem vd_swap (b mb mo : Nat) (D : Vd) (e : En) (ho : e.ok) (hm : 0 ≤ D.many ∧ D.many ≤ 18446744073709551615) (hblk : (D.blk e.block).size ≤ 64) (w : World) (h : VdAt w b mb mo D) :
    Calls Tryd.prog 26 #[.pointer (some ⟨b, 0, none⟩), .agg e.cells] w fun x w' => x = .returned (D.swap e).2.val ∧ VdAt w' b mb mo (D.swap e).1 ∧ Keep (VK b mb mo) w w' := by
  have hse := str_beq
  have hlt := h.lt
  have hk := (Keep.refl (fun _ => False) w).alloc (.cells e.cells 31)
  have hk2 := (Keep.refl (fun _ => False) (w.alloc (.cells e.cells 31))).alloc (.cells #[.int .i64 0, .string ⟨#[]⟩] 28)
  have hE2 := (EnAt.new w 31 e).keep hk2 id
  have hr0 : ((w.alloc (.cells e.cells 31)).alloc (.cells #[.int .i64 0, .string ⟨#[]⟩] 28)).cell? ⟨w.heap.size + 1, 0, none⟩ = some (.int .i64 0) := by simp
  have hr1 : ((w.alloc (.cells e.cells 31)).alloc (.cells #[.int .i64 0, .string ⟨#[]⟩] 28)).cell? ⟨w.heap.size + 1, 1, none⟩ = some (.string ⟨#[]⟩) := by simp
  have hf0 : ∀ j, ((w.alloc (.cells e.cells 31)).alloc (.cells #[.int .i64 0, .string ⟨#[]⟩] 28)).frozen? ⟨w.heap.size + 1, j, none⟩ = false := by intro j; simp
  have HV := Pin.Aside.mk (h.keep' (hk.trans hk2))
  have HK := Pin.Aside.mk ((hk.trans hk2).mono (T := VK b mb mo) fun _ q => q.elim)
  have Hb := Pin.Aside.mk (fun W (hW : VdAt W b mb mo D) => vd_bounds b mb mo D e.block 1 hm ho.block W hW)
  have Ha := Pin.Aside.mk (fun W => vd_bare e.old ho.old W)
  have Hw := Pin.Aside.mk (fun W (hW : VdAt W b mb mo D) => vd_write b mb mo D e ho hm W hW)
  have Hh := Pin.Aside.mk (fun W (hW : VdAt W b mb mo D) => vd_whole b mb mo D e.block hblk W hW)
  obtain ⟨q, hq⟩ : ∃ q, D.bounds e.block 1 = q := ⟨_, rfl⟩
  rw [hq] at Hb
  have HR := Pin.Aside.mk (show D.swap e = if q = true ∧ D.blk e.block ≠ bareB e.old then (D, ⟨11, wholeB (D.blk e.block)⟩) else D.write e by unfold Vd.swap; rw [hq])
  obtain ⟨⟨D1, e1, d1⟩, hwr⟩ : ∃ r, D.write e = r := ⟨_, rfl⟩
  rw [hwr] at Hw HR
  have HL := Pin.Aside.mk (fun W (hW : VdAt W b mb mo D) => vd_lookup D b mb mo e.block W hW)
  obtain ⟨bk, hbk⟩ : ∃ bk, D.blk e.block = bk := ⟨_, rfl⟩
  obtain ⟨ba, hba⟩ : ∃ ba, bareB e.old = ba := ⟨_, rfl⟩
  rw [hbk] at HL HR Hh
  rw [hba] at HR Ha
  clear hq hbk hba hwr hblk ho
  clear h hk hk2
  obtain ⟨term, index, kind, client, seq, block, many, node, level, data, old⟩ := e
  dsimp only [En.cells] at *
  go_enter Tryd.func26, Tryd.ntmps26
  go_upto_region 1 with fail
  generalize World.alloc (World.alloc _ _) _ = wa at *
  generalize hB : w.heap.size = B at *
  have HF := Pin.Aside.mk hf0
  clear hf0
  obtain ⟨c0, c1, c2, c3, c4, c5, c6, c7, c8, c9, c10⟩ := hE2
  dsimp only at c0 c1 c2 c3 c4 c5 c6 c7 c8 c9 c10
  simp only [Nat.zero_add] at c0 c1 c2 c3 c4 c5 c6 c7 c8 c9 c10
  have hwl : B + 1 < wa.heap.size := World.block_lt_of_cell? _ _ hr0
  have m1 := HV.out.c1
  have hl : ∀ n, (Instr.lookup 61 (.map (some mb)) (.int .u64 block) false).run Tryd.prog (wa.drewN n) = .ok (.string bk) (wa.drewN n) := fun n => HL.out _ (HV.out.keep' ((Keep.refl _ wa).drewN _))
  cases q with
  | false =>
    have hno : ¬ (false = true ∧ bk ≠ ba) := fun q => by cases q.1
    have HR2 : Pin.Aside (D.swap ⟨term, index, kind, client, seq, block, many, node, level, data, old⟩ = (D1, ⟨e1, d1⟩)) := Pin.Aside.mk (by rw [HR.out, if_neg hno])
    replace HR := HR2
    clear HR2 hno
    go_quiet ((first | (go_at_call 27; exact Calls.quiet_of_same (Hb.out _ (HV.out.keep' ((Keep.refl _ wa).drewN _)))) | (go_at_call 47; exact Calls.quiet_of_same (Ha.out _))))
    go_wp2_with fail
    refine (Hw.out _ (HV.out.keep' ((Keep.refl _ wa).drewN _))).mono ?_
    rintro x w2 ⟨rfl, hV2, hkk2⟩
    have hkk : Keep (VK b mb mo) wa w2 := (((Keep.refl (fun _ => False) wa).drewN _).mono fun _ q => q.elim).trans hkk2
    replace HV := Pin.Aside.mk hV2
    replace hr0 := hkk.cell hr0 (by rintro (q | q | q) <;> (dsimp only at q; omega))
    replace hr1 := hkk.cell hr1 (by rintro (q | q | q) <;> (dsimp only at q; omega))
    replace HF : Pin.Aside (∀ j, w2.frozen? ⟨B + 1, j, none⟩ = false) := Pin.Aside.mk (fun j => by rw [hkk.frozen (p := ⟨B + 1, j, none⟩) (show B + 1 < wa.heap.size from hwl) (by rintro (q | q | q) <;> (dsimp only at q; omega))]; exact HF.out j)
    replace HK := Pin.Aside.mk (HK.out.trans hkk)
    clear hkk
    clear hV2 hkk2 c0 c1 c2 c3 c4 c5 c6 c7 c8 c9 c10 hl Hb Ha Hw Hh
    have hfa := HF.out 0
    have hfb := HF.out 1
    have hks := ((Keep.refl (fun k => k = B + 1) w2).setCell (p := ⟨B + 1, 0, none⟩) (.inl rfl) (.int .i64 e1)).setCell (p := ⟨B + 1, 1, none⟩) (.inl rfl) (.string d1)
    have HV' := Pin.Aside.mk (HV.out.keep hks (by intro q; omega) (by intro q; omega) (by intro q; omega))
    have HK' := Pin.Aside.mk ((HK.out.setCell (p := ⟨B + 1, 0, none⟩) (.inr (by show w.heap.size ≤ B + 1; omega)) (.int .i64 e1)).setCell (p := ⟨B + 1, 1, none⟩) (.inr (by show w.heap.size ≤ B + 1; omega)) (.string d1))
    clear hks HV HK HF
    go_wp2_with fail
    refine bodyPost_ret (v := .agg #[.int .i64 e1, .string d1]) (by simp [results, Tryd.results26, go_sem, *]) rfl ?_
    rw [HR.out]
    exact ⟨rfl, HV'.out, HK'.out⟩
  | true =>
    by_cases hne : bk = ba
    · have hno : ¬ (true = true ∧ bk ≠ ba) := fun q => q.2 hne
      have HR2 : Pin.Aside (D.swap ⟨term, index, kind, client, seq, block, many, node, level, data, old⟩ = (D1, ⟨e1, d1⟩)) := Pin.Aside.mk (by rw [HR.out, if_neg hno])
      replace HR := HR2
      clear HR2 hno
      go_quiet ((first | (go_at_call 27; exact Calls.quiet_of_same (Hb.out _ (HV.out.keep' ((Keep.refl _ wa).drewN _)))) | (go_at_call 47; exact Calls.quiet_of_same (Ha.out _))))
      go_wp2_with fail
      refine (Hw.out _ (HV.out.keep' ((Keep.refl _ wa).drewN _))).mono ?_
      rintro x w2 ⟨rfl, hV2, hkk2⟩
      have hkk : Keep (VK b mb mo) wa w2 := (((Keep.refl (fun _ => False) wa).drewN _).mono fun _ q => q.elim).trans hkk2
      replace HV := Pin.Aside.mk hV2
      replace hr0 := hkk.cell hr0 (by rintro (q | q | q) <;> (dsimp only at q; omega))
      replace hr1 := hkk.cell hr1 (by rintro (q | q | q) <;> (dsimp only at q; omega))
      replace HF : Pin.Aside (∀ j, w2.frozen? ⟨B + 1, j, none⟩ = false) := Pin.Aside.mk (fun j => by rw [hkk.frozen (p := ⟨B + 1, j, none⟩) (show B + 1 < wa.heap.size from hwl) (by rintro (q | q | q) <;> (dsimp only at q; omega))]; exact HF.out j)
      replace HK := Pin.Aside.mk (HK.out.trans hkk)
      clear hkk
      clear hV2 hkk2 c0 c1 c2 c3 c4 c5 c6 c7 c8 c9 c10 hl Hb Ha Hw Hh
      have hfa := HF.out 0
      have hfb := HF.out 1
      have hks := ((Keep.refl (fun k => k = B + 1) w2).setCell (p := ⟨B + 1, 0, none⟩) (.inl rfl) (.int .i64 e1)).setCell (p := ⟨B + 1, 1, none⟩) (.inl rfl) (.string d1)
      have HV' := Pin.Aside.mk (HV.out.keep hks (by intro q; omega) (by intro q; omega) (by intro q; omega))
      have HK' := Pin.Aside.mk ((HK.out.setCell (p := ⟨B + 1, 0, none⟩) (.inr (by show w.heap.size ≤ B + 1; omega)) (.int .i64 e1)).setCell (p := ⟨B + 1, 1, none⟩) (.inr (by show w.heap.size ≤ B + 1; omega)) (.string d1))
      clear hks HV HK HF
      go_wp2_with fail
      refine bodyPost_ret (v := .agg #[.int .i64 e1, .string d1]) (by simp [results, Tryd.results26, go_sem, *]) rfl ?_
      rw [HR.out]
      exact ⟨rfl, HV'.out, HK'.out⟩
    · rw [if_pos ⟨rfl, hne⟩] at HR
      go_quiet ((first | (go_at_call 27; exact Calls.quiet_of_same (Hb.out _ (HV.out.keep' ((Keep.refl _ wa).drewN _)))) | (go_at_call 47; exact Calls.quiet_of_same (Ha.out _))))
      go_wp2_with fail
      refine (Hh.out _ (HV.out.keep' ((Keep.refl _ wa).drewN _))).mono ?_
      rintro x w2 ⟨rfl, hbb⟩
      have hk0 : Keep (fun _ => False) wa w2 := ((Keep.refl (fun _ => False) wa).drewN _).trans (Keep.of_below hbb fun _ q _ => q)
      have hkk : Keep (VK b mb mo) wa w2 := hk0.mono fun _ q => q.elim
      replace HV := Pin.Aside.mk (HV.out.keep' hk0)
      replace hr0 := hkk.cell hr0 (by rintro (q | q | q) <;> (dsimp only at q; omega))
      replace hr1 := hkk.cell hr1 (by rintro (q | q | q) <;> (dsimp only at q; omega))
      replace HF : Pin.Aside (∀ j, w2.frozen? ⟨B + 1, j, none⟩ = false) := Pin.Aside.mk (fun j => by rw [hkk.frozen (p := ⟨B + 1, j, none⟩) (show B + 1 < wa.heap.size from hwl) (by rintro (q | q | q) <;> (dsimp only at q; omega))]; exact HF.out j)
      replace HK := Pin.Aside.mk (HK.out.trans hkk)
      clear hkk
      clear hbb hk0 c0 c1 c2 c3 c4 c5 c6 c7 c8 c9 c10 hl Hb Ha Hw Hh m1
      have hfa := HF.out 0
      have hfb := HF.out 1
      have hks := ((Keep.refl (fun k => k = B + 1) w2).setCell (p := ⟨B + 1, 0, none⟩) (.inl rfl) (.int .i64 11)).setCell (p := ⟨B + 1, 1, none⟩) (.inl rfl) (.string (wholeB bk))
      have HV' := Pin.Aside.mk (HV.out.keep hks (by intro q; omega) (by intro q; omega) (by intro q; omega))
      have HK' := Pin.Aside.mk ((HK.out.setCell (p := ⟨B + 1, 0, none⟩) (.inr (by show w.heap.size ≤ B + 1; omega)) (.int .i64 11)).setCell (p := ⟨B + 1, 1, none⟩) (.inr (by show w.heap.size ≤ B + 1; omega)) (.string (wholeB bk)))
      clear hks HV HK HF
      go_wp2_with fail
      refine bodyPost_ret (v := .agg #[.int .i64 11, .string (wholeB bk)]) (by simp [results, Tryd.results26, go_sem, *]) rfl ?_
      rw [HR.out]
      exact ⟨rfl, HV'.out, HK'.out⟩
theorem Keep.joinR {S T : Nat → Prop} {a b c : World} (h : Keep S a b) (k : Keep T b c) (hT : ∀ i, T i → S i ∨ a.heap.size ≤ i) : Keep S a c :=
  ⟨k.os.trans h.os, k.tape.trans h.tape, k.output.trans h.output, Nat.le_trans h.size k.size, fun i hi hn => (k.block i (Nat.lt_of_lt_of_le hi h.size) (fun q => (hT i q).elim hn fun q => by omega)).trans (h.block i hi hn)⟩
theorem trimTo_zero (D : Vd) (x : Int) : D.trimTo x 0 = D := by
  unfold Vd.trimTo
  have : (D.blocks.filter fun p => !(decide (x ≤ p.1) && decide (p.1 < x + (0 : Nat)))) = D.blocks := by
    rw [List.filter_eq_self]
    intro p _
    by_cases h : x ≤ p.1
    · have : ¬ p.1 < x + ((0 : Nat) : Int) := by simp; omega
      rw [decide_eq_false this]; simp
    · simp [h]
  rw [this]
theorem trimTo_succ (D : Vd) (x : Int) (k : Nat) : adel (D.trimTo x k).blocks (x + k) = (D.trimTo x (k + 1)).blocks := by
  unfold Vd.trimTo adel
  dsimp only
  rw [List.filter_filter]
  apply List.filter_congr
  intro p _
  rw [Bool.eq_iff_iff]
  simp only [Bool.and_eq_true, decide_eq_true_eq, Bool.not_eq_true', Bool.and_eq_false_iff, decide_eq_false_iff_not]
  push_cast
  omega
set_option maxHeartbeats 3200000 in
theorem vd_trim (b mb mo : Nat) (D : Vd) (e : En) (ho : e.ok) (hm : 0 ≤ D.many ∧ D.many ≤ 18446744073709551615) (w : World) (h : VdAt w b mb mo D) :
    Calls Tryd.prog 24 #[.pointer (some ⟨b, 0, none⟩), .agg e.cells] w fun x w' => x = .returned (D.trim e).2.val ∧ VdAt w' b mb mo (D.trim e).1 ∧ Keep (VK b mb mo) w w' := by
  have hse := str_beq
  have hlt := h.lt
  have hk := (Keep.refl (fun _ => False) w).alloc (.cells e.cells 31)
  have hk2 := (Keep.refl (fun _ => False) (w.alloc (.cells e.cells 31))).alloc (.cells #[.int .i64 0, .string ⟨#[]⟩] 28)
  have hE2 := (EnAt.new w 31 e).keep hk2 id
  have hr0 : ((w.alloc (.cells e.cells 31)).alloc (.cells #[.int .i64 0, .string ⟨#[]⟩] 28)).cell? ⟨w.heap.size + 1, 0, none⟩ = some (.int .i64 0) := by simp
  have hr1 : ((w.alloc (.cells e.cells 31)).alloc (.cells #[.int .i64 0, .string ⟨#[]⟩] 28)).cell? ⟨w.heap.size + 1, 1, none⟩ = some (.string ⟨#[]⟩) := by simp
  have hf0 : ∀ j, ((w.alloc (.cells e.cells 31)).alloc (.cells #[.int .i64 0, .string ⟨#[]⟩] 28)).frozen? ⟨w.heap.size + 1, j, none⟩ = false := by intro j; simp
  have HV := Pin.Aside.mk (h.keep' (hk.trans hk2))
  have HK := Pin.Aside.mk ((hk.trans hk2).mono (T := VK b mb mo) fun _ q => q.elim)
  have Hb := Pin.Aside.mk (fun W (hW : VdAt W b mb mo D) => vd_bounds b mb mo D e.block e.many hm ho.block W hW)
  obtain ⟨q, hq⟩ : ∃ q, D.bounds e.block e.many = q := ⟨_, rfl⟩
  have hqq : q = true → e.block + e.many ≤ 18446744073709551615 := fun h => by
    rw [h] at hq
    unfold Vd.bounds at hq
    simp only [Bool.and_eq_true, decide_eq_true_eq] at hq
    omega
  rw [hq] at Hb
  have HR := Pin.Aside.mk (show D.trim e = if q = true then (D.trimTo e.block e.many.toNat, ⟨0, ⟨#[]⟩⟩) else (D, ⟨5, ⟨#[]⟩⟩) by unfold Vd.trim; rw [hq])
  obtain ⟨n, hn⟩ : ∃ n : Nat, e.many = n := ⟨e.many.toNat, by have := ho.many.1; omega⟩
  have hb0 := ho.block.1
  rw [hn] at HR Hb hqq
  rw [Int.toNat_natCast] at HR
  have HN := Pin.Aside.mk hn
  clear hq ho hn
  clear h hk hk2
  obtain ⟨term, index, kind, client, seq, block, many, node, level, data, old⟩ := e
  dsimp only [En.cells] at *
  go_enter Tryd.func24, Tryd.ntmps24
  go_upto_region 1 with fail
  generalize World.alloc (World.alloc _ _) _ = wa at *
  generalize hB : w.heap.size = B at *
  have HF := Pin.Aside.mk hf0
  clear hf0
  obtain ⟨c0, c1, c2, c3, c4, c5, c6, c7, c8, c9, c10⟩ := hE2
  dsimp only at c0 c1 c2 c3 c4 c5 c6 c7 c8 c9 c10
  simp only [Nat.zero_add] at c0 c1 c2 c3 c4 c5 c6 c7 c8 c9 c10
  have hn := HN.out
  clear HN
  try dsimp only at hn
  subst hn
  have hwl : B + 1 < wa.heap.size := World.block_lt_of_cell? _ _ hr0
  go_wp2_with fail
  refine (Hb.out _ HV.out).mono ?_
  rintro x w1 ⟨rfl, rfl⟩
  cases q with
  | false =>
    rw [if_neg (by decide)] at HR
    have hfa := HF.out 0
    have hfb := HF.out 1
    have hks := ((Keep.refl (fun k => k = B + 1) w1).setCell (p := ⟨B + 1, 0, none⟩) (.inl rfl) (.int .i64 5)).setCell (p := ⟨B + 1, 1, none⟩) (.inl rfl) (.string ⟨#[]⟩)
    have HV' := Pin.Aside.mk (HV.out.keep hks (by intro q; omega) (by intro q; omega) (by intro q; omega))
    have HK' := Pin.Aside.mk ((HK.out.setCell (p := ⟨B + 1, 0, none⟩) (.inr (by show w.heap.size ≤ B + 1; omega)) (.int .i64 5)).setCell (p := ⟨B + 1, 1, none⟩) (.inr (by show w.heap.size ≤ B + 1; omega)) (.string ⟨#[]⟩))
    clear hks HV HK HF Hb
    go_wp2_with fail
    refine bodyPost_ret (v := .agg #[.int .i64 5, .string ⟨#[]⟩]) (by simp [results, Tryd.results24, go_sem, *]) rfl ?_
    rw [HR.out]
    exact ⟨rfl, HV'.out, HK'.out⟩
  | true =>
    rw [if_pos rfl] at HR
    have hq2 := hqq rfl
    clear hqq Hb
    have XC := Pin.Aside.mk (And.intro c5 (And.intro c6 (And.intro hr0 hr1)))
    have HF0 := HF
    have HK0 := HK
    clear hr0 hr1 HF HK
    go_wp2_with fail
    clear c0 c1 c2 c3 c4 c5 c6 c7 c8 c9 c10
    go_loopw [16] (fun x wr => ∃ k : Nat, k ≤ n ∧ x = .int .u64 k ∧ Pin.Aside (VdAt wr b mb mo (D.trimTo block k)) ∧ Pin.Aside (Keep (fun j => j = mb) w1 wr)) (fun x _ => n - (intOf x).toNat)
    case atStart => exact ⟨0, by omega, rfl, Pin.Aside.mk (by rw [trimTo_zero]; exact HV.out), Pin.Aside.mk (Keep.refl _ _)⟩
    case round =>
      clear HV
      obtain ⟨k, hk, rfl, HV, HKr⟩ := hrel
      have m1 := HV.out.c1
      obtain ⟨c5, c6, hr0, hr1⟩ := XC.out
      replace c5 := HKr.out.cell c5 (by intro q; dsimp only at q; omega)
      replace c6 := HKr.out.cell c6 (by intro q; dsimp only at q; omega)
      replace hr0 := HKr.out.cell hr0 (by intro q; dsimp only at q; omega)
      replace hr1 := HKr.out.cell hr1 (by intro q; dsimp only at q; omega)
      by_cases hlk : k < n
      · have hkk1 : (k : Int) < (n : Int) := by omega
        have hw : IntKind.u64.wrap (block + k) = block + k := by rw [IntKind.wrap_u64]; omega
        have hw2 : IntKind.u64.wrap ((k : Int) + 1) = (k : Int) + 1 := by rw [IntKind.wrap_u64]; omega
        obtain ⟨w3, hd, hmm, hkd, hz⟩ := run_map_delete (P := Tryd.prog) (t := 61) (HV.out.keep' ((Keep.refl (fun _ => False) wr).drew)).bm Tryd.underlying61 Tryd.underlying25 (block + k) 0
        rw [del_ents, trimTo_succ] at hmm
        have HV3 := Pin.Aside.mk ((HV.out.keep' ((Keep.refl (fun _ => False) wr).drew)).blocks hkd hmm)
        have HK3 := Pin.Aside.mk (HKr.out.drew.trans hkd)
        have hkS : Keep (fun j => j = mb) wr w3 := (Keep.refl _ wr).drew.trans hkd
        go_upto_region 6 with fail
        have nb : ¬ B = mb := by omega
        have nbb : ¬ b = mb := fun q => HV.out.n2 q.symm
        have k0 : ∀ s' : KW (fun j => j = mb) wr, s'.w.cell? ⟨b, 1, none⟩ = some (.map (some mb)) := fun s' => s'.keep.cell m1 nbb
        have k1 : ∀ s' : KW (fun j => j = mb) wr, s'.w.cell? ⟨B, 5, none⟩ = some (.int .u64 block) := fun s' => s'.keep.cell c5 nb
        refine wp_region_stay (S := fun w' => ∃ s' : KW (fun j => j = mb) wr, w' = s'.w) 8 (by kernel_rfl) (by simp) (by kernel_rfl) (by kernel_rfl) ⟨⟨wr.drew, (Keep.refl _ wr).drew⟩, rfl⟩ ?_
        simp only [List.take_succ_cons, List.take_zero]
        refine wpStay_quietS 1 _ _ (by kernel_rfl) ?_
        simp only [List.take_succ_cons, List.take_zero, List.drop_succ_cons, List.drop_zero]
        repeat (go_big_quiet_step (fail))
        refine wpQuiet_nil ?_
        refine wpStay_call (.pointer (some ⟨b, 0, none⟩)) (by rfl) (fun w' hw' => by unfold Oper.quietAt; go_simp) ?_
        go_simp
        refine wpStay_quietS 6 _ _ (by kernel_rfl) ?_
        simp only [List.take_succ_cons, List.take_zero, List.drop_succ_cons, List.drop_zero]
        repeat (go_big_quiet_step (fail))
        refine wpQuiet_nil ?_
        refine wpStay_nil ?_
        clear k0 k1
        refine wpAnyH_one 8 (by kernel_rfl) rfl (fun K' hK' => ?_)
        go_simp
        refine hK'.out _ _ ⟨⟨w3, hkS⟩, rfl⟩ (fun _ => ?_)
        clear hK' K'
        refine wpAnyH_done (by kernel_rfl) (NoPanic.normal ?_) _
        clear hd hmm hkd hkS hz HKr m1 c5 c6 hr0 hr1
        go_wp2_with fail
        go_roundw
        case rel => exact ⟨k + 1, by omega, by go_num, HV3, HK3⟩
        case measure => simp [intOf]; omega
      · have hkn : k = n := by omega
        subst hkn
        have hkk := HKr.out.mono (T := VK b mb mo) fun j q => .inr (.inl q)
        have HF : Pin.Aside (∀ j, wr.frozen? ⟨B + 1, j, none⟩ = false) := Pin.Aside.mk (fun j => by rw [HKr.out.frozen (p := ⟨B + 1, j, none⟩) (show B + 1 < w1.heap.size from hwl) (by intro q; dsimp only at q; omega)]; exact HF0.out j)
        have HK := Pin.Aside.mk (HK0.out.trans hkk)
        clear hkk HKr m1 c5 c6
        have hfa := HF.out 0
        have hfb := HF.out 1
        have hks := ((Keep.refl (fun k => k = B + 1) wr).setCell (p := ⟨B + 1, 0, none⟩) (.inl rfl) (.int .i64 0)).setCell (p := ⟨B + 1, 1, none⟩) (.inl rfl) (.string ⟨#[]⟩)
        have HV' := Pin.Aside.mk (HV.out.keep hks (by intro q; omega) (by intro q; omega) (by intro q; omega))
        have HK' := Pin.Aside.mk ((HK.out.setCell (p := ⟨B + 1, 0, none⟩) (.inr (by show w.heap.size ≤ B + 1; omega)) (.int .i64 0)).setCell (p := ⟨B + 1, 1, none⟩) (.inr (by show w.heap.size ≤ B + 1; omega)) (.string ⟨#[]⟩))
        clear hks HV HK HF
        go_wp2_with fail
        refine bodyPost_ret (v := .agg #[.int .i64 0, .string ⟨#[]⟩]) (by simp [results, Tryd.results24, go_sem, *]) rfl ?_
        rw [HR.out]
        exact ⟨rfl, HV'.out, HK'.out⟩
theorem VdAt.blocksS {S : Nat → Prop} {a w : World} {b mb mo : Nat} {D : Vd} {L : List (Int × ByteArray)} (h : VdAt a b mb mo D) (hk : Keep S a w) (h1 : ¬ S b) (h2 : ¬ S mo) (hm : MapAt w mb .u64 (entsOf .string L)) : VdAt w b mb mo { D with blocks := L } :=
  ⟨hk.cell h.c0 h1, hk.cell h.c1 h1, hk.cell h.c2 h1, fun j => by rw [hk.frozen (p := ⟨b, j, none⟩) (show b < a.heap.size from World.block_lt_of_cell? _ _ h.c0) h1]; exact h.fr j, hm, h.om.keep hk h2, h.n1, h.n2, h.n3⟩
theorem VdAt.setMany {w : World} {b mb mo : Nat} {D : Vd} (h : VdAt w b mb mo D) (M : Int) : VdAt (w.setCell ⟨b, 0, none⟩ (.int .u64 M)) b mb mo { D with many := M } := by
  have hk := (Keep.refl (fun k => k = b) w).setCell (p := ⟨b, 0, none⟩) (.inl rfl) (.int .u64 M)
  exact ⟨World.cell?_setCell_same _ _ _ h.c0, by simp [go_sem, h.c1], by simp [go_sem, h.c2], fun j => by rw [World.frozen?_setCell]; exact h.fr j, h.bm.keep hk h.n2, h.om.keep hk h.n3, h.n1, h.n2, h.n3⟩
/-- The blocks while those from M on are deleted: what is left to be told stays yet. -/
def cutTo (L : List (Int × ByteArray)) (M : Int) (left : List Ent) : List (Int × ByteArray) := L.filter fun p => decide (p.1 < M) || (left.map (·.1)).contains p.1
theorem cutTo_start (L : List (Int × ByteArray)) (M : Int) : cutTo L M (entsOf .string L) = L := by
  unfold cutTo
  rw [List.filter_eq_self]
  intro p hp
  rw [entsOf_keys]
  have : (L.map (·.1)).contains p.1 = true := by rw [List.contains_iff_mem]; exact List.mem_map.2 ⟨p, hp, rfl⟩
  rw [this]; simp
theorem cutTo_end (L : List (Int × ByteArray)) (M : Int) : cutTo L M [] = L.filter fun p => decide (p.1 < M) := by
  unfold cutTo; simp
theorem cut_keys (left : List Ent) (k i : Int) : ((left.filter fun p => decide (p.1 ≠ k)).map (·.1)).contains i = ((left.map (·.1)).contains i && decide (i ≠ k)) := by
  rw [Bool.eq_iff_iff, Bool.and_eq_true, List.contains_iff_mem, List.contains_iff_mem, List.mem_map, List.mem_map, decide_eq_true_eq]
  constructor
  · rintro ⟨p, hp, rfl⟩
    rw [List.mem_filter, decide_eq_true_eq] at hp
    exact ⟨⟨p, hp.1, rfl⟩, hp.2⟩
  · rintro ⟨⟨p, hp, rfl⟩, hk⟩
    exact ⟨p, by rw [List.mem_filter, decide_eq_true_eq]; exact ⟨hp, hk⟩, rfl⟩
theorem cutTo_low (L : List (Int × ByteArray)) (M k : Int) (left : List Ent) (h : k < M) : cutTo L M (left.filter fun p => decide (p.1 ≠ k)) = cutTo L M left := by
  unfold cutTo
  apply List.filter_congr
  intro p _
  rw [cut_keys]
  by_cases q : p.1 = k
  · rw [q, decide_eq_true h]; simp
  · simp [q]
theorem cutTo_high (L : List (Int × ByteArray)) (M k : Int) (left : List Ent) (h : ¬ k < M) : adel (cutTo L M left) k = cutTo L M (left.filter fun p => decide (p.1 ≠ k)) := by
  unfold cutTo adel
  rw [List.filter_filter]
  apply List.filter_congr
  intro p _
  rw [cut_keys]
  by_cases q : p.1 = k
  · rw [q, decide_eq_false h]; simp
  · simp [q]
set_option maxHeartbeats 3200000 in
theorem vd_resize (b mb mo : Nat) (D : Vd) (e : En) (ho : e.ok) (hm : 0 ≤ D.many ∧ D.many ≤ 18446744073709551615) (w : World) (h : VdAt w b mb mo D) :
    Calls Tryd.prog 25 #[.pointer (some ⟨b, 0, none⟩), .agg e.cells] w fun x w' => x = .returned (D.resize e).2.val ∧ VdAt w' b mb mo (D.resize e).1 ∧ Keep (VK b mb mo) w w' := by
  have hse := str_beq
  have hlt := h.lt
  have hk := (Keep.refl (fun _ => False) w).alloc (.cells e.cells 31)
  have hk2 := (Keep.refl (fun _ => False) (w.alloc (.cells e.cells 31))).alloc (.cells #[.int .i64 0, .string ⟨#[]⟩] 28)
  have hE2 := (EnAt.new w 31 e).keep hk2 id
  have hr0 : ((w.alloc (.cells e.cells 31)).alloc (.cells #[.int .i64 0, .string ⟨#[]⟩] 28)).cell? ⟨w.heap.size + 1, 0, none⟩ = some (.int .i64 0) := by simp
  have hr1 : ((w.alloc (.cells e.cells 31)).alloc (.cells #[.int .i64 0, .string ⟨#[]⟩] 28)).cell? ⟨w.heap.size + 1, 1, none⟩ = some (.string ⟨#[]⟩) := by simp
  have hf0 : ∀ j, ((w.alloc (.cells e.cells 31)).alloc (.cells #[.int .i64 0, .string ⟨#[]⟩] 28)).frozen? ⟨w.heap.size + 1, j, none⟩ = false := by intro j; simp
  have HV := Pin.Aside.mk (h.keep' (hk.trans hk2))
  have HK := Pin.Aside.mk ((hk.trans hk2).mono (T := VK b mb mo) fun _ q => q.elim)
  have hb6 := ho.many
  have HR := Pin.Aside.mk (show D.resize e = if 128 < e.many then (D, ⟨5, ⟨#[]⟩⟩) else ({ D with many := e.many, blocks := D.blocks.filter fun p => decide (p.1 < e.many) }, ⟨0, ⟨#[]⟩⟩) from rfl)
  clear ho
  clear h hk hk2
  obtain ⟨term, index, kind, client, seq, block, many, node, level, data, old⟩ := e
  dsimp only [En.cells] at *
  go_enter Tryd.func25, Tryd.ntmps25
  go_upto_region 1 with fail
  generalize World.alloc (World.alloc _ _) _ = wa at *
  generalize hB : w.heap.size = B at *
  have HF := Pin.Aside.mk hf0
  clear hf0
  obtain ⟨c0, c1, c2, c3, c4, c5, c6, c7, c8, c9, c10⟩ := hE2
  dsimp only at c0 c1 c2 c3 c4 c5 c6 c7 c8 c9 c10
  simp only [Nat.zero_add] at c0 c1 c2 c3 c4 c5 c6 c7 c8 c9 c10
  have hwl : B + 1 < wa.heap.size := World.block_lt_of_cell? _ _ hr0
  try dsimp only at HR hb6
  by_cases hM : 128 < many
  · rw [if_pos hM] at HR
    have hfa := HF.out 0
    have hfb := HF.out 1
    have hks := ((Keep.refl (fun k => k = B + 1) wa).setCell (p := ⟨B + 1, 0, none⟩) (.inl rfl) (.int .i64 5)).setCell (p := ⟨B + 1, 1, none⟩) (.inl rfl) (.string ⟨#[]⟩)
    have HV' := Pin.Aside.mk (HV.out.keep hks (by intro q; omega) (by intro q; omega) (by intro q; omega))
    have HK' := Pin.Aside.mk ((HK.out.setCell (p := ⟨B + 1, 0, none⟩) (.inr (by show w.heap.size ≤ B + 1; omega)) (.int .i64 5)).setCell (p := ⟨B + 1, 1, none⟩) (.inr (by show w.heap.size ≤ B + 1; omega)) (.string ⟨#[]⟩))
    clear hks HV HK HF
    go_wp2_with fail
    refine bodyPost_ret (v := .agg #[.int .i64 5, .string ⟨#[]⟩]) (by simp [results, Tryd.results25, go_sem, *]) rfl ?_
    rw [HR.out]
    exact ⟨rfl, HV'.out, HK'.out⟩
  · rw [if_neg hM] at HR
    have m1 := HV.out.c1
    obtain ⟨w1, hr, hR, hkr, hz1⟩ := run_map_range (P := Tryd.prog) HV.out.bm Tryd.underlying61
    have XC := Pin.Aside.mk (And.intro c6 (And.intro hr0 hr1))
    have HKR := Pin.Aside.mk hkr
    have HR0 := Pin.Aside.mk hR
    have HF0 := HF
    have HK0 := HK
    have HV0 := HV
    have hnd := HV.out.bm.nodup
    have HND := Pin.Aside.mk hnd
    clear hkr hR hnd hr0 hr1 HF HK HV c0 c1 c2 c3 c4 c5 c7 c8 c9 c10
    go_wp2_with fail
    clear hr c6 m1
    generalize hRR : wa.heap.size = R at *
    have HRR := Pin.Aside.mk hRR
    clear hRR hz1
    go_loopg [5] D.blocks.length (fun g _ wr => ∃ left : List Ent, g = left.length ∧ Pin.Aside (RangeAt wr R mb .u64 (entsOf .string (cutTo D.blocks many left)) left) ∧ Pin.Aside (Keep (fun k => k = mb ∨ k = R) w1 wr))
    case atStart => exact ⟨entsOf .string D.blocks, by unfold entsOf; rw [List.length_map], Pin.Aside.mk (by rw [cutTo_start]; exact HR0.out), Pin.Aside.mk (Keep.refl _ _)⟩
    case round =>
      obtain ⟨left, hg, HRr, HKr⟩ := hrel
      have hkk : Keep (fun k => k = mb ∨ k = R) wa wr := (HKR.out.mono fun _ q => q.elim).trans HKr.out
      have nR : ∀ k, k ≤ B + 1 → ¬ (k = R) := fun k q => by omega
      obtain ⟨c6, hr0, hr1⟩ := XC.out
      replace c6 := hkk.cell c6 (by rintro (q | q) <;> (dsimp only at q; omega))
      replace hr0 := hkk.cell hr0 (by rintro (q | q) <;> (dsimp only at q; omega))
      replace hr1 := hkk.cell hr1 (by rintro (q | q) <;> (dsimp only at q; omega))
      have m1 := hkk.cell HV0.out.c1 (by rintro (q | q) <;> (have := HV0.out.n2; dsimp only at q; omega))
      rcases run_map_next (P := Tryd.prog) HRr.out 0 with ⟨hl, hrun⟩ | ⟨k, v, w2, hmem, hmemL, hrun, hR2, hlt2, hk2, hz2, hent⟩
      · subst hl
        have HV1 : VdAt wr b mb mo { D with blocks := D.blocks.filter fun p => decide (p.1 < many) } := by
          have := HRr.out.map
          rw [cutTo_end] at this
          exact VdAt.blocksS HV0.out hkk (by rintro (q | q); exact HV0.out.n2 q.symm; omega) (by rintro (q | q); exact HV0.out.n1 q.symm; omega) this
        have HV := Pin.Aside.mk (VdAt.setMany HV1 many)
        have m0 := HV1.c0
        have mf := HV1.fr 0
        have hks := (Keep.refl (VK b mb mo) wr).setCell (p := ⟨b, 0, none⟩) (.inl (.inl rfl)) (.int .u64 many)
        have hkA : Keep (fun k => k = mb ∨ R ≤ k) wa wr := hkk.mono fun k q => q.imp id fun q => by omega
        have HK : Pin.Aside (Keep (VK b mb mo) w (wr.setCell ⟨b, 0, none⟩ (.int .u64 many))) := Pin.Aside.mk ((Keep.joinR HK0.out hkk (by rintro k (q | q); exact .inl (.inr (.inl q)); exact .inr (by rw [q]; omega))).trans hks)
        have HF : Pin.Aside (∀ j, (wr.setCell ⟨b, 0, none⟩ (.int .u64 many)).frozen? ⟨B + 1, j, none⟩ = false) := Pin.Aside.mk (fun j => by
          rw [World.frozen?_setCell, hkk.frozen (p := ⟨B + 1, j, none⟩) (show B + 1 < wa.heap.size by rw [HRR.out]; omega) (by rintro (q | q) <;> (dsimp only at q; omega))]
          exact HF0.out j)
        have g0 : (wr.setCell ⟨b, 0, none⟩ (.int .u64 many)).cell? ⟨B + 1, 0, none⟩ = some (.int .i64 0) := hks.cell hr0 (by rintro (q | q | q) <;> (dsimp only at q; omega))
        have g1 : (wr.setCell ⟨b, 0, none⟩ (.int .u64 many)).cell? ⟨B + 1, 1, none⟩ = some (.string ⟨#[]⟩) := hks.cell hr1 (by rintro (q | q | q) <;> (dsimp only at q; omega))
        clear hr0 hr1 hks hkA HV1 HRr HKr hkk m1 hg
        go_upto_region 9 with fail
        clear m0 mf c6 hrun
        generalize World.setCell wr _ _ = w5 at *
        have hr0 := g0
        have hr1 := g1
        clear g0 g1
        have hfa := HF.out 0
        have hfb := HF.out 1
        have hks := ((Keep.refl (fun k => k = B + 1) w5).setCell (p := ⟨B + 1, 0, none⟩) (.inl rfl) (.int .i64 0)).setCell (p := ⟨B + 1, 1, none⟩) (.inl rfl) (.string ⟨#[]⟩)
        have HV' := Pin.Aside.mk (HV.out.keep hks (by intro q; omega) (by intro q; omega) (by intro q; omega))
        have HK' := Pin.Aside.mk ((HK.out.setCell (p := ⟨B + 1, 0, none⟩) (.inr (by show w.heap.size ≤ B + 1; omega)) (.int .i64 0)).setCell (p := ⟨B + 1, 1, none⟩) (.inr (by show w.heap.size ≤ B + 1; omega)) (.string ⟨#[]⟩))
        clear hks HV HK HF
        go_wp2_with fail
        refine bodyPost_ret (v := .agg #[.int .i64 0, .string ⟨#[]⟩]) (by simp [results, Tryd.results25, go_sem, *]) rfl ?_
        rw [HR.out]
        exact ⟨rfl, HV'.out, HK'.out⟩
      · have hnl : k ∉ (left.filter fun p => decide (p.1 ≠ k)).map (·.1) := by
          intro q
          obtain ⟨p, hp, e⟩ := List.mem_map.1 q
          rw [List.mem_filter, decide_eq_true_eq] at hp
          exact hp.2 e
        have d6 := hk2.cell c6 (by intro q; dsimp only at q; omega)
        have d1 := hk2.cell m1 (by intro q; dsimp only at q; omega)
        clear c6 m1 hr0 hr1
        by_cases hlow : k < many
        · have hR3 := Pin.Aside.mk hR2
          rw [← cutTo_low D.blocks many k left hlow] at hR3
          have HK3 : Pin.Aside (Keep (fun k => k = mb ∨ k = R) w1 w2) := Pin.Aside.mk (HKr.out.trans (hk2.mono fun _ q => .inr q))
          clear hR2 hk2 hkk HKr HRr hmem hmemL
          go_wp2_with fail
          go_roundg (left.filter fun p => decide (p.1 ≠ k)).length
          case rel => exact ⟨_, rfl, hR3, HK3⟩
          case measure => first | exact hlt2 | (rw [hg]; exact hlt2)
        · obtain ⟨w3, hd, hR3, hk3, hz3⟩ := run_range_delete (P := Tryd.prog) (t := 61) hR2 Tryd.underlying61 Tryd.underlying25 k hnl 0
          rw [del_ents, cutTo_high D.blocks many k left hlow] at hR3
          have HR3 := Pin.Aside.mk hR3
          have HK3 : Pin.Aside (Keep (fun k => k = mb ∨ k = R) w1 w3) := Pin.Aside.mk ((HKr.out.trans (hk2.mono fun _ q => .inr q)).trans (hk3.mono fun _ q => .inl q))
          clear hR2 hR3 hk2 hk3 hkk HKr HRr hmem hmemL hz3
          go_wp2_with fail
          go_roundg (left.filter fun p => decide (p.1 ≠ k)).length
          case rel => exact ⟨_, rfl, HR3, HK3⟩
          case measure => first | exact hlt2 | (rw [hg]; exact hlt2)
end Go.Proofs.YtpebpcmppcpkdaaDoor
