/- vdisk: Apply. -/
import Derived.Test.YtpebpcmppcpkdaaDoorVdY
set_option maxRecDepth 16000
namespace Go.Pin
open Go.RowKit
set_option linter.unusedVariables false
set_option linter.unusedSimpArgs false
/-- What a disk keeps to. -/
structure Vd.ok (D : Vd) : Prop where
  many : 0 ≤ D.many ∧ D.many ≤ 128
  blk : ∀ k, (D.blk k).size ≤ 64
  seq : ∀ c s, aget D.opens c = some s → 0 ≤ s.seq ∧ s.seq ≤ 18446744073709551615
theorem en_fits {e : En} (h : e.right = true) : (enF e.kind).2 = true ∧ enFit (enF e.kind).1 99 (decide (0 < e.client) || decide (0 < e.seq)) (decide (0 < e.client)) = true ∧ enFit (enF e.kind).1 100 (decide (e.data ≠ ⟨#[]⟩)) (decide (e.data.size ≤ 64)) = true := by
  unfold En.right at h
  simp only [Bool.and_eq_true] at h
  exact ⟨h.1.1.1, h.2.1.1.1.1.1.1, h.2.1.2⟩
theorem en_kinds {k : Int} (h : (enF k).2 = true) : 0 ≤ k ∧ k ≤ 11 := by
  by_cases q : 0 ≤ k ∧ k ≤ 11
  · exact q
  · have : enF k = (⟨#[]⟩, false) := by
      unfold enF
      rw [if_neg (by omega), if_neg (by omega), if_neg (by omega), if_neg (by omega), if_neg (by omega), if_neg (by omega), if_neg (by omega), if_neg (by omega)]
    rw [this] at h; cases h
theorem en_right_kind {e : En} (h : e.right = true) (hc : ¬ e.client = 0) (ho : e.ok) : e.kind = 1 ∨ e.kind = 2 ∨ e.kind = 3 ∨ e.kind = 4 ∨ e.kind = 11 := by
  obtain ⟨h1, h2, _⟩ := en_fits h
  have hk := en_kinds h1
  have hcl : 0 < e.client := by have := ho.client.1; omega
  have hc12 : e.kind = 0 ∨ e.kind = 1 ∨ e.kind = 2 ∨ e.kind = 3 ∨ e.kind = 4 ∨ e.kind = 5 ∨ e.kind = 6 ∨ e.kind = 7 ∨ e.kind = 8 ∨ e.kind = 9 ∨ e.kind = 10 ∨ e.kind = 11 := by omega
  rcases hc12 with q | q | q | q | q | q | q | q | q | q | q | q
  · exfalso; rw [q] at h2; simp [enF, enFit, enHas, hcl] at h2
  · exact .inl q
  · exact .inr (.inl q)
  · exact .inr (.inr (.inl q))
  · exact .inr (.inr (.inr (.inl q)))
  · exfalso; rw [q] at h2; simp [enF, enFit, enHas, hcl] at h2
  · exfalso; rw [q] at h2; simp [enF, enFit, enHas, hcl] at h2
  · exfalso; rw [q] at h2; simp [enF, enFit, enHas, hcl] at h2
  · exfalso; rw [q] at h2; simp [enF, enFit, enHas, hcl] at h2
  · exfalso; rw [q] at h2; simp [enF, enFit, enHas, hcl] at h2
  · exfalso; rw [q] at h2; simp [enF, enFit, enHas, hcl] at h2
  · exact .inr (.inr (.inr (.inr q)))
theorem en_right_data {e : En} (h : e.right = true) (hk : e.kind = 1 ∨ e.kind = 11) : e.data.size ≤ 64 := by
  obtain ⟨_, _, h2⟩ := en_fits h
  rcases hk with q | q <;> (rw [q] at h2; simpa [enF, enFit, enHas] using h2)
theorem Vd.ok.setB {D : Vd} (h : D.ok) (k : Int) (s : ByteArray) (hs : s.size ≤ 64) : (D.setB k s).ok := by
  unfold Vd.setB
  split
  · refine ⟨h.many, fun j => ?_, h.seq⟩
    have := h.blk j
    unfold Vd.blk at *
    dsimp only
    rw [aget_del]
    split
    · exact Nat.zero_le _
    · exact this
  · refine ⟨h.many, fun j => ?_, h.seq⟩
    have := h.blk j
    unfold Vd.blk at *
    dsimp only
    rw [aget_set]
    split
    · exact Nat.le_trans (bareB_size s) hs
    · exact this
theorem Vd.ok.filter {D : Vd} (h : D.ok) (q : Int → Bool) : ({ D with blocks := D.blocks.filter fun p => q p.1 } : Vd).ok := by
  refine ⟨h.many, fun j => ?_, h.seq⟩
  have := h.blk j
  unfold Vd.blk at *
  dsimp only
  rw [aget_filter D.blocks q j]
  split
  · exact this
  · exact Nat.zero_le _
theorem Vd.ok.write {D : Vd} (h : D.ok) (e : En) (hs : e.data.size ≤ 64) : (D.write e).1.ok := by
  unfold Vd.write
  split
  · exact h.setB _ _ hs
  · exact h
theorem Vd.ok.does {D : Vd} (h : D.ok) (e : En) (hr : e.right = true) (hc : ¬ e.client = 0) (h4 : ¬ e.kind = 4) (ho : e.ok) : (D.does e).1.ok := by
  unfold Vd.does
  rcases en_right_kind hr hc ho with q | q | q | q | q
  · rw [if_pos q]; exact h.write e (en_right_data hr (.inl q))
  · rw [if_neg (by omega), if_pos q]
    unfold Vd.trim
    split
    · exact h.filter fun i => !(decide (e.block ≤ i) && decide (i < e.block + e.many.toNat))
    · exact h
  · rw [if_neg (by omega), if_neg (by omega), if_pos q]
    unfold Vd.resize
    split
    · exact h
    · have h2 := h.filter fun i => decide (i < e.many)
      refine ⟨⟨ho.many.1, ?_⟩, h2.blk, h2.seq⟩
      dsimp only; omega
  · exact absurd q h4
  · rw [if_neg (by omega), if_neg (by omega), if_neg (by omega)]
    unfold Vd.swap
    split
    · exact h
    · exact h.write e (en_right_data hr (.inr q))
theorem Vd.ok.opens {D : Vd} (h : D.ok) (c : Int) (s : Ses) (hs : 0 ≤ s.seq ∧ s.seq ≤ 18446744073709551615) : ({ D with opens := aset D.opens c s } : Vd).ok := by
  refine ⟨h.many, h.blk, fun j t ht => ?_⟩
  dsimp only at ht
  rw [aget_set] at ht
  split at ht
  · cases ht; exact hs
  · exact h.seq j t ht
theorem Vd.ok.apply {D : Vd} (h : D.ok) (e : En) (ho : e.ok) : (D.apply e).1.ok := by
  unfold Vd.apply
  split
  · exact h
  · rename_i hr
    split
    · exact h
    · rename_i hc
      split
      · unfold Vd.begin
        split
        · exact h
        · split
          · exact h
          · exact h.opens _ _ ⟨by decide, by decide⟩
      · rename_i h4
        split
        · exact h
        · split
          · exact h
          · split
            · exact (h.does e (by simpa using hr) hc h4 ho).opens _ _ ⟨ho.seq.1, ho.seq.2⟩
            · exact h
end Go.Pin
namespace Go.Proofs.YtpebpcmppcpkdaaDoor
open Go.RowKit Go.Pin
set_option linter.unusedVariables false
set_option linter.unusedSimpArgs false
set_option maxHeartbeats 1600000 in
theorem vd_apply_a (b mb mo : Nat) (D : Vd) (e : En) (ho : e.ok) (hd : D.ok) (h1 : e.right = false) (w : World) (h : VdAt w b mb mo D) :
    Calls Tryd.prog 12 #[.pointer (some ⟨b, 0, none⟩), .agg e.cells] w fun x w' => x = .returned (D.apply e).2.val ∧ VdAt w' b mb mo (D.apply e).1 ∧ Keep (VK b mb mo) w w' := by
  have hse := str_beq
  have hlt := h.lt
  have hk := (Keep.refl (fun _ => False) w).alloc (.cells e.cells 31)
  have hk2 := (Keep.refl (fun _ => False) (w.alloc (.cells e.cells 31))).alloc (.cells #[.int .i64 0, .string ⟨#[]⟩] 28)
  have hE2 := (EnAt.new w 31 e).keep hk2 id
  have hr0 : ((w.alloc (.cells e.cells 31)).alloc (.cells #[.int .i64 0, .string ⟨#[]⟩] 28)).cell? ⟨w.heap.size + 1, 0, none⟩ = some (.int .i64 0) := by simp
  have hr1 : ((w.alloc (.cells e.cells 31)).alloc (.cells #[.int .i64 0, .string ⟨#[]⟩] 28)).cell? ⟨w.heap.size + 1, 1, none⟩ = some (.string ⟨#[]⟩) := by simp
  have hf0 : ∀ j, ((w.alloc (.cells e.cells 31)).alloc (.cells #[.int .i64 0, .string ⟨#[]⟩] 28)).frozen? ⟨w.heap.size + 1, j, none⟩ = false := by intro j; simp
  have HV := Pin.Aside.mk (h.keep' (hk.trans hk2))
  have HK := Pin.Aside.mk ((hk.trans hk2).mono (T := VK b mb mo) fun _ q => q.elim)
  have Hr := Pin.Aside.mk (fun W => en_right e ho W)
  have hdm : 0 ≤ D.many ∧ D.many ≤ 18446744073709551615 := ⟨hd.many.1, by have := hd.many.2; omega⟩
  have HR := Pin.Aside.mk (show D.apply e = (D, ⟨1, ⟨#[]⟩⟩) by unfold Vd.apply; rw [if_pos h1])
  rw [h1] at Hr
  clear h1
  have HD := Pin.Aside.mk hd
  clear ho hd
  clear h hk hk2
  obtain ⟨term, index, kind, client, seq, block, many, node, level, data, old⟩ := e
  dsimp only [En.cells] at *
  go_enter Tryd.func12, Tryd.ntmps12
  go_upto_region 1 with fail
  generalize World.alloc (World.alloc _ _) _ = wa at *
  generalize hB : w.heap.size = B at *
  have HF := Pin.Aside.mk hf0
  clear hf0
  obtain ⟨c0, c1, c2, c3, c4, c5, c6, c7, c8, c9, c10⟩ := hE2
  dsimp only at c0 c1 c2 c3 c4 c5 c6 c7 c8 c9 c10
  simp only [Nat.zero_add] at c0 c1 c2 c3 c4 c5 c6 c7 c8 c9 c10
  have hwl : B + 1 < wa.heap.size := World.block_lt_of_cell? _ _ hr0
  go_wp2_with fail
  refine (Hr.out _).mono ?_
  rintro x w1 ⟨rfl, hbb⟩
  have hkk : Keep (fun _ => False) wa w1 := Keep.of_below hbb fun _ q _ => q
  replace hr0 := hkk.cell hr0 id
  replace hr1 := hkk.cell hr1 id
  replace c0 := hkk.cell c0 id
  replace c1 := hkk.cell c1 id
  replace c2 := hkk.cell c2 id
  replace c3 := hkk.cell c3 id
  replace c4 := hkk.cell c4 id
  replace c5 := hkk.cell c5 id
  replace c6 := hkk.cell c6 id
  replace c7 := hkk.cell c7 id
  replace c8 := hkk.cell c8 id
  replace c9 := hkk.cell c9 id
  replace c10 := hkk.cell c10 id
  replace HF : Pin.Aside (∀ j, w1.frozen? ⟨B + 1, j, none⟩ = false) := Pin.Aside.mk (fun j => by rw [hkk.frozen (p := ⟨B + 1, j, none⟩) (show B + 1 < wa.heap.size from hwl) id]; exact HF.out j)
  replace HK := Pin.Aside.mk (HK.out.trans (hkk.mono fun _ q => q.elim))
  replace HV := Pin.Aside.mk (HV.out.keep' hkk)
  replace hwl : B + 1 < w1.heap.size := Nat.lt_of_lt_of_le hwl hkk.size
  clear hkk
  clear hbb Hr
  have hfa := HF.out 0
  have hfb := HF.out 1
  have hks := ((Keep.refl (fun k => k = B + 1) w1).setCell (p := ⟨B + 1, 0, none⟩) (.inl rfl) (.int .i64 1)).setCell (p := ⟨B + 1, 1, none⟩) (.inl rfl) (.string ⟨#[]⟩)
  have HV' := Pin.Aside.mk (HV.out.keep hks (by intro q; omega) (by intro q; omega) (by intro q; omega))
  have HK' := Pin.Aside.mk ((HK.out.setCell (p := ⟨B + 1, 0, none⟩) (.inr (by show w.heap.size ≤ B + 1; omega)) (.int .i64 1)).setCell (p := ⟨B + 1, 1, none⟩) (.inr (by show w.heap.size ≤ B + 1; omega)) (.string ⟨#[]⟩))
  clear hks HV HK HF
  go_wp2_with fail
  refine bodyPost_ret (v := .agg #[.int .i64 1, .string ⟨#[]⟩]) (by simp [results, Tryd.results12, go_sem, *]) rfl ?_
  rw [HR.out]
  exact ⟨rfl, HV'.out, HK'.out⟩
set_option maxHeartbeats 1600000 in
theorem vd_apply_b (b mb mo : Nat) (D : Vd) (e : En) (ho : e.ok) (hd : D.ok) (h1 : e.right = true) (h2 : e.client = 0) (w : World) (h : VdAt w b mb mo D) :
    Calls Tryd.prog 12 #[.pointer (some ⟨b, 0, none⟩), .agg e.cells] w fun x w' => x = .returned (D.apply e).2.val ∧ VdAt w' b mb mo (D.apply e).1 ∧ Keep (VK b mb mo) w w' := by
  have hse := str_beq
  have hlt := h.lt
  have hk := (Keep.refl (fun _ => False) w).alloc (.cells e.cells 31)
  have hk2 := (Keep.refl (fun _ => False) (w.alloc (.cells e.cells 31))).alloc (.cells #[.int .i64 0, .string ⟨#[]⟩] 28)
  have hE2 := (EnAt.new w 31 e).keep hk2 id
  have hr0 : ((w.alloc (.cells e.cells 31)).alloc (.cells #[.int .i64 0, .string ⟨#[]⟩] 28)).cell? ⟨w.heap.size + 1, 0, none⟩ = some (.int .i64 0) := by simp
  have hr1 : ((w.alloc (.cells e.cells 31)).alloc (.cells #[.int .i64 0, .string ⟨#[]⟩] 28)).cell? ⟨w.heap.size + 1, 1, none⟩ = some (.string ⟨#[]⟩) := by simp
  have hf0 : ∀ j, ((w.alloc (.cells e.cells 31)).alloc (.cells #[.int .i64 0, .string ⟨#[]⟩] 28)).frozen? ⟨w.heap.size + 1, j, none⟩ = false := by intro j; simp
  have HV := Pin.Aside.mk (h.keep' (hk.trans hk2))
  have HK := Pin.Aside.mk ((hk.trans hk2).mono (T := VK b mb mo) fun _ q => q.elim)
  have Hr := Pin.Aside.mk (fun W => en_right e ho W)
  have hdm : 0 ≤ D.many ∧ D.many ≤ 18446744073709551615 := ⟨hd.many.1, by have := hd.many.2; omega⟩
  have HR := Pin.Aside.mk (show D.apply e = (D, ⟨0, ⟨#[]⟩⟩) by unfold Vd.apply; rw [if_neg (by rw [h1]; decide), if_pos h2])
  rw [h1] at Hr
  have H2 := Pin.Aside.mk h2
  clear h1 h2
  have HD := Pin.Aside.mk hd
  clear ho hd
  clear h hk hk2
  obtain ⟨term, index, kind, client, seq, block, many, node, level, data, old⟩ := e
  dsimp only [En.cells] at *
  go_enter Tryd.func12, Tryd.ntmps12
  go_upto_region 1 with fail
  generalize World.alloc (World.alloc _ _) _ = wa at *
  generalize hB : w.heap.size = B at *
  have HF := Pin.Aside.mk hf0
  clear hf0
  obtain ⟨c0, c1, c2, c3, c4, c5, c6, c7, c8, c9, c10⟩ := hE2
  dsimp only at c0 c1 c2 c3 c4 c5 c6 c7 c8 c9 c10
  simp only [Nat.zero_add] at c0 c1 c2 c3 c4 c5 c6 c7 c8 c9 c10
  have hwl : B + 1 < wa.heap.size := World.block_lt_of_cell? _ _ hr0
  go_wp2_with fail
  refine (Hr.out _).mono ?_
  rintro x w1 ⟨rfl, hbb⟩
  have hkk : Keep (fun _ => False) wa w1 := Keep.of_below hbb fun _ q _ => q
  replace hr0 := hkk.cell hr0 id
  replace hr1 := hkk.cell hr1 id
  replace c0 := hkk.cell c0 id
  replace c1 := hkk.cell c1 id
  replace c2 := hkk.cell c2 id
  replace c3 := hkk.cell c3 id
  replace c4 := hkk.cell c4 id
  replace c5 := hkk.cell c5 id
  replace c6 := hkk.cell c6 id
  replace c7 := hkk.cell c7 id
  replace c8 := hkk.cell c8 id
  replace c9 := hkk.cell c9 id
  replace c10 := hkk.cell c10 id
  replace HF : Pin.Aside (∀ j, w1.frozen? ⟨B + 1, j, none⟩ = false) := Pin.Aside.mk (fun j => by rw [hkk.frozen (p := ⟨B + 1, j, none⟩) (show B + 1 < wa.heap.size from hwl) id]; exact HF.out j)
  replace HK := Pin.Aside.mk (HK.out.trans (hkk.mono fun _ q => q.elim))
  replace HV := Pin.Aside.mk (HV.out.keep' hkk)
  replace hwl : B + 1 < w1.heap.size := Nat.lt_of_lt_of_le hwl hkk.size
  clear hkk
  clear hbb Hr
  have h2 := H2.out
  try dsimp only at h2
  rw [h2] at c3
  clear h2 H2
  have hfa := HF.out 0
  have hfb := HF.out 1
  have hks := ((Keep.refl (fun k => k = B + 1) w1).setCell (p := ⟨B + 1, 0, none⟩) (.inl rfl) (.int .i64 0)).setCell (p := ⟨B + 1, 1, none⟩) (.inl rfl) (.string ⟨#[]⟩)
  have HV' := Pin.Aside.mk (HV.out.keep hks (by intro q; omega) (by intro q; omega) (by intro q; omega))
  have HK' := Pin.Aside.mk ((HK.out.setCell (p := ⟨B + 1, 0, none⟩) (.inr (by show w.heap.size ≤ B + 1; omega)) (.int .i64 0)).setCell (p := ⟨B + 1, 1, none⟩) (.inr (by show w.heap.size ≤ B + 1; omega)) (.string ⟨#[]⟩))
  clear hks HV HK HF
  go_wp2_with fail
  refine bodyPost_ret (v := .agg #[.int .i64 0, .string ⟨#[]⟩]) (by simp [results, Tryd.results12, go_sem, *]) rfl ?_
  rw [HR.out]
  exact ⟨rfl, HV'.out, HK'.out⟩
set_option maxHeartbeats 1600000 in
theorem vd_apply_c (b mb mo : Nat) (D : Vd) (e : En) (ho : e.ok) (hd : D.ok) (h1 : e.right = true) (h2 : ¬ e.client = 0) (h3 : e.kind = 4) (w : World) (h : VdAt w b mb mo D) :
    Calls Tryd.prog 12 #[.pointer (some ⟨b, 0, none⟩), .agg e.cells] w fun x w' => x = .returned (D.apply e).2.val ∧ VdAt w' b mb mo (D.apply e).1 ∧ Keep (VK b mb mo) w w' := by
  have hse := str_beq
  have hlt := h.lt
  have hk := (Keep.refl (fun _ => False) w).alloc (.cells e.cells 31)
  have hk2 := (Keep.refl (fun _ => False) (w.alloc (.cells e.cells 31))).alloc (.cells #[.int .i64 0, .string ⟨#[]⟩] 28)
  have hE2 := (EnAt.new w 31 e).keep hk2 id
  have hr0 : ((w.alloc (.cells e.cells 31)).alloc (.cells #[.int .i64 0, .string ⟨#[]⟩] 28)).cell? ⟨w.heap.size + 1, 0, none⟩ = some (.int .i64 0) := by simp
  have hr1 : ((w.alloc (.cells e.cells 31)).alloc (.cells #[.int .i64 0, .string ⟨#[]⟩] 28)).cell? ⟨w.heap.size + 1, 1, none⟩ = some (.string ⟨#[]⟩) := by simp
  have hf0 : ∀ j, ((w.alloc (.cells e.cells 31)).alloc (.cells #[.int .i64 0, .string ⟨#[]⟩] 28)).frozen? ⟨w.heap.size + 1, j, none⟩ = false := by intro j; simp
  have HV := Pin.Aside.mk (h.keep' (hk.trans hk2))
  have HK := Pin.Aside.mk ((hk.trans hk2).mono (T := VK b mb mo) fun _ q => q.elim)
  have Hr := Pin.Aside.mk (fun W => en_right e ho W)
  have hdm : 0 ≤ D.many ∧ D.many ≤ 18446744073709551615 := ⟨hd.many.1, by have := hd.many.2; omega⟩
  have Hg := Pin.Aside.mk (fun W (hW : VdAt W b mb mo D) => vd_begin b mb mo D e.client W hW)
  obtain ⟨⟨D1, e1, d1⟩, hwr⟩ : ∃ r, D.begin e.client = r := ⟨_, rfl⟩
  have HR := Pin.Aside.mk (show D.apply e = (D1, ⟨e1, d1⟩) by unfold Vd.apply; rw [if_neg (by rw [h1]; decide), if_neg h2, if_pos h3, hwr])
  rw [h1] at Hr
  rw [hwr] at Hg
  have H2 := Pin.Aside.mk h2
  have H3 := Pin.Aside.mk h3
  clear h1 h2 h3 hwr
  have HD := Pin.Aside.mk hd
  clear ho hd
  clear h hk hk2
  obtain ⟨term, index, kind, client, seq, block, many, node, level, data, old⟩ := e
  dsimp only [En.cells] at *
  go_enter Tryd.func12, Tryd.ntmps12
  go_upto_region 1 with fail
  generalize World.alloc (World.alloc _ _) _ = wa at *
  generalize hB : w.heap.size = B at *
  have HF := Pin.Aside.mk hf0
  clear hf0
  obtain ⟨c0, c1, c2, c3, c4, c5, c6, c7, c8, c9, c10⟩ := hE2
  dsimp only at c0 c1 c2 c3 c4 c5 c6 c7 c8 c9 c10
  simp only [Nat.zero_add] at c0 c1 c2 c3 c4 c5 c6 c7 c8 c9 c10
  have hwl : B + 1 < wa.heap.size := World.block_lt_of_cell? _ _ hr0
  go_wp2_with fail
  refine (Hr.out _).mono ?_
  rintro x w1 ⟨rfl, hbb⟩
  have hkk : Keep (fun _ => False) wa w1 := Keep.of_below hbb fun _ q _ => q
  replace hr0 := hkk.cell hr0 id
  replace hr1 := hkk.cell hr1 id
  replace c0 := hkk.cell c0 id
  replace c1 := hkk.cell c1 id
  replace c2 := hkk.cell c2 id
  replace c3 := hkk.cell c3 id
  replace c4 := hkk.cell c4 id
  replace c5 := hkk.cell c5 id
  replace c6 := hkk.cell c6 id
  replace c7 := hkk.cell c7 id
  replace c8 := hkk.cell c8 id
  replace c9 := hkk.cell c9 id
  replace c10 := hkk.cell c10 id
  replace HF : Pin.Aside (∀ j, w1.frozen? ⟨B + 1, j, none⟩ = false) := Pin.Aside.mk (fun j => by rw [hkk.frozen (p := ⟨B + 1, j, none⟩) (show B + 1 < wa.heap.size from hwl) id]; exact HF.out j)
  replace HK := Pin.Aside.mk (HK.out.trans (hkk.mono fun _ q => q.elim))
  replace HV := Pin.Aside.mk (HV.out.keep' hkk)
  replace hwl : B + 1 < w1.heap.size := Nat.lt_of_lt_of_le hwl hkk.size
  clear hkk
  clear hbb Hr
  have h3 := H3.out
  have h2' := H2.out
  have h2 : (client == 0) = false := beq_false_of_ne h2'
  try dsimp only at h3
  rw [h3] at c2
  clear h3 H2 H3 h2'
  go_wp2_with fail
  refine (Hg.out _ HV.out).mono ?_
  rintro x w2 ⟨rfl, hV2, hkk⟩
  replace HV := Pin.Aside.mk hV2
  replace hr0 := hkk.cell hr0 (by rintro (q | q | q) <;> (dsimp only at q; omega))
  replace hr1 := hkk.cell hr1 (by rintro (q | q | q) <;> (dsimp only at q; omega))
  replace HF : Pin.Aside (∀ j, w2.frozen? ⟨B + 1, j, none⟩ = false) := Pin.Aside.mk (fun j => by rw [hkk.frozen (p := ⟨B + 1, j, none⟩) (show B + 1 < w1.heap.size from hwl) (by rintro (q | q | q) <;> (dsimp only at q; omega))]; exact HF.out j)
  replace HK := Pin.Aside.mk (HK.out.trans hkk)
  clear hkk
  clear hV2 c0 c1 c2 c3 c4 c5 c6 c7 c8 c9 c10
  have hfa := HF.out 0
  have hfb := HF.out 1
  have hks := ((Keep.refl (fun k => k = B + 1) w2).setCell (p := ⟨B + 1, 0, none⟩) (.inl rfl) (.int .i64 e1)).setCell (p := ⟨B + 1, 1, none⟩) (.inl rfl) (.string d1)
  have HV' := Pin.Aside.mk (HV.out.keep hks (by intro q; omega) (by intro q; omega) (by intro q; omega))
  have HK' := Pin.Aside.mk ((HK.out.setCell (p := ⟨B + 1, 0, none⟩) (.inr (by show w.heap.size ≤ B + 1; omega)) (.int .i64 e1)).setCell (p := ⟨B + 1, 1, none⟩) (.inr (by show w.heap.size ≤ B + 1; omega)) (.string d1))
  clear hks HV HK HF
  go_wp2_with fail
  refine bodyPost_ret (v := .agg #[.int .i64 e1, .string d1]) (by simp [results, Tryd.results12, go_sem, *]) rfl ?_
  rw [HR.out]
  exact ⟨rfl, HV'.out, HK'.out⟩
set_option maxHeartbeats 3200000 in
theorem vd_apply_d (b mb mo : Nat) (D : Vd) (e : En) (ho : e.ok) (hd : D.ok) (h1 : e.right = true) (h2 : ¬ e.client = 0) (h3 : ¬ e.kind = 4) (h4 : aget D.opens e.client = none ∨ e.seq = 0 ∨ e.seq < (Vd.ses D e.client).seq) (w : World) (h : VdAt w b mb mo D) :
    Calls Tryd.prog 12 #[.pointer (some ⟨b, 0, none⟩), .agg e.cells] w fun x w' => x = .returned (D.apply e).2.val ∧ VdAt w' b mb mo (D.apply e).1 ∧ Keep (VK b mb mo) w w' := by
  have hse := str_beq
  have hlt := h.lt
  have hk := (Keep.refl (fun _ => False) w).alloc (.cells e.cells 31)
  have hk2 := (Keep.refl (fun _ => False) (w.alloc (.cells e.cells 31))).alloc (.cells #[.int .i64 0, .string ⟨#[]⟩] 28)
  have hE2 := (EnAt.new w 31 e).keep hk2 id
  have hr0 : ((w.alloc (.cells e.cells 31)).alloc (.cells #[.int .i64 0, .string ⟨#[]⟩] 28)).cell? ⟨w.heap.size + 1, 0, none⟩ = some (.int .i64 0) := by simp
  have hr1 : ((w.alloc (.cells e.cells 31)).alloc (.cells #[.int .i64 0, .string ⟨#[]⟩] 28)).cell? ⟨w.heap.size + 1, 1, none⟩ = some (.string ⟨#[]⟩) := by simp
  have hf0 : ∀ j, ((w.alloc (.cells e.cells 31)).alloc (.cells #[.int .i64 0, .string ⟨#[]⟩] 28)).frozen? ⟨w.heap.size + 1, j, none⟩ = false := by intro j; simp
  have HV := Pin.Aside.mk (h.keep' (hk.trans hk2))
  have HK := Pin.Aside.mk ((hk.trans hk2).mono (T := VK b mb mo) fun _ q => q.elim)
  have Hr := Pin.Aside.mk (fun W => en_right e ho W)
  have hdm : 0 ≤ D.many ∧ D.many ≤ 18446744073709551615 := ⟨hd.many.1, by have := hd.many.2; omega⟩
  have HR := Pin.Aside.mk (show D.apply e = (D, ⟨12, ⟨#[]⟩⟩) by
    unfold Vd.apply
    rw [if_neg (by rw [h1]; decide), if_neg h2, if_neg h3]
    cases hq : aget D.opens e.client with
    | none => rfl
    | some s =>
      simp only
      rw [if_pos]
      rcases h4 with q | q | q
      · rw [hq] at q; cases q
      · exact .inl q
      · right
        unfold Vd.ses at q
        rw [hq] at q
        exact q)
  obtain ⟨⟨sq, se, sd⟩, hss⟩ : ∃ r, Vd.ses D e.client = r := ⟨_, rfl⟩
  obtain ⟨okk, hok⟩ : ∃ r, (aget D.opens e.client).isSome = r := ⟨_, rfl⟩
  have HSS := Pin.Aside.mk (And.intro hss hok)
  rw [h1] at Hr
  have H2 := Pin.Aside.mk h2
  have H3 := Pin.Aside.mk h3
  have H4 : Pin.Aside (okk = false ∨ e.seq = 0 ∨ e.seq < sq) := Pin.Aside.mk (by
    rcases h4 with q | q | q
    · left; rw [← hok, q]; rfl
    · exact .inr (.inl q)
    · rw [hss] at q; exact .inr (.inr q))
  clear h1 h2 h3 h4 hss hok
  have HD := Pin.Aside.mk hd
  clear ho hd
  clear h hk hk2
  obtain ⟨term, index, kind, client, seq, block, many, node, level, data, old⟩ := e
  dsimp only [En.cells] at *
  go_enter Tryd.func12, Tryd.ntmps12
  go_upto_region 1 with fail
  generalize World.alloc (World.alloc _ _) _ = wa at *
  generalize hB : w.heap.size = B at *
  have HF := Pin.Aside.mk hf0
  clear hf0
  obtain ⟨c0, c1, c2, c3, c4, c5, c6, c7, c8, c9, c10⟩ := hE2
  dsimp only at c0 c1 c2 c3 c4 c5 c6 c7 c8 c9 c10
  simp only [Nat.zero_add] at c0 c1 c2 c3 c4 c5 c6 c7 c8 c9 c10
  have hwl : B + 1 < wa.heap.size := World.block_lt_of_cell? _ _ hr0
  go_wp2_with fail
  refine (Hr.out _).mono ?_
  rintro x w1 ⟨rfl, hbb⟩
  have hkk : Keep (fun _ => False) wa w1 := Keep.of_below hbb fun _ q _ => q
  replace hr0 := hkk.cell hr0 id
  replace hr1 := hkk.cell hr1 id
  replace c0 := hkk.cell c0 id
  replace c1 := hkk.cell c1 id
  replace c2 := hkk.cell c2 id
  replace c3 := hkk.cell c3 id
  replace c4 := hkk.cell c4 id
  replace c5 := hkk.cell c5 id
  replace c6 := hkk.cell c6 id
  replace c7 := hkk.cell c7 id
  replace c8 := hkk.cell c8 id
  replace c9 := hkk.cell c9 id
  replace c10 := hkk.cell c10 id
  replace HF : Pin.Aside (∀ j, w1.frozen? ⟨B + 1, j, none⟩ = false) := Pin.Aside.mk (fun j => by rw [hkk.frozen (p := ⟨B + 1, j, none⟩) (show B + 1 < wa.heap.size from hwl) id]; exact HF.out j)
  replace HK := Pin.Aside.mk (HK.out.trans (hkk.mono fun _ q => q.elim))
  replace HV := Pin.Aside.mk (HV.out.keep' hkk)
  replace hwl : B + 1 < w1.heap.size := Nat.lt_of_lt_of_le hwl hkk.size
  clear hkk
  clear hbb Hr
  have h2 : (client == 0) = false := beq_false_of_ne H2.out
  have h3 : (kind == 4) = false := beq_false_of_ne H3.out
  have m2 := HV.out.c2
  have hlS : ∀ s' : KW (fun _ => False) w1, (Instr.lookup 62 (.map (some mo)) (.int .u64 client) true).run Tryd.prog s'.w = .ok (.tuple #[.agg #[.int .u64 sq, .int .i64 se, .string sd], .bool okk]) s'.w := fun s' => by
    have := vd_lookupS D b mb mo client s'.w (HV.out.keep' s'.keep)
    rw [HSS.out.1, HSS.out.2] at this
    exact this
  go_upto_region 7 with fail
  have k0 : ∀ s' : KW (fun _ => False) w1, s'.w.cell? ⟨b, 2, none⟩ = some (.map (some mo)) := fun s' => s'.keep.cell m2 id
  have k1 : ∀ s' : KW (fun _ => False) w1, s'.w.cell? ⟨B, 3, none⟩ = some (.int .u64 client) := fun s' => s'.keep.cell c3 id
  refine wp_region_stay (S := fun w' => ∃ s' : KW (fun _ => False) w1, w' = s'.w) 10 (by kernel_rfl) (by simp) (by kernel_rfl) (by kernel_rfl) ⟨⟨w1.drew, (Keep.refl _ w1).drew⟩, rfl⟩ ?_
  simp only [List.take_succ_cons, List.take_zero]
  refine wpStay_quietS 1 _ _ (by kernel_rfl) ?_
  simp only [List.take_succ_cons, List.take_zero, List.drop_succ_cons, List.drop_zero]
  repeat (go_big_quiet_step (fail))
  refine wpQuiet_nil ?_
  refine wpStay_call (.pointer (some ⟨b, 0, none⟩)) (by rfl) (fun w' hw' => by unfold Oper.quietAt; go_simp) ?_
  go_simp
  refine wpStay_quietSN 8 _ _ (by kernel_rfl) ?_
  simp only [List.take_succ_cons, List.take_zero, List.drop_succ_cons, List.drop_zero]
  repeat (go_big_quiet_step (fail))
  refine wpQuiet_nil ?_
  refine wpStay_nil ?_
  clear k0 k1 hlS m2
  have hkz := ((Keep.refl (fun _ => False) w1).alloc (.cells #[.int .u64 0, .int .i64 0, .string ⟨#[]⟩] 59)).drew
  have hkk := ((Keep.refl (fun _ => False) w1).alloc (.cells #[.int .u64 sq, .int .i64 se, .string sd] 59)).drew
  have s0 : ((w1.alloc (.cells #[.int .u64 sq, .int .i64 se, .string sd] 59)).drew).cell? ⟨w1.heap.size, 0, none⟩ = some (.int .u64 sq) := by simp
  have s1 : ((w1.alloc (.cells #[.int .u64 sq, .int .i64 se, .string sd] 59)).drew).cell? ⟨w1.heap.size, 1, none⟩ = some (.int .i64 se) := by simp
  have s2 : ((w1.alloc (.cells #[.int .u64 sq, .int .i64 se, .string sd] 59)).drew).cell? ⟨w1.heap.size, 2, none⟩ = some (.string sd) := by simp
  have hfs : ∀ j, ((w1.alloc (.cells #[.int .u64 sq, .int .i64 se, .string sd] 59)).drew).frozen? ⟨w1.heap.size, j, none⟩ = false := by intro j; simp
  refine wpAnyH_one 10 (by kernel_rfl) rfl (fun K' hK' => ?_)
  go_simp
  refine hK'.out _ _ ⟨⟨_, hkz⟩, rfl⟩ (fun _ => ?_)
  clear hK' K'
  refine wpAnyH_one 11 (by kernel_rfl) rfl (fun K' hK' => ?_)
  go_simp
  refine hK'.out _ _ ⟨⟨_, hkk⟩, rfl⟩ (fun _ => ?_)
  clear hK' K'
  refine wpAnyH_more (g := 0) 12 1 (by simp) (by kernel_rfl) (by kernel_rfl) ⟨⟨_, hkk⟩, rfl⟩ ?_
  simp only [List.take_succ_cons, List.take_zero, List.drop_succ_cons, List.drop_zero]
  refine wpStay_quietS 1 _ _ (by kernel_rfl) ?_
  simp only [List.take_succ_cons, List.take_zero, List.drop_succ_cons, List.drop_zero]
  repeat (go_big_quiet_step (fail))
  refine wpQuiet_nil ?_
  refine wpStay_nil ?_
  refine wpAnyH_done (by kernel_rfl) (NoPanic.normal ?_) _
  clear hkz
  generalize (World.alloc w1 _).drew = w2 at *
  have HFS := Pin.Aside.mk hfs
  have hSB : B + 1 < w1.heap.size := hwl
  have hS0 : w1.heap.size = w1.heap.size := rfl
  replace hr0 := hkk.cell hr0 id
  replace hr1 := hkk.cell hr1 id
  replace c0 := hkk.cell c0 id
  replace c1 := hkk.cell c1 id
  replace c2 := hkk.cell c2 id
  replace c3 := hkk.cell c3 id
  replace c4 := hkk.cell c4 id
  replace c5 := hkk.cell c5 id
  replace c6 := hkk.cell c6 id
  replace c7 := hkk.cell c7 id
  replace c8 := hkk.cell c8 id
  replace c9 := hkk.cell c9 id
  replace c10 := hkk.cell c10 id
  replace HF : Pin.Aside (∀ j, w2.frozen? ⟨B + 1, j, none⟩ = false) := Pin.Aside.mk (fun j => by rw [hkk.frozen (p := ⟨B + 1, j, none⟩) (show B + 1 < w1.heap.size from hwl) id]; exact HF.out j)
  replace HK := Pin.Aside.mk (HK.out.trans (hkk.mono fun _ q => q.elim))
  replace HV := Pin.Aside.mk (HV.out.keep' hkk)
  replace hwl : B + 1 < w2.heap.size := Nat.lt_of_lt_of_le hwl hkk.size
  clear hkk
  generalize w1.heap.size = S at *
  clear hfs hS0
  clear s1 s2 HFS
  cases okk with
  | false =>
    clear H4
    have hfa := HF.out 0
    have hfb := HF.out 1
    have hks := ((Keep.refl (fun k => k = B + 1) w2).setCell (p := ⟨B + 1, 0, none⟩) (.inl rfl) (.int .i64 12)).setCell (p := ⟨B + 1, 1, none⟩) (.inl rfl) (.string ⟨#[]⟩)
    have HV' := Pin.Aside.mk (HV.out.keep hks (by intro q; omega) (by intro q; omega) (by intro q; omega))
    have HK' := Pin.Aside.mk ((HK.out.setCell (p := ⟨B + 1, 0, none⟩) (.inr (by show w.heap.size ≤ B + 1; omega)) (.int .i64 12)).setCell (p := ⟨B + 1, 1, none⟩) (.inr (by show w.heap.size ≤ B + 1; omega)) (.string ⟨#[]⟩))
    clear hks HV HK HF
    go_wp2_with fail
    refine bodyPost_ret (v := .agg #[.int .i64 12, .string ⟨#[]⟩]) (by simp [results, Tryd.results12, go_sem, *]) rfl ?_
    rw [HR.out]
    exact ⟨rfl, HV'.out, HK'.out⟩
  | true =>
    by_cases h5 : seq = 0
    · have h5' : (seq == 0) = true := by rw [h5]; rfl
      clear H4 h5
      have hfa := HF.out 0
      have hfb := HF.out 1
      have hks := ((Keep.refl (fun k => k = B + 1) w2).setCell (p := ⟨B + 1, 0, none⟩) (.inl rfl) (.int .i64 12)).setCell (p := ⟨B + 1, 1, none⟩) (.inl rfl) (.string ⟨#[]⟩)
      have HV' := Pin.Aside.mk (HV.out.keep hks (by intro q; omega) (by intro q; omega) (by intro q; omega))
      have HK' := Pin.Aside.mk ((HK.out.setCell (p := ⟨B + 1, 0, none⟩) (.inr (by show w.heap.size ≤ B + 1; omega)) (.int .i64 12)).setCell (p := ⟨B + 1, 1, none⟩) (.inr (by show w.heap.size ≤ B + 1; omega)) (.string ⟨#[]⟩))
      clear hks HV HK HF
      go_wp2_with fail
      refine bodyPost_ret (v := .agg #[.int .i64 12, .string ⟨#[]⟩]) (by simp [results, Tryd.results12, go_sem, *]) rfl ?_
      rw [HR.out]
      exact ⟨rfl, HV'.out, HK'.out⟩
    · have h6 : seq < sq := by
        rcases H4.out with q | q | q
        · cases q
        · exact absurd q h5
        · exact q
      have h5' : (seq == 0) = false := beq_false_of_ne h5
      clear H4 h5
      have hfa := HF.out 0
      have hfb := HF.out 1
      have hks := ((Keep.refl (fun k => k = B + 1) w2).setCell (p := ⟨B + 1, 0, none⟩) (.inl rfl) (.int .i64 12)).setCell (p := ⟨B + 1, 1, none⟩) (.inl rfl) (.string ⟨#[]⟩)
      have HV' := Pin.Aside.mk (HV.out.keep hks (by intro q; omega) (by intro q; omega) (by intro q; omega))
      have HK' := Pin.Aside.mk ((HK.out.setCell (p := ⟨B + 1, 0, none⟩) (.inr (by show w.heap.size ≤ B + 1; omega)) (.int .i64 12)).setCell (p := ⟨B + 1, 1, none⟩) (.inr (by show w.heap.size ≤ B + 1; omega)) (.string ⟨#[]⟩))
      clear hks HV HK HF
      go_wp2_with fail
      refine bodyPost_ret (v := .agg #[.int .i64 12, .string ⟨#[]⟩]) (by simp [results, Tryd.results12, go_sem, *]) rfl ?_
      rw [HR.out]
      exact ⟨rfl, HV'.out, HK'.out⟩
set_option maxHeartbeats 3200000 in
theorem vd_apply_e (b mb mo : Nat) (D : Vd) (e : En) (ho : e.ok) (hd : D.ok) (h1 : e.right = true) (h2 : ¬ e.client = 0) (h3 : ¬ e.kind = 4) (h4 : (aget D.opens e.client).isSome = true) (h5 : ¬ e.seq = 0) (h6 : e.seq = (Vd.ses D e.client).seq) (w : World) (h : VdAt w b mb mo D) :
    Calls Tryd.prog 12 #[.pointer (some ⟨b, 0, none⟩), .agg e.cells] w fun x w' => x = .returned (D.apply e).2.val ∧ VdAt w' b mb mo (D.apply e).1 ∧ Keep (VK b mb mo) w w' := by
  have hse := str_beq
  have hlt := h.lt
  have hk := (Keep.refl (fun _ => False) w).alloc (.cells e.cells 31)
  have hk2 := (Keep.refl (fun _ => False) (w.alloc (.cells e.cells 31))).alloc (.cells #[.int .i64 0, .string ⟨#[]⟩] 28)
  have hE2 := (EnAt.new w 31 e).keep hk2 id
  have hr0 : ((w.alloc (.cells e.cells 31)).alloc (.cells #[.int .i64 0, .string ⟨#[]⟩] 28)).cell? ⟨w.heap.size + 1, 0, none⟩ = some (.int .i64 0) := by simp
  have hr1 : ((w.alloc (.cells e.cells 31)).alloc (.cells #[.int .i64 0, .string ⟨#[]⟩] 28)).cell? ⟨w.heap.size + 1, 1, none⟩ = some (.string ⟨#[]⟩) := by simp
  have hf0 : ∀ j, ((w.alloc (.cells e.cells 31)).alloc (.cells #[.int .i64 0, .string ⟨#[]⟩] 28)).frozen? ⟨w.heap.size + 1, j, none⟩ = false := by intro j; simp
  have HV := Pin.Aside.mk (h.keep' (hk.trans hk2))
  have HK := Pin.Aside.mk ((hk.trans hk2).mono (T := VK b mb mo) fun _ q => q.elim)
  have Hr := Pin.Aside.mk (fun W => en_right e ho W)
  have hdm : 0 ≤ D.many ∧ D.many ≤ 18446744073709551615 := ⟨hd.many.1, by have := hd.many.2; omega⟩
  have HR0 := Pin.Aside.mk (show D.apply e = (D, ⟨(Vd.ses D e.client).e, (Vd.ses D e.client).data⟩) by
    unfold Vd.apply
    rw [if_neg (by rw [h1]; decide), if_neg h2, if_neg h3]
    cases hq : aget D.opens e.client with
    | none => rw [hq] at h4; cases h4
    | some s =>
      have hs : Vd.ses D e.client = s := by unfold Vd.ses; rw [hq]; rfl
      rw [hs] at h6 ⊢
      simp only
      rw [if_neg (by rintro (q | q); exact h5 q; omega), if_neg (by omega)])
  obtain ⟨⟨sq, se, sd⟩, hss⟩ : ∃ r, Vd.ses D e.client = r := ⟨_, rfl⟩
  obtain ⟨okk, hok⟩ : ∃ r, (aget D.opens e.client).isSome = r := ⟨_, rfl⟩
  have HSS := Pin.Aside.mk (And.intro hss hok)
  rw [h1] at Hr
  have H2 := Pin.Aside.mk h2
  have H3 := Pin.Aside.mk h3
  rw [hss] at HR0 h6
  have HR := HR0
  have H5 := Pin.Aside.mk h5
  have H6 := Pin.Aside.mk h6
  have HOK : Pin.Aside (okk = true) := Pin.Aside.mk (hok.symm.trans h4)
  clear h1 h2 h3 h4 hss hok h5 h6 HR0
  have HD := Pin.Aside.mk hd
  clear ho hd
  clear h hk hk2
  obtain ⟨term, index, kind, client, seq, block, many, node, level, data, old⟩ := e
  dsimp only [En.cells] at *
  go_enter Tryd.func12, Tryd.ntmps12
  go_upto_region 1 with fail
  generalize World.alloc (World.alloc _ _) _ = wa at *
  generalize hB : w.heap.size = B at *
  have HF := Pin.Aside.mk hf0
  clear hf0
  obtain ⟨c0, c1, c2, c3, c4, c5, c6, c7, c8, c9, c10⟩ := hE2
  dsimp only at c0 c1 c2 c3 c4 c5 c6 c7 c8 c9 c10
  simp only [Nat.zero_add] at c0 c1 c2 c3 c4 c5 c6 c7 c8 c9 c10
  have hwl : B + 1 < wa.heap.size := World.block_lt_of_cell? _ _ hr0
  go_wp2_with fail
  refine (Hr.out _).mono ?_
  rintro x w1 ⟨rfl, hbb⟩
  have hkk : Keep (fun _ => False) wa w1 := Keep.of_below hbb fun _ q _ => q
  replace hr0 := hkk.cell hr0 id
  replace hr1 := hkk.cell hr1 id
  replace c0 := hkk.cell c0 id
  replace c1 := hkk.cell c1 id
  replace c2 := hkk.cell c2 id
  replace c3 := hkk.cell c3 id
  replace c4 := hkk.cell c4 id
  replace c5 := hkk.cell c5 id
  replace c6 := hkk.cell c6 id
  replace c7 := hkk.cell c7 id
  replace c8 := hkk.cell c8 id
  replace c9 := hkk.cell c9 id
  replace c10 := hkk.cell c10 id
  replace HF : Pin.Aside (∀ j, w1.frozen? ⟨B + 1, j, none⟩ = false) := Pin.Aside.mk (fun j => by rw [hkk.frozen (p := ⟨B + 1, j, none⟩) (show B + 1 < wa.heap.size from hwl) id]; exact HF.out j)
  replace HK := Pin.Aside.mk (HK.out.trans (hkk.mono fun _ q => q.elim))
  replace HV := Pin.Aside.mk (HV.out.keep' hkk)
  replace hwl : B + 1 < w1.heap.size := Nat.lt_of_lt_of_le hwl hkk.size
  clear hkk
  clear hbb Hr
  have h2 : (client == 0) = false := beq_false_of_ne H2.out
  have h3 : (kind == 4) = false := beq_false_of_ne H3.out
  have m2 := HV.out.c2
  have hlS : ∀ s' : KW (fun _ => False) w1, (Instr.lookup 62 (.map (some mo)) (.int .u64 client) true).run Tryd.prog s'.w = .ok (.tuple #[.agg #[.int .u64 sq, .int .i64 se, .string sd], .bool okk]) s'.w := fun s' => by
    have := vd_lookupS D b mb mo client s'.w (HV.out.keep' s'.keep)
    rw [HSS.out.1, HSS.out.2] at this
    exact this
  go_upto_region 7 with fail
  have k0 : ∀ s' : KW (fun _ => False) w1, s'.w.cell? ⟨b, 2, none⟩ = some (.map (some mo)) := fun s' => s'.keep.cell m2 id
  have k1 : ∀ s' : KW (fun _ => False) w1, s'.w.cell? ⟨B, 3, none⟩ = some (.int .u64 client) := fun s' => s'.keep.cell c3 id
  refine wp_region_stay (S := fun w' => ∃ s' : KW (fun _ => False) w1, w' = s'.w) 10 (by kernel_rfl) (by simp) (by kernel_rfl) (by kernel_rfl) ⟨⟨w1.drew, (Keep.refl _ w1).drew⟩, rfl⟩ ?_
  simp only [List.take_succ_cons, List.take_zero]
  refine wpStay_quietS 1 _ _ (by kernel_rfl) ?_
  simp only [List.take_succ_cons, List.take_zero, List.drop_succ_cons, List.drop_zero]
  repeat (go_big_quiet_step (fail))
  refine wpQuiet_nil ?_
  refine wpStay_call (.pointer (some ⟨b, 0, none⟩)) (by rfl) (fun w' hw' => by unfold Oper.quietAt; go_simp) ?_
  go_simp
  refine wpStay_quietSN 8 _ _ (by kernel_rfl) ?_
  simp only [List.take_succ_cons, List.take_zero, List.drop_succ_cons, List.drop_zero]
  repeat (go_big_quiet_step (fail))
  refine wpQuiet_nil ?_
  refine wpStay_nil ?_
  clear k0 k1 hlS m2
  have hkz := ((Keep.refl (fun _ => False) w1).alloc (.cells #[.int .u64 0, .int .i64 0, .string ⟨#[]⟩] 59)).drew
  have hkk := ((Keep.refl (fun _ => False) w1).alloc (.cells #[.int .u64 sq, .int .i64 se, .string sd] 59)).drew
  have s0 : ((w1.alloc (.cells #[.int .u64 sq, .int .i64 se, .string sd] 59)).drew).cell? ⟨w1.heap.size, 0, none⟩ = some (.int .u64 sq) := by simp
  have s1 : ((w1.alloc (.cells #[.int .u64 sq, .int .i64 se, .string sd] 59)).drew).cell? ⟨w1.heap.size, 1, none⟩ = some (.int .i64 se) := by simp
  have s2 : ((w1.alloc (.cells #[.int .u64 sq, .int .i64 se, .string sd] 59)).drew).cell? ⟨w1.heap.size, 2, none⟩ = some (.string sd) := by simp
  have hfs : ∀ j, ((w1.alloc (.cells #[.int .u64 sq, .int .i64 se, .string sd] 59)).drew).frozen? ⟨w1.heap.size, j, none⟩ = false := by intro j; simp
  refine wpAnyH_one 10 (by kernel_rfl) rfl (fun K' hK' => ?_)
  go_simp
  refine hK'.out _ _ ⟨⟨_, hkz⟩, rfl⟩ (fun _ => ?_)
  clear hK' K'
  refine wpAnyH_one 11 (by kernel_rfl) rfl (fun K' hK' => ?_)
  go_simp
  refine hK'.out _ _ ⟨⟨_, hkk⟩, rfl⟩ (fun _ => ?_)
  clear hK' K'
  refine wpAnyH_more (g := 0) 12 1 (by simp) (by kernel_rfl) (by kernel_rfl) ⟨⟨_, hkk⟩, rfl⟩ ?_
  simp only [List.take_succ_cons, List.take_zero, List.drop_succ_cons, List.drop_zero]
  refine wpStay_quietS 1 _ _ (by kernel_rfl) ?_
  simp only [List.take_succ_cons, List.take_zero, List.drop_succ_cons, List.drop_zero]
  repeat (go_big_quiet_step (fail))
  refine wpQuiet_nil ?_
  refine wpStay_nil ?_
  refine wpAnyH_done (by kernel_rfl) (NoPanic.normal ?_) _
  clear hkz
  generalize (World.alloc w1 _).drew = w2 at *
  have HFS := Pin.Aside.mk hfs
  have hSB : B + 1 < w1.heap.size := hwl
  have hS0 : w1.heap.size = w1.heap.size := rfl
  replace hr0 := hkk.cell hr0 id
  replace hr1 := hkk.cell hr1 id
  replace c0 := hkk.cell c0 id
  replace c1 := hkk.cell c1 id
  replace c2 := hkk.cell c2 id
  replace c3 := hkk.cell c3 id
  replace c4 := hkk.cell c4 id
  replace c5 := hkk.cell c5 id
  replace c6 := hkk.cell c6 id
  replace c7 := hkk.cell c7 id
  replace c8 := hkk.cell c8 id
  replace c9 := hkk.cell c9 id
  replace c10 := hkk.cell c10 id
  replace HF : Pin.Aside (∀ j, w2.frozen? ⟨B + 1, j, none⟩ = false) := Pin.Aside.mk (fun j => by rw [hkk.frozen (p := ⟨B + 1, j, none⟩) (show B + 1 < w1.heap.size from hwl) id]; exact HF.out j)
  replace HK := Pin.Aside.mk (HK.out.trans (hkk.mono fun _ q => q.elim))
  replace HV := Pin.Aside.mk (HV.out.keep' hkk)
  replace hwl : B + 1 < w2.heap.size := Nat.lt_of_lt_of_le hwl hkk.size
  clear hkk
  generalize w1.heap.size = S at *
  clear hfs hS0
  have hokt := HOK.out
  have h5' : (seq == 0) = false := beq_false_of_ne H5.out
  have h6 := H6.out
  try dsimp only at h6
  clear HOK H5 H6 HFS
  subst hokt
  have h7 : ¬ seq < sq := by omega
  have h8 : ¬ sq < seq := by omega
  clear h6
  have hfa := HF.out 0
  have hfb := HF.out 1
  have hks := ((Keep.refl (fun k => k = B + 1) w2).setCell (p := ⟨B + 1, 0, none⟩) (.inl rfl) (.int .i64 se)).setCell (p := ⟨B + 1, 1, none⟩) (.inl rfl) (.string sd)
  have HV' := Pin.Aside.mk (HV.out.keep hks (by intro q; omega) (by intro q; omega) (by intro q; omega))
  have HK' := Pin.Aside.mk ((HK.out.setCell (p := ⟨B + 1, 0, none⟩) (.inr (by show w.heap.size ≤ B + 1; omega)) (.int .i64 se)).setCell (p := ⟨B + 1, 1, none⟩) (.inr (by show w.heap.size ≤ B + 1; omega)) (.string sd))
  clear hks HV HK HF
  go_wp2_with fail
  refine bodyPost_ret (v := .agg #[.int .i64 se, .string sd]) (by simp [results, Tryd.results12, go_sem, *]) rfl ?_
  rw [HR.out]
  exact ⟨rfl, HV'.out, HK'.out⟩
set_option maxHeartbeats 6400000 in
theorem vd_apply_write (b mb mo : Nat) (D : Vd) (e : En) (ho : e.ok) (hd : D.ok) (h1 : e.right = true) (h2 : ¬ e.client = 0) (h3 : e.kind = 1) (h4 : (aget D.opens e.client).isSome = true) (h6 : (Vd.ses D e.client).seq < e.seq) (h7 : 0 ≤ (Vd.ses D e.client).seq) (w : World) (h : VdAt w b mb mo D) :
    Calls Tryd.prog 12 #[.pointer (some ⟨b, 0, none⟩), .agg e.cells] w fun x w' => x = .returned (D.apply e).2.val ∧ VdAt w' b mb mo (D.apply e).1 ∧ Keep (VK b mb mo) w w' := by
  have hse := str_beq
  have hlt := h.lt
  have hk := (Keep.refl (fun _ => False) w).alloc (.cells e.cells 31)
  have hk2 := (Keep.refl (fun _ => False) (w.alloc (.cells e.cells 31))).alloc (.cells #[.int .i64 0, .string ⟨#[]⟩] 28)
  have hE2 := (EnAt.new w 31 e).keep hk2 id
  have hr0 : ((w.alloc (.cells e.cells 31)).alloc (.cells #[.int .i64 0, .string ⟨#[]⟩] 28)).cell? ⟨w.heap.size + 1, 0, none⟩ = some (.int .i64 0) := by simp
  have hr1 : ((w.alloc (.cells e.cells 31)).alloc (.cells #[.int .i64 0, .string ⟨#[]⟩] 28)).cell? ⟨w.heap.size + 1, 1, none⟩ = some (.string ⟨#[]⟩) := by simp
  have hf0 : ∀ j, ((w.alloc (.cells e.cells 31)).alloc (.cells #[.int .i64 0, .string ⟨#[]⟩] 28)).frozen? ⟨w.heap.size + 1, j, none⟩ = false := by intro j; simp
  have HV := Pin.Aside.mk (h.keep' (hk.trans hk2))
  have HK := Pin.Aside.mk ((hk.trans hk2).mono (T := VK b mb mo) fun _ q => q.elim)
  have Hr := Pin.Aside.mk (fun W => en_right e ho W)
  have hdm : 0 ≤ D.many ∧ D.many ≤ 18446744073709551615 := ⟨hd.many.1, by have := hd.many.2; omega⟩
  have HW := Pin.Aside.mk (fun W (hW : VdAt W b mb mo D) => vd_write b mb mo D e ho hdm W hW)
  obtain ⟨⟨D1, e1, d1⟩, hwr⟩ : ∃ r, D.write e = r := ⟨_, rfl⟩
  rw [hwr] at HW
  have HR := Pin.Aside.mk (show D.apply e = ({ D1 with opens := aset D1.opens e.client ⟨e.seq, e1, d1⟩ }, ⟨e1, d1⟩) by
    have hdo : D.does e = (D1, ⟨e1, d1⟩) := by
      unfold Vd.does
      rw [h3]
      exact hwr
    unfold Vd.apply
    rw [if_neg (by rw [h1]; decide), if_neg h2, if_neg (by rw [h3]; decide), hdo]
    cases hq : aget D.opens e.client with
    | none => rw [hq] at h4; cases h4
    | some s =>
      have hs : Vd.ses D e.client = s := by unfold Vd.ses; rw [hq]; rfl
      rw [hs] at h6 h7
      simp only
      rw [if_neg (by rintro (q | q) <;> omega), if_pos h6])
  obtain ⟨⟨sq, se, sd⟩, hss⟩ : ∃ r, Vd.ses D e.client = r := ⟨_, rfl⟩
  obtain ⟨okk, hok⟩ : ∃ r, (aget D.opens e.client).isSome = r := ⟨_, rfl⟩
  have HSS := Pin.Aside.mk (And.intro hss hok)
  rw [h1] at Hr
  have H2 := Pin.Aside.mk h2
  have H3 := Pin.Aside.mk h3
  rw [hss] at h6 h7
  have H6 := Pin.Aside.mk h6
  have H7 := Pin.Aside.mk h7
  have HOK : Pin.Aside (okk = true) := Pin.Aside.mk (hok.symm.trans h4)
  clear h1 h2 h3 h4 hss hok h6 h7 hwr
  have HD := Pin.Aside.mk hd
  clear ho hd
  clear h hk hk2
  obtain ⟨term, index, kind, client, seq, block, many, node, level, data, old⟩ := e
  dsimp only [En.cells] at *
  go_enter Tryd.func12, Tryd.ntmps12
  go_upto_region 1 with fail
  generalize World.alloc (World.alloc _ _) _ = wa at *
  generalize hB : w.heap.size = B at *
  have HF := Pin.Aside.mk hf0
  clear hf0
  obtain ⟨c0, c1, c2, c3, c4, c5, c6, c7, c8, c9, c10⟩ := hE2
  dsimp only at c0 c1 c2 c3 c4 c5 c6 c7 c8 c9 c10
  simp only [Nat.zero_add] at c0 c1 c2 c3 c4 c5 c6 c7 c8 c9 c10
  have hwl : B + 1 < wa.heap.size := World.block_lt_of_cell? _ _ hr0
  go_wp2_with fail
  refine (Hr.out _).mono ?_
  rintro x w1 ⟨rfl, hbb⟩
  have hkk : Keep (fun _ => False) wa w1 := Keep.of_below hbb fun _ q _ => q
  replace hr0 := hkk.cell hr0 id
  replace hr1 := hkk.cell hr1 id
  replace c0 := hkk.cell c0 id
  replace c1 := hkk.cell c1 id
  replace c2 := hkk.cell c2 id
  replace c3 := hkk.cell c3 id
  replace c4 := hkk.cell c4 id
  replace c5 := hkk.cell c5 id
  replace c6 := hkk.cell c6 id
  replace c7 := hkk.cell c7 id
  replace c8 := hkk.cell c8 id
  replace c9 := hkk.cell c9 id
  replace c10 := hkk.cell c10 id
  replace HF : Pin.Aside (∀ j, w1.frozen? ⟨B + 1, j, none⟩ = false) := Pin.Aside.mk (fun j => by rw [hkk.frozen (p := ⟨B + 1, j, none⟩) (show B + 1 < wa.heap.size from hwl) id]; exact HF.out j)
  replace HK := Pin.Aside.mk (HK.out.trans (hkk.mono fun _ q => q.elim))
  replace HV := Pin.Aside.mk (HV.out.keep' hkk)
  replace hwl : B + 1 < w1.heap.size := Nat.lt_of_lt_of_le hwl hkk.size
  clear hkk
  clear hbb Hr
  have h2 : (client == 0) = false := beq_false_of_ne H2.out
  have h3 := H3.out
  try dsimp only at h3
  clear H3
  subst h3
  have m2 := HV.out.c2
  have hlS : ∀ s' : KW (fun _ => False) w1, (Instr.lookup 62 (.map (some mo)) (.int .u64 client) true).run Tryd.prog s'.w = .ok (.tuple #[.agg #[.int .u64 sq, .int .i64 se, .string sd], .bool okk]) s'.w := fun s' => by
    have := vd_lookupS D b mb mo client s'.w (HV.out.keep' s'.keep)
    rw [HSS.out.1, HSS.out.2] at this
    exact this
  go_upto_region 7 with fail
  have k0 : ∀ s' : KW (fun _ => False) w1, s'.w.cell? ⟨b, 2, none⟩ = some (.map (some mo)) := fun s' => s'.keep.cell m2 id
  have k1 : ∀ s' : KW (fun _ => False) w1, s'.w.cell? ⟨B, 3, none⟩ = some (.int .u64 client) := fun s' => s'.keep.cell c3 id
  refine wp_region_stay (S := fun w' => ∃ s' : KW (fun _ => False) w1, w' = s'.w) 10 (by kernel_rfl) (by simp) (by kernel_rfl) (by kernel_rfl) ⟨⟨w1.drew, (Keep.refl _ w1).drew⟩, rfl⟩ ?_
  simp only [List.take_succ_cons, List.take_zero]
  refine wpStay_quietS 1 _ _ (by kernel_rfl) ?_
  simp only [List.take_succ_cons, List.take_zero, List.drop_succ_cons, List.drop_zero]
  repeat (go_big_quiet_step (fail))
  refine wpQuiet_nil ?_
  refine wpStay_call (.pointer (some ⟨b, 0, none⟩)) (by rfl) (fun w' hw' => by unfold Oper.quietAt; go_simp) ?_
  go_simp
  refine wpStay_quietSN 8 _ _ (by kernel_rfl) ?_
  simp only [List.take_succ_cons, List.take_zero, List.drop_succ_cons, List.drop_zero]
  repeat (go_big_quiet_step (fail))
  refine wpQuiet_nil ?_
  refine wpStay_nil ?_
  clear k0 k1 hlS m2
  have hkz := ((Keep.refl (fun _ => False) w1).alloc (.cells #[.int .u64 0, .int .i64 0, .string ⟨#[]⟩] 59)).drew
  have hkk := ((Keep.refl (fun _ => False) w1).alloc (.cells #[.int .u64 sq, .int .i64 se, .string sd] 59)).drew
  have s0 : ((w1.alloc (.cells #[.int .u64 sq, .int .i64 se, .string sd] 59)).drew).cell? ⟨w1.heap.size, 0, none⟩ = some (.int .u64 sq) := by simp
  have s1 : ((w1.alloc (.cells #[.int .u64 sq, .int .i64 se, .string sd] 59)).drew).cell? ⟨w1.heap.size, 1, none⟩ = some (.int .i64 se) := by simp
  have s2 : ((w1.alloc (.cells #[.int .u64 sq, .int .i64 se, .string sd] 59)).drew).cell? ⟨w1.heap.size, 2, none⟩ = some (.string sd) := by simp
  have hfs : ∀ j, ((w1.alloc (.cells #[.int .u64 sq, .int .i64 se, .string sd] 59)).drew).frozen? ⟨w1.heap.size, j, none⟩ = false := by intro j; simp
  refine wpAnyH_one 10 (by kernel_rfl) rfl (fun K' hK' => ?_)
  go_simp
  refine hK'.out _ _ ⟨⟨_, hkz⟩, rfl⟩ (fun _ => ?_)
  clear hK' K'
  refine wpAnyH_one 11 (by kernel_rfl) rfl (fun K' hK' => ?_)
  go_simp
  refine hK'.out _ _ ⟨⟨_, hkk⟩, rfl⟩ (fun _ => ?_)
  clear hK' K'
  refine wpAnyH_more (g := 0) 12 1 (by simp) (by kernel_rfl) (by kernel_rfl) ⟨⟨_, hkk⟩, rfl⟩ ?_
  simp only [List.take_succ_cons, List.take_zero, List.drop_succ_cons, List.drop_zero]
  refine wpStay_quietS 1 _ _ (by kernel_rfl) ?_
  simp only [List.take_succ_cons, List.take_zero, List.drop_succ_cons, List.drop_zero]
  repeat (go_big_quiet_step (fail))
  refine wpQuiet_nil ?_
  refine wpStay_nil ?_
  refine wpAnyH_done (by kernel_rfl) (NoPanic.normal ?_) _
  clear hkz
  generalize (World.alloc w1 _).drew = w2 at *
  have HFS := Pin.Aside.mk hfs
  have hSB : B + 1 < w1.heap.size := hwl
  have hS0 : w1.heap.size = w1.heap.size := rfl
  replace hr0 := hkk.cell hr0 id
  replace hr1 := hkk.cell hr1 id
  replace c0 := hkk.cell c0 id
  replace c1 := hkk.cell c1 id
  replace c2 := hkk.cell c2 id
  replace c3 := hkk.cell c3 id
  replace c4 := hkk.cell c4 id
  replace c5 := hkk.cell c5 id
  replace c6 := hkk.cell c6 id
  replace c7 := hkk.cell c7 id
  replace c8 := hkk.cell c8 id
  replace c9 := hkk.cell c9 id
  replace c10 := hkk.cell c10 id
  replace HF : Pin.Aside (∀ j, w2.frozen? ⟨B + 1, j, none⟩ = false) := Pin.Aside.mk (fun j => by rw [hkk.frozen (p := ⟨B + 1, j, none⟩) (show B + 1 < w1.heap.size from hwl) id]; exact HF.out j)
  replace HK := Pin.Aside.mk (HK.out.trans (hkk.mono fun _ q => q.elim))
  replace HV := Pin.Aside.mk (HV.out.keep' hkk)
  replace hwl : B + 1 < w2.heap.size := Nat.lt_of_lt_of_le hwl hkk.size
  clear hkk
  generalize w1.heap.size = S at *
  clear hfs hS0
  have hokt := HOK.out
  have h6 := H6.out
  have h7 := H7.out
  try dsimp only at h6 h7
  have h5' : (seq == 0) = false := by rw [beq_eq_false_iff_ne]; omega
  have h8 : ¬ seq < sq := by omega
  clear HOK H6 H7 h7
  subst hokt
  have hmm := @run_makeMap Tryd.prog
  have hm0 := MapAt.made w2 .i64
  obtain ⟨x1, hu1, hm1, hk1, hz1⟩ := run_map_update (P := Tryd.prog) (t := 66) hm0 Tryd.underlying66 Tryd.underlying3 1 (Value.func (Fn.func 23) #[] #[])
  obtain ⟨x2, hu2, hm2, hk2, hz2⟩ := run_map_update (P := Tryd.prog) (t := 66) hm1 Tryd.underlying66 Tryd.underlying3 2 (Value.func (Fn.func 24) #[] #[])
  obtain ⟨x3, hu3, hm3, hk3, hz3⟩ := run_map_update (P := Tryd.prog) (t := 66) hm2 Tryd.underlying66 Tryd.underlying3 3 (Value.func (Fn.func 25) #[] #[])
  obtain ⟨x4, hu4, hm4, hk4, hz4⟩ := run_map_update (P := Tryd.prog) (t := 66) hm3 Tryd.underlying66 Tryd.underlying3 11 (Value.func (Fn.func 26) #[] #[])
  have hl := run_map_lookup (P := Tryd.prog) (t := 66) hm4 Tryd.underlying66 Tryd.underlying3 1 (z := .nilFunc) rfl
  rw [show (mget (mset (mset (mset (mset [] 1 (Value.func (Fn.func 23) #[] #[])) 2 (Value.func (Fn.func 24) #[] #[])) 3 (Value.func (Fn.func 25) #[] #[])) 11 (Value.func (Fn.func 26) #[] #[])) 1).getD .nilFunc = Value.func (Fn.func 23) #[] #[] from rfl] at hl
  have hkA : Keep (fun k => k = w2.heap.size) w2 x4 := ((Keep.refl (fun k => k = w2.heap.size) w2).alloc (.map #[] 0)).trans hk1 |>.trans hk2 |>.trans hk3 |>.trans hk4
  have HKA := Pin.Aside.mk (Keep.joinR (Keep.refl (fun _ => False) w2) hkA (fun i q => .inr (by rw [q]; exact Nat.le_refl _)))
  have c2x := HKA.out.cell c2 id
  clear hm0 hm1 hm2 hm3 hm4 hk1 hk2 hk3 hk4 hz1 hz2 hz3 hz4 hkA
  go_upto_region 13 with fail
  clear hu1 hu2 hu3 hu4 hl hmm c2x h2 h5' h8 h6
  have hkk := HKA.out
  have HFS2 : Pin.Aside (∀ j, x4.frozen? ⟨S, j, none⟩ = false) := Pin.Aside.mk (fun j => by rw [hkk.frozen (p := ⟨S, j, none⟩) (World.block_lt_of_cell? _ ⟨S, 0, none⟩ s0) id]; exact HFS.out j)
  replace hr0 := hkk.cell hr0 id
  replace hr1 := hkk.cell hr1 id
  replace s0 := hkk.cell s0 id
  replace s1 := hkk.cell s1 id
  replace s2 := hkk.cell s2 id
  replace c0 := hkk.cell c0 id
  replace c1 := hkk.cell c1 id
  replace c2 := hkk.cell c2 id
  replace c3 := hkk.cell c3 id
  replace c4 := hkk.cell c4 id
  replace c5 := hkk.cell c5 id
  replace c6 := hkk.cell c6 id
  replace c7 := hkk.cell c7 id
  replace c8 := hkk.cell c8 id
  replace c9 := hkk.cell c9 id
  replace c10 := hkk.cell c10 id
  replace HF : Pin.Aside (∀ j, x4.frozen? ⟨B + 1, j, none⟩ = false) := Pin.Aside.mk (fun j => by rw [hkk.frozen (p := ⟨B + 1, j, none⟩) (show B + 1 < w2.heap.size from hwl) id]; exact HF.out j)
  replace HK := Pin.Aside.mk (HK.out.trans (hkk.mono fun _ q => q.elim))
  replace HV := Pin.Aside.mk (HV.out.keep' hkk)
  replace hwl : B + 1 < x4.heap.size := Nat.lt_of_lt_of_le hwl hkk.size
  clear hkk
  clear HFS HKA
  have k0 : ∀ s' : KW (fun k => VK b mb mo k ∨ k = S) x4, s'.w.cell? ⟨B, 0, none⟩ = some (.int .u64 term) := fun s' => s'.keep.cell c0 (by rintro ((q | q | q) | q) <;> (dsimp only at q; omega))
  have k1 : ∀ s' : KW (fun k => VK b mb mo k ∨ k = S) x4, s'.w.cell? ⟨B, 1, none⟩ = some (.int .u64 index) := fun s' => s'.keep.cell c1 (by rintro ((q | q | q) | q) <;> (dsimp only at q; omega))
  have k2 : ∀ s' : KW (fun k => VK b mb mo k ∨ k = S) x4, s'.w.cell? ⟨B, 2, none⟩ = some (.int .i64 1) := fun s' => s'.keep.cell c2 (by rintro ((q | q | q) | q) <;> (dsimp only at q; omega))
  have k3 : ∀ s' : KW (fun k => VK b mb mo k ∨ k = S) x4, s'.w.cell? ⟨B, 3, none⟩ = some (.int .u64 client) := fun s' => s'.keep.cell c3 (by rintro ((q | q | q) | q) <;> (dsimp only at q; omega))
  have k4 : ∀ s' : KW (fun k => VK b mb mo k ∨ k = S) x4, s'.w.cell? ⟨B, 4, none⟩ = some (.int .u64 seq) := fun s' => s'.keep.cell c4 (by rintro ((q | q | q) | q) <;> (dsimp only at q; omega))
  have k5 : ∀ s' : KW (fun k => VK b mb mo k ∨ k = S) x4, s'.w.cell? ⟨B, 5, none⟩ = some (.int .u64 block) := fun s' => s'.keep.cell c5 (by rintro ((q | q | q) | q) <;> (dsimp only at q; omega))
  have k6 : ∀ s' : KW (fun k => VK b mb mo k ∨ k = S) x4, s'.w.cell? ⟨B, 6, none⟩ = some (.int .u64 many) := fun s' => s'.keep.cell c6 (by rintro ((q | q | q) | q) <;> (dsimp only at q; omega))
  have k7 : ∀ s' : KW (fun k => VK b mb mo k ∨ k = S) x4, s'.w.cell? ⟨B, 7, none⟩ = some (.int .i64 node) := fun s' => s'.keep.cell c7 (by rintro ((q | q | q) | q) <;> (dsimp only at q; omega))
  have k8 : ∀ s' : KW (fun k => VK b mb mo k ∨ k = S) x4, s'.w.cell? ⟨B, 8, none⟩ = some (.int .i64 level) := fun s' => s'.keep.cell c8 (by rintro ((q | q | q) | q) <;> (dsimp only at q; omega))
  have k9 : ∀ s' : KW (fun k => VK b mb mo k ∨ k = S) x4, s'.w.cell? ⟨B, 9, none⟩ = some (.string data) := fun s' => s'.keep.cell c9 (by rintro ((q | q | q) | q) <;> (dsimp only at q; omega))
  have k10 : ∀ s' : KW (fun k => VK b mb mo k ∨ k = S) x4, s'.w.cell? ⟨B, 10, none⟩ = some (.string old) := fun s' => s'.keep.cell c10 (by rintro ((q | q | q) | q) <;> (dsimp only at q; omega))
  refine wp_region_stay (S := fun w' => ∃ s' : KW (fun k => VK b mb mo k ∨ k = S) x4, w' = s'.w) 5 (by kernel_rfl) (by simp) (by kernel_rfl) (by kernel_rfl) ⟨⟨x4.drew, (Keep.refl _ x4).drew⟩, rfl⟩ ?_
  simp only [List.take_succ_cons, List.take_zero]
  refine wpStay_quietS 5 _ _ (by kernel_rfl) ?_
  simp only [List.take_succ_cons, List.take_zero, List.drop_succ_cons, List.drop_zero]
  repeat (go_big_quiet_step (fail))
  refine wpQuiet_nil ?_
  refine wpStay_nil ?_
  clear k0 k1 k2 k3 k4 k5 k6 k7 k8 k9 k10
  refine wpAnyH_one 5 (by kernel_rfl) rfl (fun K' hK' => ?_)
  go_simp
  refine (HW.out _ (HV.out.keep' (Keep.refl _ x4).drew)).mono ?_
  rintro x w5 ⟨rfl, hV5, hk5⟩
  have hkS : Keep (fun k => VK b mb mo k ∨ k = S) x4 w5 := ((Keep.refl _ x4).drew).trans (hk5.mono fun k q => .inl q)
  have hkk : Keep (VK b mb mo) x4 w5 := ((Keep.refl _ x4).drew).trans hk5
  refine hK'.out _ _ ⟨⟨w5, hkS⟩, rfl⟩ (fun _ => ?_)
  clear hK' K'
  refine wpAnyH_more (g := 1) 6 1 (by simp) (by kernel_rfl) (by kernel_rfl) ⟨⟨w5, hkS⟩, rfl⟩ ?_
  simp only [List.take_succ_cons, List.take_zero, List.drop_succ_cons, List.drop_zero]
  refine wpStay_quietS 1 _ _ (by kernel_rfl) ?_
  simp only [List.take_succ_cons, List.take_zero, List.drop_succ_cons, List.drop_zero]
  repeat (go_big_quiet_step (fail))
  refine wpQuiet_nil ?_
  refine wpStay_nil ?_
  have hwl5 : B + 1 < w5.heap.size := Nat.lt_of_lt_of_le hwl hkk.size
  have HFS5 : Pin.Aside (∀ j, w5.frozen? ⟨S, j, none⟩ = false) := Pin.Aside.mk (fun j => by rw [hkk.frozen (p := ⟨S, j, none⟩) (World.block_lt_of_cell? _ ⟨S, 0, none⟩ s0) (by rintro (q | q | q) <;> (dsimp only at q; omega))]; exact HFS2.out j)
  replace HV := Pin.Aside.mk hV5
  replace hr0 := hkk.cell hr0 (by rintro (q | q | q) <;> (dsimp only at q; omega))
  replace hr1 := hkk.cell hr1 (by rintro (q | q | q) <;> (dsimp only at q; omega))
  replace c3 := hkk.cell c3 (by rintro (q | q | q) <;> (dsimp only at q; omega))
  replace s0 := hkk.cell s0 (by rintro (q | q | q) <;> (dsimp only at q; omega))
  replace s1 := hkk.cell s1 (by rintro (q | q | q) <;> (dsimp only at q; omega))
  replace s2 := hkk.cell s2 (by rintro (q | q | q) <;> (dsimp only at q; omega))
  replace HF : Pin.Aside (∀ j, w5.frozen? ⟨B + 1, j, none⟩ = false) := Pin.Aside.mk (fun j => by rw [hkk.frozen (p := ⟨B + 1, j, none⟩) (show B + 1 < x4.heap.size from hwl) (by rintro (q | q | q) <;> (dsimp only at q; omega))]; exact HF.out j)
  replace HK := Pin.Aside.mk (HK.out.trans hkk)
  clear hkk
  have hfa := HFS5.out 0
  have hfb := HFS5.out 1
  have hfc := HFS5.out 2
  have hks := (((Keep.refl (fun k => k = S) w5).setCell (p := ⟨S, 0, none⟩) (.inl rfl) (.int .u64 seq)).setCell (p := ⟨S, 1, none⟩) (.inl rfl) (.int .i64 e1)).setCell (p := ⟨S, 2, none⟩) (.inl rfl) (.string d1)
  refine wpAnyH_one 7 (by kernel_rfl) rfl (fun K' hK' => ?_)
  go_simp
  refine hK'.out _ _ ⟨⟨_, hkS.trans (hks.mono fun k q => .inr q)⟩, rfl⟩ (fun _ => ?_)
  clear hK' K'
  refine wpAnyH_done (by kernel_rfl) (NoPanic.normal ?_) _
  have t0 : (((w5.setCell ⟨S, 0, none⟩ (.int .u64 seq)).setCell ⟨S, 1, none⟩ (.int .i64 e1)).setCell ⟨S, 2, none⟩ (.string d1)).cell? ⟨S, 0, none⟩ = some (.int .u64 seq) := by simp [go_sem, s0]
  have t1 : (((w5.setCell ⟨S, 0, none⟩ (.int .u64 seq)).setCell ⟨S, 1, none⟩ (.int .i64 e1)).setCell ⟨S, 2, none⟩ (.string d1)).cell? ⟨S, 1, none⟩ = some (.int .i64 e1) := by simp [go_sem, s1]
  have t2 : (((w5.setCell ⟨S, 0, none⟩ (.int .u64 seq)).setCell ⟨S, 1, none⟩ (.int .i64 e1)).setCell ⟨S, 2, none⟩ (.string d1)).cell? ⟨S, 2, none⟩ = some (.string d1) := by simp [go_sem, s2]
  clear s0 s1 s2 hfa hfb hfc hkS hV5 hk5 HFS2 HFS5 HW
  replace hr0 := hks.cell hr0 (by intro q; dsimp only at q; omega)
  replace hr1 := hks.cell hr1 (by intro q; dsimp only at q; omega)
  replace c3 := hks.cell c3 (by intro q; dsimp only at q; omega)
  replace HF : Pin.Aside (∀ j, (((w5.setCell ⟨S, 0, none⟩ (.int .u64 seq)).setCell ⟨S, 1, none⟩ (.int .i64 e1)).setCell ⟨S, 2, none⟩ (.string d1)).frozen? ⟨B + 1, j, none⟩ = false) := Pin.Aside.mk (fun j => by rw [hks.frozen (p := ⟨B + 1, j, none⟩) hwl5 (by intro q; dsimp only at q; omega)]; exact HF.out j)
  replace HV := Pin.Aside.mk (HV.out.keep hks (by intro q; omega) (by intro q; omega) (by intro q; omega))
  have hwS : w.heap.size ≤ S := by omega
  replace HK := Pin.Aside.mk (((HK.out.setCell (p := ⟨S, 0, none⟩) (.inr hwS) (.int .u64 seq)).setCell (p := ⟨S, 1, none⟩) (.inr hwS) (.int .i64 e1)).setCell (p := ⟨S, 2, none⟩) (.inr hwS) (.string d1))
  clear hks c0 c1 c2 c4 c5 c6 c7 c8 c9 c10 hwl hwl5
  go_upto_region 14 with fail
  generalize World.setCell (World.setCell (World.setCell w5 _ _) _ _) _ _ = w6 at *
  have m2 := HV.out.c2
  obtain ⟨w7, hu, hmu, hku, hzu⟩ := run_map_update (P := Tryd.prog) (t := 62) (HV.out.keep' ((Keep.refl (fun _ => False) w6).drew)).om Tryd.underlying62 Tryd.underlying25 client (Ses.val ⟨seq, e1, d1⟩)
  rw [mset_ents] at hmu
  dsimp only [Ses.val] at hu
  have HV7 := Pin.Aside.mk ((HV.out.keep' ((Keep.refl (fun _ => False) w6).drew)).opens hku hmu)
  have hkm : Keep (fun k => k = mo) w6 w7 := ((Keep.refl _ w6).drew).trans hku
  have nmo : ¬ b = mo := fun q => HV.out.n3 q.symm
  have k0 : ∀ s' : KW (fun k => k = mo) w6, s'.w.cell? ⟨b, 2, none⟩ = some (.map (some mo)) := fun s' => s'.keep.cell m2 nmo
  have k1 : ∀ s' : KW (fun k => k = mo) w6, s'.w.cell? ⟨B, 3, none⟩ = some (.int .u64 client) := fun s' => s'.keep.cell c3 (by intro q; dsimp only at q; omega)
  have k2 : ∀ s' : KW (fun k => k = mo) w6, s'.w.cell? ⟨S, 0, none⟩ = some (.int .u64 seq) := fun s' => s'.keep.cell t0 (by intro q; dsimp only at q; omega)
  have k3 : ∀ s' : KW (fun k => k = mo) w6, s'.w.cell? ⟨S, 1, none⟩ = some (.int .i64 e1) := fun s' => s'.keep.cell t1 (by intro q; dsimp only at q; omega)
  have k4 : ∀ s' : KW (fun k => k = mo) w6, s'.w.cell? ⟨S, 2, none⟩ = some (.string d1) := fun s' => s'.keep.cell t2 (by intro q; dsimp only at q; omega)
  refine wp_region_stay (S := fun w' => ∃ s' : KW (fun k => k = mo) w6, w' = s'.w) 7 (by kernel_rfl) (by simp) (by kernel_rfl) (by kernel_rfl) ⟨⟨w6.drew, (Keep.refl _ w6).drew⟩, rfl⟩ ?_
  simp only [List.take_succ_cons, List.take_zero]
  refine wpStay_quietS 1 _ _ (by kernel_rfl) ?_
  simp only [List.take_succ_cons, List.take_zero, List.drop_succ_cons, List.drop_zero]
  repeat (go_big_quiet_step (fail))
  refine wpQuiet_nil ?_
  refine wpStay_call (.pointer (some ⟨b, 0, none⟩)) (by rfl) (fun w' hw' => by unfold Oper.quietAt; go_simp) ?_
  go_simp
  refine wpStay_quietS 5 _ _ (by kernel_rfl) ?_
  simp only [List.take_succ_cons, List.take_zero, List.drop_succ_cons, List.drop_zero]
  repeat (go_big_quiet_step (fail))
  refine wpQuiet_nil ?_
  refine wpStay_nil ?_
  clear k0 k1 k2 k3 k4 m2
  refine wpAnyH_one 7 (by kernel_rfl) rfl (fun K' hK' => ?_)
  go_simp
  refine hK'.out _ _ ⟨⟨w7, hkm⟩, rfl⟩ (fun _ => ?_)
  clear hK' K'
  refine wpAnyH_done (by kernel_rfl) (NoPanic.normal ?_) _
  have hwl6 : B + 1 < w6.heap.size := World.block_lt_of_cell? _ _ hr0
  replace t1 := hkm.cell t1 (by intro q; dsimp only at q; omega)
  replace t2 := hkm.cell t2 (by intro q; dsimp only at q; omega)
  replace hr0 := hkm.cell hr0 (by intro q; dsimp only at q; omega)
  replace hr1 := hkm.cell hr1 (by intro q; dsimp only at q; omega)
  replace HF : Pin.Aside (∀ j, w7.frozen? ⟨B + 1, j, none⟩ = false) := Pin.Aside.mk (fun j => by rw [hkm.frozen (p := ⟨B + 1, j, none⟩) hwl6 (by intro q; dsimp only at q; omega)]; exact HF.out j)
  replace HK := Pin.Aside.mk (HK.out.trans (hkm.mono (T := VK b mb mo) fun k q => .inr (.inr q)))
  replace HV := HV7
  clear HV7 hu hmu hku hzu hkm t0 c3 hwl6
  have hfa := HF.out 0
  have hfb := HF.out 1
  have hks := ((Keep.refl (fun k => k = B + 1) w7).setCell (p := ⟨B + 1, 0, none⟩) (.inl rfl) (.int .i64 e1)).setCell (p := ⟨B + 1, 1, none⟩) (.inl rfl) (.string d1)
  have HV' := Pin.Aside.mk (HV.out.keep hks (by intro q; omega) (by intro q; omega) (by intro q; omega))
  have HK' := Pin.Aside.mk ((HK.out.setCell (p := ⟨B + 1, 0, none⟩) (.inr (by show w.heap.size ≤ B + 1; omega)) (.int .i64 e1)).setCell (p := ⟨B + 1, 1, none⟩) (.inr (by show w.heap.size ≤ B + 1; omega)) (.string d1))
  clear hks HV HK HF
  go_wp2_with fail
  refine bodyPost_ret (v := .agg #[.int .i64 e1, .string d1]) (by simp [results, Tryd.results12, go_sem, *]) rfl ?_
  rw [HR.out]
  exact ⟨rfl, HV'.out, HK'.out⟩
set_option maxHeartbeats 6400000 in
theorem vd_apply_trim (b mb mo : Nat) (D : Vd) (e : En) (ho : e.ok) (hd : D.ok) (h1 : e.right = true) (h2 : ¬ e.client = 0) (h3 : e.kind = 2) (h4 : (aget D.opens e.client).isSome = true) (h6 : (Vd.ses D e.client).seq < e.seq) (h7 : 0 ≤ (Vd.ses D e.client).seq) (w : World) (h : VdAt w b mb mo D) :
    Calls Tryd.prog 12 #[.pointer (some ⟨b, 0, none⟩), .agg e.cells] w fun x w' => x = .returned (D.apply e).2.val ∧ VdAt w' b mb mo (D.apply e).1 ∧ Keep (VK b mb mo) w w' := by
  have hse := str_beq
  have hlt := h.lt
  have hk := (Keep.refl (fun _ => False) w).alloc (.cells e.cells 31)
  have hk2 := (Keep.refl (fun _ => False) (w.alloc (.cells e.cells 31))).alloc (.cells #[.int .i64 0, .string ⟨#[]⟩] 28)
  have hE2 := (EnAt.new w 31 e).keep hk2 id
  have hr0 : ((w.alloc (.cells e.cells 31)).alloc (.cells #[.int .i64 0, .string ⟨#[]⟩] 28)).cell? ⟨w.heap.size + 1, 0, none⟩ = some (.int .i64 0) := by simp
  have hr1 : ((w.alloc (.cells e.cells 31)).alloc (.cells #[.int .i64 0, .string ⟨#[]⟩] 28)).cell? ⟨w.heap.size + 1, 1, none⟩ = some (.string ⟨#[]⟩) := by simp
  have hf0 : ∀ j, ((w.alloc (.cells e.cells 31)).alloc (.cells #[.int .i64 0, .string ⟨#[]⟩] 28)).frozen? ⟨w.heap.size + 1, j, none⟩ = false := by intro j; simp
  have HV := Pin.Aside.mk (h.keep' (hk.trans hk2))
  have HK := Pin.Aside.mk ((hk.trans hk2).mono (T := VK b mb mo) fun _ q => q.elim)
  have Hr := Pin.Aside.mk (fun W => en_right e ho W)
  have hdm : 0 ≤ D.many ∧ D.many ≤ 18446744073709551615 := ⟨hd.many.1, by have := hd.many.2; omega⟩
  have HW := Pin.Aside.mk (fun W (hW : VdAt W b mb mo D) => vd_trim b mb mo D e ho hdm W hW)
  obtain ⟨⟨D1, e1, d1⟩, hwr⟩ : ∃ r, D.trim e = r := ⟨_, rfl⟩
  rw [hwr] at HW
  have HR := Pin.Aside.mk (show D.apply e = ({ D1 with opens := aset D1.opens e.client ⟨e.seq, e1, d1⟩ }, ⟨e1, d1⟩) by
    have hdo : D.does e = (D1, ⟨e1, d1⟩) := by
      unfold Vd.does
      rw [h3]
      exact hwr
    unfold Vd.apply
    rw [if_neg (by rw [h1]; decide), if_neg h2, if_neg (by rw [h3]; decide), hdo]
    cases hq : aget D.opens e.client with
    | none => rw [hq] at h4; cases h4
    | some s =>
      have hs : Vd.ses D e.client = s := by unfold Vd.ses; rw [hq]; rfl
      rw [hs] at h6 h7
      simp only
      rw [if_neg (by rintro (q | q) <;> omega), if_pos h6])
  obtain ⟨⟨sq, se, sd⟩, hss⟩ : ∃ r, Vd.ses D e.client = r := ⟨_, rfl⟩
  obtain ⟨okk, hok⟩ : ∃ r, (aget D.opens e.client).isSome = r := ⟨_, rfl⟩
  have HSS := Pin.Aside.mk (And.intro hss hok)
  rw [h1] at Hr
  have H2 := Pin.Aside.mk h2
  have H3 := Pin.Aside.mk h3
  rw [hss] at h6 h7
  have H6 := Pin.Aside.mk h6
  have H7 := Pin.Aside.mk h7
  have HOK : Pin.Aside (okk = true) := Pin.Aside.mk (hok.symm.trans h4)
  clear h1 h2 h3 h4 hss hok h6 h7 hwr
  have HD := Pin.Aside.mk hd
  clear ho hd
  clear h hk hk2
  obtain ⟨term, index, kind, client, seq, block, many, node, level, data, old⟩ := e
  dsimp only [En.cells] at *
  go_enter Tryd.func12, Tryd.ntmps12
  go_upto_region 1 with fail
  generalize World.alloc (World.alloc _ _) _ = wa at *
  generalize hB : w.heap.size = B at *
  have HF := Pin.Aside.mk hf0
  clear hf0
  obtain ⟨c0, c1, c2, c3, c4, c5, c6, c7, c8, c9, c10⟩ := hE2
  dsimp only at c0 c1 c2 c3 c4 c5 c6 c7 c8 c9 c10
  simp only [Nat.zero_add] at c0 c1 c2 c3 c4 c5 c6 c7 c8 c9 c10
  have hwl : B + 1 < wa.heap.size := World.block_lt_of_cell? _ _ hr0
  go_wp2_with fail
  refine (Hr.out _).mono ?_
  rintro x w1 ⟨rfl, hbb⟩
  have hkk : Keep (fun _ => False) wa w1 := Keep.of_below hbb fun _ q _ => q
  replace hr0 := hkk.cell hr0 id
  replace hr1 := hkk.cell hr1 id
  replace c0 := hkk.cell c0 id
  replace c1 := hkk.cell c1 id
  replace c2 := hkk.cell c2 id
  replace c3 := hkk.cell c3 id
  replace c4 := hkk.cell c4 id
  replace c5 := hkk.cell c5 id
  replace c6 := hkk.cell c6 id
  replace c7 := hkk.cell c7 id
  replace c8 := hkk.cell c8 id
  replace c9 := hkk.cell c9 id
  replace c10 := hkk.cell c10 id
  replace HF : Pin.Aside (∀ j, w1.frozen? ⟨B + 1, j, none⟩ = false) := Pin.Aside.mk (fun j => by rw [hkk.frozen (p := ⟨B + 1, j, none⟩) (show B + 1 < wa.heap.size from hwl) id]; exact HF.out j)
  replace HK := Pin.Aside.mk (HK.out.trans (hkk.mono fun _ q => q.elim))
  replace HV := Pin.Aside.mk (HV.out.keep' hkk)
  replace hwl : B + 1 < w1.heap.size := Nat.lt_of_lt_of_le hwl hkk.size
  clear hkk
  clear hbb Hr
  have h2 : (client == 0) = false := beq_false_of_ne H2.out
  have h3 := H3.out
  try dsimp only at h3
  clear H3
  subst h3
  have m2 := HV.out.c2
  have hlS : ∀ s' : KW (fun _ => False) w1, (Instr.lookup 62 (.map (some mo)) (.int .u64 client) true).run Tryd.prog s'.w = .ok (.tuple #[.agg #[.int .u64 sq, .int .i64 se, .string sd], .bool okk]) s'.w := fun s' => by
    have := vd_lookupS D b mb mo client s'.w (HV.out.keep' s'.keep)
    rw [HSS.out.1, HSS.out.2] at this
    exact this
  go_upto_region 7 with fail
  have k0 : ∀ s' : KW (fun _ => False) w1, s'.w.cell? ⟨b, 2, none⟩ = some (.map (some mo)) := fun s' => s'.keep.cell m2 id
  have k1 : ∀ s' : KW (fun _ => False) w1, s'.w.cell? ⟨B, 3, none⟩ = some (.int .u64 client) := fun s' => s'.keep.cell c3 id
  refine wp_region_stay (S := fun w' => ∃ s' : KW (fun _ => False) w1, w' = s'.w) 10 (by kernel_rfl) (by simp) (by kernel_rfl) (by kernel_rfl) ⟨⟨w1.drew, (Keep.refl _ w1).drew⟩, rfl⟩ ?_
  simp only [List.take_succ_cons, List.take_zero]
  refine wpStay_quietS 1 _ _ (by kernel_rfl) ?_
  simp only [List.take_succ_cons, List.take_zero, List.drop_succ_cons, List.drop_zero]
  repeat (go_big_quiet_step (fail))
  refine wpQuiet_nil ?_
  refine wpStay_call (.pointer (some ⟨b, 0, none⟩)) (by rfl) (fun w' hw' => by unfold Oper.quietAt; go_simp) ?_
  go_simp
  refine wpStay_quietSN 8 _ _ (by kernel_rfl) ?_
  simp only [List.take_succ_cons, List.take_zero, List.drop_succ_cons, List.drop_zero]
  repeat (go_big_quiet_step (fail))
  refine wpQuiet_nil ?_
  refine wpStay_nil ?_
  clear k0 k1 hlS m2
  have hkz := ((Keep.refl (fun _ => False) w1).alloc (.cells #[.int .u64 0, .int .i64 0, .string ⟨#[]⟩] 59)).drew
  have hkk := ((Keep.refl (fun _ => False) w1).alloc (.cells #[.int .u64 sq, .int .i64 se, .string sd] 59)).drew
  have s0 : ((w1.alloc (.cells #[.int .u64 sq, .int .i64 se, .string sd] 59)).drew).cell? ⟨w1.heap.size, 0, none⟩ = some (.int .u64 sq) := by simp
  have s1 : ((w1.alloc (.cells #[.int .u64 sq, .int .i64 se, .string sd] 59)).drew).cell? ⟨w1.heap.size, 1, none⟩ = some (.int .i64 se) := by simp
  have s2 : ((w1.alloc (.cells #[.int .u64 sq, .int .i64 se, .string sd] 59)).drew).cell? ⟨w1.heap.size, 2, none⟩ = some (.string sd) := by simp
  have hfs : ∀ j, ((w1.alloc (.cells #[.int .u64 sq, .int .i64 se, .string sd] 59)).drew).frozen? ⟨w1.heap.size, j, none⟩ = false := by intro j; simp
  refine wpAnyH_one 10 (by kernel_rfl) rfl (fun K' hK' => ?_)
  go_simp
  refine hK'.out _ _ ⟨⟨_, hkz⟩, rfl⟩ (fun _ => ?_)
  clear hK' K'
  refine wpAnyH_one 11 (by kernel_rfl) rfl (fun K' hK' => ?_)
  go_simp
  refine hK'.out _ _ ⟨⟨_, hkk⟩, rfl⟩ (fun _ => ?_)
  clear hK' K'
  refine wpAnyH_more (g := 0) 12 1 (by simp) (by kernel_rfl) (by kernel_rfl) ⟨⟨_, hkk⟩, rfl⟩ ?_
  simp only [List.take_succ_cons, List.take_zero, List.drop_succ_cons, List.drop_zero]
  refine wpStay_quietS 1 _ _ (by kernel_rfl) ?_
  simp only [List.take_succ_cons, List.take_zero, List.drop_succ_cons, List.drop_zero]
  repeat (go_big_quiet_step (fail))
  refine wpQuiet_nil ?_
  refine wpStay_nil ?_
  refine wpAnyH_done (by kernel_rfl) (NoPanic.normal ?_) _
  clear hkz
  generalize (World.alloc w1 _).drew = w2 at *
  have HFS := Pin.Aside.mk hfs
  have hSB : B + 1 < w1.heap.size := hwl
  have hS0 : w1.heap.size = w1.heap.size := rfl
  replace hr0 := hkk.cell hr0 id
  replace hr1 := hkk.cell hr1 id
  replace c0 := hkk.cell c0 id
  replace c1 := hkk.cell c1 id
  replace c2 := hkk.cell c2 id
  replace c3 := hkk.cell c3 id
  replace c4 := hkk.cell c4 id
  replace c5 := hkk.cell c5 id
  replace c6 := hkk.cell c6 id
  replace c7 := hkk.cell c7 id
  replace c8 := hkk.cell c8 id
  replace c9 := hkk.cell c9 id
  replace c10 := hkk.cell c10 id
  replace HF : Pin.Aside (∀ j, w2.frozen? ⟨B + 1, j, none⟩ = false) := Pin.Aside.mk (fun j => by rw [hkk.frozen (p := ⟨B + 1, j, none⟩) (show B + 1 < w1.heap.size from hwl) id]; exact HF.out j)
  replace HK := Pin.Aside.mk (HK.out.trans (hkk.mono fun _ q => q.elim))
  replace HV := Pin.Aside.mk (HV.out.keep' hkk)
  replace hwl : B + 1 < w2.heap.size := Nat.lt_of_lt_of_le hwl hkk.size
  clear hkk
  generalize w1.heap.size = S at *
  clear hfs hS0
  have hokt := HOK.out
  have h6 := H6.out
  have h7 := H7.out
  try dsimp only at h6 h7
  have h5' : (seq == 0) = false := by rw [beq_eq_false_iff_ne]; omega
  have h8 : ¬ seq < sq := by omega
  clear HOK H6 H7 h7
  subst hokt
  have hmm := @run_makeMap Tryd.prog
  have hm0 := MapAt.made w2 .i64
  obtain ⟨x1, hu1, hm1, hk1, hz1⟩ := run_map_update (P := Tryd.prog) (t := 66) hm0 Tryd.underlying66 Tryd.underlying3 1 (Value.func (Fn.func 23) #[] #[])
  obtain ⟨x2, hu2, hm2, hk2, hz2⟩ := run_map_update (P := Tryd.prog) (t := 66) hm1 Tryd.underlying66 Tryd.underlying3 2 (Value.func (Fn.func 24) #[] #[])
  obtain ⟨x3, hu3, hm3, hk3, hz3⟩ := run_map_update (P := Tryd.prog) (t := 66) hm2 Tryd.underlying66 Tryd.underlying3 3 (Value.func (Fn.func 25) #[] #[])
  obtain ⟨x4, hu4, hm4, hk4, hz4⟩ := run_map_update (P := Tryd.prog) (t := 66) hm3 Tryd.underlying66 Tryd.underlying3 11 (Value.func (Fn.func 26) #[] #[])
  have hl := run_map_lookup (P := Tryd.prog) (t := 66) hm4 Tryd.underlying66 Tryd.underlying3 2 (z := .nilFunc) rfl
  rw [show (mget (mset (mset (mset (mset [] 1 (Value.func (Fn.func 23) #[] #[])) 2 (Value.func (Fn.func 24) #[] #[])) 3 (Value.func (Fn.func 25) #[] #[])) 11 (Value.func (Fn.func 26) #[] #[])) 2).getD .nilFunc = Value.func (Fn.func 24) #[] #[] from rfl] at hl
  have hkA : Keep (fun k => k = w2.heap.size) w2 x4 := ((Keep.refl (fun k => k = w2.heap.size) w2).alloc (.map #[] 0)).trans hk1 |>.trans hk2 |>.trans hk3 |>.trans hk4
  have HKA := Pin.Aside.mk (Keep.joinR (Keep.refl (fun _ => False) w2) hkA (fun i q => .inr (by rw [q]; exact Nat.le_refl _)))
  have c2x := HKA.out.cell c2 id
  clear hm0 hm1 hm2 hm3 hm4 hk1 hk2 hk3 hk4 hz1 hz2 hz3 hz4 hkA
  go_upto_region 13 with fail
  clear hu1 hu2 hu3 hu4 hl hmm c2x h2 h5' h8 h6
  have hkk := HKA.out
  have HFS2 : Pin.Aside (∀ j, x4.frozen? ⟨S, j, none⟩ = false) := Pin.Aside.mk (fun j => by rw [hkk.frozen (p := ⟨S, j, none⟩) (World.block_lt_of_cell? _ ⟨S, 0, none⟩ s0) id]; exact HFS.out j)
  replace hr0 := hkk.cell hr0 id
  replace hr1 := hkk.cell hr1 id
  replace s0 := hkk.cell s0 id
  replace s1 := hkk.cell s1 id
  replace s2 := hkk.cell s2 id
  replace c0 := hkk.cell c0 id
  replace c1 := hkk.cell c1 id
  replace c2 := hkk.cell c2 id
  replace c3 := hkk.cell c3 id
  replace c4 := hkk.cell c4 id
  replace c5 := hkk.cell c5 id
  replace c6 := hkk.cell c6 id
  replace c7 := hkk.cell c7 id
  replace c8 := hkk.cell c8 id
  replace c9 := hkk.cell c9 id
  replace c10 := hkk.cell c10 id
  replace HF : Pin.Aside (∀ j, x4.frozen? ⟨B + 1, j, none⟩ = false) := Pin.Aside.mk (fun j => by rw [hkk.frozen (p := ⟨B + 1, j, none⟩) (show B + 1 < w2.heap.size from hwl) id]; exact HF.out j)
  replace HK := Pin.Aside.mk (HK.out.trans (hkk.mono fun _ q => q.elim))
  replace HV := Pin.Aside.mk (HV.out.keep' hkk)
  replace hwl : B + 1 < x4.heap.size := Nat.lt_of_lt_of_le hwl hkk.size
  clear hkk
  clear HFS HKA
  have k0 : ∀ s' : KW (fun k => VK b mb mo k ∨ k = S) x4, s'.w.cell? ⟨B, 0, none⟩ = some (.int .u64 term) := fun s' => s'.keep.cell c0 (by rintro ((q | q | q) | q) <;> (dsimp only at q; omega))
  have k1 : ∀ s' : KW (fun k => VK b mb mo k ∨ k = S) x4, s'.w.cell? ⟨B, 1, none⟩ = some (.int .u64 index) := fun s' => s'.keep.cell c1 (by rintro ((q | q | q) | q) <;> (dsimp only at q; omega))
  have k2 : ∀ s' : KW (fun k => VK b mb mo k ∨ k = S) x4, s'.w.cell? ⟨B, 2, none⟩ = some (.int .i64 2) := fun s' => s'.keep.cell c2 (by rintro ((q | q | q) | q) <;> (dsimp only at q; omega))
  have k3 : ∀ s' : KW (fun k => VK b mb mo k ∨ k = S) x4, s'.w.cell? ⟨B, 3, none⟩ = some (.int .u64 client) := fun s' => s'.keep.cell c3 (by rintro ((q | q | q) | q) <;> (dsimp only at q; omega))
  have k4 : ∀ s' : KW (fun k => VK b mb mo k ∨ k = S) x4, s'.w.cell? ⟨B, 4, none⟩ = some (.int .u64 seq) := fun s' => s'.keep.cell c4 (by rintro ((q | q | q) | q) <;> (dsimp only at q; omega))
  have k5 : ∀ s' : KW (fun k => VK b mb mo k ∨ k = S) x4, s'.w.cell? ⟨B, 5, none⟩ = some (.int .u64 block) := fun s' => s'.keep.cell c5 (by rintro ((q | q | q) | q) <;> (dsimp only at q; omega))
  have k6 : ∀ s' : KW (fun k => VK b mb mo k ∨ k = S) x4, s'.w.cell? ⟨B, 6, none⟩ = some (.int .u64 many) := fun s' => s'.keep.cell c6 (by rintro ((q | q | q) | q) <;> (dsimp only at q; omega))
  have k7 : ∀ s' : KW (fun k => VK b mb mo k ∨ k = S) x4, s'.w.cell? ⟨B, 7, none⟩ = some (.int .i64 node) := fun s' => s'.keep.cell c7 (by rintro ((q | q | q) | q) <;> (dsimp only at q; omega))
  have k8 : ∀ s' : KW (fun k => VK b mb mo k ∨ k = S) x4, s'.w.cell? ⟨B, 8, none⟩ = some (.int .i64 level) := fun s' => s'.keep.cell c8 (by rintro ((q | q | q) | q) <;> (dsimp only at q; omega))
  have k9 : ∀ s' : KW (fun k => VK b mb mo k ∨ k = S) x4, s'.w.cell? ⟨B, 9, none⟩ = some (.string data) := fun s' => s'.keep.cell c9 (by rintro ((q | q | q) | q) <;> (dsimp only at q; omega))
  have k10 : ∀ s' : KW (fun k => VK b mb mo k ∨ k = S) x4, s'.w.cell? ⟨B, 10, none⟩ = some (.string old) := fun s' => s'.keep.cell c10 (by rintro ((q | q | q) | q) <;> (dsimp only at q; omega))
  refine wp_region_stay (S := fun w' => ∃ s' : KW (fun k => VK b mb mo k ∨ k = S) x4, w' = s'.w) 5 (by kernel_rfl) (by simp) (by kernel_rfl) (by kernel_rfl) ⟨⟨x4.drew, (Keep.refl _ x4).drew⟩, rfl⟩ ?_
  simp only [List.take_succ_cons, List.take_zero]
  refine wpStay_quietS 5 _ _ (by kernel_rfl) ?_
  simp only [List.take_succ_cons, List.take_zero, List.drop_succ_cons, List.drop_zero]
  repeat (go_big_quiet_step (fail))
  refine wpQuiet_nil ?_
  refine wpStay_nil ?_
  clear k0 k1 k2 k3 k4 k5 k6 k7 k8 k9 k10
  refine wpAnyH_one 5 (by kernel_rfl) rfl (fun K' hK' => ?_)
  go_simp
  refine (HW.out _ (HV.out.keep' (Keep.refl _ x4).drew)).mono ?_
  rintro x w5 ⟨rfl, hV5, hk5⟩
  have hkS : Keep (fun k => VK b mb mo k ∨ k = S) x4 w5 := ((Keep.refl _ x4).drew).trans (hk5.mono fun k q => .inl q)
  have hkk : Keep (VK b mb mo) x4 w5 := ((Keep.refl _ x4).drew).trans hk5
  refine hK'.out _ _ ⟨⟨w5, hkS⟩, rfl⟩ (fun _ => ?_)
  clear hK' K'
  refine wpAnyH_more (g := 1) 6 1 (by simp) (by kernel_rfl) (by kernel_rfl) ⟨⟨w5, hkS⟩, rfl⟩ ?_
  simp only [List.take_succ_cons, List.take_zero, List.drop_succ_cons, List.drop_zero]
  refine wpStay_quietS 1 _ _ (by kernel_rfl) ?_
  simp only [List.take_succ_cons, List.take_zero, List.drop_succ_cons, List.drop_zero]
  repeat (go_big_quiet_step (fail))
  refine wpQuiet_nil ?_
  refine wpStay_nil ?_
  have hwl5 : B + 1 < w5.heap.size := Nat.lt_of_lt_of_le hwl hkk.size
  have HFS5 : Pin.Aside (∀ j, w5.frozen? ⟨S, j, none⟩ = false) := Pin.Aside.mk (fun j => by rw [hkk.frozen (p := ⟨S, j, none⟩) (World.block_lt_of_cell? _ ⟨S, 0, none⟩ s0) (by rintro (q | q | q) <;> (dsimp only at q; omega))]; exact HFS2.out j)
  replace HV := Pin.Aside.mk hV5
  replace hr0 := hkk.cell hr0 (by rintro (q | q | q) <;> (dsimp only at q; omega))
  replace hr1 := hkk.cell hr1 (by rintro (q | q | q) <;> (dsimp only at q; omega))
  replace c3 := hkk.cell c3 (by rintro (q | q | q) <;> (dsimp only at q; omega))
  replace s0 := hkk.cell s0 (by rintro (q | q | q) <;> (dsimp only at q; omega))
  replace s1 := hkk.cell s1 (by rintro (q | q | q) <;> (dsimp only at q; omega))
  replace s2 := hkk.cell s2 (by rintro (q | q | q) <;> (dsimp only at q; omega))
  replace HF : Pin.Aside (∀ j, w5.frozen? ⟨B + 1, j, none⟩ = false) := Pin.Aside.mk (fun j => by rw [hkk.frozen (p := ⟨B + 1, j, none⟩) (show B + 1 < x4.heap.size from hwl) (by rintro (q | q | q) <;> (dsimp only at q; omega))]; exact HF.out j)
  replace HK := Pin.Aside.mk (HK.out.trans hkk)
  clear hkk
  have hfa := HFS5.out 0
  have hfb := HFS5.out 1
  have hfc := HFS5.out 2
  have hks := (((Keep.refl (fun k => k = S) w5).setCell (p := ⟨S, 0, none⟩) (.inl rfl) (.int .u64 seq)).setCell (p := ⟨S, 1, none⟩) (.inl rfl) (.int .i64 e1)).setCell (p := ⟨S, 2, none⟩) (.inl rfl) (.string d1)
  refine wpAnyH_one 7 (by kernel_rfl) rfl (fun K' hK' => ?_)
  go_simp
  refine hK'.out _ _ ⟨⟨_, hkS.trans (hks.mono fun k q => .inr q)⟩, rfl⟩ (fun _ => ?_)
  clear hK' K'
  refine wpAnyH_done (by kernel_rfl) (NoPanic.normal ?_) _
  have t0 : (((w5.setCell ⟨S, 0, none⟩ (.int .u64 seq)).setCell ⟨S, 1, none⟩ (.int .i64 e1)).setCell ⟨S, 2, none⟩ (.string d1)).cell? ⟨S, 0, none⟩ = some (.int .u64 seq) := by simp [go_sem, s0]
  have t1 : (((w5.setCell ⟨S, 0, none⟩ (.int .u64 seq)).setCell ⟨S, 1, none⟩ (.int .i64 e1)).setCell ⟨S, 2, none⟩ (.string d1)).cell? ⟨S, 1, none⟩ = some (.int .i64 e1) := by simp [go_sem, s1]
  have t2 : (((w5.setCell ⟨S, 0, none⟩ (.int .u64 seq)).setCell ⟨S, 1, none⟩ (.int .i64 e1)).setCell ⟨S, 2, none⟩ (.string d1)).cell? ⟨S, 2, none⟩ = some (.string d1) := by simp [go_sem, s2]
  clear s0 s1 s2 hfa hfb hfc hkS hV5 hk5 HFS2 HFS5 HW
  replace hr0 := hks.cell hr0 (by intro q; dsimp only at q; omega)
  replace hr1 := hks.cell hr1 (by intro q; dsimp only at q; omega)
  replace c3 := hks.cell c3 (by intro q; dsimp only at q; omega)
  replace HF : Pin.Aside (∀ j, (((w5.setCell ⟨S, 0, none⟩ (.int .u64 seq)).setCell ⟨S, 1, none⟩ (.int .i64 e1)).setCell ⟨S, 2, none⟩ (.string d1)).frozen? ⟨B + 1, j, none⟩ = false) := Pin.Aside.mk (fun j => by rw [hks.frozen (p := ⟨B + 1, j, none⟩) hwl5 (by intro q; dsimp only at q; omega)]; exact HF.out j)
  replace HV := Pin.Aside.mk (HV.out.keep hks (by intro q; omega) (by intro q; omega) (by intro q; omega))
  have hwS : w.heap.size ≤ S := by omega
  replace HK := Pin.Aside.mk (((HK.out.setCell (p := ⟨S, 0, none⟩) (.inr hwS) (.int .u64 seq)).setCell (p := ⟨S, 1, none⟩) (.inr hwS) (.int .i64 e1)).setCell (p := ⟨S, 2, none⟩) (.inr hwS) (.string d1))
  clear hks c0 c1 c2 c4 c5 c6 c7 c8 c9 c10 hwl hwl5
  go_upto_region 14 with fail
  generalize World.setCell (World.setCell (World.setCell w5 _ _) _ _) _ _ = w6 at *
  have m2 := HV.out.c2
  obtain ⟨w7, hu, hmu, hku, hzu⟩ := run_map_update (P := Tryd.prog) (t := 62) (HV.out.keep' ((Keep.refl (fun _ => False) w6).drew)).om Tryd.underlying62 Tryd.underlying25 client (Ses.val ⟨seq, e1, d1⟩)
  rw [mset_ents] at hmu
  dsimp only [Ses.val] at hu
  have HV7 := Pin.Aside.mk ((HV.out.keep' ((Keep.refl (fun _ => False) w6).drew)).opens hku hmu)
  have hkm : Keep (fun k => k = mo) w6 w7 := ((Keep.refl _ w6).drew).trans hku
  have nmo : ¬ b = mo := fun q => HV.out.n3 q.symm
  have k0 : ∀ s' : KW (fun k => k = mo) w6, s'.w.cell? ⟨b, 2, none⟩ = some (.map (some mo)) := fun s' => s'.keep.cell m2 nmo
  have k1 : ∀ s' : KW (fun k => k = mo) w6, s'.w.cell? ⟨B, 3, none⟩ = some (.int .u64 client) := fun s' => s'.keep.cell c3 (by intro q; dsimp only at q; omega)
  have k2 : ∀ s' : KW (fun k => k = mo) w6, s'.w.cell? ⟨S, 0, none⟩ = some (.int .u64 seq) := fun s' => s'.keep.cell t0 (by intro q; dsimp only at q; omega)
  have k3 : ∀ s' : KW (fun k => k = mo) w6, s'.w.cell? ⟨S, 1, none⟩ = some (.int .i64 e1) := fun s' => s'.keep.cell t1 (by intro q; dsimp only at q; omega)
  have k4 : ∀ s' : KW (fun k => k = mo) w6, s'.w.cell? ⟨S, 2, none⟩ = some (.string d1) := fun s' => s'.keep.cell t2 (by intro q; dsimp only at q; omega)
  refine wp_region_stay (S := fun w' => ∃ s' : KW (fun k => k = mo) w6, w' = s'.w) 7 (by kernel_rfl) (by simp) (by kernel_rfl) (by kernel_rfl) ⟨⟨w6.drew, (Keep.refl _ w6).drew⟩, rfl⟩ ?_
  simp only [List.take_succ_cons, List.take_zero]
  refine wpStay_quietS 1 _ _ (by kernel_rfl) ?_
  simp only [List.take_succ_cons, List.take_zero, List.drop_succ_cons, List.drop_zero]
  repeat (go_big_quiet_step (fail))
  refine wpQuiet_nil ?_
  refine wpStay_call (.pointer (some ⟨b, 0, none⟩)) (by rfl) (fun w' hw' => by unfold Oper.quietAt; go_simp) ?_
  go_simp
  refine wpStay_quietS 5 _ _ (by kernel_rfl) ?_
  simp only [List.take_succ_cons, List.take_zero, List.drop_succ_cons, List.drop_zero]
  repeat (go_big_quiet_step (fail))
  refine wpQuiet_nil ?_
  refine wpStay_nil ?_
  clear k0 k1 k2 k3 k4 m2
  refine wpAnyH_one 7 (by kernel_rfl) rfl (fun K' hK' => ?_)
  go_simp
  refine hK'.out _ _ ⟨⟨w7, hkm⟩, rfl⟩ (fun _ => ?_)
  clear hK' K'
  refine wpAnyH_done (by kernel_rfl) (NoPanic.normal ?_) _
  have hwl6 : B + 1 < w6.heap.size := World.block_lt_of_cell? _ _ hr0
  replace t1 := hkm.cell t1 (by intro q; dsimp only at q; omega)
  replace t2 := hkm.cell t2 (by intro q; dsimp only at q; omega)
  replace hr0 := hkm.cell hr0 (by intro q; dsimp only at q; omega)
  replace hr1 := hkm.cell hr1 (by intro q; dsimp only at q; omega)
  replace HF : Pin.Aside (∀ j, w7.frozen? ⟨B + 1, j, none⟩ = false) := Pin.Aside.mk (fun j => by rw [hkm.frozen (p := ⟨B + 1, j, none⟩) hwl6 (by intro q; dsimp only at q; omega)]; exact HF.out j)
  replace HK := Pin.Aside.mk (HK.out.trans (hkm.mono (T := VK b mb mo) fun k q => .inr (.inr q)))
  replace HV := HV7
  clear HV7 hu hmu hku hzu hkm t0 c3 hwl6
  have hfa := HF.out 0
  have hfb := HF.out 1
  have hks := ((Keep.refl (fun k => k = B + 1) w7).setCell (p := ⟨B + 1, 0, none⟩) (.inl rfl) (.int .i64 e1)).setCell (p := ⟨B + 1, 1, none⟩) (.inl rfl) (.string d1)
  have HV' := Pin.Aside.mk (HV.out.keep hks (by intro q; omega) (by intro q; omega) (by intro q; omega))
  have HK' := Pin.Aside.mk ((HK.out.setCell (p := ⟨B + 1, 0, none⟩) (.inr (by show w.heap.size ≤ B + 1; omega)) (.int .i64 e1)).setCell (p := ⟨B + 1, 1, none⟩) (.inr (by show w.heap.size ≤ B + 1; omega)) (.string d1))
  clear hks HV HK HF
  go_wp2_with fail
  refine bodyPost_ret (v := .agg #[.int .i64 e1, .string d1]) (by simp [results, Tryd.results12, go_sem, *]) rfl ?_
  rw [HR.out]
  exact ⟨rfl, HV'.out, HK'.out⟩
set_option maxHeartbeats 6400000 in
theorem vd_apply_resize (b mb mo : Nat) (D : Vd) (e : En) (ho : e.ok) (hd : D.ok) (h1 : e.right = true) (h2 : ¬ e.client = 0) (h3 : e.kind = 3) (h4 : (aget D.opens e.client).isSome = true) (h6 : (Vd.ses D e.client).seq < e.seq) (h7 : 0 ≤ (Vd.ses D e.client).seq) (w : World) (h : VdAt w b mb mo D) :
    Calls Tryd.prog 12 #[.pointer (some ⟨b, 0, none⟩), .agg e.cells] w fun x w' => x = .returned (D.apply e).2.val ∧ VdAt w' b mb mo (D.apply e).1 ∧ Keep (VK b mb mo) w w' := by
  have hse := str_beq
  have hlt := h.lt
  have hk := (Keep.refl (fun _ => False) w).alloc (.cells e.cells 31)
  have hk2 := (Keep.refl (fun _ => False) (w.alloc (.cells e.cells 31))).alloc (.cells #[.int .i64 0, .string ⟨#[]⟩] 28)
  have hE2 := (EnAt.new w 31 e).keep hk2 id
  have hr0 : ((w.alloc (.cells e.cells 31)).alloc (.cells #[.int .i64 0, .string ⟨#[]⟩] 28)).cell? ⟨w.heap.size + 1, 0, none⟩ = some (.int .i64 0) := by simp
  have hr1 : ((w.alloc (.cells e.cells 31)).alloc (.cells #[.int .i64 0, .string ⟨#[]⟩] 28)).cell? ⟨w.heap.size + 1, 1, none⟩ = some (.string ⟨#[]⟩) := by simp
  have hf0 : ∀ j, ((w.alloc (.cells e.cells 31)).alloc (.cells #[.int .i64 0, .string ⟨#[]⟩] 28)).frozen? ⟨w.heap.size + 1, j, none⟩ = false := by intro j; simp
  have HV := Pin.Aside.mk (h.keep' (hk.trans hk2))
  have HK := Pin.Aside.mk ((hk.trans hk2).mono (T := VK b mb mo) fun _ q => q.elim)
  have Hr := Pin.Aside.mk (fun W => en_right e ho W)
  have hdm : 0 ≤ D.many ∧ D.many ≤ 18446744073709551615 := ⟨hd.many.1, by have := hd.many.2; omega⟩
  have HW := Pin.Aside.mk (fun W (hW : VdAt W b mb mo D) => vd_resize b mb mo D e ho hdm W hW)
  obtain ⟨⟨D1, e1, d1⟩, hwr⟩ : ∃ r, D.resize e = r := ⟨_, rfl⟩
  rw [hwr] at HW
  have HR := Pin.Aside.mk (show D.apply e = ({ D1 with opens := aset D1.opens e.client ⟨e.seq, e1, d1⟩ }, ⟨e1, d1⟩) by
    have hdo : D.does e = (D1, ⟨e1, d1⟩) := by
      unfold Vd.does
      rw [h3]
      exact hwr
    unfold Vd.apply
    rw [if_neg (by rw [h1]; decide), if_neg h2, if_neg (by rw [h3]; decide), hdo]
    cases hq : aget D.opens e.client with
    | none => rw [hq] at h4; cases h4
    | some s =>
      have hs : Vd.ses D e.client = s := by unfold Vd.ses; rw [hq]; rfl
      rw [hs] at h6 h7
      simp only
      rw [if_neg (by rintro (q | q) <;> omega), if_pos h6])
  obtain ⟨⟨sq, se, sd⟩, hss⟩ : ∃ r, Vd.ses D e.client = r := ⟨_, rfl⟩
  obtain ⟨okk, hok⟩ : ∃ r, (aget D.opens e.client).isSome = r := ⟨_, rfl⟩
  have HSS := Pin.Aside.mk (And.intro hss hok)
  rw [h1] at Hr
  have H2 := Pin.Aside.mk h2
  have H3 := Pin.Aside.mk h3
  rw [hss] at h6 h7
  have H6 := Pin.Aside.mk h6
  have H7 := Pin.Aside.mk h7
  have HOK : Pin.Aside (okk = true) := Pin.Aside.mk (hok.symm.trans h4)
  clear h1 h2 h3 h4 hss hok h6 h7 hwr
  have HD := Pin.Aside.mk hd
  clear ho hd
  clear h hk hk2
  obtain ⟨term, index, kind, client, seq, block, many, node, level, data, old⟩ := e
  dsimp only [En.cells] at *
  go_enter Tryd.func12, Tryd.ntmps12
  go_upto_region 1 with fail
  generalize World.alloc (World.alloc _ _) _ = wa at *
  generalize hB : w.heap.size = B at *
  have HF := Pin.Aside.mk hf0
  clear hf0
  obtain ⟨c0, c1, c2, c3, c4, c5, c6, c7, c8, c9, c10⟩ := hE2
  dsimp only at c0 c1 c2 c3 c4 c5 c6 c7 c8 c9 c10
  simp only [Nat.zero_add] at c0 c1 c2 c3 c4 c5 c6 c7 c8 c9 c10
  have hwl : B + 1 < wa.heap.size := World.block_lt_of_cell? _ _ hr0
  go_wp2_with fail
  refine (Hr.out _).mono ?_
  rintro x w1 ⟨rfl, hbb⟩
  have hkk : Keep (fun _ => False) wa w1 := Keep.of_below hbb fun _ q _ => q
  replace hr0 := hkk.cell hr0 id
  replace hr1 := hkk.cell hr1 id
  replace c0 := hkk.cell c0 id
  replace c1 := hkk.cell c1 id
  replace c2 := hkk.cell c2 id
  replace c3 := hkk.cell c3 id
  replace c4 := hkk.cell c4 id
  replace c5 := hkk.cell c5 id
  replace c6 := hkk.cell c6 id
  replace c7 := hkk.cell c7 id
  replace c8 := hkk.cell c8 id
  replace c9 := hkk.cell c9 id
  replace c10 := hkk.cell c10 id
  replace HF : Pin.Aside (∀ j, w1.frozen? ⟨B + 1, j, none⟩ = false) := Pin.Aside.mk (fun j => by rw [hkk.frozen (p := ⟨B + 1, j, none⟩) (show B + 1 < wa.heap.size from hwl) id]; exact HF.out j)
  replace HK := Pin.Aside.mk (HK.out.trans (hkk.mono fun _ q => q.elim))
  replace HV := Pin.Aside.mk (HV.out.keep' hkk)
  replace hwl : B + 1 < w1.heap.size := Nat.lt_of_lt_of_le hwl hkk.size
  clear hkk
  clear hbb Hr
  have h2 : (client == 0) = false := beq_false_of_ne H2.out
  have h3 := H3.out
  try dsimp only at h3
  clear H3
  subst h3
  have m2 := HV.out.c2
  have hlS : ∀ s' : KW (fun _ => False) w1, (Instr.lookup 62 (.map (some mo)) (.int .u64 client) true).run Tryd.prog s'.w = .ok (.tuple #[.agg #[.int .u64 sq, .int .i64 se, .string sd], .bool okk]) s'.w := fun s' => by
    have := vd_lookupS D b mb mo client s'.w (HV.out.keep' s'.keep)
    rw [HSS.out.1, HSS.out.2] at this
    exact this
  go_upto_region 7 with fail
  have k0 : ∀ s' : KW (fun _ => False) w1, s'.w.cell? ⟨b, 2, none⟩ = some (.map (some mo)) := fun s' => s'.keep.cell m2 id
  have k1 : ∀ s' : KW (fun _ => False) w1, s'.w.cell? ⟨B, 3, none⟩ = some (.int .u64 client) := fun s' => s'.keep.cell c3 id
  refine wp_region_stay (S := fun w' => ∃ s' : KW (fun _ => False) w1, w' = s'.w) 10 (by kernel_rfl) (by simp) (by kernel_rfl) (by kernel_rfl) ⟨⟨w1.drew, (Keep.refl _ w1).drew⟩, rfl⟩ ?_
  simp only [List.take_succ_cons, List.take_zero]
  refine wpStay_quietS 1 _ _ (by kernel_rfl) ?_
  simp only [List.take_succ_cons, List.take_zero, List.drop_succ_cons, List.drop_zero]
  repeat (go_big_quiet_step (fail))
  refine wpQuiet_nil ?_
  refine wpStay_call (.pointer (some ⟨b, 0, none⟩)) (by rfl) (fun w' hw' => by unfold Oper.quietAt; go_simp) ?_
  go_simp
  refine wpStay_quietSN 8 _ _ (by kernel_rfl) ?_
  simp only [List.take_succ_cons, List.take_zero, List.drop_succ_cons, List.drop_zero]
  repeat (go_big_quiet_step (fail))
  refine wpQuiet_nil ?_
  refine wpStay_nil ?_
  clear k0 k1 hlS m2
  have hkz := ((Keep.refl (fun _ => False) w1).alloc (.cells #[.int .u64 0, .int .i64 0, .string ⟨#[]⟩] 59)).drew
  have hkk := ((Keep.refl (fun _ => False) w1).alloc (.cells #[.int .u64 sq, .int .i64 se, .string sd] 59)).drew
  have s0 : ((w1.alloc (.cells #[.int .u64 sq, .int .i64 se, .string sd] 59)).drew).cell? ⟨w1.heap.size, 0, none⟩ = some (.int .u64 sq) := by simp
  have s1 : ((w1.alloc (.cells #[.int .u64 sq, .int .i64 se, .string sd] 59)).drew).cell? ⟨w1.heap.size, 1, none⟩ = some (.int .i64 se) := by simp
  have s2 : ((w1.alloc (.cells #[.int .u64 sq, .int .i64 se, .string sd] 59)).drew).cell? ⟨w1.heap.size, 2, none⟩ = some (.string sd) := by simp
  have hfs : ∀ j, ((w1.alloc (.cells #[.int .u64 sq, .int .i64 se, .string sd] 59)).drew).frozen? ⟨w1.heap.size, j, none⟩ = false := by intro j; simp
  refine wpAnyH_one 10 (by kernel_rfl) rfl (fun K' hK' => ?_)
  go_simp
  refine hK'.out _ _ ⟨⟨_, hkz⟩, rfl⟩ (fun _ => ?_)
  clear hK' K'
  refine wpAnyH_one 11 (by kernel_rfl) rfl (fun K' hK' => ?_)
  go_simp
  refine hK'.out _ _ ⟨⟨_, hkk⟩, rfl⟩ (fun _ => ?_)
  clear hK' K'
  refine wpAnyH_more (g := 0) 12 1 (by simp) (by kernel_rfl) (by kernel_rfl) ⟨⟨_, hkk⟩, rfl⟩ ?_
  simp only [List.take_succ_cons, List.take_zero, List.drop_succ_cons, List.drop_zero]
  refine wpStay_quietS 1 _ _ (by kernel_rfl) ?_
  simp only [List.take_succ_cons, List.take_zero, List.drop_succ_cons, List.drop_zero]
  repeat (go_big_quiet_step (fail))
  refine wpQuiet_nil ?_
  refine wpStay_nil ?_
  refine wpAnyH_done (by kernel_rfl) (NoPanic.normal ?_) _
  clear hkz
  generalize (World.alloc w1 _).drew = w2 at *
  have HFS := Pin.Aside.mk hfs
  have hSB : B + 1 < w1.heap.size := hwl
  have hS0 : w1.heap.size = w1.heap.size := rfl
  replace hr0 := hkk.cell hr0 id
  replace hr1 := hkk.cell hr1 id
  replace c0 := hkk.cell c0 id
  replace c1 := hkk.cell c1 id
  replace c2 := hkk.cell c2 id
  replace c3 := hkk.cell c3 id
  replace c4 := hkk.cell c4 id
  replace c5 := hkk.cell c5 id
  replace c6 := hkk.cell c6 id
  replace c7 := hkk.cell c7 id
  replace c8 := hkk.cell c8 id
  replace c9 := hkk.cell c9 id
  replace c10 := hkk.cell c10 id
  replace HF : Pin.Aside (∀ j, w2.frozen? ⟨B + 1, j, none⟩ = false) := Pin.Aside.mk (fun j => by rw [hkk.frozen (p := ⟨B + 1, j, none⟩) (show B + 1 < w1.heap.size from hwl) id]; exact HF.out j)
  replace HK := Pin.Aside.mk (HK.out.trans (hkk.mono fun _ q => q.elim))
  replace HV := Pin.Aside.mk (HV.out.keep' hkk)
  replace hwl : B + 1 < w2.heap.size := Nat.lt_of_lt_of_le hwl hkk.size
  clear hkk
  generalize w1.heap.size = S at *
  clear hfs hS0
  have hokt := HOK.out
  have h6 := H6.out
  have h7 := H7.out
  try dsimp only at h6 h7
  have h5' : (seq == 0) = false := by rw [beq_eq_false_iff_ne]; omega
  have h8 : ¬ seq < sq := by omega
  clear HOK H6 H7 h7
  subst hokt
  have hmm := @run_makeMap Tryd.prog
  have hm0 := MapAt.made w2 .i64
  obtain ⟨x1, hu1, hm1, hk1, hz1⟩ := run_map_update (P := Tryd.prog) (t := 66) hm0 Tryd.underlying66 Tryd.underlying3 1 (Value.func (Fn.func 23) #[] #[])
  obtain ⟨x2, hu2, hm2, hk2, hz2⟩ := run_map_update (P := Tryd.prog) (t := 66) hm1 Tryd.underlying66 Tryd.underlying3 2 (Value.func (Fn.func 24) #[] #[])
  obtain ⟨x3, hu3, hm3, hk3, hz3⟩ := run_map_update (P := Tryd.prog) (t := 66) hm2 Tryd.underlying66 Tryd.underlying3 3 (Value.func (Fn.func 25) #[] #[])
  obtain ⟨x4, hu4, hm4, hk4, hz4⟩ := run_map_update (P := Tryd.prog) (t := 66) hm3 Tryd.underlying66 Tryd.underlying3 11 (Value.func (Fn.func 26) #[] #[])
  have hl := run_map_lookup (P := Tryd.prog) (t := 66) hm4 Tryd.underlying66 Tryd.underlying3 3 (z := .nilFunc) rfl
  rw [show (mget (mset (mset (mset (mset [] 1 (Value.func (Fn.func 23) #[] #[])) 2 (Value.func (Fn.func 24) #[] #[])) 3 (Value.func (Fn.func 25) #[] #[])) 11 (Value.func (Fn.func 26) #[] #[])) 3).getD .nilFunc = Value.func (Fn.func 25) #[] #[] from rfl] at hl
  have hkA : Keep (fun k => k = w2.heap.size) w2 x4 := ((Keep.refl (fun k => k = w2.heap.size) w2).alloc (.map #[] 0)).trans hk1 |>.trans hk2 |>.trans hk3 |>.trans hk4
  have HKA := Pin.Aside.mk (Keep.joinR (Keep.refl (fun _ => False) w2) hkA (fun i q => .inr (by rw [q]; exact Nat.le_refl _)))
  have c2x := HKA.out.cell c2 id
  clear hm0 hm1 hm2 hm3 hm4 hk1 hk2 hk3 hk4 hz1 hz2 hz3 hz4 hkA
  go_upto_region 13 with fail
  clear hu1 hu2 hu3 hu4 hl hmm c2x h2 h5' h8 h6
  have hkk := HKA.out
  have HFS2 : Pin.Aside (∀ j, x4.frozen? ⟨S, j, none⟩ = false) := Pin.Aside.mk (fun j => by rw [hkk.frozen (p := ⟨S, j, none⟩) (World.block_lt_of_cell? _ ⟨S, 0, none⟩ s0) id]; exact HFS.out j)
  replace hr0 := hkk.cell hr0 id
  replace hr1 := hkk.cell hr1 id
  replace s0 := hkk.cell s0 id
  replace s1 := hkk.cell s1 id
  replace s2 := hkk.cell s2 id
  replace c0 := hkk.cell c0 id
  replace c1 := hkk.cell c1 id
  replace c2 := hkk.cell c2 id
  replace c3 := hkk.cell c3 id
  replace c4 := hkk.cell c4 id
  replace c5 := hkk.cell c5 id
  replace c6 := hkk.cell c6 id
  replace c7 := hkk.cell c7 id
  replace c8 := hkk.cell c8 id
  replace c9 := hkk.cell c9 id
  replace c10 := hkk.cell c10 id
  replace HF : Pin.Aside (∀ j, x4.frozen? ⟨B + 1, j, none⟩ = false) := Pin.Aside.mk (fun j => by rw [hkk.frozen (p := ⟨B + 1, j, none⟩) (show B + 1 < w2.heap.size from hwl) id]; exact HF.out j)
  replace HK := Pin.Aside.mk (HK.out.trans (hkk.mono fun _ q => q.elim))
  replace HV := Pin.Aside.mk (HV.out.keep' hkk)
  replace hwl : B + 1 < x4.heap.size := Nat.lt_of_lt_of_le hwl hkk.size
  clear hkk
  clear HFS HKA
  have k0 : ∀ s' : KW (fun k => VK b mb mo k ∨ k = S) x4, s'.w.cell? ⟨B, 0, none⟩ = some (.int .u64 term) := fun s' => s'.keep.cell c0 (by rintro ((q | q | q) | q) <;> (dsimp only at q; omega))
  have k1 : ∀ s' : KW (fun k => VK b mb mo k ∨ k = S) x4, s'.w.cell? ⟨B, 1, none⟩ = some (.int .u64 index) := fun s' => s'.keep.cell c1 (by rintro ((q | q | q) | q) <;> (dsimp only at q; omega))
  have k2 : ∀ s' : KW (fun k => VK b mb mo k ∨ k = S) x4, s'.w.cell? ⟨B, 2, none⟩ = some (.int .i64 3) := fun s' => s'.keep.cell c2 (by rintro ((q | q | q) | q) <;> (dsimp only at q; omega))
  have k3 : ∀ s' : KW (fun k => VK b mb mo k ∨ k = S) x4, s'.w.cell? ⟨B, 3, none⟩ = some (.int .u64 client) := fun s' => s'.keep.cell c3 (by rintro ((q | q | q) | q) <;> (dsimp only at q; omega))
  have k4 : ∀ s' : KW (fun k => VK b mb mo k ∨ k = S) x4, s'.w.cell? ⟨B, 4, none⟩ = some (.int .u64 seq) := fun s' => s'.keep.cell c4 (by rintro ((q | q | q) | q) <;> (dsimp only at q; omega))
  have k5 : ∀ s' : KW (fun k => VK b mb mo k ∨ k = S) x4, s'.w.cell? ⟨B, 5, none⟩ = some (.int .u64 block) := fun s' => s'.keep.cell c5 (by rintro ((q | q | q) | q) <;> (dsimp only at q; omega))
  have k6 : ∀ s' : KW (fun k => VK b mb mo k ∨ k = S) x4, s'.w.cell? ⟨B, 6, none⟩ = some (.int .u64 many) := fun s' => s'.keep.cell c6 (by rintro ((q | q | q) | q) <;> (dsimp only at q; omega))
  have k7 : ∀ s' : KW (fun k => VK b mb mo k ∨ k = S) x4, s'.w.cell? ⟨B, 7, none⟩ = some (.int .i64 node) := fun s' => s'.keep.cell c7 (by rintro ((q | q | q) | q) <;> (dsimp only at q; omega))
  have k8 : ∀ s' : KW (fun k => VK b mb mo k ∨ k = S) x4, s'.w.cell? ⟨B, 8, none⟩ = some (.int .i64 level) := fun s' => s'.keep.cell c8 (by rintro ((q | q | q) | q) <;> (dsimp only at q; omega))
  have k9 : ∀ s' : KW (fun k => VK b mb mo k ∨ k = S) x4, s'.w.cell? ⟨B, 9, none⟩ = some (.string data) := fun s' => s'.keep.cell c9 (by rintro ((q | q | q) | q) <;> (dsimp only at q; omega))
  have k10 : ∀ s' : KW (fun k => VK b mb mo k ∨ k = S) x4, s'.w.cell? ⟨B, 10, none⟩ = some (.string old) := fun s' => s'.keep.cell c10 (by rintro ((q | q | q) | q) <;> (dsimp only at q; omega))
  refine wp_region_stay (S := fun w' => ∃ s' : KW (fun k => VK b mb mo k ∨ k = S) x4, w' = s'.w) 5 (by kernel_rfl) (by simp) (by kernel_rfl) (by kernel_rfl) ⟨⟨x4.drew, (Keep.refl _ x4).drew⟩, rfl⟩ ?_
  simp only [List.take_succ_cons, List.take_zero]
  refine wpStay_quietS 5 _ _ (by kernel_rfl) ?_
  simp only [List.take_succ_cons, List.take_zero, List.drop_succ_cons, List.drop_zero]
  repeat (go_big_quiet_step (fail))
  refine wpQuiet_nil ?_
  refine wpStay_nil ?_
  clear k0 k1 k2 k3 k4 k5 k6 k7 k8 k9 k10
  refine wpAnyH_one 5 (by kernel_rfl) rfl (fun K' hK' => ?_)
  go_simp
  refine (HW.out _ (HV.out.keep' (Keep.refl _ x4).drew)).mono ?_
  rintro x w5 ⟨rfl, hV5, hk5⟩
  have hkS : Keep (fun k => VK b mb mo k ∨ k = S) x4 w5 := ((Keep.refl _ x4).drew).trans (hk5.mono fun k q => .inl q)
  have hkk : Keep (VK b mb mo) x4 w5 := ((Keep.refl _ x4).drew).trans hk5
  refine hK'.out _ _ ⟨⟨w5, hkS⟩, rfl⟩ (fun _ => ?_)
  clear hK' K'
  refine wpAnyH_more (g := 1) 6 1 (by simp) (by kernel_rfl) (by kernel_rfl) ⟨⟨w5, hkS⟩, rfl⟩ ?_
  simp only [List.take_succ_cons, List.take_zero, List.drop_succ_cons, List.drop_zero]
  refine wpStay_quietS 1 _ _ (by kernel_rfl) ?_
  simp only [List.take_succ_cons, List.take_zero, List.drop_succ_cons, List.drop_zero]
  repeat (go_big_quiet_step (fail))
  refine wpQuiet_nil ?_
  refine wpStay_nil ?_
  have hwl5 : B + 1 < w5.heap.size := Nat.lt_of_lt_of_le hwl hkk.size
  have HFS5 : Pin.Aside (∀ j, w5.frozen? ⟨S, j, none⟩ = false) := Pin.Aside.mk (fun j => by rw [hkk.frozen (p := ⟨S, j, none⟩) (World.block_lt_of_cell? _ ⟨S, 0, none⟩ s0) (by rintro (q | q | q) <;> (dsimp only at q; omega))]; exact HFS2.out j)
  replace HV := Pin.Aside.mk hV5
  replace hr0 := hkk.cell hr0 (by rintro (q | q | q) <;> (dsimp only at q; omega))
  replace hr1 := hkk.cell hr1 (by rintro (q | q | q) <;> (dsimp only at q; omega))
  replace c3 := hkk.cell c3 (by rintro (q | q | q) <;> (dsimp only at q; omega))
  replace s0 := hkk.cell s0 (by rintro (q | q | q) <;> (dsimp only at q; omega))
  replace s1 := hkk.cell s1 (by rintro (q | q | q) <;> (dsimp only at q; omega))
  replace s2 := hkk.cell s2 (by rintro (q | q | q) <;> (dsimp only at q; omega))
  replace HF : Pin.Aside (∀ j, w5.frozen? ⟨B + 1, j, none⟩ = false) := Pin.Aside.mk (fun j => by rw [hkk.frozen (p := ⟨B + 1, j, none⟩) (show B + 1 < x4.heap.size from hwl) (by rintro (q | q | q) <;> (dsimp only at q; omega))]; exact HF.out j)
  replace HK := Pin.Aside.mk (HK.out.trans hkk)
  clear hkk
  have hfa := HFS5.out 0
  have hfb := HFS5.out 1
  have hfc := HFS5.out 2
  have hks := (((Keep.refl (fun k => k = S) w5).setCell (p := ⟨S, 0, none⟩) (.inl rfl) (.int .u64 seq)).setCell (p := ⟨S, 1, none⟩) (.inl rfl) (.int .i64 e1)).setCell (p := ⟨S, 2, none⟩) (.inl rfl) (.string d1)
  refine wpAnyH_one 7 (by kernel_rfl) rfl (fun K' hK' => ?_)
  go_simp
  refine hK'.out _ _ ⟨⟨_, hkS.trans (hks.mono fun k q => .inr q)⟩, rfl⟩ (fun _ => ?_)
  clear hK' K'
  refine wpAnyH_done (by kernel_rfl) (NoPanic.normal ?_) _
  have t0 : (((w5.setCell ⟨S, 0, none⟩ (.int .u64 seq)).setCell ⟨S, 1, none⟩ (.int .i64 e1)).setCell ⟨S, 2, none⟩ (.string d1)).cell? ⟨S, 0, none⟩ = some (.int .u64 seq) := by simp [go_sem, s0]
  have t1 : (((w5.setCell ⟨S, 0, none⟩ (.int .u64 seq)).setCell ⟨S, 1, none⟩ (.int .i64 e1)).setCell ⟨S, 2, none⟩ (.string d1)).cell? ⟨S, 1, none⟩ = some (.int .i64 e1) := by simp [go_sem, s1]
  have t2 : (((w5.setCell ⟨S, 0, none⟩ (.int .u64 seq)).setCell ⟨S, 1, none⟩ (.int .i64 e1)).setCell ⟨S, 2, none⟩ (.string d1)).cell? ⟨S, 2, none⟩ = some (.string d1) := by simp [go_sem, s2]
  clear s0 s1 s2 hfa hfb hfc hkS hV5 hk5 HFS2 HFS5 HW
  replace hr0 := hks.cell hr0 (by intro q; dsimp only at q; omega)
  replace hr1 := hks.cell hr1 (by intro q; dsimp only at q; omega)
  replace c3 := hks.cell c3 (by intro q; dsimp only at q; omega)
  replace HF : Pin.Aside (∀ j, (((w5.setCell ⟨S, 0, none⟩ (.int .u64 seq)).setCell ⟨S, 1, none⟩ (.int .i64 e1)).setCell ⟨S, 2, none⟩ (.string d1)).frozen? ⟨B + 1, j, none⟩ = false) := Pin.Aside.mk (fun j => by rw [hks.frozen (p := ⟨B + 1, j, none⟩) hwl5 (by intro q; dsimp only at q; omega)]; exact HF.out j)
  replace HV := Pin.Aside.mk (HV.out.keep hks (by intro q; omega) (by intro q; omega) (by intro q; omega))
  have hwS : w.heap.size ≤ S := by omega
  replace HK := Pin.Aside.mk (((HK.out.setCell (p := ⟨S, 0, none⟩) (.inr hwS) (.int .u64 seq)).setCell (p := ⟨S, 1, none⟩) (.inr hwS) (.int .i64 e1)).setCell (p := ⟨S, 2, none⟩) (.inr hwS) (.string d1))
  clear hks c0 c1 c2 c4 c5 c6 c7 c8 c9 c10 hwl hwl5
  go_upto_region 14 with fail
  generalize World.setCell (World.setCell (World.setCell w5 _ _) _ _) _ _ = w6 at *
  have m2 := HV.out.c2
  obtain ⟨w7, hu, hmu, hku, hzu⟩ := run_map_update (P := Tryd.prog) (t := 62) (HV.out.keep' ((Keep.refl (fun _ => False) w6).drew)).om Tryd.underlying62 Tryd.underlying25 client (Ses.val ⟨seq, e1, d1⟩)
  rw [mset_ents] at hmu
  dsimp only [Ses.val] at hu
  have HV7 := Pin.Aside.mk ((HV.out.keep' ((Keep.refl (fun _ => False) w6).drew)).opens hku hmu)
  have hkm : Keep (fun k => k = mo) w6 w7 := ((Keep.refl _ w6).drew).trans hku
  have nmo : ¬ b = mo := fun q => HV.out.n3 q.symm
  have k0 : ∀ s' : KW (fun k => k = mo) w6, s'.w.cell? ⟨b, 2, none⟩ = some (.map (some mo)) := fun s' => s'.keep.cell m2 nmo
  have k1 : ∀ s' : KW (fun k => k = mo) w6, s'.w.cell? ⟨B, 3, none⟩ = some (.int .u64 client) := fun s' => s'.keep.cell c3 (by intro q; dsimp only at q; omega)
  have k2 : ∀ s' : KW (fun k => k = mo) w6, s'.w.cell? ⟨S, 0, none⟩ = some (.int .u64 seq) := fun s' => s'.keep.cell t0 (by intro q; dsimp only at q; omega)
  have k3 : ∀ s' : KW (fun k => k = mo) w6, s'.w.cell? ⟨S, 1, none⟩ = some (.int .i64 e1) := fun s' => s'.keep.cell t1 (by intro q; dsimp only at q; omega)
  have k4 : ∀ s' : KW (fun k => k = mo) w6, s'.w.cell? ⟨S, 2, none⟩ = some (.string d1) := fun s' => s'.keep.cell t2 (by intro q; dsimp only at q; omega)
  refine wp_region_stay (S := fun w' => ∃ s' : KW (fun k => k = mo) w6, w' = s'.w) 7 (by kernel_rfl) (by simp) (by kernel_rfl) (by kernel_rfl) ⟨⟨w6.drew, (Keep.refl _ w6).drew⟩, rfl⟩ ?_
  simp only [List.take_succ_cons, List.take_zero]
  refine wpStay_quietS 1 _ _ (by kernel_rfl) ?_
  simp only [List.take_succ_cons, List.take_zero, List.drop_succ_cons, List.drop_zero]
  repeat (go_big_quiet_step (fail))
  refine wpQuiet_nil ?_
  refine wpStay_call (.pointer (some ⟨b, 0, none⟩)) (by rfl) (fun w' hw' => by unfold Oper.quietAt; go_simp) ?_
  go_simp
  refine wpStay_quietS 5 _ _ (by kernel_rfl) ?_
  simp only [List.take_succ_cons, List.take_zero, List.drop_succ_cons, List.drop_zero]
  repeat (go_big_quiet_step (fail))
  refine wpQuiet_nil ?_
  refine wpStay_nil ?_
  clear k0 k1 k2 k3 k4 m2
  refine wpAnyH_one 7 (by kernel_rfl) rfl (fun K' hK' => ?_)
  go_simp
  refine hK'.out _ _ ⟨⟨w7, hkm⟩, rfl⟩ (fun _ => ?_)
  clear hK' K'
  refine wpAnyH_done (by kernel_rfl) (NoPanic.normal ?_) _
  have hwl6 : B + 1 < w6.heap.size := World.block_lt_of_cell? _ _ hr0
  replace t1 := hkm.cell t1 (by intro q; dsimp only at q; omega)
  replace t2 := hkm.cell t2 (by intro q; dsimp only at q; omega)
  replace hr0 := hkm.cell hr0 (by intro q; dsimp only at q; omega)
  replace hr1 := hkm.cell hr1 (by intro q; dsimp only at q; omega)
  replace HF : Pin.Aside (∀ j, w7.frozen? ⟨B + 1, j, none⟩ = false) := Pin.Aside.mk (fun j => by rw [hkm.frozen (p := ⟨B + 1, j, none⟩) hwl6 (by intro q; dsimp only at q; omega)]; exact HF.out j)
  replace HK := Pin.Aside.mk (HK.out.trans (hkm.mono (T := VK b mb mo) fun k q => .inr (.inr q)))
  replace HV := HV7
  clear HV7 hu hmu hku hzu hkm t0 c3 hwl6
  have hfa := HF.out 0
  have hfb := HF.out 1
  have hks := ((Keep.refl (fun k => k = B + 1) w7).setCell (p := ⟨B + 1, 0, none⟩) (.inl rfl) (.int .i64 e1)).setCell (p := ⟨B + 1, 1, none⟩) (.inl rfl) (.string d1)
  have HV' := Pin.Aside.mk (HV.out.keep hks (by intro q; omega) (by intro q; omega) (by intro q; omega))
  have HK' := Pin.Aside.mk ((HK.out.setCell (p := ⟨B + 1, 0, none⟩) (.inr (by show w.heap.size ≤ B + 1; omega)) (.int .i64 e1)).setCell (p := ⟨B + 1, 1, none⟩) (.inr (by show w.heap.size ≤ B + 1; omega)) (.string d1))
  clear hks HV HK HF
  go_wp2_with fail
  refine bodyPost_ret (v := .agg #[.int .i64 e1, .string d1]) (by simp [results, Tryd.results12, go_sem, *]) rfl ?_
  rw [HR.out]
  exact ⟨rfl, HV'.out, HK'.out⟩
set_option maxHeartbeats 6400000 in
theorem vd_apply_swap (b mb mo : Nat) (D : Vd) (e : En) (ho : e.ok) (hd : D.ok) (h1 : e.right = true) (h2 : ¬ e.client = 0) (h3 : e.kind = 11) (h4 : (aget D.opens e.client).isSome = true) (h6 : (Vd.ses D e.client).seq < e.seq) (h7 : 0 ≤ (Vd.ses D e.client).seq) (w : World) (h : VdAt w b mb mo D) :
    Calls Tryd.prog 12 #[.pointer (some ⟨b, 0, none⟩), .agg e.cells] w fun x w' => x = .returned (D.apply e).2.val ∧ VdAt w' b mb mo (D.apply e).1 ∧ Keep (VK b mb mo) w w' := by
  have hse := str_beq
  have hlt := h.lt
  have hk := (Keep.refl (fun _ => False) w).alloc (.cells e.cells 31)
  have hk2 := (Keep.refl (fun _ => False) (w.alloc (.cells e.cells 31))).alloc (.cells #[.int .i64 0, .string ⟨#[]⟩] 28)
  have hE2 := (EnAt.new w 31 e).keep hk2 id
  have hr0 : ((w.alloc (.cells e.cells 31)).alloc (.cells #[.int .i64 0, .string ⟨#[]⟩] 28)).cell? ⟨w.heap.size + 1, 0, none⟩ = some (.int .i64 0) := by simp
  have hr1 : ((w.alloc (.cells e.cells 31)).alloc (.cells #[.int .i64 0, .string ⟨#[]⟩] 28)).cell? ⟨w.heap.size + 1, 1, none⟩ = some (.string ⟨#[]⟩) := by simp
  have hf0 : ∀ j, ((w.alloc (.cells e.cells 31)).alloc (.cells #[.int .i64 0, .string ⟨#[]⟩] 28)).frozen? ⟨w.heap.size + 1, j, none⟩ = false := by intro j; simp
  have HV := Pin.Aside.mk (h.keep' (hk.trans hk2))
  have HK := Pin.Aside.mk ((hk.trans hk2).mono (T := VK b mb mo) fun _ q => q.elim)
  have Hr := Pin.Aside.mk (fun W => en_right e ho W)
  have hdm : 0 ≤ D.many ∧ D.many ≤ 18446744073709551615 := ⟨hd.many.1, by have := hd.many.2; omega⟩
  have HW := Pin.Aside.mk (fun W (hW : VdAt W b mb mo D) => vd_swap b mb mo D e ho hdm (hd.blk e.block) W hW)
  obtain ⟨⟨D1, e1, d1⟩, hwr⟩ : ∃ r, D.swap e = r := ⟨_, rfl⟩
  rw [hwr] at HW
  have HR := Pin.Aside.mk (show D.apply e = ({ D1 with opens := aset D1.opens e.client ⟨e.seq, e1, d1⟩ }, ⟨e1, d1⟩) by
    have hdo : D.does e = (D1, ⟨e1, d1⟩) := by
      unfold Vd.does
      rw [h3]
      exact hwr
    unfold Vd.apply
    rw [if_neg (by rw [h1]; decide), if_neg h2, if_neg (by rw [h3]; decide), hdo]
    cases hq : aget D.opens e.client with
    | none => rw [hq] at h4; cases h4
    | some s =>
      have hs : Vd.ses D e.client = s := by unfold Vd.ses; rw [hq]; rfl
      rw [hs] at h6 h7
      simp only
      rw [if_neg (by rintro (q | q) <;> omega), if_pos h6])
  obtain ⟨⟨sq, se, sd⟩, hss⟩ : ∃ r, Vd.ses D e.client = r := ⟨_, rfl⟩
  obtain ⟨okk, hok⟩ : ∃ r, (aget D.opens e.client).isSome = r := ⟨_, rfl⟩
  have HSS := Pin.Aside.mk (And.intro hss hok)
  rw [h1] at Hr
  have H2 := Pin.Aside.mk h2
  have H3 := Pin.Aside.mk h3
  rw [hss] at h6 h7
  have H6 := Pin.Aside.mk h6
  have H7 := Pin.Aside.mk h7
  have HOK : Pin.Aside (okk = true) := Pin.Aside.mk (hok.symm.trans h4)
  clear h1 h2 h3 h4 hss hok h6 h7 hwr
  have HD := Pin.Aside.mk hd
  clear ho hd
  clear h hk hk2
  obtain ⟨term, index, kind, client, seq, block, many, node, level, data, old⟩ := e
  dsimp only [En.cells] at *
  go_enter Tryd.func12, Tryd.ntmps12
  go_upto_region 1 with fail
  generalize World.alloc (World.alloc _ _) _ = wa at *
  generalize hB : w.heap.size = B at *
  have HF := Pin.Aside.mk hf0
  clear hf0
  obtain ⟨c0, c1, c2, c3, c4, c5, c6, c7, c8, c9, c10⟩ := hE2
  dsimp only at c0 c1 c2 c3 c4 c5 c6 c7 c8 c9 c10
  simp only [Nat.zero_add] at c0 c1 c2 c3 c4 c5 c6 c7 c8 c9 c10
  have hwl : B + 1 < wa.heap.size := World.block_lt_of_cell? _ _ hr0
  go_wp2_with fail
  refine (Hr.out _).mono ?_
  rintro x w1 ⟨rfl, hbb⟩
  have hkk : Keep (fun _ => False) wa w1 := Keep.of_below hbb fun _ q _ => q
  replace hr0 := hkk.cell hr0 id
  replace hr1 := hkk.cell hr1 id
  replace c0 := hkk.cell c0 id
  replace c1 := hkk.cell c1 id
  replace c2 := hkk.cell c2 id
  replace c3 := hkk.cell c3 id
  replace c4 := hkk.cell c4 id
  replace c5 := hkk.cell c5 id
  replace c6 := hkk.cell c6 id
  replace c7 := hkk.cell c7 id
  replace c8 := hkk.cell c8 id
  replace c9 := hkk.cell c9 id
  replace c10 := hkk.cell c10 id
  replace HF : Pin.Aside (∀ j, w1.frozen? ⟨B + 1, j, none⟩ = false) := Pin.Aside.mk (fun j => by rw [hkk.frozen (p := ⟨B + 1, j, none⟩) (show B + 1 < wa.heap.size from hwl) id]; exact HF.out j)
  replace HK := Pin.Aside.mk (HK.out.trans (hkk.mono fun _ q => q.elim))
  replace HV := Pin.Aside.mk (HV.out.keep' hkk)
  replace hwl : B + 1 < w1.heap.size := Nat.lt_of_lt_of_le hwl hkk.size
  clear hkk
  clear hbb Hr
  have h2 : (client == 0) = false := beq_false_of_ne H2.out
  have h3 := H3.out
  try dsimp only at h3
  clear H3
  subst h3
  have m2 := HV.out.c2
  have hlS : ∀ s' : KW (fun _ => False) w1, (Instr.lookup 62 (.map (some mo)) (.int .u64 client) true).run Tryd.prog s'.w = .ok (.tuple #[.agg #[.int .u64 sq, .int .i64 se, .string sd], .bool okk]) s'.w := fun s' => by
    have := vd_lookupS D b mb mo client s'.w (HV.out.keep' s'.keep)
    rw [HSS.out.1, HSS.out.2] at this
    exact this
  go_upto_region 7 with fail
  have k0 : ∀ s' : KW (fun _ => False) w1, s'.w.cell? ⟨b, 2, none⟩ = some (.map (some mo)) := fun s' => s'.keep.cell m2 id
  have k1 : ∀ s' : KW (fun _ => False) w1, s'.w.cell? ⟨B, 3, none⟩ = some (.int .u64 client) := fun s' => s'.keep.cell c3 id
  refine wp_region_stay (S := fun w' => ∃ s' : KW (fun _ => False) w1, w' = s'.w) 10 (by kernel_rfl) (by simp) (by kernel_rfl) (by kernel_rfl) ⟨⟨w1.drew, (Keep.refl _ w1).drew⟩, rfl⟩ ?_
  simp only [List.take_succ_cons, List.take_zero]
  refine wpStay_quietS 1 _ _ (by kernel_rfl) ?_
  simp only [List.take_succ_cons, List.take_zero, List.drop_succ_cons, List.drop_zero]
  repeat (go_big_quiet_step (fail))
  refine wpQuiet_nil ?_
  refine wpStay_call (.pointer (some ⟨b, 0, none⟩)) (by rfl) (fun w' hw' => by unfold Oper.quietAt; go_simp) ?_
  go_simp
  refine wpStay_quietSN 8 _ _ (by kernel_rfl) ?_
  simp only [List.take_succ_cons, List.take_zero, List.drop_succ_cons, List.drop_zero]
  repeat (go_big_quiet_step (fail))
  refine wpQuiet_nil ?_
  refine wpStay_nil ?_
  clear k0 k1 hlS m2
  have hkz := ((Keep.refl (fun _ => False) w1).alloc (.cells #[.int .u64 0, .int .i64 0, .string ⟨#[]⟩] 59)).drew
  have hkk := ((Keep.refl (fun _ => False) w1).alloc (.cells #[.int .u64 sq, .int .i64 se, .string sd] 59)).drew
  have s0 : ((w1.alloc (.cells #[.int .u64 sq, .int .i64 se, .string sd] 59)).drew).cell? ⟨w1.heap.size, 0, none⟩ = some (.int .u64 sq) := by simp
  have s1 : ((w1.alloc (.cells #[.int .u64 sq, .int .i64 se, .string sd] 59)).drew).cell? ⟨w1.heap.size, 1, none⟩ = some (.int .i64 se) := by simp
  have s2 : ((w1.alloc (.cells #[.int .u64 sq, .int .i64 se, .string sd] 59)).drew).cell? ⟨w1.heap.size, 2, none⟩ = some (.string sd) := by simp
  have hfs : ∀ j, ((w1.alloc (.cells #[.int .u64 sq, .int .i64 se, .string sd] 59)).drew).frozen? ⟨w1.heap.size, j, none⟩ = false := by intro j; simp
  refine wpAnyH_one 10 (by kernel_rfl) rfl (fun K' hK' => ?_)
  go_simp
  refine hK'.out _ _ ⟨⟨_, hkz⟩, rfl⟩ (fun _ => ?_)
  clear hK' K'
  refine wpAnyH_one 11 (by kernel_rfl) rfl (fun K' hK' => ?_)
  go_simp
  refine hK'.out _ _ ⟨⟨_, hkk⟩, rfl⟩ (fun _ => ?_)
  clear hK' K'
  refine wpAnyH_more (g := 0) 12 1 (by simp) (by kernel_rfl) (by kernel_rfl) ⟨⟨_, hkk⟩, rfl⟩ ?_
  simp only [List.take_succ_cons, List.take_zero, List.drop_succ_cons, List.drop_zero]
  refine wpStay_quietS 1 _ _ (by kernel_rfl) ?_
  simp only [List.take_succ_cons, List.take_zero, List.drop_succ_cons, List.drop_zero]
  repeat (go_big_quiet_step (fail))
  refine wpQuiet_nil ?_
  refine wpStay_nil ?_
  refine wpAnyH_done (by kernel_rfl) (NoPanic.normal ?_) _
  clear hkz
  generalize (World.alloc w1 _).drew = w2 at *
  have HFS := Pin.Aside.mk hfs
  have hSB : B + 1 < w1.heap.size := hwl
  have hS0 : w1.heap.size = w1.heap.size := rfl
  replace hr0 := hkk.cell hr0 id
  replace hr1 := hkk.cell hr1 id
  replace c0 := hkk.cell c0 id
  replace c1 := hkk.cell c1 id
  replace c2 := hkk.cell c2 id
  replace c3 := hkk.cell c3 id
  replace c4 := hkk.cell c4 id
  replace c5 := hkk.cell c5 id
  replace c6 := hkk.cell c6 id
  replace c7 := hkk.cell c7 id
  replace c8 := hkk.cell c8 id
  replace c9 := hkk.cell c9 id
  replace c10 := hkk.cell c10 id
  replace HF : Pin.Aside (∀ j, w2.frozen? ⟨B + 1, j, none⟩ = false) := Pin.Aside.mk (fun j => by rw [hkk.frozen (p := ⟨B + 1, j, none⟩) (show B + 1 < w1.heap.size from hwl) id]; exact HF.out j)
  replace HK := Pin.Aside.mk (HK.out.trans (hkk.mono fun _ q => q.elim))
  replace HV := Pin.Aside.mk (HV.out.keep' hkk)
  replace hwl : B + 1 < w2.heap.size := Nat.lt_of_lt_of_le hwl hkk.size
  clear hkk
  generalize w1.heap.size = S at *
  clear hfs hS0
  have hokt := HOK.out
  have h6 := H6.out
  have h7 := H7.out
  try dsimp only at h6 h7
  have h5' : (seq == 0) = false := by rw [beq_eq_false_iff_ne]; omega
  have h8 : ¬ seq < sq := by omega
  clear HOK H6 H7 h7
  subst hokt
  have hmm := @run_makeMap Tryd.prog
  have hm0 := MapAt.made w2 .i64
  obtain ⟨x1, hu1, hm1, hk1, hz1⟩ := run_map_update (P := Tryd.prog) (t := 66) hm0 Tryd.underlying66 Tryd.underlying3 1 (Value.func (Fn.func 23) #[] #[])
  obtain ⟨x2, hu2, hm2, hk2, hz2⟩ := run_map_update (P := Tryd.prog) (t := 66) hm1 Tryd.underlying66 Tryd.underlying3 2 (Value.func (Fn.func 24) #[] #[])
  obtain ⟨x3, hu3, hm3, hk3, hz3⟩ := run_map_update (P := Tryd.prog) (t := 66) hm2 Tryd.underlying66 Tryd.underlying3 3 (Value.func (Fn.func 25) #[] #[])
  obtain ⟨x4, hu4, hm4, hk4, hz4⟩ := run_map_update (P := Tryd.prog) (t := 66) hm3 Tryd.underlying66 Tryd.underlying3 11 (Value.func (Fn.func 26) #[] #[])
  have hl := run_map_lookup (P := Tryd.prog) (t := 66) hm4 Tryd.underlying66 Tryd.underlying3 11 (z := .nilFunc) rfl
  rw [show (mget (mset (mset (mset (mset [] 1 (Value.func (Fn.func 23) #[] #[])) 2 (Value.func (Fn.func 24) #[] #[])) 3 (Value.func (Fn.func 25) #[] #[])) 11 (Value.func (Fn.func 26) #[] #[])) 11).getD .nilFunc = Value.func (Fn.func 26) #[] #[] from rfl] at hl
  have hkA : Keep (fun k => k = w2.heap.size) w2 x4 := ((Keep.refl (fun k => k = w2.heap.size) w2).alloc (.map #[] 0)).trans hk1 |>.trans hk2 |>.trans hk3 |>.trans hk4
  have HKA := Pin.Aside.mk (Keep.joinR (Keep.refl (fun _ => False) w2) hkA (fun i q => .inr (by rw [q]; exact Nat.le_refl _)))
  have c2x := HKA.out.cell c2 id
  clear hm0 hm1 hm2 hm3 hm4 hk1 hk2 hk3 hk4 hz1 hz2 hz3 hz4 hkA
  go_upto_region 13 with fail
  clear hu1 hu2 hu3 hu4 hl hmm c2x h2 h5' h8 h6
  have hkk := HKA.out
  have HFS2 : Pin.Aside (∀ j, x4.frozen? ⟨S, j, none⟩ = false) := Pin.Aside.mk (fun j => by rw [hkk.frozen (p := ⟨S, j, none⟩) (World.block_lt_of_cell? _ ⟨S, 0, none⟩ s0) id]; exact HFS.out j)
  replace hr0 := hkk.cell hr0 id
  replace hr1 := hkk.cell hr1 id
  replace s0 := hkk.cell s0 id
  replace s1 := hkk.cell s1 id
  replace s2 := hkk.cell s2 id
  replace c0 := hkk.cell c0 id
  replace c1 := hkk.cell c1 id
  replace c2 := hkk.cell c2 id
  replace c3 := hkk.cell c3 id
  replace c4 := hkk.cell c4 id
  replace c5 := hkk.cell c5 id
  replace c6 := hkk.cell c6 id
  replace c7 := hkk.cell c7 id
  replace c8 := hkk.cell c8 id
  replace c9 := hkk.cell c9 id
  replace c10 := hkk.cell c10 id
  replace HF : Pin.Aside (∀ j, x4.frozen? ⟨B + 1, j, none⟩ = false) := Pin.Aside.mk (fun j => by rw [hkk.frozen (p := ⟨B + 1, j, none⟩) (show B + 1 < w2.heap.size from hwl) id]; exact HF.out j)
  replace HK := Pin.Aside.mk (HK.out.trans (hkk.mono fun _ q => q.elim))
  replace HV := Pin.Aside.mk (HV.out.keep' hkk)
  replace hwl : B + 1 < x4.heap.size := Nat.lt_of_lt_of_le hwl hkk.size
  clear hkk
  clear HFS HKA
  have k0 : ∀ s' : KW (fun k => VK b mb mo k ∨ k = S) x4, s'.w.cell? ⟨B, 0, none⟩ = some (.int .u64 term) := fun s' => s'.keep.cell c0 (by rintro ((q | q | q) | q) <;> (dsimp only at q; omega))
  have k1 : ∀ s' : KW (fun k => VK b mb mo k ∨ k = S) x4, s'.w.cell? ⟨B, 1, none⟩ = some (.int .u64 index) := fun s' => s'.keep.cell c1 (by rintro ((q | q | q) | q) <;> (dsimp only at q; omega))
  have k2 : ∀ s' : KW (fun k => VK b mb mo k ∨ k = S) x4, s'.w.cell? ⟨B, 2, none⟩ = some (.int .i64 11) := fun s' => s'.keep.cell c2 (by rintro ((q | q | q) | q) <;> (dsimp only at q; omega))
  have k3 : ∀ s' : KW (fun k => VK b mb mo k ∨ k = S) x4, s'.w.cell? ⟨B, 3, none⟩ = some (.int .u64 client) := fun s' => s'.keep.cell c3 (by rintro ((q | q | q) | q) <;> (dsimp only at q; omega))
  have k4 : ∀ s' : KW (fun k => VK b mb mo k ∨ k = S) x4, s'.w.cell? ⟨B, 4, none⟩ = some (.int .u64 seq) := fun s' => s'.keep.cell c4 (by rintro ((q | q | q) | q) <;> (dsimp only at q; omega))
  have k5 : ∀ s' : KW (fun k => VK b mb mo k ∨ k = S) x4, s'.w.cell? ⟨B, 5, none⟩ = some (.int .u64 block) := fun s' => s'.keep.cell c5 (by rintro ((q | q | q) | q) <;> (dsimp only at q; omega))
  have k6 : ∀ s' : KW (fun k => VK b mb mo k ∨ k = S) x4, s'.w.cell? ⟨B, 6, none⟩ = some (.int .u64 many) := fun s' => s'.keep.cell c6 (by rintro ((q | q | q) | q) <;> (dsimp only at q; omega))
  have k7 : ∀ s' : KW (fun k => VK b mb mo k ∨ k = S) x4, s'.w.cell? ⟨B, 7, none⟩ = some (.int .i64 node) := fun s' => s'.keep.cell c7 (by rintro ((q | q | q) | q) <;> (dsimp only at q; omega))
  have k8 : ∀ s' : KW (fun k => VK b mb mo k ∨ k = S) x4, s'.w.cell? ⟨B, 8, none⟩ = some (.int .i64 level) := fun s' => s'.keep.cell c8 (by rintro ((q | q | q) | q) <;> (dsimp only at q; omega))
  have k9 : ∀ s' : KW (fun k => VK b mb mo k ∨ k = S) x4, s'.w.cell? ⟨B, 9, none⟩ = some (.string data) := fun s' => s'.keep.cell c9 (by rintro ((q | q | q) | q) <;> (dsimp only at q; omega))
  have k10 : ∀ s' : KW (fun k => VK b mb mo k ∨ k = S) x4, s'.w.cell? ⟨B, 10, none⟩ = some (.string old) := fun s' => s'.keep.cell c10 (by rintro ((q | q | q) | q) <;> (dsimp only at q; omega))
  refine wp_region_stay (S := fun w' => ∃ s' : KW (fun k => VK b mb mo k ∨ k = S) x4, w' = s'.w) 5 (by kernel_rfl) (by simp) (by kernel_rfl) (by kernel_rfl) ⟨⟨x4.drew, (Keep.refl _ x4).drew⟩, rfl⟩ ?_
  simp only [List.take_succ_cons, List.take_zero]
  refine wpStay_quietS 5 _ _ (by kernel_rfl) ?_
  simp only [List.take_succ_cons, List.take_zero, List.drop_succ_cons, List.drop_zero]
  repeat (go_big_quiet_step (fail))
  refine wpQuiet_nil ?_
  refine wpStay_nil ?_
  clear k0 k1 k2 k3 k4 k5 k6 k7 k8 k9 k10
  refine wpAnyH_one 5 (by kernel_rfl) rfl (fun K' hK' => ?_)
  go_simp
  refine (HW.out _ (HV.out.keep' (Keep.refl _ x4).drew)).mono ?_
  rintro x w5 ⟨rfl, hV5, hk5⟩
  have hkS : Keep (fun k => VK b mb mo k ∨ k = S) x4 w5 := ((Keep.refl _ x4).drew).trans (hk5.mono fun k q => .inl q)
  have hkk : Keep (VK b mb mo) x4 w5 := ((Keep.refl _ x4).drew).trans hk5
  refine hK'.out _ _ ⟨⟨w5, hkS⟩, rfl⟩ (fun _ => ?_)
  clear hK' K'
  refine wpAnyH_more (g := 1) 6 1 (by simp) (by kernel_rfl) (by kernel_rfl) ⟨⟨w5, hkS⟩, rfl⟩ ?_
  simp only [List.take_succ_cons, List.take_zero, List.drop_succ_cons, List.drop_zero]
  refine wpStay_quietS 1 _ _ (by kernel_rfl) ?_
  simp only [List.take_succ_cons, List.take_zero, List.drop_succ_cons, List.drop_zero]
  repeat (go_big_quiet_step (fail))
  refine wpQuiet_nil ?_
  refine wpStay_nil ?_
  have hwl5 : B + 1 < w5.heap.size := Nat.lt_of_lt_of_le hwl hkk.size
  have HFS5 : Pin.Aside (∀ j, w5.frozen? ⟨S, j, none⟩ = false) := Pin.Aside.mk (fun j => by rw [hkk.frozen (p := ⟨S, j, none⟩) (World.block_lt_of_cell? _ ⟨S, 0, none⟩ s0) (by rintro (q | q | q) <;> (dsimp only at q; omega))]; exact HFS2.out j)
  replace HV := Pin.Aside.mk hV5
  replace hr0 := hkk.cell hr0 (by rintro (q | q | q) <;> (dsimp only at q; omega))
  replace hr1 := hkk.cell hr1 (by rintro (q | q | q) <;> (dsimp only at q; omega))
  replace c3 := hkk.cell c3 (by rintro (q | q | q) <;> (dsimp only at q; omega))
  replace s0 := hkk.cell s0 (by rintro (q | q | q) <;> (dsimp only at q; omega))
  replace s1 := hkk.cell s1 (by rintro (q | q | q) <;> (dsimp only at q; omega))
  replace s2 := hkk.cell s2 (by rintro (q | q | q) <;> (dsimp only at q; omega))
  replace HF : Pin.Aside (∀ j, w5.frozen? ⟨B + 1, j, none⟩ = false) := Pin.Aside.mk (fun j => by rw [hkk.frozen (p := ⟨B + 1, j, none⟩) (show B + 1 < x4.heap.size from hwl) (by rintro (q | q | q) <;> (dsimp only at q; omega))]; exact HF.out j)
  replace HK := Pin.Aside.mk (HK.out.trans hkk)
  clear hkk
  have hfa := HFS5.out 0
  have hfb := HFS5.out 1
  have hfc := HFS5.out 2
  have hks := (((Keep.refl (fun k => k = S) w5).setCell (p := ⟨S, 0, none⟩) (.inl rfl) (.int .u64 seq)).setCell (p := ⟨S, 1, none⟩) (.inl rfl) (.int .i64 e1)).setCell (p := ⟨S, 2, none⟩) (.inl rfl) (.string d1)
  refine wpAnyH_one 7 (by kernel_rfl) rfl (fun K' hK' => ?_)
  go_simp
  refine hK'.out _ _ ⟨⟨_, hkS.trans (hks.mono fun k q => .inr q)⟩, rfl⟩ (fun _ => ?_)
  clear hK' K'
  refine wpAnyH_done (by kernel_rfl) (NoPanic.normal ?_) _
  have t0 : (((w5.setCell ⟨S, 0, none⟩ (.int .u64 seq)).setCell ⟨S, 1, none⟩ (.int .i64 e1)).setCell ⟨S, 2, none⟩ (.string d1)).cell? ⟨S, 0, none⟩ = some (.int .u64 seq) := by simp [go_sem, s0]
  have t1 : (((w5.setCell ⟨S, 0, none⟩ (.int .u64 seq)).setCell ⟨S, 1, none⟩ (.int .i64 e1)).setCell ⟨S, 2, none⟩ (.string d1)).cell? ⟨S, 1, none⟩ = some (.int .i64 e1) := by simp [go_sem, s1]
  have t2 : (((w5.setCell ⟨S, 0, none⟩ (.int .u64 seq)).setCell ⟨S, 1, none⟩ (.int .i64 e1)).setCell ⟨S, 2, none⟩ (.string d1)).cell? ⟨S, 2, none⟩ = some (.string d1) := by simp [go_sem, s2]
  clear s0 s1 s2 hfa hfb hfc hkS hV5 hk5 HFS2 HFS5 HW
  replace hr0 := hks.cell hr0 (by intro q; dsimp only at q; omega)
  replace hr1 := hks.cell hr1 (by intro q; dsimp only at q; omega)
  replace c3 := hks.cell c3 (by intro q; dsimp only at q; omega)
  replace HF : Pin.Aside (∀ j, (((w5.setCell ⟨S, 0, none⟩ (.int .u64 seq)).setCell ⟨S, 1, none⟩ (.int .i64 e1)).setCell ⟨S, 2, none⟩ (.string d1)).frozen? ⟨B + 1, j, none⟩ = false) := Pin.Aside.mk (fun j => by rw [hks.frozen (p := ⟨B + 1, j, none⟩) hwl5 (by intro q; dsimp only at q; omega)]; exact HF.out j)
  replace HV := Pin.Aside.mk (HV.out.keep hks (by intro q; omega) (by intro q; omega) (by intro q; omega))
  have hwS : w.heap.size ≤ S := by omega
  replace HK := Pin.Aside.mk (((HK.out.setCell (p := ⟨S, 0, none⟩) (.inr hwS) (.int .u64 seq)).setCell (p := ⟨S, 1, none⟩) (.inr hwS) (.int .i64 e1)).setCell (p := ⟨S, 2, none⟩) (.inr hwS) (.string d1))
  clear hks c0 c1 c2 c4 c5 c6 c7 c8 c9 c10 hwl hwl5
  go_upto_region 14 with fail
  generalize World.setCell (World.setCell (World.setCell w5 _ _) _ _) _ _ = w6 at *
  have m2 := HV.out.c2
  obtain ⟨w7, hu, hmu, hku, hzu⟩ := run_map_update (P := Tryd.prog) (t := 62) (HV.out.keep' ((Keep.refl (fun _ => False) w6).drew)).om Tryd.underlying62 Tryd.underlying25 client (Ses.val ⟨seq, e1, d1⟩)
  rw [mset_ents] at hmu
  dsimp only [Ses.val] at hu
  have HV7 := Pin.Aside.mk ((HV.out.keep' ((Keep.refl (fun _ => False) w6).drew)).opens hku hmu)
  have hkm : Keep (fun k => k = mo) w6 w7 := ((Keep.refl _ w6).drew).trans hku
  have nmo : ¬ b = mo := fun q => HV.out.n3 q.symm
  have k0 : ∀ s' : KW (fun k => k = mo) w6, s'.w.cell? ⟨b, 2, none⟩ = some (.map (some mo)) := fun s' => s'.keep.cell m2 nmo
  have k1 : ∀ s' : KW (fun k => k = mo) w6, s'.w.cell? ⟨B, 3, none⟩ = some (.int .u64 client) := fun s' => s'.keep.cell c3 (by intro q; dsimp only at q; omega)
  have k2 : ∀ s' : KW (fun k => k = mo) w6, s'.w.cell? ⟨S, 0, none⟩ = some (.int .u64 seq) := fun s' => s'.keep.cell t0 (by intro q; dsimp only at q; omega)
  have k3 : ∀ s' : KW (fun k => k = mo) w6, s'.w.cell? ⟨S, 1, none⟩ = some (.int .i64 e1) := fun s' => s'.keep.cell t1 (by intro q; dsimp only at q; omega)
  have k4 : ∀ s' : KW (fun k => k = mo) w6, s'.w.cell? ⟨S, 2, none⟩ = some (.string d1) := fun s' => s'.keep.cell t2 (by intro q; dsimp only at q; omega)
  refine wp_region_stay (S := fun w' => ∃ s' : KW (fun k => k = mo) w6, w' = s'.w) 7 (by kernel_rfl) (by simp) (by kernel_rfl) (by kernel_rfl) ⟨⟨w6.drew, (Keep.refl _ w6).drew⟩, rfl⟩ ?_
  simp only [List.take_succ_cons, List.take_zero]
  refine wpStay_quietS 1 _ _ (by kernel_rfl) ?_
  simp only [List.take_succ_cons, List.take_zero, List.drop_succ_cons, List.drop_zero]
  repeat (go_big_quiet_step (fail))
  refine wpQuiet_nil ?_
  refine wpStay_call (.pointer (some ⟨b, 0, none⟩)) (by rfl) (fun w' hw' => by unfold Oper.quietAt; go_simp) ?_
  go_simp
  refine wpStay_quietS 5 _ _ (by kernel_rfl) ?_
  simp only [List.take_succ_cons, List.take_zero, List.drop_succ_cons, List.drop_zero]
  repeat (go_big_quiet_step (fail))
  refine wpQuiet_nil ?_
  refine wpStay_nil ?_
  clear k0 k1 k2 k3 k4 m2
  refine wpAnyH_one 7 (by kernel_rfl) rfl (fun K' hK' => ?_)
  go_simp
  refine hK'.out _ _ ⟨⟨w7, hkm⟩, rfl⟩ (fun _ => ?_)
  clear hK' K'
  refine wpAnyH_done (by kernel_rfl) (NoPanic.normal ?_) _
  have hwl6 : B + 1 < w6.heap.size := World.block_lt_of_cell? _ _ hr0
  replace t1 := hkm.cell t1 (by intro q; dsimp only at q; omega)
  replace t2 := hkm.cell t2 (by intro q; dsimp only at q; omega)
  replace hr0 := hkm.cell hr0 (by intro q; dsimp only at q; omega)
  replace hr1 := hkm.cell hr1 (by intro q; dsimp only at q; omega)
  replace HF : Pin.Aside (∀ j, w7.frozen? ⟨B + 1, j, none⟩ = false) := Pin.Aside.mk (fun j => by rw [hkm.frozen (p := ⟨B + 1, j, none⟩) hwl6 (by intro q; dsimp only at q; omega)]; exact HF.out j)
  replace HK := Pin.Aside.mk (HK.out.trans (hkm.mono (T := VK b mb mo) fun k q => .inr (.inr q)))
  replace HV := HV7
  clear HV7 hu hmu hku hzu hkm t0 c3 hwl6
  have hfa := HF.out 0
  have hfb := HF.out 1
  have hks := ((Keep.refl (fun k => k = B + 1) w7).setCell (p := ⟨B + 1, 0, none⟩) (.inl rfl) (.int .i64 e1)).setCell (p := ⟨B + 1, 1, none⟩) (.inl rfl) (.string d1)
  have HV' := Pin.Aside.mk (HV.out.keep hks (by intro q; omega) (by intro q; omega) (by intro q; omega))
  have HK' := Pin.Aside.mk ((HK.out.setCell (p := ⟨B + 1, 0, none⟩) (.inr (by show w.heap.size ≤ B + 1; omega)) (.int .i64 e1)).setCell (p := ⟨B + 1, 1, none⟩) (.inr (by show w.heap.size ≤ B + 1; omega)) (.string d1))
  clear hks HV HK HF
  go_wp2_with fail
  refine bodyPost_ret (v := .agg #[.int .i64 e1, .string d1]) (by simp [results, Tryd.results12, go_sem, *]) rfl ?_
  rw [HR.out]
  exact ⟨rfl, HV'.out, HK'.out⟩
theorem vd_apply (b mb mo : Nat) (D : Vd) (e : En) (ho : e.ok) (hd : D.ok) (w : World) (h : VdAt w b mb mo D) :
    Calls Tryd.prog 12 #[.pointer (some ⟨b, 0, none⟩), .agg e.cells] w fun x w' => x = .returned (D.apply e).2.val ∧ VdAt w' b mb mo (D.apply e).1 ∧ Keep (VK b mb mo) w w' := by
  by_cases h1 : e.right = true
  case neg => exact vd_apply_a b mb mo D e ho hd (by simpa using h1) w h
  by_cases h2 : e.client = 0
  · exact vd_apply_b b mb mo D e ho hd h1 h2 w h
  by_cases h3 : e.kind = 4
  · exact vd_apply_c b mb mo D e ho hd h1 h2 h3 w h
  cases hq : aget D.opens e.client with
  | none => exact vd_apply_d b mb mo D e ho hd h1 h2 h3 (.inl hq) w h
  | some s =>
    have hs : Vd.ses D e.client = s := by unfold Vd.ses; rw [hq]; rfl
    have hsq := hd.seq e.client s hq
    by_cases h5 : e.seq = 0
    · exact vd_apply_d b mb mo D e ho hd h1 h2 h3 (.inr (.inl h5)) w h
    by_cases h6 : e.seq < s.seq
    · exact vd_apply_d b mb mo D e ho hd h1 h2 h3 (.inr (.inr (by rw [hs]; exact h6))) w h
    by_cases h7 : e.seq = s.seq
    · exact vd_apply_e b mb mo D e ho hd h1 h2 h3 (by rw [hq]; rfl) h5 (by rw [hs]; exact h7) w h
    have h8 : s.seq < e.seq := by omega
    rcases en_right_kind h1 h2 ho with q | q | q | q | q
    · exact vd_apply_write b mb mo D e ho hd h1 h2 q (by rw [hq]; rfl) (by rw [hs]; exact h8) (by rw [hs]; exact hsq.1) w h
    · exact vd_apply_trim b mb mo D e ho hd h1 h2 q (by rw [hq]; rfl) (by rw [hs]; exact h8) (by rw [hs]; exact hsq.1) w h
    · exact vd_apply_resize b mb mo D e ho hd h1 h2 q (by rw [hq]; rfl) (by rw [hs]; exact h8) (by rw [hs]; exact hsq.1) w h
    · exact absurd q h3
    · exact vd_apply_swap b mb mo D e ho hd h1 h2 q (by rw [hq]; rfl) (by rw [hs]; exact h8) (by rw [hs]; exact hsq.1) w h
end Go.Proofs.YtpebpcmppcpkdaaDoor
