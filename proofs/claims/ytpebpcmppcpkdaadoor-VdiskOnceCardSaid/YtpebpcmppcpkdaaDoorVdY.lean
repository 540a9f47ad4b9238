/- vdisk: begin, Last, Read of one block. -/
import Derived.Test.YtpebpcmppcpkdaaDoorVdX
import Derived.Test.YtpebpcmppcpkdaaDoorBldX
set_option maxRecDepth 16000
namespace Go.Proofs.YtpebpcmppcpkdaaDoor
open Go.RowKit Go.Pin
set_option linter.unusedVariables false
set_option linter.unusedSimpArgs false
def Vd.ses (D : Vd) (c : Int) : Ses := (aget D.opens c).getD Ses.zero
theorem vd_lookupS (D : Vd) (b mb mo : Nat) (k : Int) (w : World) (h : VdAt w b mb mo D) : (Instr.lookup 62 (.map (some mo)) (.int .u64 k) true).run Tryd.prog w = .ok (.tuple #[(Vd.ses D k).val, .bool (aget D.opens k).isSome]) w := by
  rw [run_map_lookup_ok (P := Tryd.prog) (t := 62) h.om Tryd.underlying62 Tryd.underlying25 k (z := Ses.zero.val) rfl, mget_ents]
  unfold Vd.ses
  cases aget D.opens k <;> rfl
theorem entsOf_len {α : Type} (f : α → Value) (L : List (Int × α)) : (entsOf f L).length = L.length := by unfold entsOf; rw [List.length_map]
set_option maxHeartbeats 1600000 in
theorem vd_begin (b mb mo : Nat) (D : Vd) (c : Int) (w : World) (h : VdAt w b mb mo D) :
    Calls Tryd.prog 22 #[.pointer (some ⟨b, 0, none⟩), .int .u64 c] w fun x w' => x = .returned (D.begin c).2.val ∧ VdAt w' b mb mo (D.begin c).1 ∧ Keep (VK b mb mo) w w' := by
  have hlt := h.lt
  have hk := (Keep.refl (fun _ => False) w).alloc (.cells #[.int .i64 0, .string ⟨#[]⟩] 28)
  have hr0 : (w.alloc (.cells #[.int .i64 0, .string ⟨#[]⟩] 28)).cell? ⟨w.heap.size, 0, none⟩ = some (.int .i64 0) := by simp
  have hr1 : (w.alloc (.cells #[.int .i64 0, .string ⟨#[]⟩] 28)).cell? ⟨w.heap.size, 1, none⟩ = some (.string ⟨#[]⟩) := by simp
  have hf0 : ∀ j, (w.alloc (.cells #[.int .i64 0, .string ⟨#[]⟩] 28)).frozen? ⟨w.heap.size, j, none⟩ = false := by intro j; simp
  have hVa := h.keep' hk
  have hl := vd_lookupS D b mb mo c _ hVa
  obtain ⟨s, hs⟩ : ∃ s, Vd.ses D c = s := ⟨_, rfl⟩
  rw [hs] at hl
  have hk2 := (Keep.refl (fun _ => False) (w.alloc (.cells #[.int .i64 0, .string ⟨#[]⟩] 28))).alloc (.cells #[.int .u64 s.seq, .int .i64 s.e, .string s.data] 59)
  have HV := Pin.Aside.mk (hVa.keep' hk2)
  have HK := Pin.Aside.mk ((hk.trans hk2).mono (T := VK b mb mo) fun _ q => q.elim)
  have m2 := hVa.c2
  have m3 := hk2.cell m2 id
  have HC := Pin.Aside.mk (And.intro (hk2.cell hr0 id) (hk2.cell hr1 id))
  have HF : Pin.Aside (∀ j, ((w.alloc (.cells #[.int .i64 0, .string ⟨#[]⟩] 28)).alloc (.cells #[.int .u64 s.seq, .int .i64 s.e, .string s.data] 59)).frozen? ⟨w.heap.size, j, none⟩ = false) := Pin.Aside.mk (fun j => by rw [hk2.frozen (p := ⟨w.heap.size, j, none⟩) (World.block_lt_of_cell? _ ⟨w.heap.size, 0, none⟩ hr0) id]; exact hf0 j)
  cases ha : aget D.opens c with
  | some s0 =>
    have HR := Pin.Aside.mk (show D.begin c = (D, ⟨0, ⟨#[]⟩⟩) by unfold Vd.begin; rw [ha])
    rw [ha] at hl
    dsimp only [Option.isSome] at hl
    clear ha hs h hVa hk hk2 hr0 hr1 hf0
    go_enter Tryd.func22, Tryd.ntmps22
    go_upto_region 1 with fail
    go_upto_region 2 with fail
    clear m2 hl
    generalize World.alloc (World.alloc _ _) _ = wa at *
    generalize hB : w.heap.size = B at *
    obtain ⟨hr0, hr1⟩ := HC.out
    have hfa := HF.out 0
    have hfb := HF.out 1
    have hks := ((Keep.refl (fun k => k = B) wa).setCell (p := ⟨B, 0, none⟩) (.inl rfl) (.int .i64 0)).setCell (p := ⟨B, 1, none⟩) (.inl rfl) (.string ⟨#[]⟩)
    have HV' := Pin.Aside.mk (HV.out.keep hks (by intro q; omega) (by intro q; omega) (by intro q; omega))
    have HK' := Pin.Aside.mk ((HK.out.setCell (p := ⟨B, 0, none⟩) (.inr (by show w.heap.size ≤ B; omega)) (.int .i64 0)).setCell (p := ⟨B, 1, none⟩) (.inr (by show w.heap.size ≤ B; omega)) (.string ⟨#[]⟩))
    clear hks HV HK HF
    go_wp2_with fail
    refine bodyPost_ret (v := .agg #[.int .i64 0, .string ⟨#[]⟩]) (by simp [results, Tryd.results22, go_sem, *]) rfl ?_
    rw [HR.out]
    exact ⟨rfl, HV'.out, HK'.out⟩
  | none =>
    by_cases h64 : D.opens.length = 64
    · have HR := Pin.Aside.mk (show D.begin c = (D, ⟨3, ⟨#[]⟩⟩) by unfold Vd.begin; rw [ha]; simp only; rw [if_pos h64])
      have hlen := run_map_len (P := Tryd.prog) (t := 62) HV.out.om Tryd.underlying62 3
      rw [entsOf_len, h64] at hlen
      rw [ha] at hl
      dsimp only [Option.isSome] at hl
      clear ha hs h hVa hk hk2 hr0 hr1 hf0
      go_enter Tryd.func22, Tryd.ntmps22
      go_upto_region 1 with fail
      go_upto_region 2 with fail
      clear m2 hl
      generalize World.alloc (World.alloc _ _) _ = wa at *
      generalize hB : w.heap.size = B at *
      obtain ⟨hr0, hr1⟩ := HC.out
      have hfa := HF.out 0
      have hfb := HF.out 1
      have hks := ((Keep.refl (fun k => k = B) wa).setCell (p := ⟨B, 0, none⟩) (.inl rfl) (.int .i64 3)).setCell (p := ⟨B, 1, none⟩) (.inl rfl) (.string ⟨#[]⟩)
      have HV' := Pin.Aside.mk (HV.out.keep hks (by intro q; omega) (by intro q; omega) (by intro q; omega))
      have HK' := Pin.Aside.mk ((HK.out.setCell (p := ⟨B, 0, none⟩) (.inr (by show w.heap.size ≤ B; omega)) (.int .i64 3)).setCell (p := ⟨B, 1, none⟩) (.inr (by show w.heap.size ≤ B; omega)) (.string ⟨#[]⟩))
      clear hks HV HK HF
      go_wp2_with fail
      refine bodyPost_ret (v := .agg #[.int .i64 3, .string ⟨#[]⟩]) (by simp [results, Tryd.results22, go_sem, *]) rfl ?_
      rw [HR.out]
      exact ⟨rfl, HV'.out, HK'.out⟩
    · have HR := Pin.Aside.mk (show D.begin c = ({ D with opens := aset D.opens c Ses.zero }, ⟨0, ⟨#[]⟩⟩) by unfold Vd.begin; rw [ha]; simp only; rw [if_neg h64])
      have hlen := run_map_len (P := Tryd.prog) (t := 62) HV.out.om Tryd.underlying62 3
      rw [entsOf_len] at hlen
      have h64' : ((D.opens.length : Int) == 64) = false := by rw [beq_eq_false_iff_ne]; omega
      obtain ⟨ln, hln⟩ : ∃ ln, D.opens.length = ln := ⟨_, rfl⟩
      rw [hln] at hlen h64'
      rw [ha] at hl
      dsimp only [Option.isSome] at hl
      obtain ⟨w5, hu, hmu, hku, hzu⟩ := run_map_update (P := Tryd.prog) (t := 62) HV.out.om Tryd.underlying62 Tryd.underlying25 c Ses.zero.val
      rw [mset_ents] at hmu
      dsimp only [Ses.val, Ses.zero] at hu
      have HV5 := Pin.Aside.mk (HV.out.opens hku hmu)
      have HK5 := Pin.Aside.mk (HK.out.trans (hku.mono (T := VK b mb mo) fun _ q => .inr (.inr q)))
      have HC5 := Pin.Aside.mk (And.intro (hku.cell HC.out.1 (by intro q; dsimp only at q; omega)) (hku.cell HC.out.2 (by intro q; dsimp only at q; omega)))
      have HF5 : Pin.Aside (∀ j, w5.frozen? ⟨w.heap.size, j, none⟩ = false) := Pin.Aside.mk (fun j => by rw [hku.frozen (p := ⟨w.heap.size, j, none⟩) (World.block_lt_of_cell? _ ⟨w.heap.size, 0, none⟩ HC.out.1) (by intro q; dsimp only at q; omega)]; exact HF.out j)
      clear ha hs h hVa hk hk2 hr0 hr1 hf0 h64 hln hmu hku hzu
      go_enter Tryd.func22, Tryd.ntmps22
      go_upto_region 1 with fail
      go_upto_region 2 with fail
      clear m2 hl HV HK HC HF
      generalize World.alloc (World.alloc _ _) _ = wa at *
      generalize hB : w.heap.size = B at *
      have HV := HV5
      have HK := HK5
      have HF := HF5
      obtain ⟨hr0, hr1⟩ := HC5.out
      clear HV5 HK5 HF5 HC5
      have hfa := HF.out 0
      have hfb := HF.out 1
      have hks := ((Keep.refl (fun k => k = B) w5).setCell (p := ⟨B, 0, none⟩) (.inl rfl) (.int .i64 0)).setCell (p := ⟨B, 1, none⟩) (.inl rfl) (.string ⟨#[]⟩)
      have HV' := Pin.Aside.mk (HV.out.keep hks (by intro q; omega) (by intro q; omega) (by intro q; omega))
      have HK' := Pin.Aside.mk ((HK.out.setCell (p := ⟨B, 0, none⟩) (.inr (by show w.heap.size ≤ B; omega)) (.int .i64 0)).setCell (p := ⟨B, 1, none⟩) (.inr (by show w.heap.size ≤ B; omega)) (.string ⟨#[]⟩))
      clear hks HV HK HF
      go_wp2_with fail
      refine bodyPost_ret (v := .agg #[.int .i64 0, .string ⟨#[]⟩]) (by simp [results, Tryd.results22, go_sem, *]) rfl ?_
      rw [HR.out]
      exact ⟨rfl, HV'.out, HK'.out⟩
set_option maxHeartbeats 1600000 in
theorem vd_last (b mb mo : Nat) (D : Vd) (c : Int) (w : World) (h : VdAt w b mb mo D) :
    Calls Tryd.prog 16 #[.pointer (some ⟨b, 0, none⟩), .int .u64 c] w fun x w' => x = .returned (.tuple #[.int .u64 (Vd.ses D c).seq, .agg #[.int .i64 (Vd.ses D c).e, .string (Vd.ses D c).data], .bool (aget D.opens c).isSome]) ∧ Below w.heap.size w w' := by
  have hk := (Keep.refl (fun _ => False) w).alloc (.cells #[.int .i64 0, .string ⟨#[]⟩] 28)
  have hr0 : (w.alloc (.cells #[.int .i64 0, .string ⟨#[]⟩] 28)).cell? ⟨w.heap.size, 0, none⟩ = some (.int .i64 0) := by simp
  have hr1 : (w.alloc (.cells #[.int .i64 0, .string ⟨#[]⟩] 28)).cell? ⟨w.heap.size, 1, none⟩ = some (.string ⟨#[]⟩) := by simp
  have hf0 : ∀ j, (w.alloc (.cells #[.int .i64 0, .string ⟨#[]⟩] 28)).frozen? ⟨w.heap.size, j, none⟩ = false := by intro j; simp
  have hVa := h.keep' hk
  have hl := vd_lookupS D b mb mo c _ hVa
  obtain ⟨s, hs⟩ : ∃ s, Vd.ses D c = s := ⟨_, rfl⟩
  obtain ⟨okk, hok⟩ : ∃ s, (aget D.opens c).isSome = s := ⟨_, rfl⟩
  rw [hs, hok] at hl
  rw [hs, hok]
  have hk2 := (Keep.refl (fun _ => False) (w.alloc (.cells #[.int .i64 0, .string ⟨#[]⟩] 28))).alloc (.cells #[.int .u64 s.seq, .int .i64 s.e, .string s.data] 59)
  have s0 : ((w.alloc (.cells #[.int .i64 0, .string ⟨#[]⟩] 28)).alloc (.cells #[.int .u64 s.seq, .int .i64 s.e, .string s.data] 59)).cell? ⟨w.heap.size + 1, 0, none⟩ = some (.int .u64 s.seq) := by simp
  have s1 : ((w.alloc (.cells #[.int .i64 0, .string ⟨#[]⟩] 28)).alloc (.cells #[.int .u64 s.seq, .int .i64 s.e, .string s.data] 59)).cell? ⟨w.heap.size + 1, 1, none⟩ = some (.int .i64 s.e) := by simp
  have s2 : ((w.alloc (.cells #[.int .i64 0, .string ⟨#[]⟩] 28)).alloc (.cells #[.int .u64 s.seq, .int .i64 s.e, .string s.data] 59)).cell? ⟨w.heap.size + 1, 2, none⟩ = some (.string s.data) := by simp
  have HB := Pin.Aside.mk ((hk.trans hk2).below (Nat.le_refl _) fun _ q => q.elim)
  have m2 := hVa.c2
  have HC := Pin.Aside.mk (And.intro (hk2.cell hr0 id) (hk2.cell hr1 id))
  have HF : Pin.Aside (∀ j, ((w.alloc (.cells #[.int .i64 0, .string ⟨#[]⟩] 28)).alloc (.cells #[.int .u64 s.seq, .int .i64 s.e, .string s.data] 59)).frozen? ⟨w.heap.size, j, none⟩ = false) := Pin.Aside.mk (fun j => by rw [hk2.frozen (p := ⟨w.heap.size, j, none⟩) (World.block_lt_of_cell? _ ⟨w.heap.size, 0, none⟩ hr0) id]; exact hf0 j)
  clear hs hok h hVa hk hk2 hr0 hr1 hf0
  go_enter Tryd.func16, Tryd.ntmps16
  go_upto_region 1 with fail
  go_upto_region 2 with fail
  clear m2 hl
  generalize World.alloc (World.alloc _ _) _ = wa at *
  generalize hB : w.heap.size = B at *
  obtain ⟨hr0, hr1⟩ := HC.out
  have hfa := HF.out 0
  have hfb := HF.out 1
  have hks := (((Keep.refl (fun k => k = B) wa).setCell (p := ⟨B, 0, none⟩) (.inl rfl) (.int .i64 s.e)).setCell (p := ⟨B, 1, none⟩) (.inl rfl) (.string s.data)).drew
  have HB' := Pin.Aside.mk (HB.out.trans (hks.below (B := B) (by rw [← hB]; exact HB.out.size) fun k q => by rw [q]; exact Nat.le_refl _))
  have k0 : ∀ s' : KW (fun k => k = B) wa, s'.w.cell? ⟨B + 1, 0, none⟩ = some (.int .u64 s.seq) := fun s' => s'.keep.cell s0 (by intro q; dsimp only at q; omega)
  have k1 : ∀ s' : KW (fun k => k = B) wa, s'.w.cell? ⟨B + 1, 1, none⟩ = some (.int .i64 s.e) := fun s' => s'.keep.cell s1 (by intro q; dsimp only at q; omega)
  have k2 : ∀ s' : KW (fun k => k = B) wa, s'.w.cell? ⟨B + 1, 2, none⟩ = some (.string s.data) := fun s' => s'.keep.cell s2 (by intro q; dsimp only at q; omega)
  refine wp_region_stay (S := fun w' => ∃ s' : KW (fun k => k = B) wa, w' = s'.w) 6 (by kernel_rfl) (by simp) (by kernel_rfl) (by kernel_rfl) ⟨⟨wa.drew, (Keep.refl _ wa).drew⟩, rfl⟩ ?_
  simp only [List.take_succ_cons, List.take_zero]
  refine wpStay_quietS 6 _ _ (by kernel_rfl) ?_
  simp only [List.take_succ_cons, List.take_zero, List.drop_succ_cons, List.drop_zero]
  repeat (go_big_quiet_step (fail))
  refine wpQuiet_nil ?_
  refine wpStay_nil ?_
  clear k0 k1 k2
  refine wpAnyH_one 6 (by kernel_rfl) rfl (fun K' hK' => ?_)
  go_simp
  refine hK'.out _ _ ⟨⟨_, hks⟩, rfl⟩ (fun _ => ?_)
  clear hK' K'
  refine wpAnyH_more (g := 0) 7 1 (by simp) (by kernel_rfl) (by kernel_rfl) ⟨⟨_, hks⟩, rfl⟩ ?_
  simp only [List.take_succ_cons, List.take_zero, List.drop_succ_cons, List.drop_zero]
  refine wpStay_quietS 1 _ _ (by kernel_rfl) ?_
  simp only [List.take_succ_cons, List.take_zero, List.drop_succ_cons, List.drop_zero]
  repeat (go_big_quiet_step (fail))
  refine wpQuiet_nil ?_
  refine wpStay_nil ?_
  refine wpAnyH_done (by kernel_rfl) (NoPanic.normal ?_) _
  clear hks HB s0 s1 s2
  go_wp2_with fail
  refine bodyPost_ret (v := .tuple #[.int .u64 s.seq, .agg #[.int .i64 s.e, .string s.data], .bool okk]) (by simp [results, Tryd.results16, go_sem, *]) rfl ?_
  exact ⟨rfl, by first | exact HB'.out | (rw [hB]; exact HB'.out)⟩
theorem wholeB_size (s : ByteArray) (h : s.size ≤ 64) : (wholeB s).size = 64 := by
  unfold wholeB
  rw [ByteArray.size_append]
  show s.size + (Lib.repeatL [0] (64 - s.size)).toArray.size = 64
  rw [List.size_toArray, repeat_len]; omega
def Vd.read1 (D : Vd) (x : Int) : ByteArray × Int := if D.bounds x 1 = true then (wholeB (D.blk x), 0) else (⟨#[]⟩, 5)
set_option maxHeartbeats 1600000 in
theorem vd_read (b mb mo : Nat) (D : Vd) (x : Int) (hm : 0 ≤ D.many ∧ D.many ≤ 18446744073709551615) (hx : 0 ≤ x ∧ x ≤ 18446744073709551615) (hblk : (D.blk x).size ≤ 64) (w : World) (h : VdAt w b mb mo D) :
    Calls Tryd.prog 14 #[.pointer (some ⟨b, 0, none⟩), .int .u64 x, .int .u64 1] w fun e w' => e = .returned (.tuple #[.string (Vd.read1 D x).1, .int .i64 (Vd.read1 D x).2]) ∧ Below w.heap.size w w' := by
  have Hb := Pin.Aside.mk (vd_bounds b mb mo D x 1 hm hx w h)
  have Hh := Pin.Aside.mk (fun W (hW : VdAt W b mb mo D) => vd_whole b mb mo D x hblk W hW)
  have hsz := wholeB_size (D.blk x) hblk
  obtain ⟨q, hq⟩ : ∃ q, D.bounds x 1 = q := ⟨_, rfl⟩
  have HR := Pin.Aside.mk (show Vd.read1 D x = if q = true then (wholeB (D.blk x), 0) else (⟨#[]⟩, 5) by unfold Vd.read1; rw [hq])
  rw [hq] at Hb
  generalize wholeB (D.blk x) = s at *
  clear hq hblk
  have HV := Pin.Aside.mk h
  clear h
  cases q with
  | false =>
    rw [if_neg (by decide)] at HR
    go_enter Tryd.func14, Tryd.ntmps14
    go_wp2_with fail
    refine Hb.out.mono ?_
    rintro y w1 ⟨rfl, rfl⟩
    go_wp2_with fail
    go_ret2
    exact ⟨by rw [HR.out]; rfl, Below.refl _ _⟩
  | true =>
    rw [if_pos rfl] at HR
    have HB0 := Pin.Aside.mk (Bld.new w w.heap.size (Nat.le_refl _))
    have hka := (Keep.refl (fun _ => False) w).alloc (.cells #[.pointer none, .slice none 0 0] 70)
    have HVa := Pin.Aside.mk (HV.out.keep' hka)
    have HBa := Pin.Aside.mk (hka.below (Nat.le_refl _) fun _ q => q.elim)
    have hl0 : s.data.toList.length = 64 := by rw [Array.length_toList]; exact hsz
    have HL := Pin.Aside.mk hl0
    clear hka hl0
    go_enter Tryd.func14, Tryd.ntmps14
    go_wp2_with fail
    refine Hb.out.mono ?_
    rintro y w1 ⟨rfl, rfl⟩
    clear Hb
    go_upto_region 4 with fail
    generalize World.alloc w1 _ = wa at *
    generalize hB : w1.heap.size = B at *
    go_wp2_with fail
    go_loopw [16] (fun y wr => ∃ k : Nat, k ≤ 1 ∧ y = .int .u64 k ∧ Pin.Aside (Bld B B (if k = 0 then [] else s.data.toList) wr) ∧ Pin.Aside (Below B wa wr)) (fun y _ => 1 - (intOf y).toNat)
    case atStart => exact ⟨0, by omega, rfl, HB0, Pin.Aside.mk (Below.refl _ _)⟩
    case round =>
      clear HB0
      obtain ⟨k, hk, rfl, HB, HW⟩ := hrel
      have hBs : B ≤ wa.heap.size := by rw [← hB]; exact HBa.out.size
      have hBr : B ≤ wr.heap.size := Nat.le_trans hBs HW.out.size
      have hlt := HV.out.lt
      have hVr : VdAt wr b mb mo D := HVa.out.keep (S := fun j => B ≤ j) (Keep.of_below HW.out fun j _ q => by omega) (by omega) (by omega) (by omega)
      have hVR := Pin.Aside.mk hVr
      clear hVr
      by_cases hk0 : k = 0
      · subst hk0
        have hw : IntKind.u64.wrap (x + ((0 : Nat) : Int)) = x := by rw [IntKind.wrap_u64]; omega
        have hw' : IntKind.u64.wrap (x + 0) = x := by rw [IntKind.wrap_u64]; omega
        have hw0 : IntKind.u64.wrap x = x := by rw [IntKind.wrap_u64]; omega
        rw [if_pos rfl] at HB
        go_wp2_with fail
        refine (Hh.out _ hVR.out).mono ?_
        rintro y w2 ⟨rfl, hbb⟩
        have hB2 := Pin.Aside.mk (HB.out.below hbb)
        have hW2 := Pin.Aside.mk (HW.out.trans (hbb.mono hBr))
        have hB2s : B ≤ w2.heap.size := Nat.le_trans hBr hbb.size
        clear hbb HB HW
        go_wp2_with fail
        refine (sb_writeString B B [] s w2 hB2.out (by rw [hsz]; decide) hB2s).mono ?_
        rintro y w3 ⟨rfl, hB3, hbb⟩
        have HB3 := Pin.Aside.mk hB3
        have HW3 := Pin.Aside.mk (hW2.out.trans hbb)
        clear hB3 hbb
        rw [List.nil_append] at HB3
        go_wp2_with fail
        go_roundw
        case rel => exact ⟨1, by omega, by go_num, by rw [if_neg (by decide)]; exact HB3, HW3⟩
        case measure => simp [intOf]
      · have hk1 : k = 1 := by omega
        subst hk1
        rw [if_neg (by decide)] at HB
        have hne : s.data.toList ≠ [] := by intro q; have := HL.out; rw [q] at this; cases this
        go_wp2_with fail
        refine (sb_string B B _ hne wr HB.out).mono ?_
        rintro y w4 ⟨rfl, hbb⟩
        have hfin := HBa.out.trans ((HW.out.trans hbb).mono (by omega))
        clear hbb HB HW
        go_wp2_with fail
        go_ret2
        exact ⟨by rw [HR.out]; rfl, by first | exact hfin | (rw [hB]; exact hfin)⟩
end Go.Proofs.YtpebpcmppcpkdaaDoor
