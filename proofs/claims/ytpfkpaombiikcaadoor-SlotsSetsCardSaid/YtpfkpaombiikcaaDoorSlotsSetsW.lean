/- SlotsSets: its walk. -/
import Derived.Test.YtpfkpaombiikcaaDoorSlE
import Derived.Test.YtpfkpaombiikcaaDoorDevI
set_option maxRecDepth 16000
namespace Go.Proofs.YtpfkpaombiikcaaDoor
open Go.RowKit Go.Pin
set_option linter.unusedVariables false
set_option linter.unusedSimpArgs false
set_option maxHeartbeats 4000000 in
theorem slotsSets_walk (snap log : Int) (t o c : Int) (one two : Bool) (hsn : 0 ≤ snap ∧ snap ≤ 255) (hlg : 0 ≤ log ∧ log ≤ 255) (ht : 0 ≤ t ∧ t ≤ 18446744073709551615) (ho : -9223372036854775808 ≤ o ∧ o ≤ 9223372036854775807) (hc : 0 ≤ c ∧ c ≤ 18446744073709551615) (w : World) :
    Calls Tryd.prog 9 #[.int .u8 snap, .int .u8 log, .agg #[.int .u64 t, .int .i64 o, .int .u64 c], .bool one, .bool two] w fun e w' => e = .returned (.bool true) ∧ Below w.heap.size w w' := by
  have hb := (Below.refl w.heap.size w).alloc (Nat.le_refl _) (.cells #[.int .u64 t, .int .i64 o, .int .u64 c] 63)
  have hH := SevAt.new w #[.int .u64 t, .int .i64 o, .int .u64 c] 63 3 rfl
  go_enter Tryd.func9, Tryd.ntmps9
  go_wp2_with fail
  refine (slots_examples _).mono ?_
  rintro e w1 ⟨rfl, hbb⟩
  have hb1 := Below.next hb hbb
  have hH1 := hH.below hbb
  clear hbb hb hH
  generalize hRR : w.heap.size = R at *
  have HRR := Pin.Aside.mk hRR
  have HS := Pin.Aside.mk (show ∀ x, Below R w x → R ≤ x.heap.size from fun x h => by have := h.size; omega)
  have hR1 : R < w1.heap.size := World.block_lt_of_cell? (a := ⟨R, 0, none⟩) _ (hH1.at' 0 (by omega))
  clear hRR
  obtain ⟨x0, x1, x2⟩ := hH1.get3
  obtain ⟨y0, y1, y2⟩ := hH1.fr3
  replace x1 : w1.cell? ⟨R, 1, none⟩ = some (Value.int IntKind.i64 o) := x1
  have hne : ¬ w1.heap.size = R := by omega
  have hH2 := fun v => (hH1.set 1 (by omega) v)
  have hz2 : ∀ v, (w1.setCell ⟨R, 1, none⟩ v).heap.size = w1.heap.size := fun v => by simp
  have hb2 := fun v => below_set (i := 1) hb1 (Nat.le_refl R) v
  obtain ⟨O, hO⟩ : ∃ O, wrap64 ((IntKind.u64.wrap o).tmod 8) = O := ⟨_, rfl⟩
  have hO7 : 0 ≤ O ∧ O ≤ 7 := by
    have h1 : 0 ≤ IntKind.u64.wrap o := by rw [IntKind.wrap_u64]; omega
    rw [Int.tmod_eq_emod_of_nonneg h1] at hO
    rw [← hO, wrap64]; omega
  cases one <;> cases two
  case false.false =>
    go_upto_region 11 with fail
    rw [hO]
    have hk0 : Keep (fun _ => False) (w1.setCell ⟨R, 1, none⟩ (.int .i64 O)) ((w1.setCell ⟨R, 1, none⟩ (.int .i64 O)).alloc (.cells #[.int .i64 1, .int .i64 (1 + snap % 8), .int .i64 (1 + log % 8), .int .i64 0, .int .i64 0, .int .i64 0, .int .i64 0] 65)) := (Keep.refl _ _).alloc _
    have hg := ((hH2 (.int .i64 O)).keep hk0 id).get3
    have HH3 := Pin.Aside.mk (show HardAt ((w1.setCell ⟨R, 1, none⟩ (.int .i64 O)).alloc (.cells #[.int .i64 1, .int .i64 (1 + snap % 8), .int .i64 (1 + log % 8), .int .i64 0, .int .i64 0, .int .i64 0, .int .i64 0] 65)) R t O c from ⟨hg.1, hg.2.1, hg.2.2⟩)
    have hS3 := SevenAt.new (w1.setCell ⟨R, 1, none⟩ (.int .i64 O)) ⟨1, 1 + snap % 8, 1 + log % 8, 0, 0, 0, 0⟩ 65
    rw [hz2] at hS3
    unfold sevenO at hS3
    have HS3 := Pin.Aside.mk hS3
    have hb := (hb2 (.int .i64 O)).trans (hk0.below (HS.out _ (hb2 _)) fun _ q => q.elim)
    have lB : w1.heap.size < ((w1.setCell ⟨R, 1, none⟩ (.int .i64 O)).alloc (.cells #[.int .i64 1, .int .i64 (1 + snap % 8), .int .i64 (1 + log % 8), .int .i64 0, .int .i64 0, .int .i64 0, .int .i64 0] 65)).heap.size := World.block_lt_of_cell? (a := ⟨w1.heap.size, 0, none⟩) _ hS3.c0
    have lR : R < ((w1.setCell ⟨R, 1, none⟩ (.int .i64 O)).alloc (.cells #[.int .i64 1, .int .i64 (1 + snap % 8), .int .i64 (1 + log % 8), .int .i64 0, .int .i64 0, .int .i64 0, .int .i64 0] 65)).heap.size := by omega
    clear hS3 hg hk0 hH1 hH2 hb1 hb2 x0 x1 x2 y0 y1 y2 hne hO hz2
    generalize (w1.setCell ⟨R, 1, none⟩ (.int .i64 O)).alloc (.cells #[.int .i64 1, .int .i64 (1 + snap % 8), .int .i64 (1 + log % 8), .int .i64 0, .int .i64 0, .int .i64 0, .int .i64 0] 65) = w3 at *
    generalize w1.heap.size = B at *
    have Hr : (⟨1, 1 + snap % 8, 1 + log % 8, 0, 0, 0, 0⟩ : Sup).right = true := by simp [Sup.right]; omega
    obtain ⟨N, hN⟩ : ∃ N : Nat, ssectors ⟨1, 1 + snap % 8, 1 + log % 8, 0, 0, 0, 0⟩ = (N : Int) := ⟨(ssectors ⟨1, 1 + snap % 8, 1 + log % 8, 0, 0, 0, 0⟩).toNat, by unfold ssectors; rw [if_pos Hr]; dsimp only; omega⟩
    have hN8 : 8 ≤ N ∧ N ≤ 36 := by unfold ssectors at hN; rw [if_pos Hr] at hN; dsimp only at hN; omega
    have HSec := Pin.Aside.mk fun W => slots_sectors ⟨1, 1 + snap % 8, 1 + log % 8, 0, 0, 0, 0⟩ W
    rw [hN] at HSec
    obtain ⟨D1, hD1, q1⟩ := SlotsD.first N (by omega) (by omega) ⟨1, 1 + snap % 8, 1 + log % 8, 0, 0, 0, 0⟩ Hr
    obtain ⟨L1, hL1, r1⟩ := SlotsD.first (N - 1) (by omega) (by omega) ⟨1, 1 + snap % 8, 1 + log % 8, 0, 0, 0, 0⟩ Hr
    obtain ⟨D2, hD2, q2⟩ := q1.hard (by omega) 1 (by omega) ⟨t, O, c⟩ ⟨ht.1, ht.2, hc.1, hc.2⟩ hO7
    have hl1 := q1.load Hr (by omega)
    have hl2 := q2.load Hr (by omega)
    have hl3 := r1.small Hr (by omega)
    have HX := Pin.Aside.mk (And.intro hD1 (And.intro hL1 (And.intro hD2 (And.intro hl1 (And.intro hl2 (And.intro hl3 (And.intro (shardW_no D2 ⟨t, O, c⟩) (And.intro Hr hN))))))))
    clear hD1 hL1 hD2 q1 q2 r1 hl1 hl2 hl3 Hr hN
    obtain ⟨c0, c1, c2, c3, c4, c5, c6⟩ := HS3.out
    obtain ⟨x0, x1, x2⟩ := HH3.out
    dsimp only at c0 c1 c2 c3 c4 c5 c6
    go_wp2_with fail
    refine (HSec.out _).mono ?_
    rintro e w4 ⟨rfl, hbb⟩
    clear x0 x1 x2 c0 c1 c2 c3 c4 c5 c6
    replace HS3 := Pin.Aside.mk (HS3.out.below hbb)
    replace HH3 := Pin.Aside.mk (HH3.out.below hbb)
    replace hb := hb.trans (hbb.mono (HS.out _ hb))
    have z4 := hbb.size
    clear hbb
    go_wp2_with fail
    with_reducible refine (dev_new' N N rfl (by omega) (by omega) _).mono ?_
    rintro e w5 ⟨bA, fA, mA, rfl, hbA, hfA, hmA, dA, hbb⟩
    replace HS3 := Pin.Aside.mk (HS3.out.below hbb)
    replace HH3 := Pin.Aside.mk (HH3.out.below hbb)
    replace hb := hb.trans (hbb.mono (HS.out _ hb))
    have z5 := hbb.size
    clear hbb
    obtain ⟨c0, c1, c2, c3, c4, c5, c6⟩ := HS3.out
    obtain ⟨x0, x1, x2⟩ := HH3.out
    dsimp only at c0 c1 c2 c3 c4 c5 c6
    go_wp2_with fail
    refine (HSec.out _).mono ?_
    rintro e w6 ⟨rfl, hbb⟩
    clear x0 x1 x2 c0 c1 c2 c3 c4 c5 c6
    replace HS3 := Pin.Aside.mk (HS3.out.below hbb)
    replace HH3 := Pin.Aside.mk (HH3.out.below hbb)
    replace dA := dA.below hbb
    replace hb := hb.trans (hbb.mono (HS.out _ hb))
    have z6 := hbb.size
    clear hbb
    have hmx : ¬ ((N : Int) - 1 < 1) := by omega
    have hmx2 : (1 : Int) ≤ (N : Int) - 1 := by omega
    go_wp2_with fail
    with_reducible refine (dev_new' _ (N - 1) (by omega) (by omega) (by omega) _).mono ?_
    rintro e w7 ⟨bB, fB, mB, rfl, hbB, hfB, hmB, dB, hbb⟩
    have apAB := dA.apart hbB hfB hmB
    have apBA := apAB.symm
    replace HS3 := Pin.Aside.mk (HS3.out.below hbb)
    replace HH3 := Pin.Aside.mk (HH3.out.below hbb)
    replace dA := dA.below hbb
    replace hb := hb.trans (hbb.mono (HS.out _ hb))
    have z7 := hbb.size
    clear hbb hmx hmx2
    have jA : (R ≤ bA ∧ R ≤ fA ∧ R ≤ mA) ∧ (R ≠ bA ∧ R ≠ fA ∧ R ≠ mA) ∧ (B ≠ bA ∧ B ≠ fA ∧ B ≠ mA) := by omega
    have jB : (R ≤ bB ∧ R ≤ fB ∧ R ≤ mB) ∧ (R ≠ bB ∧ R ≠ fB ∧ R ≠ mB) ∧ (B ≠ bB ∧ B ≠ fB ∧ B ≠ mB) := by omega
    have JA := Pin.Aside.mk jA
    have JB := Pin.Aside.mk jB
    have kA : ¬ devS bA fA mA R ∧ ¬ devS bA fA mA B := by unfold devS; omega
    have kB : ¬ devS bB fB mB R ∧ ¬ devS bB fB mB B := by unfold devS; omega
    have KA := Pin.Aside.mk kA
    have KB := Pin.Aside.mk kB
    clear jA jB kA kB z4 z5 z6 z7 hbA hfA hmA hbB hfB hmB lR lB
    obtain ⟨c0, c1, c2, c3, c4, c5, c6⟩ := HS3.out
    obtain ⟨x0, x1, x2⟩ := HH3.out
    dsimp only at c0 c1 c2 c3 c4 c5 c6
    go_wp2_with fail
    refine (slots_setsuper_to bA fA mA _ ⟨1, 1 + snap % 8, 1 + log % 8, 0, 0, 0, 0⟩ _ _ HX.out.1 _ dA).mono ?_
    rintro e w8 ⟨rfl, qA, hkk⟩
    clear x0 x1 x2 c0 c1 c2 c3 c4 c5 c6
    replace HS3 := Pin.Aside.mk (HS3.out.keep hkk KA.out.2)
    replace HH3 := Pin.Aside.mk (HH3.out.keep hkk KA.out.1)
    replace dB := dB.keepA apBA hkk
    replace hb := Below.dev hb hkk (HS.out _ hb) JA.out.1.1 JA.out.1.2.1 JA.out.1.2.2
    clear dA hkk
    obtain ⟨c0, c1, c2, c3, c4, c5, c6⟩ := HS3.out
    obtain ⟨x0, x1, x2⟩ := HH3.out
    dsimp only at c0 c1 c2 c3 c4 c5 c6
    go_wp2_with fail
    refine (slots_setsuper_to bB fB mB _ ⟨1, 1 + snap % 8, 1 + log % 8, 0, 0, 0, 0⟩ _ _ HX.out.2.1 _ dB).mono ?_
    rintro e w9 ⟨rfl, qB, hkk⟩
    clear x0 x1 x2 c0 c1 c2 c3 c4 c5 c6
    replace HS3 := Pin.Aside.mk (HS3.out.keep hkk KB.out.2)
    replace HH3 := Pin.Aside.mk (HH3.out.keep hkk KB.out.1)
    have dA := qA.keepA apAB hkk
    replace hb := Below.dev hb hkk (HS.out _ hb) JB.out.1.1 JB.out.1.2.1 JB.out.1.2.2
    clear dB qA hkk
    go_wp2_with fail
    refine (slots_load_to bA fA mA _ ⟨1, 1 + snap % 8, 1 + log % 8, 0, 0, 0, 0⟩ ⟨0, 0, 0⟩ _ HX.out.2.2.2.1 _ dA).mono ?_
    rintro e w10 ⟨rfl, hbb⟩
    have hk := ((Keep.of_below (S := fun _ => False) hbb fun _ hk _ => hk).alloc (.cells #[.int .i64 1, .int .i64 (1 + snap % 8), .int .i64 (1 + log % 8), .int .i64 0, .int .i64 0, .int .i64 0, .int .i64 0] 65)).alloc (.cells #[.int .u64 0, .int .i64 0, .int .u64 0] 63)
    have hP := (SevenAt.new w10 ⟨1, 1 + snap % 8, 1 + log % 8, 0, 0, 0, 0⟩ 65).keep ((Keep.refl (fun _ => False) _).alloc (.cells #[.int .u64 0, .int .i64 0, .int .u64 0] 63)) id
    have hQ' := SevAt.new (w10.alloc (.cells #[.int .i64 1, .int .i64 (1 + snap % 8), .int .i64 (1 + log % 8), .int .i64 0, .int .i64 0, .int .i64 0, .int .i64 0] 65)) #[.int .u64 0, .int .i64 0, .int .u64 0] 63 3 rfl
    have hz : (w10.alloc (.cells #[.int .i64 1, .int .i64 (1 + snap % 8), .int .i64 (1 + log % 8), .int .i64 0, .int .i64 0, .int .i64 0, .int .i64 0] 65)).heap.size = w10.heap.size + 1 := by simp
    rw [hz] at hQ'
    have hQ : HardAt ((w10.alloc (.cells #[.int .i64 1, .int .i64 (1 + snap % 8), .int .i64 (1 + log % 8), .int .i64 0, .int .i64 0, .int .i64 0, .int .i64 0] 65)).alloc (.cells #[.int .u64 0, .int .i64 0, .int .u64 0] 63)) (w10.heap.size + 1) 0 0 0 := ⟨hQ'.get3.1, hQ'.get3.2.1, hQ'.get3.2.2⟩
    unfold sevenO at hP
    replace hb := hb.trans (hk.below (HS.out _ hb) fun _ q => q.elim)
    replace HS3 := Pin.Aside.mk (HS3.out.keep hk id)
    replace HH3 := Pin.Aside.mk (HH3.out.keep hk id)
    have NP := Pin.Aside.mk (show ¬ devS bA fA mA w10.heap.size ∧ ¬ devS bA fA mA (w10.heap.size + 1) by have h1 := (dA.below hbb).lt; unfold devS; omega)
    have dA1 := dA.keep hk ⟨id, id, id⟩
    have dB := qB.keep hk ⟨id, id, id⟩
    have HP := Pin.Aside.mk hP
    have HPh := Pin.Aside.mk hQ
    clear hbb hk hQ hQ' hz hP dA qB
    go_upto_region 16 with fail
    generalize ((w10.alloc (.cells #[.int .i64 1, .int .i64 (1 + snap % 8), .int .i64 (1 + log % 8), .int .i64 0, .int .i64 0, .int .i64 0, .int .i64 0] 65)).alloc (.cells #[.int .u64 0, .int .i64 0, .int .u64 0] 63)) = v10 at *
    generalize w10.heap.size = P at *
    obtain ⟨x0, x1, x2⟩ := HH3.out
    go_wp2_with fail
    refine (slots_sethard_to bA fA mA _ 1 t O c ht hc _ _ HX.out.2.2.1 _ dA1).mono ?_
    rintro e w11 ⟨rfl, qA, hkk⟩
    clear x0 x1 x2
    replace HS3 := Pin.Aside.mk (HS3.out.keep hkk KA.out.2)
    replace HH3 := Pin.Aside.mk (HH3.out.keep hkk KA.out.1)
    replace HP := Pin.Aside.mk (HP.out.keep hkk NP.out.1)
    replace HPh := Pin.Aside.mk (HPh.out.keep hkk NP.out.2)
    replace dB := dB.keepA apBA hkk
    replace hb := Below.dev hb hkk (HS.out _ hb) JA.out.1.1 JA.out.1.2.1 JA.out.1.2.2
    clear dA1 hkk
    go_wp2_with fail
    refine (slots_load_to bA fA mA _ ⟨1, 1 + snap % 8, 1 + log % 8, 0, 0, 0, 0⟩ ⟨t, O, c⟩ _ HX.out.2.2.2.2.1 _ qA).mono ?_
    rintro e w12 ⟨rfl, hbb⟩
    have hk := ((Keep.of_below (S := fun _ => False) hbb fun _ hk _ => hk).alloc (.cells #[.int .i64 1, .int .i64 (1 + snap % 8), .int .i64 (1 + log % 8), .int .i64 0, .int .i64 0, .int .i64 0, .int .i64 0] 65)).alloc (.cells #[.int .u64 t, .int .i64 O, .int .u64 c] 63)
    have hP := (SevenAt.new w12 ⟨1, 1 + snap % 8, 1 + log % 8, 0, 0, 0, 0⟩ 65).keep ((Keep.refl (fun _ => False) _).alloc (.cells #[.int .u64 t, .int .i64 O, .int .u64 c] 63)) id
    have hQ' := SevAt.new (w12.alloc (.cells #[.int .i64 1, .int .i64 (1 + snap % 8), .int .i64 (1 + log % 8), .int .i64 0, .int .i64 0, .int .i64 0, .int .i64 0] 65)) #[.int .u64 t, .int .i64 O, .int .u64 c] 63 3 rfl
    have hz : (w12.alloc (.cells #[.int .i64 1, .int .i64 (1 + snap % 8), .int .i64 (1 + log % 8), .int .i64 0, .int .i64 0, .int .i64 0, .int .i64 0] 65)).heap.size = w12.heap.size + 1 := by simp
    rw [hz] at hQ'
    have hQ : HardAt ((w12.alloc (.cells #[.int .i64 1, .int .i64 (1 + snap % 8), .int .i64 (1 + log % 8), .int .i64 0, .int .i64 0, .int .i64 0, .int .i64 0] 65)).alloc (.cells #[.int .u64 t, .int .i64 O, .int .u64 c] 63)) (w12.heap.size + 1) t O c := ⟨hQ'.get3.1, hQ'.get3.2.1, hQ'.get3.2.2⟩
    unfold sevenO at hP
    replace hb := hb.trans (hk.below (HS.out _ hb) fun _ q => q.elim)
    replace HS3 := Pin.Aside.mk (HS3.out.keep hk id)
    replace HH3 := Pin.Aside.mk (HH3.out.keep hk id)
    replace HP := Pin.Aside.mk (HP.out.keep hk id)
    replace HPh := Pin.Aside.mk (HPh.out.keep hk id)
    have dA := qA.keep hk ⟨id, id, id⟩
    have qB := dB.keep hk ⟨id, id, id⟩
    have HQ := Pin.Aside.mk hP
    have HQh := Pin.Aside.mk hQ
    clear hbb hk hQ hQ' hz hP qA dB
    go_upto_region 18 with fail
    generalize ((w12.alloc (.cells #[.int .i64 1, .int .i64 (1 + snap % 8), .int .i64 (1 + log % 8), .int .i64 0, .int .i64 0, .int .i64 0, .int .i64 0] 65)).alloc (.cells #[.int .u64 t, .int .i64 O, .int .u64 c] 63)) = v12 at *
    generalize w12.heap.size = Q at *
    go_wp2_with fail
    refine (slots_load_to bB fB mB _ ⟨0, 0, 0, 0, 0, 0, 0⟩ ⟨0, 0, 0⟩ _ HX.out.2.2.2.2.2.1 _ qB).mono ?_
    rintro e w13 ⟨rfl, hbb⟩
    have hk := ((Keep.of_below (S := fun _ => False) hbb fun _ hk _ => hk).alloc (.cells #[.int .i64 0, .int .i64 0, .int .i64 0, .int .i64 0, .int .i64 0, .int .i64 0, .int .i64 0] 65)).alloc (.cells #[.int .u64 0, .int .i64 0, .int .u64 0] 63)
    have hP := (SevenAt.new w13 ⟨0, 0, 0, 0, 0, 0, 0⟩ 65).keep ((Keep.refl (fun _ => False) _).alloc (.cells #[.int .u64 0, .int .i64 0, .int .u64 0] 63)) id
    have hQ' := SevAt.new (w13.alloc (.cells #[.int .i64 0, .int .i64 0, .int .i64 0, .int .i64 0, .int .i64 0, .int .i64 0, .int .i64 0] 65)) #[.int .u64 0, .int .i64 0, .int .u64 0] 63 3 rfl
    have hz : (w13.alloc (.cells #[.int .i64 0, .int .i64 0, .int .i64 0, .int .i64 0, .int .i64 0, .int .i64 0, .int .i64 0] 65)).heap.size = w13.heap.size + 1 := by simp
    rw [hz] at hQ'
    have hQ : HardAt ((w13.alloc (.cells #[.int .i64 0, .int .i64 0, .int .i64 0, .int .i64 0, .int .i64 0, .int .i64 0, .int .i64 0] 65)).alloc (.cells #[.int .u64 0, .int .i64 0, .int .u64 0] 63)) (w13.heap.size + 1) 0 0 0 := ⟨hQ'.get3.1, hQ'.get3.2.1, hQ'.get3.2.2⟩
    unfold sevenO at hP
    replace hb := hb.trans (hk.below (HS.out _ hb) fun _ q => q.elim)
    replace HS3 := Pin.Aside.mk (HS3.out.keep hk id)
    replace HH3 := Pin.Aside.mk (HH3.out.keep hk id)
    replace HP := Pin.Aside.mk (HP.out.keep hk id)
    replace HPh := Pin.Aside.mk (HPh.out.keep hk id)
    replace HQ := Pin.Aside.mk (HQ.out.keep hk id)
    replace HQh := Pin.Aside.mk (HQh.out.keep hk id)
    have qA := dA.keep hk ⟨id, id, id⟩
    clear hbb hk hQ hQ' hz hP dA
    go_upto_region 19 with fail
    generalize ((w13.alloc (.cells #[.int .i64 0, .int .i64 0, .int .i64 0, .int .i64 0, .int .i64 0, .int .i64 0, .int .i64 0] 65)).alloc (.cells #[.int .u64 0, .int .i64 0, .int .u64 0] 63)) = v13 at *
    generalize w13.heap.size = V at *
    obtain ⟨c0, c1, c2, c3, c4, c5, c6⟩ := HS3.out
    obtain ⟨x0, x1, x2⟩ := HH3.out
    obtain ⟨p0, p1, p2, p3, p4, p5, p6⟩ := HP.out
    obtain ⟨y0, y1, y2⟩ := HPh.out
    obtain ⟨q0, q1, q2, q3, q4, q5, q6⟩ := HQ.out
    obtain ⟨z0, z1, z2⟩ := HQh.out
    dsimp only at c0 c1 c2 c3 c4 c5 c6 p0 p1 p2 p3 p4 p5 p6 q0 q1 q2 q3 q4 q5 q6
    go_wp2_with fail
    refine (slots_sethard_to bA fA mA _ 3 t O c ht hc _ _ HX.out.2.2.2.2.2.2.1 _ qA).mono ?_
    rintro e w14 ⟨rfl, rA, hkk⟩
    have hbE := Pin.Aside.mk (Below.dev hb hkk (HS.out _ hb) JA.out.1.1 JA.out.1.2.1 JA.out.1.2.2)
    clear c0 c1 c2 c3 c4 c5 c6 x0 x1 x2 p0 p1 p2 p3 p4 p5 p6 y0 y1 y2 q0 q1 q2 q3 q4 q5 q6 z0 z1 z2 hb rA qA hkk
    go_wp2_with fail
    go_ret
    exact ⟨rfl, by rw [HRR.out]; exact hbE.out⟩
  case false.true =>
    go_upto_region 11 with fail
    rw [hO]
    have hk0 : Keep (fun _ => False) (w1.setCell ⟨R, 1, none⟩ (.int .i64 O)) ((w1.setCell ⟨R, 1, none⟩ (.int .i64 O)).alloc (.cells #[.int .i64 1, .int .i64 (1 + snap % 8), .int .i64 (1 + log % 8), .int .i64 0, .int .i64 0, .int .i64 0, .int .i64 0] 65)) := (Keep.refl _ _).alloc _
    have hg := ((hH2 (.int .i64 O)).keep hk0 id).get3
    have HH3 := Pin.Aside.mk (show HardAt ((w1.setCell ⟨R, 1, none⟩ (.int .i64 O)).alloc (.cells #[.int .i64 1, .int .i64 (1 + snap % 8), .int .i64 (1 + log % 8), .int .i64 0, .int .i64 0, .int .i64 0, .int .i64 0] 65)) R t O c from ⟨hg.1, hg.2.1, hg.2.2⟩)
    have hS3 := SevenAt.new (w1.setCell ⟨R, 1, none⟩ (.int .i64 O)) ⟨1, 1 + snap % 8, 1 + log % 8, 0, 0, 0, 0⟩ 65
    rw [hz2] at hS3
    unfold sevenO at hS3
    have HS3 := Pin.Aside.mk hS3
    have hb := (hb2 (.int .i64 O)).trans (hk0.below (HS.out _ (hb2 _)) fun _ q => q.elim)
    have lB : w1.heap.size < ((w1.setCell ⟨R, 1, none⟩ (.int .i64 O)).alloc (.cells #[.int .i64 1, .int .i64 (1 + snap % 8), .int .i64 (1 + log % 8), .int .i64 0, .int .i64 0, .int .i64 0, .int .i64 0] 65)).heap.size := World.block_lt_of_cell? (a := ⟨w1.heap.size, 0, none⟩) _ hS3.c0
    have lR : R < ((w1.setCell ⟨R, 1, none⟩ (.int .i64 O)).alloc (.cells #[.int .i64 1, .int .i64 (1 + snap % 8), .int .i64 (1 + log % 8), .int .i64 0, .int .i64 0, .int .i64 0, .int .i64 0] 65)).heap.size := by omega
    clear hS3 hg hk0 hH1 hH2 hb1 hb2 x0 x1 x2 y0 y1 y2 hne hO hz2
    generalize (w1.setCell ⟨R, 1, none⟩ (.int .i64 O)).alloc (.cells #[.int .i64 1, .int .i64 (1 + snap % 8), .int .i64 (1 + log % 8), .int .i64 0, .int .i64 0, .int .i64 0, .int .i64 0] 65) = w3 at *
    generalize w1.heap.size = B at *
    have Hr : (⟨1, 1 + snap % 8, 1 + log % 8, 0, 0, 0, 0⟩ : Sup).right = true := by simp [Sup.right]; omega
    obtain ⟨N, hN⟩ : ∃ N : Nat, ssectors ⟨1, 1 + snap % 8, 1 + log % 8, 0, 0, 0, 0⟩ = (N : Int) := ⟨(ssectors ⟨1, 1 + snap % 8, 1 + log % 8, 0, 0, 0, 0⟩).toNat, by unfold ssectors; rw [if_pos Hr]; dsimp only; omega⟩
    have hN8 : 8 ≤ N ∧ N ≤ 36 := by unfold ssectors at hN; rw [if_pos Hr] at hN; dsimp only at hN; omega
    have HSec := Pin.Aside.mk fun W => slots_sectors ⟨1, 1 + snap % 8, 1 + log % 8, 0, 0, 0, 0⟩ W
    rw [hN] at HSec
    obtain ⟨D1, hD1, q1⟩ := SlotsD.first N (by omega) (by omega) ⟨1, 1 + snap % 8, 1 + log % 8, 0, 0, 0, 0⟩ Hr
    obtain ⟨L1, hL1, r1⟩ := SlotsD.first (N - 1) (by omega) (by omega) ⟨1, 1 + snap % 8, 1 + log % 8, 0, 0, 0, 0⟩ Hr
    obtain ⟨D2, hD2, q2⟩ := q1.hard (by omega) 2 (by omega) ⟨t, O, c⟩ ⟨ht.1, ht.2, hc.1, hc.2⟩ hO7
    have hl1 := q1.load Hr (by omega)
    have hl2 := q2.load Hr (by omega)
    have hl3 := r1.small Hr (by omega)
    have HX := Pin.Aside.mk (And.intro hD1 (And.intro hL1 (And.intro hD2 (And.intro hl1 (And.intro hl2 (And.intro hl3 (And.intro (shardW_no D2 ⟨t, O, c⟩) (And.intro Hr hN))))))))
    clear hD1 hL1 hD2 q1 q2 r1 hl1 hl2 hl3 Hr hN
    obtain ⟨c0, c1, c2, c3, c4, c5, c6⟩ := HS3.out
    obtain ⟨x0, x1, x2⟩ := HH3.out
    dsimp only at c0 c1 c2 c3 c4 c5 c6
    go_wp2_with fail
    refine (HSec.out _).mono ?_
    rintro e w4 ⟨rfl, hbb⟩
    clear x0 x1 x2 c0 c1 c2 c3 c4 c5 c6
    replace HS3 := Pin.Aside.mk (HS3.out.below hbb)
    replace HH3 := Pin.Aside.mk (HH3.out.below hbb)
    replace hb := hb.trans (hbb.mono (HS.out _ hb))
    have z4 := hbb.size
    clear hbb
    go_wp2_with fail
    with_reducible refine (dev_new' N N rfl (by omega) (by omega) _).mono ?_
    rintro e w5 ⟨bA, fA, mA, rfl, hbA, hfA, hmA, dA, hbb⟩
    replace HS3 := Pin.Aside.mk (HS3.out.below hbb)
    replace HH3 := Pin.Aside.mk (HH3.out.below hbb)
    replace hb := hb.trans (hbb.mono (HS.out _ hb))
    have z5 := hbb.size
    clear hbb
    obtain ⟨c0, c1, c2, c3, c4, c5, c6⟩ := HS3.out
    obtain ⟨x0, x1, x2⟩ := HH3.out
    dsimp only at c0 c1 c2 c3 c4 c5 c6
    go_wp2_with fail
    refine (HSec.out _).mono ?_
    rintro e w6 ⟨rfl, hbb⟩
    clear x0 x1 x2 c0 c1 c2 c3 c4 c5 c6
    replace HS3 := Pin.Aside.mk (HS3.out.below hbb)
    replace HH3 := Pin.Aside.mk (HH3.out.below hbb)
    replace dA := dA.below hbb
    replace hb := hb.trans (hbb.mono (HS.out _ hb))
    have z6 := hbb.size
    clear hbb
    have hmx : ¬ ((N : Int) - 1 < 1) := by omega
    have hmx2 : (1 : Int) ≤ (N : Int) - 1 := by omega
    go_wp2_with fail
    with_reducible refine (dev_new' _ (N - 1) (by omega) (by omega) (by omega) _).mono ?_
    rintro e w7 ⟨bB, fB, mB, rfl, hbB, hfB, hmB, dB, hbb⟩
    have apAB := dA.apart hbB hfB hmB
    have apBA := apAB.symm
    replace HS3 := Pin.Aside.mk (HS3.out.below hbb)
    replace HH3 := Pin.Aside.mk (HH3.out.below hbb)
    replace dA := dA.below hbb
    replace hb := hb.trans (hbb.mono (HS.out _ hb))
    have z7 := hbb.size
    clear hbb hmx hmx2
    have jA : (R ≤ bA ∧ R ≤ fA ∧ R ≤ mA) ∧ (R ≠ bA ∧ R ≠ fA ∧ R ≠ mA) ∧ (B ≠ bA ∧ B ≠ fA ∧ B ≠ mA) := by omega
    have jB : (R ≤ bB ∧ R ≤ fB ∧ R ≤ mB) ∧ (R ≠ bB ∧ R ≠ fB ∧ R ≠ mB) ∧ (B ≠ bB ∧ B ≠ fB ∧ B ≠ mB) := by omega
    have JA := Pin.Aside.mk jA
    have JB := Pin.Aside.mk jB
    have kA : ¬ devS bA fA mA R ∧ ¬ devS bA fA mA B := by unfold devS; omega
    have kB : ¬ devS bB fB mB R ∧ ¬ devS bB fB mB B := by unfold devS; omega
    have KA := Pin.Aside.mk kA
    have KB := Pin.Aside.mk kB
    clear jA jB kA kB z4 z5 z6 z7 hbA hfA hmA hbB hfB hmB lR lB
    obtain ⟨c0, c1, c2, c3, c4, c5, c6⟩ := HS3.out
    obtain ⟨x0, x1, x2⟩ := HH3.out
    dsimp only at c0 c1 c2 c3 c4 c5 c6
    go_wp2_with fail
    refine (slots_setsuper_to bA fA mA _ ⟨1, 1 + snap % 8, 1 + log % 8, 0, 0, 0, 0⟩ _ _ HX.out.1 _ dA).mono ?_
    rintro e w8 ⟨rfl, qA, hkk⟩
    clear x0 x1 x2 c0 c1 c2 c3 c4 c5 c6
    replace HS3 := Pin.Aside.mk (HS3.out.keep hkk KA.out.2)
    replace HH3 := Pin.Aside.mk (HH3.out.keep hkk KA.out.1)
    replace dB := dB.keepA apBA hkk
    replace hb := Below.dev hb hkk (HS.out _ hb) JA.out.1.1 JA.out.1.2.1 JA.out.1.2.2
    clear dA hkk
    obtain ⟨c0, c1, c2, c3, c4, c5, c6⟩ := HS3.out
    obtain ⟨x0, x1, x2⟩ := HH3.out
    dsimp only at c0 c1 c2 c3 c4 c5 c6
    go_wp2_with fail
    refine (slots_setsuper_to bB fB mB _ ⟨1, 1 + snap % 8, 1 + log % 8, 0, 0, 0, 0⟩ _ _ HX.out.2.1 _ dB).mono ?_
    rintro e w9 ⟨rfl, qB, hkk⟩
    clear x0 x1 x2 c0 c1 c2 c3 c4 c5 c6
    replace HS3 := Pin.Aside.mk (HS3.out.keep hkk KB.out.2)
    replace HH3 := Pin.Aside.mk (HH3.out.keep hkk KB.out.1)
    have dA := qA.keepA apAB hkk
    replace hb := Below.dev hb hkk (HS.out _ hb) JB.out.1.1 JB.out.1.2.1 JB.out.1.2.2
    clear dB qA hkk
    go_wp2_with fail
    refine (slots_load_to bA fA mA _ ⟨1, 1 + snap % 8, 1 + log % 8, 0, 0, 0, 0⟩ ⟨0, 0, 0⟩ _ HX.out.2.2.2.1 _ dA).mono ?_
    rintro e w10 ⟨rfl, hbb⟩
    have hk := ((Keep.of_below (S := fun _ => False) hbb fun _ hk _ => hk).alloc (.cells #[.int .i64 1, .int .i64 (1 + snap % 8), .int .i64 (1 + log % 8), .int .i64 0, .int .i64 0, .int .i64 0, .int .i64 0] 65)).alloc (.cells #[.int .u64 0, .int .i64 0, .int .u64 0] 63)
    have hP := (SevenAt.new w10 ⟨1, 1 + snap % 8, 1 + log % 8, 0, 0, 0, 0⟩ 65).keep ((Keep.refl (fun _ => False) _).alloc (.cells #[.int .u64 0, .int .i64 0, .int .u64 0] 63)) id
    have hQ' := SevAt.new (w10.alloc (.cells #[.int .i64 1, .int .i64 (1 + snap % 8), .int .i64 (1 + log % 8), .int .i64 0, .int .i64 0, .int .i64 0, .int .i64 0] 65)) #[.int .u64 0, .int .i64 0, .int .u64 0] 63 3 rfl
    have hz : (w10.alloc (.cells #[.int .i64 1, .int .i64 (1 + snap % 8), .int .i64 (1 + log % 8), .int .i64 0, .int .i64 0, .int .i64 0, .int .i64 0] 65)).heap.size = w10.heap.size + 1 := by simp
    rw [hz] at hQ'
    have hQ : HardAt ((w10.alloc (.cells #[.int .i64 1, .int .i64 (1 + snap % 8), .int .i64 (1 + log % 8), .int .i64 0, .int .i64 0, .int .i64 0, .int .i64 0] 65)).alloc (.cells #[.int .u64 0, .int .i64 0, .int .u64 0] 63)) (w10.heap.size + 1) 0 0 0 := ⟨hQ'.get3.1, hQ'.get3.2.1, hQ'.get3.2.2⟩
    unfold sevenO at hP
    replace hb := hb.trans (hk.below (HS.out _ hb) fun _ q => q.elim)
    replace HS3 := Pin.Aside.mk (HS3.out.keep hk id)
    replace HH3 := Pin.Aside.mk (HH3.out.keep hk id)
    have NP := Pin.Aside.mk (show ¬ devS bA fA mA w10.heap.size ∧ ¬ devS bA fA mA (w10.heap.size + 1) by have h1 := (dA.below hbb).lt; unfold devS; omega)
    have dA1 := dA.keep hk ⟨id, id, id⟩
    have dB := qB.keep hk ⟨id, id, id⟩
    have HP := Pin.Aside.mk hP
    have HPh := Pin.Aside.mk hQ
    clear hbb hk hQ hQ' hz hP dA qB
    go_upto_region 16 with fail
    generalize ((w10.alloc (.cells #[.int .i64 1, .int .i64 (1 + snap % 8), .int .i64 (1 + log % 8), .int .i64 0, .int .i64 0, .int .i64 0, .int .i64 0] 65)).alloc (.cells #[.int .u64 0, .int .i64 0, .int .u64 0] 63)) = v10 at *
    generalize w10.heap.size = P at *
    obtain ⟨x0, x1, x2⟩ := HH3.out
    go_wp2_with fail
    refine (slots_sethard_to bA fA mA _ 2 t O c ht hc _ _ HX.out.2.2.1 _ dA1).mono ?_
    rintro e w11 ⟨rfl, qA, hkk⟩
    clear x0 x1 x2
    replace HS3 := Pin.Aside.mk (HS3.out.keep hkk KA.out.2)
    replace HH3 := Pin.Aside.mk (HH3.out.keep hkk KA.out.1)
    replace HP := Pin.Aside.mk (HP.out.keep hkk NP.out.1)
    replace HPh := Pin.Aside.mk (HPh.out.keep hkk NP.out.2)
    replace dB := dB.keepA apBA hkk
    replace hb := Below.dev hb hkk (HS.out _ hb) JA.out.1.1 JA.out.1.2.1 JA.out.1.2.2
    clear dA1 hkk
    go_wp2_with fail
    refine (slots_load_to bA fA mA _ ⟨1, 1 + snap % 8, 1 + log % 8, 0, 0, 0, 0⟩ ⟨t, O, c⟩ _ HX.out.2.2.2.2.1 _ qA).mono ?_
    rintro e w12 ⟨rfl, hbb⟩
    have hk := ((Keep.of_below (S := fun _ => False) hbb fun _ hk _ => hk).alloc (.cells #[.int .i64 1, .int .i64 (1 + snap % 8), .int .i64 (1 + log % 8), .int .i64 0, .int .i64 0, .int .i64 0, .int .i64 0] 65)).alloc (.cells #[.int .u64 t, .int .i64 O, .int .u64 c] 63)
    have hP := (SevenAt.new w12 ⟨1, 1 + snap % 8, 1 + log % 8, 0, 0, 0, 0⟩ 65).keep ((Keep.refl (fun _ => False) _).alloc (.cells #[.int .u64 t, .int .i64 O, .int .u64 c] 63)) id
    have hQ' := SevAt.new (w12.alloc (.cells #[.int .i64 1, .int .i64 (1 + snap % 8), .int .i64 (1 + log % 8), .int .i64 0, .int .i64 0, .int .i64 0, .int .i64 0] 65)) #[.int .u64 t, .int .i64 O, .int .u64 c] 63 3 rfl
    have hz : (w12.alloc (.cells #[.int .i64 1, .int .i64 (1 + snap % 8), .int .i64 (1 + log % 8), .int .i64 0, .int .i64 0, .int .i64 0, .int .i64 0] 65)).heap.size = w12.heap.size + 1 := by simp
    rw [hz] at hQ'
    have hQ : HardAt ((w12.alloc (.cells #[.int .i64 1, .int .i64 (1 + snap % 8), .int .i64 (1 + log % 8), .int .i64 0, .int .i64 0, .int .i64 0, .int .i64 0] 65)).alloc (.cells #[.int .u64 t, .int .i64 O, .int .u64 c] 63)) (w12.heap.size + 1) t O c := ⟨hQ'.get3.1, hQ'.get3.2.1, hQ'.get3.2.2⟩
    unfold sevenO at hP
    replace hb := hb.trans (hk.below (HS.out _ hb) fun _ q => q.elim)
    replace HS3 := Pin.Aside.mk (HS3.out.keep hk id)
    replace HH3 := Pin.Aside.mk (HH3.out.keep hk id)
    replace HP := Pin.Aside.mk (HP.out.keep hk id)
    replace HPh := Pin.Aside.mk (HPh.out.keep hk id)
    have dA := qA.keep hk ⟨id, id, id⟩
    have qB := dB.keep hk ⟨id, id, id⟩
    have HQ := Pin.Aside.mk hP
    have HQh := Pin.Aside.mk hQ
    clear hbb hk hQ hQ' hz hP qA dB
    go_upto_region 18 with fail
    generalize ((w12.alloc (.cells #[.int .i64 1, .int .i64 (1 + snap % 8), .int .i64 (1 + log % 8), .int .i64 0, .int .i64 0, .int .i64 0, .int .i64 0] 65)).alloc (.cells #[.int .u64 t, .int .i64 O, .int .u64 c] 63)) = v12 at *
    generalize w12.heap.size = Q at *
    go_wp2_with fail
    refine (slots_load_to bB fB mB _ ⟨0, 0, 0, 0, 0, 0, 0⟩ ⟨0, 0, 0⟩ _ HX.out.2.2.2.2.2.1 _ qB).mono ?_
    rintro e w13 ⟨rfl, hbb⟩
    have hk := ((Keep.of_below (S := fun _ => False) hbb fun _ hk _ => hk).alloc (.cells #[.int .i64 0, .int .i64 0, .int .i64 0, .int .i64 0, .int .i64 0, .int .i64 0, .int .i64 0] 65)).alloc (.cells #[.int .u64 0, .int .i64 0, .int .u64 0] 63)
    have hP := (SevenAt.new w13 ⟨0, 0, 0, 0, 0, 0, 0⟩ 65).keep ((Keep.refl (fun _ => False) _).alloc (.cells #[.int .u64 0, .int .i64 0, .int .u64 0] 63)) id
    have hQ' := SevAt.new (w13.alloc (.cells #[.int .i64 0, .int .i64 0, .int .i64 0, .int .i64 0, .int .i64 0, .int .i64 0, .int .i64 0] 65)) #[.int .u64 0, .int .i64 0, .int .u64 0] 63 3 rfl
    have hz : (w13.alloc (.cells #[.int .i64 0, .int .i64 0, .int .i64 0, .int .i64 0, .int .i64 0, .int .i64 0, .int .i64 0] 65)).heap.size = w13.heap.size + 1 := by simp
    rw [hz] at hQ'
    have hQ : HardAt ((w13.alloc (.cells #[.int .i64 0, .int .i64 0, .int .i64 0, .int .i64 0, .int .i64 0, .int .i64 0, .int .i64 0] 65)).alloc (.cells #[.int .u64 0, .int .i64 0, .int .u64 0] 63)) (w13.heap.size + 1) 0 0 0 := ⟨hQ'.get3.1, hQ'.get3.2.1, hQ'.get3.2.2⟩
    unfold sevenO at hP
    replace hb := hb.trans (hk.below (HS.out _ hb) fun _ q => q.elim)
    replace HS3 := Pin.Aside.mk (HS3.out.keep hk id)
    replace HH3 := Pin.Aside.mk (HH3.out.keep hk id)
    replace HP := Pin.Aside.mk (HP.out.keep hk id)
    replace HPh := Pin.Aside.mk (HPh.out.keep hk id)
    replace HQ := Pin.Aside.mk (HQ.out.keep hk id)
    replace HQh := Pin.Aside.mk (HQh.out.keep hk id)
    have qA := dA.keep hk ⟨id, id, id⟩
    clear hbb hk hQ hQ' hz hP dA
    go_upto_region 19 with fail
    generalize ((w13.alloc (.cells #[.int .i64 0, .int .i64 0, .int .i64 0, .int .i64 0, .int .i64 0, .int .i64 0, .int .i64 0] 65)).alloc (.cells #[.int .u64 0, .int .i64 0, .int .u64 0] 63)) = v13 at *
    generalize w13.heap.size = V at *
    obtain ⟨c0, c1, c2, c3, c4, c5, c6⟩ := HS3.out
    obtain ⟨x0, x1, x2⟩ := HH3.out
    obtain ⟨p0, p1, p2, p3, p4, p5, p6⟩ := HP.out
    obtain ⟨y0, y1, y2⟩ := HPh.out
    obtain ⟨q0, q1, q2, q3, q4, q5, q6⟩ := HQ.out
    obtain ⟨z0, z1, z2⟩ := HQh.out
    dsimp only at c0 c1 c2 c3 c4 c5 c6 p0 p1 p2 p3 p4 p5 p6 q0 q1 q2 q3 q4 q5 q6
    go_wp2_with fail
    refine (slots_sethard_to bA fA mA _ 3 t O c ht hc _ _ HX.out.2.2.2.2.2.2.1 _ qA).mono ?_
    rintro e w14 ⟨rfl, rA, hkk⟩
    have hbE := Pin.Aside.mk (Below.dev hb hkk (HS.out _ hb) JA.out.1.1 JA.out.1.2.1 JA.out.1.2.2)
    clear c0 c1 c2 c3 c4 c5 c6 x0 x1 x2 p0 p1 p2 p3 p4 p5 p6 y0 y1 y2 q0 q1 q2 q3 q4 q5 q6 z0 z1 z2 hb rA qA hkk
    go_wp2_with fail
    go_ret
    exact ⟨rfl, by rw [HRR.out]; exact hbE.out⟩
  case true.false =>
    go_upto_region 11 with fail
    rw [hO]
    have hk0 : Keep (fun _ => False) (w1.setCell ⟨R, 1, none⟩ (.int .i64 O)) ((w1.setCell ⟨R, 1, none⟩ (.int .i64 O)).alloc (.cells #[.int .i64 2, .int .i64 (1 + snap % 8), .int .i64 (1 + log % 8), .int .i64 0, .int .i64 0, .int .i64 0, .int .i64 0] 65)) := (Keep.refl _ _).alloc _
    have hg := ((hH2 (.int .i64 O)).keep hk0 id).get3
    have HH3 := Pin.Aside.mk (show HardAt ((w1.setCell ⟨R, 1, none⟩ (.int .i64 O)).alloc (.cells #[.int .i64 2, .int .i64 (1 + snap % 8), .int .i64 (1 + log % 8), .int .i64 0, .int .i64 0, .int .i64 0, .int .i64 0] 65)) R t O c from ⟨hg.1, hg.2.1, hg.2.2⟩)
    have hS3 := SevenAt.new (w1.setCell ⟨R, 1, none⟩ (.int .i64 O)) ⟨2, 1 + snap % 8, 1 + log % 8, 0, 0, 0, 0⟩ 65
    rw [hz2] at hS3
    unfold sevenO at hS3
    have HS3 := Pin.Aside.mk hS3
    have hb := (hb2 (.int .i64 O)).trans (hk0.below (HS.out _ (hb2 _)) fun _ q => q.elim)
    have lB : w1.heap.size < ((w1.setCell ⟨R, 1, none⟩ (.int .i64 O)).alloc (.cells #[.int .i64 2, .int .i64 (1 + snap % 8), .int .i64 (1 + log % 8), .int .i64 0, .int .i64 0, .int .i64 0, .int .i64 0] 65)).heap.size := World.block_lt_of_cell? (a := ⟨w1.heap.size, 0, none⟩) _ hS3.c0
    have lR : R < ((w1.setCell ⟨R, 1, none⟩ (.int .i64 O)).alloc (.cells #[.int .i64 2, .int .i64 (1 + snap % 8), .int .i64 (1 + log % 8), .int .i64 0, .int .i64 0, .int .i64 0, .int .i64 0] 65)).heap.size := by omega
    clear hS3 hg hk0 hH1 hH2 hb1 hb2 x0 x1 x2 y0 y1 y2 hne hO hz2
    generalize (w1.setCell ⟨R, 1, none⟩ (.int .i64 O)).alloc (.cells #[.int .i64 2, .int .i64 (1 + snap % 8), .int .i64 (1 + log % 8), .int .i64 0, .int .i64 0, .int .i64 0, .int .i64 0] 65) = w3 at *
    generalize w1.heap.size = B at *
    have Hr : (⟨2, 1 + snap % 8, 1 + log % 8, 0, 0, 0, 0⟩ : Sup).right = true := by simp [Sup.right]; omega
    obtain ⟨N, hN⟩ : ∃ N : Nat, ssectors ⟨2, 1 + snap % 8, 1 + log % 8, 0, 0, 0, 0⟩ = (N : Int) := ⟨(ssectors ⟨2, 1 + snap % 8, 1 + log % 8, 0, 0, 0, 0⟩).toNat, by unfold ssectors; rw [if_pos Hr]; dsimp only; omega⟩
    have hN8 : 8 ≤ N ∧ N ≤ 36 := by unfold ssectors at hN; rw [if_pos Hr] at hN; dsimp only at hN; omega
    have HSec := Pin.Aside.mk fun W => slots_sectors ⟨2, 1 + snap % 8, 1 + log % 8, 0, 0, 0, 0⟩ W
    rw [hN] at HSec
    obtain ⟨D1, hD1, q1⟩ := SlotsD.first N (by omega) (by omega) ⟨2, 1 + snap % 8, 1 + log % 8, 0, 0, 0, 0⟩ Hr
    obtain ⟨L1, hL1, r1⟩ := SlotsD.first (N - 1) (by omega) (by omega) ⟨2, 1 + snap % 8, 1 + log % 8, 0, 0, 0, 0⟩ Hr
    obtain ⟨D2, hD2, q2⟩ := q1.hard (by omega) 1 (by omega) ⟨t, O, c⟩ ⟨ht.1, ht.2, hc.1, hc.2⟩ hO7
    have hl1 := q1.load Hr (by omega)
    have hl2 := q2.load Hr (by omega)
    have hl3 := r1.small Hr (by omega)
    have HX := Pin.Aside.mk (And.intro hD1 (And.intro hL1 (And.intro hD2 (And.intro hl1 (And.intro hl2 (And.intro hl3 (And.intro (shardW_no D2 ⟨t, O, c⟩) (And.intro Hr hN))))))))
    clear hD1 hL1 hD2 q1 q2 r1 hl1 hl2 hl3 Hr hN
    obtain ⟨c0, c1, c2, c3, c4, c5, c6⟩ := HS3.out
    obtain ⟨x0, x1, x2⟩ := HH3.out
    dsimp only at c0 c1 c2 c3 c4 c5 c6
    go_wp2_with fail
    refine (HSec.out _).mono ?_
    rintro e w4 ⟨rfl, hbb⟩
    clear x0 x1 x2 c0 c1 c2 c3 c4 c5 c6
    replace HS3 := Pin.Aside.mk (HS3.out.below hbb)
    replace HH3 := Pin.Aside.mk (HH3.out.below hbb)
    replace hb := hb.trans (hbb.mono (HS.out _ hb))
    have z4 := hbb.size
    clear hbb
    go_wp2_with fail
    with_reducible refine (dev_new' N N rfl (by omega) (by omega) _).mono ?_
    rintro e w5 ⟨bA, fA, mA, rfl, hbA, hfA, hmA, dA, hbb⟩
    replace HS3 := Pin.Aside.mk (HS3.out.below hbb)
    replace HH3 := Pin.Aside.mk (HH3.out.below hbb)
    replace hb := hb.trans (hbb.mono (HS.out _ hb))
    have z5 := hbb.size
    clear hbb
    obtain ⟨c0, c1, c2, c3, c4, c5, c6⟩ := HS3.out
    obtain ⟨x0, x1, x2⟩ := HH3.out
    dsimp only at c0 c1 c2 c3 c4 c5 c6
    go_wp2_with fail
    refine (HSec.out _).mono ?_
    rintro e w6 ⟨rfl, hbb⟩
    clear x0 x1 x2 c0 c1 c2 c3 c4 c5 c6
    replace HS3 := Pin.Aside.mk (HS3.out.below hbb)
    replace HH3 := Pin.Aside.mk (HH3.out.below hbb)
    replace dA := dA.below hbb
    replace hb := hb.trans (hbb.mono (HS.out _ hb))
    have z6 := hbb.size
    clear hbb
    have hmx : ¬ ((N : Int) - 1 < 1) := by omega
    have hmx2 : (1 : Int) ≤ (N : Int) - 1 := by omega
    go_wp2_with fail
    with_reducible refine (dev_new' _ (N - 1) (by omega) (by omega) (by omega) _).mono ?_
    rintro e w7 ⟨bB, fB, mB, rfl, hbB, hfB, hmB, dB, hbb⟩
    have apAB := dA.apart hbB hfB hmB
    have apBA := apAB.symm
    replace HS3 := Pin.Aside.mk (HS3.out.below hbb)
    replace HH3 := Pin.Aside.mk (HH3.out.below hbb)
    replace dA := dA.below hbb
    replace hb := hb.trans (hbb.mono (HS.out _ hb))
    have z7 := hbb.size
    clear hbb hmx hmx2
    have jA : (R ≤ bA ∧ R ≤ fA ∧ R ≤ mA) ∧ (R ≠ bA ∧ R ≠ fA ∧ R ≠ mA) ∧ (B ≠ bA ∧ B ≠ fA ∧ B ≠ mA) := by omega
    have jB : (R ≤ bB ∧ R ≤ fB ∧ R ≤ mB) ∧ (R ≠ bB ∧ R ≠ fB ∧ R ≠ mB) ∧ (B ≠ bB ∧ B ≠ fB ∧ B ≠ mB) := by omega
    have JA := Pin.Aside.mk jA
    have JB := Pin.Aside.mk jB
    have kA : ¬ devS bA fA mA R ∧ ¬ devS bA fA mA B := by unfold devS; omega
    have kB : ¬ devS bB fB mB R ∧ ¬ devS bB fB mB B := by unfold devS; omega
    have KA := Pin.Aside.mk kA
    have KB := Pin.Aside.mk kB
    clear jA jB kA kB z4 z5 z6 z7 hbA hfA hmA hbB hfB hmB lR lB
    obtain ⟨c0, c1, c2, c3, c4, c5, c6⟩ := HS3.out
    obtain ⟨x0, x1, x2⟩ := HH3.out
    dsimp only at c0 c1 c2 c3 c4 c5 c6
    go_wp2_with fail
    refine (slots_setsuper_to bA fA mA _ ⟨2, 1 + snap % 8, 1 + log % 8, 0, 0, 0, 0⟩ _ _ HX.out.1 _ dA).mono ?_
    rintro e w8 ⟨rfl, qA, hkk⟩
    clear x0 x1 x2 c0 c1 c2 c3 c4 c5 c6
    replace HS3 := Pin.Aside.mk (HS3.out.keep hkk KA.out.2)
    replace HH3 := Pin.Aside.mk (HH3.out.keep hkk KA.out.1)
    replace dB := dB.keepA apBA hkk
    replace hb := Below.dev hb hkk (HS.out _ hb) JA.out.1.1 JA.out.1.2.1 JA.out.1.2.2
    clear dA hkk
    obtain ⟨c0, c1, c2, c3, c4, c5, c6⟩ := HS3.out
    obtain ⟨x0, x1, x2⟩ := HH3.out
    dsimp only at c0 c1 c2 c3 c4 c5 c6
    go_wp2_with fail
    refine (slots_setsuper_to bB fB mB _ ⟨2, 1 + snap % 8, 1 + log % 8, 0, 0, 0, 0⟩ _ _ HX.out.2.1 _ dB).mono ?_
    rintro e w9 ⟨rfl, qB, hkk⟩
    clear x0 x1 x2 c0 c1 c2 c3 c4 c5 c6
    replace HS3 := Pin.Aside.mk (HS3.out.keep hkk KB.out.2)
    replace HH3 := Pin.Aside.mk (HH3.out.keep hkk KB.out.1)
    have dA := qA.keepA apAB hkk
    replace hb := Below.dev hb hkk (HS.out _ hb) JB.out.1.1 JB.out.1.2.1 JB.out.1.2.2
    clear dB qA hkk
    go_wp2_with fail
    refine (slots_load_to bA fA mA _ ⟨2, 1 + snap % 8, 1 + log % 8, 0, 0, 0, 0⟩ ⟨0, 0, 0⟩ _ HX.out.2.2.2.1 _ dA).mono ?_
    rintro e w10 ⟨rfl, hbb⟩
    have hk := ((Keep.of_below (S := fun _ => False) hbb fun _ hk _ => hk).alloc (.cells #[.int .i64 2, .int .i64 (1 + snap % 8), .int .i64 (1 + log % 8), .int .i64 0, .int .i64 0, .int .i64 0, .int .i64 0] 65)).alloc (.cells #[.int .u64 0, .int .i64 0, .int .u64 0] 63)
    have hP := (SevenAt.new w10 ⟨2, 1 + snap % 8, 1 + log % 8, 0, 0, 0, 0⟩ 65).keep ((Keep.refl (fun _ => False) _).alloc (.cells #[.int .u64 0, .int .i64 0, .int .u64 0] 63)) id
    have hQ' := SevAt.new (w10.alloc (.cells #[.int .i64 2, .int .i64 (1 + snap % 8), .int .i64 (1 + log % 8), .int .i64 0, .int .i64 0, .int .i64 0, .int .i64 0] 65)) #[.int .u64 0, .int .i64 0, .int .u64 0] 63 3 rfl
    have hz : (w10.alloc (.cells #[.int .i64 2, .int .i64 (1 + snap % 8), .int .i64 (1 + log % 8), .int .i64 0, .int .i64 0, .int .i64 0, .int .i64 0] 65)).heap.size = w10.heap.size + 1 := by simp
    rw [hz] at hQ'
    have hQ : HardAt ((w10.alloc (.cells #[.int .i64 2, .int .i64 (1 + snap % 8), .int .i64 (1 + log % 8), .int .i64 0, .int .i64 0, .int .i64 0, .int .i64 0] 65)).alloc (.cells #[.int .u64 0, .int .i64 0, .int .u64 0] 63)) (w10.heap.size + 1) 0 0 0 := ⟨hQ'.get3.1, hQ'.get3.2.1, hQ'.get3.2.2⟩
    unfold sevenO at hP
    replace hb := hb.trans (hk.below (HS.out _ hb) fun _ q => q.elim)
    replace HS3 := Pin.Aside.mk (HS3.out.keep hk id)
    replace HH3 := Pin.Aside.mk (HH3.out.keep hk id)
    have NP := Pin.Aside.mk (show ¬ devS bA fA mA w10.heap.size ∧ ¬ devS bA fA mA (w10.heap.size + 1) by have h1 := (dA.below hbb).lt; unfold devS; omega)
    have dA1 := dA.keep hk ⟨id, id, id⟩
    have dB := qB.keep hk ⟨id, id, id⟩
    have HP := Pin.Aside.mk hP
    have HPh := Pin.Aside.mk hQ
    clear hbb hk hQ hQ' hz hP dA qB
    go_upto_region 16 with fail
    generalize ((w10.alloc (.cells #[.int .i64 2, .int .i64 (1 + snap % 8), .int .i64 (1 + log % 8), .int .i64 0, .int .i64 0, .int .i64 0, .int .i64 0] 65)).alloc (.cells #[.int .u64 0, .int .i64 0, .int .u64 0] 63)) = v10 at *
    generalize w10.heap.size = P at *
    obtain ⟨x0, x1, x2⟩ := HH3.out
    go_wp2_with fail
    refine (slots_sethard_to bA fA mA _ 1 t O c ht hc _ _ HX.out.2.2.1 _ dA1).mono ?_
    rintro e w11 ⟨rfl, qA, hkk⟩
    clear x0 x1 x2
    replace HS3 := Pin.Aside.mk (HS3.out.keep hkk KA.out.2)
    replace HH3 := Pin.Aside.mk (HH3.out.keep hkk KA.out.1)
    replace HP := Pin.Aside.mk (HP.out.keep hkk NP.out.1)
    replace HPh := Pin.Aside.mk (HPh.out.keep hkk NP.out.2)
    replace dB := dB.keepA apBA hkk
    replace hb := Below.dev hb hkk (HS.out _ hb) JA.out.1.1 JA.out.1.2.1 JA.out.1.2.2
    clear dA1 hkk
    go_wp2_with fail
    refine (slots_load_to bA fA mA _ ⟨2, 1 + snap % 8, 1 + log % 8, 0, 0, 0, 0⟩ ⟨t, O, c⟩ _ HX.out.2.2.2.2.1 _ qA).mono ?_
    rintro e w12 ⟨rfl, hbb⟩
    have hk := ((Keep.of_below (S := fun _ => False) hbb fun _ hk _ => hk).alloc (.cells #[.int .i64 2, .int .i64 (1 + snap % 8), .int .i64 (1 + log % 8), .int .i64 0, .int .i64 0, .int .i64 0, .int .i64 0] 65)).alloc (.cells #[.int .u64 t, .int .i64 O, .int .u64 c] 63)
    have hP := (SevenAt.new w12 ⟨2, 1 + snap % 8, 1 + log % 8, 0, 0, 0, 0⟩ 65).keep ((Keep.refl (fun _ => False) _).alloc (.cells #[.int .u64 t, .int .i64 O, .int .u64 c] 63)) id
    have hQ' := SevAt.new (w12.alloc (.cells #[.int .i64 2, .int .i64 (1 + snap % 8), .int .i64 (1 + log % 8), .int .i64 0, .int .i64 0, .int .i64 0, .int .i64 0] 65)) #[.int .u64 t, .int .i64 O, .int .u64 c] 63 3 rfl
    have hz : (w12.alloc (.cells #[.int .i64 2, .int .i64 (1 + snap % 8), .int .i64 (1 + log % 8), .int .i64 0, .int .i64 0, .int .i64 0, .int .i64 0] 65)).heap.size = w12.heap.size + 1 := by simp
    rw [hz] at hQ'
    have hQ : HardAt ((w12.alloc (.cells #[.int .i64 2, .int .i64 (1 + snap % 8), .int .i64 (1 + log % 8), .int .i64 0, .int .i64 0, .int .i64 0, .int .i64 0] 65)).alloc (.cells #[.int .u64 t, .int .i64 O, .int .u64 c] 63)) (w12.heap.size + 1) t O c := ⟨hQ'.get3.1, hQ'.get3.2.1, hQ'.get3.2.2⟩
    unfold sevenO at hP
    replace hb := hb.trans (hk.below (HS.out _ hb) fun _ q => q.elim)
    replace HS3 := Pin.Aside.mk (HS3.out.keep hk id)
    replace HH3 := Pin.Aside.mk (HH3.out.keep hk id)
    replace HP := Pin.Aside.mk (HP.out.keep hk id)
    replace HPh := Pin.Aside.mk (HPh.out.keep hk id)
    have dA := qA.keep hk ⟨id, id, id⟩
    have qB := dB.keep hk ⟨id, id, id⟩
    have HQ := Pin.Aside.mk hP
    have HQh := Pin.Aside.mk hQ
    clear hbb hk hQ hQ' hz hP qA dB
    go_upto_region 18 with fail
    generalize ((w12.alloc (.cells #[.int .i64 2, .int .i64 (1 + snap % 8), .int .i64 (1 + log % 8), .int .i64 0, .int .i64 0, .int .i64 0, .int .i64 0] 65)).alloc (.cells #[.int .u64 t, .int .i64 O, .int .u64 c] 63)) = v12 at *
    generalize w12.heap.size = Q at *
    go_wp2_with fail
    refine (slots_load_to bB fB mB _ ⟨0, 0, 0, 0, 0, 0, 0⟩ ⟨0, 0, 0⟩ _ HX.out.2.2.2.2.2.1 _ qB).mono ?_
    rintro e w13 ⟨rfl, hbb⟩
    have hk := ((Keep.of_below (S := fun _ => False) hbb fun _ hk _ => hk).alloc (.cells #[.int .i64 0, .int .i64 0, .int .i64 0, .int .i64 0, .int .i64 0, .int .i64 0, .int .i64 0] 65)).alloc (.cells #[.int .u64 0, .int .i64 0, .int .u64 0] 63)
    have hP := (SevenAt.new w13 ⟨0, 0, 0, 0, 0, 0, 0⟩ 65).keep ((Keep.refl (fun _ => False) _).alloc (.cells #[.int .u64 0, .int .i64 0, .int .u64 0] 63)) id
    have hQ' := SevAt.new (w13.alloc (.cells #[.int .i64 0, .int .i64 0, .int .i64 0, .int .i64 0, .int .i64 0, .int .i64 0, .int .i64 0] 65)) #[.int .u64 0, .int .i64 0, .int .u64 0] 63 3 rfl
    have hz : (w13.alloc (.cells #[.int .i64 0, .int .i64 0, .int .i64 0, .int .i64 0, .int .i64 0, .int .i64 0, .int .i64 0] 65)).heap.size = w13.heap.size + 1 := by simp
    rw [hz] at hQ'
    have hQ : HardAt ((w13.alloc (.cells #[.int .i64 0, .int .i64 0, .int .i64 0, .int .i64 0, .int .i64 0, .int .i64 0, .int .i64 0] 65)).alloc (.cells #[.int .u64 0, .int .i64 0, .int .u64 0] 63)) (w13.heap.size + 1) 0 0 0 := ⟨hQ'.get3.1, hQ'.get3.2.1, hQ'.get3.2.2⟩
    unfold sevenO at hP
    replace hb := hb.trans (hk.below (HS.out _ hb) fun _ q => q.elim)
    replace HS3 := Pin.Aside.mk (HS3.out.keep hk id)
    replace HH3 := Pin.Aside.mk (HH3.out.keep hk id)
    replace HP := Pin.Aside.mk (HP.out.keep hk id)
    replace HPh := Pin.Aside.mk (HPh.out.keep hk id)
    replace HQ := Pin.Aside.mk (HQ.out.keep hk id)
    replace HQh := Pin.Aside.mk (HQh.out.keep hk id)
    have qA := dA.keep hk ⟨id, id, id⟩
    clear hbb hk hQ hQ' hz hP dA
    go_upto_region 19 with fail
    generalize ((w13.alloc (.cells #[.int .i64 0, .int .i64 0, .int .i64 0, .int .i64 0, .int .i64 0, .int .i64 0, .int .i64 0] 65)).alloc (.cells #[.int .u64 0, .int .i64 0, .int .u64 0] 63)) = v13 at *
    generalize w13.heap.size = V at *
    obtain ⟨c0, c1, c2, c3, c4, c5, c6⟩ := HS3.out
    obtain ⟨x0, x1, x2⟩ := HH3.out
    obtain ⟨p0, p1, p2, p3, p4, p5, p6⟩ := HP.out
    obtain ⟨y0, y1, y2⟩ := HPh.out
    obtain ⟨q0, q1, q2, q3, q4, q5, q6⟩ := HQ.out
    obtain ⟨z0, z1, z2⟩ := HQh.out
    dsimp only at c0 c1 c2 c3 c4 c5 c6 p0 p1 p2 p3 p4 p5 p6 q0 q1 q2 q3 q4 q5 q6
    go_wp2_with fail
    refine (slots_sethard_to bA fA mA _ 3 t O c ht hc _ _ HX.out.2.2.2.2.2.2.1 _ qA).mono ?_
    rintro e w14 ⟨rfl, rA, hkk⟩
    have hbE := Pin.Aside.mk (Below.dev hb hkk (HS.out _ hb) JA.out.1.1 JA.out.1.2.1 JA.out.1.2.2)
    clear c0 c1 c2 c3 c4 c5 c6 x0 x1 x2 p0 p1 p2 p3 p4 p5 p6 y0 y1 y2 q0 q1 q2 q3 q4 q5 q6 z0 z1 z2 hb rA qA hkk
    go_wp2_with fail
    go_ret
    exact ⟨rfl, by rw [HRR.out]; exact hbE.out⟩
  case true.true =>
    go_upto_region 11 with fail
    rw [hO]
    have hk0 : Keep (fun _ => False) (w1.setCell ⟨R, 1, none⟩ (.int .i64 O)) ((w1.setCell ⟨R, 1, none⟩ (.int .i64 O)).alloc (.cells #[.int .i64 2, .int .i64 (1 + snap % 8), .int .i64 (1 + log % 8), .int .i64 0, .int .i64 0, .int .i64 0, .int .i64 0] 65)) := (Keep.refl _ _).alloc _
    have hg := ((hH2 (.int .i64 O)).keep hk0 id).get3
    have HH3 := Pin.Aside.mk (show HardAt ((w1.setCell ⟨R, 1, none⟩ (.int .i64 O)).alloc (.cells #[.int .i64 2, .int .i64 (1 + snap % 8), .int .i64 (1 + log % 8), .int .i64 0, .int .i64 0, .int .i64 0, .int .i64 0] 65)) R t O c from ⟨hg.1, hg.2.1, hg.2.2⟩)
    have hS3 := SevenAt.new (w1.setCell ⟨R, 1, none⟩ (.int .i64 O)) ⟨2, 1 + snap % 8, 1 + log % 8, 0, 0, 0, 0⟩ 65
    rw [hz2] at hS3
    unfold sevenO at hS3
    have HS3 := Pin.Aside.mk hS3
    have hb := (hb2 (.int .i64 O)).trans (hk0.below (HS.out _ (hb2 _)) fun _ q => q.elim)
    have lB : w1.heap.size < ((w1.setCell ⟨R, 1, none⟩ (.int .i64 O)).alloc (.cells #[.int .i64 2, .int .i64 (1 + snap % 8), .int .i64 (1 + log % 8), .int .i64 0, .int .i64 0, .int .i64 0, .int .i64 0] 65)).heap.size := World.block_lt_of_cell? (a := ⟨w1.heap.size, 0, none⟩) _ hS3.c0
    have lR : R < ((w1.setCell ⟨R, 1, none⟩ (.int .i64 O)).alloc (.cells #[.int .i64 2, .int .i64 (1 + snap % 8), .int .i64 (1 + log % 8), .int .i64 0, .int .i64 0, .int .i64 0, .int .i64 0] 65)).heap.size := by omega
    clear hS3 hg hk0 hH1 hH2 hb1 hb2 x0 x1 x2 y0 y1 y2 hne hO hz2
    generalize (w1.setCell ⟨R, 1, none⟩ (.int .i64 O)).alloc (.cells #[.int .i64 2, .int .i64 (1 + snap % 8), .int .i64 (1 + log % 8), .int .i64 0, .int .i64 0, .int .i64 0, .int .i64 0] 65) = w3 at *
    generalize w1.heap.size = B at *
    have Hr : (⟨2, 1 + snap % 8, 1 + log % 8, 0, 0, 0, 0⟩ : Sup).right = true := by simp [Sup.right]; omega
    obtain ⟨N, hN⟩ : ∃ N : Nat, ssectors ⟨2, 1 + snap % 8, 1 + log % 8, 0, 0, 0, 0⟩ = (N : Int) := ⟨(ssectors ⟨2, 1 + snap % 8, 1 + log % 8, 0, 0, 0, 0⟩).toNat, by unfold ssectors; rw [if_pos Hr]; dsimp only; omega⟩
    have hN8 : 8 ≤ N ∧ N ≤ 36 := by unfold ssectors at hN; rw [if_pos Hr] at hN; dsimp only at hN; omega
    have HSec := Pin.Aside.mk fun W => slots_sectors ⟨2, 1 + snap % 8, 1 + log % 8, 0, 0, 0, 0⟩ W
    rw [hN] at HSec
    obtain ⟨D1, hD1, q1⟩ := SlotsD.first N (by omega) (by omega) ⟨2, 1 + snap % 8, 1 + log % 8, 0, 0, 0, 0⟩ Hr
    obtain ⟨L1, hL1, r1⟩ := SlotsD.first (N - 1) (by omega) (by omega) ⟨2, 1 + snap % 8, 1 + log % 8, 0, 0, 0, 0⟩ Hr
    obtain ⟨D2, hD2, q2⟩ := q1.hard (by omega) 2 (by omega) ⟨t, O, c⟩ ⟨ht.1, ht.2, hc.1, hc.2⟩ hO7
    have hl1 := q1.load Hr (by omega)
    have hl2 := q2.load Hr (by omega)
    have hl3 := r1.small Hr (by omega)
    have HX := Pin.Aside.mk (And.intro hD1 (And.intro hL1 (And.intro hD2 (And.intro hl1 (And.intro hl2 (And.intro hl3 (And.intro (shardW_no D2 ⟨t, O, c⟩) (And.intro Hr hN))))))))
    clear hD1 hL1 hD2 q1 q2 r1 hl1 hl2 hl3 Hr hN
    obtain ⟨c0, c1, c2, c3, c4, c5, c6⟩ := HS3.out
    obtain ⟨x0, x1, x2⟩ := HH3.out
    dsimp only at c0 c1 c2 c3 c4 c5 c6
    go_wp2_with fail
    refine (HSec.out _).mono ?_
    rintro e w4 ⟨rfl, hbb⟩
    clear x0 x1 x2 c0 c1 c2 c3 c4 c5 c6
    replace HS3 := Pin.Aside.mk (HS3.out.below hbb)
    replace HH3 := Pin.Aside.mk (HH3.out.below hbb)
    replace hb := hb.trans (hbb.mono (HS.out _ hb))
    have z4 := hbb.size
    clear hbb
    go_wp2_with fail
    with_reducible refine (dev_new' N N rfl (by omega) (by omega) _).mono ?_
    rintro e w5 ⟨bA, fA, mA, rfl, hbA, hfA, hmA, dA, hbb⟩
    replace HS3 := Pin.Aside.mk (HS3.out.below hbb)
    replace HH3 := Pin.Aside.mk (HH3.out.below hbb)
    replace hb := hb.trans (hbb.mono (HS.out _ hb))
    have z5 := hbb.size
    clear hbb
    obtain ⟨c0, c1, c2, c3, c4, c5, c6⟩ := HS3.out
    obtain ⟨x0, x1, x2⟩ := HH3.out
    dsimp only at c0 c1 c2 c3 c4 c5 c6
    go_wp2_with fail
    refine (HSec.out _).mono ?_
    rintro e w6 ⟨rfl, hbb⟩
    clear x0 x1 x2 c0 c1 c2 c3 c4 c5 c6
    replace HS3 := Pin.Aside.mk (HS3.out.below hbb)
    replace HH3 := Pin.Aside.mk (HH3.out.below hbb)
    replace dA := dA.below hbb
    replace hb := hb.trans (hbb.mono (HS.out _ hb))
    have z6 := hbb.size
    clear hbb
    have hmx : ¬ ((N : Int) - 1 < 1) := by omega
    have hmx2 : (1 : Int) ≤ (N : Int) - 1 := by omega
    go_wp2_with fail
    with_reducible refine (dev_new' _ (N - 1) (by omega) (by omega) (by omega) _).mono ?_
    rintro e w7 ⟨bB, fB, mB, rfl, hbB, hfB, hmB, dB, hbb⟩
    have apAB := dA.apart hbB hfB hmB
    have apBA := apAB.symm
    replace HS3 := Pin.Aside.mk (HS3.out.below hbb)
    replace HH3 := Pin.Aside.mk (HH3.out.below hbb)
    replace dA := dA.below hbb
    replace hb := hb.trans (hbb.mono (HS.out _ hb))
    have z7 := hbb.size
    clear hbb hmx hmx2
    have jA : (R ≤ bA ∧ R ≤ fA ∧ R ≤ mA) ∧ (R ≠ bA ∧ R ≠ fA ∧ R ≠ mA) ∧ (B ≠ bA ∧ B ≠ fA ∧ B ≠ mA) := by omega
    have jB : (R ≤ bB ∧ R ≤ fB ∧ R ≤ mB) ∧ (R ≠ bB ∧ R ≠ fB ∧ R ≠ mB) ∧ (B ≠ bB ∧ B ≠ fB ∧ B ≠ mB) := by omega
    have JA := Pin.Aside.mk jA
    have JB := Pin.Aside.mk jB
    have kA : ¬ devS bA fA mA R ∧ ¬ devS bA fA mA B := by unfold devS; omega
    have kB : ¬ devS bB fB mB R ∧ ¬ devS bB fB mB B := by unfold devS; omega
    have KA := Pin.Aside.mk kA
    have KB := Pin.Aside.mk kB
    clear jA jB kA kB z4 z5 z6 z7 hbA hfA hmA hbB hfB hmB lR lB
    obtain ⟨c0, c1, c2, c3, c4, c5, c6⟩ := HS3.out
    obtain ⟨x0, x1, x2⟩ := HH3.out
    dsimp only at c0 c1 c2 c3 c4 c5 c6
    go_wp2_with fail
    refine (slots_setsuper_to bA fA mA _ ⟨2, 1 + snap % 8, 1 + log % 8, 0, 0, 0, 0⟩ _ _ HX.out.1 _ dA).mono ?_
    rintro e w8 ⟨rfl, qA, hkk⟩
    clear x0 x1 x2 c0 c1 c2 c3 c4 c5 c6
    replace HS3 := Pin.Aside.mk (HS3.out.keep hkk KA.out.2)
    replace HH3 := Pin.Aside.mk (HH3.out.keep hkk KA.out.1)
    replace dB := dB.keepA apBA hkk
    replace hb := Below.dev hb hkk (HS.out _ hb) JA.out.1.1 JA.out.1.2.1 JA.out.1.2.2
    clear dA hkk
    obtain ⟨c0, c1, c2, c3, c4, c5, c6⟩ := HS3.out
    obtain ⟨x0, x1, x2⟩ := HH3.out
    dsimp only at c0 c1 c2 c3 c4 c5 c6
    go_wp2_with fail
    refine (slots_setsuper_to bB fB mB _ ⟨2, 1 + snap % 8, 1 + log % 8, 0, 0, 0, 0⟩ _ _ HX.out.2.1 _ dB).mono ?_
    rintro e w9 ⟨rfl, qB, hkk⟩
    clear x0 x1 x2 c0 c1 c2 c3 c4 c5 c6
    replace HS3 := Pin.Aside.mk (HS3.out.keep hkk KB.out.2)
    replace HH3 := Pin.Aside.mk (HH3.out.keep hkk KB.out.1)
    have dA := qA.keepA apAB hkk
    replace hb := Below.dev hb hkk (HS.out _ hb) JB.out.1.1 JB.out.1.2.1 JB.out.1.2.2
    clear dB qA hkk
    go_wp2_with fail
    refine (slots_load_to bA fA mA _ ⟨2, 1 + snap % 8, 1 + log % 8, 0, 0, 0, 0⟩ ⟨0, 0, 0⟩ _ HX.out.2.2.2.1 _ dA).mono ?_
    rintro e w10 ⟨rfl, hbb⟩
    have hk := ((Keep.of_below (S := fun _ => False) hbb fun _ hk _ => hk).alloc (.cells #[.int .i64 2, .int .i64 (1 + snap % 8), .int .i64 (1 + log % 8), .int .i64 0, .int .i64 0, .int .i64 0, .int .i64 0] 65)).alloc (.cells #[.int .u64 0, .int .i64 0, .int .u64 0] 63)
    have hP := (SevenAt.new w10 ⟨2, 1 + snap % 8, 1 + log % 8, 0, 0, 0, 0⟩ 65).keep ((Keep.refl (fun _ => False) _).alloc (.cells #[.int .u64 0, .int .i64 0, .int .u64 0] 63)) id
    have hQ' := SevAt.new (w10.alloc (.cells #[.int .i64 2, .int .i64 (1 + snap % 8), .int .i64 (1 + log % 8), .int .i64 0, .int .i64 0, .int .i64 0, .int .i64 0] 65)) #[.int .u64 0, .int .i64 0, .int .u64 0] 63 3 rfl
    have hz : (w10.alloc (.cells #[.int .i64 2, .int .i64 (1 + snap % 8), .int .i64 (1 + log % 8), .int .i64 0, .int .i64 0, .int .i64 0, .int .i64 0] 65)).heap.size = w10.heap.size + 1 := by simp
    rw [hz] at hQ'
    have hQ : HardAt ((w10.alloc (.cells #[.int .i64 2, .int .i64 (1 + snap % 8), .int .i64 (1 + log % 8), .int .i64 0, .int .i64 0, .int .i64 0, .int .i64 0] 65)).alloc (.cells #[.int .u64 0, .int .i64 0, .int .u64 0] 63)) (w10.heap.size + 1) 0 0 0 := ⟨hQ'.get3.1, hQ'.get3.2.1, hQ'.get3.2.2⟩
    unfold sevenO at hP
    replace hb := hb.trans (hk.below (HS.out _ hb) fun _ q => q.elim)
    replace HS3 := Pin.Aside.mk (HS3.out.keep hk id)
    replace HH3 := Pin.Aside.mk (HH3.out.keep hk id)
    have NP := Pin.Aside.mk (show ¬ devS bA fA mA w10.heap.size ∧ ¬ devS bA fA mA (w10.heap.size + 1) by have h1 := (dA.below hbb).lt; unfold devS; omega)
    have dA1 := dA.keep hk ⟨id, id, id⟩
    have dB := qB.keep hk ⟨id, id, id⟩
    have HP := Pin.Aside.mk hP
    have HPh := Pin.Aside.mk hQ
    clear hbb hk hQ hQ' hz hP dA qB
    go_upto_region 16 with fail
    generalize ((w10.alloc (.cells #[.int .i64 2, .int .i64 (1 + snap % 8), .int .i64 (1 + log % 8), .int .i64 0, .int .i64 0, .int .i64 0, .int .i64 0] 65)).alloc (.cells #[.int .u64 0, .int .i64 0, .int .u64 0] 63)) = v10 at *
    generalize w10.heap.size = P at *
    obtain ⟨x0, x1, x2⟩ := HH3.out
    go_wp2_with fail
    refine (slots_sethard_to bA fA mA _ 2 t O c ht hc _ _ HX.out.2.2.1 _ dA1).mono ?_
    rintro e w11 ⟨rfl, qA, hkk⟩
    clear x0 x1 x2
    replace HS3 := Pin.Aside.mk (HS3.out.keep hkk KA.out.2)
    replace HH3 := Pin.Aside.mk (HH3.out.keep hkk KA.out.1)
    replace HP := Pin.Aside.mk (HP.out.keep hkk NP.out.1)
    replace HPh := Pin.Aside.mk (HPh.out.keep hkk NP.out.2)
    replace dB := dB.keepA apBA hkk
    replace hb := Below.dev hb hkk (HS.out _ hb) JA.out.1.1 JA.out.1.2.1 JA.out.1.2.2
    clear dA1 hkk
    go_wp2_with fail
    refine (slots_load_to bA fA mA _ ⟨2, 1 + snap % 8, 1 + log % 8, 0, 0, 0, 0⟩ ⟨t, O, c⟩ _ HX.out.2.2.2.2.1 _ qA).mono ?_
    rintro e w12 ⟨rfl, hbb⟩
    have hk := ((Keep.of_below (S := fun _ => False) hbb fun _ hk _ => hk).alloc (.cells #[.int .i64 2, .int .i64 (1 + snap % 8), .int .i64 (1 + log % 8), .int .i64 0, .int .i64 0, .int .i64 0, .int .i64 0] 65)).alloc (.cells #[.int .u64 t, .int .i64 O, .int .u64 c] 63)
    have hP := (SevenAt.new w12 ⟨2, 1 + snap % 8, 1 + log % 8, 0, 0, 0, 0⟩ 65).keep ((Keep.refl (fun _ => False) _).alloc (.cells #[.int .u64 t, .int .i64 O, .int .u64 c] 63)) id
    have hQ' := SevAt.new (w12.alloc (.cells #[.int .i64 2, .int .i64 (1 + snap % 8), .int .i64 (1 + log % 8), .int .i64 0, .int .i64 0, .int .i64 0, .int .i64 0] 65)) #[.int .u64 t, .int .i64 O, .int .u64 c] 63 3 rfl
    have hz : (w12.alloc (.cells #[.int .i64 2, .int .i64 (1 + snap % 8), .int .i64 (1 + log % 8), .int .i64 0, .int .i64 0, .int .i64 0, .int .i64 0] 65)).heap.size = w12.heap.size + 1 := by simp
    rw [hz] at hQ'
    have hQ : HardAt ((w12.alloc (.cells #[.int .i64 2, .int .i64 (1 + snap % 8), .int .i64 (1 + log % 8), .int .i64 0, .int .i64 0, .int .i64 0, .int .i64 0] 65)).alloc (.cells #[.int .u64 t, .int .i64 O, .int .u64 c] 63)) (w12.heap.size + 1) t O c := ⟨hQ'.get3.1, hQ'.get3.2.1, hQ'.get3.2.2⟩
    unfold sevenO at hP
    replace hb := hb.trans (hk.below (HS.out _ hb) fun _ q => q.elim)
    replace HS3 := Pin.Aside.mk (HS3.out.keep hk id)
    replace HH3 := Pin.Aside.mk (HH3.out.keep hk id)
    replace HP := Pin.Aside.mk (HP.out.keep hk id)
    replace HPh := Pin.Aside.mk (HPh.out.keep hk id)
    have dA := qA.keep hk ⟨id, id, id⟩
    have qB := dB.keep hk ⟨id, id, id⟩
    have HQ := Pin.Aside.mk hP
    have HQh := Pin.Aside.mk hQ
    clear hbb hk hQ hQ' hz hP qA dB
    go_upto_region 18 with fail
    generalize ((w12.alloc (.cells #[.int .i64 2, .int .i64 (1 + snap % 8), .int .i64 (1 + log % 8), .int .i64 0, .int .i64 0, .int .i64 0, .int .i64 0] 65)).alloc (.cells #[.int .u64 t, .int .i64 O, .int .u64 c] 63)) = v12 at *
    generalize w12.heap.size = Q at *
    go_wp2_with fail
    refine (slots_load_to bB fB mB _ ⟨0, 0, 0, 0, 0, 0, 0⟩ ⟨0, 0, 0⟩ _ HX.out.2.2.2.2.2.1 _ qB).mono ?_
    rintro e w13 ⟨rfl, hbb⟩
    have hk := ((Keep.of_below (S := fun _ => False) hbb fun _ hk _ => hk).alloc (.cells #[.int .i64 0, .int .i64 0, .int .i64 0, .int .i64 0, .int .i64 0, .int .i64 0, .int .i64 0] 65)).alloc (.cells #[.int .u64 0, .int .i64 0, .int .u64 0] 63)
    have hP := (SevenAt.new w13 ⟨0, 0, 0, 0, 0, 0, 0⟩ 65).keep ((Keep.refl (fun _ => False) _).alloc (.cells #[.int .u64 0, .int .i64 0, .int .u64 0] 63)) id
    have hQ' := SevAt.new (w13.alloc (.cells #[.int .i64 0, .int .i64 0, .int .i64 0, .int .i64 0, .int .i64 0, .int .i64 0, .int .i64 0] 65)) #[.int .u64 0, .int .i64 0, .int .u64 0] 63 3 rfl
    have hz : (w13.alloc (.cells #[.int .i64 0, .int .i64 0, .int .i64 0, .int .i64 0, .int .i64 0, .int .i64 0, .int .i64 0] 65)).heap.size = w13.heap.size + 1 := by simp
    rw [hz] at hQ'
    have hQ : HardAt ((w13.alloc (.cells #[.int .i64 0, .int .i64 0, .int .i64 0, .int .i64 0, .int .i64 0, .int .i64 0, .int .i64 0] 65)).alloc (.cells #[.int .u64 0, .int .i64 0, .int .u64 0] 63)) (w13.heap.size + 1) 0 0 0 := ⟨hQ'.get3.1, hQ'.get3.2.1, hQ'.get3.2.2⟩
    unfold sevenO at hP
    replace hb := hb.trans (hk.below (HS.out _ hb) fun _ q => q.elim)
    replace HS3 := Pin.Aside.mk (HS3.out.keep hk id)
    replace HH3 := Pin.Aside.mk (HH3.out.keep hk id)
    replace HP := Pin.Aside.mk (HP.out.keep hk id)
    replace HPh := Pin.Aside.mk (HPh.out.keep hk id)
    replace HQ := Pin.Aside.mk (HQ.out.keep hk id)
    replace HQh := Pin.Aside.mk (HQh.out.keep hk id)
    have qA := dA.keep hk ⟨id, id, id⟩
    clear hbb hk hQ hQ' hz hP dA
    go_upto_region 19 with fail
    generalize ((w13.alloc (.cells #[.int .i64 0, .int .i64 0, .int .i64 0, .int .i64 0, .int .i64 0, .int .i64 0, .int .i64 0] 65)).alloc (.cells #[.int .u64 0, .int .i64 0, .int .u64 0] 63)) = v13 at *
    generalize w13.heap.size = V at *
    obtain ⟨c0, c1, c2, c3, c4, c5, c6⟩ := HS3.out
    obtain ⟨x0, x1, x2⟩ := HH3.out
    obtain ⟨p0, p1, p2, p3, p4, p5, p6⟩ := HP.out
    obtain ⟨y0, y1, y2⟩ := HPh.out
    obtain ⟨q0, q1, q2, q3, q4, q5, q6⟩ := HQ.out
    obtain ⟨z0, z1, z2⟩ := HQh.out
    dsimp only at c0 c1 c2 c3 c4 c5 c6 p0 p1 p2 p3 p4 p5 p6 q0 q1 q2 q3 q4 q5 q6
    go_wp2_with fail
    refine (slots_sethard_to bA fA mA _ 3 t O c ht hc _ _ HX.out.2.2.2.2.2.2.1 _ qA).mono ?_
    rintro e w14 ⟨rfl, rA, hkk⟩
    have hbE := Pin.Aside.mk (Below.dev hb hkk (HS.out _ hb) JA.out.1.1 JA.out.1.2.1 JA.out.1.2.2)
    clear c0 c1 c2 c3 c4 c5 c6 x0 x1 x2 p0 p1 p2 p3 p4 p5 p6 y0 y1 y2 q0 q1 q2 q3 q4 q5 q6 z0 z1 z2 hb rA qA hkk
    go_wp2_with fail
    go_ret
    exact ⟨rfl, by rw [HRR.out]; exact hbE.out⟩
end Go.Proofs.YtpfkpaombiikcaaDoor
