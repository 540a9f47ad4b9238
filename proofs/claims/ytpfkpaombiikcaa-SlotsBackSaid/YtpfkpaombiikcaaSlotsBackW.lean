/- SlotsBack: its walk. -/
import Derived.Test.YtpfkpaombiikcaaSlV
import Derived.BigRegion
set_option maxRecDepth 16000
namespace Go.Proofs.Ytpfkpaombiikcaa
open Go.RowKit Go.Pin
set_option linter.unusedVariables false
set_option linter.unusedSimpArgs false
set_option maxHeartbeats 6400000 in
theorem slotsBack_walk (snap log bits : Int) (t o c : Int) (hsn : 0 ≤ snap ∧ snap ≤ 65535) (hlg : 0 ≤ log ∧ log ≤ 65535) (hbi : 0 ≤ bits ∧ bits ≤ 255) (ht : 0 ≤ t ∧ t ≤ 18446744073709551615) (ho : -9223372036854775808 ≤ o ∧ o ≤ 9223372036854775807) (hc : 0 ≤ c ∧ c ≤ 18446744073709551615) (w : World) :
    Calls Try.prog 5 #[.int .u16 snap, .int .u16 log, .int .u8 bits, .agg #[.int .u64 t, .int .i64 o, .int .u64 c]] w fun e w' => e = .returned (.bool true) ∧ Below w.heap.size w w' := by
  have hb := (Below.refl w.heap.size w).alloc (Nat.le_refl _) (.cells #[.int .u64 t, .int .i64 o, .int .u64 c] 33)
  have HH := Pin.Aside.mk (HardF.new w t o c 33)
  go_enter Try.func5, Try.ntmps5
  go_wp2_with fail
  refine (slots_examples _).mono ?_
  rintro e w1 ⟨rfl, hbb⟩
  replace hb := Below.next hb hbb
  replace HH := Pin.Aside.mk (HH.out.keep (Keep.of_below (S := fun _ => False) hbb fun _ hk _ => hk) id)
  have lR := HH.out.lt
  clear hbb
  generalize hRR : w.heap.size = R at *
  have HRR := Pin.Aside.mk hRR
  have HS := Pin.Aside.mk (show ∀ x, Below R w x → R ≤ x.heap.size from fun x h => by have := h.size; omega)
  clear hRR
  obtain ⟨O, hO⟩ : ∃ O, wrap64 ((IntKind.u64.wrap o).tmod 8) = O := ⟨_, rfl⟩
  have hO7 : 0 ≤ O ∧ O ≤ 7 := by
    have h1 : 0 ≤ IntKind.u64.wrap o := by rw [IntKind.wrap_u64]; omega
    rw [Int.tmod_eq_emod_of_nonneg h1] at hO
    rw [← hO, wrap64]; omega
  obtain ⟨x0, x1, x2⟩ := HH.out.at'
  have f1 := HH.out.fr 1 (by omega)
  have hne : ¬ w1.heap.size = R := by omega
  by_cases hg : bits / 4 % 3 = 0
  · have hz : True := trivial
    have hw : (w1.setCell ⟨R, 1, none⟩ (.int .i64 O)).heap.size = w1.heap.size := by simp
    have hk := (Keep.refl (fun _ => False) (w1.setCell ⟨R, 1, none⟩ (.int .i64 O))).alloc (.cells #[.int .i64 1, .int .i64 (1 + snap % 1000), .int .i64 (1 + log % 1000), .int .i64 (bits % 2), .int .i64 (bits / 2 % 2), .int .i64 0, .int .i64 0] 23)
    replace HH := Pin.Aside.mk ((HH.out.vote O).keep hk id)
    have hs := SevenF.new (w1.setCell ⟨R, 1, none⟩ (.int .i64 O)) ⟨1, (1 + snap % 1000), (1 + log % 1000), (bits % 2), (bits / 2 % 2), 0, 0⟩ 23
    rw [hw] at hs
    unfold sevenO at hs
    dsimp only at hs
    have HF := Pin.Aside.mk hs
    replace hb : Below R w (w1.setCell ⟨R, 1, none⟩ (.int .i64 O)) := hb.setCell (p := ⟨R, 1, none⟩) (Nat.le_refl R) _
    replace hb := hb.trans (hk.below (HS.out _ hb) fun _ q => q.elim)
    have HRB := Pin.Aside.mk (show R < w1.heap.size from lR)
    clear hk hs hw
    go_upto_region 8 with fail
    generalize ((w1.setCell ⟨R, 1, none⟩ (.int .i64 O)).alloc (.cells #[.int .i64 1, .int .i64 (1 + snap % 1000), .int .i64 (1 + log % 1000), .int .i64 (bits % 2), .int .i64 (bits / 2 % 2), .int .i64 0, .int .i64 0] 23)) = w3 at *
    generalize w1.heap.size = B at *
    clear x0 x1 x2 f1 hne hO lR
    have hx : (1 ≤ 1 + snap % 1000 ∧ 1 + snap % 1000 ≤ 1000) ∧ (1 ≤ 1 + log % 1000 ∧ 1 + log % 1000 ≤ 1000) ∧ (0 ≤ bits % 2 ∧ bits % 2 ≤ 1) ∧ (0 ≤ bits / 2 % 2 ∧ bits / 2 % 2 ≤ 1) ∧ (0 ≤ 0 ∧ 0 ≤ (2 : Int)) ∧ (0 ≤ 0 ∧ 0 ≤ (9 : Int)) ∧ ((0 : Int) < 0 ∨ 0 = (0 : Int)) := by omega
    generalize 1 + snap % 1000 = y1 at *
    generalize 1 + log % 1000 = y2 at *
    generalize bits % 2 = y3 at *
    generalize bits / 2 % 2 = y4 at *
    clear hg
    have HX := Pin.Aside.mk (fun (v : Int) (hv : 1 ≤ v ∧ v ≤ 2) => show (⟨v, y1, y2, y3, y4, 0, 0⟩ : Sup).right = true by simp [Sup.right]; omega)
    have HO := Pin.Aside.mk hO7
    clear hx hO7
    go_wp2_with fail
    go_loopw [11] (fun q wr => ∃ v x : Int, 1 ≤ v ∧ v ≤ 3 ∧ q = .int .i64 v ∧ Pin.Aside (SevenF wr B ⟨x, y1, y2, y3, y4, 0, 0⟩) ∧ Pin.Aside (HardF wr R t O c) ∧ Below R w wr) (fun q _ => 5 - (intOf q).toNat)
    case atStart => exact ⟨1, 1, by omega, by omega, rfl, HF, HH, hb⟩
    case round =>
      clear hb HF HH
      obtain ⟨v, x, hv1, hv3, rfl, HF, HH, hb⟩ := hrel
      by_cases hv2 : v ≤ 2
      · have hr := HX.out v ⟨hv1, hv2⟩
        obtain ⟨T, hT⟩ : ∃ T, supS ⟨v, y1, y2, y3, y4, 0, 0⟩ = T := ⟨_, rfl⟩
        have hTz := supS_size ⟨v, y1, y2, y3, y4, 0, 0⟩ hr
        have hTg := supget_put ⟨v, y1, y2, y3, y4, 0, 0⟩ hr
        rw [hT] at hTz hTg
        obtain ⟨U, hU⟩ : ∃ U, hardS v ⟨t, O, c⟩ = U := ⟨_, rfl⟩
        have hUz := hardS_size v ⟨t, O, c⟩
        have hUg := hardget_put v (by omega) ⟨t, O, c⟩ ⟨ht.1, ht.2, hc.1, hc.2⟩ HO.out
        rw [hU] at hUz hUg
        have HP := Pin.Aside.mk fun W => slots_put_to ⟨v, y1, y2, y3, y4, 0, 0⟩ T true (by unfold supput; rw [if_pos hr, hT]) W
        have HG := Pin.Aside.mk fun W => slots_get_to T (Nat.le_trans hTz (by decide)) ⟨v, y1, y2, y3, y4, 0, 0⟩ true hTg W
        have hPH : hardput v ⟨t, O, c⟩ = (U, true) := by unfold hardput; rw [← hU]; exact if_pos ⟨by omega, HO.out⟩
        have HPH := Pin.Aside.mk (show ∀ W, Calls Try.prog 13 #[.int .i64 v, .agg #[.int .u64 t, .int .i64 O, .int .u64 c]] W fun e w' => e = .returned (.tuple #[.string U, .bool true]) ∧ Below W.heap.size W w' from fun W => by
          have := slots_puthard v t O c ht hc W
          rw [hPH] at this; exact this)
        have HGH := Pin.Aside.mk fun W => slots_gethard_to U (Nat.le_trans hUz (by decide)) ⟨t, O, c⟩ v true hUg W
        obtain ⟨N, hN⟩ : ∃ N, 4 + 2 * (y1 + y2) = N := ⟨_, rfl⟩
        have HSec := Pin.Aside.mk (show ∀ W, Calls Try.prog 10 #[.agg #[.int .i64 v, .int .i64 y1, .int .i64 y2, .int .i64 y3, .int .i64 y4, .int .i64 0, .int .i64 0]] W fun e w' => e = .returned (.int .i64 N) ∧ Below W.heap.size W w' from fun W => by
          have := slots_sectors ⟨v, y1, y2, y3, y4, 0, 0⟩ W
          unfold ssectors at this
          rw [if_pos hr] at this
          rw [← hN]; exact this)
        have hbd : (1 ≤ y1 ∧ y1 ≤ 1000) ∧ (1 ≤ y2 ∧ y2 ≤ 1000) := by have := Sup.right_iff hr; dsimp only at this; omega
        clear hT hTz hTg hU hUz hUg hPH hr
        have f0 := HF.out.fr 0 (by omega)
        have c0 := HF.out.at'.c0
        dsimp only at c0
        go_upto_region 12 with fail
        replace HF := Pin.Aside.mk (HF.out.ver v)
        replace HH := Pin.Aside.mk (HH.out.set (k := 0) (Nat.ne_of_gt HRB.out) (Value.int .i64 v))
        replace hb : Below R w (wr.setCell ⟨B, 0, none⟩ (.int .i64 v)) := hb.setCell (p := ⟨B, 0, none⟩) (Nat.le_of_lt HRB.out) _
        clear f0 c0
        generalize wr.setCell ⟨B, 0, none⟩ (Value.int .i64 v) = w4 at *
        obtain ⟨c0, c1, c2, c3, c4, c5, c6⟩ := HF.out.at'
        dsimp only at c0 c1 c2 c3 c4 c5 c6
        go_wp2_with fail
        refine (HP.out _).mono ?_
        rintro e w5 ⟨rfl, hbb⟩
        clear c0 c1 c2 c3 c4 c5 c6
        have hk := Keep.of_below (S := fun _ => False) hbb fun _ hk _ => hk
        replace HF := Pin.Aside.mk (HF.out.keep hk id)
        replace HH := Pin.Aside.mk (HH.out.keep hk id)
        replace hb := hb.trans (hk.below (HS.out _ hb) fun _ q => q.elim)
        clear hbb hk
        go_wp2_with fail
        refine (HG.out _).mono ?_
        rintro e w6 ⟨rfl, hbb⟩
        have hk := (Keep.of_below (S := fun _ => False) hbb fun _ hk _ => hk).alloc (.cells #[.int .i64 v, .int .i64 y1, .int .i64 y2, .int .i64 y3, .int .i64 y4, .int .i64 0, .int .i64 0] 23)
        have hs := SevenF.new w6 ⟨v, y1, y2, y3, y4, 0, 0⟩ 23
        unfold sevenO at hs
        dsimp only at hs
        have HG2 := Pin.Aside.mk hs
        replace HF := Pin.Aside.mk (HF.out.keep hk id)
        replace HH := Pin.Aside.mk (HH.out.keep hk id)
        replace hb := hb.trans (hk.below (HS.out _ hb) fun _ q => q.elim)
        clear hbb hk hs
        go_upto_region 14 with fail
        generalize w6.alloc (.cells #[.int .i64 v, .int .i64 y1, .int .i64 y2, .int .i64 y3, .int .i64 y4, .int .i64 0, .int .i64 0] 23) = w7 at *
        generalize w6.heap.size = P at *
        obtain ⟨x0, x1, x2⟩ := HH.out.at'
        go_wp2_with fail
        refine (HPH.out _).mono ?_
        rintro e w8 ⟨rfl, hbb⟩
        clear x0 x1 x2
        have hk := Keep.of_below (S := fun _ => False) hbb fun _ hk _ => hk
        replace HF := Pin.Aside.mk (HF.out.keep hk id)
        replace HH := Pin.Aside.mk (HH.out.keep hk id)
        replace HG2 := Pin.Aside.mk (HG2.out.keep hk id)
        replace hb := hb.trans (hk.below (HS.out _ hb) fun _ q => q.elim)
        clear hbb hk
        go_wp2_with fail
        refine (HGH.out _).mono ?_
        rintro e w10 ⟨rfl, hbb⟩
        have hk := (Keep.of_below (S := fun _ => False) hbb fun _ hk _ => hk).alloc (.cells #[.int .u64 t, .int .i64 O, .int .u64 c] 33)
        have HH2 := Pin.Aside.mk (HardF.new w10 t O c 33)
        replace HF := Pin.Aside.mk (HF.out.keep hk id)
        replace HH := Pin.Aside.mk (HH.out.keep hk id)
        replace HG2 := Pin.Aside.mk (HG2.out.keep hk id)
        replace hb := hb.trans (hk.below (HS.out _ hb) fun _ q => q.elim)
        clear hbb hk
        go_upto_region 16 with fail
        generalize w10.alloc (.cells #[.int .u64 t, .int .i64 O, .int .u64 c] 33) = w9 at *
        generalize w10.heap.size = Q at *
        have k0 : ∀ s' : KW (fun _ => False) w9, s'.w.cell? ⟨B, 0, none⟩ = some (.int .i64 v) := fun s' => s'.keep.cell HF.out.at'.c0 id
        have p0 : ∀ s' : KW (fun _ => False) w9, s'.w.cell? ⟨P, 0, none⟩ = some (.int .i64 v) := fun s' => s'.keep.cell HG2.out.at'.c0 id
        have k1 : ∀ s' : KW (fun _ => False) w9, s'.w.cell? ⟨B, 1, none⟩ = some (.int .i64 y1) := fun s' => s'.keep.cell HF.out.at'.c1 id
        have p1 : ∀ s' : KW (fun _ => False) w9, s'.w.cell? ⟨P, 1, none⟩ = some (.int .i64 y1) := fun s' => s'.keep.cell HG2.out.at'.c1 id
        have k2 : ∀ s' : KW (fun _ => False) w9, s'.w.cell? ⟨B, 2, none⟩ = some (.int .i64 y2) := fun s' => s'.keep.cell HF.out.at'.c2 id
        have p2 : ∀ s' : KW (fun _ => False) w9, s'.w.cell? ⟨P, 2, none⟩ = some (.int .i64 y2) := fun s' => s'.keep.cell HG2.out.at'.c2 id
        have k3 : ∀ s' : KW (fun _ => False) w9, s'.w.cell? ⟨B, 3, none⟩ = some (.int .i64 y3) := fun s' => s'.keep.cell HF.out.at'.c3 id
        have p3 : ∀ s' : KW (fun _ => False) w9, s'.w.cell? ⟨P, 3, none⟩ = some (.int .i64 y3) := fun s' => s'.keep.cell HG2.out.at'.c3 id
        have k4 : ∀ s' : KW (fun _ => False) w9, s'.w.cell? ⟨B, 4, none⟩ = some (.int .i64 y4) := fun s' => s'.keep.cell HF.out.at'.c4 id
        have p4 : ∀ s' : KW (fun _ => False) w9, s'.w.cell? ⟨P, 4, none⟩ = some (.int .i64 y4) := fun s' => s'.keep.cell HG2.out.at'.c4 id
        have k5 : ∀ s' : KW (fun _ => False) w9, s'.w.cell? ⟨B, 5, none⟩ = some (.int .i64 0) := fun s' => s'.keep.cell HF.out.at'.c5 id
        have p5 : ∀ s' : KW (fun _ => False) w9, s'.w.cell? ⟨P, 5, none⟩ = some (.int .i64 0) := fun s' => s'.keep.cell HG2.out.at'.c5 id
        have k6 : ∀ s' : KW (fun _ => False) w9, s'.w.cell? ⟨B, 6, none⟩ = some (.int .i64 0) := fun s' => s'.keep.cell HF.out.at'.c6 id
        have p6 : ∀ s' : KW (fun _ => False) w9, s'.w.cell? ⟨P, 6, none⟩ = some (.int .i64 0) := fun s' => s'.keep.cell HG2.out.at'.c6 id
        have q0 : ∀ s' : KW (fun _ => False) w9, s'.w.cell? ⟨R, 0, none⟩ = some (.int .u64 t) := fun s' => s'.keep.cell HH.out.at'.c0 id
        have r0 : ∀ s' : KW (fun _ => False) w9, s'.w.cell? ⟨Q, 0, none⟩ = some (.int .u64 t) := fun s' => s'.keep.cell HH2.out.at'.c0 id
        have q1 : ∀ s' : KW (fun _ => False) w9, s'.w.cell? ⟨R, 1, none⟩ = some (.int .i64 O) := fun s' => s'.keep.cell HH.out.at'.c1 id
        have r1 : ∀ s' : KW (fun _ => False) w9, s'.w.cell? ⟨Q, 1, none⟩ = some (.int .i64 O) := fun s' => s'.keep.cell HH2.out.at'.c1 id
        have q2 : ∀ s' : KW (fun _ => False) w9, s'.w.cell? ⟨R, 2, none⟩ = some (.int .u64 c) := fun s' => s'.keep.cell HH.out.at'.c2 id
        have r2 : ∀ s' : KW (fun _ => False) w9, s'.w.cell? ⟨Q, 2, none⟩ = some (.int .u64 c) := fun s' => s'.keep.cell HH2.out.at'.c2 id
        refine wp_region_keep (fun _ => False) (by kernel_rfl) (by kernel_rfl) ?_
        repeat (go_big_quiet_step ((go_at_call 10; with_reducible exact KW.calls (HSec.out _))))
        refine wpQuiet_nil ?_
        intro s4'
        replace HF := Pin.Aside.mk (HF.out.keep s4'.keep id)
        replace HH := Pin.Aside.mk (HH.out.keep s4'.keep id)
        replace hb := hb.trans (s4'.keep.below (HS.out _ hb) fun _ q => q.elim)
        clear k0 p0 k1 p1 k2 p2 k3 p3 k4 p4 k5 p5 k6 p6 q0 r0 q1 r1 q2 r2 HG2 HH2
        generalize s4'.w = w11 at *
        go_wp2_with fail
        go_roundw
        case rel => exact ⟨v + 1, v, by omega, by omega, rfl, HF, HH, hb⟩
        case measure => simp [intOf]; omega
      · go_wp2_with fail
        go_ret
        exact ⟨rfl, by rw [HRR.out]; exact hb⟩
  · have hg1 : 0 < bits / 4 % 3 := by omega
    have hw : (w1.setCell ⟨R, 1, none⟩ (.int .i64 O)).heap.size = w1.heap.size := by simp
    have hk := (Keep.refl (fun _ => False) (w1.setCell ⟨R, 1, none⟩ (.int .i64 O))).alloc (.cells #[.int .i64 1, .int .i64 (1 + snap % 1000), .int .i64 (1 + log % 1000), .int .i64 (bits % 2), .int .i64 (bits / 2 % 2), .int .i64 (bits / 4 % 3), .int .i64 (bits / 16 % 10)] 23)
    replace HH := Pin.Aside.mk ((HH.out.vote O).keep hk id)
    have hs := SevenF.new (w1.setCell ⟨R, 1, none⟩ (.int .i64 O)) ⟨1, (1 + snap % 1000), (1 + log % 1000), (bits % 2), (bits / 2 % 2), (bits / 4 % 3), (bits / 16 % 10)⟩ 23
    rw [hw] at hs
    unfold sevenO at hs
    dsimp only at hs
    have HF := Pin.Aside.mk hs
    replace hb : Below R w (w1.setCell ⟨R, 1, none⟩ (.int .i64 O)) := hb.setCell (p := ⟨R, 1, none⟩) (Nat.le_refl R) _
    replace hb := hb.trans (hk.below (HS.out _ hb) fun _ q => q.elim)
    have HRB := Pin.Aside.mk (show R < w1.heap.size from lR)
    clear hk hs hw
    go_upto_region 8 with fail
    generalize ((w1.setCell ⟨R, 1, none⟩ (.int .i64 O)).alloc (.cells #[.int .i64 1, .int .i64 (1 + snap % 1000), .int .i64 (1 + log % 1000), .int .i64 (bits % 2), .int .i64 (bits / 2 % 2), .int .i64 (bits / 4 % 3), .int .i64 (bits / 16 % 10)] 23)) = w3 at *
    generalize w1.heap.size = B at *
    clear x0 x1 x2 f1 hne hO lR
    have hx : (1 ≤ 1 + snap % 1000 ∧ 1 + snap % 1000 ≤ 1000) ∧ (1 ≤ 1 + log % 1000 ∧ 1 + log % 1000 ≤ 1000) ∧ (0 ≤ bits % 2 ∧ bits % 2 ≤ 1) ∧ (0 ≤ bits / 2 % 2 ∧ bits / 2 % 2 ≤ 1) ∧ (0 ≤ (bits / 4 % 3) ∧ (bits / 4 % 3) ≤ (2 : Int)) ∧ (0 ≤ (bits / 16 % 10) ∧ (bits / 16 % 10) ≤ (9 : Int)) ∧ ((0 : Int) < (bits / 4 % 3) ∨ (bits / 16 % 10) = (0 : Int)) := by omega
    generalize 1 + snap % 1000 = y1 at *
    generalize 1 + log % 1000 = y2 at *
    generalize bits % 2 = y3 at *
    generalize bits / 2 % 2 = y4 at *
    generalize bits / 4 % 3 = y5 at *
    generalize bits / 16 % 10 = y6 at *
    have HX := Pin.Aside.mk (fun (v : Int) (hv : 1 ≤ v ∧ v ≤ 2) => show (⟨v, y1, y2, y3, y4, y5, y6⟩ : Sup).right = true by simp [Sup.right]; omega)
    have HO := Pin.Aside.mk hO7
    clear hx hO7
    go_wp2_with fail
    go_loopw [11] (fun q wr => ∃ v x : Int, 1 ≤ v ∧ v ≤ 3 ∧ q = .int .i64 v ∧ Pin.Aside (SevenF wr B ⟨x, y1, y2, y3, y4, y5, y6⟩) ∧ Pin.Aside (HardF wr R t O c) ∧ Below R w wr) (fun q _ => 5 - (intOf q).toNat)
    case atStart => exact ⟨1, 1, by omega, by omega, rfl, HF, HH, hb⟩
    case round =>
      clear hb HF HH
      obtain ⟨v, x, hv1, hv3, rfl, HF, HH, hb⟩ := hrel
      by_cases hv2 : v ≤ 2
      · have hr := HX.out v ⟨hv1, hv2⟩
        obtain ⟨T, hT⟩ : ∃ T, supS ⟨v, y1, y2, y3, y4, y5, y6⟩ = T := ⟨_, rfl⟩
        have hTz := supS_size ⟨v, y1, y2, y3, y4, y5, y6⟩ hr
        have hTg := supget_put ⟨v, y1, y2, y3, y4, y5, y6⟩ hr
        rw [hT] at hTz hTg
        obtain ⟨U, hU⟩ : ∃ U, hardS v ⟨t, O, c⟩ = U := ⟨_, rfl⟩
        have hUz := hardS_size v ⟨t, O, c⟩
        have hUg := hardget_put v (by omega) ⟨t, O, c⟩ ⟨ht.1, ht.2, hc.1, hc.2⟩ HO.out
        rw [hU] at hUz hUg
        have HP := Pin.Aside.mk fun W => slots_put_to ⟨v, y1, y2, y3, y4, y5, y6⟩ T true (by unfold supput; rw [if_pos hr, hT]) W
        have HG := Pin.Aside.mk fun W => slots_get_to T (Nat.le_trans hTz (by decide)) ⟨v, y1, y2, y3, y4, y5, y6⟩ true hTg W
        have hPH : hardput v ⟨t, O, c⟩ = (U, true) := by unfold hardput; rw [← hU]; exact if_pos ⟨by omega, HO.out⟩
        have HPH := Pin.Aside.mk (show ∀ W, Calls Try.prog 13 #[.int .i64 v, .agg #[.int .u64 t, .int .i64 O, .int .u64 c]] W fun e w' => e = .returned (.tuple #[.string U, .bool true]) ∧ Below W.heap.size W w' from fun W => by
          have := slots_puthard v t O c ht hc W
          rw [hPH] at this; exact this)
        have HGH := Pin.Aside.mk fun W => slots_gethard_to U (Nat.le_trans hUz (by decide)) ⟨t, O, c⟩ v true hUg W
        obtain ⟨N, hN⟩ : ∃ N, 4 + 2 * (y1 + y2) = N := ⟨_, rfl⟩
        have HSec := Pin.Aside.mk (show ∀ W, Calls Try.prog 10 #[.agg #[.int .i64 v, .int .i64 y1, .int .i64 y2, .int .i64 y3, .int .i64 y4, .int .i64 y5, .int .i64 y6]] W fun e w' => e = .returned (.int .i64 N) ∧ Below W.heap.size W w' from fun W => by
          have := slots_sectors ⟨v, y1, y2, y3, y4, y5, y6⟩ W
          unfold ssectors at this
          rw [if_pos hr] at this
          rw [← hN]; exact this)
        have hbd : (1 ≤ y1 ∧ y1 ≤ 1000) ∧ (1 ≤ y2 ∧ y2 ≤ 1000) := by have := Sup.right_iff hr; dsimp only at this; omega
        clear hT hTz hTg hU hUz hUg hPH hr
        have f0 := HF.out.fr 0 (by omega)
        have c0 := HF.out.at'.c0
        dsimp only at c0
        go_upto_region 12 with fail
        replace HF := Pin.Aside.mk (HF.out.ver v)
        replace HH := Pin.Aside.mk (HH.out.set (k := 0) (Nat.ne_of_gt HRB.out) (Value.int .i64 v))
        replace hb : Below R w (wr.setCell ⟨B, 0, none⟩ (.int .i64 v)) := hb.setCell (p := ⟨B, 0, none⟩) (Nat.le_of_lt HRB.out) _
        clear f0 c0
        generalize wr.setCell ⟨B, 0, none⟩ (Value.int .i64 v) = w4 at *
        obtain ⟨c0, c1, c2, c3, c4, c5, c6⟩ := HF.out.at'
        dsimp only at c0 c1 c2 c3 c4 c5 c6
        go_wp2_with fail
        refine (HP.out _).mono ?_
        rintro e w5 ⟨rfl, hbb⟩
        clear c0 c1 c2 c3 c4 c5 c6
        have hk := Keep.of_below (S := fun _ => False) hbb fun _ hk _ => hk
        replace HF := Pin.Aside.mk (HF.out.keep hk id)
        replace HH := Pin.Aside.mk (HH.out.keep hk id)
        replace hb := hb.trans (hk.below (HS.out _ hb) fun _ q => q.elim)
        clear hbb hk
        go_wp2_with fail
        refine (HG.out _).mono ?_
        rintro e w6 ⟨rfl, hbb⟩
        have hk := (Keep.of_below (S := fun _ => False) hbb fun _ hk _ => hk).alloc (.cells #[.int .i64 v, .int .i64 y1, .int .i64 y2, .int .i64 y3, .int .i64 y4, .int .i64 y5, .int .i64 y6] 23)
        have hs := SevenF.new w6 ⟨v, y1, y2, y3, y4, y5, y6⟩ 23
        unfold sevenO at hs
        dsimp only at hs
        have HG2 := Pin.Aside.mk hs
        replace HF := Pin.Aside.mk (HF.out.keep hk id)
        replace HH := Pin.Aside.mk (HH.out.keep hk id)
        replace hb := hb.trans (hk.below (HS.out _ hb) fun _ q => q.elim)
        clear hbb hk hs
        go_upto_region 14 with fail
        generalize w6.alloc (.cells #[.int .i64 v, .int .i64 y1, .int .i64 y2, .int .i64 y3, .int .i64 y4, .int .i64 y5, .int .i64 y6] 23) = w7 at *
        generalize w6.heap.size = P at *
        obtain ⟨x0, x1, x2⟩ := HH.out.at'
        go_wp2_with fail
        refine (HPH.out _).mono ?_
        rintro e w8 ⟨rfl, hbb⟩
        clear x0 x1 x2
        have hk := Keep.of_below (S := fun _ => False) hbb fun _ hk _ => hk
        replace HF := Pin.Aside.mk (HF.out.keep hk id)
        replace HH := Pin.Aside.mk (HH.out.keep hk id)
        replace HG2 := Pin.Aside.mk (HG2.out.keep hk id)
        replace hb := hb.trans (hk.below (HS.out _ hb) fun _ q => q.elim)
        clear hbb hk
        go_wp2_with fail
        refine (HGH.out _).mono ?_
        rintro e w10 ⟨rfl, hbb⟩
        have hk := (Keep.of_below (S := fun _ => False) hbb fun _ hk _ => hk).alloc (.cells #[.int .u64 t, .int .i64 O, .int .u64 c] 33)
        have HH2 := Pin.Aside.mk (HardF.new w10 t O c 33)
        replace HF := Pin.Aside.mk (HF.out.keep hk id)
        replace HH := Pin.Aside.mk (HH.out.keep hk id)
        replace HG2 := Pin.Aside.mk (HG2.out.keep hk id)
        replace hb := hb.trans (hk.below (HS.out _ hb) fun _ q => q.elim)
        clear hbb hk
        go_upto_region 16 with fail
        generalize w10.alloc (.cells #[.int .u64 t, .int .i64 O, .int .u64 c] 33) = w9 at *
        generalize w10.heap.size = Q at *
        have k0 : ∀ s' : KW (fun _ => False) w9, s'.w.cell? ⟨B, 0, none⟩ = some (.int .i64 v) := fun s' => s'.keep.cell HF.out.at'.c0 id
        have p0 : ∀ s' : KW (fun _ => False) w9, s'.w.cell? ⟨P, 0, none⟩ = some (.int .i64 v) := fun s' => s'.keep.cell HG2.out.at'.c0 id
        have k1 : ∀ s' : KW (fun _ => False) w9, s'.w.cell? ⟨B, 1, none⟩ = some (.int .i64 y1) := fun s' => s'.keep.cell HF.out.at'.c1 id
        have p1 : ∀ s' : KW (fun _ => False) w9, s'.w.cell? ⟨P, 1, none⟩ = some (.int .i64 y1) := fun s' => s'.keep.cell HG2.out.at'.c1 id
        have k2 : ∀ s' : KW (fun _ => False) w9, s'.w.cell? ⟨B, 2, none⟩ = some (.int .i64 y2) := fun s' => s'.keep.cell HF.out.at'.c2 id
        have p2 : ∀ s' : KW (fun _ => False) w9, s'.w.cell? ⟨P, 2, none⟩ = some (.int .i64 y2) := fun s' => s'.keep.cell HG2.out.at'.c2 id
        have k3 : ∀ s' : KW (fun _ => False) w9, s'.w.cell? ⟨B, 3, none⟩ = some (.int .i64 y3) := fun s' => s'.keep.cell HF.out.at'.c3 id
        have p3 : ∀ s' : KW (fun _ => False) w9, s'.w.cell? ⟨P, 3, none⟩ = some (.int .i64 y3) := fun s' => s'.keep.cell HG2.out.at'.c3 id
        have k4 : ∀ s' : KW (fun _ => False) w9, s'.w.cell? ⟨B, 4, none⟩ = some (.int .i64 y4) := fun s' => s'.keep.cell HF.out.at'.c4 id
        have p4 : ∀ s' : KW (fun _ => False) w9, s'.w.cell? ⟨P, 4, none⟩ = some (.int .i64 y4) := fun s' => s'.keep.cell HG2.out.at'.c4 id
        have k5 : ∀ s' : KW (fun _ => False) w9, s'.w.cell? ⟨B, 5, none⟩ = some (.int .i64 y5) := fun s' => s'.keep.cell HF.out.at'.c5 id
        have p5 : ∀ s' : KW (fun _ => False) w9, s'.w.cell? ⟨P, 5, none⟩ = some (.int .i64 y5) := fun s' => s'.keep.cell HG2.out.at'.c5 id
        have k6 : ∀ s' : KW (fun _ => False) w9, s'.w.cell? ⟨B, 6, none⟩ = some (.int .i64 y6) := fun s' => s'.keep.cell HF.out.at'.c6 id
        have p6 : ∀ s' : KW (fun _ => False) w9, s'.w.cell? ⟨P, 6, none⟩ = some (.int .i64 y6) := fun s' => s'.keep.cell HG2.out.at'.c6 id
        have q0 : ∀ s' : KW (fun _ => False) w9, s'.w.cell? ⟨R, 0, none⟩ = some (.int .u64 t) := fun s' => s'.keep.cell HH.out.at'.c0 id
        have r0 : ∀ s' : KW (fun _ => False) w9, s'.w.cell? ⟨Q, 0, none⟩ = some (.int .u64 t) := fun s' => s'.keep.cell HH2.out.at'.c0 id
        have q1 : ∀ s' : KW (fun _ => False) w9, s'.w.cell? ⟨R, 1, none⟩ = some (.int .i64 O) := fun s' => s'.keep.cell HH.out.at'.c1 id
        have r1 : ∀ s' : KW (fun _ => False) w9, s'.w.cell? ⟨Q, 1, none⟩ = some (.int .i64 O) := fun s' => s'.keep.cell HH2.out.at'.c1 id
        have q2 : ∀ s' : KW (fun _ => False) w9, s'.w.cell? ⟨R, 2, none⟩ = some (.int .u64 c) := fun s' => s'.keep.cell HH.out.at'.c2 id
        have r2 : ∀ s' : KW (fun _ => False) w9, s'.w.cell? ⟨Q, 2, none⟩ = some (.int .u64 c) := fun s' => s'.keep.cell HH2.out.at'.c2 id
        refine wp_region_keep (fun _ => False) (by kernel_rfl) (by kernel_rfl) ?_
        repeat (go_big_quiet_step ((go_at_call 10; with_reducible exact KW.calls (HSec.out _))))
        refine wpQuiet_nil ?_
        intro s4'
        replace HF := Pin.Aside.mk (HF.out.keep s4'.keep id)
        replace HH := Pin.Aside.mk (HH.out.keep s4'.keep id)
        replace hb := hb.trans (s4'.keep.below (HS.out _ hb) fun _ q => q.elim)
        clear k0 p0 k1 p1 k2 p2 k3 p3 k4 p4 k5 p5 k6 p6 q0 r0 q1 r1 q2 r2 HG2 HH2
        generalize s4'.w = w11 at *
        go_wp2_with fail
        go_roundw
        case rel => exact ⟨v + 1, v, by omega, by omega, rfl, HF, HH, hb⟩
        case measure => simp [intOf]; omega
      · go_wp2_with fail
        go_ret
        exact ⟨rfl, by rw [HRR.out]; exact hb⟩
end Go.Proofs.Ytpfkpaombiikcaa
