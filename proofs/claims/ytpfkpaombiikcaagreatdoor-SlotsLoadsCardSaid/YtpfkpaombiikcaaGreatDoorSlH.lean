import Derived.Test.YtpfkpaombiikcaaGreatDoorSlX
import Derived.Test.YtpfkpaombiikcaaGreatDoorSlG
/- slots: PutHard, GetHard. -/
set_option maxRecDepth 16000
namespace Go.Pin
open Go.RowKit
set_option linter.unusedVariables false
set_option linter.unusedSimpArgs false
theorem SevAt.get3 {w : World} {R : Nat} {f : Nat → Value} (h : SevAt w R 3 f) : w.cell? ⟨R, 0, none⟩ = some (f 0) ∧ w.cell? ⟨R, 1, none⟩ = some (f 1) ∧ w.cell? ⟨R, 2, none⟩ = some (f 2) :=
  ⟨h.at' 0 (by omega), h.at' 1 (by omega), h.at' 2 (by omega)⟩
theorem SevAt.fr3 {w : World} {R : Nat} {f : Nat → Value} (h : SevAt w R 3 f) : w.frozen? ⟨R, 0, none⟩ = false ∧ w.frozen? ⟨R, 1, none⟩ = false ∧ w.frozen? ⟨R, 2, none⟩ = false :=
  ⟨h.fr 0 (by omega), h.fr 1 (by omega), h.fr 2 (by omega)⟩
def set3 (w : World) (R : Nat) (x0 x1 x2 : Value) : World := ((w.setCell ⟨R, 0, none⟩ x0).setCell ⟨R, 1, none⟩ x1).setCell ⟨R, 2, none⟩ x2
theorem SevAt.set3 {w : World} {R : Nat} {f : Nat → Value} (h : SevAt w R 3 f) (x0 x1 x2 : Value) :
    (set3 w R x0 x1 x2).cell? ⟨R, 0, none⟩ = some x0 ∧ (set3 w R x0 x1 x2).cell? ⟨R, 1, none⟩ = some x1 ∧ (set3 w R x0 x1 x2).cell? ⟨R, 2, none⟩ = some x2 :=
  ((h.set 0 (by omega) x0).set 1 (by omega) x1).set 2 (by omega) x2 |>.get3
theorem below_set3S {N R : Nat} {a w : World} (h : Below N a w) (hg : N ≤ R) (x0 x1 x2 : Value) : Below N a (set3 w R x0 x1 x2) :=
  (((h.setCell (p := ⟨R, 0, none⟩) hg _).setCell (p := ⟨R, 1, none⟩) hg _).setCell (p := ⟨R, 2, none⟩) hg _)
theorem hardget_is (b : ByteArray) (xn : Nat) (xr : Rd) (hx : (Rd.mk b false).fixed 1 = (xn, xr)) : hardget b = if (xn : Int) - 16 ≠ 1 ∧ (xn : Int) - 16 ≠ 2 then (Hd.zero, 0, false) else
    if (hthree ((xn : Int) - 16) xr).2.bad = true ∨ 0 < (hthree ((xn : Int) - 16) xr).2.s.size ∨ 7 < (hthree ((xn : Int) - 16) xr).1.2.1 then (Hd.zero, 0, false) else (⟨(hthree ((xn : Int) - 16) xr).1.1, (hthree ((xn : Int) - 16) xr).1.2.1, (hthree ((xn : Int) - 16) xr).1.2.2⟩, (xn : Int) - 16, true) := by
  unfold hardget; rw [hx]
end Go.Pin
namespace Go.Proofs.YtpfkpaombiikcaaGreatDoor
open Go.RowKit Go.Pin
set_option linter.unusedVariables false
set_option linter.unusedSimpArgs false
set_option maxHeartbeats 3200000 in
theorem slots_puthard1 (t o c : Int) (ht : 0 ≤ t ∧ t ≤ 18446744073709551615) (hc : 0 ≤ c ∧ c ≤ 18446744073709551615) (w : World) :
    Calls Tryz.prog 43 #[.int .i64 1, .agg #[.int .u64 t, .int .i64 o, .int .u64 c]] w fun e w' => e = .returned (.tuple #[.string (hardput 1 ⟨t, o, c⟩).1, .bool (hardput 1 ⟨t, o, c⟩).2]) ∧ Below w.heap.size w w' := by
  have hn := SevAt.new w #[.int .u64 t, .int .i64 o, .int .u64 c] 26 3 rfl
  have hb0 := (Below.refl w.heap.size w).alloc (Nat.le_refl _) (.cells #[.int .u64 t, .int .i64 o, .int .u64 c] 26)
  have Hn := Pin.Aside.mk hn
  have Hb0 := Pin.Aside.mk hb0
  have hzv : ∀ w, (zeroValue 71).run Tryz.prog w = .ok .nilFunc w := fun _ => rfl
  clear hn hb0
  by_cases ho : 0 ≤ o ∧ o ≤ 7
  · have e1 : hardput 1 ⟨t, o, c⟩ = (hardS 1 ⟨t, o, c⟩, true) := by unfold hardput; rw [if_pos ⟨by omega, ho⟩]
    rw [e1]
    clear e1
    have H0 := Pin.Aside.mk fun W => slots_num1 17 1 (by omega) (by omega) (by omega) (by omega) W
    have HA := Pin.Aside.mk fun W => slots_num1 t 8 ht.1 ht.2 (by omega) (by omega) W
    have HB := Pin.Aside.mk fun W => slots_num1 o 1 (by omega) (by omega) (by omega) (by omega) W
    have HC := Pin.Aside.mk fun W => slots_num1 c 8 hc.1 hc.2 (by omega) (by omega) W
    have z0 := snum_size 1 (17 : Int).toNat 1
    have zA := snum_size 1 t.toNat 8
    have zB := snum_size 1 o.toNat 1
    have zC := snum_size 1 c.toNat 8
    have E := Pin.Aside.mk (show hardS 1 ⟨t, o, c⟩ = snum 1 (17 : Int).toNat 1 ++ snum 1 t.toNat 8 ++ snum 1 o.toNat 1 ++ snum 1 c.toNat 8 from rfl)
    have u1 : IntKind.u64.wrap o = o := by rw [IntKind.wrap_u64]; omega
    generalize snum 1 (17 : Int).toNat 1 = T0 at *
    generalize snum 1 t.toNat 8 = TA at *
    generalize snum 1 o.toNat 1 = TB at *
    generalize snum 1 c.toNat 8 = TC at *
    have hc1 : ¬ 9223372036854775807 < T0.size + TA.size := by omega
    have hc2 : ¬ 9223372036854775807 < T0.size + TA.size + TB.size := by omega
    have hc3 : ¬ 9223372036854775807 < T0.size + TA.size + TB.size + TC.size := by omega
    have ki := inB_yes (n := o) (lo := 0) (hi := 7) ho
    rw [E.out]
    go_enter Tryz.func43, Tryz.ntmps43
    go_wp2_with fail
    refine (slots_writers _).mono ?_
    rintro e w2 ⟨m, rfl, hm, hM, hb⟩
    have hl := run_map_lookup_ok (P := Tryz.prog) (t := 99) hM Tryz.underlying99 Tryz.underlying3 1 (hzv _)
    rw [mget_twoS, if_pos rfl] at hl
    simp only [Option.getD_some, Option.isSome_some, wF, wV] at hl
    have Hb2 := Pin.Aside.mk (Hb0.out.trans (hb.mono (by simp)))
    obtain ⟨c0, c1, c2⟩ := (Hn.out.below hb).get3
    clear hb hM hm hzv
    go_wp2_with ((go_at_call 74; refine (slots_in _ _ _ _).mono ?_; rintro e w2 ⟨rfl, rfl⟩))
    have k0 : ∀ s' : KW (fun _ => False) w2, s'.w.cell? ⟨w.heap.size, 0, none⟩ = some (.int .u64 t) := fun s' => s'.keep.cell c0 id
    have k1 : ∀ s' : KW (fun _ => False) w2, s'.w.cell? ⟨w.heap.size, 1, none⟩ = some (.int .i64 o) := fun s' => s'.keep.cell c1 id
    have k2 : ∀ s' : KW (fun _ => False) w2, s'.w.cell? ⟨w.heap.size, 2, none⟩ = some (.int .u64 c) := fun s' => s'.keep.cell c2 id
    refine wp_region_keep (fun _ => False) (by kernel_rfl) (by kernel_rfl) ?_
    repeat (go_big_quiet_step ((first | (go_at_call 50; first | with_reducible exact KW.calls (H0.out _) | with_reducible exact KW.calls (HA.out _) | with_reducible exact KW.calls (HB.out _) | with_reducible exact KW.calls (HC.out _)) | (go_at_call 50; first | with_reducible exact KW.calls (HA.out _) | with_reducible exact KW.calls (HB.out _) | with_reducible exact KW.calls (HC.out _)))))
    refine wpQuiet_nil ?_
    intro s4
    have hbs := s4.below
    have hb3 := Hb2.out.trans (hbs.mono Hb2.out.size)
    clear k0 k1 k2
    go_wp2_with fail
    go_ret2
    exact ⟨rfl, hb3⟩
  · have e1 : hardput 1 ⟨t, o, c⟩ = (⟨#[]⟩, false) := by unfold hardput; rw [if_neg (fun q => ho q.2)]
    rw [e1]
    have ki := inB_no (n := o) (lo := 0) (hi := 7) ho
    clear e1 ho
    go_enter Tryz.func43, Tryz.ntmps43
    go_wp2_with fail
    refine (slots_writers _).mono ?_
    rintro e w2 ⟨m, rfl, hm, hM, hb⟩
    have hl := run_map_lookup_ok (P := Tryz.prog) (t := 99) hM Tryz.underlying99 Tryz.underlying3 1 (hzv _)
    rw [mget_twoS, if_pos rfl] at hl
    simp only [Option.getD_some, Option.isSome_some, wF, wV] at hl
    have Hb2 := Pin.Aside.mk (Hb0.out.trans (hb.mono (by simp)))
    obtain ⟨c0, c1, c2⟩ := (Hn.out.below hb).get3
    clear hb hM hm hzv
    go_wp2_with ((go_at_call 74; refine (slots_in _ _ _ _).mono ?_; rintro e w2 ⟨rfl, rfl⟩))
    go_ret2
    exact ⟨rfl, Hb2.out⟩
set_option maxHeartbeats 3200000 in
theorem slots_puthard2 (t o c : Int) (ht : 0 ≤ t ∧ t ≤ 18446744073709551615) (hc : 0 ≤ c ∧ c ≤ 18446744073709551615) (w : World) :
    Calls Tryz.prog 43 #[.int .i64 2, .agg #[.int .u64 t, .int .i64 o, .int .u64 c]] w fun e w' => e = .returned (.tuple #[.string (hardput 2 ⟨t, o, c⟩).1, .bool (hardput 2 ⟨t, o, c⟩).2]) ∧ Below w.heap.size w w' := by
  have hn := SevAt.new w #[.int .u64 t, .int .i64 o, .int .u64 c] 26 3 rfl
  have hb0 := (Below.refl w.heap.size w).alloc (Nat.le_refl _) (.cells #[.int .u64 t, .int .i64 o, .int .u64 c] 26)
  have Hn := Pin.Aside.mk hn
  have Hb0 := Pin.Aside.mk hb0
  have hzv : ∀ w, (zeroValue 71).run Tryz.prog w = .ok .nilFunc w := fun _ => rfl
  clear hn hb0
  by_cases ho : 0 ≤ o ∧ o ≤ 7
  · have e1 : hardput 2 ⟨t, o, c⟩ = (hardS 2 ⟨t, o, c⟩, true) := by unfold hardput; rw [if_pos ⟨by omega, ho⟩]
    rw [e1]
    clear e1
    have H0 := Pin.Aside.mk fun W => slots_num1 18 1 (by omega) (by omega) (by omega) (by omega) W
    have HA := Pin.Aside.mk fun W => slots_num2 t 8 ht.1 ht.2 (by omega) (by omega) W
    have HB := Pin.Aside.mk fun W => slots_num2 o 1 (by omega) (by omega) (by omega) (by omega) W
    have HC := Pin.Aside.mk fun W => slots_num2 c 8 hc.1 hc.2 (by omega) (by omega) W
    have z0 := snum_size 1 (18 : Int).toNat 1
    have zA := snum_size 2 t.toNat 8
    have zB := snum_size 2 o.toNat 1
    have zC := snum_size 2 c.toNat 8
    have E := Pin.Aside.mk (show hardS 2 ⟨t, o, c⟩ = snum 1 (18 : Int).toNat 1 ++ snum 2 t.toNat 8 ++ snum 2 o.toNat 1 ++ snum 2 c.toNat 8 from rfl)
    have u1 : IntKind.u64.wrap o = o := by rw [IntKind.wrap_u64]; omega
    generalize snum 1 (18 : Int).toNat 1 = T0 at *
    generalize snum 2 t.toNat 8 = TA at *
    generalize snum 2 o.toNat 1 = TB at *
    generalize snum 2 c.toNat 8 = TC at *
    have hc1 : ¬ 9223372036854775807 < T0.size + TA.size := by omega
    have hc2 : ¬ 9223372036854775807 < T0.size + TA.size + TB.size := by omega
    have hc3 : ¬ 9223372036854775807 < T0.size + TA.size + TB.size + TC.size := by omega
    have ki := inB_yes (n := o) (lo := 0) (hi := 7) ho
    rw [E.out]
    go_enter Tryz.func43, Tryz.ntmps43
    go_wp2_with fail
    refine (slots_writers _).mono ?_
    rintro e w2 ⟨m, rfl, hm, hM, hb⟩
    have hl := run_map_lookup_ok (P := Tryz.prog) (t := 99) hM Tryz.underlying99 Tryz.underlying3 2 (hzv _)
    rw [mget_twoS, if_neg (by omega), if_pos rfl] at hl
    simp only [Option.getD_some, Option.isSome_some, wF, wV] at hl
    have Hb2 := Pin.Aside.mk (Hb0.out.trans (hb.mono (by simp)))
    obtain ⟨c0, c1, c2⟩ := (Hn.out.below hb).get3
    clear hb hM hm hzv
    go_wp2_with ((go_at_call 74; refine (slots_in _ _ _ _).mono ?_; rintro e w2 ⟨rfl, rfl⟩))
    have k0 : ∀ s' : KW (fun _ => False) w2, s'.w.cell? ⟨w.heap.size, 0, none⟩ = some (.int .u64 t) := fun s' => s'.keep.cell c0 id
    have k1 : ∀ s' : KW (fun _ => False) w2, s'.w.cell? ⟨w.heap.size, 1, none⟩ = some (.int .i64 o) := fun s' => s'.keep.cell c1 id
    have k2 : ∀ s' : KW (fun _ => False) w2, s'.w.cell? ⟨w.heap.size, 2, none⟩ = some (.int .u64 c) := fun s' => s'.keep.cell c2 id
    refine wp_region_keep (fun _ => False) (by kernel_rfl) (by kernel_rfl) ?_
    repeat (go_big_quiet_step ((first | (go_at_call 50; first | with_reducible exact KW.calls (H0.out _) | with_reducible exact KW.calls (HA.out _) | with_reducible exact KW.calls (HB.out _) | with_reducible exact KW.calls (HC.out _)) | (go_at_call 76; first | with_reducible exact KW.calls (HA.out _) | with_reducible exact KW.calls (HB.out _) | with_reducible exact KW.calls (HC.out _)))))
    refine wpQuiet_nil ?_
    intro s4
    have hbs := s4.below
    have hb3 := Hb2.out.trans (hbs.mono Hb2.out.size)
    clear k0 k1 k2
    go_wp2_with fail
    go_ret2
    exact ⟨rfl, hb3⟩
  · have e1 : hardput 2 ⟨t, o, c⟩ = (⟨#[]⟩, false) := by unfold hardput; rw [if_neg (fun q => ho q.2)]
    rw [e1]
    have ki := inB_no (n := o) (lo := 0) (hi := 7) ho
    clear e1 ho
    go_enter Tryz.func43, Tryz.ntmps43
    go_wp2_with fail
    refine (slots_writers _).mono ?_
    rintro e w2 ⟨m, rfl, hm, hM, hb⟩
    have hl := run_map_lookup_ok (P := Tryz.prog) (t := 99) hM Tryz.underlying99 Tryz.underlying3 2 (hzv _)
    rw [mget_twoS, if_neg (by omega), if_pos rfl] at hl
    simp only [Option.getD_some, Option.isSome_some, wF, wV] at hl
    have Hb2 := Pin.Aside.mk (Hb0.out.trans (hb.mono (by simp)))
    obtain ⟨c0, c1, c2⟩ := (Hn.out.below hb).get3
    clear hb hM hm hzv
    go_wp2_with ((go_at_call 74; refine (slots_in _ _ _ _).mono ?_; rintro e w2 ⟨rfl, rfl⟩))
    go_ret2
    exact ⟨rfl, Hb2.out⟩
set_option maxHeartbeats 1600000 in
theorem slots_puthard (v t o c : Int) (ht : 0 ≤ t ∧ t ≤ 18446744073709551615) (hc : 0 ≤ c ∧ c ≤ 18446744073709551615) (w : World) :
    Calls Tryz.prog 43 #[.int .i64 v, .agg #[.int .u64 t, .int .i64 o, .int .u64 c]] w fun e w' => e = .returned (.tuple #[.string (hardput v ⟨t, o, c⟩).1, .bool (hardput v ⟨t, o, c⟩).2]) ∧ Below w.heap.size w w' := by
  rcases (show v = 1 ∨ v = 2 ∨ (v ≠ 1 ∧ v ≠ 2) by omega) with rfl | rfl | ⟨n1, n2⟩
  · exact slots_puthard1 t o c ht hc w
  · exact slots_puthard2 t o c ht hc w
  · have e1 : hardput v ⟨t, o, c⟩ = (⟨#[]⟩, false) := by unfold hardput; rw [if_neg (by rintro ⟨q, _⟩; omega)]
    rw [e1]
    have hb0 := (Below.refl w.heap.size w).alloc (Nat.le_refl _) (.cells #[.int .u64 t, .int .i64 o, .int .u64 c] 26)
    have Hb0 := Pin.Aside.mk hb0
    have hzv : ∀ w, (zeroValue 71).run Tryz.prog w = .ok .nilFunc w := fun _ => rfl
    clear hb0 e1
    go_enter Tryz.func43, Tryz.ntmps43
    go_wp2_with fail
    refine (slots_writers _).mono ?_
    rintro e w2 ⟨m, rfl, hm, hM, hb⟩
    have hl := run_map_lookup_ok (P := Tryz.prog) (t := 99) hM Tryz.underlying99 Tryz.underlying3 v (hzv _)
    rw [mget_twoS, if_neg n1, if_neg n2] at hl
    simp only [Option.getD_none, Option.isSome_none] at hl
    have Hb2 := Pin.Aside.mk (Hb0.out.trans (hb.mono (by simp)))
    clear hb hM hm hzv n1 n2
    go_wp2_with fail
    go_ret2
    exact ⟨rfl, Hb2.out⟩
set_option maxHeartbeats 3200000 in
theorem slots_gethard (b : ByteArray) (hs : b.size ≤ 1152921504606846976) (w : World) :
    Calls Tryz.prog 26 #[.string b] w fun e w' => e = .returned (.tuple #[(hardget b).1.val, .int .i64 (hardget b).2.1, .bool (hardget b).2.2]) ∧ Below w.heap.size w w' := by
  obtain ⟨⟨xn, xr⟩, hx⟩ : ∃ x, (Rd.mk b false).fixed 1 = x := ⟨_, rfl⟩
  have hx1 : xn < 256 := by have := Rd.fixed_ltT ⟨b, false⟩; rw [hx] at this; exact this
  have hx2 : xr.s.size ≤ 1152921504606846976 := by have := Rd.fixed_leT ⟨b, false⟩ 1; rw [hx] at this; exact Nat.le_trans this hs
  have E := Pin.Aside.mk (hardget_is b xn xr hx)
  have Hx := Pin.Aside.mk hx
  obtain ⟨u, hu⟩ : ∃ u : Int, (xn : Int) = u := ⟨_, rfl⟩
  have Hu := Pin.Aside.mk hu
  have wu : IntKind.i64.wrap u = u := by rw [IntKind.wrap_i64]; omega
  obtain ⟨v, hv⟩ : ∃ v : Int, u - 16 = v := ⟨_, rfl⟩
  have wv : IntKind.i64.wrap (u - 16) = v := by rw [IntKind.wrap_i64]; omega
  rw [hu, hv] at E
  have hu0 : 0 ≤ u ∧ u < 256 := by omega
  have hR0 := SevAt.new w #[.int .u64 0, .int .i64 0, .int .u64 0] 26 3 rfl
  have hb0 := (Below.refl w.heap.size w).alloc (Nat.le_refl _) (.cells #[.int .u64 0, .int .i64 0, .int .u64 0] 26)
  have hz0 : w.heap.size < (w.alloc (.cells #[.int .u64 0, .int .i64 0, .int .u64 0] 26)).heap.size := by simp
  have HR := Pin.Aside.mk hR0
  have Hb := Pin.Aside.mk hb0
  have hzv : ∀ w, (zeroValue 107).run Tryz.prog w = .ok .nilFunc w := fun _ => rfl
  have Hv := Pin.Aside.mk hv
  clear hR0 hb0 hx hx1 hu hv
  go_enter Tryz.func26, Tryz.ntmps26
  go_wp2_with fail
  generalize w.alloc (.cells #[.int .u64 0, .int .i64 0, .int .u64 0] 26) = w0 at *
  generalize hRR : w.heap.size = R at *
  have HRR := Pin.Aside.mk hRR
  have HS := Pin.Aside.mk (show ∀ x, Below R w x → R ≤ x.heap.size from fun x h => by have := h.size; omega)
  clear hRR
  refine (rd_new b _).mono ?_
  rintro e w1 ⟨rfl, hr, hz, hb1⟩
  have HR1 := Pin.Aside.mk (HR.out.below hb1)
  have Hb1 := Pin.Aside.mk (Hb.out.trans (hb1.mono (by omega)))
  have hQ1 : w0.heap.size < w1.heap.size := by omega
  generalize w0.heap.size = Q at *
  have hRQ : R ≠ Q := by omega
  have hRQ2 : R ≤ Q := by omega
  clear hb1 hz HR Hb
  go_wp2_with fail
  refine (rd_fixed Q _ 1 _ hr (by decide) (by show b.size ≤ _; exact hs)).mono ?_
  rw [Hx.out]
  dsimp only
  rw [Hu.out]
  rintro e w3 ⟨rfl, hr3, hk3⟩
  have HR3 := Pin.Aside.mk (HR1.out.keep hk3 hRQ)
  have Hb3 := Pin.Aside.mk (Keep.dropS Hb1.out (HS.out _ Hb1.out) hRQ2 hk3)
  clear hk3 hr HR1 Hb1
  go_wp2_with fail
  refine (slots_readers _).mono ?_
  rintro e w4 ⟨m, rfl, hm, hM, hb4⟩
  have hr4 := hr3.below hb4
  have HR4 := Pin.Aside.mk (HR3.out.below hb4)
  have Hb4 := Pin.Aside.mk (Hb3.out.trans (hb4.mono (HS.out _ Hb3.out)))
  have hl := run_map_lookup_ok (P := Tryz.prog) (t := 105) hM Tryz.underlying105 Tryz.underlying3 v (hzv _)
  clear hb4 hr3 HR3 Hb3 hM hm hzv
  rcases (show v = 1 ∨ v = 2 ∨ (v ≠ 1 ∧ v ≠ 2) by omega) with h1 | h1 | ⟨n1, n2⟩
  · subst h1
    rw [mget_twoS, if_pos rfl] at hl
    simp only [Option.getD_some, Option.isSome_some, rF, rV] at hl
    rw [if_neg (by omega)] at E
    clear wu
    obtain ⟨⟨a0, s0⟩, q0⟩ : ∃ y, stake 1 xr 8 = y := ⟨_, rfl⟩
    have g0 := stake_le 1 xr 8
    have y0 := stake_lt 1 xr 8
    rw [q0] at g0 y0
    dsimp only at g0 y0
    replace g0 := Nat.le_trans g0 hx2
    have Hq0 := Pin.Aside.mk q0
    have hcon := slots_take1 Q xr 8 ⟨by decide, by decide⟩ w4 hr4 hx2
    rw [q0] at hcon
    clear q0
    go_wp2_with fail
    refine hcon.mono ?_
    rintro e w5 ⟨rfl, hr5, hk⟩
    have HR5 := Pin.Aside.mk (HR4.out.keep hk hRQ)
    have Hb5 := Pin.Aside.mk (Keep.dropS Hb4.out (HS.out _ Hb4.out) hRQ2 hk)
    clear hk hcon HR4 Hb4 hr4
    obtain ⟨⟨a1, s1⟩, q1⟩ : ∃ y, stake 1 s0 1 = y := ⟨_, rfl⟩
    have g1 := stake_le 1 s0 1
    have y1 := stake_lt 1 s0 1
    rw [q1] at g1 y1
    dsimp only at g1 y1
    replace g1 := Nat.le_trans g1 g0
    have Hq1 := Pin.Aside.mk q1
    have hcon := slots_take1 Q s0 1 ⟨by decide, by decide⟩ w5 hr5 g0
    rw [q1] at hcon
    clear q1
    go_wp2_with fail
    refine hcon.mono ?_
    rintro e w6 ⟨rfl, hr6, hk⟩
    have HR6 := Pin.Aside.mk (HR5.out.keep hk hRQ)
    have Hb6 := Pin.Aside.mk (Keep.dropS Hb5.out (HS.out _ Hb5.out) hRQ2 hk)
    clear hk hcon HR5 Hb5 hr5
    obtain ⟨⟨a2, s2⟩, q2⟩ : ∃ y, stake 1 s1 8 = y := ⟨_, rfl⟩
    have g2 := stake_le 1 s1 8
    have y2 := stake_lt 1 s1 8
    rw [q2] at g2 y2
    dsimp only at g2 y2
    replace g2 := Nat.le_trans g2 g1
    have Hq2 := Pin.Aside.mk q2
    have hcon := slots_take1 Q s1 8 ⟨by decide, by decide⟩ w6 hr6 g1
    rw [q2] at hcon
    clear q2
    go_wp2_with fail
    refine hcon.mono ?_
    rintro e w7 ⟨rfl, hr7, hk⟩
    have HR7 := Pin.Aside.mk (HR6.out.keep hk hRQ)
    have Hb7 := Pin.Aside.mk (Keep.dropS Hb6.out (HS.out _ Hb6.out) hRQ2 hk)
    clear hk hcon HR6 Hb6 hr6
    have hsix : hthree 1 xr = ((a0, a1, a2), s2) := by
      unfold hthree
      simp only [Hq0.out, Hq1.out, Hq2.out]
    rw [hsix] at E
    dsimp only at E
    clear hsix Hq0 Hq1 Hq2
    go_wp2_with fail
    refine (rd_ok Q s2 w7 hr7).mono ?_
    rintro e w7 ⟨rfl, rfl⟩
    obtain ⟨sb, bad⟩ := s2
    dsimp only at E
    cases bad with
    | true =>
      have HE := Pin.Aside.mk (E.out.trans (if_pos (.inl rfl)))
      obtain ⟨e0, e1, e2⟩ := HR7.out.get3
      obtain ⟨f0, f1, f2⟩ := HR7.out.fr3
      obtain ⟨n0, n1, n2⟩ := HR7.out.set3 (.int .u64 0) (.int .i64 0) (.int .u64 0)
      unfold set3 at n0 n1 n2
      clear E
      go_wp2_with fail
      refine bodyPost_ret (v := .tuple #[.agg #[.int .u64 0, .int .i64 0, .int .u64 0], .int .i64 0, .bool false]) (by simp [results, Tryz.results26, go_sem, *]) rfl ?_
      rw [HE.out]
      exact ⟨rfl, by rw [HRR.out]; exact below_set3S Hb7.out (Nat.le_refl _) _ _ _⟩
    | false =>
      go_wp2_with fail
      refine (rd_left Q _ w7 hr7).mono ?_
      rintro e w7 ⟨rfl, rfl⟩
      by_cases hsz : 0 < sb.size
      · have hszi : (0 : Int) < (sb.size : Int) := by omega
        have HE := Pin.Aside.mk (E.out.trans (if_pos (.inr (.inl hsz))))
        obtain ⟨e0, e1, e2⟩ := HR7.out.get3
        obtain ⟨f0, f1, f2⟩ := HR7.out.fr3
        obtain ⟨n0, n1, n2⟩ := HR7.out.set3 (.int .u64 0) (.int .i64 0) (.int .u64 0)
        unfold set3 at n0 n1 n2
        clear E
        go_wp2_with fail
        refine bodyPost_ret (v := .tuple #[.agg #[.int .u64 0, .int .i64 0, .int .u64 0], .int .i64 0, .bool false]) (by simp [results, Tryz.results26, go_sem, *]) rfl ?_
        rw [HE.out]
        exact ⟨rfl, by rw [HRR.out]; exact below_set3S Hb7.out (Nat.le_refl _) _ _ _⟩
      · have hszi : ¬ (0 : Int) < (sb.size : Int) := by omega
        by_cases h7 : 7 < a1
        · have h7i : (7 : Int) < (a1 : Int) := by omega
          have HE := Pin.Aside.mk (E.out.trans (if_pos (.inr (.inr h7))))
          obtain ⟨e0, e1, e2⟩ := HR7.out.get3
          obtain ⟨f0, f1, f2⟩ := HR7.out.fr3
          obtain ⟨n0, n1, n2⟩ := HR7.out.set3 (.int .u64 0) (.int .i64 0) (.int .u64 0)
          unfold set3 at n0 n1 n2
          clear E
          go_wp2_with fail
          refine bodyPost_ret (v := .tuple #[.agg #[.int .u64 0, .int .i64 0, .int .u64 0], .int .i64 0, .bool false]) (by simp [results, Tryz.results26, go_sem, *]) rfl ?_
          rw [HE.out]
          exact ⟨rfl, by rw [HRR.out]; exact below_set3S Hb7.out (Nat.le_refl _) _ _ _⟩
        · have h7i : ¬ (7 : Int) < (a1 : Int) := by omega
          have w7i : IntKind.i64.wrap (a1 : Int) = (a1 : Int) := by rw [IntKind.wrap_i64]; omega
          have HE := Pin.Aside.mk (E.out.trans (if_neg (by rintro (q | q | q); cases q; exact hsz q; exact h7 q)))
          obtain ⟨e0, e1, e2⟩ := HR7.out.get3
          obtain ⟨f0, f1, f2⟩ := HR7.out.fr3
          obtain ⟨n0, n1, n2⟩ := HR7.out.set3 (.int .u64 a0) (.int .i64 a1) (.int .u64 a2)
          unfold set3 at n0 n1 n2
          clear E
          go_wp2_with fail
          refine bodyPost_ret (v := .tuple #[.agg #[.int .u64 a0, .int .i64 a1, .int .u64 a2], .int .i64 1, .bool true]) (by simp [results, Tryz.results26, go_sem, *]) rfl ?_
          rw [HE.out]
          exact ⟨rfl, by rw [HRR.out]; exact below_set3S Hb7.out (Nat.le_refl _) _ _ _⟩
  · subst h1
    rw [mget_twoS, if_neg (by omega), if_pos rfl] at hl
    simp only [Option.getD_some, Option.isSome_some, rF, rV] at hl
    rw [if_neg (by omega)] at E
    clear wu
    obtain ⟨⟨a0, s0⟩, q0⟩ : ∃ y, stake 2 xr 8 = y := ⟨_, rfl⟩
    have g0 := stake_le 2 xr 8
    have y0 := stake_lt 2 xr 8
    rw [q0] at g0 y0
    dsimp only at g0 y0
    replace g0 := Nat.le_trans g0 hx2
    have Hq0 := Pin.Aside.mk q0
    have hcon := slots_take2 Q xr 8 ⟨by decide, by decide⟩ w4 hr4 hx2
    rw [q0] at hcon
    clear q0
    go_wp2_with fail
    refine hcon.mono ?_
    rintro e w5 ⟨rfl, hr5, hk⟩
    have HR5 := Pin.Aside.mk (HR4.out.keep hk hRQ)
    have Hb5 := Pin.Aside.mk (Keep.dropS Hb4.out (HS.out _ Hb4.out) hRQ2 hk)
    clear hk hcon HR4 Hb4 hr4
    obtain ⟨⟨a1, s1⟩, q1⟩ : ∃ y, stake 2 s0 1 = y := ⟨_, rfl⟩
    have g1 := stake_le 2 s0 1
    have y1 := stake_lt 2 s0 1
    rw [q1] at g1 y1
    dsimp only at g1 y1
    replace g1 := Nat.le_trans g1 g0
    have Hq1 := Pin.Aside.mk q1
    have hcon := slots_take2 Q s0 1 ⟨by decide, by decide⟩ w5 hr5 g0
    rw [q1] at hcon
    clear q1
    go_wp2_with fail
    refine hcon.mono ?_
    rintro e w6 ⟨rfl, hr6, hk⟩
    have HR6 := Pin.Aside.mk (HR5.out.keep hk hRQ)
    have Hb6 := Pin.Aside.mk (Keep.dropS Hb5.out (HS.out _ Hb5.out) hRQ2 hk)
    clear hk hcon HR5 Hb5 hr5
    obtain ⟨⟨a2, s2⟩, q2⟩ : ∃ y, stake 2 s1 8 = y := ⟨_, rfl⟩
    have g2 := stake_le 2 s1 8
    have y2 := stake_lt 2 s1 8
    rw [q2] at g2 y2
    dsimp only at g2 y2
    replace g2 := Nat.le_trans g2 g1
    have Hq2 := Pin.Aside.mk q2
    have hcon := slots_take2 Q s1 8 ⟨by decide, by decide⟩ w6 hr6 g1
    rw [q2] at hcon
    clear q2
    go_wp2_with fail
    refine hcon.mono ?_
    rintro e w7 ⟨rfl, hr7, hk⟩
    have HR7 := Pin.Aside.mk (HR6.out.keep hk hRQ)
    have Hb7 := Pin.Aside.mk (Keep.dropS Hb6.out (HS.out _ Hb6.out) hRQ2 hk)
    clear hk hcon HR6 Hb6 hr6
    have hsix : hthree 2 xr = ((a0, a1, a2), s2) := by
      unfold hthree
      simp only [Hq0.out, Hq1.out, Hq2.out]
    rw [hsix] at E
    dsimp only at E
    clear hsix Hq0 Hq1 Hq2
    go_wp2_with fail
    refine (rd_ok Q s2 w7 hr7).mono ?_
    rintro e w7 ⟨rfl, rfl⟩
    obtain ⟨sb, bad⟩ := s2
    dsimp only at E
    cases bad with
    | true =>
      have HE := Pin.Aside.mk (E.out.trans (if_pos (.inl rfl)))
      obtain ⟨e0, e1, e2⟩ := HR7.out.get3
      obtain ⟨f0, f1, f2⟩ := HR7.out.fr3
      obtain ⟨n0, n1, n2⟩ := HR7.out.set3 (.int .u64 0) (.int .i64 0) (.int .u64 0)
      unfold set3 at n0 n1 n2
      clear E
      go_wp2_with fail
      refine bodyPost_ret (v := .tuple #[.agg #[.int .u64 0, .int .i64 0, .int .u64 0], .int .i64 0, .bool false]) (by simp [results, Tryz.results26, go_sem, *]) rfl ?_
      rw [HE.out]
      exact ⟨rfl, by rw [HRR.out]; exact below_set3S Hb7.out (Nat.le_refl _) _ _ _⟩
    | false =>
      go_wp2_with fail
      refine (rd_left Q _ w7 hr7).mono ?_
      rintro e w7 ⟨rfl, rfl⟩
      by_cases hsz : 0 < sb.size
      · have hszi : (0 : Int) < (sb.size : Int) := by omega
        have HE := Pin.Aside.mk (E.out.trans (if_pos (.inr (.inl hsz))))
        obtain ⟨e0, e1, e2⟩ := HR7.out.get3
        obtain ⟨f0, f1, f2⟩ := HR7.out.fr3
        obtain ⟨n0, n1, n2⟩ := HR7.out.set3 (.int .u64 0) (.int .i64 0) (.int .u64 0)
        unfold set3 at n0 n1 n2
        clear E
        go_wp2_with fail
        refine bodyPost_ret (v := .tuple #[.agg #[.int .u64 0, .int .i64 0, .int .u64 0], .int .i64 0, .bool false]) (by simp [results, Tryz.results26, go_sem, *]) rfl ?_
        rw [HE.out]
        exact ⟨rfl, by rw [HRR.out]; exact below_set3S Hb7.out (Nat.le_refl _) _ _ _⟩
      · have hszi : ¬ (0 : Int) < (sb.size : Int) := by omega
        by_cases h7 : 7 < a1
        · have h7i : (7 : Int) < (a1 : Int) := by omega
          have HE := Pin.Aside.mk (E.out.trans (if_pos (.inr (.inr h7))))
          obtain ⟨e0, e1, e2⟩ := HR7.out.get3
          obtain ⟨f0, f1, f2⟩ := HR7.out.fr3
          obtain ⟨n0, n1, n2⟩ := HR7.out.set3 (.int .u64 0) (.int .i64 0) (.int .u64 0)
          unfold set3 at n0 n1 n2
          clear E
          go_wp2_with fail
          refine bodyPost_ret (v := .tuple #[.agg #[.int .u64 0, .int .i64 0, .int .u64 0], .int .i64 0, .bool false]) (by simp [results, Tryz.results26, go_sem, *]) rfl ?_
          rw [HE.out]
          exact ⟨rfl, by rw [HRR.out]; exact below_set3S Hb7.out (Nat.le_refl _) _ _ _⟩
        · have h7i : ¬ (7 : Int) < (a1 : Int) := by omega
          have w7i : IntKind.i64.wrap (a1 : Int) = (a1 : Int) := by rw [IntKind.wrap_i64]; omega
          have HE := Pin.Aside.mk (E.out.trans (if_neg (by rintro (q | q | q); cases q; exact hsz q; exact h7 q)))
          obtain ⟨e0, e1, e2⟩ := HR7.out.get3
          obtain ⟨f0, f1, f2⟩ := HR7.out.fr3
          obtain ⟨n0, n1, n2⟩ := HR7.out.set3 (.int .u64 a0) (.int .i64 a1) (.int .u64 a2)
          unfold set3 at n0 n1 n2
          clear E
          go_wp2_with fail
          refine bodyPost_ret (v := .tuple #[.agg #[.int .u64 a0, .int .i64 a1, .int .u64 a2], .int .i64 2, .bool true]) (by simp [results, Tryz.results26, go_sem, *]) rfl ?_
          rw [HE.out]
          exact ⟨rfl, by rw [HRR.out]; exact below_set3S Hb7.out (Nat.le_refl _) _ _ _⟩
  · rw [mget_twoS, if_neg n1, if_neg n2] at hl
    simp only [Option.getD_none, Option.isSome_none] at hl
    have HE := Pin.Aside.mk (E.out.trans (if_pos ⟨n1, n2⟩))
    obtain ⟨e0, e1, e2⟩ := HR4.out.get3
    obtain ⟨f0, f1, f2⟩ := HR4.out.fr3
    obtain ⟨m0, m1, m2⟩ := HR4.out.set3 (.int .u64 0) (.int .i64 0) (.int .u64 0)
    unfold set3 at m0 m1 m2
    clear E n1 n2
    go_wp2_with fail
    refine bodyPost_ret (v := .tuple #[.agg #[.int .u64 0, .int .i64 0, .int .u64 0], .int .i64 0, .bool false]) (by simp [results, Tryz.results26, go_sem, *]) rfl ?_
    rw [HE.out]
    exact ⟨rfl, by rw [HRR.out]; exact below_set3S Hb4.out (Nat.le_refl _) _ _ _⟩
end Go.Proofs.YtpfkpaombiikcaaGreatDoor
