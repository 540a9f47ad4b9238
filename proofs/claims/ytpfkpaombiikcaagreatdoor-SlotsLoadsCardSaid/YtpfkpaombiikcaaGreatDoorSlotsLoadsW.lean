import Derived.Test.YtpfkpaombiikcaaGreatDoorZSlA
import Derived.Test.YtpfkpaombiikcaaGreatDoorSlD
import Derived.Test.YtpfkpaombiikcaaGreatDoorSuK
import Derived.BigRegion
import Derived.Test.YtpfkpaombiikcaaGreatDoorZSlF
import Derived.Test.YtpfkpaombiikcaaGreatDoorPair
import Derived.Test.YtpfkpaombiikcaaGreatDoorDevI
/- The document's slots on its device: SetSuper, SetHard, Load. -/
set_option maxRecDepth 16000
namespace Go.Proofs.YtpfkpaombiikcaaGreatDoor
open Go.RowKit Go.Pin
set_option linter.unusedVariables false
set_option linter.unusedSimpArgs false
theorem slotsref_getsuperE (b : ByteArray) (hs : b.size ≤ 1152921504606846976) (w : World) :
    Calls Tryz.prog 40 #[.string b] w fun e w' => e = .returned (.tuple #[(supget b).1.val, .bool (supget b).2]) ∧ Below w.heap.size w w' := by
  have := slotsref_getsuper b hs w
  rw [suprefget_eq] at this; exact this
theorem slotsref_gethardE (b : ByteArray) (hs : b.size ≤ 1152921504606846976) (w : World) :
    Calls Tryz.prog 42 #[.string b] w fun e w' => e = .returned (.tuple #[(hardget b).1.val, .int .i64 (hardget b).2.1, .bool (hardget b).2.2]) ∧ Below w.heap.size w w' := by
  have := slotsref_gethard b hs w
  rw [hardrefget_eq] at this; exact this
set_option maxHeartbeats 1600000 in
theorem slotsref_setsuper (b rN rO rV : Nat) (d : Dv) (s : Sup) (w : World) (h : RefAt w b rN rO rV d) :
    Calls Tryz.prog 19 #[.pointer (some ⟨b, 0, none⟩), .agg #[.int .i64 s.v, .int .i64 s.snap, .int .i64 s.log, .int .i64 s.area, .int .i64 s.half, .int .i64 s.goal, .int .i64 s.step]] w fun e w' => e = .returned (.int .i64 (ssetW d s).1) ∧ RefAt w' b rN rO rV (ssetW d s).2 ∧ Keep (refS b rN rO rV) w w' := by
  have hp := fun W => slotsref_putsuper s W
  have hz := supput_size s
  have E := Pin.Aside.mk (show ssetW d s = if (supput s).2 = false then (1, d) else suwrite d 0 (supput s).1 from rfl)
  obtain ⟨⟨T, ok⟩, hT⟩ : ∃ T, supput s = T := ⟨_, rfl⟩
  rw [hT] at hp hz E
  have Hp := Pin.Aside.mk hp
  have hk0 : Keep (fun _ => False) w (w.alloc (sevenO s 37)) := (Keep.refl _ _).alloc _
  have Hd := Pin.Aside.mk (h.keep hk0 ⟨id, id, id, id⟩)
  have Hk := Pin.Aside.mk (hk0.mono (T := refS b rN rO rV) fun _ q => q.elim)
  unfold sevenO at Hd Hk
  clear hp hT h hk0
  cases ok with
  | false =>
    replace E := Pin.Aside.mk (E.out.trans (if_pos rfl))
    go_enter Tryz.func19, Tryz.ntmps19
    go_wp2_with fail
    refine (Hp.out _).mono ?_
    rintro e w1 ⟨rfl, hb⟩
    have hd1 := Hd.out.below hb
    go_wp2_with fail
    go_ret
    rw [E.out]
    exact ⟨rfl, hd1, Hk.out.trans (Keep.of_below hb fun _ hk _ => hk)⟩
  | true =>
    replace E := Pin.Aside.mk (E.out.trans (if_neg (by simp)))
    have Hw := Pin.Aside.mk fun W hW => superref_write b rN rO rV d 0 T (by decide) (Nat.le_trans hz (by decide)) W hW
    obtain ⟨⟨c, D⟩, hD⟩ : ∃ D, suwrite d 0 T = D := ⟨_, rfl⟩
    dsimp only at E
    rw [hD] at E Hw
    clear hD
    go_enter Tryz.func19, Tryz.ntmps19
    go_wp2_with fail
    refine (Hp.out _).mono ?_
    rintro e w1 ⟨rfl, hb⟩
    have hd1 := Hd.out.below hb
    have Hk1 := Pin.Aside.mk (Hk.out.trans (Keep.of_below hb fun _ hk _ => hk))
    clear hb
    go_wp2_with fail
    refine (Hw.out _ hd1).mono ?_
    rintro e w2 ⟨rfl, hd2, hk2⟩
    go_wp2_with fail
    go_ret
    rw [E.out]
    exact ⟨rfl, hd2, Hk1.out.trans hk2⟩
set_option maxHeartbeats 1600000 in
theorem slotsref_sethard (b rN rO rV : Nat) (d : Dv) (v t o c : Int) (ht : 0 ≤ t ∧ t ≤ 18446744073709551615) (hc : 0 ≤ c ∧ c ≤ 18446744073709551615) (w : World) (h : RefAt w b rN rO rV d) :
    Calls Tryz.prog 21 #[.pointer (some ⟨b, 0, none⟩), .int .i64 v, .agg #[.int .u64 t, .int .i64 o, .int .u64 c]] w fun e w' => e = .returned (.int .i64 (shardW d v ⟨t, o, c⟩).1) ∧ RefAt w' b rN rO rV (shardW d v ⟨t, o, c⟩).2 ∧ Keep (refS b rN rO rV) w w' := by
  have hp := fun W => slotsref_puthard v t o c ht hc W
  have hz := hardput_size v ⟨t, o, c⟩
  have E := Pin.Aside.mk (show shardW d v ⟨t, o, c⟩ = if (hardput v ⟨t, o, c⟩).2 = false then (1, d) else suwrite d 2 (hardput v ⟨t, o, c⟩).1 from rfl)
  obtain ⟨⟨T, ok⟩, hT⟩ : ∃ T, hardput v ⟨t, o, c⟩ = T := ⟨_, rfl⟩
  rw [hT] at hp hz E
  have Hp := Pin.Aside.mk hp
  have hk0 : Keep (fun _ => False) w (w.alloc (.cells #[.int .u64 t, .int .i64 o, .int .u64 c] 40)) := (Keep.refl _ _).alloc _
  have Hd := Pin.Aside.mk (h.keep hk0 ⟨id, id, id, id⟩)
  have Hk := Pin.Aside.mk (hk0.mono (T := refS b rN rO rV) fun _ q => q.elim)
  clear hp hT h hk0
  cases ok with
  | false =>
    replace E := Pin.Aside.mk (E.out.trans (if_pos rfl))
    go_enter Tryz.func21, Tryz.ntmps21
    go_wp2_with fail
    refine (Hp.out _).mono ?_
    rintro e w1 ⟨rfl, hb⟩
    have hd1 := Hd.out.below hb
    go_wp2_with fail
    go_ret
    rw [E.out]
    exact ⟨rfl, hd1, Hk.out.trans (Keep.of_below hb fun _ hk _ => hk)⟩
  | true =>
    replace E := Pin.Aside.mk (E.out.trans (if_neg (by simp)))
    have Hw := Pin.Aside.mk fun W hW => superref_write b rN rO rV d 2 T (by decide) (Nat.le_trans hz (by decide)) W hW
    obtain ⟨⟨c', D⟩, hD⟩ : ∃ D, suwrite d 2 T = D := ⟨_, rfl⟩
    dsimp only at E
    rw [hD] at E Hw
    clear hD
    go_enter Tryz.func21, Tryz.ntmps21
    go_wp2_with fail
    refine (Hp.out _).mono ?_
    rintro e w1 ⟨rfl, hb⟩
    have hd1 := Hd.out.below hb
    have Hk1 := Pin.Aside.mk (Hk.out.trans (Keep.of_below hb fun _ hk _ => hk))
    clear hb
    go_wp2_with fail
    refine (Hw.out _ hd1).mono ?_
    rintro e w2 ⟨rfl, hd2, hk2⟩
    go_wp2_with fail
    go_ret
    rw [E.out]
    exact ⟨rfl, hd2, Hk1.out.trans hk2⟩
set_option maxHeartbeats 6400000 in
theorem slotsref_load (b rN rO rV : Nat) (d : Dv) (w : World) (h : RefAt w b rN rO rV d) :
    Calls Tryz.prog 17 #[.pointer (some ⟨b, 0, none⟩)] w fun e w' => e = .returned (.tuple #[(sloadW d).1.val, (sloadW d).2.1.val, .int .i64 (sloadW d).2.2]) ∧ Below w.heap.size w w' := by
  have E := Pin.Aside.mk (show sloadW d = _ from (rfl : _ = if (suread d 0).2.2.2 ≠ 0 then (Sup.zero, Hd.zero, (suread d 0).2.2.2) else if (supget (suread d 0).1).2 = false ∨ (d.n : Int) < ssectors (supget (suread d 0).1).1 then (Sup.zero, Hd.zero, 2) else if (suread d 2).2.2.2 = 6 then ((supget (suread d 0).1).1, Hd.zero, 0) else if (suread d 2).2.2.2 ≠ 0 then (Sup.zero, Hd.zero, (suread d 2).2.2.2) else if (hardget (suread d 2).1).2.2 = false then (Sup.zero, Hd.zero, 2) else ((supget (suread d 0).1).1, (hardget (suread d 2).1).1, 0)))
  have hr1 := fun W hW => superref_read b rN rO rV d 0 (by decide) W hW
  have hr2 := fun W hW => superref_read b rN rO rV d 2 (by decide) W hW
  have hz1 : (suread d 0).1.size ≤ 51 := by rcases suread_cases d 0 with ⟨_, _, _, q⟩ | ⟨q, _⟩ | ⟨_, _, _, q, _, _, _, z, _⟩ <;> rw [q] <;> first | exact Nat.zero_le _ | exact z
  have hz2 : (suread d 2).1.size ≤ 51 := by rcases suread_cases d 2 with ⟨_, _, _, q⟩ | ⟨q, _⟩ | ⟨_, _, _, q, _, _, _, z, _⟩ <;> rw [q] <;> first | exact Nat.zero_le _ | exact z
  obtain ⟨⟨X1, g1, k1, c1⟩, h1⟩ : ∃ r, suread d 0 = r := ⟨_, rfl⟩
  obtain ⟨⟨X2, g2, k2, c2⟩, h2⟩ : ∃ r, suread d 2 = r := ⟨_, rfl⟩
  rw [h1] at hr1 hz1 E
  rw [h2] at hr2 hz2 E
  dsimp only at hr1 hr2 hz1 hz2 E
  have hgs := fun W => slotsref_getsuperE X1 (Nat.le_trans hz1 (by decide)) W
  have hgh := fun W => slotsref_gethardE X2 (Nat.le_trans hz2 (by decide)) W
  obtain ⟨⟨S, sok⟩, h3⟩ : ∃ r, supget X1 = r := ⟨_, rfl⟩
  obtain ⟨⟨H, hv, hok⟩, h4⟩ : ∃ r, hardget X2 = r := ⟨_, rfl⟩
  rw [h3] at hgs E
  rw [h4] at hgh E
  dsimp only at hgs hgh E
  have hsec := fun W => slotsref_sectors S W
  obtain ⟨sn, h5⟩ : ∃ r, ssectors S = r := ⟨_, rfl⟩
  rw [h5] at hsec E
  obtain ⟨s0, s1, s2, s3, s4, s5, s6⟩ := S
  obtain ⟨t0, t1, t2⟩ := H
  replace hgs : ∀ W, Calls Tryz.prog 40 #[.string X1] W fun e w' => e = .returned (.tuple #[.agg #[.int .i64 s0, .int .i64 s1, .int .i64 s2, .int .i64 s3, .int .i64 s4, .int .i64 s5, .int .i64 s6], .bool sok]) ∧ Below W.heap.size W w' := hgs
  replace hgh : ∀ W, Calls Tryz.prog 42 #[.string X2] W fun e w' => e = .returned (.tuple #[.agg #[.int .u64 t0, .int .i64 t1, .int .u64 t2], .int .i64 hv, .bool hok]) ∧ Below W.heap.size W w' := hgh
  dsimp only at hsec
  have Hr1 := Pin.Aside.mk hr1
  have Hr2 := Pin.Aside.mk hr2
  have Hgs := Pin.Aside.mk hgs
  have Hgh := Pin.Aside.mk hgh
  have Hsec := Pin.Aside.mk hsec
  have hR1 := (SevAt.new w #[.int .i64 0, .int .i64 0, .int .i64 0, .int .i64 0, .int .i64 0, .int .i64 0, .int .i64 0] 37 7 rfl).keep ((Keep.refl (fun _ => False) _).alloc (.cells #[.int .u64 0, .int .i64 0, .int .u64 0] 40)) id
  have hR2 := SevAt.new (w.alloc (.cells #[.int .i64 0, .int .i64 0, .int .i64 0, .int .i64 0, .int .i64 0, .int .i64 0, .int .i64 0] 37)) #[.int .u64 0, .int .i64 0, .int .u64 0] 40 3 rfl
  have hz0 : (w.alloc (.cells #[.int .i64 0, .int .i64 0, .int .i64 0, .int .i64 0, .int .i64 0, .int .i64 0, .int .i64 0] 37)).heap.size = w.heap.size + 1 := by simp
  rw [hz0] at hR2
  have hk0 : Keep (fun _ => False) w ((w.alloc (.cells #[.int .i64 0, .int .i64 0, .int .i64 0, .int .i64 0, .int .i64 0, .int .i64 0, .int .i64 0] 37)).alloc (.cells #[.int .u64 0, .int .i64 0, .int .u64 0] 40)) := ((Keep.refl _ _).alloc _).alloc _
  have HR1 := Pin.Aside.mk hR1
  have HR2 := Pin.Aside.mk hR2
  have Hb := Pin.Aside.mk (hk0.below (Nat.le_refl _) fun _ q => q.elim)
  have Hd := Pin.Aside.mk (h.keep hk0 ⟨id, id, id, id⟩)
  clear hr1 hr2 hgs hgh hsec hR1 hR2 hz0 hk0 h h1 h2 h3 h4 h5 hz1 hz2
  go_enter Tryz.func17, Tryz.ntmps17
  go_wp2_with fail
  generalize ((w.alloc (.cells #[.int .i64 0, .int .i64 0, .int .i64 0, .int .i64 0, .int .i64 0, .int .i64 0, .int .i64 0] 37)).alloc (.cells #[.int .u64 0, .int .i64 0, .int .u64 0] 40)) = w0 at *
  generalize hRR : w.heap.size = R at *
  have HRR := Pin.Aside.mk hRR
  have HS := Pin.Aside.mk (show ∀ x, Below R w x → R ≤ x.heap.size from fun x h => by have := h.size; omega)
  clear hRR
  refine (Hr1.out _ Hd.out).mono ?_
  rintro e w1 ⟨rfl, hb1⟩
  have Hd1 := Pin.Aside.mk (Hd.out.below hb1)
  have HR11 := Pin.Aside.mk (HR1.out.below hb1)
  have HR21 := Pin.Aside.mk (HR2.out.below hb1)
  have Hb1 := Pin.Aside.mk (Hb.out.trans (hb1.mono (HS.out _ Hb.out)))
  clear hb1 HR1 HR2 Hb Hd
  by_cases hc1 : c1 = 0
  · subst hc1
    replace E := Pin.Aside.mk (E.out.trans (if_neg (by simp)))
    go_wp2_with fail
    refine (Hgs.out _).mono ?_
    rintro e w2 ⟨rfl, hb2⟩
    have hk2 := (Keep.of_below (S := fun _ => False) hb2 fun _ hk _ => hk).alloc (sevenO ⟨s0, s1, s2, s3, s4, s5, s6⟩ 37)
    have hS := SevenAt.new w2 ⟨s0, s1, s2, s3, s4, s5, s6⟩ 37
    have Hd2 := Pin.Aside.mk (Hd1.out.keep hk2 ⟨id, id, id, id⟩)
    have HR12 := Pin.Aside.mk (HR11.out.keep hk2 id)
    have HR22 := Pin.Aside.mk (HR21.out.keep hk2 id)
    have Hb2 := Pin.Aside.mk (Hb1.out.trans (hk2.below (HS.out _ Hb1.out) fun _ q => q.elim))
    unfold sevenO at hS Hd2 HR12 HR22 Hb2
    have HSv := Pin.Aside.mk hS
    clear hb2 HR11 HR21 Hb1 Hd1 hk2 hS
    cases sok with
    | false =>
      have HE := Pin.Aside.mk (E.out.trans (if_pos (.inl rfl)))
      clear E
      go_upto_region 5 with fail
      generalize w2.alloc (.cells #[.int .i64 s0, .int .i64 s1, .int .i64 s2, .int .i64 s3, .int .i64 s4, .int .i64 s5, .int .i64 s6] 37) = w3 at *
      generalize w2.heap.size = U at *
      go_quiet (fail)
      have HR13 := Pin.Aside.mk (HR12.out.keep ((Keep.refl (fun _ => False) w3).drewN nq) id)
      have HR23 := Pin.Aside.mk (HR22.out.keep ((Keep.refl (fun _ => False) w3).drewN nq) id)
      have Hb3 := Pin.Aside.mk (Hb2.out.trans (((Keep.refl (fun _ => False) w3).drewN nq).below (HS.out _ Hb2.out) fun _ q => q.elim))
      obtain ⟨e0, e1, e2, e3, e4, e5, e6⟩ := HR13.out.get7
      obtain ⟨f0, f1, f2, f3, f4, f5, f6⟩ := HR13.out.fr7
      obtain ⟨p0, p1, p2⟩ := HR23.out.get3
      obtain ⟨q0, q1, q2⟩ := HR23.out.fr3
      have hne1 : ¬ R = R + 1 := by omega
      have hne2 : ¬ R + 1 = R := by omega
      have TC := Pin.Aside.mk (ten_cells HR13.out HR23.out (by omega) (.int .i64 0) (.int .i64 0) (.int .i64 0) (.int .i64 0) (.int .i64 0) (.int .i64 0) (.int .i64 0) (.int .u64 0) (.int .i64 0) (.int .u64 0))
      go_wp2_with fail
      obtain ⟨⟨n0, n1, n2, n3, n4, n5, n6⟩, m0, m1, m2⟩ := TC.out
      unfold set3 set7 at n0 n1 n2 n3 n4 n5 n6 m0 m1 m2
      refine bodyPost_ret (v := .tuple #[.agg #[.int .i64 0, .int .i64 0, .int .i64 0, .int .i64 0, .int .i64 0, .int .i64 0, .int .i64 0], .agg #[.int .u64 0, .int .i64 0, .int .u64 0], .int .i64 2]) (by simp [results, Tryz.results17, go_sem, *]) rfl ?_
      rw [HE.out]
      exact ⟨rfl, by rw [HRR.out]; exact below_set3S (below_set7 Hb3.out (Nat.le_refl _) _ _ _ _ _ _ _) (Nat.le_succ _) _ _ _⟩
    | true =>
      replace E := Pin.Aside.mk (E.out.trans (if_or_right (by simp)))
      go_upto_region 5 with fail
      generalize w2.alloc (.cells #[.int .i64 s0, .int .i64 s1, .int .i64 s2, .int .i64 s3, .int .i64 s4, .int .i64 s5, .int .i64 s6] 37) = w3 at *
      generalize w2.heap.size = U at *
      have k0 : ∀ s' : KW (fun _ => False) w3, s'.w.cell? ⟨U, 0, none⟩ = some (.int .i64 s0) := fun s' => s'.keep.cell HSv.out.c0 id
      have k1 : ∀ s' : KW (fun _ => False) w3, s'.w.cell? ⟨U, 1, none⟩ = some (.int .i64 s1) := fun s' => s'.keep.cell HSv.out.c1 id
      have k2 : ∀ s' : KW (fun _ => False) w3, s'.w.cell? ⟨U, 2, none⟩ = some (.int .i64 s2) := fun s' => s'.keep.cell HSv.out.c2 id
      have k3 : ∀ s' : KW (fun _ => False) w3, s'.w.cell? ⟨U, 3, none⟩ = some (.int .i64 s3) := fun s' => s'.keep.cell HSv.out.c3 id
      have k4 : ∀ s' : KW (fun _ => False) w3, s'.w.cell? ⟨U, 4, none⟩ = some (.int .i64 s4) := fun s' => s'.keep.cell HSv.out.c4 id
      have k5 : ∀ s' : KW (fun _ => False) w3, s'.w.cell? ⟨U, 5, none⟩ = some (.int .i64 s5) := fun s' => s'.keep.cell HSv.out.c5 id
      have k6 : ∀ s' : KW (fun _ => False) w3, s'.w.cell? ⟨U, 6, none⟩ = some (.int .i64 s6) := fun s' => s'.keep.cell HSv.out.c6 id
      obtain ⟨cn, hcn1, hcn2, hcn⟩ := Hd2.out.c0
      have kN : ∀ s' : KW (fun _ => False) w3, s'.w.cell? ⟨b, 0, none⟩ = some (.slice (some ⟨rN, 0, none⟩) d.n cn) := fun s' => s'.keep.cell hcn id
      clear hcn1 hcn2 hcn
      refine wp_region_keep (fun _ => False) (by kernel_rfl) (by kernel_rfl) ?_
      repeat (go_big_quiet_step ((go_at_call 41; with_reducible exact KW.calls (Hsec.out _))))
      refine wpQuiet_nil ?_
      intro s4'
      have HSv3 := Pin.Aside.mk (HSv.out.keep s4'.keep id)
      have Hd3 := Pin.Aside.mk (Hd2.out.keep s4'.keep ⟨id, id, id, id⟩)
      have HR13 := Pin.Aside.mk (HR12.out.keep s4'.keep id)
      have HR23 := Pin.Aside.mk (HR22.out.keep s4'.keep id)
      have Hb3 := Pin.Aside.mk (Hb2.out.trans (s4'.keep.below (HS.out _ Hb2.out) fun _ q => q.elim))
      clear kN k0 k1 k2 k3 k4 k5 k6 HR12 HR22 Hb2 Hd2 HSv
      generalize s4'.w = w4 at *
      by_cases hlt : (d.n : Int) < sn
      · have HE := Pin.Aside.mk (E.out.trans (if_pos hlt))
        obtain ⟨e0, e1, e2, e3, e4, e5, e6⟩ := HR13.out.get7
        obtain ⟨f0, f1, f2, f3, f4, f5, f6⟩ := HR13.out.fr7
        obtain ⟨p0, p1, p2⟩ := HR23.out.get3
        obtain ⟨q0, q1, q2⟩ := HR23.out.fr3
        have hne1 : ¬ R = R + 1 := by omega
        have hne2 : ¬ R + 1 = R := by omega
        have TC := Pin.Aside.mk (ten_cells HR13.out HR23.out (by omega) (.int .i64 0) (.int .i64 0) (.int .i64 0) (.int .i64 0) (.int .i64 0) (.int .i64 0) (.int .i64 0) (.int .u64 0) (.int .i64 0) (.int .u64 0))
        clear E
        go_wp2_with fail
        obtain ⟨⟨n0, n1, n2, n3, n4, n5, n6⟩, m0, m1, m2⟩ := TC.out
        unfold set3 set7 at n0 n1 n2 n3 n4 n5 n6 m0 m1 m2
        refine bodyPost_ret (v := .tuple #[.agg #[.int .i64 0, .int .i64 0, .int .i64 0, .int .i64 0, .int .i64 0, .int .i64 0, .int .i64 0], .agg #[.int .u64 0, .int .i64 0, .int .u64 0], .int .i64 2]) (by simp [results, Tryz.results17, go_sem, *]) rfl ?_
        rw [HE.out]
        exact ⟨rfl, by rw [HRR.out]; exact below_set3S (below_set7 Hb3.out (Nat.le_refl _) _ _ _ _ _ _ _) (Nat.le_succ _) _ _ _⟩
      · replace E := Pin.Aside.mk (E.out.trans (if_neg hlt))
        go_wp2_with fail
        refine (Hr2.out _ Hd3.out).mono ?_
        rintro e w5 ⟨rfl, hb5⟩
        have HSv5 := Pin.Aside.mk (HSv3.out.below hb5)
        have HR15 := Pin.Aside.mk (HR13.out.below hb5)
        have HR25 := Pin.Aside.mk (HR23.out.below hb5)
        have Hb5 := Pin.Aside.mk (Hb3.out.trans (hb5.mono (HS.out _ Hb3.out)))
        clear hb5 HR13 HR23 Hb3 Hd3 HSv3
        by_cases hc6 : c2 = 6
        · have kc : (c2 == 6) = true := by simpa using hc6
          obtain ⟨d0, d1, d2, d3, d4, d5, d6⟩ := HSv5.out
          dsimp only at d0 d1 d2 d3 d4 d5 d6
          have HE := Pin.Aside.mk (E.out.trans (if_pos hc6))
          obtain ⟨e0, e1, e2, e3, e4, e5, e6⟩ := HR15.out.get7
          obtain ⟨f0, f1, f2, f3, f4, f5, f6⟩ := HR15.out.fr7
          obtain ⟨p0, p1, p2⟩ := HR25.out.get3
          obtain ⟨q0, q1, q2⟩ := HR25.out.fr3
          have hne1 : ¬ R = R + 1 := by omega
          have hne2 : ¬ R + 1 = R := by omega
          have TC := Pin.Aside.mk (ten_cells HR15.out HR25.out (by omega) (.int .i64 s0) (.int .i64 s1) (.int .i64 s2) (.int .i64 s3) (.int .i64 s4) (.int .i64 s5) (.int .i64 s6) (.int .u64 0) (.int .i64 0) (.int .u64 0))
          clear E hc6
          go_wp2_with fail
          obtain ⟨⟨n0, n1, n2, n3, n4, n5, n6⟩, m0, m1, m2⟩ := TC.out
          unfold set3 set7 at n0 n1 n2 n3 n4 n5 n6 m0 m1 m2
          refine bodyPost_ret (v := .tuple #[.agg #[.int .i64 s0, .int .i64 s1, .int .i64 s2, .int .i64 s3, .int .i64 s4, .int .i64 s5, .int .i64 s6], .agg #[.int .u64 0, .int .i64 0, .int .u64 0], .int .i64 0]) (by simp [results, Tryz.results17, go_sem, *]) rfl ?_
          rw [HE.out]
          exact ⟨rfl, by rw [HRR.out]; exact below_set3S (below_set7 Hb5.out (Nat.le_refl _) _ _ _ _ _ _ _) (Nat.le_succ _) _ _ _⟩
        · have kc : (c2 == 6) = false := by simpa using hc6
          replace E := Pin.Aside.mk (E.out.trans (if_neg hc6))
          by_cases hc0 : c2 = 0
          · subst hc0
            replace E := Pin.Aside.mk (E.out.trans (if_neg (by simp)))
            clear hc6
            go_wp2_with fail
            refine (Hgh.out _).mono ?_
            rintro e w6 ⟨rfl, hb6⟩
            have hk6 := (Keep.of_below (S := fun _ => False) hb6 fun _ hk _ => hk).alloc (.cells #[.int .u64 t0, .int .i64 t1, .int .u64 t2] 40)
            have hT := SevAt.new w6 #[.int .u64 t0, .int .i64 t1, .int .u64 t2] 40 3 rfl
            have HSv7 := Pin.Aside.mk (HSv5.out.keep hk6 id)
            have HR17 := Pin.Aside.mk (HR15.out.keep hk6 id)
            have HR27 := Pin.Aside.mk (HR25.out.keep hk6 id)
            have Hb7 := Pin.Aside.mk (Hb5.out.trans (hk6.below (HS.out _ Hb5.out) fun _ q => q.elim))
            have HT := Pin.Aside.mk hT
            have l6 : R + 1 < w6.heap.size := by
              have := World.block_lt_of_cell? _ _ (HR25.out.at' 0 (by omega))
              have h7 := hb6.size
              replace this : R + 1 < w5.heap.size := this
              omega
            have lU : U < w6.heap.size := by
              have := World.block_lt_of_cell? _ _ HSv5.out.c0
              have h7 := hb6.size
              replace this : U < w5.heap.size := this
              omega
            clear hb6 hk6 HR15 HR25 Hb5 HSv5 hT
            cases hok with
            | false =>
              have HE := Pin.Aside.mk (E.out.trans (if_pos rfl))
              clear E
              go_upto_region 13 with fail
              generalize w6.alloc (.cells #[.int .u64 t0, .int .i64 t1, .int .u64 t2] 40) = w7 at *
              generalize w6.heap.size = V at *
              obtain ⟨e0, e1, e2, e3, e4, e5, e6⟩ := HR17.out.get7
              obtain ⟨f0, f1, f2, f3, f4, f5, f6⟩ := HR17.out.fr7
              obtain ⟨p0, p1, p2⟩ := HR27.out.get3
              obtain ⟨q0, q1, q2⟩ := HR27.out.fr3
              have hne1 : ¬ R = R + 1 := by omega
              have hne2 : ¬ R + 1 = R := by omega
              have TC := Pin.Aside.mk (ten_cells HR17.out HR27.out (by omega) (.int .i64 0) (.int .i64 0) (.int .i64 0) (.int .i64 0) (.int .i64 0) (.int .i64 0) (.int .i64 0) (.int .u64 0) (.int .i64 0) (.int .u64 0))
              go_wp2_with fail
              obtain ⟨⟨n0, n1, n2, n3, n4, n5, n6⟩, m0, m1, m2⟩ := TC.out
              unfold set3 set7 at n0 n1 n2 n3 n4 n5 n6 m0 m1 m2
              refine bodyPost_ret (v := .tuple #[.agg #[.int .i64 0, .int .i64 0, .int .i64 0, .int .i64 0, .int .i64 0, .int .i64 0, .int .i64 0], .agg #[.int .u64 0, .int .i64 0, .int .u64 0], .int .i64 2]) (by simp [results, Tryz.results17, go_sem, *]) rfl ?_
              rw [HE.out]
              exact ⟨rfl, by rw [HRR.out]; exact below_set3S (below_set7 Hb7.out (Nat.le_refl _) _ _ _ _ _ _ _) (Nat.le_succ _) _ _ _⟩
            | true =>
              have HE := Pin.Aside.mk (E.out.trans (if_neg (by simp)))
              clear E
              go_upto_region 13 with fail
              generalize w6.alloc (.cells #[.int .u64 t0, .int .i64 t1, .int .u64 t2] 40) = w7 at *
              generalize w6.heap.size = V at *
              obtain ⟨d0, d1, d2, d3, d4, d5, d6⟩ := HSv7.out
              dsimp only at d0 d1 d2 d3 d4 d5 d6
              obtain ⟨x0, x1, x2⟩ := HT.out.get3
              replace x0 : w7.cell? ⟨V, 0, none⟩ = some (.int .u64 t0) := x0
              replace x1 : w7.cell? ⟨V, 1, none⟩ = some (.int .i64 t1) := x1
              replace x2 : w7.cell? ⟨V, 2, none⟩ = some (.int .u64 t2) := x2
              have hneV : ¬ V = R := by omega
              have hneV1 : ¬ V = R + 1 := by omega
              obtain ⟨e0, e1, e2, e3, e4, e5, e6⟩ := HR17.out.get7
              obtain ⟨f0, f1, f2, f3, f4, f5, f6⟩ := HR17.out.fr7
              obtain ⟨p0, p1, p2⟩ := HR27.out.get3
              obtain ⟨q0, q1, q2⟩ := HR27.out.fr3
              have hne1 : ¬ R = R + 1 := by omega
              have hne2 : ¬ R + 1 = R := by omega
              have TC := Pin.Aside.mk (ten_cells HR17.out HR27.out (by omega) (.int .i64 s0) (.int .i64 s1) (.int .i64 s2) (.int .i64 s3) (.int .i64 s4) (.int .i64 s5) (.int .i64 s6) (.int .u64 t0) (.int .i64 t1) (.int .u64 t2))
              go_wp2_with fail
              go_region
              all_goals go_wp2_with fail
              all_goals
                obtain ⟨⟨n0, n1, n2, n3, n4, n5, n6⟩, m0, m1, m2⟩ := TC.out
                unfold set3 set7 at n0 n1 n2 n3 n4 n5 n6 m0 m1 m2
                refine bodyPost_ret (v := .tuple #[.agg #[.int .i64 s0, .int .i64 s1, .int .i64 s2, .int .i64 s3, .int .i64 s4, .int .i64 s5, .int .i64 s6], .agg #[.int .u64 t0, .int .i64 t1, .int .u64 t2], .int .i64 0]) (by simp [results, Tryz.results17, go_sem, *]) rfl ?_
                rw [HE.out]
                exact ⟨rfl, by rw [HRR.out]; exact Below.drew (below_set3S (below_set7 Hb7.out (Nat.le_refl _) _ _ _ _ _ _ _) (Nat.le_succ _) _ _ _)⟩
          · have kb : (c2 == 0) = false := by simpa using hc0
            clear hc6
            have HE := Pin.Aside.mk (E.out.trans (if_pos hc0))
            obtain ⟨e0, e1, e2, e3, e4, e5, e6⟩ := HR15.out.get7
            obtain ⟨f0, f1, f2, f3, f4, f5, f6⟩ := HR15.out.fr7
            obtain ⟨p0, p1, p2⟩ := HR25.out.get3
            obtain ⟨q0, q1, q2⟩ := HR25.out.fr3
            have hne1 : ¬ R = R + 1 := by omega
            have hne2 : ¬ R + 1 = R := by omega
            have TC := Pin.Aside.mk (ten_cells HR15.out HR25.out (by omega) (.int .i64 0) (.int .i64 0) (.int .i64 0) (.int .i64 0) (.int .i64 0) (.int .i64 0) (.int .i64 0) (.int .u64 0) (.int .i64 0) (.int .u64 0))
            clear E hc0
            go_wp2_with fail
            obtain ⟨⟨n0, n1, n2, n3, n4, n5, n6⟩, m0, m1, m2⟩ := TC.out
            unfold set3 set7 at n0 n1 n2 n3 n4 n5 n6 m0 m1 m2
            refine bodyPost_ret (v := .tuple #[.agg #[.int .i64 0, .int .i64 0, .int .i64 0, .int .i64 0, .int .i64 0, .int .i64 0, .int .i64 0], .agg #[.int .u64 0, .int .i64 0, .int .u64 0], .int .i64 c2]) (by simp [results, Tryz.results17, go_sem, *]) rfl ?_
            rw [HE.out]
            exact ⟨rfl, by rw [HRR.out]; exact below_set3S (below_set7 Hb5.out (Nat.le_refl _) _ _ _ _ _ _ _) (Nat.le_succ _) _ _ _⟩
  · have kb : (c1 != 0) = true := by simpa using hc1
    have HE := Pin.Aside.mk (E.out.trans (if_pos hc1))
    obtain ⟨e0, e1, e2, e3, e4, e5, e6⟩ := HR11.out.get7
    obtain ⟨f0, f1, f2, f3, f4, f5, f6⟩ := HR11.out.fr7
    obtain ⟨p0, p1, p2⟩ := HR21.out.get3
    obtain ⟨q0, q1, q2⟩ := HR21.out.fr3
    have hne1 : ¬ R = R + 1 := by omega
    have hne2 : ¬ R + 1 = R := by omega
    have TC := Pin.Aside.mk (ten_cells HR11.out HR21.out (by omega) (.int .i64 0) (.int .i64 0) (.int .i64 0) (.int .i64 0) (.int .i64 0) (.int .i64 0) (.int .i64 0) (.int .u64 0) (.int .i64 0) (.int .u64 0))
    clear E hc1
    go_wp2_with fail
    obtain ⟨⟨n0, n1, n2, n3, n4, n5, n6⟩, m0, m1, m2⟩ := TC.out
    unfold set3 set7 at n0 n1 n2 n3 n4 n5 n6 m0 m1 m2
    refine bodyPost_ret (v := .tuple #[.agg #[.int .i64 0, .int .i64 0, .int .i64 0, .int .i64 0, .int .i64 0, .int .i64 0, .int .i64 0], .agg #[.int .u64 0, .int .i64 0, .int .u64 0], .int .i64 c1]) (by simp [results, Tryz.results17, go_sem, *]) rfl ?_
    rw [HE.out]
    exact ⟨rfl, by rw [HRR.out]; exact below_set3S (below_set7 Hb1.out (Nat.le_refl _) _ _ _ _ _ _ _) (Nat.le_succ _) _ _ _⟩
end Go.Proofs.YtpfkpaombiikcaaGreatDoor
/- SlotsLoads: its walk. -/
set_option maxRecDepth 16000
namespace Go.Pin
open Go.RowKit
set_option linter.unusedVariables false
set_option linter.unusedSimpArgs false
theorem SevenF.put {w : World} {B : Nat} {s : Sup} (h : SevenF w B s) (x0 x1 x2 x3 x4 x5 x6 : Int) : SevenF (set7 w B (.int .i64 x0) (.int .i64 x1) (.int .i64 x2) (.int .i64 x3) (.int .i64 x4) (.int .i64 x5) (.int .i64 x6)) B ⟨x0, x1, x2, x3, x4, x5, x6⟩ := by
  have g := (((((((SevAt.ofSeven h).set 0 (by omega) (.int .i64 x0)).set 1 (by omega) (.int .i64 x1)).set 2 (by omega) (.int .i64 x2)).set 3 (by omega) (.int .i64 x3)).set 4 (by omega) (.int .i64 x4)).set 5 (by omega) (.int .i64 x5)).set 6 (by omega) (.int .i64 x6)
  obtain ⟨e0, e1, e2, e3, e4, e5, e6⟩ := g.get7
  exact ⟨⟨e0, e1, e2, e3, e4, e5, e6⟩, g.fr⟩
theorem HardF.off7 {w : World} {B R : Nat} {t o c : Int} (h : HardF w B t o c) (hne : R ≠ B) (x0 x1 x2 x3 x4 x5 x6 : Value) : HardF (set7 w R x0 x1 x2 x3 x4 x5 x6) B t o c :=
  ((((((h.set hne x0).set hne x1).set hne x2).set hne x3).set hne x4).set hne x5).set hne x6
theorem SevenF.snap {w : World} {B : Nat} {s : Sup} (h : SevenF w B s) (x : Int) : SevenF (w.setCell ⟨B, 1, none⟩ (.int .i64 x)) B ⟨s.v, x, s.log, s.area, s.half, s.goal, s.step⟩ := by
  have g := (SevAt.ofSeven h).set 1 (by omega) (.int .i64 x)
  obtain ⟨e0, e1, e2, e3, e4, e5, e6⟩ := g.get7
  exact ⟨⟨e0, e1, e2, e3, e4, e5, e6⟩, g.fr⟩
theorem SevenF.log {w : World} {B : Nat} {s : Sup} (h : SevenF w B s) (x : Int) : SevenF (w.setCell ⟨B, 2, none⟩ (.int .i64 x)) B ⟨s.v, s.snap, x, s.area, s.half, s.goal, s.step⟩ := by
  have g := (SevAt.ofSeven h).set 2 (by omega) (.int .i64 x)
  obtain ⟨e0, e1, e2, e3, e4, e5, e6⟩ := g.get7
  exact ⟨⟨e0, e1, e2, e3, e4, e5, e6⟩, g.fr⟩
theorem Pair.offK {w w' : World} {B b f m r N O V R : Nat} {D : Dv} (h : Pair w B b f m r N O V D) (hk : Keep (fun j => j = R) w w') (hR : R < B) : Pair w' B b f m r N O V D :=
  ⟨dev_off h.dev hk (fun k q e => by have := h.low1 k q; omega), ref_off h.ref hk (fun k q e => by have := h.low2 k q; omega), h.apart, h.low1, h.low2⟩
end Go.Pin
namespace Go.Proofs.YtpfkpaombiikcaaGreatDoor
open Go.RowKit Go.Pin
set_option linter.unusedVariables false
set_option linter.unusedSimpArgs false
set_option maxHeartbeats 6400000 in
theorem slotsLoads_walk (n8 : Int) (a b' : ByteArray) (v snap log area half goal step t o c : Int) (own : Bool) (after : Int) (hn8 : 0 ≤ n8 ∧ n8 ≤ 255) (ha : a.size ≤ 140737488351232) (hb' : b'.size ≤ 140737488351232) (hv : -9223372036854775808 ≤ v ∧ v ≤ 9223372036854775807) (hsnap : -9223372036854775808 ≤ snap ∧ snap ≤ 9223372036854775807) (hlog : -9223372036854775808 ≤ log ∧ log ≤ 9223372036854775807) (harea : -9223372036854775808 ≤ area ∧ area ≤ 9223372036854775807) (hhalf : -9223372036854775808 ≤ half ∧ half ≤ 9223372036854775807) (hgoal : -9223372036854775808 ≤ goal ∧ goal ≤ 9223372036854775807) (hstep : -9223372036854775808 ≤ step ∧ step ≤ 9223372036854775807) (ht : 0 ≤ t ∧ t ≤ 18446744073709551615) (ho : -9223372036854775808 ≤ o ∧ o ≤ 9223372036854775807) (hc : 0 ≤ c ∧ c ≤ 18446744073709551615) (hafter : -9223372036854775808 ≤ after ∧ after ≤ 9223372036854775807) (w : World) :
    Calls Tryz.prog 3 #[.int .u8 n8, .string a, .string b', .agg #[.int .i64 v, .int .i64 snap, .int .i64 log, .int .i64 area, .int .i64 half, .int .i64 goal, .int .i64 step], .agg #[.int .u64 t, .int .i64 o, .int .u64 c], .bool own, .int .i64 after] w fun e w' => e = .returned (.bool true) ∧ Below w.heap.size w w' := by
  have hse := str_beq
  have hz1 : (w.alloc (.cells #[.int .i64 v, .int .i64 snap, .int .i64 log, .int .i64 area, .int .i64 half, .int .i64 goal, .int .i64 step] 23)).heap.size = w.heap.size + 1 := by simp
  have hF := SevenF.new w ⟨v, snap, log, area, half, goal, step⟩ 23
  unfold sevenO at hF
  dsimp only at hF
  have hk := (Keep.refl (fun _ => False) (w.alloc (.cells #[.int .i64 v, .int .i64 snap, .int .i64 log, .int .i64 area, .int .i64 half, .int .i64 goal, .int .i64 step] 23))).alloc (.cells #[.int .u64 t, .int .i64 o, .int .u64 c] 26)
  have HF := Pin.Aside.mk (hF.keep hk id)
  have hH := HardF.new (w.alloc (.cells #[.int .i64 v, .int .i64 snap, .int .i64 log, .int .i64 area, .int .i64 half, .int .i64 goal, .int .i64 step] 23)) t o c 26
  rw [hz1] at hH
  have HH := Pin.Aside.mk hH
  have hb := ((Below.refl w.heap.size w).alloc (Nat.le_refl _) (.cells #[.int .i64 v, .int .i64 snap, .int .i64 log, .int .i64 area, .int .i64 half, .int .i64 goal, .int .i64 step] 23)).alloc (by simp) (.cells #[.int .u64 t, .int .i64 o, .int .u64 c] 26)
  obtain ⟨N, hN⟩ : ∃ N : Nat, 4 + n8 % 37 = (N : Int) := ⟨(4 + n8 % 37).toNat, by omega⟩
  have hN4 : 4 ≤ N ∧ N ≤ 40 := by omega
  clear hF hk hH hz1
  go_enter Tryz.func3, Tryz.ntmps3
  go_wp2_with fail
  generalize (w.alloc (.cells #[.int .i64 v, .int .i64 snap, .int .i64 log, .int .i64 area, .int .i64 half, .int .i64 goal, .int .i64 step] 23)).alloc (.cells #[.int .u64 t, .int .i64 o, .int .u64 c] 26) = w0 at *
  generalize hRR : w.heap.size = R at *
  have HRR := Pin.Aside.mk hRR
  have HS := Pin.Aside.mk (show ∀ x, Below R w x → R ≤ x.heap.size from fun x h => by have := h.size; omega)
  clear hRR
  refine (slots_examples _).mono ?_
  rintro e w1 ⟨rfl, hbb⟩
  have hk := Keep.of_below (S := fun _ => False) hbb fun _ hk _ => hk
  replace HF := Pin.Aside.mk (HF.out.keep hk id)
  replace HH := Pin.Aside.mk (HH.out.keep hk id)
  replace hb := hb.trans (hk.below (HS.out _ hb) fun _ q => q.elim)
  clear hbb hk
  go_wp2_with fail
  with_reducible refine (dev_new' N N rfl (by omega) (by omega) _).mono ?_
  rintro e w2 ⟨b, f, m, rfl, e1, e2, e3, hd2, hbb⟩
  have Hd2 := Pin.Aside.mk hd2
  have l2 := hd2.lt
  have lz := HH.out.lt
  have hk := Keep.of_below (S := fun _ => False) hbb fun _ hk _ => hk
  replace HF := Pin.Aside.mk (HF.out.keep hk id)
  replace HH := Pin.Aside.mk (HH.out.keep hk id)
  replace hb := hb.trans (hk.below (HS.out _ hb) fun _ q => q.elim)
  have z2 := hbb.size
  clear hbb hk
  clear hd2
  go_wp2_with fail
  refine (ref_new N (by omega) (by omega) _).mono ?_
  rintro e w3 ⟨r, nN, oO, vV, rfl, e4, e5, e6, e7, hr3, hbb⟩
  have hp : Pair w3 (R + 2) b f m r nN oO vV (dnew N) := by
    refine ⟨Hd2.out.below hbb, hr3, ?_, ?_, ?_⟩
    · intro k q1 q2
      unfold devS at q1
      unfold refS at q2
      omega
    · intro k q1
      unfold devS at q1
      omega
    · intro k q1
      unfold refS at q1
      omega
  have Hp := Pin.Aside.mk hp
  have hk := Keep.of_below (S := fun _ => False) hbb fun _ hk _ => hk
  replace HF := Pin.Aside.mk (HF.out.keep hk id)
  replace HH := Pin.Aside.mk (HH.out.keep hk id)
  replace hb := hb.trans (hk.below (HS.out _ hb) fun _ q => q.elim)
  clear hbb hk
  clear hr3 hp e1 e2 e3 e4 e5 e6 e7 Hd2 l2 lz z2
  cases own
  case false =>
    go_upto_region 15 with fail
    obtain ⟨⟨e1, D1⟩, hD1⟩ : ∃ r, suwrite (dnew N) 0 a = r := ⟨_, rfl⟩
    have hw1 := fun W hW => super_write b f m (dnew N) 0 a (by decide) (Nat.le_trans ha (by decide)) W hW
    have hw2 := fun W hW => superref_write r nN oO vV (dnew N) 0 a (by decide) (Nat.le_trans ha (by decide)) W hW
    rw [hD1] at hw1 hw2
    have Hw1 := Pin.Aside.mk hw1
    have Hw2 := Pin.Aside.mk hw2
    clear hw1 hw2 hD1
    go_wp2_with fail
    with_reducible refine (Hw1.out _ Hp.out.dev).mono ?_
    rintro e wa1 ⟨rfl, hd, hk1⟩
    have Hd := Pin.Aside.mk hd
    have Hr := Pin.Aside.mk (ref_off Hp.out.ref hk1 fun k q1 q2 => Hp.out.apart k q2 q1)
    have Hk1 := Pin.Aside.mk hk1
    clear hd hk1
    go_wp2_with fail
    with_reducible refine (Hw2.out _ Hr.out).mono ?_
    rintro e wb1 ⟨rfl, hr, hk2⟩
    have kt : Keep (fun j => R + 2 ≤ j) w3 wb1 := (Hk1.out.mono Hp.out.low1).trans (hk2.mono Hp.out.low2)
    replace Hp := Pin.Aside.mk (Hp.out.step Hd.out Hk1.out hr hk2)
    replace HF := Pin.Aside.mk (HF.out.keep kt (by show ¬ (R + 2 ≤ R); omega))
    replace HH := Pin.Aside.mk (HH.out.keep kt (by show ¬ (R + 2 ≤ R + 1); omega))
    replace hb := hb.trans (kt.below (HS.out _ hb) fun j hj => by omega)
    clear kt hr hk2 Hd Hr Hk1
    clear Hw1 Hw2
    obtain ⟨⟨e2, D2⟩, hD2⟩ : ∃ r, suwrite D1 2 b' = r := ⟨_, rfl⟩
    have hw1 := fun W hW => super_write b f m D1 2 b' (by decide) (Nat.le_trans hb' (by decide)) W hW
    have hw2 := fun W hW => superref_write r nN oO vV D1 2 b' (by decide) (Nat.le_trans hb' (by decide)) W hW
    rw [hD2] at hw1 hw2
    have Hw1 := Pin.Aside.mk hw1
    have Hw2 := Pin.Aside.mk hw2
    clear hw1 hw2 hD2
    go_wp2_with fail
    with_reducible refine (Hw1.out _ Hp.out.dev).mono ?_
    rintro e wa2 ⟨rfl, hd, hk1⟩
    have Hd := Pin.Aside.mk hd
    have Hr := Pin.Aside.mk (ref_off Hp.out.ref hk1 fun k q1 q2 => Hp.out.apart k q2 q1)
    have Hk1 := Pin.Aside.mk hk1
    clear hd hk1
    go_wp2_with fail
    with_reducible refine (Hw2.out _ Hr.out).mono ?_
    rintro e wb2 ⟨rfl, hr, hk2⟩
    have kt : Keep (fun j => R + 2 ≤ j) wb1 wb2 := (Hk1.out.mono Hp.out.low1).trans (hk2.mono Hp.out.low2)
    replace Hp := Pin.Aside.mk (Hp.out.step Hd.out Hk1.out hr hk2)
    replace HF := Pin.Aside.mk (HF.out.keep kt (by show ¬ (R + 2 ≤ R); omega))
    replace HH := Pin.Aside.mk (HH.out.keep kt (by show ¬ (R + 2 ≤ R + 1); omega))
    replace hb := hb.trans (kt.below (HS.out _ hb) fun j hj => by omega)
    clear kt hr hk2 Hd Hr Hk1
    clear Hw1 Hw2
    go_wp2_with fail
    with_reducible refine (dev_arm b f m D2 after hafter _ Hp.out.dev).mono ?_
    rintro e wa3 ⟨rfl, hd, hk1⟩
    have Hd := Pin.Aside.mk hd
    have Hr := Pin.Aside.mk (ref_off Hp.out.ref hk1 fun k q1 q2 => Hp.out.apart k q2 q1)
    have Hk1 := Pin.Aside.mk hk1
    clear hd hk1
    go_wp2_with fail
    with_reducible refine (ref_arm r nN oO vV D2 after hafter _ Hr.out).mono ?_
    rintro e wb3 ⟨rfl, hr, hk2⟩
    have kt : Keep (fun j => R + 2 ≤ j) wb2 wb3 := (Hk1.out.mono Hp.out.low1).trans (hk2.mono Hp.out.low2)
    replace Hp := Pin.Aside.mk (Hp.out.step Hd.out Hk1.out hr hk2)
    replace HF := Pin.Aside.mk (HF.out.keep kt (by show ¬ (R + 2 ≤ R); omega))
    replace HH := Pin.Aside.mk (HH.out.keep kt (by show ¬ (R + 2 ≤ R + 1); omega))
    replace hb := hb.trans (kt.below (HS.out _ hb) fun j hj => by omega)
    clear kt hr hk2 Hd Hr Hk1
    obtain ⟨D3, hD3⟩ : ∃ x, darm D2 after = x := ⟨_, rfl⟩
    rw [hD3] at Hp
    clear hD3
    obtain ⟨⟨⟨s0, s1, s2, s3, s4, s5, s6⟩, ⟨t0, t1, t2⟩, el⟩, hL⟩ : ∃ r, sloadW D3 = r := ⟨_, rfl⟩
    have hl1 := fun W hW => slots_load b f m D3 W hW
    have hl2 := fun W hW => slotsref_load r nN oO vV D3 W hW
    rw [hL] at hl1 hl2
    have Hl1 := Pin.Aside.mk (show ∀ W, DevAt W b f m D3 → Calls Tryz.prog 16 #[.pointer (some ⟨b, 0, none⟩)] W fun e w' => e = .returned (.tuple #[.agg #[.int .i64 s0, .int .i64 s1, .int .i64 s2, .int .i64 s3, .int .i64 s4, .int .i64 s5, .int .i64 s6], .agg #[.int .u64 t0, .int .i64 t1, .int .u64 t2], .int .i64 el]) ∧ Below W.heap.size W w' from hl1)
    have Hl2 := Pin.Aside.mk (show ∀ W, RefAt W r nN oO vV D3 → Calls Tryz.prog 17 #[.pointer (some ⟨r, 0, none⟩)] W fun e w' => e = .returned (.tuple #[.agg #[.int .i64 s0, .int .i64 s1, .int .i64 s2, .int .i64 s3, .int .i64 s4, .int .i64 s5, .int .i64 s6], .agg #[.int .u64 t0, .int .i64 t1, .int .u64 t2], .int .i64 el]) ∧ Below W.heap.size W w' from hl2)
    clear hl1 hl2 hL
    go_wp2_with fail
    with_reducible refine (Hl1.out _ Hp.out.dev).mono ?_
    rintro e w5 ⟨rfl, hbb⟩
    have hk := ((Keep.of_below (S := fun _ => False) hbb fun _ hk _ => hk).alloc (.cells #[.int .i64 s0, .int .i64 s1, .int .i64 s2, .int .i64 s3, .int .i64 s4, .int .i64 s5, .int .i64 s6] 23)).alloc (.cells #[.int .u64 t0, .int .i64 t1, .int .u64 t2] 26)
    have hP := (SevenAt.new w5 ⟨s0, s1, s2, s3, s4, s5, s6⟩ 23).keep ((Keep.refl (fun _ => False) _).alloc (.cells #[.int .u64 t0, .int .i64 t1, .int .u64 t2] 26)) id
    have hz : (w5.alloc (.cells #[.int .i64 s0, .int .i64 s1, .int .i64 s2, .int .i64 s3, .int .i64 s4, .int .i64 s5, .int .i64 s6] 23)).heap.size = w5.heap.size + 1 := by simp
    have hQ := HardF.new (w5.alloc (.cells #[.int .i64 s0, .int .i64 s1, .int .i64 s2, .int .i64 s3, .int .i64 s4, .int .i64 s5, .int .i64 s6] 23)) t0 t1 t2 26
    rw [hz] at hQ
    unfold sevenO at hP
    dsimp only at hP
    have HP := Pin.Aside.mk hP
    have HPh := Pin.Aside.mk hQ
    replace HF := Pin.Aside.mk (HF.out.keep hk id)
    replace HH := Pin.Aside.mk (HH.out.keep hk id)
    have HpB := Pin.Aside.mk (Hp.out.below hbb)
    replace Hp := Pin.Aside.mk (show Pair ((w5.alloc (.cells #[.int .i64 s0, .int .i64 s1, .int .i64 s2, .int .i64 s3, .int .i64 s4, .int .i64 s5, .int .i64 s6] 23)).alloc (.cells #[.int .u64 t0, .int .i64 t1, .int .u64 t2] 26)) (R + 2) b f m r nN oO vV D3 from ⟨Hp.out.dev.keep hk ⟨id, id, id⟩, Hp.out.ref.keep hk ⟨id, id, id, id⟩, Hp.out.apart, Hp.out.low1, Hp.out.low2⟩)
    replace hb := hb.trans (hk.below (HS.out _ hb) fun _ q => q.elim)
    have lP := hQ.lt
    have NP := Pin.Aside.mk (show ∀ j, w5.heap.size ≤ j → ¬ (devS b f m j ∨ refS r nN oO vV j) from fun j hj q => by rcases q with q | q; have := (HpB.out).lt1 q; omega; have := (HpB.out).lt2 q; omega)
    clear hbb hk hP hQ hz HpB Hl1
    go_upto_region 20 with fail
    generalize ((w5.alloc (.cells #[.int .i64 s0, .int .i64 s1, .int .i64 s2, .int .i64 s3, .int .i64 s4, .int .i64 s5, .int .i64 s6] 23)).alloc (.cells #[.int .u64 t0, .int .i64 t1, .int .u64 t2] 26)) = v5 at *
    generalize w5.heap.size = P at *
    go_wp2_with fail
    with_reducible refine (Hl2.out _ Hp.out.ref).mono ?_
    rintro e w6 ⟨rfl, hbb⟩
    have hk := ((Keep.of_below (S := fun _ => False) hbb fun _ hk _ => hk).alloc (.cells #[.int .i64 s0, .int .i64 s1, .int .i64 s2, .int .i64 s3, .int .i64 s4, .int .i64 s5, .int .i64 s6] 37)).alloc (.cells #[.int .u64 t0, .int .i64 t1, .int .u64 t2] 40)
    have hP := (SevenAt.new w6 ⟨s0, s1, s2, s3, s4, s5, s6⟩ 37).keep ((Keep.refl (fun _ => False) _).alloc (.cells #[.int .u64 t0, .int .i64 t1, .int .u64 t2] 40)) id
    have hz : (w6.alloc (.cells #[.int .i64 s0, .int .i64 s1, .int .i64 s2, .int .i64 s3, .int .i64 s4, .int .i64 s5, .int .i64 s6] 37)).heap.size = w6.heap.size + 1 := by simp
    have hQ := HardF.new (w6.alloc (.cells #[.int .i64 s0, .int .i64 s1, .int .i64 s2, .int .i64 s3, .int .i64 s4, .int .i64 s5, .int .i64 s6] 37)) t0 t1 t2 40
    rw [hz] at hQ
    unfold sevenO at hP
    dsimp only at hP
    have HQ := Pin.Aside.mk hP
    have HQh := Pin.Aside.mk hQ
    replace HF := Pin.Aside.mk (HF.out.keep hk id)
    replace HH := Pin.Aside.mk (HH.out.keep hk id)
    replace HP := Pin.Aside.mk (HP.out.keep hk id)
    replace HPh := Pin.Aside.mk (HPh.out.keep hk id)
    have HpB := Pin.Aside.mk (Hp.out.below hbb)
    replace Hp := Pin.Aside.mk (show Pair ((w6.alloc (.cells #[.int .i64 s0, .int .i64 s1, .int .i64 s2, .int .i64 s3, .int .i64 s4, .int .i64 s5, .int .i64 s6] 37)).alloc (.cells #[.int .u64 t0, .int .i64 t1, .int .u64 t2] 40)) (R + 2) b f m r nN oO vV D3 from ⟨Hp.out.dev.keep hk ⟨id, id, id⟩, Hp.out.ref.keep hk ⟨id, id, id, id⟩, Hp.out.apart, Hp.out.low1, Hp.out.low2⟩)
    replace hb := hb.trans (hk.below (HS.out _ hb) fun _ q => q.elim)
    have lQ := hQ.lt
    have hPQ := hbb.size
    clear hbb hk hP hQ hz HpB Hl2
    go_upto_region 21 with fail
    generalize ((w6.alloc (.cells #[.int .i64 s0, .int .i64 s1, .int .i64 s2, .int .i64 s3, .int .i64 s4, .int .i64 s5, .int .i64 s6] 37)).alloc (.cells #[.int .u64 t0, .int .i64 t1, .int .u64 t2] 40)) = v6 at *
    generalize w6.heap.size = Q at *
    have NR := Pin.Aside.mk (show ∀ j, j < R + 2 → ¬ (devS b f m j ∨ refS r nN oO vV j) from fun j hj q => by rcases q with q | q; have := Hp.out.low1 j q; omega; have := Hp.out.low2 j q; omega)
    obtain ⟨⟨e4, D4⟩, hD4⟩ : ∃ x, ssetW D3 ⟨v, snap, log, area, half, goal, step⟩ = x := ⟨_, rfl⟩
    obtain ⟨⟨e5, D5⟩, hD5⟩ : ∃ x, shardW D4 v ⟨t, o, c⟩ = x := ⟨_, rfl⟩
    have h41 := fun W hW => slots_setsuper b f m D3 ⟨v, snap, log, area, half, goal, step⟩ W hW
    have h42 := fun W hW => slotsref_setsuper r nN oO vV D3 ⟨v, snap, log, area, half, goal, step⟩ W hW
    have h51 := fun W hW => slots_sethard b f m D4 v t o c ht hc W hW
    have h52 := fun W hW => slotsref_sethard r nN oO vV D4 v t o c ht hc W hW
    rw [hD4] at h41 h42
    rw [hD5] at h51 h52
    have H41 := Pin.Aside.mk h41
    have H42 := Pin.Aside.mk h42
    have H51 := Pin.Aside.mk h51
    have H52 := Pin.Aside.mk h52
    clear h41 h42 h51 h52 hD4 hD5
    obtain ⟨c0, c1, c2, c3, c4, c5, c6⟩ := HF.out.at'
    dsimp only at c0 c1 c2 c3 c4 c5 c6
    go_region_held3 (fun w' => w'.cell? ⟨R, 0, none⟩ = some (.int .i64 v) ∧ w'.cell? ⟨R, 1, none⟩ = some (.int .i64 snap) ∧ w'.cell? ⟨R, 2, none⟩ = some (.int .i64 log) ∧ w'.cell? ⟨R, 3, none⟩ = some (.int .i64 area) ∧ w'.cell? ⟨R, 4, none⟩ = some (.int .i64 half) ∧ w'.cell? ⟨R, 5, none⟩ = some (.int .i64 goal) ∧ w'.cell? ⟨R, 6, none⟩ = some (.int .i64 step)) (first | go_keep | exact hqa | exact hqb | exact hqc) (first
      | (go_at_call 18
         with_reducible refine (H41.out _ Hp.out.dev.drew).mono ?_
         rintro e wx11 ⟨rfl, hd1, hk1⟩
         have ka := Keep.trans ((Keep.refl (devS b f m) v6).drew) hk1
         have hqa : wx11.cell? ⟨R, 0, none⟩ = some (.int .i64 v) ∧ wx11.cell? ⟨R, 1, none⟩ = some (.int .i64 snap) ∧ wx11.cell? ⟨R, 2, none⟩ = some (.int .i64 log) ∧ wx11.cell? ⟨R, 3, none⟩ = some (.int .i64 area) ∧ wx11.cell? ⟨R, 4, none⟩ = some (.int .i64 half) ∧ wx11.cell? ⟨R, 5, none⟩ = some (.int .i64 goal) ∧ wx11.cell? ⟨R, 6, none⟩ = some (.int .i64 step) := ⟨ka.cell c0 (fun q => NR.out R (by omega) (.inl q)), ka.cell c1 (fun q => NR.out R (by omega) (.inl q)), ka.cell c2 (fun q => NR.out R (by omega) (.inl q)), ka.cell c3 (fun q => NR.out R (by omega) (.inl q)), ka.cell c4 (fun q => NR.out R (by omega) (.inl q)), ka.cell c5 (fun q => NR.out R (by omega) (.inl q)), ka.cell c6 (fun q => NR.out R (by omega) (.inl q))⟩
         have Hd1 := Pin.Aside.mk hd1
         have Hr1 := Pin.Aside.mk (ref_off Hp.out.ref ka fun k q1 q2 => Hp.out.apart k q2 q1)
         have Ka := Pin.Aside.mk ka
         clear hd1 hk1 ka)
      | (go_at_call 9
         with_reducible refine (slots_ref v snap log area half goal step _).mono ?_
         rintro e wx12 ⟨rfl, hbr⟩
         have kb := Keep.of_below (S := fun _ => False) hbr fun _ h _ => h
         have hqb : wx12.cell? ⟨R, 0, none⟩ = some (.int .i64 v) ∧ wx12.cell? ⟨R, 1, none⟩ = some (.int .i64 snap) ∧ wx12.cell? ⟨R, 2, none⟩ = some (.int .i64 log) ∧ wx12.cell? ⟨R, 3, none⟩ = some (.int .i64 area) ∧ wx12.cell? ⟨R, 4, none⟩ = some (.int .i64 half) ∧ wx12.cell? ⟨R, 5, none⟩ = some (.int .i64 goal) ∧ wx12.cell? ⟨R, 6, none⟩ = some (.int .i64 step) := ⟨kb.cell hqa.1 id, kb.cell hqa.2.1 id, kb.cell hqa.2.2.1 id, kb.cell hqa.2.2.2.1 id, kb.cell hqa.2.2.2.2.1 id, kb.cell hqa.2.2.2.2.2.1 id, kb.cell hqa.2.2.2.2.2.2 id⟩
         have Hd2 := Pin.Aside.mk (Hd1.out.below hbr)
         have Hr2 := Pin.Aside.mk (Hr1.out.below hbr)
         have Kb := Pin.Aside.mk kb
         clear hbr kb)
      | (go_at_call 19
         with_reducible refine (H42.out _ Hr2.out).mono ?_
         rintro e wx13 ⟨rfl, hr3, hk3⟩
         have hqc : wx13.cell? ⟨R, 0, none⟩ = some (.int .i64 v) ∧ wx13.cell? ⟨R, 1, none⟩ = some (.int .i64 snap) ∧ wx13.cell? ⟨R, 2, none⟩ = some (.int .i64 log) ∧ wx13.cell? ⟨R, 3, none⟩ = some (.int .i64 area) ∧ wx13.cell? ⟨R, 4, none⟩ = some (.int .i64 half) ∧ wx13.cell? ⟨R, 5, none⟩ = some (.int .i64 goal) ∧ wx13.cell? ⟨R, 6, none⟩ = some (.int .i64 step) := ⟨hk3.cell hqb.1 (fun q => NR.out R (by omega) (.inr q)), hk3.cell hqb.2.1 (fun q => NR.out R (by omega) (.inr q)), hk3.cell hqb.2.2.1 (fun q => NR.out R (by omega) (.inr q)), hk3.cell hqb.2.2.2.1 (fun q => NR.out R (by omega) (.inr q)), hk3.cell hqb.2.2.2.2.1 (fun q => NR.out R (by omega) (.inr q)), hk3.cell hqb.2.2.2.2.2.1 (fun q => NR.out R (by omega) (.inr q)), hk3.cell hqb.2.2.2.2.2.2 (fun q => NR.out R (by omega) (.inr q))⟩
         have Hr3 := Pin.Aside.mk hr3
         have Kc := Pin.Aside.mk hk3
         clear hr3 hk3))
    have kt : Keep (fun j => devS b f m j ∨ refS r nN oO vV j) v6 wx13 := ((Ka.out.mono fun _ q => .inl q).trans (Kb.out.mono fun _ q => q.elim)).trans (Kc.out.mono fun _ q => .inr q)
    replace Hp := Pin.Aside.mk (show Pair wx13 (R + 2) b f m r nN oO vV _ from ⟨dev_off Hd2.out Kc.out Hp.out.apart, Hr3.out, Hp.out.apart, Hp.out.low1, Hp.out.low2⟩)
    replace HF := Pin.Aside.mk (HF.out.keep kt (NR.out R (by omega)))
    replace HH := Pin.Aside.mk (HH.out.keep kt (NR.out (R + 1) (by omega)))
    replace HP := Pin.Aside.mk (HP.out.keep kt (NP.out P (by omega)))
    replace HPh := Pin.Aside.mk (HPh.out.keep kt (NP.out (P + 1) (by omega)))
    replace HQ := Pin.Aside.mk (HQ.out.keep kt (NP.out Q (by omega)))
    replace HQh := Pin.Aside.mk (HQh.out.keep kt (NP.out (Q + 1) (by omega)))
    replace hb := hb.trans (kt.below (HS.out _ hb) fun j hj => by rcases hj with q | q; have := Hp.out.low1 j q; omega; have := Hp.out.low2 j q; omega)
    clear kt hqa hqb hqc Ka Kb Kc Hd1 Hd2 Hr1 Hr2 Hr3 c0 c1 c2 c3 c4 c5 c6
    have hcc4 : (e4 == e4) = true := by simp
    go_upto_region 22 with fail
    have c0 := HF.out.at'.c0
    dsimp only at c0
    obtain ⟨x0, x1, x2⟩ := HH.out.at'
    go_region_held3 (fun w' => w'.cell? ⟨R, 0, none⟩ = some (.int .i64 v) ∧ w'.cell? ⟨R + 1, 0, none⟩ = some (.int .u64 t) ∧ w'.cell? ⟨R + 1, 1, none⟩ = some (.int .i64 o) ∧ w'.cell? ⟨R + 1, 2, none⟩ = some (.int .u64 c)) (first | go_keep | exact hqa | exact hqb | exact hqc) (first
      | (go_at_call 20
         with_reducible refine (H51.out _ Hp.out.dev.drew).mono ?_
         rintro e wx21 ⟨rfl, hd1, hk1⟩
         have ka := Keep.trans ((Keep.refl (devS b f m) wx13).drew) hk1
         have hqa : wx21.cell? ⟨R, 0, none⟩ = some (.int .i64 v) ∧ wx21.cell? ⟨R + 1, 0, none⟩ = some (.int .u64 t) ∧ wx21.cell? ⟨R + 1, 1, none⟩ = some (.int .i64 o) ∧ wx21.cell? ⟨R + 1, 2, none⟩ = some (.int .u64 c) := ⟨ka.cell c0 (fun q => NR.out R (by omega) (.inl q)), ka.cell x0 (fun q => NR.out (R + 1) (by omega) (.inl q)), ka.cell x1 (fun q => NR.out (R + 1) (by omega) (.inl q)), ka.cell x2 (fun q => NR.out (R + 1) (by omega) (.inl q))⟩
         have Hd1 := Pin.Aside.mk hd1
         have Hr1 := Pin.Aside.mk (ref_off Hp.out.ref ka fun k q1 q2 => Hp.out.apart k q2 q1)
         have Ka := Pin.Aside.mk ka
         clear hd1 hk1 ka)
      | (go_at_call 11
         with_reducible refine (slots_refHard t o c _).mono ?_
         rintro e wx22 ⟨rfl, hbr⟩
         have kb := Keep.of_below (S := fun _ => False) hbr fun _ h _ => h
         have hqb : wx22.cell? ⟨R, 0, none⟩ = some (.int .i64 v) ∧ wx22.cell? ⟨R + 1, 0, none⟩ = some (.int .u64 t) ∧ wx22.cell? ⟨R + 1, 1, none⟩ = some (.int .i64 o) ∧ wx22.cell? ⟨R + 1, 2, none⟩ = some (.int .u64 c) := ⟨kb.cell hqa.1 id, kb.cell hqa.2.1 id, kb.cell hqa.2.2.1 id, kb.cell hqa.2.2.2 id⟩
         have Hd2 := Pin.Aside.mk (Hd1.out.below hbr)
         have Hr2 := Pin.Aside.mk (Hr1.out.below hbr)
         have Kb := Pin.Aside.mk kb
         clear hbr kb)
      | (go_at_call 21
         with_reducible refine (H52.out _ Hr2.out).mono ?_
         rintro e wx23 ⟨rfl, hr3, hk3⟩
         have hqc : wx23.cell? ⟨R, 0, none⟩ = some (.int .i64 v) ∧ wx23.cell? ⟨R + 1, 0, none⟩ = some (.int .u64 t) ∧ wx23.cell? ⟨R + 1, 1, none⟩ = some (.int .i64 o) ∧ wx23.cell? ⟨R + 1, 2, none⟩ = some (.int .u64 c) := ⟨hk3.cell hqb.1 (fun q => NR.out R (by omega) (.inr q)), hk3.cell hqb.2.1 (fun q => NR.out (R + 1) (by omega) (.inr q)), hk3.cell hqb.2.2.1 (fun q => NR.out (R + 1) (by omega) (.inr q)), hk3.cell hqb.2.2.2 (fun q => NR.out (R + 1) (by omega) (.inr q))⟩
         have Hr3 := Pin.Aside.mk hr3
         have Kc := Pin.Aside.mk hk3
         clear hr3 hk3))
    have kt : Keep (fun j => devS b f m j ∨ refS r nN oO vV j) wx13 wx23 := ((Ka.out.mono fun _ q => .inl q).trans (Kb.out.mono fun _ q => q.elim)).trans (Kc.out.mono fun _ q => .inr q)
    replace Hp := Pin.Aside.mk (show Pair wx23 (R + 2) b f m r nN oO vV _ from ⟨dev_off Hd2.out Kc.out Hp.out.apart, Hr3.out, Hp.out.apart, Hp.out.low1, Hp.out.low2⟩)
    replace HF := Pin.Aside.mk (HF.out.keep kt (NR.out R (by omega)))
    replace HH := Pin.Aside.mk (HH.out.keep kt (NR.out (R + 1) (by omega)))
    replace HP := Pin.Aside.mk (HP.out.keep kt (NP.out P (by omega)))
    replace HPh := Pin.Aside.mk (HPh.out.keep kt (NP.out (P + 1) (by omega)))
    replace HQ := Pin.Aside.mk (HQ.out.keep kt (NP.out Q (by omega)))
    replace HQh := Pin.Aside.mk (HQh.out.keep kt (NP.out (Q + 1) (by omega)))
    replace hb := hb.trans (kt.below (HS.out _ hb) fun j hj => by rcases hj with q | q; have := Hp.out.low1 j q; omega; have := Hp.out.low2 j q; omega)
    clear kt hqa hqb hqc Ka Kb Kc Hd1 Hd2 Hr1 Hr2 Hr3 c0 x0 x1 x2
    have hcc5 : (e5 == e5) = true := by simp
    go_upto_region 23 with fail
    have p0 : ∀ s' : KW (fun _ => False) wx23, s'.w.cell? ⟨P, 0, none⟩ = some (.int .i64 s0) := fun s' => s'.keep.cell HP.out.c0 id
    have q0 : ∀ s' : KW (fun _ => False) wx23, s'.w.cell? ⟨Q, 0, none⟩ = some (.int .i64 s0) := fun s' => s'.keep.cell HQ.out.c0 id
    have p1 : ∀ s' : KW (fun _ => False) wx23, s'.w.cell? ⟨P, 1, none⟩ = some (.int .i64 s1) := fun s' => s'.keep.cell HP.out.c1 id
    have q1 : ∀ s' : KW (fun _ => False) wx23, s'.w.cell? ⟨Q, 1, none⟩ = some (.int .i64 s1) := fun s' => s'.keep.cell HQ.out.c1 id
    have p2 : ∀ s' : KW (fun _ => False) wx23, s'.w.cell? ⟨P, 2, none⟩ = some (.int .i64 s2) := fun s' => s'.keep.cell HP.out.c2 id
    have q2 : ∀ s' : KW (fun _ => False) wx23, s'.w.cell? ⟨Q, 2, none⟩ = some (.int .i64 s2) := fun s' => s'.keep.cell HQ.out.c2 id
    have p3 : ∀ s' : KW (fun _ => False) wx23, s'.w.cell? ⟨P, 3, none⟩ = some (.int .i64 s3) := fun s' => s'.keep.cell HP.out.c3 id
    have q3 : ∀ s' : KW (fun _ => False) wx23, s'.w.cell? ⟨Q, 3, none⟩ = some (.int .i64 s3) := fun s' => s'.keep.cell HQ.out.c3 id
    have p4 : ∀ s' : KW (fun _ => False) wx23, s'.w.cell? ⟨P, 4, none⟩ = some (.int .i64 s4) := fun s' => s'.keep.cell HP.out.c4 id
    have q4 : ∀ s' : KW (fun _ => False) wx23, s'.w.cell? ⟨Q, 4, none⟩ = some (.int .i64 s4) := fun s' => s'.keep.cell HQ.out.c4 id
    have p5 : ∀ s' : KW (fun _ => False) wx23, s'.w.cell? ⟨P, 5, none⟩ = some (.int .i64 s5) := fun s' => s'.keep.cell HP.out.c5 id
    have q5 : ∀ s' : KW (fun _ => False) wx23, s'.w.cell? ⟨Q, 5, none⟩ = some (.int .i64 s5) := fun s' => s'.keep.cell HQ.out.c5 id
    have p6 : ∀ s' : KW (fun _ => False) wx23, s'.w.cell? ⟨P, 6, none⟩ = some (.int .i64 s6) := fun s' => s'.keep.cell HP.out.c6 id
    have q6 : ∀ s' : KW (fun _ => False) wx23, s'.w.cell? ⟨Q, 6, none⟩ = some (.int .i64 s6) := fun s' => s'.keep.cell HQ.out.c6 id
    have i0 : ∀ s' : KW (fun _ => False) wx23, s'.w.cell? ⟨P + 1, 0, none⟩ = some (.int .u64 t0) := fun s' => s'.keep.cell HPh.out.at'.c0 id
    have j0 : ∀ s' : KW (fun _ => False) wx23, s'.w.cell? ⟨Q + 1, 0, none⟩ = some (.int .u64 t0) := fun s' => s'.keep.cell HQh.out.at'.c0 id
    have i1 : ∀ s' : KW (fun _ => False) wx23, s'.w.cell? ⟨P + 1, 1, none⟩ = some (.int .i64 t1) := fun s' => s'.keep.cell HPh.out.at'.c1 id
    have j1 : ∀ s' : KW (fun _ => False) wx23, s'.w.cell? ⟨Q + 1, 1, none⟩ = some (.int .i64 t1) := fun s' => s'.keep.cell HQh.out.at'.c1 id
    have i2 : ∀ s' : KW (fun _ => False) wx23, s'.w.cell? ⟨P + 1, 2, none⟩ = some (.int .u64 t2) := fun s' => s'.keep.cell HPh.out.at'.c2 id
    have j2 : ∀ s' : KW (fun _ => False) wx23, s'.w.cell? ⟨Q + 1, 2, none⟩ = some (.int .u64 t2) := fun s' => s'.keep.cell HQh.out.at'.c2 id
    obtain ⟨I, hI⟩ : ∃ I, dimage D5 = I := ⟨_, rfl⟩
    have HD := Pin.Aside.mk (show ∀ s' : KW (fun _ => False) wx23, DevAt s'.w b f m D5 from fun s' => Hp.out.dev.keep s'.keep ⟨id, id, id⟩)
    have HRf := Pin.Aside.mk (show ∀ s' : KW (fun _ => False) wx23, RefAt s'.w r nN oO vV D5 from fun s' => Hp.out.ref.keep s'.keep ⟨id, id, id, id⟩)
    have Q1 := Pin.Aside.mk (show ∀ s' : KW (fun _ => False) wx23, Calls Tryz.prog 22 #[.pointer (some ⟨b, 0, none⟩)] s'.w fun e w' => e = .returned (.string I) ∧ Below s'.w.heap.size s'.w w' from fun s' => dev_image' b f m D5 I hI s'.w (HD.out s'))
    have Q2 := Pin.Aside.mk (show ∀ s' : KW (fun _ => False) wx23, Calls Tryz.prog 23 #[.pointer (some ⟨r, 0, none⟩)] s'.w fun e w' => e = .returned (.string I) ∧ Below s'.w.heap.size s'.w w' from fun s' => by
      have := ref_image r nN oO vV D5 s'.w (HRf.out s')
      rw [hI] at this
      exact this.mono fun e w' ⟨h1, h2⟩ => ⟨h1, by rw [h2]; exact Below.refl _ _⟩)
    clear hI
    refine wp_region_keep (fun _ => False) (by kernel_rfl) (by kernel_rfl) ?_
    repeat (go_big_quiet_step ((first | (go_at_call 11; exact KW.calls (slots_refHard t0 t1 t2 _)) | (go_at_call 9; exact KW.calls (slots_ref s0 s1 s2 s3 s4 s5 s6 _)) | (go_at_call 22; exact KW.calls (Q1.out _)) | (go_at_call 23; exact KW.calls (Q2.out _)))))
    refine wpQuiet_nil ?_
    intro s4
    replace hb := hb.trans (s4.keep.below (HS.out _ hb) fun _ q => q.elim)
    clear p0 q0 p1 q1 p2 q2 p3 q3 p4 q4 p5 q5 p6 q6 i0 j0 i1 j1 i2 j2 Q1 Q2 HD HRf
    go_wp2_with fail
    go_ret
    exact ⟨rfl, by rw [HRR.out]; exact hb⟩
  case true =>
    go_upto_region 10 with fail
    obtain ⟨c0, c1, c2, c3, c4, c5, c6⟩ := HF.out.at'
    dsimp only at c0 c1 c2 c3 c4 c5 c6
    go_wp2_with fail
    refine (slots_small v snap log area half goal step _).mono ?_
    rintro e w4 ⟨rfl, hbb⟩
    clear c0 c1 c2 c3 c4 c5 c6
    replace Hp := Pin.Aside.mk (Hp.out.below hbb)
    have hk := Keep.of_below (S := fun _ => False) hbb fun _ hk _ => hk
    replace HF := Pin.Aside.mk (HF.out.keep hk id)
    replace HH := Pin.Aside.mk (HH.out.keep hk id)
    replace hb := hb.trans (hk.below (HS.out _ hb) fun _ q => q.elim)
    clear hbb hk
    obtain ⟨y0, hy0⟩ : ∃ y : Int, v.tmod 4 = y := ⟨_, rfl⟩
    rw [hy0]
    obtain ⟨y1, hy1⟩ : ∃ y : Int, snap.tmod 1003 = y := ⟨_, rfl⟩
    rw [hy1]
    obtain ⟨y2, hy2⟩ : ∃ y : Int, log.tmod 1003 = y := ⟨_, rfl⟩
    rw [hy2]
    obtain ⟨y3, hy3⟩ : ∃ y : Int, area.tmod 3 = y := ⟨_, rfl⟩
    rw [hy3]
    obtain ⟨y4, hy4⟩ : ∃ y : Int, half.tmod 3 = y := ⟨_, rfl⟩
    rw [hy4]
    obtain ⟨y5, hy5⟩ : ∃ y : Int, goal.tmod 4 = y := ⟨_, rfl⟩
    rw [hy5]
    obtain ⟨y6, hy6⟩ : ∃ y : Int, step.tmod 11 = y := ⟨_, rfl⟩
    rw [hy6]
    clear hy0 hy1 hy2 hy3 hy4 hy5 hy6
    obtain ⟨c0, c1, c2, c3, c4, c5, c6⟩ := HF.out.at'
    dsimp only at c0 c1 c2 c3 c4 c5 c6
    have f0 := HF.out.fr 0 (by omega)
    have f1 := HF.out.fr 1 (by omega)
    have f2 := HF.out.fr 2 (by omega)
    have f3 := HF.out.fr 3 (by omega)
    have f4 := HF.out.fr 4 (by omega)
    have f5 := HF.out.fr 5 (by omega)
    have f6 := HF.out.fr 6 (by omega)
    obtain ⟨z1, hz1⟩ : ∃ y : Int, y1.tmod 9 = y := ⟨_, rfl⟩
    obtain ⟨z2, hz2⟩ : ∃ y : Int, y2.tmod 9 = y := ⟨_, rfl⟩
    go_upto_region 13 with fail
    have hne2 : ¬ R = R + 1 := by omega
    have hkr := (((((((((Keep.refl (fun j => j = R) w4).setCell (p := ⟨R, 0, none⟩) (.inl rfl) (Value.int .i64 y0)).setCell (p := ⟨R, 1, none⟩) (.inl rfl) (Value.int .i64 y1)).setCell (p := ⟨R, 2, none⟩) (.inl rfl) (Value.int .i64 y2)).setCell (p := ⟨R, 3, none⟩) (.inl rfl) (Value.int .i64 y3)).setCell (p := ⟨R, 4, none⟩) (.inl rfl) (Value.int .i64 y4)).setCell (p := ⟨R, 5, none⟩) (.inl rfl) (Value.int .i64 y5)).setCell (p := ⟨R, 6, none⟩) (.inl rfl) (Value.int .i64 y6)).setCell (p := ⟨R, 1, none⟩) (.inl rfl) (Value.int .i64 z1)).setCell (p := ⟨R, 2, none⟩) (.inl rfl) (Value.int .i64 z2)
    replace HF := Pin.Aside.mk (((HF.out.put y0 y1 y2 y3 y4 y5 y6).snap z1).log z2)
    replace HH := Pin.Aside.mk (HH.out.keep hkr (by omega))
    replace Hp := Pin.Aside.mk (Hp.out.offK hkr (by omega))
    replace hb := hb.trans (hkr.below (HS.out _ hb) fun j hj => by omega)
    unfold set7 at HF
    dsimp only at HF
    clear c0 c1 c2 c3 c4 c5 c6 f0 f1 f2 f3 f4 f5 f6 hz1 hz2 hkr
    generalize (((((((((w4.setCell ⟨R, 0, none⟩ (Value.int .i64 y0)).setCell ⟨R, 1, none⟩ (Value.int .i64 y1)).setCell ⟨R, 2, none⟩ (Value.int .i64 y2)).setCell ⟨R, 3, none⟩ (Value.int .i64 y3)).setCell ⟨R, 4, none⟩ (Value.int .i64 y4)).setCell ⟨R, 5, none⟩ (Value.int .i64 y5)).setCell ⟨R, 6, none⟩ (Value.int .i64 y6)).setCell ⟨R, 1, none⟩ (Value.int .i64 z1)).setCell ⟨R, 2, none⟩ (Value.int .i64 z2)) = w5 at *
    obtain ⟨⟨T, ok⟩, hT⟩ : ∃ r, supput ⟨y0, z1, z2, y3, y4, y5, y6⟩ = r := ⟨_, rfl⟩
    obtain ⟨⟨U, fine⟩, hU⟩ : ∃ r, hardput 2 ⟨t, o, c⟩ = r := ⟨_, rfl⟩
    have hTz : T.size ≤ 100 := by have := supput_size ⟨y0, z1, z2, y3, y4, y5, y6⟩; rw [hT] at this; exact this
    have hUz : U.size ≤ 100 := by have := hardput_size 2 ⟨t, o, c⟩; rw [hU] at this; exact this
    have hp1 := fun W => slotsref_putsuper ⟨y0, z1, z2, y3, y4, y5, y6⟩ W
    have hp2 := fun W => slotsref_puthard 2 t o c ht hc W
    rw [hT] at hp1
    rw [hU] at hp2
    have Hp1 := Pin.Aside.mk hp1
    have Hp2 := Pin.Aside.mk hp2
    dsimp only at Hp1
    clear hp1 hp2 hT hU
    obtain ⟨c0, c1, c2, c3, c4, c5, c6⟩ := HF.out.at'
    dsimp only at c0 c1 c2 c3 c4 c5 c6
    go_wp2_with fail
    refine (slots_ref y0 z1 z2 y3 y4 y5 y6 _).mono ?_
    rintro e w6' ⟨rfl, hbb⟩
    clear c0 c1 c2 c3 c4 c5 c6
    replace Hp := Pin.Aside.mk (Hp.out.below hbb)
    have hk := Keep.of_below (S := fun _ => False) hbb fun _ hk _ => hk
    replace HF := Pin.Aside.mk (HF.out.keep hk id)
    replace HH := Pin.Aside.mk (HH.out.keep hk id)
    replace hb := hb.trans (hk.below (HS.out _ hb) fun _ q => q.elim)
    clear hbb hk
    go_wp2_with fail
    refine (Hp1.out _).mono ?_
    rintro e w7' ⟨rfl, hbb⟩
    replace Hp := Pin.Aside.mk (Hp.out.below hbb)
    have hk := Keep.of_below (S := fun _ => False) hbb fun _ hk _ => hk
    replace HF := Pin.Aside.mk (HF.out.keep hk id)
    replace HH := Pin.Aside.mk (HH.out.keep hk id)
    replace hb := hb.trans (hk.below (HS.out _ hb) fun _ q => q.elim)
    clear hbb hk
    obtain ⟨x0, x1, x2⟩ := HH.out.at'
    go_wp2_with fail
    refine (slots_refHard t o c _).mono ?_
    rintro e w8' ⟨rfl, hbb⟩
    clear x0 x1 x2
    replace Hp := Pin.Aside.mk (Hp.out.below hbb)
    have hk := Keep.of_below (S := fun _ => False) hbb fun _ hk _ => hk
    replace HF := Pin.Aside.mk (HF.out.keep hk id)
    replace HH := Pin.Aside.mk (HH.out.keep hk id)
    replace hb := hb.trans (hk.below (HS.out _ hb) fun _ q => q.elim)
    clear hbb hk
    go_wp2_with fail
    refine (Hp2.out _).mono ?_
    rintro e w9' ⟨rfl, hbb⟩
    replace Hp := Pin.Aside.mk (Hp.out.below hbb)
    have hk := Keep.of_below (S := fun _ => False) hbb fun _ hk _ => hk
    replace HF := Pin.Aside.mk (HF.out.keep hk id)
    replace HH := Pin.Aside.mk (HH.out.keep hk id)
    replace hb := hb.trans (hk.below (HS.out _ hb) fun _ q => q.elim)
    clear hbb hk
    go_upto_region 15 with fail
    clear Hp1 Hp2
    obtain ⟨⟨e1, D1⟩, hD1⟩ : ∃ r, suwrite (dnew N) 0 T = r := ⟨_, rfl⟩
    have hw1 := fun W hW => super_write b f m (dnew N) 0 T (by decide) (Nat.le_trans hTz (by decide)) W hW
    have hw2 := fun W hW => superref_write r nN oO vV (dnew N) 0 T (by decide) (Nat.le_trans hTz (by decide)) W hW
    rw [hD1] at hw1 hw2
    have Hw1 := Pin.Aside.mk hw1
    have Hw2 := Pin.Aside.mk hw2
    clear hw1 hw2 hD1
    go_wp2_with fail
    with_reducible refine (Hw1.out _ Hp.out.dev).mono ?_
    rintro e wa1 ⟨rfl, hd, hk1⟩
    have Hd := Pin.Aside.mk hd
    have Hr := Pin.Aside.mk (ref_off Hp.out.ref hk1 fun k q1 q2 => Hp.out.apart k q2 q1)
    have Hk1 := Pin.Aside.mk hk1
    clear hd hk1
    go_wp2_with fail
    with_reducible refine (Hw2.out _ Hr.out).mono ?_
    rintro e wb1 ⟨rfl, hr, hk2⟩
    have kt : Keep (fun j => R + 2 ≤ j) w9' wb1 := (Hk1.out.mono Hp.out.low1).trans (hk2.mono Hp.out.low2)
    replace Hp := Pin.Aside.mk (Hp.out.step Hd.out Hk1.out hr hk2)
    replace HF := Pin.Aside.mk (HF.out.keep kt (by show ¬ (R + 2 ≤ R); omega))
    replace HH := Pin.Aside.mk (HH.out.keep kt (by show ¬ (R + 2 ≤ R + 1); omega))
    replace hb := hb.trans (kt.below (HS.out _ hb) fun j hj => by omega)
    clear kt hr hk2 Hd Hr Hk1
    clear Hw1 Hw2
    obtain ⟨⟨e2, D2⟩, hD2⟩ : ∃ r, suwrite D1 2 U = r := ⟨_, rfl⟩
    have hw1 := fun W hW => super_write b f m D1 2 U (by decide) (Nat.le_trans hUz (by decide)) W hW
    have hw2 := fun W hW => superref_write r nN oO vV D1 2 U (by decide) (Nat.le_trans hUz (by decide)) W hW
    rw [hD2] at hw1 hw2
    have Hw1 := Pin.Aside.mk hw1
    have Hw2 := Pin.Aside.mk hw2
    clear hw1 hw2 hD2
    go_wp2_with fail
    with_reducible refine (Hw1.out _ Hp.out.dev).mono ?_
    rintro e wa2 ⟨rfl, hd, hk1⟩
    have Hd := Pin.Aside.mk hd
    have Hr := Pin.Aside.mk (ref_off Hp.out.ref hk1 fun k q1 q2 => Hp.out.apart k q2 q1)
    have Hk1 := Pin.Aside.mk hk1
    clear hd hk1
    go_wp2_with fail
    with_reducible refine (Hw2.out _ Hr.out).mono ?_
    rintro e wb2 ⟨rfl, hr, hk2⟩
    have kt : Keep (fun j => R + 2 ≤ j) wb1 wb2 := (Hk1.out.mono Hp.out.low1).trans (hk2.mono Hp.out.low2)
    replace Hp := Pin.Aside.mk (Hp.out.step Hd.out Hk1.out hr hk2)
    replace HF := Pin.Aside.mk (HF.out.keep kt (by show ¬ (R + 2 ≤ R); omega))
    replace HH := Pin.Aside.mk (HH.out.keep kt (by show ¬ (R + 2 ≤ R + 1); omega))
    replace hb := hb.trans (kt.below (HS.out _ hb) fun j hj => by omega)
    clear kt hr hk2 Hd Hr Hk1
    clear Hw1 Hw2
    go_wp2_with fail
    with_reducible refine (dev_arm b f m D2 after hafter _ Hp.out.dev).mono ?_
    rintro e wa3 ⟨rfl, hd, hk1⟩
    have Hd := Pin.Aside.mk hd
    have Hr := Pin.Aside.mk (ref_off Hp.out.ref hk1 fun k q1 q2 => Hp.out.apart k q2 q1)
    have Hk1 := Pin.Aside.mk hk1
    clear hd hk1
    go_wp2_with fail
    with_reducible refine (ref_arm r nN oO vV D2 after hafter _ Hr.out).mono ?_
    rintro e wb3 ⟨rfl, hr, hk2⟩
    have kt : Keep (fun j => R + 2 ≤ j) wb2 wb3 := (Hk1.out.mono Hp.out.low1).trans (hk2.mono Hp.out.low2)
    replace Hp := Pin.Aside.mk (Hp.out.step Hd.out Hk1.out hr hk2)
    replace HF := Pin.Aside.mk (HF.out.keep kt (by show ¬ (R + 2 ≤ R); omega))
    replace HH := Pin.Aside.mk (HH.out.keep kt (by show ¬ (R + 2 ≤ R + 1); omega))
    replace hb := hb.trans (kt.below (HS.out _ hb) fun j hj => by omega)
    clear kt hr hk2 Hd Hr Hk1
    obtain ⟨D3, hD3⟩ : ∃ x, darm D2 after = x := ⟨_, rfl⟩
    rw [hD3] at Hp
    clear hD3
    obtain ⟨⟨⟨s0, s1, s2, s3, s4, s5, s6⟩, ⟨t0, t1, t2⟩, el⟩, hL⟩ : ∃ r, sloadW D3 = r := ⟨_, rfl⟩
    have hl1 := fun W hW => slots_load b f m D3 W hW
    have hl2 := fun W hW => slotsref_load r nN oO vV D3 W hW
    rw [hL] at hl1 hl2
    have Hl1 := Pin.Aside.mk (show ∀ W, DevAt W b f m D3 → Calls Tryz.prog 16 #[.pointer (some ⟨b, 0, none⟩)] W fun e w' => e = .returned (.tuple #[.agg #[.int .i64 s0, .int .i64 s1, .int .i64 s2, .int .i64 s3, .int .i64 s4, .int .i64 s5, .int .i64 s6], .agg #[.int .u64 t0, .int .i64 t1, .int .u64 t2], .int .i64 el]) ∧ Below W.heap.size W w' from hl1)
    have Hl2 := Pin.Aside.mk (show ∀ W, RefAt W r nN oO vV D3 → Calls Tryz.prog 17 #[.pointer (some ⟨r, 0, none⟩)] W fun e w' => e = .returned (.tuple #[.agg #[.int .i64 s0, .int .i64 s1, .int .i64 s2, .int .i64 s3, .int .i64 s4, .int .i64 s5, .int .i64 s6], .agg #[.int .u64 t0, .int .i64 t1, .int .u64 t2], .int .i64 el]) ∧ Below W.heap.size W w' from hl2)
    clear hl1 hl2 hL
    go_wp2_with fail
    with_reducible refine (Hl1.out _ Hp.out.dev).mono ?_
    rintro e w5 ⟨rfl, hbb⟩
    have hk := ((Keep.of_below (S := fun _ => False) hbb fun _ hk _ => hk).alloc (.cells #[.int .i64 s0, .int .i64 s1, .int .i64 s2, .int .i64 s3, .int .i64 s4, .int .i64 s5, .int .i64 s6] 23)).alloc (.cells #[.int .u64 t0, .int .i64 t1, .int .u64 t2] 26)
    have hP := (SevenAt.new w5 ⟨s0, s1, s2, s3, s4, s5, s6⟩ 23).keep ((Keep.refl (fun _ => False) _).alloc (.cells #[.int .u64 t0, .int .i64 t1, .int .u64 t2] 26)) id
    have hz : (w5.alloc (.cells #[.int .i64 s0, .int .i64 s1, .int .i64 s2, .int .i64 s3, .int .i64 s4, .int .i64 s5, .int .i64 s6] 23)).heap.size = w5.heap.size + 1 := by simp
    have hQ := HardF.new (w5.alloc (.cells #[.int .i64 s0, .int .i64 s1, .int .i64 s2, .int .i64 s3, .int .i64 s4, .int .i64 s5, .int .i64 s6] 23)) t0 t1 t2 26
    rw [hz] at hQ
    unfold sevenO at hP
    dsimp only at hP
    have HP := Pin.Aside.mk hP
    have HPh := Pin.Aside.mk hQ
    replace HF := Pin.Aside.mk (HF.out.keep hk id)
    replace HH := Pin.Aside.mk (HH.out.keep hk id)
    have HpB := Pin.Aside.mk (Hp.out.below hbb)
    replace Hp := Pin.Aside.mk (show Pair ((w5.alloc (.cells #[.int .i64 s0, .int .i64 s1, .int .i64 s2, .int .i64 s3, .int .i64 s4, .int .i64 s5, .int .i64 s6] 23)).alloc (.cells #[.int .u64 t0, .int .i64 t1, .int .u64 t2] 26)) (R + 2) b f m r nN oO vV D3 from ⟨Hp.out.dev.keep hk ⟨id, id, id⟩, Hp.out.ref.keep hk ⟨id, id, id, id⟩, Hp.out.apart, Hp.out.low1, Hp.out.low2⟩)
    replace hb := hb.trans (hk.below (HS.out _ hb) fun _ q => q.elim)
    have lP := hQ.lt
    have NP := Pin.Aside.mk (show ∀ j, w5.heap.size ≤ j → ¬ (devS b f m j ∨ refS r nN oO vV j) from fun j hj q => by rcases q with q | q; have := (HpB.out).lt1 q; omega; have := (HpB.out).lt2 q; omega)
    clear hbb hk hP hQ hz HpB Hl1
    go_upto_region 20 with fail
    generalize ((w5.alloc (.cells #[.int .i64 s0, .int .i64 s1, .int .i64 s2, .int .i64 s3, .int .i64 s4, .int .i64 s5, .int .i64 s6] 23)).alloc (.cells #[.int .u64 t0, .int .i64 t1, .int .u64 t2] 26)) = v5 at *
    generalize w5.heap.size = P at *
    go_wp2_with fail
    with_reducible refine (Hl2.out _ Hp.out.ref).mono ?_
    rintro e w6 ⟨rfl, hbb⟩
    have hk := ((Keep.of_below (S := fun _ => False) hbb fun _ hk _ => hk).alloc (.cells #[.int .i64 s0, .int .i64 s1, .int .i64 s2, .int .i64 s3, .int .i64 s4, .int .i64 s5, .int .i64 s6] 37)).alloc (.cells #[.int .u64 t0, .int .i64 t1, .int .u64 t2] 40)
    have hP := (SevenAt.new w6 ⟨s0, s1, s2, s3, s4, s5, s6⟩ 37).keep ((Keep.refl (fun _ => False) _).alloc (.cells #[.int .u64 t0, .int .i64 t1, .int .u64 t2] 40)) id
    have hz : (w6.alloc (.cells #[.int .i64 s0, .int .i64 s1, .int .i64 s2, .int .i64 s3, .int .i64 s4, .int .i64 s5, .int .i64 s6] 37)).heap.size = w6.heap.size + 1 := by simp
    have hQ := HardF.new (w6.alloc (.cells #[.int .i64 s0, .int .i64 s1, .int .i64 s2, .int .i64 s3, .int .i64 s4, .int .i64 s5, .int .i64 s6] 37)) t0 t1 t2 40
    rw [hz] at hQ
    unfold sevenO at hP
    dsimp only at hP
    have HQ := Pin.Aside.mk hP
    have HQh := Pin.Aside.mk hQ
    replace HF := Pin.Aside.mk (HF.out.keep hk id)
    replace HH := Pin.Aside.mk (HH.out.keep hk id)
    replace HP := Pin.Aside.mk (HP.out.keep hk id)
    replace HPh := Pin.Aside.mk (HPh.out.keep hk id)
    have HpB := Pin.Aside.mk (Hp.out.below hbb)
    replace Hp := Pin.Aside.mk (show Pair ((w6.alloc (.cells #[.int .i64 s0, .int .i64 s1, .int .i64 s2, .int .i64 s3, .int .i64 s4, .int .i64 s5, .int .i64 s6] 37)).alloc (.cells #[.int .u64 t0, .int .i64 t1, .int .u64 t2] 40)) (R + 2) b f m r nN oO vV D3 from ⟨Hp.out.dev.keep hk ⟨id, id, id⟩, Hp.out.ref.keep hk ⟨id, id, id, id⟩, Hp.out.apart, Hp.out.low1, Hp.out.low2⟩)
    replace hb := hb.trans (hk.below (HS.out _ hb) fun _ q => q.elim)
    have lQ := hQ.lt
    have hPQ := hbb.size
    clear hbb hk hP hQ hz HpB Hl2
    go_upto_region 21 with fail
    generalize ((w6.alloc (.cells #[.int .i64 s0, .int .i64 s1, .int .i64 s2, .int .i64 s3, .int .i64 s4, .int .i64 s5, .int .i64 s6] 37)).alloc (.cells #[.int .u64 t0, .int .i64 t1, .int .u64 t2] 40)) = v6 at *
    generalize w6.heap.size = Q at *
    have NR := Pin.Aside.mk (show ∀ j, j < R + 2 → ¬ (devS b f m j ∨ refS r nN oO vV j) from fun j hj q => by rcases q with q | q; have := Hp.out.low1 j q; omega; have := Hp.out.low2 j q; omega)
    obtain ⟨⟨e4, D4⟩, hD4⟩ : ∃ x, ssetW D3 ⟨y0, z1, z2, y3, y4, y5, y6⟩ = x := ⟨_, rfl⟩
    obtain ⟨⟨e5, D5⟩, hD5⟩ : ∃ x, shardW D4 y0 ⟨t, o, c⟩ = x := ⟨_, rfl⟩
    have h41 := fun W hW => slots_setsuper b f m D3 ⟨y0, z1, z2, y3, y4, y5, y6⟩ W hW
    have h42 := fun W hW => slotsref_setsuper r nN oO vV D3 ⟨y0, z1, z2, y3, y4, y5, y6⟩ W hW
    have h51 := fun W hW => slots_sethard b f m D4 y0 t o c ht hc W hW
    have h52 := fun W hW => slotsref_sethard r nN oO vV D4 y0 t o c ht hc W hW
    rw [hD4] at h41 h42
    rw [hD5] at h51 h52
    have H41 := Pin.Aside.mk h41
    have H42 := Pin.Aside.mk h42
    have H51 := Pin.Aside.mk h51
    have H52 := Pin.Aside.mk h52
    clear h41 h42 h51 h52 hD4 hD5
    obtain ⟨c0, c1, c2, c3, c4, c5, c6⟩ := HF.out.at'
    dsimp only at c0 c1 c2 c3 c4 c5 c6
    go_region_held3 (fun w' => w'.cell? ⟨R, 0, none⟩ = some (.int .i64 y0) ∧ w'.cell? ⟨R, 1, none⟩ = some (.int .i64 z1) ∧ w'.cell? ⟨R, 2, none⟩ = some (.int .i64 z2) ∧ w'.cell? ⟨R, 3, none⟩ = some (.int .i64 y3) ∧ w'.cell? ⟨R, 4, none⟩ = some (.int .i64 y4) ∧ w'.cell? ⟨R, 5, none⟩ = some (.int .i64 y5) ∧ w'.cell? ⟨R, 6, none⟩ = some (.int .i64 y6)) (first | go_keep | exact hqa | exact hqb | exact hqc) (first
      | (go_at_call 18
         with_reducible refine (H41.out _ Hp.out.dev.drew).mono ?_
         rintro e wx11 ⟨rfl, hd1, hk1⟩
         have ka := Keep.trans ((Keep.refl (devS b f m) v6).drew) hk1
         have hqa : wx11.cell? ⟨R, 0, none⟩ = some (.int .i64 y0) ∧ wx11.cell? ⟨R, 1, none⟩ = some (.int .i64 z1) ∧ wx11.cell? ⟨R, 2, none⟩ = some (.int .i64 z2) ∧ wx11.cell? ⟨R, 3, none⟩ = some (.int .i64 y3) ∧ wx11.cell? ⟨R, 4, none⟩ = some (.int .i64 y4) ∧ wx11.cell? ⟨R, 5, none⟩ = some (.int .i64 y5) ∧ wx11.cell? ⟨R, 6, none⟩ = some (.int .i64 y6) := ⟨ka.cell c0 (fun q => NR.out R (by omega) (.inl q)), ka.cell c1 (fun q => NR.out R (by omega) (.inl q)), ka.cell c2 (fun q => NR.out R (by omega) (.inl q)), ka.cell c3 (fun q => NR.out R (by omega) (.inl q)), ka.cell c4 (fun q => NR.out R (by omega) (.inl q)), ka.cell c5 (fun q => NR.out R (by omega) (.inl q)), ka.cell c6 (fun q => NR.out R (by omega) (.inl q))⟩
         have Hd1 := Pin.Aside.mk hd1
         have Hr1 := Pin.Aside.mk (ref_off Hp.out.ref ka fun k q1 q2 => Hp.out.apart k q2 q1)
         have Ka := Pin.Aside.mk ka
         clear hd1 hk1 ka)
      | (go_at_call 9
         with_reducible refine (slots_ref y0 z1 z2 y3 y4 y5 y6 _).mono ?_
         rintro e wx12 ⟨rfl, hbr⟩
         have kb := Keep.of_below (S := fun _ => False) hbr fun _ h _ => h
         have hqb : wx12.cell? ⟨R, 0, none⟩ = some (.int .i64 y0) ∧ wx12.cell? ⟨R, 1, none⟩ = some (.int .i64 z1) ∧ wx12.cell? ⟨R, 2, none⟩ = some (.int .i64 z2) ∧ wx12.cell? ⟨R, 3, none⟩ = some (.int .i64 y3) ∧ wx12.cell? ⟨R, 4, none⟩ = some (.int .i64 y4) ∧ wx12.cell? ⟨R, 5, none⟩ = some (.int .i64 y5) ∧ wx12.cell? ⟨R, 6, none⟩ = some (.int .i64 y6) := ⟨kb.cell hqa.1 id, kb.cell hqa.2.1 id, kb.cell hqa.2.2.1 id, kb.cell hqa.2.2.2.1 id, kb.cell hqa.2.2.2.2.1 id, kb.cell hqa.2.2.2.2.2.1 id, kb.cell hqa.2.2.2.2.2.2 id⟩
         have Hd2 := Pin.Aside.mk (Hd1.out.below hbr)
         have Hr2 := Pin.Aside.mk (Hr1.out.below hbr)
         have Kb := Pin.Aside.mk kb
         clear hbr kb)
      | (go_at_call 19
         with_reducible refine (H42.out _ Hr2.out).mono ?_
         rintro e wx13 ⟨rfl, hr3, hk3⟩
         have hqc : wx13.cell? ⟨R, 0, none⟩ = some (.int .i64 y0) ∧ wx13.cell? ⟨R, 1, none⟩ = some (.int .i64 z1) ∧ wx13.cell? ⟨R, 2, none⟩ = some (.int .i64 z2) ∧ wx13.cell? ⟨R, 3, none⟩ = some (.int .i64 y3) ∧ wx13.cell? ⟨R, 4, none⟩ = some (.int .i64 y4) ∧ wx13.cell? ⟨R, 5, none⟩ = some (.int .i64 y5) ∧ wx13.cell? ⟨R, 6, none⟩ = some (.int .i64 y6) := ⟨hk3.cell hqb.1 (fun q => NR.out R (by omega) (.inr q)), hk3.cell hqb.2.1 (fun q => NR.out R (by omega) (.inr q)), hk3.cell hqb.2.2.1 (fun q => NR.out R (by omega) (.inr q)), hk3.cell hqb.2.2.2.1 (fun q => NR.out R (by omega) (.inr q)), hk3.cell hqb.2.2.2.2.1 (fun q => NR.out R (by omega) (.inr q)), hk3.cell hqb.2.2.2.2.2.1 (fun q => NR.out R (by omega) (.inr q)), hk3.cell hqb.2.2.2.2.2.2 (fun q => NR.out R (by omega) (.inr q))⟩
         have Hr3 := Pin.Aside.mk hr3
         have Kc := Pin.Aside.mk hk3
         clear hr3 hk3))
    have kt : Keep (fun j => devS b f m j ∨ refS r nN oO vV j) v6 wx13 := ((Ka.out.mono fun _ q => .inl q).trans (Kb.out.mono fun _ q => q.elim)).trans (Kc.out.mono fun _ q => .inr q)
    replace Hp := Pin.Aside.mk (show Pair wx13 (R + 2) b f m r nN oO vV _ from ⟨dev_off Hd2.out Kc.out Hp.out.apart, Hr3.out, Hp.out.apart, Hp.out.low1, Hp.out.low2⟩)
    replace HF := Pin.Aside.mk (HF.out.keep kt (NR.out R (by omega)))
    replace HH := Pin.Aside.mk (HH.out.keep kt (NR.out (R + 1) (by omega)))
    replace HP := Pin.Aside.mk (HP.out.keep kt (NP.out P (by omega)))
    replace HPh := Pin.Aside.mk (HPh.out.keep kt (NP.out (P + 1) (by omega)))
    replace HQ := Pin.Aside.mk (HQ.out.keep kt (NP.out Q (by omega)))
    replace HQh := Pin.Aside.mk (HQh.out.keep kt (NP.out (Q + 1) (by omega)))
    replace hb := hb.trans (kt.below (HS.out _ hb) fun j hj => by rcases hj with q | q; have := Hp.out.low1 j q; omega; have := Hp.out.low2 j q; omega)
    clear kt hqa hqb hqc Ka Kb Kc Hd1 Hd2 Hr1 Hr2 Hr3 c0 c1 c2 c3 c4 c5 c6
    have hcc4 : (e4 == e4) = true := by simp
    go_upto_region 22 with fail
    have c0 := HF.out.at'.c0
    dsimp only at c0
    obtain ⟨x0, x1, x2⟩ := HH.out.at'
    go_region_held3 (fun w' => w'.cell? ⟨R, 0, none⟩ = some (.int .i64 y0) ∧ w'.cell? ⟨R + 1, 0, none⟩ = some (.int .u64 t) ∧ w'.cell? ⟨R + 1, 1, none⟩ = some (.int .i64 o) ∧ w'.cell? ⟨R + 1, 2, none⟩ = some (.int .u64 c)) (first | go_keep | exact hqa | exact hqb | exact hqc) (first
      | (go_at_call 20
         with_reducible refine (H51.out _ Hp.out.dev.drew).mono ?_
         rintro e wx21 ⟨rfl, hd1, hk1⟩
         have ka := Keep.trans ((Keep.refl (devS b f m) wx13).drew) hk1
         have hqa : wx21.cell? ⟨R, 0, none⟩ = some (.int .i64 y0) ∧ wx21.cell? ⟨R + 1, 0, none⟩ = some (.int .u64 t) ∧ wx21.cell? ⟨R + 1, 1, none⟩ = some (.int .i64 o) ∧ wx21.cell? ⟨R + 1, 2, none⟩ = some (.int .u64 c) := ⟨ka.cell c0 (fun q => NR.out R (by omega) (.inl q)), ka.cell x0 (fun q => NR.out (R + 1) (by omega) (.inl q)), ka.cell x1 (fun q => NR.out (R + 1) (by omega) (.inl q)), ka.cell x2 (fun q => NR.out (R + 1) (by omega) (.inl q))⟩
         have Hd1 := Pin.Aside.mk hd1
         have Hr1 := Pin.Aside.mk (ref_off Hp.out.ref ka fun k q1 q2 => Hp.out.apart k q2 q1)
         have Ka := Pin.Aside.mk ka
         clear hd1 hk1 ka)
      | (go_at_call 11
         with_reducible refine (slots_refHard t o c _).mono ?_
         rintro e wx22 ⟨rfl, hbr⟩
         have kb := Keep.of_below (S := fun _ => False) hbr fun _ h _ => h
         have hqb : wx22.cell? ⟨R, 0, none⟩ = some (.int .i64 y0) ∧ wx22.cell? ⟨R + 1, 0, none⟩ = some (.int .u64 t) ∧ wx22.cell? ⟨R + 1, 1, none⟩ = some (.int .i64 o) ∧ wx22.cell? ⟨R + 1, 2, none⟩ = some (.int .u64 c) := ⟨kb.cell hqa.1 id, kb.cell hqa.2.1 id, kb.cell hqa.2.2.1 id, kb.cell hqa.2.2.2 id⟩
         have Hd2 := Pin.Aside.mk (Hd1.out.below hbr)
         have Hr2 := Pin.Aside.mk (Hr1.out.below hbr)
         have Kb := Pin.Aside.mk kb
         clear hbr kb)
      | (go_at_call 21
         with_reducible refine (H52.out _ Hr2.out).mono ?_
         rintro e wx23 ⟨rfl, hr3, hk3⟩
         have hqc : wx23.cell? ⟨R, 0, none⟩ = some (.int .i64 y0) ∧ wx23.cell? ⟨R + 1, 0, none⟩ = some (.int .u64 t) ∧ wx23.cell? ⟨R + 1, 1, none⟩ = some (.int .i64 o) ∧ wx23.cell? ⟨R + 1, 2, none⟩ = some (.int .u64 c) := ⟨hk3.cell hqb.1 (fun q => NR.out R (by omega) (.inr q)), hk3.cell hqb.2.1 (fun q => NR.out (R + 1) (by omega) (.inr q)), hk3.cell hqb.2.2.1 (fun q => NR.out (R + 1) (by omega) (.inr q)), hk3.cell hqb.2.2.2 (fun q => NR.out (R + 1) (by omega) (.inr q))⟩
         have Hr3 := Pin.Aside.mk hr3
         have Kc := Pin.Aside.mk hk3
         clear hr3 hk3))
    have kt : Keep (fun j => devS b f m j ∨ refS r nN oO vV j) wx13 wx23 := ((Ka.out.mono fun _ q => .inl q).trans (Kb.out.mono fun _ q => q.elim)).trans (Kc.out.mono fun _ q => .inr q)
    replace Hp := Pin.Aside.mk (show Pair wx23 (R + 2) b f m r nN oO vV _ from ⟨dev_off Hd2.out Kc.out Hp.out.apart, Hr3.out, Hp.out.apart, Hp.out.low1, Hp.out.low2⟩)
    replace HF := Pin.Aside.mk (HF.out.keep kt (NR.out R (by omega)))
    replace HH := Pin.Aside.mk (HH.out.keep kt (NR.out (R + 1) (by omega)))
    replace HP := Pin.Aside.mk (HP.out.keep kt (NP.out P (by omega)))
    replace HPh := Pin.Aside.mk (HPh.out.keep kt (NP.out (P + 1) (by omega)))
    replace HQ := Pin.Aside.mk (HQ.out.keep kt (NP.out Q (by omega)))
    replace HQh := Pin.Aside.mk (HQh.out.keep kt (NP.out (Q + 1) (by omega)))
    replace hb := hb.trans (kt.below (HS.out _ hb) fun j hj => by rcases hj with q | q; have := Hp.out.low1 j q; omega; have := Hp.out.low2 j q; omega)
    clear kt hqa hqb hqc Ka Kb Kc Hd1 Hd2 Hr1 Hr2 Hr3 c0 x0 x1 x2
    have hcc5 : (e5 == e5) = true := by simp
    go_upto_region 23 with fail
    have p0 : ∀ s' : KW (fun _ => False) wx23, s'.w.cell? ⟨P, 0, none⟩ = some (.int .i64 s0) := fun s' => s'.keep.cell HP.out.c0 id
    have q0 : ∀ s' : KW (fun _ => False) wx23, s'.w.cell? ⟨Q, 0, none⟩ = some (.int .i64 s0) := fun s' => s'.keep.cell HQ.out.c0 id
    have p1 : ∀ s' : KW (fun _ => False) wx23, s'.w.cell? ⟨P, 1, none⟩ = some (.int .i64 s1) := fun s' => s'.keep.cell HP.out.c1 id
    have q1 : ∀ s' : KW (fun _ => False) wx23, s'.w.cell? ⟨Q, 1, none⟩ = some (.int .i64 s1) := fun s' => s'.keep.cell HQ.out.c1 id
    have p2 : ∀ s' : KW (fun _ => False) wx23, s'.w.cell? ⟨P, 2, none⟩ = some (.int .i64 s2) := fun s' => s'.keep.cell HP.out.c2 id
    have q2 : ∀ s' : KW (fun _ => False) wx23, s'.w.cell? ⟨Q, 2, none⟩ = some (.int .i64 s2) := fun s' => s'.keep.cell HQ.out.c2 id
    have p3 : ∀ s' : KW (fun _ => False) wx23, s'.w.cell? ⟨P, 3, none⟩ = some (.int .i64 s3) := fun s' => s'.keep.cell HP.out.c3 id
    have q3 : ∀ s' : KW (fun _ => False) wx23, s'.w.cell? ⟨Q, 3, none⟩ = some (.int .i64 s3) := fun s' => s'.keep.cell HQ.out.c3 id
    have p4 : ∀ s' : KW (fun _ => False) wx23, s'.w.cell? ⟨P, 4, none⟩ = some (.int .i64 s4) := fun s' => s'.keep.cell HP.out.c4 id
    have q4 : ∀ s' : KW (fun _ => False) wx23, s'.w.cell? ⟨Q, 4, none⟩ = some (.int .i64 s4) := fun s' => s'.keep.cell HQ.out.c4 id
    have p5 : ∀ s' : KW (fun _ => False) wx23, s'.w.cell? ⟨P, 5, none⟩ = some (.int .i64 s5) := fun s' => s'.keep.cell HP.out.c5 id
    have q5 : ∀ s' : KW (fun _ => False) wx23, s'.w.cell? ⟨Q, 5, none⟩ = some (.int .i64 s5) := fun s' => s'.keep.cell HQ.out.c5 id
    have p6 : ∀ s' : KW (fun _ => False) wx23, s'.w.cell? ⟨P, 6, none⟩ = some (.int .i64 s6) := fun s' => s'.keep.cell HP.out.c6 id
    have q6 : ∀ s' : KW (fun _ => False) wx23, s'.w.cell? ⟨Q, 6, none⟩ = some (.int .i64 s6) := fun s' => s'.keep.cell HQ.out.c6 id
    have i0 : ∀ s' : KW (fun _ => False) wx23, s'.w.cell? ⟨P + 1, 0, none⟩ = some (.int .u64 t0) := fun s' => s'.keep.cell HPh.out.at'.c0 id
    have j0 : ∀ s' : KW (fun _ => False) wx23, s'.w.cell? ⟨Q + 1, 0, none⟩ = some (.int .u64 t0) := fun s' => s'.keep.cell HQh.out.at'.c0 id
    have i1 : ∀ s' : KW (fun _ => False) wx23, s'.w.cell? ⟨P + 1, 1, none⟩ = some (.int .i64 t1) := fun s' => s'.keep.cell HPh.out.at'.c1 id
    have j1 : ∀ s' : KW (fun _ => False) wx23, s'.w.cell? ⟨Q + 1, 1, none⟩ = some (.int .i64 t1) := fun s' => s'.keep.cell HQh.out.at'.c1 id
    have i2 : ∀ s' : KW (fun _ => False) wx23, s'.w.cell? ⟨P + 1, 2, none⟩ = some (.int .u64 t2) := fun s' => s'.keep.cell HPh.out.at'.c2 id
    have j2 : ∀ s' : KW (fun _ => False) wx23, s'.w.cell? ⟨Q + 1, 2, none⟩ = some (.int .u64 t2) := fun s' => s'.keep.cell HQh.out.at'.c2 id
    obtain ⟨I, hI⟩ : ∃ I, dimage D5 = I := ⟨_, rfl⟩
    have HD := Pin.Aside.mk (show ∀ s' : KW (fun _ => False) wx23, DevAt s'.w b f m D5 from fun s' => Hp.out.dev.keep s'.keep ⟨id, id, id⟩)
    have HRf := Pin.Aside.mk (show ∀ s' : KW (fun _ => False) wx23, RefAt s'.w r nN oO vV D5 from fun s' => Hp.out.ref.keep s'.keep ⟨id, id, id, id⟩)
    have Q1 := Pin.Aside.mk (show ∀ s' : KW (fun _ => False) wx23, Calls Tryz.prog 22 #[.pointer (some ⟨b, 0, none⟩)] s'.w fun e w' => e = .returned (.string I) ∧ Below s'.w.heap.size s'.w w' from fun s' => dev_image' b f m D5 I hI s'.w (HD.out s'))
    have Q2 := Pin.Aside.mk (show ∀ s' : KW (fun _ => False) wx23, Calls Tryz.prog 23 #[.pointer (some ⟨r, 0, none⟩)] s'.w fun e w' => e = .returned (.string I) ∧ Below s'.w.heap.size s'.w w' from fun s' => by
      have := ref_image r nN oO vV D5 s'.w (HRf.out s')
      rw [hI] at this
      exact this.mono fun e w' ⟨h1, h2⟩ => ⟨h1, by rw [h2]; exact Below.refl _ _⟩)
    clear hI
    refine wp_region_keep (fun _ => False) (by kernel_rfl) (by kernel_rfl) ?_
    repeat (go_big_quiet_step ((first | (go_at_call 11; exact KW.calls (slots_refHard t0 t1 t2 _)) | (go_at_call 9; exact KW.calls (slots_ref s0 s1 s2 s3 s4 s5 s6 _)) | (go_at_call 22; exact KW.calls (Q1.out _)) | (go_at_call 23; exact KW.calls (Q2.out _)))))
    refine wpQuiet_nil ?_
    intro s4
    replace hb := hb.trans (s4.keep.below (HS.out _ hb) fun _ q => q.elim)
    clear p0 q0 p1 q1 p2 q2 p3 q3 p4 q4 p5 q5 p6 q6 i0 j0 i1 j1 i2 j2 Q1 Q2 HD HRf
    go_wp2_with fail
    go_ret
    exact ⟨rfl, by rw [HRR.out]; exact hb⟩
end Go.Proofs.YtpfkpaombiikcaaGreatDoor
