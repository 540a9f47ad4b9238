import Derived.Test.YtpfkpaombiikcaaGreatDoorSlH
import Derived.Test.YtpfkpaombiikcaaGreatDoorSuV
import Derived.BigRegion
/- slots on a device: SetSuper, SetHard, Load. -/
set_option maxRecDepth 16000
namespace Go.Pin
open Go.RowKit
set_option linter.unusedVariables false
set_option linter.unusedSimpArgs false
def sloadW (d : Dv) : Sup × Hd × Int :=
  if (suread d 0).2.2.2 ≠ 0 then (Sup.zero, Hd.zero, (suread d 0).2.2.2) else
  if (supget (suread d 0).1).2 = false ∨ (d.n : Int) < ssectors (supget (suread d 0).1).1 then (Sup.zero, Hd.zero, 2) else
  if (suread d 2).2.2.2 = 6 then ((supget (suread d 0).1).1, Hd.zero, 0) else
  if (suread d 2).2.2.2 ≠ 0 then (Sup.zero, Hd.zero, (suread d 2).2.2.2) else
  if (hardget (suread d 2).1).2.2 = false then (Sup.zero, Hd.zero, 2) else ((supget (suread d 0).1).1, (hardget (suread d 2).1).1, 0)
def ssetW (d : Dv) (s : Sup) : Int × Dv := if (supput s).2 = false then (1, d) else suwrite d 0 (supput s).1
def shardW (d : Dv) (v : Int) (h : Hd) : Int × Dv := if (hardput v h).2 = false then (1, d) else suwrite d 2 (hardput v h).1
theorem supput_size (s : Sup) : (supput s).1.size ≤ 100 := by
  unfold supput
  split
  · have h1 : (fixedS s.v.toNat 1).size ≤ 10 := by
      unfold fixedS
      split
      · exact Nat.zero_le _
      · rw [size_mk, fixedL_len]; omega
    have h2 := snum_size s.v s.snap.toNat 2
    have h3 := snum_size s.v s.log.toNat 2
    have h4 := snum_size s.v s.area.toNat 1
    have h5 := snum_size s.v s.half.toNat 1
    have h6 := snum_size s.v s.goal.toNat 1
    have h7 := snum_size s.v s.step.toNat 1
    unfold supS
    simp only [ByteArray.size_append]; omega
  · exact Nat.zero_le _
theorem hardput_size (v : Int) (h : Hd) : (hardput v h).1.size ≤ 100 := by
  unfold hardput
  split
  · have h1 : (fixedS (16 + v).toNat 1).size ≤ 10 := by
      unfold fixedS
      split
      · exact Nat.zero_le _
      · rw [size_mk, fixedL_len]; omega
    have h2 := snum_size v h.term.toNat 8
    have h3 := snum_size v h.vote.toNat 1
    have h4 := snum_size v h.commit.toNat 8
    unfold hardS
    simp only [ByteArray.size_append]; omega
  · exact Nat.zero_le _
theorem if_or_right {α : Type} {p q : Prop} [Decidable (p ∨ q)] [Decidable q] {a b : α} (h : ¬ p) : (if p ∨ q then a else b) = if q then a else b := by
  by_cases hq : q
  · rw [if_pos (.inr hq), if_pos hq]
  · rw [if_neg (by rintro (r | r); exact h r; exact hq r), if_neg hq]
theorem SevAt.other {w : World} {R n : Nat} {f : Nat → Value} (h : SevAt w R n f) {R' k : Nat} (hne : R' ≠ R) (v : Value) : SevAt (w.setCell ⟨R', k, none⟩ v) R n f :=
  ⟨fun i hi => by rw [World.cell?_setCell_other _ _ _ _ (fun q => hne (congrArg Addr.block q))]; exact h.at' i hi, fun i hi => by rw [World.frozen?_setCell]; exact h.fr i hi⟩
theorem ten_cells {w : World} {R1 R2 : Nat} {f g : Nat → Value} (h1 : SevAt w R1 7 f) (h2 : SevAt w R2 3 g) (hne : R1 ≠ R2) (x0 x1 x2 x3 x4 x5 x6 y0 y1 y2 : Value) :
    ((set3 (set7 w R1 x0 x1 x2 x3 x4 x5 x6) R2 y0 y1 y2).cell? ⟨R1, 0, none⟩ = some x0 ∧ (set3 (set7 w R1 x0 x1 x2 x3 x4 x5 x6) R2 y0 y1 y2).cell? ⟨R1, 1, none⟩ = some x1 ∧ (set3 (set7 w R1 x0 x1 x2 x3 x4 x5 x6) R2 y0 y1 y2).cell? ⟨R1, 2, none⟩ = some x2 ∧ (set3 (set7 w R1 x0 x1 x2 x3 x4 x5 x6) R2 y0 y1 y2).cell? ⟨R1, 3, none⟩ = some x3 ∧ (set3 (set7 w R1 x0 x1 x2 x3 x4 x5 x6) R2 y0 y1 y2).cell? ⟨R1, 4, none⟩ = some x4 ∧ (set3 (set7 w R1 x0 x1 x2 x3 x4 x5 x6) R2 y0 y1 y2).cell? ⟨R1, 5, none⟩ = some x5 ∧ (set3 (set7 w R1 x0 x1 x2 x3 x4 x5 x6) R2 y0 y1 y2).cell? ⟨R1, 6, none⟩ = some x6) ∧
    ((set3 (set7 w R1 x0 x1 x2 x3 x4 x5 x6) R2 y0 y1 y2).cell? ⟨R2, 0, none⟩ = some y0 ∧ (set3 (set7 w R1 x0 x1 x2 x3 x4 x5 x6) R2 y0 y1 y2).cell? ⟨R2, 1, none⟩ = some y1 ∧ (set3 (set7 w R1 x0 x1 x2 x3 x4 x5 x6) R2 y0 y1 y2).cell? ⟨R2, 2, none⟩ = some y2) := by
  have a := ((((((h1.set 0 (by omega) x0).set 1 (by omega) x1).set 2 (by omega) x2).set 3 (by omega) x3).set 4 (by omega) x4).set 5 (by omega) x5).set 6 (by omega) x6
  have b := ((((((h2.other (k := 0) hne x0).other (k := 1) hne x1).other (k := 2) hne x2).other (k := 3) hne x3).other (k := 4) hne x4).other (k := 5) hne x5).other (k := 6) hne x6
  have a' := ((a.other (k := 0) (Ne.symm hne) y0).other (k := 1) (Ne.symm hne) y1).other (k := 2) (Ne.symm hne) y2
  have b' := ((b.set 0 (by omega) y0).set 1 (by omega) y1).set 2 (by omega) y2
  exact ⟨a'.get7, b'.get3⟩
end Go.Pin
namespace Go.Proofs.YtpfkpaombiikcaaGreatDoor
open Go.RowKit Go.Pin
set_option linter.unusedVariables false
set_option linter.unusedSimpArgs false
set_option maxHeartbeats 1600000 in
theorem slots_setsuper (b f m : Nat) (d : Dv) (s : Sup) (w : World) (h : DevAt w b f m d) :
    Calls Tryz.prog 18 #[.pointer (some ⟨b, 0, none⟩), .agg #[.int .i64 s.v, .int .i64 s.snap, .int .i64 s.log, .int .i64 s.area, .int .i64 s.half, .int .i64 s.goal, .int .i64 s.step]] w fun e w' => e = .returned (.int .i64 (ssetW d s).1) ∧ DevAt w' b f m (ssetW d s).2 ∧ Keep (devS b f m) w w' := by
  have hp := fun W => slots_putsuper s W
  have hz := supput_size s
  have E := Pin.Aside.mk (show ssetW d s = if (supput s).2 = false then (1, d) else suwrite d 0 (supput s).1 from rfl)
  obtain ⟨⟨T, ok⟩, hT⟩ : ∃ T, supput s = T := ⟨_, rfl⟩
  rw [hT] at hp hz E
  have Hp := Pin.Aside.mk hp
  have hk0 : Keep (fun _ => False) w (w.alloc (sevenO s 23)) := (Keep.refl _ _).alloc _
  have Hd := Pin.Aside.mk (h.keep hk0 ⟨id, id, id⟩)
  have Hk := Pin.Aside.mk (hk0.mono (T := devS b f m) fun _ q => q.elim)
  unfold sevenO at Hd Hk
  clear hp hT h hk0
  cases ok with
  | false =>
    replace E := Pin.Aside.mk (E.out.trans (if_pos rfl))
    go_enter Tryz.func18, Tryz.ntmps18
    go_wp2_with fail
    refine (Hp.out _).mono ?_
    rintro e w1 ⟨rfl, hb⟩
    have hd1 := Hd.out.below hb
    go_wp2_with fail
    go_ret
    rw [E.out]
    exact ⟨rfl, hd1, Hk.out.trans (Keep.of_below hb fun _ hk _ => hk)⟩
  | true =>
    replace E := Pin.Aside.mk (E.out.trans (if_neg (by simp)))
    have Hw := Pin.Aside.mk fun W hW => super_write b f m d 0 T (by decide) (Nat.le_trans hz (by decide)) W hW
    obtain ⟨⟨c, D⟩, hD⟩ : ∃ D, suwrite d 0 T = D := ⟨_, rfl⟩
    dsimp only at E
    rw [hD] at E Hw
    clear hD
    go_enter Tryz.func18, Tryz.ntmps18
    go_wp2_with fail
    refine (Hp.out _).mono ?_
    rintro e w1 ⟨rfl, hb⟩
    have hd1 := Hd.out.below hb
    have Hk1 := Pin.Aside.mk (Hk.out.trans (Keep.of_below hb fun _ hk _ => hk))
    clear hb
    go_wp2_with fail
    refine (Hw.out _ hd1).mono ?_
    rintro e w2 ⟨rfl, hd2, hk2⟩
    go_wp2_with fail
    go_ret
    rw [E.out]
    exact ⟨rfl, hd2, Hk1.out.trans hk2⟩
set_option maxHeartbeats 1600000 in
theorem slots_sethard (b f m : Nat) (d : Dv) (v t o c : Int) (ht : 0 ≤ t ∧ t ≤ 18446744073709551615) (hc : 0 ≤ c ∧ c ≤ 18446744073709551615) (w : World) (h : DevAt w b f m d) :
    Calls Tryz.prog 20 #[.pointer (some ⟨b, 0, none⟩), .int .i64 v, .agg #[.int .u64 t, .int .i64 o, .int .u64 c]] w fun e w' => e = .returned (.int .i64 (shardW d v ⟨t, o, c⟩).1) ∧ DevAt w' b f m (shardW d v ⟨t, o, c⟩).2 ∧ Keep (devS b f m) w w' := by
  have hp := fun W => slots_puthard v t o c ht hc W
  have hz := hardput_size v ⟨t, o, c⟩
  have E := Pin.Aside.mk (show shardW d v ⟨t, o, c⟩ = if (hardput v ⟨t, o, c⟩).2 = false then (1, d) else suwrite d 2 (hardput v ⟨t, o, c⟩).1 from rfl)
  obtain ⟨⟨T, ok⟩, hT⟩ : ∃ T, hardput v ⟨t, o, c⟩ = T := ⟨_, rfl⟩
  rw [hT] at hp hz E
  have Hp := Pin.Aside.mk hp
  have hk0 : Keep (fun _ => False) w (w.alloc (.cells #[.int .u64 t, .int .i64 o, .int .u64 c] 26)) := (Keep.refl _ _).alloc _
  have Hd := Pin.Aside.mk (h.keep hk0 ⟨id, id, id⟩)
  have Hk := Pin.Aside.mk (hk0.mono (T := devS b f m) fun _ q => q.elim)
  clear hp hT h hk0
  cases ok with
  | false =>
    replace E := Pin.Aside.mk (E.out.trans (if_pos rfl))
    go_enter Tryz.func20, Tryz.ntmps20
    go_wp2_with fail
    refine (Hp.out _).mono ?_
    rintro e w1 ⟨rfl, hb⟩
    have hd1 := Hd.out.below hb
    go_wp2_with fail
    go_ret
    rw [E.out]
    exact ⟨rfl, hd1, Hk.out.trans (Keep.of_below hb fun _ hk _ => hk)⟩
  | true =>
    replace E := Pin.Aside.mk (E.out.trans (if_neg (by simp)))
    have Hw := Pin.Aside.mk fun W hW => super_write b f m d 2 T (by decide) (Nat.le_trans hz (by decide)) W hW
    obtain ⟨⟨c', D⟩, hD⟩ : ∃ D, suwrite d 2 T = D := ⟨_, rfl⟩
    dsimp only at E
    rw [hD] at E Hw
    clear hD
    go_enter Tryz.func20, Tryz.ntmps20
    go_wp2_with fail
    refine (Hp.out _).mono ?_
    rintro e w1 ⟨rfl, hb⟩
    have hd1 := Hd.out.below hb
    have Hk1 := Pin.Aside.mk (Hk.out.trans (Keep.of_below hb fun _ hk _ => hk))
    clear hb
    go_wp2_with fail
    refine (Hw.out _ hd1).mono ?_
    rintro e w2 ⟨rfl, hd2, hk2⟩
    go_wp2_with fail
    go_ret
    rw [E.out]
    exact ⟨rfl, hd2, Hk1.out.trans hk2⟩
set_option maxHeartbeats 6400000 in
theorem slots_load (b f m : Nat) (d : Dv) (w : World) (h : DevAt w b f m d) :
    Calls Tryz.prog 16 #[.pointer (some ⟨b, 0, none⟩)] w fun e w' => e = .returned (.tuple #[(sloadW d).1.val, (sloadW d).2.1.val, .int .i64 (sloadW d).2.2]) ∧ Below w.heap.size w w' := by
  have E := Pin.Aside.mk (show sloadW d = _ from (rfl : _ = if (suread d 0).2.2.2 ≠ 0 then (Sup.zero, Hd.zero, (suread d 0).2.2.2) else if (supget (suread d 0).1).2 = false ∨ (d.n : Int) < ssectors (supget (suread d 0).1).1 then (Sup.zero, Hd.zero, 2) else if (suread d 2).2.2.2 = 6 then ((supget (suread d 0).1).1, Hd.zero, 0) else if (suread d 2).2.2.2 ≠ 0 then (Sup.zero, Hd.zero, (suread d 2).2.2.2) else if (hardget (suread d 2).1).2.2 = false then (Sup.zero, Hd.zero, 2) else ((supget (suread d 0).1).1, (hardget (suread d 2).1).1, 0)))
  have hr1 := fun W hW => super_read b f m d 0 (by decide) W hW
  have hr2 := fun W hW => super_read b f m d 2 (by decide) W hW
  have hz1 : (suread d 0).1.size ≤ 51 := by rcases suread_cases d 0 with ⟨_, _, _, q⟩ | ⟨q, _⟩ | ⟨_, _, _, q, _, _, _, z, _⟩ <;> rw [q] <;> first | exact Nat.zero_le _ | exact z
  have hz2 : (suread d 2).1.size ≤ 51 := by rcases suread_cases d 2 with ⟨_, _, _, q⟩ | ⟨q, _⟩ | ⟨_, _, _, q, _, _, _, z, _⟩ <;> rw [q] <;> first | exact Nat.zero_le _ | exact z
  obtain ⟨⟨X1, g1, k1, c1⟩, h1⟩ : ∃ r, suread d 0 = r := ⟨_, rfl⟩
  obtain ⟨⟨X2, g2, k2, c2⟩, h2⟩ : ∃ r, suread d 2 = r := ⟨_, rfl⟩
  rw [h1] at hr1 hz1 E
  rw [h2] at hr2 hz2 E
  dsimp only at hr1 hr2 hz1 hz2 E
  have hgs := fun W => slots_getsuper X1 (Nat.le_trans hz1 (by decide)) W
  have hgh := fun W => slots_gethard X2 (Nat.le_trans hz2 (by decide)) W
  obtain ⟨⟨S, sok⟩, h3⟩ : ∃ r, supget X1 = r := ⟨_, rfl⟩
  obtain ⟨⟨H, hv, hok⟩, h4⟩ : ∃ r, hardget X2 = r := ⟨_, rfl⟩
  rw [h3] at hgs E
  rw [h4] at hgh E
  dsimp only at hgs hgh E
  have hsec := fun W => slots_sectors S W
  obtain ⟨sn, h5⟩ : ∃ r, ssectors S = r := ⟨_, rfl⟩
  rw [h5] at hsec E
  obtain ⟨s0, s1, s2, s3, s4, s5, s6⟩ := S
  obtain ⟨t0, t1, t2⟩ := H
  replace hgs : ∀ W, Calls Tryz.prog 25 #[.string X1] W fun e w' => e = .returned (.tuple #[.agg #[.int .i64 s0, .int .i64 s1, .int .i64 s2, .int .i64 s3, .int .i64 s4, .int .i64 s5, .int .i64 s6], .bool sok]) ∧ Below W.heap.size W w' := hgs
  replace hgh : ∀ W, Calls Tryz.prog 26 #[.string X2] W fun e w' => e = .returned (.tuple #[.agg #[.int .u64 t0, .int .i64 t1, .int .u64 t2], .int .i64 hv, .bool hok]) ∧ Below W.heap.size W w' := hgh
  dsimp only at hsec
  have Hr1 := Pin.Aside.mk hr1
  have Hr2 := Pin.Aside.mk hr2
  have Hgs := Pin.Aside.mk hgs
  have Hgh := Pin.Aside.mk hgh
  have Hsec := Pin.Aside.mk hsec
  have hR1 := (SevAt.new w #[.int .i64 0, .int .i64 0, .int .i64 0, .int .i64 0, .int .i64 0, .int .i64 0, .int .i64 0] 23 7 rfl).keep ((Keep.refl (fun _ => False) _).alloc (.cells #[.int .u64 0, .int .i64 0, .int .u64 0] 26)) id
  have hR2 := SevAt.new (w.alloc (.cells #[.int .i64 0, .int .i64 0, .int .i64 0, .int .i64 0, .int .i64 0, .int .i64 0, .int .i64 0] 23)) #[.int .u64 0, .int .i64 0, .int .u64 0] 26 3 rfl
  have hz0 : (w.alloc (.cells #[.int .i64 0, .int .i64 0, .int .i64 0, .int .i64 0, .int .i64 0, .int .i64 0, .int .i64 0] 23)).heap.size = w.heap.size + 1 := by simp
  rw [hz0] at hR2
  have hk0 : Keep (fun _ => False) w ((w.alloc (.cells #[.int .i64 0, .int .i64 0, .int .i64 0, .int .i64 0, .int .i64 0, .int .i64 0, .int .i64 0] 23)).alloc (.cells #[.int .u64 0, .int .i64 0, .int .u64 0] 26)) := ((Keep.refl _ _).alloc _).alloc _
  have HR1 := Pin.Aside.mk hR1
  have HR2 := Pin.Aside.mk hR2
  have Hb := Pin.Aside.mk (hk0.below (Nat.le_refl _) fun _ q => q.elim)
  have Hd := Pin.Aside.mk (h.keep hk0 ⟨id, id, id⟩)
  clear hr1 hr2 hgs hgh hsec hR1 hR2 hz0 hk0 h h1 h2 h3 h4 h5 hz1 hz2
  go_enter Tryz.func16, Tryz.ntmps16
  go_wp2_with fail
  generalize ((w.alloc (.cells #[.int .i64 0, .int .i64 0, .int .i64 0, .int .i64 0, .int .i64 0, .int .i64 0, .int .i64 0] 23)).alloc (.cells #[.int .u64 0, .int .i64 0, .int .u64 0] 26)) = w0 at *
  generalize hRR : w.heap.size = R at *
  have HRR := Pin.Aside.mk hRR
  have HS := Pin.Aside.mk (show ∀ x, Below R w x → R ≤ x.heap.size from fun x h => by have := h.size; omega)
  clear hRR
  refine (Hr1.out _ Hd.out).mono ?_
  rintro e w1 ⟨rfl, hb1⟩
  have Hd1 := Pin.Aside.mk (Hd.out.below hb1)
  have HR11 := Pin.Aside.mk (HR1.out.below hb1)
  have HR21 := Pin.Aside.mk (HR2.out.below hb1)
  have Hb1 := Pin.Aside.mk (Hb.out.trans (hb1.mono (HS.out _ Hb.out)))
  clear hb1 HR1 HR2 Hb Hd
  by_cases hc1 : c1 = 0
  · subst hc1
    replace E := Pin.Aside.mk (E.out.trans (if_neg (by simp)))
    go_wp2_with fail
    refine (Hgs.out _).mono ?_
    rintro e w2 ⟨rfl, hb2⟩
    have hk2 := (Keep.of_below (S := fun _ => False) hb2 fun _ hk _ => hk).alloc (sevenO ⟨s0, s1, s2, s3, s4, s5, s6⟩ 23)
    have hS := SevenAt.new w2 ⟨s0, s1, s2, s3, s4, s5, s6⟩ 23
    have Hd2 := Pin.Aside.mk (Hd1.out.keep hk2 ⟨id, id, id⟩)
    have HR12 := Pin.Aside.mk (HR11.out.keep hk2 id)
    have HR22 := Pin.Aside.mk (HR21.out.keep hk2 id)
    have Hb2 := Pin.Aside.mk (Hb1.out.trans (hk2.below (HS.out _ Hb1.out) fun _ q => q.elim))
    unfold sevenO at hS Hd2 HR12 HR22 Hb2
    have HSv := Pin.Aside.mk hS
    clear hb2 HR11 HR21 Hb1 Hd1 hk2 hS
    cases sok with
    | false =>
      have HE := Pin.Aside.mk (E.out.trans (if_pos (.inl rfl)))
      clear E
      go_upto_region 5 with fail
      generalize w2.alloc (.cells #[.int .i64 s0, .int .i64 s1, .int .i64 s2, .int .i64 s3, .int .i64 s4, .int .i64 s5, .int .i64 s6] 23) = w3 at *
      generalize w2.heap.size = U at *
      go_quiet (fail)
      have HR13 := Pin.Aside.mk (HR12.out.keep ((Keep.refl (fun _ => False) w3).drewN nq) id)
      have HR23 := Pin.Aside.mk (HR22.out.keep ((Keep.refl (fun _ => False) w3).drewN nq) id)
      have Hb3 := Pin.Aside.mk (Hb2.out.trans (((Keep.refl (fun _ => False) w3).drewN nq).below (HS.out _ Hb2.out) fun _ q => q.elim))
      obtain ⟨e0, e1, e2, e3, e4, e5, e6⟩ := HR13.out.get7
      obtain ⟨f0, f1, f2, f3, f4, f5, f6⟩ := HR13.out.fr7
      obtain ⟨p0, p1, p2⟩ := HR23.out.get3
      obtain ⟨q0, q1, q2⟩ := HR23.out.fr3
      have hne1 : ¬ R = R + 1 := by omega
      have hne2 : ¬ R + 1 = R := by omega
      have TC := Pin.Aside.mk (ten_cells HR13.out HR23.out (by omega) (.int .i64 0) (.int .i64 0) (.int .i64 0) (.int .i64 0) (.int .i64 0) (.int .i64 0) (.int .i64 0) (.int .u64 0) (.int .i64 0) (.int .u64 0))
      go_wp2_with fail
      obtain ⟨⟨n0, n1, n2, n3, n4, n5, n6⟩, m0, m1, m2⟩ := TC.out
      unfold set3 set7 at n0 n1 n2 n3 n4 n5 n6 m0 m1 m2
      refine bodyPost_ret (v := .tuple #[.agg #[.int .i64 0, .int .i64 0, .int .i64 0, .int .i64 0, .int .i64 0, .int .i64 0, .int .i64 0], .agg #[.int .u64 0, .int .i64 0, .int .u64 0], .int .i64 2]) (by simp [results, Tryz.results16, go_sem, *]) rfl ?_
      rw [HE.out]
      exact ⟨rfl, by rw [HRR.out]; exact below_set3S (below_set7 Hb3.out (Nat.le_refl _) _ _ _ _ _ _ _) (Nat.le_succ _) _ _ _⟩
    | true =>
      replace E := Pin.Aside.mk (E.out.trans (if_or_right (by simp)))
      go_upto_region 5 with fail
      generalize w2.alloc (.cells #[.int .i64 s0, .int .i64 s1, .int .i64 s2, .int .i64 s3, .int .i64 s4, .int .i64 s5, .int .i64 s6] 23) = w3 at *
      generalize w2.heap.size = U at *
      have k0 : ∀ s' : KW (fun _ => False) w3, s'.w.cell? ⟨U, 0, none⟩ = some (.int .i64 s0) := fun s' => s'.keep.cell HSv.out.c0 id
      have k1 : ∀ s' : KW (fun _ => False) w3, s'.w.cell? ⟨U, 1, none⟩ = some (.int .i64 s1) := fun s' => s'.keep.cell HSv.out.c1 id
      have k2 : ∀ s' : KW (fun _ => False) w3, s'.w.cell? ⟨U, 2, none⟩ = some (.int .i64 s2) := fun s' => s'.keep.cell HSv.out.c2 id
      have k3 : ∀ s' : KW (fun _ => False) w3, s'.w.cell? ⟨U, 3, none⟩ = some (.int .i64 s3) := fun s' => s'.keep.cell HSv.out.c3 id
      have k4 : ∀ s' : KW (fun _ => False) w3, s'.w.cell? ⟨U, 4, none⟩ = some (.int .i64 s4) := fun s' => s'.keep.cell HSv.out.c4 id
      have k5 : ∀ s' : KW (fun _ => False) w3, s'.w.cell? ⟨U, 5, none⟩ = some (.int .i64 s5) := fun s' => s'.keep.cell HSv.out.c5 id
      have k6 : ∀ s' : KW (fun _ => False) w3, s'.w.cell? ⟨U, 6, none⟩ = some (.int .i64 s6) := fun s' => s'.keep.cell HSv.out.c6 id
      have HDs := Pin.Aside.mk fun (s' : KW (fun _ => False) w3) => dev_sectors b f m d s'.w (Hd2.out.keep s'.keep ⟨id, id, id⟩)
      refine wp_region_keep (fun _ => False) (by kernel_rfl) (by kernel_rfl) ?_
      repeat (go_big_quiet_step ((first | (go_at_call 39; with_reducible exact KW.calls_same (HDs.out _)) | (go_at_call 27; with_reducible exact KW.calls (Hsec.out _)))))
      refine wpQuiet_nil ?_
      intro s4'
      have HSv3 := Pin.Aside.mk (HSv.out.keep s4'.keep id)
      have Hd3 := Pin.Aside.mk (Hd2.out.keep s4'.keep ⟨id, id, id⟩)
      have HR13 := Pin.Aside.mk (HR12.out.keep s4'.keep id)
      have HR23 := Pin.Aside.mk (HR22.out.keep s4'.keep id)
      have Hb3 := Pin.Aside.mk (Hb2.out.trans (s4'.keep.below (HS.out _ Hb2.out) fun _ q => q.elim))
      clear k0 k1 k2 k3 k4 k5 k6 HR12 HR22 Hb2 Hd2 HSv
      generalize s4'.w = w4 at *
      by_cases hlt : (d.n : Int) < sn
      · have HE := Pin.Aside.mk (E.out.trans (if_pos hlt))
        obtain ⟨e0, e1, e2, e3, e4, e5, e6⟩ := HR13.out.get7
        obtain ⟨f0, f1, f2, f3, f4, f5, f6⟩ := HR13.out.fr7
        obtain ⟨p0, p1, p2⟩ := HR23.out.get3
        obtain ⟨q0, q1, q2⟩ := HR23.out.fr3
        have hne1 : ¬ R = R + 1 := by omega
        have hne2 : ¬ R + 1 = R := by omega
        have TC := Pin.Aside.mk (ten_cells HR13.out HR23.out (by omega) (.int .i64 0) (.int .i64 0) (.int .i64 0) (.int .i64 0) (.int .i64 0) (.int .i64 0) (.int .i64 0) (.int .u64 0) (.int .i64 0) (.int .u64 0))
        clear E
        go_wp2_with fail
        obtain ⟨⟨n0, n1, n2, n3, n4, n5, n6⟩, m0, m1, m2⟩ := TC.out
        unfold set3 set7 at n0 n1 n2 n3 n4 n5 n6 m0 m1 m2
        refine bodyPost_ret (v := .tuple #[.agg #[.int .i64 0, .int .i64 0, .int .i64 0, .int .i64 0, .int .i64 0, .int .i64 0, .int .i64 0], .agg #[.int .u64 0, .int .i64 0, .int .u64 0], .int .i64 2]) (by simp [results, Tryz.results16, go_sem, *]) rfl ?_
        rw [HE.out]
        exact ⟨rfl, by rw [HRR.out]; exact below_set3S (below_set7 Hb3.out (Nat.le_refl _) _ _ _ _ _ _ _) (Nat.le_succ _) _ _ _⟩
      · replace E := Pin.Aside.mk (E.out.trans (if_neg hlt))
        go_wp2_with fail
        refine (Hr2.out _ Hd3.out).mono ?_
        rintro e w5 ⟨rfl, hb5⟩
        have HSv5 := Pin.Aside.mk (HSv3.out.below hb5)
        have HR15 := Pin.Aside.mk (HR13.out.below hb5)
        have HR25 := Pin.Aside.mk (HR23.out.below hb5)
        have Hb5 := Pin.Aside.mk (Hb3.out.trans (hb5.mono (HS.out _ Hb3.out)))
        clear hb5 HR13 HR23 Hb3 Hd3 HSv3
        by_cases hc6 : c2 = 6
        · have kc : (c2 == 6) = true := by simpa using hc6
          obtain ⟨d0, d1, d2, d3, d4, d5, d6⟩ := HSv5.out
          dsimp only at d0 d1 d2 d3 d4 d5 d6
          have HE := Pin.Aside.mk (E.out.trans (if_pos hc6))
          obtain ⟨e0, e1, e2, e3, e4, e5, e6⟩ := HR15.out.get7
          obtain ⟨f0, f1, f2, f3, f4, f5, f6⟩ := HR15.out.fr7
          obtain ⟨p0, p1, p2⟩ := HR25.out.get3
          obtain ⟨q0, q1, q2⟩ := HR25.out.fr3
          have hne1 : ¬ R = R + 1 := by omega
          have hne2 : ¬ R + 1 = R := by omega
          have TC := Pin.Aside.mk (ten_cells HR15.out HR25.out (by omega) (.int .i64 s0) (.int .i64 s1) (.int .i64 s2) (.int .i64 s3) (.int .i64 s4) (.int .i64 s5) (.int .i64 s6) (.int .u64 0) (.int .i64 0) (.int .u64 0))
          clear E hc6
          go_wp2_with fail
          obtain ⟨⟨n0, n1, n2, n3, n4, n5, n6⟩, m0, m1, m2⟩ := TC.out
          unfold set3 set7 at n0 n1 n2 n3 n4 n5 n6 m0 m1 m2
          refine bodyPost_ret (v := .tuple #[.agg #[.int .i64 s0, .int .i64 s1, .int .i64 s2, .int .i64 s3, .int .i64 s4, .int .i64 s5, .int .i64 s6], .agg #[.int .u64 0, .int .i64 0, .int .u64 0], .int .i64 0]) (by simp [results, Tryz.results16, go_sem, *]) rfl ?_
          rw [HE.out]
          exact ⟨rfl, by rw [HRR.out]; exact below_set3S (below_set7 Hb5.out (Nat.le_refl _) _ _ _ _ _ _ _) (Nat.le_succ _) _ _ _⟩
        · have kc : (c2 == 6) = false := by simpa using hc6
          replace E := Pin.Aside.mk (E.out.trans (if_neg hc6))
          by_cases hc0 : c2 = 0
          · subst hc0
            replace E := Pin.Aside.mk (E.out.trans (if_neg (by simp)))
            clear hc6
            go_wp2_with fail
            refine (Hgh.out _).mono ?_
            rintro e w6 ⟨rfl, hb6⟩
            have hk6 := (Keep.of_below (S := fun _ => False) hb6 fun _ hk _ => hk).alloc (.cells #[.int .u64 t0, .int .i64 t1, .int .u64 t2] 26)
            have hT := SevAt.new w6 #[.int .u64 t0, .int .i64 t1, .int .u64 t2] 26 3 rfl
            have HSv7 := Pin.Aside.mk (HSv5.out.keep hk6 id)
            have HR17 := Pin.Aside.mk (HR15.out.keep hk6 id)
            have HR27 := Pin.Aside.mk (HR25.out.keep hk6 id)
            have Hb7 := Pin.Aside.mk (Hb5.out.trans (hk6.below (HS.out _ Hb5.out) fun _ q => q.elim))
            have HT := Pin.Aside.mk hT
            have l6 : R + 1 < w6.heap.size := by
              have := World.block_lt_of_cell? _ _ (HR25.out.at' 0 (by omega))
              have h7 := hb6.size
              replace this : R + 1 < w5.heap.size := this
              omega
            have lU : U < w6.heap.size := by
              have := World.block_lt_of_cell? _ _ HSv5.out.c0
              have h7 := hb6.size
              replace this : U < w5.heap.size := this
              omega
            clear hb6 hk6 HR15 HR25 Hb5 HSv5 hT
            cases hok with
            | false =>
              have HE := Pin.Aside.mk (E.out.trans (if_pos rfl))
              clear E
              go_upto_region 14 with fail
              generalize w6.alloc (.cells #[.int .u64 t0, .int .i64 t1, .int .u64 t2] 26) = w7 at *
              generalize w6.heap.size = V at *
              obtain ⟨e0, e1, e2, e3, e4, e5, e6⟩ := HR17.out.get7
              obtain ⟨f0, f1, f2, f3, f4, f5, f6⟩ := HR17.out.fr7
              obtain ⟨p0, p1, p2⟩ := HR27.out.get3
              obtain ⟨q0, q1, q2⟩ := HR27.out.fr3
              have hne1 : ¬ R = R + 1 := by omega
              have hne2 : ¬ R + 1 = R := by omega
              have TC := Pin.Aside.mk (ten_cells HR17.out HR27.out (by omega) (.int .i64 0) (.int .i64 0) (.int .i64 0) (.int .i64 0) (.int .i64 0) (.int .i64 0) (.int .i64 0) (.int .u64 0) (.int .i64 0) (.int .u64 0))
              go_wp2_with fail
              obtain ⟨⟨n0, n1, n2, n3, n4, n5, n6⟩, m0, m1, m2⟩ := TC.out
              unfold set3 set7 at n0 n1 n2 n3 n4 n5 n6 m0 m1 m2
              refine bodyPost_ret (v := .tuple #[.agg #[.int .i64 0, .int .i64 0, .int .i64 0, .int .i64 0, .int .i64 0, .int .i64 0, .int .i64 0], .agg #[.int .u64 0, .int .i64 0, .int .u64 0], .int .i64 2]) (by simp [results, Tryz.results16, go_sem, *]) rfl ?_
              rw [HE.out]
              exact ⟨rfl, by rw [HRR.out]; exact below_set3S (below_set7 Hb7.out (Nat.le_refl _) _ _ _ _ _ _ _) (Nat.le_succ _) _ _ _⟩
            | true =>
              have HE := Pin.Aside.mk (E.out.trans (if_neg (by simp)))
              clear E
              go_upto_region 14 with fail
              generalize w6.alloc (.cells #[.int .u64 t0, .int .i64 t1, .int .u64 t2] 26) = w7 at *
              generalize w6.heap.size = V at *
              obtain ⟨d0, d1, d2, d3, d4, d5, d6⟩ := HSv7.out
              dsimp only at d0 d1 d2 d3 d4 d5 d6
              obtain ⟨x0, x1, x2⟩ := HT.out.get3
              replace x0 : w7.cell? ⟨V, 0, none⟩ = some (.int .u64 t0) := x0
              replace x1 : w7.cell? ⟨V, 1, none⟩ = some (.int .i64 t1) := x1
              replace x2 : w7.cell? ⟨V, 2, none⟩ = some (.int .u64 t2) := x2
              have hneV : ¬ V = R := by omega
              have hneV1 : ¬ V = R + 1 := by omega
              obtain ⟨e0, e1, e2, e3, e4, e5, e6⟩ := HR17.out.get7
              obtain ⟨f0, f1, f2, f3, f4, f5, f6⟩ := HR17.out.fr7
              obtain ⟨p0, p1, p2⟩ := HR27.out.get3
              obtain ⟨q0, q1, q2⟩ := HR27.out.fr3
              have hne1 : ¬ R = R + 1 := by omega
              have hne2 : ¬ R + 1 = R := by omega
              have TC := Pin.Aside.mk (ten_cells HR17.out HR27.out (by omega) (.int .i64 s0) (.int .i64 s1) (.int .i64 s2) (.int .i64 s3) (.int .i64 s4) (.int .i64 s5) (.int .i64 s6) (.int .u64 t0) (.int .i64 t1) (.int .u64 t2))
              go_wp2_with fail
              go_region
              all_goals go_wp2_with fail
              all_goals
                obtain ⟨⟨n0, n1, n2, n3, n4, n5, n6⟩, m0, m1, m2⟩ := TC.out
                unfold set3 set7 at n0 n1 n2 n3 n4 n5 n6 m0 m1 m2
                refine bodyPost_ret (v := .tuple #[.agg #[.int .i64 s0, .int .i64 s1, .int .i64 s2, .int .i64 s3, .int .i64 s4, .int .i64 s5, .int .i64 s6], .agg #[.int .u64 t0, .int .i64 t1, .int .u64 t2], .int .i64 0]) (by simp [results, Tryz.results16, go_sem, *]) rfl ?_
                rw [HE.out]
                exact ⟨rfl, by rw [HRR.out]; exact Below.drew (below_set3S (below_set7 Hb7.out (Nat.le_refl _) _ _ _ _ _ _ _) (Nat.le_succ _) _ _ _)⟩
          · have kb : (c2 == 0) = false := by simpa using hc0
            clear hc6
            have HE := Pin.Aside.mk (E.out.trans (if_pos hc0))
            obtain ⟨e0, e1, e2, e3, e4, e5, e6⟩ := HR15.out.get7
            obtain ⟨f0, f1, f2, f3, f4, f5, f6⟩ := HR15.out.fr7
            obtain ⟨p0, p1, p2⟩ := HR25.out.get3
            obtain ⟨q0, q1, q2⟩ := HR25.out.fr3
            have hne1 : ¬ R = R + 1 := by omega
            have hne2 : ¬ R + 1 = R := by omega
            have TC := Pin.Aside.mk (ten_cells HR15.out HR25.out (by omega) (.int .i64 0) (.int .i64 0) (.int .i64 0) (.int .i64 0) (.int .i64 0) (.int .i64 0) (.int .i64 0) (.int .u64 0) (.int .i64 0) (.int .u64 0))
            clear E hc0
            go_wp2_with fail
            obtain ⟨⟨n0, n1, n2, n3, n4, n5, n6⟩, m0, m1, m2⟩ := TC.out
            unfold set3 set7 at n0 n1 n2 n3 n4 n5 n6 m0 m1 m2
            refine bodyPost_ret (v := .tuple #[.agg #[.int .i64 0, .int .i64 0, .int .i64 0, .int .i64 0, .int .i64 0, .int .i64 0, .int .i64 0], .agg #[.int .u64 0, .int .i64 0, .int .u64 0], .int .i64 c2]) (by simp [results, Tryz.results16, go_sem, *]) rfl ?_
            rw [HE.out]
            exact ⟨rfl, by rw [HRR.out]; exact below_set3S (below_set7 Hb5.out (Nat.le_refl _) _ _ _ _ _ _ _) (Nat.le_succ _) _ _ _⟩
  · have kb : (c1 != 0) = true := by simpa using hc1
    have HE := Pin.Aside.mk (E.out.trans (if_pos hc1))
    obtain ⟨e0, e1, e2, e3, e4, e5, e6⟩ := HR11.out.get7
    obtain ⟨f0, f1, f2, f3, f4, f5, f6⟩ := HR11.out.fr7
    obtain ⟨p0, p1, p2⟩ := HR21.out.get3
    obtain ⟨q0, q1, q2⟩ := HR21.out.fr3
    have hne1 : ¬ R = R + 1 := by omega
    have hne2 : ¬ R + 1 = R := by omega
    have TC := Pin.Aside.mk (ten_cells HR11.out HR21.out (by omega) (.int .i64 0) (.int .i64 0) (.int .i64 0) (.int .i64 0) (.int .i64 0) (.int .i64 0) (.int .i64 0) (.int .u64 0) (.int .i64 0) (.int .u64 0))
    clear E hc1
    go_wp2_with fail
    obtain ⟨⟨n0, n1, n2, n3, n4, n5, n6⟩, m0, m1, m2⟩ := TC.out
    unfold set3 set7 at n0 n1 n2 n3 n4 n5 n6 m0 m1 m2
    refine bodyPost_ret (v := .tuple #[.agg #[.int .i64 0, .int .i64 0, .int .i64 0, .int .i64 0, .int .i64 0, .int .i64 0, .int .i64 0], .agg #[.int .u64 0, .int .i64 0, .int .u64 0], .int .i64 c1]) (by simp [results, Tryz.results16, go_sem, *]) rfl ?_
    rw [HE.out]
    exact ⟨rfl, by rw [HRR.out]; exact below_set3S (below_set7 Hb1.out (Nat.le_refl _) _ _ _ _ _ _ _) (Nat.le_succ _) _ _ _⟩
end Go.Proofs.YtpfkpaombiikcaaGreatDoor
