/- The document's slots: a super is put. -/
import Derived.Test.YtpfkpaombiikcaaSlC
set_option maxRecDepth 16000
namespace Go.Pin
open Go.RowKit
set_option linter.unusedVariables false
set_option linter.unusedSimpArgs false
/-- What stands after so many fields. -/
def sacc (T0 T1 T2 T3 T4 T5 T6 : ByteArray) : Nat → ByteArray
  | 0 => T0
  | 1 => T0 ++ T1
  | 2 => T0 ++ T1 ++ T2
  | 3 => T0 ++ T1 ++ T2 ++ T3
  | 4 => T0 ++ T1 ++ T2 ++ T3 ++ T4
  | 5 => T0 ++ T1 ++ T2 ++ T3 ++ T4 ++ T5
  | _ => T0 ++ T1 ++ T2 ++ T3 ++ T4 ++ T5 ++ T6
structure SixAt (w : World) (B : Nat) (snap log area half goal step : Int) : Prop where
  c0 : w.cell? ⟨B, 0, none⟩ = some (.int .i64 snap)
  c1 : w.cell? ⟨B, 1, none⟩ = some (.int .i64 log)
  c2 : w.cell? ⟨B, 2, none⟩ = some (.int .i64 area)
  c3 : w.cell? ⟨B, 3, none⟩ = some (.int .i64 half)
  c4 : w.cell? ⟨B, 4, none⟩ = some (.int .i64 goal)
  c5 : w.cell? ⟨B, 5, none⟩ = some (.int .i64 step)
theorem SixAt.keep {S : Nat → Prop} {a w : World} {B : Nat} {snap log area half goal step : Int} (h : SixAt a B snap log area half goal step) (hk : Keep S a w) (hn : ¬ S B) : SixAt w B snap log area half goal step := ⟨hk.cell h.c0 hn, hk.cell h.c1 hn, hk.cell h.c2 hn, hk.cell h.c3 hn, hk.cell h.c4 hn, hk.cell h.c5 hn⟩
theorem SixAt.new (w : World) (snap log area half goal step : Int) (t : TypeId) : SixAt (w.alloc (.cells #[.int .i64 snap, .int .i64 log, .int .i64 area, .int .i64 half, .int .i64 goal, .int .i64 step] t)) w.heap.size snap log area half goal step :=
  ⟨World.cell?_alloc_at _ _ _ _ rfl, World.cell?_alloc_at _ _ _ _ rfl, World.cell?_alloc_at _ _ _ _ rfl, World.cell?_alloc_at _ _ _ _ rfl, World.cell?_alloc_at _ _ _ _ rfl, World.cell?_alloc_at _ _ _ _ rfl⟩
end Go.Pin
namespace Go.Proofs.Ytpfkpaombiikcaa
open Go.RowKit Go.Pin
set_option linter.unusedVariables false
set_option linter.unusedSimpArgs false
set_option maxHeartbeats 6400000 in
theorem slotsref_putsuper_yes (v snap log area half goal step : Int) (hr : (⟨v, snap, log, area, half, goal, step⟩ : Sup).right = true) (w : World) :
    Calls Try.prog 11 #[.agg #[.int .i64 v, .int .i64 snap, .int .i64 log, .int .i64 area, .int .i64 half, .int .i64 goal, .int .i64 step]] w fun e w' => e = .returned (.tuple #[.string (supS ⟨v, snap, log, area, half, goal, step⟩), .bool true]) ∧ Below w.heap.size w w' := by
  have E : supS ⟨v, snap, log, area, half, goal, step⟩ = fixedS v.toNat 1 ++ snum v snap.toNat 2 ++ snum v log.toNat 2 ++ snum v area.toNat 1 ++ snum v half.toNat 1 ++ snum v goal.toNat 1 ++ snum v step.toNat 1 := rfl
  rw [E]
  clear E
  obtain ⟨⟨b0, b1⟩, ⟨b2, b3⟩, ⟨b4, b5⟩, ⟨b6, b7⟩, ⟨b8, b9⟩, ⟨b10, b11⟩, ⟨b12, b13⟩, _⟩ := Sup.right_iff hr
  dsimp only at b0 b1 b2 b3 b4 b5 b6 b7 b8 b9 b10 b11 b12 b13
  have Hr := Pin.Aside.mk fun W => slotsref_right ⟨v, snap, log, area, half, goal, step⟩ W
  rw [hr] at Hr
  have Hf := Pin.Aside.mk fun W => varref_fixed v 1 (by omega) (by omega) (by omega) (by omega) W
  have z0 : (fixedS v.toNat 1).size ≤ 10 := by
    unfold fixedS
    rw [if_neg (by omega), size_mk, fixedL_len]; decide
  have Hn0 := Pin.Aside.mk fun W => slotsref_number v snap 2 (by omega) (by omega) (by omega) (by omega) W
  have z1 := snum_size v snap.toNat 2
  have Hn1 := Pin.Aside.mk fun W => slotsref_number v log 2 (by omega) (by omega) (by omega) (by omega) W
  have z2 := snum_size v log.toNat 2
  have Hn2 := Pin.Aside.mk fun W => slotsref_number v area 1 (by omega) (by omega) (by omega) (by omega) W
  have z3 := snum_size v area.toNat 1
  have Hn3 := Pin.Aside.mk fun W => slotsref_number v half 1 (by omega) (by omega) (by omega) (by omega) W
  have z4 := snum_size v half.toNat 1
  have Hn4 := Pin.Aside.mk fun W => slotsref_number v goal 1 (by omega) (by omega) (by omega) (by omega) W
  have z5 := snum_size v goal.toNat 1
  have Hn5 := Pin.Aside.mk fun W => slotsref_number v step 1 (by omega) (by omega) (by omega) (by omega) W
  have z6 := snum_size v step.toNat 1
  generalize fixedS v.toNat 1 = T0 at *
  obtain ⟨T1, e1⟩ : ∃ T, snum v snap.toNat 2 = T := ⟨_, rfl⟩
  rw [e1] at z1 Hn0
  rw [e1]
  obtain ⟨T2, e2⟩ : ∃ T, snum v log.toNat 2 = T := ⟨_, rfl⟩
  rw [e2] at z2 Hn1
  rw [e2]
  obtain ⟨T3, e3⟩ : ∃ T, snum v area.toNat 1 = T := ⟨_, rfl⟩
  rw [e3] at z3 Hn2
  rw [e3]
  obtain ⟨T4, e4⟩ : ∃ T, snum v half.toNat 1 = T := ⟨_, rfl⟩
  rw [e4] at z4 Hn3
  rw [e4]
  obtain ⟨T5, e5⟩ : ∃ T, snum v goal.toNat 1 = T := ⟨_, rfl⟩
  rw [e5] at z5 Hn4
  rw [e5]
  obtain ⟨T6, e6⟩ : ∃ T, snum v step.toNat 1 = T := ⟨_, rfl⟩
  rw [e6] at z6 Hn5
  rw [e6]
  clear e1 e2 e3 e4 e5 e6 hr
  have hw0 : IntKind.u64.wrap v = v := by rw [IntKind.wrap_u64]; omega
  have hw1 : IntKind.u64.wrap snap = snap := by rw [IntKind.wrap_u64]; omega
  have hw2 : IntKind.u64.wrap log = log := by rw [IntKind.wrap_u64]; omega
  have hw3 : IntKind.u64.wrap area = area := by rw [IntKind.wrap_u64]; omega
  have hw4 : IntKind.u64.wrap half = half := by rw [IntKind.wrap_u64]; omega
  have hw5 : IntKind.u64.wrap goal = goal := by rw [IntKind.wrap_u64]; omega
  have hw6 : IntKind.u64.wrap step = step := by rw [IntKind.wrap_u64]; omega
  have hn := SevenAt.new w ⟨v, snap, log, area, half, goal, step⟩ 35
  have hb := (Below.refl w.heap.size w).alloc (Nat.le_refl _) (.cells #[.int .i64 v, .int .i64 snap, .int .i64 log, .int .i64 area, .int .i64 half, .int .i64 goal, .int .i64 step] 35)
  unfold sevenO at hn
  dsimp only at hn
  have HN := Pin.Aside.mk hn
  have HZ := Pin.Aside.mk (show T0.size ≤ 10 ∧ T1.size ≤ 10 ∧ T2.size ≤ 10 ∧ T3.size ≤ 10 ∧ T4.size ≤ 10 ∧ T5.size ≤ 10 ∧ T6.size ≤ 10 from ⟨z0, z1, z2, z3, z4, z5, z6⟩)
  clear hn z0 z1 z2 z3 z4 z5 z6
  go_enter Try.func11, Try.ntmps11
  go_wp2_with fail
  generalize w.alloc (.cells #[.int .i64 v, .int .i64 snap, .int .i64 log, .int .i64 area, .int .i64 half, .int .i64 goal, .int .i64 step] 35) = w0 at *
  generalize hRR : w.heap.size = R at *
  have HRR := Pin.Aside.mk hRR
  have HS := Pin.Aside.mk (show ∀ x, Below R w x → R ≤ x.heap.size from fun x h => by have := h.size; omega)
  clear hRR
  refine (Hr.out _).mono ?_
  rintro e w1 ⟨rfl, hbb⟩
  have hk := Keep.of_below (S := fun _ => False) hbb fun _ hk _ => hk
  replace HN := Pin.Aside.mk (HN.out.keep hk id)
  replace hb := hb.trans (hk.below (HS.out _ hb) fun _ q => q.elim)
  clear hbb hk
  obtain ⟨c0, c1, c2, c3, c4, c5, c6⟩ := HN.out
  dsimp only at c0 c1 c2 c3 c4 c5 c6
  go_wp2_with fail
  refine (Hf.out _).mono ?_
  rintro e w2 ⟨rfl, hbb⟩
  clear c0 c1 c2 c3 c4 c5 c6
  have hk := Keep.of_below (S := fun _ => False) hbb fun _ hk _ => hk
  replace HN := Pin.Aside.mk (HN.out.keep hk id)
  replace hb := hb.trans (hk.below (HS.out _ hb) fun _ q => q.elim)
  clear hbb hk
  have HA := Pin.Aside.mk (SixAt.new w2 snap log area half goal step 3)
  obtain ⟨c0, c1, c2, c3, c4, c5, c6⟩ := HN.out
  dsimp only at c0 c1 c2 c3 c4 c5 c6
  go_upto_region 6 with fail
  have hk := (Keep.refl (fun _ => False) w2).alloc (.cells #[.int .i64 snap, .int .i64 log, .int .i64 area, .int .i64 half, .int .i64 goal, .int .i64 step] 3)
  replace HN := Pin.Aside.mk (HN.out.keep hk id)
  replace hb := hb.trans (hk.below (HS.out _ hb) fun _ q => q.elim)
  clear c0 c1 c2 c3 c4 c5 c6 hk
  generalize w2.alloc (.cells #[.int .i64 snap, .int .i64 log, .int .i64 area, .int .i64 half, .int .i64 goal, .int .i64 step] 3) = w3 at *
  generalize w2.heap.size = A at *
  go_wp2_with fail
  go_loopw [5, 7] (fun o i wr => ∃ k : Nat, k ≤ 6 ∧ o = .string (sacc T0 T1 T2 T3 T4 T5 T6 k) ∧ i = .int .i64 k ∧ Pin.Aside (SevenAt wr R ⟨v, snap, log, area, half, goal, step⟩) ∧ Pin.Aside (SixAt wr A snap log area half goal step) ∧ Below R w wr) (fun _ i _ => 7 - (intOf i).toNat)
  case atStart => exact ⟨0, by omega, rfl, rfl, HN, HA, hb⟩
  case round =>
    clear hb HN HA
    obtain ⟨k, hk6, rfl, rfl, HN, HA, hb⟩ := hrel
    have hcs : k = 0 ∨ k = 1 ∨ k = 2 ∨ k = 3 ∨ k = 4 ∨ k = 5 ∨ k = 6 := by omega
    clear hk6
    rcases hcs with rfl | rfl | rfl | rfl | rfl | rfl | rfl
    · replace HN : Pin.Aside (SevenAt wr R ⟨v, snap, log, area, half, goal, step⟩) := HN
      have hsz : ¬ 9223372036854775807 < T0.size + T1.size := by have := HZ.out; omega
      have es : sacc T0 T1 T2 T3 T4 T5 T6 0 = T0 := rfl
      rw [es]
      go_upto_region 12 with fail
      have k0 : ∀ s' : KW (fun _ => False) wr, s'.w.cell? ⟨R, 0, none⟩ = some (.int .i64 v) := fun s' => s'.keep.cell HN.out.c0 id
      have k1 : ∀ s' : KW (fun _ => False) wr, s'.w.cell? ⟨A, 0, none⟩ = some (.int .i64 snap) := fun s' => s'.keep.cell HA.out.c0 id
      refine wp_region_keep (fun _ => False) (by kernel_rfl) (by kernel_rfl) ?_
      repeat (go_big_quiet_step ((go_at_call 29; with_reducible exact KW.calls (Hn0.out _))))
      refine wpQuiet_nil ?_
      intro s4'
      replace HN := Pin.Aside.mk (HN.out.keep s4'.keep id)
      replace HA := Pin.Aside.mk (HA.out.keep s4'.keep id)
      replace hb := hb.trans (s4'.keep.below (HS.out _ hb) fun _ q => q.elim)
      clear k0 k1
      generalize s4'.w = w11 at *
      go_wp2_with fail
      go_roundw
      case rel => exact ⟨1, by omega, rfl, rfl, HN, HA, hb⟩
      case measure => simp [intOf]
    · replace HN : Pin.Aside (SevenAt wr R ⟨v, snap, log, area, half, goal, step⟩) := HN
      have hsz : ¬ 9223372036854775807 < T0.size + T1.size + T2.size := by have := HZ.out; omega
      have es : sacc T0 T1 T2 T3 T4 T5 T6 1 = T0 ++ T1 := rfl
      rw [es]
      go_upto_region 12 with fail
      have k0 : ∀ s' : KW (fun _ => False) wr, s'.w.cell? ⟨R, 0, none⟩ = some (.int .i64 v) := fun s' => s'.keep.cell HN.out.c0 id
      have k1 : ∀ s' : KW (fun _ => False) wr, s'.w.cell? ⟨A, 1, none⟩ = some (.int .i64 log) := fun s' => s'.keep.cell HA.out.c1 id
      refine wp_region_keep (fun _ => False) (by kernel_rfl) (by kernel_rfl) ?_
      repeat (go_big_quiet_step ((go_at_call 29; with_reducible exact KW.calls (Hn1.out _))))
      refine wpQuiet_nil ?_
      intro s4'
      replace HN := Pin.Aside.mk (HN.out.keep s4'.keep id)
      replace HA := Pin.Aside.mk (HA.out.keep s4'.keep id)
      replace hb := hb.trans (s4'.keep.below (HS.out _ hb) fun _ q => q.elim)
      clear k0 k1
      generalize s4'.w = w11 at *
      go_wp2_with fail
      go_roundw
      case rel => exact ⟨2, by omega, rfl, rfl, HN, HA, hb⟩
      case measure => simp [intOf]
    · replace HN : Pin.Aside (SevenAt wr R ⟨v, snap, log, area, half, goal, step⟩) := HN
      have hsz : ¬ 9223372036854775807 < T0.size + T1.size + T2.size + T3.size := by have := HZ.out; omega
      have es : sacc T0 T1 T2 T3 T4 T5 T6 2 = T0 ++ T1 ++ T2 := rfl
      rw [es]
      go_upto_region 12 with fail
      have k0 : ∀ s' : KW (fun _ => False) wr, s'.w.cell? ⟨R, 0, none⟩ = some (.int .i64 v) := fun s' => s'.keep.cell HN.out.c0 id
      have k1 : ∀ s' : KW (fun _ => False) wr, s'.w.cell? ⟨A, 2, none⟩ = some (.int .i64 area) := fun s' => s'.keep.cell HA.out.c2 id
      refine wp_region_keep (fun _ => False) (by kernel_rfl) (by kernel_rfl) ?_
      repeat (go_big_quiet_step ((go_at_call 29; with_reducible exact KW.calls (Hn2.out _))))
      refine wpQuiet_nil ?_
      intro s4'
      replace HN := Pin.Aside.mk (HN.out.keep s4'.keep id)
      replace HA := Pin.Aside.mk (HA.out.keep s4'.keep id)
      replace hb := hb.trans (s4'.keep.below (HS.out _ hb) fun _ q => q.elim)
      clear k0 k1
      generalize s4'.w = w11 at *
      go_wp2_with fail
      go_roundw
      case rel => exact ⟨3, by omega, rfl, rfl, HN, HA, hb⟩
      case measure => simp [intOf]
    · replace HN : Pin.Aside (SevenAt wr R ⟨v, snap, log, area, half, goal, step⟩) := HN
      have hsz : ¬ 9223372036854775807 < T0.size + T1.size + T2.size + T3.size + T4.size := by have := HZ.out; omega
      have es : sacc T0 T1 T2 T3 T4 T5 T6 3 = T0 ++ T1 ++ T2 ++ T3 := rfl
      rw [es]
      go_upto_region 12 with fail
      have k0 : ∀ s' : KW (fun _ => False) wr, s'.w.cell? ⟨R, 0, none⟩ = some (.int .i64 v) := fun s' => s'.keep.cell HN.out.c0 id
      have k1 : ∀ s' : KW (fun _ => False) wr, s'.w.cell? ⟨A, 3, none⟩ = some (.int .i64 half) := fun s' => s'.keep.cell HA.out.c3 id
      refine wp_region_keep (fun _ => False) (by kernel_rfl) (by kernel_rfl) ?_
      repeat (go_big_quiet_step ((go_at_call 29; with_reducible exact KW.calls (Hn3.out _))))
      refine wpQuiet_nil ?_
      intro s4'
      replace HN := Pin.Aside.mk (HN.out.keep s4'.keep id)
      replace HA := Pin.Aside.mk (HA.out.keep s4'.keep id)
      replace hb := hb.trans (s4'.keep.below (HS.out _ hb) fun _ q => q.elim)
      clear k0 k1
      generalize s4'.w = w11 at *
      go_wp2_with fail
      go_roundw
      case rel => exact ⟨4, by omega, rfl, rfl, HN, HA, hb⟩
      case measure => simp [intOf]
    · replace HN : Pin.Aside (SevenAt wr R ⟨v, snap, log, area, half, goal, step⟩) := HN
      have hsz : ¬ 9223372036854775807 < T0.size + T1.size + T2.size + T3.size + T4.size + T5.size := by have := HZ.out; omega
      have es : sacc T0 T1 T2 T3 T4 T5 T6 4 = T0 ++ T1 ++ T2 ++ T3 ++ T4 := rfl
      rw [es]
      go_upto_region 12 with fail
      have k0 : ∀ s' : KW (fun _ => False) wr, s'.w.cell? ⟨R, 0, none⟩ = some (.int .i64 v) := fun s' => s'.keep.cell HN.out.c0 id
      have k1 : ∀ s' : KW (fun _ => False) wr, s'.w.cell? ⟨A, 4, none⟩ = some (.int .i64 goal) := fun s' => s'.keep.cell HA.out.c4 id
      refine wp_region_keep (fun _ => False) (by kernel_rfl) (by kernel_rfl) ?_
      repeat (go_big_quiet_step ((go_at_call 29; with_reducible exact KW.calls (Hn4.out _))))
      refine wpQuiet_nil ?_
      intro s4'
      replace HN := Pin.Aside.mk (HN.out.keep s4'.keep id)
      replace HA := Pin.Aside.mk (HA.out.keep s4'.keep id)
      replace hb := hb.trans (s4'.keep.below (HS.out _ hb) fun _ q => q.elim)
      clear k0 k1
      generalize s4'.w = w11 at *
      go_wp2_with fail
      go_roundw
      case rel => exact ⟨5, by omega, rfl, rfl, HN, HA, hb⟩
      case measure => simp [intOf]
    · replace HN : Pin.Aside (SevenAt wr R ⟨v, snap, log, area, half, goal, step⟩) := HN
      have hsz : ¬ 9223372036854775807 < T0.size + T1.size + T2.size + T3.size + T4.size + T5.size + T6.size := by have := HZ.out; omega
      have es : sacc T0 T1 T2 T3 T4 T5 T6 5 = T0 ++ T1 ++ T2 ++ T3 ++ T4 ++ T5 := rfl
      rw [es]
      go_upto_region 12 with fail
      have k0 : ∀ s' : KW (fun _ => False) wr, s'.w.cell? ⟨R, 0, none⟩ = some (.int .i64 v) := fun s' => s'.keep.cell HN.out.c0 id
      have k1 : ∀ s' : KW (fun _ => False) wr, s'.w.cell? ⟨A, 5, none⟩ = some (.int .i64 step) := fun s' => s'.keep.cell HA.out.c5 id
      refine wp_region_keep (fun _ => False) (by kernel_rfl) (by kernel_rfl) ?_
      repeat (go_big_quiet_step ((go_at_call 29; with_reducible exact KW.calls (Hn5.out _))))
      refine wpQuiet_nil ?_
      intro s4'
      replace HN := Pin.Aside.mk (HN.out.keep s4'.keep id)
      replace HA := Pin.Aside.mk (HA.out.keep s4'.keep id)
      replace hb := hb.trans (s4'.keep.below (HS.out _ hb) fun _ q => q.elim)
      clear k0 k1
      generalize s4'.w = w11 at *
      go_wp2_with fail
      go_roundw
      case rel => exact ⟨6, by omega, rfl, rfl, HN, HA, hb⟩
      case measure => simp [intOf]
    · go_wp2_with fail
      go_ret2
      exact ⟨rfl, by rw [HRR.out]; exact hb⟩
theorem slotsref_putsuper (s : Sup) (w : World) : Calls Try.prog 11 #[.agg #[.int .i64 s.v, .int .i64 s.snap, .int .i64 s.log, .int .i64 s.area, .int .i64 s.half, .int .i64 s.goal, .int .i64 s.step]] w fun e w' => e = .returned (.tuple #[.string (supput s).1, .bool (supput s).2]) ∧ Below w.heap.size w w' := by
  obtain ⟨b, hb⟩ : ∃ b, s.right = b := ⟨_, rfl⟩
  have E := show supput s = if s.right = true then (supS s, true) else (⟨#[]⟩, false) from rfl
  rw [hb] at E
  cases b with
  | true =>
    rw [E, if_pos rfl]
    obtain ⟨v, snap, log, area, half, goal, step⟩ := s
    exact slotsref_putsuper_yes v snap log area half goal step hb w
  | false =>
    rw [E, if_neg (by simp)]
    have Hr := Pin.Aside.mk fun W => slotsref_right s W
    rw [hb] at Hr
    have hb0 := (Below.refl w.heap.size w).alloc (Nat.le_refl _) (sevenO s 35)
    have hn := SevenAt.new w s 35
    unfold sevenO at hb0 hn
    clear E hb
    obtain ⟨v, snap, log, area, half, goal, step⟩ := s
    dsimp only at Hr hb0 hn
    obtain ⟨c0, c1, c2, c3, c4, c5, c6⟩ := hn
    dsimp only at c0 c1 c2 c3 c4 c5 c6
    go_enter Try.func11, Try.ntmps11
    go_wp2_with fail
    refine (Hr.out _).mono ?_
    rintro e w1 ⟨rfl, hbb⟩
    have hE := Below.next hb0 hbb
    clear hbb c0 c1 c2 c3 c4 c5 c6
    go_wp2_with fail
    go_ret2
    exact ⟨rfl, hE⟩
end Go.Proofs.Ytpfkpaombiikcaa
