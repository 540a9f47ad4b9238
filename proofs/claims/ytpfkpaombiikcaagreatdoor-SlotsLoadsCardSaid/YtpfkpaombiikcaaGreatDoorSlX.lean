import Derived.Test.YtpfkpaombiikcaaGreatDoorSlW
import Derived.Test.YtpfkpaombiikcaaGreatDoorBldX
import Derived.Deep.RegionHeld3
/- slots: PutSuper. -/
set_option maxRecDepth 16000
namespace Go.Pin
open Go.RowKit
set_option linter.unusedVariables false
set_option linter.unusedSimpArgs false
theorem held_blockS {k : Nat} {a w : World} {o : Obj} (hb : Below a.heap.size a w) (h : a.heap[k]? = some o) : w.heap[k]? = some o :=
  (hb.block k (Array.getElem?_eq_some_iff.1 h).1).trans h
theorem row_cells {w : World} {X : Nat} {t : TypeId} {v0 v1 v2 v3 : Value} (h : w.heap[X]? = some (.cells #[v0, v1, v2, v3] t (0, 0))) : w.cell? ⟨X, 0, none⟩ = some v0 ∧ w.cell? ⟨X, 1, none⟩ = some v1 ∧ w.cell? ⟨X, 2, none⟩ = some v2 ∧ w.cell? ⟨X, 3, none⟩ = some v3 := by
  refine ⟨?_, ?_, ?_, ?_⟩ <;> simp [World.cell?, h]
theorem supS_parts (s : Sup) : supS s = ⟨((fixedS s.v.toNat 1).data.toList ++ ((snum s.v s.snap.toNat 2).data.toList ++ ((snum s.v s.log.toNat 2).data.toList ++ ((snum s.v s.area.toNat 1).data.toList ++ ((snum s.v s.half.toNat 1).data.toList ++ ((snum s.v s.goal.toNat 1).data.toList ++ (snum s.v s.step.toNat 1).data.toList)))))).toArray⟩ := by
  apply bs_ext
  unfold supS
  simp only [ByteArray.data_append, Array.toList_append, List.append_assoc]
end Go.Pin
namespace Go.Proofs.YtpfkpaombiikcaaGreatDoor
open Go.RowKit Go.Pin
set_option linter.unusedVariables false
set_option linter.unusedSimpArgs false
theorem slots_num1 (n k : Int) (hn0 : 0 ≤ n) (hn : n ≤ 18446744073709551615) (hk0 : 0 ≤ k) (hk : k ≤ 8) (w : World) :
    Calls Tryz.prog 50 #[.int .u64 n, .int .i64 k] w fun e w' => e = .returned (.string (snum 1 n.toNat k)) ∧ Below w.heap.size w w' := var_fixed n k hn0 hn hk0 hk w
theorem slots_num2 (n k : Int) (hn0 : 0 ≤ n) (hn : n ≤ 18446744073709551615) (hk0 : 0 ≤ k) (hk : k ≤ 8) (w : World) :
    Calls Tryz.prog 76 #[.int .u64 n, .int .i64 k] w fun e w' => e = .returned (.string (snum 2 n.toNat k)) ∧ Below w.heap.size w w' := slots_w2 n k hn0 hn w
set_option maxHeartbeats 4000000 in
theorem slots_putsuper1 (s : Sup) (hr : s.right = true) (hv : s.v = 1) (w : World) : Calls Tryz.prog 24 #[.agg #[.int .i64 s.v, .int .i64 s.snap, .int .i64 s.log, .int .i64 s.area, .int .i64 s.half, .int .i64 s.goal, .int .i64 s.step]] w fun e w' => e = .returned (.tuple #[.string (supS s), .bool true]) ∧ Below w.heap.size w w' := by
  have h := Sup.right_iff hr
  have Hr := Pin.Aside.mk fun W => slots_right s W
  rw [hr] at Hr
  rw [supS_parts]
  obtain ⟨v, snap, log, area, half, goal, step⟩ := s
  dsimp only at h hv Hr ⊢
  subst hv
  obtain ⟨_, h1, h2, h3, h4, h5, h6, _⟩ := h
  have H0 := Pin.Aside.mk fun W => slots_num1 1 1 (by omega) (by omega) (by omega) (by omega) W
  have HA := Pin.Aside.mk fun W => slots_num1 snap 2 (by omega) (by omega) (by omega) (by omega) W
  have HB := Pin.Aside.mk fun W => slots_num1 log 2 (by omega) (by omega) (by omega) (by omega) W
  have HC := Pin.Aside.mk fun W => slots_num1 area 1 (by omega) (by omega) (by omega) (by omega) W
  have HD := Pin.Aside.mk fun W => slots_num1 half 1 (by omega) (by omega) (by omega) (by omega) W
  have HE := Pin.Aside.mk fun W => slots_num1 goal 1 (by omega) (by omega) (by omega) (by omega) W
  have HF := Pin.Aside.mk fun W => slots_num1 step 1 (by omega) (by omega) (by omega) (by omega) W
  have z0 := snum_size 1 (1 : Int).toNat 1
  have zA := snum_size 1 snap.toNat 2
  have zB := snum_size 1 log.toNat 2
  have zC := snum_size 1 area.toNat 1
  have zD := snum_size 1 half.toNat 1
  have zE := snum_size 1 goal.toNat 1
  have zF := snum_size 1 step.toNat 1
  have n0 : 0 < (snum 1 (1 : Int).toNat 1).size := by decide
  have e0 : fixedS (1 : Int).toNat 1 = snum 1 (1 : Int).toNat 1 := rfl
  rw [e0]
  clear e0
  have u1 : IntKind.u64.wrap snap = snap := by rw [IntKind.wrap_u64]; omega
  have u2 : IntKind.u64.wrap log = log := by rw [IntKind.wrap_u64]; omega
  have u3 : IntKind.u64.wrap area = area := by rw [IntKind.wrap_u64]; omega
  have u4 : IntKind.u64.wrap half = half := by rw [IntKind.wrap_u64]; omega
  have u5 : IntKind.u64.wrap goal = goal := by rw [IntKind.wrap_u64]; omega
  have u6 : IntKind.u64.wrap step = step := by rw [IntKind.wrap_u64]; omega
  have u0 : IntKind.u64.wrap 1 = 1 := by rw [IntKind.wrap_u64]; omega
  generalize snum 1 (1 : Int).toNat 1 = T0 at *
  generalize snum 1 snap.toNat 2 = TA at *
  generalize snum 1 log.toNat 2 = TB at *
  generalize snum 1 area.toNat 1 = TC at *
  generalize snum 1 half.toNat 1 = TD at *
  generalize snum 1 goal.toNat 1 = TE at *
  generalize snum 1 step.toNat 1 = TF at *
  have hc1 : ¬ 9223372036854775807 < T0.size + TA.size := by omega
  have hc2 : ¬ 9223372036854775807 < T0.size + TA.size + TB.size := by omega
  have hn := SevenAt.new w ⟨1, snap, log, area, half, goal, step⟩ 23
  have hb0 := (Below.refl w.heap.size w).alloc (Nat.le_refl _) (sevenO ⟨1, snap, log, area, half, goal, step⟩ 23)
  have Hn := Pin.Aside.mk hn
  unfold sevenO at hb0
  clear hn hr
  obtain ⟨z, hzv⟩ : ∃ z, ∀ w, (zeroValue 71).run Tryz.prog w = .ok z w := ⟨_, fun _ => rfl⟩
  go_enter Tryz.func24, Tryz.ntmps24
  go_wp2_with fail
  refine (Hr.out _).mono ?_
  rintro e w1 ⟨rfl, hb⟩
  have Hn1 := Pin.Aside.mk (Hn.out.below hb)
  replace hb0 := hb0.trans (hb.mono (by simp))
  clear hb Hn
  go_wp2_with fail
  refine (slots_writers _).mono ?_
  rintro e w2 ⟨m, rfl, hm, hM, hb⟩
  have hl := run_map_lookup (P := Tryz.prog) (t := 99) hM Tryz.underlying99 Tryz.underlying3 1 (hzv _)
  rw [mget_twoS, if_pos rfl] at hl
  simp only [Option.getD_some, Option.isSome_some, wF, wV] at hl
  have Hn2 := Pin.Aside.mk (Hn1.out.below hb)
  replace hb0 := Below.next hb0 hb
  obtain ⟨c0, c1, c2, c3, c4, c5, c6⟩ := Hn2.out
  clear hb hM Hn1 hm
  go_upto_region 6 with fail
  have hBld := Bld.new w2 w2.heap.size (Nat.le_refl _)
  have hk3 : Keep (fun _ => False) w2 (w2.alloc (.cells #[.pointer none, .slice none 0 0] 91)) := (Keep.refl _ _).alloc _
  have Hn3 := Pin.Aside.mk (Hn2.out.keep hk3 id)
  have hb3 := hb0.alloc hb0.size (.cells #[.pointer none, .slice none 0 0] 91)
  have hU : w.heap.size < w2.heap.size := World.block_lt_of_cell? (a := ⟨w.heap.size, 0, none⟩) _ c0
  have hP : w2.heap.size ≤ (w2.alloc (.cells #[.pointer none, .slice none 0 0] 91)).heap.size := by simp
  clear c0 c1 c2 c3 c4 c5 c6 hb0 hk3 Hn2 hl
  obtain ⟨c0, c1, c2, c3, c4, c5, c6⟩ := Hn3.out
  generalize w2.alloc (.cells #[.pointer none, .slice none 0 0] 91) = w3 at *
  generalize w2.heap.size = P at *
  generalize hUU : w.heap.size = U at *
  have HUU := Pin.Aside.mk hUU
  have HS := Pin.Aside.mk (show ∀ x, Below U w x → U ≤ x.heap.size from fun x h => by have := h.size; omega)
  have HBld := Pin.Aside.mk hBld
  have Hb3 := Pin.Aside.mk hb3
  clear hUU hBld hb3
  dsimp only at c0 c1 c2 c3 c4 c5 c6
  go_region_held3 (fun w' => w'.cell? ⟨U, 0, none⟩ = some (.int .i64 1) ∧ w'.cell? ⟨U, 1, none⟩ = some (.int .i64 snap) ∧ w'.cell? ⟨U, 2, none⟩ = some (.int .i64 log)) (first | go_keep | exact hq4 | exact hq5 | exact hq6 | exact hq7) (first
    | (go_at_call 50
       with_reducible refine (H0.out _).mono ?_
       rintro e w4 ⟨rfl, hb4⟩
       have hk4 := Keep.of_below (S := fun _ => False) hb4 fun _ hk _ => hk
       have hq4 := And.intro (hk4.cell (p := ⟨U, 0, none⟩) c0 id) (And.intro (hk4.cell (p := ⟨U, 1, none⟩) c1 id) (hk4.cell (p := ⟨U, 2, none⟩) c2 id))
       have Hk4 := Pin.Aside.mk hk4
       clear hb4 hk4)
    | (go_at_call 50
       with_reducible refine (HA.out _).mono ?_
       rintro e w5 ⟨rfl, hb5⟩
       have hk5 := Keep.of_below (S := fun _ => False) hb5 fun _ hk _ => hk
       have hq5 := And.intro (hk5.cell (p := ⟨U, 0, none⟩) hq4.1 id) (And.intro (hk5.cell (p := ⟨U, 1, none⟩) hq4.2.1 id) (hk5.cell (p := ⟨U, 2, none⟩) hq4.2.2 id))
       have Hk5 := Pin.Aside.mk hk5
       clear hb5 hk5)
    | (go_at_call 50
       with_reducible refine (HB.out _).mono ?_
       rintro e w6 ⟨rfl, hb6⟩
       have hk6 := Keep.of_below (S := fun _ => False) hb6 fun _ hk _ => hk
       have hq6 := And.intro (hk6.cell (p := ⟨U, 0, none⟩) hq5.1 id) (And.intro (hk6.cell (p := ⟨U, 1, none⟩) hq5.2.1 id) (hk6.cell (p := ⟨U, 2, none⟩) hq5.2.2 id))
       have Hk6 := Pin.Aside.mk ((((Keep.refl (fun _ => False) w3).drew.trans Hk4.out).trans Hk5.out).trans hk6)
       clear hb6 hk6)
    | (go_at_call 49
       with_reducible refine (sb_writeStringX P P [] (T0 ++ TA ++ TB) _ (HBld.out.keep Hk6.out) (by simp only [ByteArray.size_append, List.length_nil]; omega) (by have := Hk6.out.size; omega)).mono ?_
       rintro e w7 ⟨rfl, hB7, hb7, ho7⟩
       have hk7 : Keep (fun k => P ≤ k) w6 w7 := Keep.of_below hb7 fun k _ hn => by omega
       have hq7 := And.intro (hk7.cell (p := ⟨U, 0, none⟩) hq6.1 (show ¬ (P ≤ U) by omega)) (And.intro (hk7.cell (p := ⟨U, 1, none⟩) hq6.2.1 (show ¬ (P ≤ U) by omega)) (hk7.cell (p := ⟨U, 2, none⟩) hq6.2.2 (show ¬ (P ≤ U) by omega)))
       have HB7 := Pin.Aside.mk hB7
       have Hk7 := Pin.Aside.mk (((Hk6.out).mono (T := fun k => P ≤ k) fun _ q => q.elim).trans hk7)
       clear hb7 hk7 ho7 hB7))
  replace c3 := Hk7.out.cell c3 (show ¬ (P ≤ U) by omega)
  replace c4 := Hk7.out.cell c4 (show ¬ (P ≤ U) by omega)
  replace c5 := Hk7.out.cell c5 (show ¬ (P ≤ U) by omega)
  replace c6 := Hk7.out.cell c6 (show ¬ (P ≤ U) by omega)
  have hb7 : Below U w w7 := Hb3.out.trans (Hk7.out.below (by omega) fun k q => by omega)
  have hlt7 := HB7.out.lt
  clear hq4 hq5 hq6 hq7 Hk4 Hk5 Hk6 Hk7 Hb3 HBld c0 c1 c2
  go_wp2_with fail
  have hX8 : (w7.alloc (.cells #[.int .i64 area, .int .i64 half, .int .i64 goal, .int .i64 step] 3)).heap[w7.heap.size]? = some (.cells #[.int .i64 area, .int .i64 half, .int .i64 goal, .int .i64 step] 3 (0, 0)) := Go.heap_alloc_new w7 _
  have hk8 : Keep (fun _ => False) w7 (w7.alloc (.cells #[.int .i64 area, .int .i64 half, .int .i64 goal, .int .i64 step] 3)) := (Keep.refl _ _).alloc _
  have HX8 := Pin.Aside.mk hX8
  have HB8 := Pin.Aside.mk (HB7.out.keep hk8)
  have Hb8 := Pin.Aside.mk (hb7.alloc (HS.out _ hb7) (.cells #[.int .i64 area, .int .i64 half, .int .i64 goal, .int .i64 step] 3))
  have hP8 : P ≤ (w7.alloc (.cells #[.int .i64 area, .int .i64 half, .int .i64 goal, .int .i64 step] 3)).heap.size := by have := hk8.size; omega
  have hXP : w7.heap.size ≠ P := by omega
  clear hX8 hk8 hb7 HB7 c3 c4 c5 c6
  generalize w7.alloc (.cells #[.int .i64 area, .int .i64 half, .int .i64 goal, .int .i64 step] 3) = w8 at *
  generalize w7.heap.size = X at *
  obtain ⟨d0, d1, d2, d3⟩ := row_cells HX8.out
  rw [List.nil_append] at HB8
  refine wp_loop_rounds 5 ?_
  rw [rounds_succ]
  go_wp2_with fail
  refine (HC.out _).mono ?_
  rintro e w9 ⟨rfl, hb⟩
  have HX9 := Pin.Aside.mk (held_blockS hb HX8.out)
  have HB9 := Pin.Aside.mk (HB8.out.below hb)
  have Hb9 := Pin.Aside.mk (Hb8.out.trans (hb.mono (HS.out _ Hb8.out)))
  have hP9 : P ≤ w9.heap.size := Nat.le_trans hP8 hb.size
  clear hb d0 d1 d2 d3
  go_wp2_with fail
  refine (sb_writeStringX P P ((T0 ++ TA ++ TB).data.toList) TC w9 HB9.out (by simp only [List.length_append, ByteArray.data_append, Array.toList_append, Array.length_toList]; show T0.size + TA.size + TB.size + TC.size ≤ _; omega) hP9).mono ?_
  rintro e w10 ⟨rfl, hB, hb, ho⟩
  have HX10 := Pin.Aside.mk ((ho X _ _ _ HX9.out (by decide) hXP).trans HX9.out)
  have HB10 := Pin.Aside.mk hB
  have Hb10 := Pin.Aside.mk (Hb9.out.trans (hb.mono (by omega)))
  have hP10 : P ≤ w10.heap.size := Nat.le_trans hP9 hb.size
  obtain ⟨d0, d1, d2, d3⟩ := row_cells HX10.out
  clear hb ho hB
  go_wp2_with fail
  rw [rounds_succ]
  go_wp2_with fail
  refine (HD.out _).mono ?_
  rintro e w11 ⟨rfl, hb⟩
  have HX11 := Pin.Aside.mk (held_blockS hb HX10.out)
  have HB11 := Pin.Aside.mk (HB10.out.below hb)
  have Hb11 := Pin.Aside.mk (Hb10.out.trans (hb.mono (HS.out _ Hb10.out)))
  have hP11 : P ≤ w11.heap.size := Nat.le_trans hP10 hb.size
  clear hb d0 d1 d2 d3
  go_wp2_with fail
  refine (sb_writeStringX P P ((T0 ++ TA ++ TB).data.toList ++ TC.data.toList) TD w11 HB11.out (by simp only [List.length_append, ByteArray.data_append, Array.toList_append, Array.length_toList]; show T0.size + TA.size + TB.size + TC.size + TD.size ≤ _; omega) hP11).mono ?_
  rintro e w12 ⟨rfl, hB, hb, ho⟩
  have HX12 := Pin.Aside.mk ((ho X _ _ _ HX11.out (by decide) hXP).trans HX11.out)
  have HB12 := Pin.Aside.mk hB
  have Hb12 := Pin.Aside.mk (Hb11.out.trans (hb.mono (by omega)))
  have hP12 : P ≤ w12.heap.size := Nat.le_trans hP11 hb.size
  obtain ⟨d0, d1, d2, d3⟩ := row_cells HX12.out
  clear hb ho hB
  go_wp2_with fail
  rw [rounds_succ]
  go_wp2_with fail
  refine (HE.out _).mono ?_
  rintro e w13 ⟨rfl, hb⟩
  have HX13 := Pin.Aside.mk (held_blockS hb HX12.out)
  have HB13 := Pin.Aside.mk (HB12.out.below hb)
  have Hb13 := Pin.Aside.mk (Hb12.out.trans (hb.mono (HS.out _ Hb12.out)))
  have hP13 : P ≤ w13.heap.size := Nat.le_trans hP12 hb.size
  clear hb d0 d1 d2 d3
  go_wp2_with fail
  refine (sb_writeStringX P P (((T0 ++ TA ++ TB).data.toList ++ TC.data.toList) ++ TD.data.toList) TE w13 HB13.out (by simp only [List.length_append, ByteArray.data_append, Array.toList_append, Array.length_toList]; show T0.size + TA.size + TB.size + TC.size + TD.size + TE.size ≤ _; omega) hP13).mono ?_
  rintro e w14 ⟨rfl, hB, hb, ho⟩
  have HX14 := Pin.Aside.mk ((ho X _ _ _ HX13.out (by decide) hXP).trans HX13.out)
  have HB14 := Pin.Aside.mk hB
  have Hb14 := Pin.Aside.mk (Hb13.out.trans (hb.mono (by omega)))
  have hP14 : P ≤ w14.heap.size := Nat.le_trans hP13 hb.size
  obtain ⟨d0, d1, d2, d3⟩ := row_cells HX14.out
  clear hb ho hB
  go_wp2_with fail
  rw [rounds_succ]
  go_wp2_with fail
  refine (HF.out _).mono ?_
  rintro e w15 ⟨rfl, hb⟩
  have HX15 := Pin.Aside.mk (held_blockS hb HX14.out)
  have HB15 := Pin.Aside.mk (HB14.out.below hb)
  have Hb15 := Pin.Aside.mk (Hb14.out.trans (hb.mono (HS.out _ Hb14.out)))
  have hP15 : P ≤ w15.heap.size := Nat.le_trans hP14 hb.size
  clear hb d0 d1 d2 d3
  go_wp2_with fail
  refine (sb_writeStringX P P ((((T0 ++ TA ++ TB).data.toList ++ TC.data.toList) ++ TD.data.toList) ++ TE.data.toList) TF w15 HB15.out (by simp only [List.length_append, ByteArray.data_append, Array.toList_append, Array.length_toList]; show T0.size + TA.size + TB.size + TC.size + TD.size + TE.size + TF.size ≤ _; omega) hP15).mono ?_
  rintro e w16 ⟨rfl, hB, hb, ho⟩
  have HX16 := Pin.Aside.mk ((ho X _ _ _ HX15.out (by decide) hXP).trans HX15.out)
  have HB16 := Pin.Aside.mk hB
  have Hb16 := Pin.Aside.mk (Hb15.out.trans (hb.mono (by omega)))
  have hP16 : P ≤ w16.heap.size := Nat.le_trans hP15 hb.size
  obtain ⟨d0, d1, d2, d3⟩ := row_cells HX16.out
  clear hb ho hB
  go_wp2_with fail
  rw [rounds_succ]
  go_wp2_with fail
  refine (sb_string P P _ (by
    intro q
    have := congrArg List.length q
    simp only [List.length_append, ByteArray.data_append, Array.toList_append, Array.length_toList, List.length_nil] at this
    have n1 : 0 < T0.data.size := n0
    omega) _ HB16.out).mono ?_
  rintro e w17 ⟨rfl, hb⟩
  go_wp2_with fail
  go_ret2
  exact ⟨rfl, by rw [HUU.out]; exact Hb16.out.trans (hb.mono (by omega))⟩
set_option maxHeartbeats 4000000 in
theorem slots_putsuper2 (s : Sup) (hr : s.right = true) (hv : s.v = 2) (w : World) : Calls Tryz.prog 24 #[.agg #[.int .i64 s.v, .int .i64 s.snap, .int .i64 s.log, .int .i64 s.area, .int .i64 s.half, .int .i64 s.goal, .int .i64 s.step]] w fun e w' => e = .returned (.tuple #[.string (supS s), .bool true]) ∧ Below w.heap.size w w' := by
  have h := Sup.right_iff hr
  have Hr := Pin.Aside.mk fun W => slots_right s W
  rw [hr] at Hr
  rw [supS_parts]
  obtain ⟨v, snap, log, area, half, goal, step⟩ := s
  dsimp only at h hv Hr ⊢
  subst hv
  obtain ⟨_, h1, h2, h3, h4, h5, h6, _⟩ := h
  have H0 := Pin.Aside.mk fun W => slots_num1 2 1 (by omega) (by omega) (by omega) (by omega) W
  have HA := Pin.Aside.mk fun W => slots_num2 snap 2 (by omega) (by omega) (by omega) (by omega) W
  have HB := Pin.Aside.mk fun W => slots_num2 log 2 (by omega) (by omega) (by omega) (by omega) W
  have HC := Pin.Aside.mk fun W => slots_num2 area 1 (by omega) (by omega) (by omega) (by omega) W
  have HD := Pin.Aside.mk fun W => slots_num2 half 1 (by omega) (by omega) (by omega) (by omega) W
  have HE := Pin.Aside.mk fun W => slots_num2 goal 1 (by omega) (by omega) (by omega) (by omega) W
  have HF := Pin.Aside.mk fun W => slots_num2 step 1 (by omega) (by omega) (by omega) (by omega) W
  have z0 := snum_size 1 (2 : Int).toNat 1
  have zA := snum_size 2 snap.toNat 2
  have zB := snum_size 2 log.toNat 2
  have zC := snum_size 2 area.toNat 1
  have zD := snum_size 2 half.toNat 1
  have zE := snum_size 2 goal.toNat 1
  have zF := snum_size 2 step.toNat 1
  have n0 : 0 < (snum 1 (2 : Int).toNat 1).size := by decide
  have e0 : fixedS (2 : Int).toNat 1 = snum 1 (2 : Int).toNat 1 := rfl
  rw [e0]
  clear e0
  have u1 : IntKind.u64.wrap snap = snap := by rw [IntKind.wrap_u64]; omega
  have u2 : IntKind.u64.wrap log = log := by rw [IntKind.wrap_u64]; omega
  have u3 : IntKind.u64.wrap area = area := by rw [IntKind.wrap_u64]; omega
  have u4 : IntKind.u64.wrap half = half := by rw [IntKind.wrap_u64]; omega
  have u5 : IntKind.u64.wrap goal = goal := by rw [IntKind.wrap_u64]; omega
  have u6 : IntKind.u64.wrap step = step := by rw [IntKind.wrap_u64]; omega
  have u0 : IntKind.u64.wrap 2 = 2 := by rw [IntKind.wrap_u64]; omega
  generalize snum 1 (2 : Int).toNat 1 = T0 at *
  generalize snum 2 snap.toNat 2 = TA at *
  generalize snum 2 log.toNat 2 = TB at *
  generalize snum 2 area.toNat 1 = TC at *
  generalize snum 2 half.toNat 1 = TD at *
  generalize snum 2 goal.toNat 1 = TE at *
  generalize snum 2 step.toNat 1 = TF at *
  have hc1 : ¬ 9223372036854775807 < T0.size + TA.size := by omega
  have hc2 : ¬ 9223372036854775807 < T0.size + TA.size + TB.size := by omega
  have hn := SevenAt.new w ⟨2, snap, log, area, half, goal, step⟩ 23
  have hb0 := (Below.refl w.heap.size w).alloc (Nat.le_refl _) (sevenO ⟨2, snap, log, area, half, goal, step⟩ 23)
  have Hn := Pin.Aside.mk hn
  unfold sevenO at hb0
  clear hn hr
  obtain ⟨z, hzv⟩ : ∃ z, ∀ w, (zeroValue 71).run Tryz.prog w = .ok z w := ⟨_, fun _ => rfl⟩
  go_enter Tryz.func24, Tryz.ntmps24
  go_wp2_with fail
  refine (Hr.out _).mono ?_
  rintro e w1 ⟨rfl, hb⟩
  have Hn1 := Pin.Aside.mk (Hn.out.below hb)
  replace hb0 := hb0.trans (hb.mono (by simp))
  clear hb Hn
  go_wp2_with fail
  refine (slots_writers _).mono ?_
  rintro e w2 ⟨m, rfl, hm, hM, hb⟩
  have hl := run_map_lookup (P := Tryz.prog) (t := 99) hM Tryz.underlying99 Tryz.underlying3 2 (hzv _)
  rw [mget_twoS, if_neg (by omega), if_pos rfl] at hl
  simp only [Option.getD_some, Option.isSome_some, wF, wV] at hl
  have Hn2 := Pin.Aside.mk (Hn1.out.below hb)
  replace hb0 := Below.next hb0 hb
  obtain ⟨c0, c1, c2, c3, c4, c5, c6⟩ := Hn2.out
  clear hb hM Hn1 hm
  go_upto_region 6 with fail
  have hBld := Bld.new w2 w2.heap.size (Nat.le_refl _)
  have hk3 : Keep (fun _ => False) w2 (w2.alloc (.cells #[.pointer none, .slice none 0 0] 91)) := (Keep.refl _ _).alloc _
  have Hn3 := Pin.Aside.mk (Hn2.out.keep hk3 id)
  have hb3 := hb0.alloc hb0.size (.cells #[.pointer none, .slice none 0 0] 91)
  have hU : w.heap.size < w2.heap.size := World.block_lt_of_cell? (a := ⟨w.heap.size, 0, none⟩) _ c0
  have hP : w2.heap.size ≤ (w2.alloc (.cells #[.pointer none, .slice none 0 0] 91)).heap.size := by simp
  clear c0 c1 c2 c3 c4 c5 c6 hb0 hk3 Hn2 hl
  obtain ⟨c0, c1, c2, c3, c4, c5, c6⟩ := Hn3.out
  generalize w2.alloc (.cells #[.pointer none, .slice none 0 0] 91) = w3 at *
  generalize w2.heap.size = P at *
  generalize hUU : w.heap.size = U at *
  have HUU := Pin.Aside.mk hUU
  have HS := Pin.Aside.mk (show ∀ x, Below U w x → U ≤ x.heap.size from fun x h => by have := h.size; omega)
  have HBld := Pin.Aside.mk hBld
  have Hb3 := Pin.Aside.mk hb3
  clear hUU hBld hb3
  dsimp only at c0 c1 c2 c3 c4 c5 c6
  go_region_held3 (fun w' => w'.cell? ⟨U, 0, none⟩ = some (.int .i64 2) ∧ w'.cell? ⟨U, 1, none⟩ = some (.int .i64 snap) ∧ w'.cell? ⟨U, 2, none⟩ = some (.int .i64 log)) (first | go_keep | exact hq4 | exact hq5 | exact hq6 | exact hq7) (first
    | (go_at_call 50
       with_reducible refine (H0.out _).mono ?_
       rintro e w4 ⟨rfl, hb4⟩
       have hk4 := Keep.of_below (S := fun _ => False) hb4 fun _ hk _ => hk
       have hq4 := And.intro (hk4.cell (p := ⟨U, 0, none⟩) c0 id) (And.intro (hk4.cell (p := ⟨U, 1, none⟩) c1 id) (hk4.cell (p := ⟨U, 2, none⟩) c2 id))
       have Hk4 := Pin.Aside.mk hk4
       clear hb4 hk4)
    | (go_at_call 76
       with_reducible refine (HA.out _).mono ?_
       rintro e w5 ⟨rfl, hb5⟩
       have hk5 := Keep.of_below (S := fun _ => False) hb5 fun _ hk _ => hk
       have hq5 := And.intro (hk5.cell (p := ⟨U, 0, none⟩) hq4.1 id) (And.intro (hk5.cell (p := ⟨U, 1, none⟩) hq4.2.1 id) (hk5.cell (p := ⟨U, 2, none⟩) hq4.2.2 id))
       have Hk5 := Pin.Aside.mk hk5
       clear hb5 hk5)
    | (go_at_call 76
       with_reducible refine (HB.out _).mono ?_
       rintro e w6 ⟨rfl, hb6⟩
       have hk6 := Keep.of_below (S := fun _ => False) hb6 fun _ hk _ => hk
       have hq6 := And.intro (hk6.cell (p := ⟨U, 0, none⟩) hq5.1 id) (And.intro (hk6.cell (p := ⟨U, 1, none⟩) hq5.2.1 id) (hk6.cell (p := ⟨U, 2, none⟩) hq5.2.2 id))
       have Hk6 := Pin.Aside.mk ((((Keep.refl (fun _ => False) w3).drew.trans Hk4.out).trans Hk5.out).trans hk6)
       clear hb6 hk6)
    | (go_at_call 49
       with_reducible refine (sb_writeStringX P P [] (T0 ++ TA ++ TB) _ (HBld.out.keep Hk6.out) (by simp only [ByteArray.size_append, List.length_nil]; omega) (by have := Hk6.out.size; omega)).mono ?_
       rintro e w7 ⟨rfl, hB7, hb7, ho7⟩
       have hk7 : Keep (fun k => P ≤ k) w6 w7 := Keep.of_below hb7 fun k _ hn => by omega
       have hq7 := And.intro (hk7.cell (p := ⟨U, 0, none⟩) hq6.1 (show ¬ (P ≤ U) by omega)) (And.intro (hk7.cell (p := ⟨U, 1, none⟩) hq6.2.1 (show ¬ (P ≤ U) by omega)) (hk7.cell (p := ⟨U, 2, none⟩) hq6.2.2 (show ¬ (P ≤ U) by omega)))
       have HB7 := Pin.Aside.mk hB7
       have Hk7 := Pin.Aside.mk (((Hk6.out).mono (T := fun k => P ≤ k) fun _ q => q.elim).trans hk7)
       clear hb7 hk7 ho7 hB7))
  replace c3 := Hk7.out.cell c3 (show ¬ (P ≤ U) by omega)
  replace c4 := Hk7.out.cell c4 (show ¬ (P ≤ U) by omega)
  replace c5 := Hk7.out.cell c5 (show ¬ (P ≤ U) by omega)
  replace c6 := Hk7.out.cell c6 (show ¬ (P ≤ U) by omega)
  have hb7 : Below U w w7 := Hb3.out.trans (Hk7.out.below (by omega) fun k q => by omega)
  have hlt7 := HB7.out.lt
  clear hq4 hq5 hq6 hq7 Hk4 Hk5 Hk6 Hk7 Hb3 HBld c0 c1 c2
  go_wp2_with fail
  have hX8 : (w7.alloc (.cells #[.int .i64 area, .int .i64 half, .int .i64 goal, .int .i64 step] 3)).heap[w7.heap.size]? = some (.cells #[.int .i64 area, .int .i64 half, .int .i64 goal, .int .i64 step] 3 (0, 0)) := Go.heap_alloc_new w7 _
  have hk8 : Keep (fun _ => False) w7 (w7.alloc (.cells #[.int .i64 area, .int .i64 half, .int .i64 goal, .int .i64 step] 3)) := (Keep.refl _ _).alloc _
  have HX8 := Pin.Aside.mk hX8
  have HB8 := Pin.Aside.mk (HB7.out.keep hk8)
  have Hb8 := Pin.Aside.mk (hb7.alloc (HS.out _ hb7) (.cells #[.int .i64 area, .int .i64 half, .int .i64 goal, .int .i64 step] 3))
  have hP8 : P ≤ (w7.alloc (.cells #[.int .i64 area, .int .i64 half, .int .i64 goal, .int .i64 step] 3)).heap.size := by have := hk8.size; omega
  have hXP : w7.heap.size ≠ P := by omega
  clear hX8 hk8 hb7 HB7 c3 c4 c5 c6
  generalize w7.alloc (.cells #[.int .i64 area, .int .i64 half, .int .i64 goal, .int .i64 step] 3) = w8 at *
  generalize w7.heap.size = X at *
  obtain ⟨d0, d1, d2, d3⟩ := row_cells HX8.out
  rw [List.nil_append] at HB8
  refine wp_loop_rounds 5 ?_
  rw [rounds_succ]
  go_wp2_with fail
  refine (HC.out _).mono ?_
  rintro e w9 ⟨rfl, hb⟩
  have HX9 := Pin.Aside.mk (held_blockS hb HX8.out)
  have HB9 := Pin.Aside.mk (HB8.out.below hb)
  have Hb9 := Pin.Aside.mk (Hb8.out.trans (hb.mono (HS.out _ Hb8.out)))
  have hP9 : P ≤ w9.heap.size := Nat.le_trans hP8 hb.size
  clear hb d0 d1 d2 d3
  go_wp2_with fail
  refine (sb_writeStringX P P ((T0 ++ TA ++ TB).data.toList) TC w9 HB9.out (by simp only [List.length_append, ByteArray.data_append, Array.toList_append, Array.length_toList]; show T0.size + TA.size + TB.size + TC.size ≤ _; omega) hP9).mono ?_
  rintro e w10 ⟨rfl, hB, hb, ho⟩
  have HX10 := Pin.Aside.mk ((ho X _ _ _ HX9.out (by decide) hXP).trans HX9.out)
  have HB10 := Pin.Aside.mk hB
  have Hb10 := Pin.Aside.mk (Hb9.out.trans (hb.mono (by omega)))
  have hP10 : P ≤ w10.heap.size := Nat.le_trans hP9 hb.size
  obtain ⟨d0, d1, d2, d3⟩ := row_cells HX10.out
  clear hb ho hB
  go_wp2_with fail
  rw [rounds_succ]
  go_wp2_with fail
  refine (HD.out _).mono ?_
  rintro e w11 ⟨rfl, hb⟩
  have HX11 := Pin.Aside.mk (held_blockS hb HX10.out)
  have HB11 := Pin.Aside.mk (HB10.out.below hb)
  have Hb11 := Pin.Aside.mk (Hb10.out.trans (hb.mono (HS.out _ Hb10.out)))
  have hP11 : P ≤ w11.heap.size := Nat.le_trans hP10 hb.size
  clear hb d0 d1 d2 d3
  go_wp2_with fail
  refine (sb_writeStringX P P ((T0 ++ TA ++ TB).data.toList ++ TC.data.toList) TD w11 HB11.out (by simp only [List.length_append, ByteArray.data_append, Array.toList_append, Array.length_toList]; show T0.size + TA.size + TB.size + TC.size + TD.size ≤ _; omega) hP11).mono ?_
  rintro e w12 ⟨rfl, hB, hb, ho⟩
  have HX12 := Pin.Aside.mk ((ho X _ _ _ HX11.out (by decide) hXP).trans HX11.out)
  have HB12 := Pin.Aside.mk hB
  have Hb12 := Pin.Aside.mk (Hb11.out.trans (hb.mono (by omega)))
  have hP12 : P ≤ w12.heap.size := Nat.le_trans hP11 hb.size
  obtain ⟨d0, d1, d2, d3⟩ := row_cells HX12.out
  clear hb ho hB
  go_wp2_with fail
  rw [rounds_succ]
  go_wp2_with fail
  refine (HE.out _).mono ?_
  rintro e w13 ⟨rfl, hb⟩
  have HX13 := Pin.Aside.mk (held_blockS hb HX12.out)
  have HB13 := Pin.Aside.mk (HB12.out.below hb)
  have Hb13 := Pin.Aside.mk (Hb12.out.trans (hb.mono (HS.out _ Hb12.out)))
  have hP13 : P ≤ w13.heap.size := Nat.le_trans hP12 hb.size
  clear hb d0 d1 d2 d3
  go_wp2_with fail
  refine (sb_writeStringX P P (((T0 ++ TA ++ TB).data.toList ++ TC.data.toList) ++ TD.data.toList) TE w13 HB13.out (by simp only [List.length_append, ByteArray.data_append, Array.toList_append, Array.length_toList]; show T0.size + TA.size + TB.size + TC.size + TD.size + TE.size ≤ _; omega) hP13).mono ?_
  rintro e w14 ⟨rfl, hB, hb, ho⟩
  have HX14 := Pin.Aside.mk ((ho X _ _ _ HX13.out (by decide) hXP).trans HX13.out)
  have HB14 := Pin.Aside.mk hB
  have Hb14 := Pin.Aside.mk (Hb13.out.trans (hb.mono (by omega)))
  have hP14 : P ≤ w14.heap.size := Nat.le_trans hP13 hb.size
  obtain ⟨d0, d1, d2, d3⟩ := row_cells HX14.out
  clear hb ho hB
  go_wp2_with fail
  rw [rounds_succ]
  go_wp2_with fail
  refine (HF.out _).mono ?_
  rintro e w15 ⟨rfl, hb⟩
  have HX15 := Pin.Aside.mk (held_blockS hb HX14.out)
  have HB15 := Pin.Aside.mk (HB14.out.below hb)
  have Hb15 := Pin.Aside.mk (Hb14.out.trans (hb.mono (HS.out _ Hb14.out)))
  have hP15 : P ≤ w15.heap.size := Nat.le_trans hP14 hb.size
  clear hb d0 d1 d2 d3
  go_wp2_with fail
  refine (sb_writeStringX P P ((((T0 ++ TA ++ TB).data.toList ++ TC.data.toList) ++ TD.data.toList) ++ TE.data.toList) TF w15 HB15.out (by simp only [List.length_append, ByteArray.data_append, Array.toList_append, Array.length_toList]; show T0.size + TA.size + TB.size + TC.size + TD.size + TE.size + TF.size ≤ _; omega) hP15).mono ?_
  rintro e w16 ⟨rfl, hB, hb, ho⟩
  have HX16 := Pin.Aside.mk ((ho X _ _ _ HX15.out (by decide) hXP).trans HX15.out)
  have HB16 := Pin.Aside.mk hB
  have Hb16 := Pin.Aside.mk (Hb15.out.trans (hb.mono (by omega)))
  have hP16 : P ≤ w16.heap.size := Nat.le_trans hP15 hb.size
  obtain ⟨d0, d1, d2, d3⟩ := row_cells HX16.out
  clear hb ho hB
  go_wp2_with fail
  rw [rounds_succ]
  go_wp2_with fail
  refine (sb_string P P _ (by
    intro q
    have := congrArg List.length q
    simp only [List.length_append, ByteArray.data_append, Array.toList_append, Array.length_toList, List.length_nil] at this
    have n1 : 0 < T0.data.size := n0
    omega) _ HB16.out).mono ?_
  rintro e w17 ⟨rfl, hb⟩
  go_wp2_with fail
  go_ret2
  exact ⟨rfl, by rw [HUU.out]; exact Hb16.out.trans (hb.mono (by omega))⟩
set_option maxHeartbeats 800000 in
theorem slots_putsuper (s : Sup) (w : World) : Calls Tryz.prog 24 #[.agg #[.int .i64 s.v, .int .i64 s.snap, .int .i64 s.log, .int .i64 s.area, .int .i64 s.half, .int .i64 s.goal, .int .i64 s.step]] w fun e w' => e = .returned (.tuple #[.string (supput s).1, .bool (supput s).2]) ∧ Below w.heap.size w w' := by
  cases hr : s.right with
  | true =>
    have h := Sup.right_iff hr
    have e1 : supput s = (supS s, true) := by unfold supput; rw [if_pos hr]
    rw [e1]
    rcases (show s.v = 1 ∨ s.v = 2 by omega) with hv | hv
    · exact slots_putsuper1 s hr hv w
    · exact slots_putsuper2 s hr hv w
  | false =>
    have e1 : supput s = (⟨#[]⟩, false) := by unfold supput; rw [hr]; rfl
    rw [e1]
    have Hr := Pin.Aside.mk fun W => slots_right s W
    rw [hr] at Hr
    have hb0 := (Below.refl w.heap.size w).alloc (Nat.le_refl _) (sevenO s 23)
    unfold sevenO at hb0
    clear hr e1
    go_enter Tryz.func24, Tryz.ntmps24
    go_wp2_with fail
    refine (Hr.out _).mono ?_
    rintro e w1 ⟨rfl, hb⟩
    have hb1 := hb0.trans (hb.mono (by simp))
    go_wp2_with fail
    go_ret2
    exact ⟨rfl, hb1⟩
end Go.Proofs.YtpfkpaombiikcaaGreatDoor
