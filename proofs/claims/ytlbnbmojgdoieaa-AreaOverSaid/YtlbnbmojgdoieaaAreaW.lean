/- What package area computes, and its reference: a snap's bytes. -/
import Derived.Test.YtlbnbmojgdoieaaFrameL
import Derived.Test.YtlbnbmojgdoieaaFrameR
set_option maxRecDepth 16000
namespace Go.Pin
open Go.RowKit
set_option linter.unusedVariables false
structure Snap where
  i : Int
  t : Int
  d : ByteArray
structure Snap.ok (s : Snap) : Prop where
  i0 : 0 ≤ s.i
  i1 : s.i ≤ 18446744073709551615
  t0 : 0 ≤ s.t
  t1 : s.t ≤ 18446744073709551615
  d : s.d.size ≤ 1152921504606846976
def Snap.val (s : Snap) : Value := .agg #[.int .u64 s.i, .int .u64 s.t, .string s.d]
def aheadS (v : Int) (i t : Nat) : ByteArray := if v = 1 then fixedS i 8 ++ fixedS t 8 else vputS i ++ vputS t
def aput (v : Int) (s : Snap) : ByteArray × Bool := if 16384 < s.d.size then (⟨#[]⟩, false) else fpack v (aheadS v s.i.toNat s.t.toNat ++ s.d)
theorem aheadS_size (v : Int) (i t : Nat) : (aheadS v i t).size ≤ 20 := by
  unfold aheadS
  have h1 := fixedS_size i 8
  have h2 := fixedS_size t 8
  have h3 := (vputS_size i).1
  have h4 := (vputS_size t).1
  split <;> rw [ByteArray.size_append] <;> omega
end Go.Pin
namespace Go.Proofs.Ytlbnbmojgdoieaa
open Go.RowKit Go.Pin
set_option linter.unusedVariables false
set_option linter.unusedSimpArgs false

set_option maxHeartbeats 1600000 in
theorem area_put (v : Int) (hv : -9223372036854775808 ≤ v ∧ v ≤ 9223372036854775807) (s : Snap) (h : s.ok) (w : World) :
    Calls Try.prog 35 #[.int .i64 v, s.val] w fun e w' => e = .returned (.tuple #[.string (aput v s).1, .bool (aput v s).2]) ∧ Below w.heap.size w w' := by
  obtain ⟨i, t, d⟩ := s
  obtain ⟨i0, i1, t0, t1, hd⟩ := h
  dsimp only at i0 i1 t0 t1 hd
  have hb := Below.refl w.heap.size w
  show Calls Try.prog 35 #[.int .i64 v, .agg #[.int .u64 i, .int .u64 t, .string d]] w _
  by_cases hbig : 16384 < d.size
  · have e1 : aput v ⟨i, t, d⟩ = (⟨#[]⟩, false) := by unfold aput; rw [if_pos hbig]
    rw [e1]
    clear e1
    go_enter Try.func35, Try.ntmps35
    go_wp2_with fail
    go_ret2
    exact ⟨rfl, hb.alloc (Nat.le_refl _) _⟩
  · have e1 : aput v ⟨i, t, d⟩ = fpack v (aheadS v i.toNat t.toNat ++ d) := by unfold aput; rw [if_neg hbig]
    rw [e1]
    clear e1
    have hsm : (d.size : Int) ≤ 16384 := by omega
    have hz1 := (vputS_size i.toNat).1
    have hz2 := (vputS_size t.toNat).1
    go_enter Try.func35, Try.ntmps35
    go_wp2_with fail
    have hb1 := hb.alloc (Nat.le_refl _) (Obj.cells #[Value.int .u64 i, Value.int .u64 t, Value.string d] 61)
    have c0 : (w.alloc (Obj.cells #[Value.int .u64 i, Value.int .u64 t, Value.string d] 61)).cell? ⟨w.heap.size, 0, none⟩ = some (.int .u64 i) := World.cell?_alloc_new _ _ _ 0
    have c1 : (w.alloc (Obj.cells #[Value.int .u64 i, Value.int .u64 t, Value.string d] 61)).cell? ⟨w.heap.size, 1, none⟩ = some (.int .u64 t) := World.cell?_alloc_new _ _ _ 1
    have c2 : (w.alloc (Obj.cells #[Value.int .u64 i, Value.int .u64 t, Value.string d] 61)).cell? ⟨w.heap.size, 2, none⟩ = some (.string d) := World.cell?_alloc_new _ _ _ 2
    have hBB : (w.alloc (Obj.cells #[Value.int .u64 i, Value.int .u64 t, Value.string d] 61)).heap.size = w.heap.size + 1 := by simp
    generalize w.alloc (Obj.cells #[Value.int .u64 i, Value.int .u64 t, Value.string d] 61) = wa at *
    generalize hW0 : w.heap.size = B at *
    have HW := Aside.mk hW0
    clear hW0 hb
    have k0 : ∀ s : KW (fun _ => False) wa, s.w.cell? ⟨B, 0, none⟩ = some (.int .u64 i) := fun s => s.keep.cell c0 id
    have k1 : ∀ s : KW (fun _ => False) wa, s.w.cell? ⟨B, 1, none⟩ = some (.int .u64 t) := fun s => s.keep.cell c1 id
    refine wp_region_keep (fun _ => False) (by kernel_rfl) (by kernel_rfl) ?_
    repeat (go_big_quiet_step ((go_at_call 62; first | with_reducible exact KW.calls (var_put i i0 i1 _) | with_reducible exact KW.calls (var_put t t0 t1 _))))
    refine wpQuiet_nil ?_
    intro s4
    have hbs := s4.below
    have d0 := k0 s4
    have d1 := k1 s4
    have d2 := s4.keep.cell c2 id
    replace hb1 := hb1.trans (hbs.mono (by omega))
    have hz4 : B < s4.w.heap.size := by have := hbs.size; omega
    clear k0 k1 c0 c1 c2 hbs
    generalize s4.w = w4 at *
    clear s4
    have hA : ∀ X : ByteArray, aheadS v i.toNat t.toNat = X → X.size ≤ 20 := fun X h => by rw [← h]; exact aheadS_size _ _ _
    by_cases hv1 : v = 1
    · subst hv1
      have k0 : ∀ s : KW (fun _ => False) w4, s.w.cell? ⟨B, 0, none⟩ = some (.int .u64 i) := fun s => s.keep.cell d0 id
      have k1 : ∀ s : KW (fun _ => False) w4, s.w.cell? ⟨B, 1, none⟩ = some (.int .u64 t) := fun s => s.keep.cell d1 id
      have hX : aheadS 1 i.toNat t.toNat = fixedS i.toNat 8 ++ fixedS t.toNat 8 := by unfold aheadS; rw [if_pos rfl]
      have hz3 := hA _ hX
      have g1 := fixedS_size i.toNat 8
      have g2 := fixedS_size t.toNat 8
      have HX := Aside.mk hX
      clear hA hX hz1 hz2
      go_wp2_with fail
      refine wp_region_keep (fun _ => False) (by kernel_rfl) (by kernel_rfl) ?_
      repeat (go_big_quiet_step ((go_at_call 63; first | with_reducible exact KW.calls (var_fixed i 8 i0 i1 (by omega) (by omega) _) | with_reducible exact KW.calls (var_fixed t 8 t0 t1 (by omega) (by omega) _))))
      refine wpQuiet_nil ?_
      intro s5
      have hbs := s5.below
      have d3 := s5.keep.cell d2 id
      replace hb1 := hb1.trans (hbs.mono (by omega))
      have hz5 : B < s5.w.heap.size := by have := hbs.size; omega
      clear k0 k1 d0 d1 d2 hbs
      generalize s5.w = w5 at *
      clear s5
      generalize fixedS i.toNat 8 ++ fixedS t.toNat 8 = X at *
      have hXd : (X ++ d).size ≤ 1152921504606846976 := by rw [ByteArray.size_append]; omega
      go_wp2_with fail
      refine (frame_pack 1 (X ++ d) _ (by omega) hXd).mono ?_
      rintro e w6 ⟨rfl, hb2⟩
      replace hb1 := hb1.trans (hb2.mono (by omega))
      clear hb2
      go_wp2_with fail
      go_ret2
      rw [HX.out]
      exact ⟨rfl, by rw [HW.out]; exact hb1⟩
    · have hX : aheadS v i.toNat t.toNat = vputS i.toNat ++ vputS t.toNat := by unfold aheadS; rw [if_neg hv1]
      have hz3 := hA _ hX
      have HX := Aside.mk hX
      clear hA hX
      generalize vputS i.toNat ++ vputS t.toNat = X at *
      have hXd : (X ++ d).size ≤ 1152921504606846976 := by rw [ByteArray.size_append]; omega
      go_wp2_with fail
      refine (frame_pack v (X ++ d) _ hv hXd).mono ?_
      rintro e w6 ⟨rfl, hb2⟩
      replace hb1 := hb1.trans (hb2.mono (by omega))
      clear hb2
      go_wp2_with fail
      go_ret2
      rw [HX.out]
      exact ⟨rfl, by rw [HW.out]; exact hb1⟩
set_option maxHeartbeats 1600000 in
theorem arearef_put (v : Int) (hv : -9223372036854775808 ≤ v ∧ v ≤ 9223372036854775807) (s : Snap) (h : s.ok) (w : World) :
    Calls Try.prog 36 #[.int .i64 v, s.val] w fun e w' => e = .returned (.tuple #[.string (aput v s).1, .bool (aput v s).2]) ∧ Below w.heap.size w w' := by
  obtain ⟨i, t, d⟩ := s
  obtain ⟨i0, i1, t0, t1, hd⟩ := h
  dsimp only at i0 i1 t0 t1 hd
  have hb := Below.refl w.heap.size w
  show Calls Try.prog 36 #[.int .i64 v, .agg #[.int .u64 i, .int .u64 t, .string d]] w _
  by_cases hbig : 16384 < d.size
  · have e1 : aput v ⟨i, t, d⟩ = (⟨#[]⟩, false) := by unfold aput; rw [if_pos hbig]
    rw [e1]
    clear e1
    go_enter Try.func36, Try.ntmps36
    go_wp2_with fail
    go_ret2
    exact ⟨rfl, hb.alloc (Nat.le_refl _) _⟩
  · have e1 : aput v ⟨i, t, d⟩ = fpack v (aheadS v i.toNat t.toNat ++ d) := by unfold aput; rw [if_neg hbig]
    rw [e1]
    clear e1
    have hsm : (d.size : Int) ≤ 16384 := by omega
    have hz1 := (vputS_size i.toNat).1
    have hz2 := (vputS_size t.toNat).1
    go_enter Try.func36, Try.ntmps36
    go_wp2_with fail
    have hb1 := hb.alloc (Nat.le_refl _) (Obj.cells #[Value.int .u64 i, Value.int .u64 t, Value.string d] 66)
    have c0 : (w.alloc (Obj.cells #[Value.int .u64 i, Value.int .u64 t, Value.string d] 66)).cell? ⟨w.heap.size, 0, none⟩ = some (.int .u64 i) := World.cell?_alloc_new _ _ _ 0
    have c1 : (w.alloc (Obj.cells #[Value.int .u64 i, Value.int .u64 t, Value.string d] 66)).cell? ⟨w.heap.size, 1, none⟩ = some (.int .u64 t) := World.cell?_alloc_new _ _ _ 1
    have c2 : (w.alloc (Obj.cells #[Value.int .u64 i, Value.int .u64 t, Value.string d] 66)).cell? ⟨w.heap.size, 2, none⟩ = some (.string d) := World.cell?_alloc_new _ _ _ 2
    have hBB : (w.alloc (Obj.cells #[Value.int .u64 i, Value.int .u64 t, Value.string d] 66)).heap.size = w.heap.size + 1 := by simp
    generalize w.alloc (Obj.cells #[Value.int .u64 i, Value.int .u64 t, Value.string d] 66) = wa at *
    generalize hW0 : w.heap.size = B at *
    have HW := Aside.mk hW0
    clear hW0 hb
    have k0 : ∀ s : KW (fun _ => False) wa, s.w.cell? ⟨B, 0, none⟩ = some (.int .u64 i) := fun s => s.keep.cell c0 id
    have k1 : ∀ s : KW (fun _ => False) wa, s.w.cell? ⟨B, 1, none⟩ = some (.int .u64 t) := fun s => s.keep.cell c1 id
    have k2 : ∀ s : KW (fun _ => False) wa, s.w.cell? ⟨B, 2, none⟩ = some (.string d) := fun s => s.keep.cell c2 id
    refine wp_region_keep (fun _ => False) (by kernel_rfl) (by kernel_rfl) ?_
    repeat (go_big_quiet_step ((go_at_call 65; first | with_reducible exact KW.calls (varref_put i i0 i1 _) | with_reducible exact KW.calls (varref_put t t0 t1 _))))
    refine wpQuiet_nil ?_
    intro s4
    have hbs := s4.below
    have d0 := k0 s4
    have d1 := k1 s4
    have d2 := s4.keep.cell c2 id
    replace hb1 := hb1.trans (hbs.mono (by omega))
    have hz4 : B < s4.w.heap.size := by have := hbs.size; omega
    clear k0 k1 k2 c0 c1 c2 hbs
    generalize s4.w = w4 at *
    clear s4
    have hA : ∀ X : ByteArray, aheadS v i.toNat t.toNat = X → X.size ≤ 20 := fun X h => by rw [← h]; exact aheadS_size _ _ _
    by_cases hv1 : v = 1
    · subst hv1
      have k0 : ∀ s : KW (fun _ => False) w4, s.w.cell? ⟨B, 0, none⟩ = some (.int .u64 i) := fun s => s.keep.cell d0 id
      have k1 : ∀ s : KW (fun _ => False) w4, s.w.cell? ⟨B, 1, none⟩ = some (.int .u64 t) := fun s => s.keep.cell d1 id
      have hX : aheadS 1 i.toNat t.toNat = fixedS i.toNat 8 ++ fixedS t.toNat 8 := by unfold aheadS; rw [if_pos rfl]
      have hz3 := hA _ hX
      have g1 := fixedS_size i.toNat 8
      have g2 := fixedS_size t.toNat 8
      have HX := Aside.mk hX
      clear hA hX hz1 hz2
      go_wp2_with fail
      have k2 : ∀ s : KW (fun _ => False) w4, s.w.cell? ⟨B, 2, none⟩ = some (.string d) := fun s => s.keep.cell d2 id
      refine wp_region_keep (fun _ => False) (by kernel_rfl) (by kernel_rfl) ?_
      repeat (go_big_quiet_step ((go_at_call 66; first | with_reducible exact KW.calls (varref_fixed i 8 i0 i1 (by omega) (by omega) _) | with_reducible exact KW.calls (varref_fixed t 8 t0 t1 (by omega) (by omega) _))))
      refine wpQuiet_nil ?_
      intro s5
      have hbs := s5.below
      have d3 := s5.keep.cell d2 id
      replace hb1 := hb1.trans (hbs.mono (by omega))
      have hz5 : B < s5.w.heap.size := by have := hbs.size; omega
      clear k0 k1 k2 d0 d1 d2 hbs
      generalize s5.w = w5 at *
      clear s5
      generalize fixedS i.toNat 8 ++ fixedS t.toNat 8 = X at *
      have hXd : (X ++ d).size ≤ 1152921504606846976 := by rw [ByteArray.size_append]; omega
      go_wp2_with fail
      refine (frameref_pack 1 (X ++ d) _ (by omega) hXd).mono ?_
      rintro e w6 ⟨rfl, hb2⟩
      replace hb1 := hb1.trans (hb2.mono (by omega))
      clear hb2
      go_wp2_with fail
      go_ret2
      rw [HX.out]
      exact ⟨rfl, by rw [HW.out]; exact hb1⟩
    · have hX : aheadS v i.toNat t.toNat = vputS i.toNat ++ vputS t.toNat := by unfold aheadS; rw [if_neg hv1]
      have hz3 := hA _ hX
      have HX := Aside.mk hX
      clear hA hX
      generalize vputS i.toNat ++ vputS t.toNat = X at *
      have hXd : (X ++ d).size ≤ 1152921504606846976 := by rw [ByteArray.size_append]; omega
      go_wp2_with fail
      refine (frameref_pack v (X ++ d) _ hv hXd).mono ?_
      rintro e w6 ⟨rfl, hb2⟩
      replace hb1 := hb1.trans (hb2.mono (by omega))
      clear hb2
      go_wp2_with fail
      go_ret2
      rw [HX.out]
      exact ⟨rfl, by rw [HW.out]; exact hb1⟩
end Go.Proofs.Ytlbnbmojgdoieaa
