/- The document's slots: what is put. -/
import Derived.Test.YtpfkpaombiikcaaSlA
set_option maxRecDepth 16000
namespace Go.Proofs.Ytpfkpaombiikcaa
open Go.RowKit Go.Pin
set_option linter.unusedVariables false
set_option linter.unusedSimpArgs false
set_option maxHeartbeats 3200000 in
theorem slotsref_puthard1 (t o c : Int) (ht : 0 ≤ t ∧ t ≤ 18446744073709551615) (ho : 0 ≤ o ∧ o ≤ 7) (hc : 0 ≤ c ∧ c ≤ 18446744073709551615) (w : World) :
    Calls Try.prog 14 #[.int .i64 1, .agg #[.int .u64 t, .int .i64 o, .int .u64 c]] w fun e w' => e = .returned (.tuple #[.string (hardS 1 ⟨t, o, c⟩), .bool true]) ∧ Below w.heap.size w w' := by
  have e : hardS 1 ⟨t, o, c⟩ = fixedS 17 1 ++ snum 1 t.toNat 8 ++ snum 1 o.toNat 1 ++ snum 1 c.toNat 8 := rfl
  rw [e]
  have Hf := Pin.Aside.mk fun W => varref_fixed 17 1 (by omega) (by omega) (by omega) (by omega) W
  have Ht := Pin.Aside.mk fun W => slotsref_number 1 t 8 ht.1 ht.2 (by omega) (by omega) W
  have Ho := Pin.Aside.mk fun W => slotsref_number 1 o 1 ho.1 (by omega) (by omega) (by omega) W
  have Hc := Pin.Aside.mk fun W => slotsref_number 1 c 8 hc.1 hc.2 (by omega) (by omega) W
  have z0 : (fixedS 17 1).size ≤ 10 := by decide +kernel
  have z1 := snum_size 1 t.toNat 8
  have z2 := snum_size 1 o.toNat 1
  have z3 := snum_size 1 c.toNat 8
  obtain ⟨T0, e0⟩ : ∃ T, fixedS 17 1 = T := ⟨_, rfl⟩
  replace Hf : Pin.Aside (∀ W, Calls Try.prog 28 #[.int .u64 17, .int .i64 1] W fun e w' => e = .returned (.string (fixedS 17 1)) ∧ Below W.heap.size W w') := Hf
  rw [e0] at z0 Hf
  rw [e0]
  generalize snum 1 t.toNat 8 = T1 at *
  generalize snum 1 o.toNat 1 = T2 at *
  generalize snum 1 c.toNat 8 = T3 at *
  have hn := SevAt.new w #[.int .u64 t, .int .i64 o, .int .u64 c] 39 3 rfl
  have hb := (Below.refl w.heap.size w).alloc (Nat.le_refl _) (.cells #[.int .u64 t, .int .i64 o, .int .u64 c] 39)
  have hN := hn.get3
  have hwo : IntKind.u64.wrap o = o := by rw [IntKind.wrap_u64]; omega
  clear e e0 hn
  go_enter Try.func14, Try.ntmps14
  go_upto_region 3 with fail
  generalize w.alloc (.cells #[.int .u64 t, .int .i64 o, .int .u64 c] 39) = w1 at *
  generalize hU : w.heap.size = U at *
  have HU := Pin.Aside.mk hU
  have k0 : ∀ s' : KW (fun _ => False) w1, s'.w.cell? ⟨U, 0, none⟩ = some (.int .u64 t) := fun s' => s'.keep.cell hN.1 id
  have k1 : ∀ s' : KW (fun _ => False) w1, s'.w.cell? ⟨U, 1, none⟩ = some (.int .i64 o) := fun s' => s'.keep.cell hN.2.1 id
  have k2 : ∀ s' : KW (fun _ => False) w1, s'.w.cell? ⟨U, 2, none⟩ = some (.int .u64 c) := fun s' => s'.keep.cell hN.2.2 id
  have a1 : ¬ 9223372036854775807 < T0.size + T1.size := by omega
  have a2 : ¬ 9223372036854775807 < T0.size + T1.size + T2.size := by omega
  have a3 : ¬ 9223372036854775807 < T0.size + T1.size + T2.size + T3.size := by omega
  have HB := Pin.Aside.mk hb
  clear hN hU z0 z1 z2 z3 hb
  refine wp_region_keep (fun _ => False) (by kernel_rfl) (by kernel_rfl) ?_
  repeat (go_big_quiet_step ((first | (go_at_call 28; with_reducible exact KW.calls (Hf.out _)) | (go_at_call 29; first | with_reducible exact KW.calls (Ht.out _) | with_reducible exact KW.calls (Ho.out _) | with_reducible exact KW.calls (Hc.out _)))))
  refine wpQuiet_nil ?_
  intro s4'
  have hE := HB.out.trans (s4'.keep.below (by have := HB.out.size; rw [HU.out] at this; exact this) fun _ q => q.elim)
  clear k0 k1 k2
  go_wp2_with fail
  go_ret2
  exact ⟨rfl, by rw [HU.out]; exact hE⟩
set_option maxHeartbeats 3200000 in
theorem slotsref_puthard2 (t o c : Int) (ht : 0 ≤ t ∧ t ≤ 18446744073709551615) (ho : 0 ≤ o ∧ o ≤ 7) (hc : 0 ≤ c ∧ c ≤ 18446744073709551615) (w : World) :
    Calls Try.prog 14 #[.int .i64 2, .agg #[.int .u64 t, .int .i64 o, .int .u64 c]] w fun e w' => e = .returned (.tuple #[.string (hardS 2 ⟨t, o, c⟩), .bool true]) ∧ Below w.heap.size w w' := by
  have e : hardS 2 ⟨t, o, c⟩ = fixedS 18 1 ++ snum 2 t.toNat 8 ++ snum 2 o.toNat 1 ++ snum 2 c.toNat 8 := rfl
  rw [e]
  have Hf := Pin.Aside.mk fun W => varref_fixed 18 1 (by omega) (by omega) (by omega) (by omega) W
  have Ht := Pin.Aside.mk fun W => slotsref_number 2 t 8 ht.1 ht.2 (by omega) (by omega) W
  have Ho := Pin.Aside.mk fun W => slotsref_number 2 o 1 ho.1 (by omega) (by omega) (by omega) W
  have Hc := Pin.Aside.mk fun W => slotsref_number 2 c 8 hc.1 hc.2 (by omega) (by omega) W
  have z0 : (fixedS 18 1).size ≤ 10 := by decide +kernel
  have z1 := snum_size 2 t.toNat 8
  have z2 := snum_size 2 o.toNat 1
  have z3 := snum_size 2 c.toNat 8
  obtain ⟨T0, e0⟩ : ∃ T, fixedS 18 1 = T := ⟨_, rfl⟩
  replace Hf : Pin.Aside (∀ W, Calls Try.prog 28 #[.int .u64 18, .int .i64 1] W fun e w' => e = .returned (.string (fixedS 18 1)) ∧ Below W.heap.size W w') := Hf
  rw [e0] at z0 Hf
  rw [e0]
  generalize snum 2 t.toNat 8 = T1 at *
  generalize snum 2 o.toNat 1 = T2 at *
  generalize snum 2 c.toNat 8 = T3 at *
  have hn := SevAt.new w #[.int .u64 t, .int .i64 o, .int .u64 c] 39 3 rfl
  have hb := (Below.refl w.heap.size w).alloc (Nat.le_refl _) (.cells #[.int .u64 t, .int .i64 o, .int .u64 c] 39)
  have hN := hn.get3
  have hwo : IntKind.u64.wrap o = o := by rw [IntKind.wrap_u64]; omega
  clear e e0 hn
  go_enter Try.func14, Try.ntmps14
  go_upto_region 3 with fail
  generalize w.alloc (.cells #[.int .u64 t, .int .i64 o, .int .u64 c] 39) = w1 at *
  generalize hU : w.heap.size = U at *
  have HU := Pin.Aside.mk hU
  have k0 : ∀ s' : KW (fun _ => False) w1, s'.w.cell? ⟨U, 0, none⟩ = some (.int .u64 t) := fun s' => s'.keep.cell hN.1 id
  have k1 : ∀ s' : KW (fun _ => False) w1, s'.w.cell? ⟨U, 1, none⟩ = some (.int .i64 o) := fun s' => s'.keep.cell hN.2.1 id
  have k2 : ∀ s' : KW (fun _ => False) w1, s'.w.cell? ⟨U, 2, none⟩ = some (.int .u64 c) := fun s' => s'.keep.cell hN.2.2 id
  have a1 : ¬ 9223372036854775807 < T0.size + T1.size := by omega
  have a2 : ¬ 9223372036854775807 < T0.size + T1.size + T2.size := by omega
  have a3 : ¬ 9223372036854775807 < T0.size + T1.size + T2.size + T3.size := by omega
  have HB := Pin.Aside.mk hb
  clear hN hU z0 z1 z2 z3 hb
  refine wp_region_keep (fun _ => False) (by kernel_rfl) (by kernel_rfl) ?_
  repeat (go_big_quiet_step ((first | (go_at_call 28; with_reducible exact KW.calls (Hf.out _)) | (go_at_call 29; first | with_reducible exact KW.calls (Ht.out _) | with_reducible exact KW.calls (Ho.out _) | with_reducible exact KW.calls (Hc.out _)))))
  refine wpQuiet_nil ?_
  intro s4'
  have hE := HB.out.trans (s4'.keep.below (by have := HB.out.size; rw [HU.out] at this; exact this) fun _ q => q.elim)
  clear k0 k1 k2
  go_wp2_with fail
  go_ret2
  exact ⟨rfl, by rw [HU.out]; exact hE⟩
set_option maxHeartbeats 1600000 in
theorem slotsref_puthard (v t o c : Int) (ht : 0 ≤ t ∧ t ≤ 18446744073709551615) (hc : 0 ≤ c ∧ c ≤ 18446744073709551615) (w : World) :
    Calls Try.prog 14 #[.int .i64 v, .agg #[.int .u64 t, .int .i64 o, .int .u64 c]] w fun e w' => e = .returned (.tuple #[.string (hardput v ⟨t, o, c⟩).1, .bool (hardput v ⟨t, o, c⟩).2]) ∧ Below w.heap.size w w' := by
  by_cases hy : (v = 1 ∨ v = 2) ∧ 0 ≤ o ∧ o ≤ 7
  · have e : hardput v ⟨t, o, c⟩ = (hardS v ⟨t, o, c⟩, true) := by unfold hardput; exact if_pos hy
    rw [e]
    rcases hy.1 with rfl | rfl
    · exact slotsref_puthard1 t o c ht hy.2 hc w
    · exact slotsref_puthard2 t o c ht hy.2 hc w
  · have e : hardput v ⟨t, o, c⟩ = (⟨#[]⟩, false) := by unfold hardput; exact if_neg hy
    rw [e]
    clear e
    by_cases v1 : v = 1
    · subst v1
      have hq : o < 0 ∨ 7 < o := by omega
      by_cases ho : o < 0
      · go_enter Try.func14, Try.ntmps14
        go_wp2_with fail
        go_ret2
        exact ⟨rfl, (Below.refl _ _).alloc (Nat.le_refl _) _⟩
      · have ho2 : 7 < o := by omega
        have ho3 : 0 ≤ o := by omega
        go_enter Try.func14, Try.ntmps14
        go_wp2_with fail
        go_ret2
        exact ⟨rfl, (Below.refl _ _).alloc (Nat.le_refl _) _⟩
    by_cases v2 : v = 2
    · subst v2
      have hq : o < 0 ∨ 7 < o := by omega
      by_cases ho : o < 0
      · go_enter Try.func14, Try.ntmps14
        go_wp2_with fail
        go_ret2
        exact ⟨rfl, (Below.refl _ _).alloc (Nat.le_refl _) _⟩
      · have ho2 : 7 < o := by omega
        have ho3 : 0 ≤ o := by omega
        go_enter Try.func14, Try.ntmps14
        go_wp2_with fail
        go_ret2
        exact ⟨rfl, (Below.refl _ _).alloc (Nat.le_refl _) _⟩
    have k1 : (v != 1) = true := by simpa using v1
    have k2 : (v != 2) = true := by simpa using v2
    clear hy v1 v2
    go_enter Try.func14, Try.ntmps14
    go_wp2_with fail
    go_ret2
    exact ⟨rfl, (Below.refl _ _).alloc (Nat.le_refl _) _⟩
end Go.Proofs.Ytpfkpaombiikcaa
