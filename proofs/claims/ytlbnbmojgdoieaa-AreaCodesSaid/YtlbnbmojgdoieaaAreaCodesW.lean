/- AreaCodes: its walk. -/
import Derived.Test.YtlbnbmojgdoieaaAreaX
import Derived.Test.YtlbnbmojgdoieaaAreaB
import Derived.OpenShut
set_option maxRecDepth 16000
namespace Go.Proofs.Ytlbnbmojgdoieaa
open Go.RowKit Go.Pin
set_option linter.unusedVariables false
set_option linter.unusedSimpArgs false
set_option maxHeartbeats 3200000 in
theorem areaCodes_vfalse (v : Int) (s : Snap) (h : s.ok) (m : Int) (raw : ByteArray) (at' : Int) (by' : UInt8) (hv : -9223372036854775808 ≤ v ∧ v ≤ 9223372036854775807) (hm : -9223372036854775808 ≤ m ∧ m ≤ 9223372036854775807) (ha : -9223372036854775808 ≤ at' ∧ at' ≤ 9223372036854775807) (hraw : raw.size ≤ 140737488351232) (hd : s.d.size ≤ 140737488351232) (w : World) :
    Calls Try.prog 10 #[.int .i64 v, .bool false, .agg #[.int .u64 s.i, .int .u64 s.t, .string s.d], .int .i64 m, .string raw, .bool false, .int .i64 at', .int .u8 by'.toNat] w fun e w' => e = .returned (.bool true) ∧ Below w.heap.size w w' := by
  have hse := str_beq
  have Hs := Aside.mk h
  have hb := (Below.refl w.heap.size w).alloc (Nat.le_refl _) (Obj.cells #[Value.int .u64 s.i, Value.int .u64 s.t, Value.string s.d] 61)
  go_enter Try.func10, Try.ntmps10
  go_wp2_with fail
  have c0 : (w.alloc (Obj.cells #[Value.int .u64 s.i, Value.int .u64 s.t, Value.string s.d] 61)).cell? ⟨w.heap.size, 0, none⟩ = some (.int .u64 s.i) := World.cell?_alloc_new w _ _ 0
  have c1 : (w.alloc (Obj.cells #[Value.int .u64 s.i, Value.int .u64 s.t, Value.string s.d] 61)).cell? ⟨w.heap.size, 1, none⟩ = some (.int .u64 s.t) := World.cell?_alloc_new w _ _ 1
  have c2 : (w.alloc (Obj.cells #[Value.int .u64 s.i, Value.int .u64 s.t, Value.string s.d] 61)).cell? ⟨w.heap.size, 2, none⟩ = some (.string s.d) := World.cell?_alloc_new w _ _ 2
  generalize w.alloc (Obj.cells #[Value.int .u64 s.i, Value.int .u64 s.t, Value.string s.d] 61) = wa at *
  generalize hW0 : w.heap.size = B at *
  have HW := Aside.mk hW0
  clear hW0
  have hl : B ≤ wa.heap.size := Nat.le_of_lt (World.block_lt_of_cell? _ _ c0)
  refine (area_examples _).mono ?_
  rintro e w1 ⟨rfl, hb1⟩
  replace c0 := hb1.old c0
  replace c1 := hb1.old c1
  replace c2 := hb1.old c2
  replace hb := hb.trans (hb1.mono hl)
  replace hl := Nat.le_trans hl hb1.size
  clear hb1
  go_wp2_with fail
  have hc : Calls Try.prog 35 #[.int .i64 v, .agg #[.int .u64 s.i, .int .u64 s.t, .string s.d]] w1 _ := area_put v (by omega) s Hs.out w1
  refine hc.mono ?_
  clear hc
  have hP := aput_size v s
  generalize hP0 : aput v s = P at *
  have HP := Aside.mk hP0
  clear hP0
  obtain ⟨P, po⟩ := P
  dsimp only at hP
  rintro e w2 ⟨rfl, hb1⟩
  replace c0 := hb1.old c0
  replace c1 := hb1.old c1
  replace c2 := hb1.old c2
  replace hb := hb.trans (hb1.mono hl)
  replace hl := Nat.le_trans hl hb1.size
  clear hb1
  go_wp2_with fail
  have hc : Calls Try.prog 37 #[.agg #[.int .u64 s.i, .int .u64 s.t, .string s.d]] w2 fun e w' => e = .returned (.agg #[.int .u64 s.i, .int .u64 s.t, .string s.d]) ∧ Below w2.heap.size w2 w' := area_ref s w2
  refine hc.mono ?_
  clear hc
  rintro e w3 ⟨rfl, hb1⟩
  replace c0 := hb1.old c0
  replace c1 := hb1.old c1
  replace c2 := hb1.old c2
  replace hb := hb.trans (hb1.mono hl)
  replace hl := Nat.le_trans hl hb1.size
  clear hb1
  go_wp2_with fail
  have hc : Calls Try.prog 36 #[.int .i64 v, .agg #[.int .u64 s.i, .int .u64 s.t, .string s.d]] w3 _ := arearef_put v (by omega) s Hs.out w3
  refine hc.mono ?_
  clear hc
  rw [HP.out]
  dsimp only
  rintro e w4 ⟨rfl, hb1⟩
  replace c0 := hb1.old c0
  replace c1 := hb1.old c1
  replace c2 := hb1.old c2
  replace hb := hb.trans (hb1.mono hl)
  replace hl := Nat.le_trans hl hb1.size
  clear hb1
  go_wp2_with fail
  obtain ⟨R, rfl⟩ : ∃ R, R = raw := ⟨_, rfl⟩
  obtain ⟨w5, rfl⟩ : ∃ w5, w5 = w4 := ⟨_, rfl⟩
  have hRz : R.size ≤ 1152921504606846976 := by omega
  obtain ⟨⟨⟨gi, gt, gd⟩, gv, go⟩, hG0⟩ : ∃ G, aget R = G := ⟨_, rfl⟩
  have hc : Calls Try.prog 39 #[.string R] w5 fun e w' => e = .returned (.tuple #[.agg #[.int .u64 gi, .int .u64 gt, .string gd], .int .i64 gv, .bool go]) ∧ Below w5.heap.size w5 w' := by
    have := area_get R w5 hRz; rw [hG0] at this; exact this
  have HG := Aside.mk hG0
  clear hG0
  refine hc.mono ?_
  clear hc
  rintro e w6 ⟨rfl, hb1⟩
  replace c0 := hb1.old c0
  replace c1 := hb1.old c1
  replace c2 := hb1.old c2
  replace hb := hb.trans (hb1.mono hl)
  replace hl := Nat.le_trans hl hb1.size
  clear hb1
  go_wp2_with fail
  have d0 : (w6.alloc (Obj.cells #[Value.int .u64 gi, Value.int .u64 gt, Value.string gd] 61)).cell? ⟨w6.heap.size, 0, none⟩ = some (.int .u64 gi) := World.cell?_alloc_new w6 _ _ 0
  have d1 : (w6.alloc (Obj.cells #[Value.int .u64 gi, Value.int .u64 gt, Value.string gd] 61)).cell? ⟨w6.heap.size, 1, none⟩ = some (.int .u64 gt) := World.cell?_alloc_new w6 _ _ 1
  have d2 : (w6.alloc (Obj.cells #[Value.int .u64 gi, Value.int .u64 gt, Value.string gd] 61)).cell? ⟨w6.heap.size, 2, none⟩ = some (.string gd) := World.cell?_alloc_new w6 _ _ 2
  have hka : Keep (fun _ => False) w6 (w6.alloc (Obj.cells #[Value.int .u64 gi, Value.int .u64 gt, Value.string gd] 61)) := (Keep.refl _ _).alloc _
  replace c0 := hka.cell c0 id
  replace c1 := hka.cell c1 id
  replace c2 := hka.cell c2 id
  replace hb := hb.alloc hl (Obj.cells #[Value.int .u64 gi, Value.int .u64 gt, Value.string gd] 61)
  replace hl := Nat.le_trans hl hka.size
  clear hka
  generalize w6.alloc (Obj.cells #[Value.int .u64 gi, Value.int .u64 gt, Value.string gd] 61) = w7 at *
  generalize w6.heap.size = D at *
  have hc : Calls Try.prog 40 #[.string R] w7 fun e w' => e = .returned (.tuple #[.agg #[.int .u64 gi, .int .u64 gt, .string gd], .int .i64 gv, .bool go]) ∧ Below w7.heap.size w7 w' := by
    have := arearef_get R w7 hRz; rw [HG.out] at this; exact this
  refine hc.mono ?_
  clear hc
  rintro e w8 ⟨rfl, hb1⟩
  replace c0 := hb1.old c0
  replace c1 := hb1.old c1
  replace c2 := hb1.old c2
  replace d0 := hb1.old d0
  replace d1 := hb1.old d1
  replace d2 := hb1.old d2
  replace hb := hb.trans (hb1.mono hl)
  replace hl := Nat.le_trans hl hb1.size
  clear hb1
  go_wp2_with fail
  have e0 : (w8.alloc (Obj.cells #[Value.int .u64 gi, Value.int .u64 gt, Value.string gd] 66)).cell? ⟨w8.heap.size, 0, none⟩ = some (.int .u64 gi) := World.cell?_alloc_new w8 _ _ 0
  have e1 : (w8.alloc (Obj.cells #[Value.int .u64 gi, Value.int .u64 gt, Value.string gd] 66)).cell? ⟨w8.heap.size, 1, none⟩ = some (.int .u64 gt) := World.cell?_alloc_new w8 _ _ 1
  have e2 : (w8.alloc (Obj.cells #[Value.int .u64 gi, Value.int .u64 gt, Value.string gd] 66)).cell? ⟨w8.heap.size, 2, none⟩ = some (.string gd) := World.cell?_alloc_new w8 _ _ 2
  have hka : Keep (fun _ => False) w8 (w8.alloc (Obj.cells #[Value.int .u64 gi, Value.int .u64 gt, Value.string gd] 66)) := (Keep.refl _ _).alloc _
  replace c0 := hka.cell c0 id
  replace c1 := hka.cell c1 id
  replace c2 := hka.cell c2 id
  replace d0 := hka.cell d0 id
  replace d1 := hka.cell d1 id
  replace d2 := hka.cell d2 id
  replace hb := hb.alloc hl (Obj.cells #[Value.int .u64 gi, Value.int .u64 gt, Value.string gd] 66)
  replace hl := Nat.le_trans hl hka.size
  clear hka
  generalize w8.alloc (Obj.cells #[Value.int .u64 gi, Value.int .u64 gt, Value.string gd] 66) = w9 at *
  generalize w8.heap.size = E at *
  have k0 : ∀ s' : KW (fun _ => False) w9, s'.w.cell? ⟨B, 0, none⟩ = some (.int .u64 s.i) := fun s' => s'.keep.cell c0 id
  have k1 : ∀ s' : KW (fun _ => False) w9, s'.w.cell? ⟨B, 1, none⟩ = some (.int .u64 s.t) := fun s' => s'.keep.cell c1 id
  have k2 : ∀ s' : KW (fun _ => False) w9, s'.w.cell? ⟨B, 2, none⟩ = some (.string s.d) := fun s' => s'.keep.cell c2 id
  have k3 : ∀ s' : KW (fun _ => False) w9, s'.w.cell? ⟨D, 0, none⟩ = some (.int .u64 gi) := fun s' => s'.keep.cell d0 id
  have k4 : ∀ s' : KW (fun _ => False) w9, s'.w.cell? ⟨D, 1, none⟩ = some (.int .u64 gt) := fun s' => s'.keep.cell d1 id
  have k5 : ∀ s' : KW (fun _ => False) w9, s'.w.cell? ⟨D, 2, none⟩ = some (.string gd) := fun s' => s'.keep.cell d2 id
  have k6 : ∀ s' : KW (fun _ => False) w9, s'.w.cell? ⟨E, 0, none⟩ = some (.int .u64 gi) := fun s' => s'.keep.cell e0 id
  have k7 : ∀ s' : KW (fun _ => False) w9, s'.w.cell? ⟨E, 1, none⟩ = some (.int .u64 gt) := fun s' => s'.keep.cell e1 id
  have k8 : ∀ s' : KW (fun _ => False) w9, s'.w.cell? ⟨E, 2, none⟩ = some (.string gd) := fun s' => s'.keep.cell e2 id
  refine wp_region_keep (fun _ => False) (by kernel_rfl) (by kernel_rfl) ?_
  have q1 : ∀ W, Calls Try.prog 41 #[.int .i64 v, .int .i64 m, .agg #[.int .u64 s.i, .int .u64 s.t, .string s.d]] W fun e w' => e = .returned (.bool (aroom v m s)) ∧ Below W.heap.size W w' := fun W => area_room v m (by omega) hm s Hs.out W
  have q2 : ∀ W, Calls Try.prog 42 #[.int .i64 v, .int .i64 m, .agg #[.int .u64 s.i, .int .u64 s.t, .string s.d]] W fun e w' => e = .returned (.bool (aroom v m s)) ∧ Below W.heap.size W w' := fun W => arearef_room v m (by omega) hm s Hs.out W
  have q3 : ∀ W, Calls Try.prog 37 #[.agg #[.int .u64 s.i, .int .u64 s.t, .string s.d]] W fun e w' => e = .returned (.agg #[.int .u64 s.i, .int .u64 s.t, .string s.d]) ∧ Below W.heap.size W w' := fun W => area_ref s W
  have q4 : ∀ W, Calls Try.prog 37 #[.agg #[.int .u64 gi, .int .u64 gt, .string gd]] W fun e w' => e = .returned (.agg #[.int .u64 gi, .int .u64 gt, .string gd]) ∧ Below W.heap.size W w' := fun W => area_ref ⟨gi, gt, gd⟩ W
  have Q1 := Aside.mk q1
  have Q2 := Aside.mk q2
  have Q3 := Aside.mk q3
  have Q4 := Aside.mk q4
  generalize aroom v m s = RM at *
  clear q1 q2 q3 q4
  repeat (go_big_quiet_step ((first | (go_at_call 41; exact KW.calls (Q1.out _)) | (go_at_call 42; exact KW.calls (Q2.out _)) | (go_at_call 37; first | with_reducible exact KW.calls (Q3.out _) | with_reducible exact KW.calls (Q4.out _)))))
  refine wpQuiet_nil ?_
  intro s4
  have hbs := s4.below
  replace hb := hb.trans (hbs.mono hl)
  clear k0 k1 k2 k3 k4 k5 k6 k7 k8
  go_wp2_with fail
  go_ret
  exact ⟨rfl, by rw [HW.out]; exact hb⟩
set_option maxHeartbeats 3200000 in
theorem areaCodes_onefalse (v : Int) (s : Snap) (h : s.ok) (m : Int) (raw : ByteArray) (at' : Int) (by' : UInt8) (hv : -9223372036854775808 ≤ v ∧ v ≤ 9223372036854775807) (hm : -9223372036854775808 ≤ m ∧ m ≤ 9223372036854775807) (ha : -9223372036854775808 ≤ at' ∧ at' ≤ 9223372036854775807) (hraw : raw.size ≤ 140737488351232) (hd : s.d.size ≤ 140737488351232) (U : Int) (hU : IntKind.u64.wrap v = U) (hU0 : 0 ≤ U) (hU1 : U ≤ 18446744073709551615) (hUr : U % 2 = 0) (w : World) :
    Calls Try.prog 10 #[.int .i64 v, .bool true, .agg #[.int .u64 s.i, .int .u64 s.t, .string s.d], .int .i64 m, .string raw, .bool false, .int .i64 at', .int .u8 by'.toNat] w fun e w' => e = .returned (.bool true) ∧ Below w.heap.size w w' := by
  have hse := str_beq
  have Hs := Aside.mk h
  have hb := (Below.refl w.heap.size w).alloc (Nat.le_refl _) (Obj.cells #[Value.int .u64 s.i, Value.int .u64 s.t, Value.string s.d] 61)
  go_enter Try.func10, Try.ntmps10
  go_wp2_with fail
  have c0 : (w.alloc (Obj.cells #[Value.int .u64 s.i, Value.int .u64 s.t, Value.string s.d] 61)).cell? ⟨w.heap.size, 0, none⟩ = some (.int .u64 s.i) := World.cell?_alloc_new w _ _ 0
  have c1 : (w.alloc (Obj.cells #[Value.int .u64 s.i, Value.int .u64 s.t, Value.string s.d] 61)).cell? ⟨w.heap.size, 1, none⟩ = some (.int .u64 s.t) := World.cell?_alloc_new w _ _ 1
  have c2 : (w.alloc (Obj.cells #[Value.int .u64 s.i, Value.int .u64 s.t, Value.string s.d] 61)).cell? ⟨w.heap.size, 2, none⟩ = some (.string s.d) := World.cell?_alloc_new w _ _ 2
  generalize w.alloc (Obj.cells #[Value.int .u64 s.i, Value.int .u64 s.t, Value.string s.d] 61) = wa at *
  generalize hW0 : w.heap.size = B at *
  have HW := Aside.mk hW0
  clear hW0
  have hl : B ≤ wa.heap.size := Nat.le_of_lt (World.block_lt_of_cell? _ _ c0)
  refine (area_examples _).mono ?_
  rintro e w1 ⟨rfl, hb1⟩
  replace c0 := hb1.old c0
  replace c1 := hb1.old c1
  replace c2 := hb1.old c2
  replace hb := hb.trans (hb1.mono hl)
  replace hl := Nat.le_trans hl hb1.size
  clear hb1
  go_wp2_with fail
  have hc : Calls Try.prog 35 #[.int .i64 1, .agg #[.int .u64 s.i, .int .u64 s.t, .string s.d]] w1 _ := area_put 1 (by omega) s Hs.out w1
  refine hc.mono ?_
  clear hc
  have hP := aput_size 1 s
  generalize hP0 : aput 1 s = P at *
  have HP := Aside.mk hP0
  clear hP0
  obtain ⟨P, po⟩ := P
  dsimp only at hP
  rintro e w2 ⟨rfl, hb1⟩
  replace c0 := hb1.old c0
  replace c1 := hb1.old c1
  replace c2 := hb1.old c2
  replace hb := hb.trans (hb1.mono hl)
  replace hl := Nat.le_trans hl hb1.size
  clear hb1
  go_wp2_with fail
  have hc : Calls Try.prog 37 #[.agg #[.int .u64 s.i, .int .u64 s.t, .string s.d]] w2 fun e w' => e = .returned (.agg #[.int .u64 s.i, .int .u64 s.t, .string s.d]) ∧ Below w2.heap.size w2 w' := area_ref s w2
  refine hc.mono ?_
  clear hc
  rintro e w3 ⟨rfl, hb1⟩
  replace c0 := hb1.old c0
  replace c1 := hb1.old c1
  replace c2 := hb1.old c2
  replace hb := hb.trans (hb1.mono hl)
  replace hl := Nat.le_trans hl hb1.size
  clear hb1
  go_wp2_with fail
  have hc : Calls Try.prog 36 #[.int .i64 1, .agg #[.int .u64 s.i, .int .u64 s.t, .string s.d]] w3 _ := arearef_put 1 (by omega) s Hs.out w3
  refine hc.mono ?_
  clear hc
  rw [HP.out]
  dsimp only
  rintro e w4 ⟨rfl, hb1⟩
  replace c0 := hb1.old c0
  replace c1 := hb1.old c1
  replace c2 := hb1.old c2
  replace hb := hb.trans (hb1.mono hl)
  replace hl := Nat.le_trans hl hb1.size
  clear hb1
  go_wp2_with fail
  obtain ⟨R, rfl⟩ : ∃ R, R = raw := ⟨_, rfl⟩
  obtain ⟨w5, rfl⟩ : ∃ w5, w5 = w4 := ⟨_, rfl⟩
  have hRz : R.size ≤ 1152921504606846976 := by omega
  obtain ⟨⟨⟨gi, gt, gd⟩, gv, go⟩, hG0⟩ : ∃ G, aget R = G := ⟨_, rfl⟩
  have hc : Calls Try.prog 39 #[.string R] w5 fun e w' => e = .returned (.tuple #[.agg #[.int .u64 gi, .int .u64 gt, .string gd], .int .i64 gv, .bool go]) ∧ Below w5.heap.size w5 w' := by
    have := area_get R w5 hRz; rw [hG0] at this; exact this
  have HG := Aside.mk hG0
  clear hG0
  refine hc.mono ?_
  clear hc
  rintro e w6 ⟨rfl, hb1⟩
  replace c0 := hb1.old c0
  replace c1 := hb1.old c1
  replace c2 := hb1.old c2
  replace hb := hb.trans (hb1.mono hl)
  replace hl := Nat.le_trans hl hb1.size
  clear hb1
  go_wp2_with fail
  have d0 : (w6.alloc (Obj.cells #[Value.int .u64 gi, Value.int .u64 gt, Value.string gd] 61)).cell? ⟨w6.heap.size, 0, none⟩ = some (.int .u64 gi) := World.cell?_alloc_new w6 _ _ 0
  have d1 : (w6.alloc (Obj.cells #[Value.int .u64 gi, Value.int .u64 gt, Value.string gd] 61)).cell? ⟨w6.heap.size, 1, none⟩ = some (.int .u64 gt) := World.cell?_alloc_new w6 _ _ 1
  have d2 : (w6.alloc (Obj.cells #[Value.int .u64 gi, Value.int .u64 gt, Value.string gd] 61)).cell? ⟨w6.heap.size, 2, none⟩ = some (.string gd) := World.cell?_alloc_new w6 _ _ 2
  have hka : Keep (fun _ => False) w6 (w6.alloc (Obj.cells #[Value.int .u64 gi, Value.int .u64 gt, Value.string gd] 61)) := (Keep.refl _ _).alloc _
  replace c0 := hka.cell c0 id
  replace c1 := hka.cell c1 id
  replace c2 := hka.cell c2 id
  replace hb := hb.alloc hl (Obj.cells #[Value.int .u64 gi, Value.int .u64 gt, Value.string gd] 61)
  replace hl := Nat.le_trans hl hka.size
  clear hka
  generalize w6.alloc (Obj.cells #[Value.int .u64 gi, Value.int .u64 gt, Value.string gd] 61) = w7 at *
  generalize w6.heap.size = D at *
  have hc : Calls Try.prog 40 #[.string R] w7 fun e w' => e = .returned (.tuple #[.agg #[.int .u64 gi, .int .u64 gt, .string gd], .int .i64 gv, .bool go]) ∧ Below w7.heap.size w7 w' := by
    have := arearef_get R w7 hRz; rw [HG.out] at this; exact this
  refine hc.mono ?_
  clear hc
  rintro e w8 ⟨rfl, hb1⟩
  replace c0 := hb1.old c0
  replace c1 := hb1.old c1
  replace c2 := hb1.old c2
  replace d0 := hb1.old d0
  replace d1 := hb1.old d1
  replace d2 := hb1.old d2
  replace hb := hb.trans (hb1.mono hl)
  replace hl := Nat.le_trans hl hb1.size
  clear hb1
  go_wp2_with fail
  have e0 : (w8.alloc (Obj.cells #[Value.int .u64 gi, Value.int .u64 gt, Value.string gd] 66)).cell? ⟨w8.heap.size, 0, none⟩ = some (.int .u64 gi) := World.cell?_alloc_new w8 _ _ 0
  have e1 : (w8.alloc (Obj.cells #[Value.int .u64 gi, Value.int .u64 gt, Value.string gd] 66)).cell? ⟨w8.heap.size, 1, none⟩ = some (.int .u64 gt) := World.cell?_alloc_new w8 _ _ 1
  have e2 : (w8.alloc (Obj.cells #[Value.int .u64 gi, Value.int .u64 gt, Value.string gd] 66)).cell? ⟨w8.heap.size, 2, none⟩ = some (.string gd) := World.cell?_alloc_new w8 _ _ 2
  have hka : Keep (fun _ => False) w8 (w8.alloc (Obj.cells #[Value.int .u64 gi, Value.int .u64 gt, Value.string gd] 66)) := (Keep.refl _ _).alloc _
  replace c0 := hka.cell c0 id
  replace c1 := hka.cell c1 id
  replace c2 := hka.cell c2 id
  replace d0 := hka.cell d0 id
  replace d1 := hka.cell d1 id
  replace d2 := hka.cell d2 id
  replace hb := hb.alloc hl (Obj.cells #[Value.int .u64 gi, Value.int .u64 gt, Value.string gd] 66)
  replace hl := Nat.le_trans hl hka.size
  clear hka
  generalize w8.alloc (Obj.cells #[Value.int .u64 gi, Value.int .u64 gt, Value.string gd] 66) = w9 at *
  generalize w8.heap.size = E at *
  have k0 : ∀ s' : KW (fun _ => False) w9, s'.w.cell? ⟨B, 0, none⟩ = some (.int .u64 s.i) := fun s' => s'.keep.cell c0 id
  have k1 : ∀ s' : KW (fun _ => False) w9, s'.w.cell? ⟨B, 1, none⟩ = some (.int .u64 s.t) := fun s' => s'.keep.cell c1 id
  have k2 : ∀ s' : KW (fun _ => False) w9, s'.w.cell? ⟨B, 2, none⟩ = some (.string s.d) := fun s' => s'.keep.cell c2 id
  have k3 : ∀ s' : KW (fun _ => False) w9, s'.w.cell? ⟨D, 0, none⟩ = some (.int .u64 gi) := fun s' => s'.keep.cell d0 id
  have k4 : ∀ s' : KW (fun _ => False) w9, s'.w.cell? ⟨D, 1, none⟩ = some (.int .u64 gt) := fun s' => s'.keep.cell d1 id
  have k5 : ∀ s' : KW (fun _ => False) w9, s'.w.cell? ⟨D, 2, none⟩ = some (.string gd) := fun s' => s'.keep.cell d2 id
  have k6 : ∀ s' : KW (fun _ => False) w9, s'.w.cell? ⟨E, 0, none⟩ = some (.int .u64 gi) := fun s' => s'.keep.cell e0 id
  have k7 : ∀ s' : KW (fun _ => False) w9, s'.w.cell? ⟨E, 1, none⟩ = some (.int .u64 gt) := fun s' => s'.keep.cell e1 id
  have k8 : ∀ s' : KW (fun _ => False) w9, s'.w.cell? ⟨E, 2, none⟩ = some (.string gd) := fun s' => s'.keep.cell e2 id
  refine wp_region_keep (fun _ => False) (by kernel_rfl) (by kernel_rfl) ?_
  have q1 : ∀ W, Calls Try.prog 41 #[.int .i64 1, .int .i64 m, .agg #[.int .u64 s.i, .int .u64 s.t, .string s.d]] W fun e w' => e = .returned (.bool (aroom 1 m s)) ∧ Below W.heap.size W w' := fun W => area_room 1 m (by omega) hm s Hs.out W
  have q2 : ∀ W, Calls Try.prog 42 #[.int .i64 1, .int .i64 m, .agg #[.int .u64 s.i, .int .u64 s.t, .string s.d]] W fun e w' => e = .returned (.bool (aroom 1 m s)) ∧ Below W.heap.size W w' := fun W => arearef_room 1 m (by omega) hm s Hs.out W
  have q3 : ∀ W, Calls Try.prog 37 #[.agg #[.int .u64 s.i, .int .u64 s.t, .string s.d]] W fun e w' => e = .returned (.agg #[.int .u64 s.i, .int .u64 s.t, .string s.d]) ∧ Below W.heap.size W w' := fun W => area_ref s W
  have q4 : ∀ W, Calls Try.prog 37 #[.agg #[.int .u64 gi, .int .u64 gt, .string gd]] W fun e w' => e = .returned (.agg #[.int .u64 gi, .int .u64 gt, .string gd]) ∧ Below W.heap.size W w' := fun W => area_ref ⟨gi, gt, gd⟩ W
  have Q1 := Aside.mk q1
  have Q2 := Aside.mk q2
  have Q3 := Aside.mk q3
  have Q4 := Aside.mk q4
  generalize aroom 1 m s = RM at *
  clear q1 q2 q3 q4
  repeat (go_big_quiet_step ((first | (go_at_call 41; exact KW.calls (Q1.out _)) | (go_at_call 42; exact KW.calls (Q2.out _)) | (go_at_call 37; first | with_reducible exact KW.calls (Q3.out _) | with_reducible exact KW.calls (Q4.out _)))))
  refine wpQuiet_nil ?_
  intro s4
  have hbs := s4.below
  replace hb := hb.trans (hbs.mono hl)
  clear k0 k1 k2 k3 k4 k5 k6 k7 k8
  go_wp2_with fail
  go_ret
  exact ⟨rfl, by rw [HW.out]; exact hb⟩
set_option maxHeartbeats 3200000 in
theorem areaCodes_twofalse (v : Int) (s : Snap) (h : s.ok) (m : Int) (raw : ByteArray) (at' : Int) (by' : UInt8) (hv : -9223372036854775808 ≤ v ∧ v ≤ 9223372036854775807) (hm : -9223372036854775808 ≤ m ∧ m ≤ 9223372036854775807) (ha : -9223372036854775808 ≤ at' ∧ at' ≤ 9223372036854775807) (hraw : raw.size ≤ 140737488351232) (hd : s.d.size ≤ 140737488351232) (U : Int) (hU : IntKind.u64.wrap v = U) (hU0 : 0 ≤ U) (hU1 : U ≤ 18446744073709551615) (hUr : U % 2 = 1) (w : World) :
    Calls Try.prog 10 #[.int .i64 v, .bool true, .agg #[.int .u64 s.i, .int .u64 s.t, .string s.d], .int .i64 m, .string raw, .bool false, .int .i64 at', .int .u8 by'.toNat] w fun e w' => e = .returned (.bool true) ∧ Below w.heap.size w w' := by
  have hse := str_beq
  have Hs := Aside.mk h
  have hb := (Below.refl w.heap.size w).alloc (Nat.le_refl _) (Obj.cells #[Value.int .u64 s.i, Value.int .u64 s.t, Value.string s.d] 61)
  go_enter Try.func10, Try.ntmps10
  go_wp2_with fail
  have c0 : (w.alloc (Obj.cells #[Value.int .u64 s.i, Value.int .u64 s.t, Value.string s.d] 61)).cell? ⟨w.heap.size, 0, none⟩ = some (.int .u64 s.i) := World.cell?_alloc_new w _ _ 0
  have c1 : (w.alloc (Obj.cells #[Value.int .u64 s.i, Value.int .u64 s.t, Value.string s.d] 61)).cell? ⟨w.heap.size, 1, none⟩ = some (.int .u64 s.t) := World.cell?_alloc_new w _ _ 1
  have c2 : (w.alloc (Obj.cells #[Value.int .u64 s.i, Value.int .u64 s.t, Value.string s.d] 61)).cell? ⟨w.heap.size, 2, none⟩ = some (.string s.d) := World.cell?_alloc_new w _ _ 2
  generalize w.alloc (Obj.cells #[Value.int .u64 s.i, Value.int .u64 s.t, Value.string s.d] 61) = wa at *
  generalize hW0 : w.heap.size = B at *
  have HW := Aside.mk hW0
  clear hW0
  have hl : B ≤ wa.heap.size := Nat.le_of_lt (World.block_lt_of_cell? _ _ c0)
  refine (area_examples _).mono ?_
  rintro e w1 ⟨rfl, hb1⟩
  replace c0 := hb1.old c0
  replace c1 := hb1.old c1
  replace c2 := hb1.old c2
  replace hb := hb.trans (hb1.mono hl)
  replace hl := Nat.le_trans hl hb1.size
  clear hb1
  go_wp2_with fail
  have hc : Calls Try.prog 35 #[.int .i64 2, .agg #[.int .u64 s.i, .int .u64 s.t, .string s.d]] w1 _ := area_put 2 (by omega) s Hs.out w1
  refine hc.mono ?_
  clear hc
  have hP := aput_size 2 s
  generalize hP0 : aput 2 s = P at *
  have HP := Aside.mk hP0
  clear hP0
  obtain ⟨P, po⟩ := P
  dsimp only at hP
  rintro e w2 ⟨rfl, hb1⟩
  replace c0 := hb1.old c0
  replace c1 := hb1.old c1
  replace c2 := hb1.old c2
  replace hb := hb.trans (hb1.mono hl)
  replace hl := Nat.le_trans hl hb1.size
  clear hb1
  go_wp2_with fail
  have hc : Calls Try.prog 37 #[.agg #[.int .u64 s.i, .int .u64 s.t, .string s.d]] w2 fun e w' => e = .returned (.agg #[.int .u64 s.i, .int .u64 s.t, .string s.d]) ∧ Below w2.heap.size w2 w' := area_ref s w2
  refine hc.mono ?_
  clear hc
  rintro e w3 ⟨rfl, hb1⟩
  replace c0 := hb1.old c0
  replace c1 := hb1.old c1
  replace c2 := hb1.old c2
  replace hb := hb.trans (hb1.mono hl)
  replace hl := Nat.le_trans hl hb1.size
  clear hb1
  go_wp2_with fail
  have hc : Calls Try.prog 36 #[.int .i64 2, .agg #[.int .u64 s.i, .int .u64 s.t, .string s.d]] w3 _ := arearef_put 2 (by omega) s Hs.out w3
  refine hc.mono ?_
  clear hc
  rw [HP.out]
  dsimp only
  rintro e w4 ⟨rfl, hb1⟩
  replace c0 := hb1.old c0
  replace c1 := hb1.old c1
  replace c2 := hb1.old c2
  replace hb := hb.trans (hb1.mono hl)
  replace hl := Nat.le_trans hl hb1.size
  clear hb1
  go_wp2_with fail
  obtain ⟨R, rfl⟩ : ∃ R, R = raw := ⟨_, rfl⟩
  obtain ⟨w5, rfl⟩ : ∃ w5, w5 = w4 := ⟨_, rfl⟩
  have hRz : R.size ≤ 1152921504606846976 := by omega
  obtain ⟨⟨⟨gi, gt, gd⟩, gv, go⟩, hG0⟩ : ∃ G, aget R = G := ⟨_, rfl⟩
  have hc : Calls Try.prog 39 #[.string R] w5 fun e w' => e = .returned (.tuple #[.agg #[.int .u64 gi, .int .u64 gt, .string gd], .int .i64 gv, .bool go]) ∧ Below w5.heap.size w5 w' := by
    have := area_get R w5 hRz; rw [hG0] at this; exact this
  have HG := Aside.mk hG0
  clear hG0
  refine hc.mono ?_
  clear hc
  rintro e w6 ⟨rfl, hb1⟩
  replace c0 := hb1.old c0
  replace c1 := hb1.old c1
  replace c2 := hb1.old c2
  replace hb := hb.trans (hb1.mono hl)
  replace hl := Nat.le_trans hl hb1.size
  clear hb1
  go_wp2_with fail
  have d0 : (w6.alloc (Obj.cells #[Value.int .u64 gi, Value.int .u64 gt, Value.string gd] 61)).cell? ⟨w6.heap.size, 0, none⟩ = some (.int .u64 gi) := World.cell?_alloc_new w6 _ _ 0
  have d1 : (w6.alloc (Obj.cells #[Value.int .u64 gi, Value.int .u64 gt, Value.string gd] 61)).cell? ⟨w6.heap.size, 1, none⟩ = some (.int .u64 gt) := World.cell?_alloc_new w6 _ _ 1
  have d2 : (w6.alloc (Obj.cells #[Value.int .u64 gi, Value.int .u64 gt, Value.string gd] 61)).cell? ⟨w6.heap.size, 2, none⟩ = some (.string gd) := World.cell?_alloc_new w6 _ _ 2
  have hka : Keep (fun _ => False) w6 (w6.alloc (Obj.cells #[Value.int .u64 gi, Value.int .u64 gt, Value.string gd] 61)) := (Keep.refl _ _).alloc _
  replace c0 := hka.cell c0 id
  replace c1 := hka.cell c1 id
  replace c2 := hka.cell c2 id
  replace hb := hb.alloc hl (Obj.cells #[Value.int .u64 gi, Value.int .u64 gt, Value.string gd] 61)
  replace hl := Nat.le_trans hl hka.size
  clear hka
  generalize w6.alloc (Obj.cells #[Value.int .u64 gi, Value.int .u64 gt, Value.string gd] 61) = w7 at *
  generalize w6.heap.size = D at *
  have hc : Calls Try.prog 40 #[.string R] w7 fun e w' => e = .returned (.tuple #[.agg #[.int .u64 gi, .int .u64 gt, .string gd], .int .i64 gv, .bool go]) ∧ Below w7.heap.size w7 w' := by
    have := arearef_get R w7 hRz; rw [HG.out] at this; exact this
  refine hc.mono ?_
  clear hc
  rintro e w8 ⟨rfl, hb1⟩
  replace c0 := hb1.old c0
  replace c1 := hb1.old c1
  replace c2 := hb1.old c2
  replace d0 := hb1.old d0
  replace d1 := hb1.old d1
  replace d2 := hb1.old d2
  replace hb := hb.trans (hb1.mono hl)
  replace hl := Nat.le_trans hl hb1.size
  clear hb1
  go_wp2_with fail
  have e0 : (w8.alloc (Obj.cells #[Value.int .u64 gi, Value.int .u64 gt, Value.string gd] 66)).cell? ⟨w8.heap.size, 0, none⟩ = some (.int .u64 gi) := World.cell?_alloc_new w8 _ _ 0
  have e1 : (w8.alloc (Obj.cells #[Value.int .u64 gi, Value.int .u64 gt, Value.string gd] 66)).cell? ⟨w8.heap.size, 1, none⟩ = some (.int .u64 gt) := World.cell?_alloc_new w8 _ _ 1
  have e2 : (w8.alloc (Obj.cells #[Value.int .u64 gi, Value.int .u64 gt, Value.string gd] 66)).cell? ⟨w8.heap.size, 2, none⟩ = some (.string gd) := World.cell?_alloc_new w8 _ _ 2
  have hka : Keep (fun _ => False) w8 (w8.alloc (Obj.cells #[Value.int .u64 gi, Value.int .u64 gt, Value.string gd] 66)) := (Keep.refl _ _).alloc _
  replace c0 := hka.cell c0 id
  replace c1 := hka.cell c1 id
  replace c2 := hka.cell c2 id
  replace d0 := hka.cell d0 id
  replace d1 := hka.cell d1 id
  replace d2 := hka.cell d2 id
  replace hb := hb.alloc hl (Obj.cells #[Value.int .u64 gi, Value.int .u64 gt, Value.string gd] 66)
  replace hl := Nat.le_trans hl hka.size
  clear hka
  generalize w8.alloc (Obj.cells #[Value.int .u64 gi, Value.int .u64 gt, Value.string gd] 66) = w9 at *
  generalize w8.heap.size = E at *
  have k0 : ∀ s' : KW (fun _ => False) w9, s'.w.cell? ⟨B, 0, none⟩ = some (.int .u64 s.i) := fun s' => s'.keep.cell c0 id
  have k1 : ∀ s' : KW (fun _ => False) w9, s'.w.cell? ⟨B, 1, none⟩ = some (.int .u64 s.t) := fun s' => s'.keep.cell c1 id
  have k2 : ∀ s' : KW (fun _ => False) w9, s'.w.cell? ⟨B, 2, none⟩ = some (.string s.d) := fun s' => s'.keep.cell c2 id
  have k3 : ∀ s' : KW (fun _ => False) w9, s'.w.cell? ⟨D, 0, none⟩ = some (.int .u64 gi) := fun s' => s'.keep.cell d0 id
  have k4 : ∀ s' : KW (fun _ => False) w9, s'.w.cell? ⟨D, 1, none⟩ = some (.int .u64 gt) := fun s' => s'.keep.cell d1 id
  have k5 : ∀ s' : KW (fun _ => False) w9, s'.w.cell? ⟨D, 2, none⟩ = some (.string gd) := fun s' => s'.keep.cell d2 id
  have k6 : ∀ s' : KW (fun _ => False) w9, s'.w.cell? ⟨E, 0, none⟩ = some (.int .u64 gi) := fun s' => s'.keep.cell e0 id
  have k7 : ∀ s' : KW (fun _ => False) w9, s'.w.cell? ⟨E, 1, none⟩ = some (.int .u64 gt) := fun s' => s'.keep.cell e1 id
  have k8 : ∀ s' : KW (fun _ => False) w9, s'.w.cell? ⟨E, 2, none⟩ = some (.string gd) := fun s' => s'.keep.cell e2 id
  refine wp_region_keep (fun _ => False) (by kernel_rfl) (by kernel_rfl) ?_
  have q1 : ∀ W, Calls Try.prog 41 #[.int .i64 2, .int .i64 m, .agg #[.int .u64 s.i, .int .u64 s.t, .string s.d]] W fun e w' => e = .returned (.bool (aroom 2 m s)) ∧ Below W.heap.size W w' := fun W => area_room 2 m (by omega) hm s Hs.out W
  have q2 : ∀ W, Calls Try.prog 42 #[.int .i64 2, .int .i64 m, .agg #[.int .u64 s.i, .int .u64 s.t, .string s.d]] W fun e w' => e = .returned (.bool (aroom 2 m s)) ∧ Below W.heap.size W w' := fun W => arearef_room 2 m (by omega) hm s Hs.out W
  have q3 : ∀ W, Calls Try.prog 37 #[.agg #[.int .u64 s.i, .int .u64 s.t, .string s.d]] W fun e w' => e = .returned (.agg #[.int .u64 s.i, .int .u64 s.t, .string s.d]) ∧ Below W.heap.size W w' := fun W => area_ref s W
  have q4 : ∀ W, Calls Try.prog 37 #[.agg #[.int .u64 gi, .int .u64 gt, .string gd]] W fun e w' => e = .returned (.agg #[.int .u64 gi, .int .u64 gt, .string gd]) ∧ Below W.heap.size W w' := fun W => area_ref ⟨gi, gt, gd⟩ W
  have Q1 := Aside.mk q1
  have Q2 := Aside.mk q2
  have Q3 := Aside.mk q3
  have Q4 := Aside.mk q4
  generalize aroom 2 m s = RM at *
  clear q1 q2 q3 q4
  repeat (go_big_quiet_step ((first | (go_at_call 41; exact KW.calls (Q1.out _)) | (go_at_call 42; exact KW.calls (Q2.out _)) | (go_at_call 37; first | with_reducible exact KW.calls (Q3.out _) | with_reducible exact KW.calls (Q4.out _)))))
  refine wpQuiet_nil ?_
  intro s4
  have hbs := s4.below
  replace hb := hb.trans (hbs.mono hl)
  clear k0 k1 k2 k3 k4 k5 k6 k7 k8
  go_wp2_with fail
  go_ret
  exact ⟨rfl, by rw [HW.out]; exact hb⟩
set_option maxHeartbeats 3200000 in
theorem areaCodes_vtrue (v : Int) (s : Snap) (h : s.ok) (m : Int) (raw : ByteArray) (at' : Int) (by' : UInt8) (hv : -9223372036854775808 ≤ v ∧ v ≤ 9223372036854775807) (hm : -9223372036854775808 ≤ m ∧ m ≤ 9223372036854775807) (ha : -9223372036854775808 ≤ at' ∧ at' ≤ 9223372036854775807) (hraw : raw.size ≤ 140737488351232) (hd : s.d.size ≤ 140737488351232) (w : World) :
    Calls Try.prog 10 #[.int .i64 v, .bool false, .agg #[.int .u64 s.i, .int .u64 s.t, .string s.d], .int .i64 m, .string raw, .bool true, .int .i64 at', .int .u8 by'.toNat] w fun e w' => e = .returned (.bool true) ∧ Below w.heap.size w w' := by
  have hse := str_beq
  have Hs := Aside.mk h
  have hb := (Below.refl w.heap.size w).alloc (Nat.le_refl _) (Obj.cells #[Value.int .u64 s.i, Value.int .u64 s.t, Value.string s.d] 61)
  go_enter Try.func10, Try.ntmps10
  go_wp2_with fail
  have c0 : (w.alloc (Obj.cells #[Value.int .u64 s.i, Value.int .u64 s.t, Value.string s.d] 61)).cell? ⟨w.heap.size, 0, none⟩ = some (.int .u64 s.i) := World.cell?_alloc_new w _ _ 0
  have c1 : (w.alloc (Obj.cells #[Value.int .u64 s.i, Value.int .u64 s.t, Value.string s.d] 61)).cell? ⟨w.heap.size, 1, none⟩ = some (.int .u64 s.t) := World.cell?_alloc_new w _ _ 1
  have c2 : (w.alloc (Obj.cells #[Value.int .u64 s.i, Value.int .u64 s.t, Value.string s.d] 61)).cell? ⟨w.heap.size, 2, none⟩ = some (.string s.d) := World.cell?_alloc_new w _ _ 2
  generalize w.alloc (Obj.cells #[Value.int .u64 s.i, Value.int .u64 s.t, Value.string s.d] 61) = wa at *
  generalize hW0 : w.heap.size = B at *
  have HW := Aside.mk hW0
  clear hW0
  have hl : B ≤ wa.heap.size := Nat.le_of_lt (World.block_lt_of_cell? _ _ c0)
  refine (area_examples _).mono ?_
  rintro e w1 ⟨rfl, hb1⟩
  replace c0 := hb1.old c0
  replace c1 := hb1.old c1
  replace c2 := hb1.old c2
  replace hb := hb.trans (hb1.mono hl)
  replace hl := Nat.le_trans hl hb1.size
  clear hb1
  go_wp2_with fail
  have hc : Calls Try.prog 35 #[.int .i64 v, .agg #[.int .u64 s.i, .int .u64 s.t, .string s.d]] w1 _ := area_put v (by omega) s Hs.out w1
  refine hc.mono ?_
  clear hc
  have hP := aput_size v s
  generalize hP0 : aput v s = P at *
  have HP := Aside.mk hP0
  clear hP0
  obtain ⟨P, po⟩ := P
  dsimp only at hP
  rintro e w2 ⟨rfl, hb1⟩
  replace c0 := hb1.old c0
  replace c1 := hb1.old c1
  replace c2 := hb1.old c2
  replace hb := hb.trans (hb1.mono hl)
  replace hl := Nat.le_trans hl hb1.size
  clear hb1
  go_wp2_with fail
  have hc : Calls Try.prog 37 #[.agg #[.int .u64 s.i, .int .u64 s.t, .string s.d]] w2 fun e w' => e = .returned (.agg #[.int .u64 s.i, .int .u64 s.t, .string s.d]) ∧ Below w2.heap.size w2 w' := area_ref s w2
  refine hc.mono ?_
  clear hc
  rintro e w3 ⟨rfl, hb1⟩
  replace c0 := hb1.old c0
  replace c1 := hb1.old c1
  replace c2 := hb1.old c2
  replace hb := hb.trans (hb1.mono hl)
  replace hl := Nat.le_trans hl hb1.size
  clear hb1
  go_wp2_with fail
  have hc : Calls Try.prog 36 #[.int .i64 v, .agg #[.int .u64 s.i, .int .u64 s.t, .string s.d]] w3 _ := arearef_put v (by omega) s Hs.out w3
  refine hc.mono ?_
  clear hc
  rw [HP.out]
  dsimp only
  rintro e w4 ⟨rfl, hb1⟩
  replace c0 := hb1.old c0
  replace c1 := hb1.old c1
  replace c2 := hb1.old c2
  replace hb := hb.trans (hb1.mono hl)
  replace hl := Nat.le_trans hl hb1.size
  clear hb1
  go_wp2_with fail
  refine (bend11 P at' by' ha (by omega) _).mono ?_
  rintro e w5 ⟨⟨t, htz, rfl⟩, hb1⟩
  replace c0 := hb1.old c0
  replace c1 := hb1.old c1
  replace c2 := hb1.old c2
  replace hb := hb.trans (hb1.mono hl)
  replace hl := Nat.le_trans hl hb1.size
  clear hb1
  obtain ⟨R, hR⟩ : ∃ R, t ++ raw = R := ⟨_, rfl⟩
  have hRz : R.size ≤ 1152921504606846976 := by rw [← hR, ByteArray.size_append]; omega
  go_wp2_with fail
  clear hR
  obtain ⟨⟨⟨gi, gt, gd⟩, gv, go⟩, hG0⟩ : ∃ G, aget R = G := ⟨_, rfl⟩
  have hc : Calls Try.prog 39 #[.string R] w5 fun e w' => e = .returned (.tuple #[.agg #[.int .u64 gi, .int .u64 gt, .string gd], .int .i64 gv, .bool go]) ∧ Below w5.heap.size w5 w' := by
    have := area_get R w5 hRz; rw [hG0] at this; exact this
  have HG := Aside.mk hG0
  clear hG0
  refine hc.mono ?_
  clear hc
  rintro e w6 ⟨rfl, hb1⟩
  replace c0 := hb1.old c0
  replace c1 := hb1.old c1
  replace c2 := hb1.old c2
  replace hb := hb.trans (hb1.mono hl)
  replace hl := Nat.le_trans hl hb1.size
  clear hb1
  go_wp2_with fail
  have d0 : (w6.alloc (Obj.cells #[Value.int .u64 gi, Value.int .u64 gt, Value.string gd] 61)).cell? ⟨w6.heap.size, 0, none⟩ = some (.int .u64 gi) := World.cell?_alloc_new w6 _ _ 0
  have d1 : (w6.alloc (Obj.cells #[Value.int .u64 gi, Value.int .u64 gt, Value.string gd] 61)).cell? ⟨w6.heap.size, 1, none⟩ = some (.int .u64 gt) := World.cell?_alloc_new w6 _ _ 1
  have d2 : (w6.alloc (Obj.cells #[Value.int .u64 gi, Value.int .u64 gt, Value.string gd] 61)).cell? ⟨w6.heap.size, 2, none⟩ = some (.string gd) := World.cell?_alloc_new w6 _ _ 2
  have hka : Keep (fun _ => False) w6 (w6.alloc (Obj.cells #[Value.int .u64 gi, Value.int .u64 gt, Value.string gd] 61)) := (Keep.refl _ _).alloc _
  replace c0 := hka.cell c0 id
  replace c1 := hka.cell c1 id
  replace c2 := hka.cell c2 id
  replace hb := hb.alloc hl (Obj.cells #[Value.int .u64 gi, Value.int .u64 gt, Value.string gd] 61)
  replace hl := Nat.le_trans hl hka.size
  clear hka
  generalize w6.alloc (Obj.cells #[Value.int .u64 gi, Value.int .u64 gt, Value.string gd] 61) = w7 at *
  generalize w6.heap.size = D at *
  have hc : Calls Try.prog 40 #[.string R] w7 fun e w' => e = .returned (.tuple #[.agg #[.int .u64 gi, .int .u64 gt, .string gd], .int .i64 gv, .bool go]) ∧ Below w7.heap.size w7 w' := by
    have := arearef_get R w7 hRz; rw [HG.out] at this; exact this
  refine hc.mono ?_
  clear hc
  rintro e w8 ⟨rfl, hb1⟩
  replace c0 := hb1.old c0
  replace c1 := hb1.old c1
  replace c2 := hb1.old c2
  replace d0 := hb1.old d0
  replace d1 := hb1.old d1
  replace d2 := hb1.old d2
  replace hb := hb.trans (hb1.mono hl)
  replace hl := Nat.le_trans hl hb1.size
  clear hb1
  go_wp2_with fail
  have e0 : (w8.alloc (Obj.cells #[Value.int .u64 gi, Value.int .u64 gt, Value.string gd] 66)).cell? ⟨w8.heap.size, 0, none⟩ = some (.int .u64 gi) := World.cell?_alloc_new w8 _ _ 0
  have e1 : (w8.alloc (Obj.cells #[Value.int .u64 gi, Value.int .u64 gt, Value.string gd] 66)).cell? ⟨w8.heap.size, 1, none⟩ = some (.int .u64 gt) := World.cell?_alloc_new w8 _ _ 1
  have e2 : (w8.alloc (Obj.cells #[Value.int .u64 gi, Value.int .u64 gt, Value.string gd] 66)).cell? ⟨w8.heap.size, 2, none⟩ = some (.string gd) := World.cell?_alloc_new w8 _ _ 2
  have hka : Keep (fun _ => False) w8 (w8.alloc (Obj.cells #[Value.int .u64 gi, Value.int .u64 gt, Value.string gd] 66)) := (Keep.refl _ _).alloc _
  replace c0 := hka.cell c0 id
  replace c1 := hka.cell c1 id
  replace c2 := hka.cell c2 id
  replace d0 := hka.cell d0 id
  replace d1 := hka.cell d1 id
  replace d2 := hka.cell d2 id
  replace hb := hb.alloc hl (Obj.cells #[Value.int .u64 gi, Value.int .u64 gt, Value.string gd] 66)
  replace hl := Nat.le_trans hl hka.size
  clear hka
  generalize w8.alloc (Obj.cells #[Value.int .u64 gi, Value.int .u64 gt, Value.string gd] 66) = w9 at *
  generalize w8.heap.size = E at *
  have k0 : ∀ s' : KW (fun _ => False) w9, s'.w.cell? ⟨B, 0, none⟩ = some (.int .u64 s.i) := fun s' => s'.keep.cell c0 id
  have k1 : ∀ s' : KW (fun _ => False) w9, s'.w.cell? ⟨B, 1, none⟩ = some (.int .u64 s.t) := fun s' => s'.keep.cell c1 id
  have k2 : ∀ s' : KW (fun _ => False) w9, s'.w.cell? ⟨B, 2, none⟩ = some (.string s.d) := fun s' => s'.keep.cell c2 id
  have k3 : ∀ s' : KW (fun _ => False) w9, s'.w.cell? ⟨D, 0, none⟩ = some (.int .u64 gi) := fun s' => s'.keep.cell d0 id
  have k4 : ∀ s' : KW (fun _ => False) w9, s'.w.cell? ⟨D, 1, none⟩ = some (.int .u64 gt) := fun s' => s'.keep.cell d1 id
  have k5 : ∀ s' : KW (fun _ => False) w9, s'.w.cell? ⟨D, 2, none⟩ = some (.string gd) := fun s' => s'.keep.cell d2 id
  have k6 : ∀ s' : KW (fun _ => False) w9, s'.w.cell? ⟨E, 0, none⟩ = some (.int .u64 gi) := fun s' => s'.keep.cell e0 id
  have k7 : ∀ s' : KW (fun _ => False) w9, s'.w.cell? ⟨E, 1, none⟩ = some (.int .u64 gt) := fun s' => s'.keep.cell e1 id
  have k8 : ∀ s' : KW (fun _ => False) w9, s'.w.cell? ⟨E, 2, none⟩ = some (.string gd) := fun s' => s'.keep.cell e2 id
  refine wp_region_keep (fun _ => False) (by kernel_rfl) (by kernel_rfl) ?_
  have q1 : ∀ W, Calls Try.prog 41 #[.int .i64 v, .int .i64 m, .agg #[.int .u64 s.i, .int .u64 s.t, .string s.d]] W fun e w' => e = .returned (.bool (aroom v m s)) ∧ Below W.heap.size W w' := fun W => area_room v m (by omega) hm s Hs.out W
  have q2 : ∀ W, Calls Try.prog 42 #[.int .i64 v, .int .i64 m, .agg #[.int .u64 s.i, .int .u64 s.t, .string s.d]] W fun e w' => e = .returned (.bool (aroom v m s)) ∧ Below W.heap.size W w' := fun W => arearef_room v m (by omega) hm s Hs.out W
  have q3 : ∀ W, Calls Try.prog 37 #[.agg #[.int .u64 s.i, .int .u64 s.t, .string s.d]] W fun e w' => e = .returned (.agg #[.int .u64 s.i, .int .u64 s.t, .string s.d]) ∧ Below W.heap.size W w' := fun W => area_ref s W
  have q4 : ∀ W, Calls Try.prog 37 #[.agg #[.int .u64 gi, .int .u64 gt, .string gd]] W fun e w' => e = .returned (.agg #[.int .u64 gi, .int .u64 gt, .string gd]) ∧ Below W.heap.size W w' := fun W => area_ref ⟨gi, gt, gd⟩ W
  have Q1 := Aside.mk q1
  have Q2 := Aside.mk q2
  have Q3 := Aside.mk q3
  have Q4 := Aside.mk q4
  generalize aroom v m s = RM at *
  clear q1 q2 q3 q4
  repeat (go_big_quiet_step ((first | (go_at_call 41; exact KW.calls (Q1.out _)) | (go_at_call 42; exact KW.calls (Q2.out _)) | (go_at_call 37; first | with_reducible exact KW.calls (Q3.out _) | with_reducible exact KW.calls (Q4.out _)))))
  refine wpQuiet_nil ?_
  intro s4
  have hbs := s4.below
  replace hb := hb.trans (hbs.mono hl)
  clear k0 k1 k2 k3 k4 k5 k6 k7 k8
  go_wp2_with fail
  go_ret
  exact ⟨rfl, by rw [HW.out]; exact hb⟩
set_option maxHeartbeats 3200000 in
theorem areaCodes_onetrue (v : Int) (s : Snap) (h : s.ok) (m : Int) (raw : ByteArray) (at' : Int) (by' : UInt8) (hv : -9223372036854775808 ≤ v ∧ v ≤ 9223372036854775807) (hm : -9223372036854775808 ≤ m ∧ m ≤ 9223372036854775807) (ha : -9223372036854775808 ≤ at' ∧ at' ≤ 9223372036854775807) (hraw : raw.size ≤ 140737488351232) (hd : s.d.size ≤ 140737488351232) (U : Int) (hU : IntKind.u64.wrap v = U) (hU0 : 0 ≤ U) (hU1 : U ≤ 18446744073709551615) (hUr : U % 2 = 0) (w : World) :
    Calls Try.prog 10 #[.int .i64 v, .bool true, .agg #[.int .u64 s.i, .int .u64 s.t, .string s.d], .int .i64 m, .string raw, .bool true, .int .i64 at', .int .u8 by'.toNat] w fun e w' => e = .returned (.bool true) ∧ Below w.heap.size w w' := by
  have hse := str_beq
  have Hs := Aside.mk h
  have hb := (Below.refl w.heap.size w).alloc (Nat.le_refl _) (Obj.cells #[Value.int .u64 s.i, Value.int .u64 s.t, Value.string s.d] 61)
  go_enter Try.func10, Try.ntmps10
  go_wp2_with fail
  have c0 : (w.alloc (Obj.cells #[Value.int .u64 s.i, Value.int .u64 s.t, Value.string s.d] 61)).cell? ⟨w.heap.size, 0, none⟩ = some (.int .u64 s.i) := World.cell?_alloc_new w _ _ 0
  have c1 : (w.alloc (Obj.cells #[Value.int .u64 s.i, Value.int .u64 s.t, Value.string s.d] 61)).cell? ⟨w.heap.size, 1, none⟩ = some (.int .u64 s.t) := World.cell?_alloc_new w _ _ 1
  have c2 : (w.alloc (Obj.cells #[Value.int .u64 s.i, Value.int .u64 s.t, Value.string s.d] 61)).cell? ⟨w.heap.size, 2, none⟩ = some (.string s.d) := World.cell?_alloc_new w _ _ 2
  generalize w.alloc (Obj.cells #[Value.int .u64 s.i, Value.int .u64 s.t, Value.string s.d] 61) = wa at *
  generalize hW0 : w.heap.size = B at *
  have HW := Aside.mk hW0
  clear hW0
  have hl : B ≤ wa.heap.size := Nat.le_of_lt (World.block_lt_of_cell? _ _ c0)
  refine (area_examples _).mono ?_
  rintro e w1 ⟨rfl, hb1⟩
  replace c0 := hb1.old c0
  replace c1 := hb1.old c1
  replace c2 := hb1.old c2
  replace hb := hb.trans (hb1.mono hl)
  replace hl := Nat.le_trans hl hb1.size
  clear hb1
  go_wp2_with fail
  have hc : Calls Try.prog 35 #[.int .i64 1, .agg #[.int .u64 s.i, .int .u64 s.t, .string s.d]] w1 _ := area_put 1 (by omega) s Hs.out w1
  refine hc.mono ?_
  clear hc
  have hP := aput_size 1 s
  generalize hP0 : aput 1 s = P at *
  have HP := Aside.mk hP0
  clear hP0
  obtain ⟨P, po⟩ := P
  dsimp only at hP
  rintro e w2 ⟨rfl, hb1⟩
  replace c0 := hb1.old c0
  replace c1 := hb1.old c1
  replace c2 := hb1.old c2
  replace hb := hb.trans (hb1.mono hl)
  replace hl := Nat.le_trans hl hb1.size
  clear hb1
  go_wp2_with fail
  have hc : Calls Try.prog 37 #[.agg #[.int .u64 s.i, .int .u64 s.t, .string s.d]] w2 fun e w' => e = .returned (.agg #[.int .u64 s.i, .int .u64 s.t, .string s.d]) ∧ Below w2.heap.size w2 w' := area_ref s w2
  refine hc.mono ?_
  clear hc
  rintro e w3 ⟨rfl, hb1⟩
  replace c0 := hb1.old c0
  replace c1 := hb1.old c1
  replace c2 := hb1.old c2
  replace hb := hb.trans (hb1.mono hl)
  replace hl := Nat.le_trans hl hb1.size
  clear hb1
  go_wp2_with fail
  have hc : Calls Try.prog 36 #[.int .i64 1, .agg #[.int .u64 s.i, .int .u64 s.t, .string s.d]] w3 _ := arearef_put 1 (by omega) s Hs.out w3
  refine hc.mono ?_
  clear hc
  rw [HP.out]
  dsimp only
  rintro e w4 ⟨rfl, hb1⟩
  replace c0 := hb1.old c0
  replace c1 := hb1.old c1
  replace c2 := hb1.old c2
  replace hb := hb.trans (hb1.mono hl)
  replace hl := Nat.le_trans hl hb1.size
  clear hb1
  go_wp2_with fail
  refine (bend11 P at' by' ha (by omega) _).mono ?_
  rintro e w5 ⟨⟨t, htz, rfl⟩, hb1⟩
  replace c0 := hb1.old c0
  replace c1 := hb1.old c1
  replace c2 := hb1.old c2
  replace hb := hb.trans (hb1.mono hl)
  replace hl := Nat.le_trans hl hb1.size
  clear hb1
  obtain ⟨R, hR⟩ : ∃ R, t ++ raw = R := ⟨_, rfl⟩
  have hRz : R.size ≤ 1152921504606846976 := by rw [← hR, ByteArray.size_append]; omega
  go_wp2_with fail
  clear hR
  obtain ⟨⟨⟨gi, gt, gd⟩, gv, go⟩, hG0⟩ : ∃ G, aget R = G := ⟨_, rfl⟩
  have hc : Calls Try.prog 39 #[.string R] w5 fun e w' => e = .returned (.tuple #[.agg #[.int .u64 gi, .int .u64 gt, .string gd], .int .i64 gv, .bool go]) ∧ Below w5.heap.size w5 w' := by
    have := area_get R w5 hRz; rw [hG0] at this; exact this
  have HG := Aside.mk hG0
  clear hG0
  refine hc.mono ?_
  clear hc
  rintro e w6 ⟨rfl, hb1⟩
  replace c0 := hb1.old c0
  replace c1 := hb1.old c1
  replace c2 := hb1.old c2
  replace hb := hb.trans (hb1.mono hl)
  replace hl := Nat.le_trans hl hb1.size
  clear hb1
  go_wp2_with fail
  have d0 : (w6.alloc (Obj.cells #[Value.int .u64 gi, Value.int .u64 gt, Value.string gd] 61)).cell? ⟨w6.heap.size, 0, none⟩ = some (.int .u64 gi) := World.cell?_alloc_new w6 _ _ 0
  have d1 : (w6.alloc (Obj.cells #[Value.int .u64 gi, Value.int .u64 gt, Value.string gd] 61)).cell? ⟨w6.heap.size, 1, none⟩ = some (.int .u64 gt) := World.cell?_alloc_new w6 _ _ 1
  have d2 : (w6.alloc (Obj.cells #[Value.int .u64 gi, Value.int .u64 gt, Value.string gd] 61)).cell? ⟨w6.heap.size, 2, none⟩ = some (.string gd) := World.cell?_alloc_new w6 _ _ 2
  have hka : Keep (fun _ => False) w6 (w6.alloc (Obj.cells #[Value.int .u64 gi, Value.int .u64 gt, Value.string gd] 61)) := (Keep.refl _ _).alloc _
  replace c0 := hka.cell c0 id
  replace c1 := hka.cell c1 id
  replace c2 := hka.cell c2 id
  replace hb := hb.alloc hl (Obj.cells #[Value.int .u64 gi, Value.int .u64 gt, Value.string gd] 61)
  replace hl := Nat.le_trans hl hka.size
  clear hka
  generalize w6.alloc (Obj.cells #[Value.int .u64 gi, Value.int .u64 gt, Value.string gd] 61) = w7 at *
  generalize w6.heap.size = D at *
  have hc : Calls Try.prog 40 #[.string R] w7 fun e w' => e = .returned (.tuple #[.agg #[.int .u64 gi, .int .u64 gt, .string gd], .int .i64 gv, .bool go]) ∧ Below w7.heap.size w7 w' := by
    have := arearef_get R w7 hRz; rw [HG.out] at this; exact this
  refine hc.mono ?_
  clear hc
  rintro e w8 ⟨rfl, hb1⟩
  replace c0 := hb1.old c0
  replace c1 := hb1.old c1
  replace c2 := hb1.old c2
  replace d0 := hb1.old d0
  replace d1 := hb1.old d1
  replace d2 := hb1.old d2
  replace hb := hb.trans (hb1.mono hl)
  replace hl := Nat.le_trans hl hb1.size
  clear hb1
  go_wp2_with fail
  have e0 : (w8.alloc (Obj.cells #[Value.int .u64 gi, Value.int .u64 gt, Value.string gd] 66)).cell? ⟨w8.heap.size, 0, none⟩ = some (.int .u64 gi) := World.cell?_alloc_new w8 _ _ 0
  have e1 : (w8.alloc (Obj.cells #[Value.int .u64 gi, Value.int .u64 gt, Value.string gd] 66)).cell? ⟨w8.heap.size, 1, none⟩ = some (.int .u64 gt) := World.cell?_alloc_new w8 _ _ 1
  have e2 : (w8.alloc (Obj.cells #[Value.int .u64 gi, Value.int .u64 gt, Value.string gd] 66)).cell? ⟨w8.heap.size, 2, none⟩ = some (.string gd) := World.cell?_alloc_new w8 _ _ 2
  have hka : Keep (fun _ => False) w8 (w8.alloc (Obj.cells #[Value.int .u64 gi, Value.int .u64 gt, Value.string gd] 66)) := (Keep.refl _ _).alloc _
  replace c0 := hka.cell c0 id
  replace c1 := hka.cell c1 id
  replace c2 := hka.cell c2 id
  replace d0 := hka.cell d0 id
  replace d1 := hka.cell d1 id
  replace d2 := hka.cell d2 id
  replace hb := hb.alloc hl (Obj.cells #[Value.int .u64 gi, Value.int .u64 gt, Value.string gd] 66)
  replace hl := Nat.le_trans hl hka.size
  clear hka
  generalize w8.alloc (Obj.cells #[Value.int .u64 gi, Value.int .u64 gt, Value.string gd] 66) = w9 at *
  generalize w8.heap.size = E at *
  have k0 : ∀ s' : KW (fun _ => False) w9, s'.w.cell? ⟨B, 0, none⟩ = some (.int .u64 s.i) := fun s' => s'.keep.cell c0 id
  have k1 : ∀ s' : KW (fun _ => False) w9, s'.w.cell? ⟨B, 1, none⟩ = some (.int .u64 s.t) := fun s' => s'.keep.cell c1 id
  have k2 : ∀ s' : KW (fun _ => False) w9, s'.w.cell? ⟨B, 2, none⟩ = some (.string s.d) := fun s' => s'.keep.cell c2 id
  have k3 : ∀ s' : KW (fun _ => False) w9, s'.w.cell? ⟨D, 0, none⟩ = some (.int .u64 gi) := fun s' => s'.keep.cell d0 id
  have k4 : ∀ s' : KW (fun _ => False) w9, s'.w.cell? ⟨D, 1, none⟩ = some (.int .u64 gt) := fun s' => s'.keep.cell d1 id
  have k5 : ∀ s' : KW (fun _ => False) w9, s'.w.cell? ⟨D, 2, none⟩ = some (.string gd) := fun s' => s'.keep.cell d2 id
  have k6 : ∀ s' : KW (fun _ => False) w9, s'.w.cell? ⟨E, 0, none⟩ = some (.int .u64 gi) := fun s' => s'.keep.cell e0 id
  have k7 : ∀ s' : KW (fun _ => False) w9, s'.w.cell? ⟨E, 1, none⟩ = some (.int .u64 gt) := fun s' => s'.keep.cell e1 id
  have k8 : ∀ s' : KW (fun _ => False) w9, s'.w.cell? ⟨E, 2, none⟩ = some (.string gd) := fun s' => s'.keep.cell e2 id
  refine wp_region_keep (fun _ => False) (by kernel_rfl) (by kernel_rfl) ?_
  have q1 : ∀ W, Calls Try.prog 41 #[.int .i64 1, .int .i64 m, .agg #[.int .u64 s.i, .int .u64 s.t, .string s.d]] W fun e w' => e = .returned (.bool (aroom 1 m s)) ∧ Below W.heap.size W w' := fun W => area_room 1 m (by omega) hm s Hs.out W
  have q2 : ∀ W, Calls Try.prog 42 #[.int .i64 1, .int .i64 m, .agg #[.int .u64 s.i, .int .u64 s.t, .string s.d]] W fun e w' => e = .returned (.bool (aroom 1 m s)) ∧ Below W.heap.size W w' := fun W => arearef_room 1 m (by omega) hm s Hs.out W
  have q3 : ∀ W, Calls Try.prog 37 #[.agg #[.int .u64 s.i, .int .u64 s.t, .string s.d]] W fun e w' => e = .returned (.agg #[.int .u64 s.i, .int .u64 s.t, .string s.d]) ∧ Below W.heap.size W w' := fun W => area_ref s W
  have q4 : ∀ W, Calls Try.prog 37 #[.agg #[.int .u64 gi, .int .u64 gt, .string gd]] W fun e w' => e = .returned (.agg #[.int .u64 gi, .int .u64 gt, .string gd]) ∧ Below W.heap.size W w' := fun W => area_ref ⟨gi, gt, gd⟩ W
  have Q1 := Aside.mk q1
  have Q2 := Aside.mk q2
  have Q3 := Aside.mk q3
  have Q4 := Aside.mk q4
  generalize aroom 1 m s = RM at *
  clear q1 q2 q3 q4
  repeat (go_big_quiet_step ((first | (go_at_call 41; exact KW.calls (Q1.out _)) | (go_at_call 42; exact KW.calls (Q2.out _)) | (go_at_call 37; first | with_reducible exact KW.calls (Q3.out _) | with_reducible exact KW.calls (Q4.out _)))))
  refine wpQuiet_nil ?_
  intro s4
  have hbs := s4.below
  replace hb := hb.trans (hbs.mono hl)
  clear k0 k1 k2 k3 k4 k5 k6 k7 k8
  go_wp2_with fail
  go_ret
  exact ⟨rfl, by rw [HW.out]; exact hb⟩
set_option maxHeartbeats 3200000 in
theorem areaCodes_twotrue (v : Int) (s : Snap) (h : s.ok) (m : Int) (raw : ByteArray) (at' : Int) (by' : UInt8) (hv : -9223372036854775808 ≤ v ∧ v ≤ 9223372036854775807) (hm : -9223372036854775808 ≤ m ∧ m ≤ 9223372036854775807) (ha : -9223372036854775808 ≤ at' ∧ at' ≤ 9223372036854775807) (hraw : raw.size ≤ 140737488351232) (hd : s.d.size ≤ 140737488351232) (U : Int) (hU : IntKind.u64.wrap v = U) (hU0 : 0 ≤ U) (hU1 : U ≤ 18446744073709551615) (hUr : U % 2 = 1) (w : World) :
    Calls Try.prog 10 #[.int .i64 v, .bool true, .agg #[.int .u64 s.i, .int .u64 s.t, .string s.d], .int .i64 m, .string raw, .bool true, .int .i64 at', .int .u8 by'.toNat] w fun e w' => e = .returned (.bool true) ∧ Below w.heap.size w w' := by
  have hse := str_beq
  have Hs := Aside.mk h
  have hb := (Below.refl w.heap.size w).alloc (Nat.le_refl _) (Obj.cells #[Value.int .u64 s.i, Value.int .u64 s.t, Value.string s.d] 61)
  go_enter Try.func10, Try.ntmps10
  go_wp2_with fail
  have c0 : (w.alloc (Obj.cells #[Value.int .u64 s.i, Value.int .u64 s.t, Value.string s.d] 61)).cell? ⟨w.heap.size, 0, none⟩ = some (.int .u64 s.i) := World.cell?_alloc_new w _ _ 0
  have c1 : (w.alloc (Obj.cells #[Value.int .u64 s.i, Value.int .u64 s.t, Value.string s.d] 61)).cell? ⟨w.heap.size, 1, none⟩ = some (.int .u64 s.t) := World.cell?_alloc_new w _ _ 1
  have c2 : (w.alloc (Obj.cells #[Value.int .u64 s.i, Value.int .u64 s.t, Value.string s.d] 61)).cell? ⟨w.heap.size, 2, none⟩ = some (.string s.d) := World.cell?_alloc_new w _ _ 2
  generalize w.alloc (Obj.cells #[Value.int .u64 s.i, Value.int .u64 s.t, Value.string s.d] 61) = wa at *
  generalize hW0 : w.heap.size = B at *
  have HW := Aside.mk hW0
  clear hW0
  have hl : B ≤ wa.heap.size := Nat.le_of_lt (World.block_lt_of_cell? _ _ c0)
  refine (area_examples _).mono ?_
  rintro e w1 ⟨rfl, hb1⟩
  replace c0 := hb1.old c0
  replace c1 := hb1.old c1
  replace c2 := hb1.old c2
  replace hb := hb.trans (hb1.mono hl)
  replace hl := Nat.le_trans hl hb1.size
  clear hb1
  go_wp2_with fail
  have hc : Calls Try.prog 35 #[.int .i64 2, .agg #[.int .u64 s.i, .int .u64 s.t, .string s.d]] w1 _ := area_put 2 (by omega) s Hs.out w1
  refine hc.mono ?_
  clear hc
  have hP := aput_size 2 s
  generalize hP0 : aput 2 s = P at *
  have HP := Aside.mk hP0
  clear hP0
  obtain ⟨P, po⟩ := P
  dsimp only at hP
  rintro e w2 ⟨rfl, hb1⟩
  replace c0 := hb1.old c0
  replace c1 := hb1.old c1
  replace c2 := hb1.old c2
  replace hb := hb.trans (hb1.mono hl)
  replace hl := Nat.le_trans hl hb1.size
  clear hb1
  go_wp2_with fail
  have hc : Calls Try.prog 37 #[.agg #[.int .u64 s.i, .int .u64 s.t, .string s.d]] w2 fun e w' => e = .returned (.agg #[.int .u64 s.i, .int .u64 s.t, .string s.d]) ∧ Below w2.heap.size w2 w' := area_ref s w2
  refine hc.mono ?_
  clear hc
  rintro e w3 ⟨rfl, hb1⟩
  replace c0 := hb1.old c0
  replace c1 := hb1.old c1
  replace c2 := hb1.old c2
  replace hb := hb.trans (hb1.mono hl)
  replace hl := Nat.le_trans hl hb1.size
  clear hb1
  go_wp2_with fail
  have hc : Calls Try.prog 36 #[.int .i64 2, .agg #[.int .u64 s.i, .int .u64 s.t, .string s.d]] w3 _ := arearef_put 2 (by omega) s Hs.out w3
  refine hc.mono ?_
  clear hc
  rw [HP.out]
  dsimp only
  rintro e w4 ⟨rfl, hb1⟩
  replace c0 := hb1.old c0
  replace c1 := hb1.old c1
  replace c2 := hb1.old c2
  replace hb := hb.trans (hb1.mono hl)
  replace hl := Nat.le_trans hl hb1.size
  clear hb1
  go_wp2_with fail
  refine (bend11 P at' by' ha (by omega) _).mono ?_
  rintro e w5 ⟨⟨t, htz, rfl⟩, hb1⟩
  replace c0 := hb1.old c0
  replace c1 := hb1.old c1
  replace c2 := hb1.old c2
  replace hb := hb.trans (hb1.mono hl)
  replace hl := Nat.le_trans hl hb1.size
  clear hb1
  obtain ⟨R, hR⟩ : ∃ R, t ++ raw = R := ⟨_, rfl⟩
  have hRz : R.size ≤ 1152921504606846976 := by rw [← hR, ByteArray.size_append]; omega
  go_wp2_with fail
  clear hR
  obtain ⟨⟨⟨gi, gt, gd⟩, gv, go⟩, hG0⟩ : ∃ G, aget R = G := ⟨_, rfl⟩
  have hc : Calls Try.prog 39 #[.string R] w5 fun e w' => e = .returned (.tuple #[.agg #[.int .u64 gi, .int .u64 gt, .string gd], .int .i64 gv, .bool go]) ∧ Below w5.heap.size w5 w' := by
    have := area_get R w5 hRz; rw [hG0] at this; exact this
  have HG := Aside.mk hG0
  clear hG0
  refine hc.mono ?_
  clear hc
  rintro e w6 ⟨rfl, hb1⟩
  replace c0 := hb1.old c0
  replace c1 := hb1.old c1
  replace c2 := hb1.old c2
  replace hb := hb.trans (hb1.mono hl)
  replace hl := Nat.le_trans hl hb1.size
  clear hb1
  go_wp2_with fail
  have d0 : (w6.alloc (Obj.cells #[Value.int .u64 gi, Value.int .u64 gt, Value.string gd] 61)).cell? ⟨w6.heap.size, 0, none⟩ = some (.int .u64 gi) := World.cell?_alloc_new w6 _ _ 0
  have d1 : (w6.alloc (Obj.cells #[Value.int .u64 gi, Value.int .u64 gt, Value.string gd] 61)).cell? ⟨w6.heap.size, 1, none⟩ = some (.int .u64 gt) := World.cell?_alloc_new w6 _ _ 1
  have d2 : (w6.alloc (Obj.cells #[Value.int .u64 gi, Value.int .u64 gt, Value.string gd] 61)).cell? ⟨w6.heap.size, 2, none⟩ = some (.string gd) := World.cell?_alloc_new w6 _ _ 2
  have hka : Keep (fun _ => False) w6 (w6.alloc (Obj.cells #[Value.int .u64 gi, Value.int .u64 gt, Value.string gd] 61)) := (Keep.refl _ _).alloc _
  replace c0 := hka.cell c0 id
  replace c1 := hka.cell c1 id
  replace c2 := hka.cell c2 id
  replace hb := hb.alloc hl (Obj.cells #[Value.int .u64 gi, Value.int .u64 gt, Value.string gd] 61)
  replace hl := Nat.le_trans hl hka.size
  clear hka
  generalize w6.alloc (Obj.cells #[Value.int .u64 gi, Value.int .u64 gt, Value.string gd] 61) = w7 at *
  generalize w6.heap.size = D at *
  have hc : Calls Try.prog 40 #[.string R] w7 fun e w' => e = .returned (.tuple #[.agg #[.int .u64 gi, .int .u64 gt, .string gd], .int .i64 gv, .bool go]) ∧ Below w7.heap.size w7 w' := by
    have := arearef_get R w7 hRz; rw [HG.out] at this; exact this
  refine hc.mono ?_
  clear hc
  rintro e w8 ⟨rfl, hb1⟩
  replace c0 := hb1.old c0
  replace c1 := hb1.old c1
  replace c2 := hb1.old c2
  replace d0 := hb1.old d0
  replace d1 := hb1.old d1
  replace d2 := hb1.old d2
  replace hb := hb.trans (hb1.mono hl)
  replace hl := Nat.le_trans hl hb1.size
  clear hb1
  go_wp2_with fail
  have e0 : (w8.alloc (Obj.cells #[Value.int .u64 gi, Value.int .u64 gt, Value.string gd] 66)).cell? ⟨w8.heap.size, 0, none⟩ = some (.int .u64 gi) := World.cell?_alloc_new w8 _ _ 0
  have e1 : (w8.alloc (Obj.cells #[Value.int .u64 gi, Value.int .u64 gt, Value.string gd] 66)).cell? ⟨w8.heap.size, 1, none⟩ = some (.int .u64 gt) := World.cell?_alloc_new w8 _ _ 1
  have e2 : (w8.alloc (Obj.cells #[Value.int .u64 gi, Value.int .u64 gt, Value.string gd] 66)).cell? ⟨w8.heap.size, 2, none⟩ = some (.string gd) := World.cell?_alloc_new w8 _ _ 2
  have hka : Keep (fun _ => False) w8 (w8.alloc (Obj.cells #[Value.int .u64 gi, Value.int .u64 gt, Value.string gd] 66)) := (Keep.refl _ _).alloc _
  replace c0 := hka.cell c0 id
  replace c1 := hka.cell c1 id
  replace c2 := hka.cell c2 id
  replace d0 := hka.cell d0 id
  replace d1 := hka.cell d1 id
  replace d2 := hka.cell d2 id
  replace hb := hb.alloc hl (Obj.cells #[Value.int .u64 gi, Value.int .u64 gt, Value.string gd] 66)
  replace hl := Nat.le_trans hl hka.size
  clear hka
  generalize w8.alloc (Obj.cells #[Value.int .u64 gi, Value.int .u64 gt, Value.string gd] 66) = w9 at *
  generalize w8.heap.size = E at *
  have k0 : ∀ s' : KW (fun _ => False) w9, s'.w.cell? ⟨B, 0, none⟩ = some (.int .u64 s.i) := fun s' => s'.keep.cell c0 id
  have k1 : ∀ s' : KW (fun _ => False) w9, s'.w.cell? ⟨B, 1, none⟩ = some (.int .u64 s.t) := fun s' => s'.keep.cell c1 id
  have k2 : ∀ s' : KW (fun _ => False) w9, s'.w.cell? ⟨B, 2, none⟩ = some (.string s.d) := fun s' => s'.keep.cell c2 id
  have k3 : ∀ s' : KW (fun _ => False) w9, s'.w.cell? ⟨D, 0, none⟩ = some (.int .u64 gi) := fun s' => s'.keep.cell d0 id
  have k4 : ∀ s' : KW (fun _ => False) w9, s'.w.cell? ⟨D, 1, none⟩ = some (.int .u64 gt) := fun s' => s'.keep.cell d1 id
  have k5 : ∀ s' : KW (fun _ => False) w9, s'.w.cell? ⟨D, 2, none⟩ = some (.string gd) := fun s' => s'.keep.cell d2 id
  have k6 : ∀ s' : KW (fun _ => False) w9, s'.w.cell? ⟨E, 0, none⟩ = some (.int .u64 gi) := fun s' => s'.keep.cell e0 id
  have k7 : ∀ s' : KW (fun _ => False) w9, s'.w.cell? ⟨E, 1, none⟩ = some (.int .u64 gt) := fun s' => s'.keep.cell e1 id
  have k8 : ∀ s' : KW (fun _ => False) w9, s'.w.cell? ⟨E, 2, none⟩ = some (.string gd) := fun s' => s'.keep.cell e2 id
  refine wp_region_keep (fun _ => False) (by kernel_rfl) (by kernel_rfl) ?_
  have q1 : ∀ W, Calls Try.prog 41 #[.int .i64 2, .int .i64 m, .agg #[.int .u64 s.i, .int .u64 s.t, .string s.d]] W fun e w' => e = .returned (.bool (aroom 2 m s)) ∧ Below W.heap.size W w' := fun W => area_room 2 m (by omega) hm s Hs.out W
  have q2 : ∀ W, Calls Try.prog 42 #[.int .i64 2, .int .i64 m, .agg #[.int .u64 s.i, .int .u64 s.t, .string s.d]] W fun e w' => e = .returned (.bool (aroom 2 m s)) ∧ Below W.heap.size W w' := fun W => arearef_room 2 m (by omega) hm s Hs.out W
  have q3 : ∀ W, Calls Try.prog 37 #[.agg #[.int .u64 s.i, .int .u64 s.t, .string s.d]] W fun e w' => e = .returned (.agg #[.int .u64 s.i, .int .u64 s.t, .string s.d]) ∧ Below W.heap.size W w' := fun W => area_ref s W
  have q4 : ∀ W, Calls Try.prog 37 #[.agg #[.int .u64 gi, .int .u64 gt, .string gd]] W fun e w' => e = .returned (.agg #[.int .u64 gi, .int .u64 gt, .string gd]) ∧ Below W.heap.size W w' := fun W => area_ref ⟨gi, gt, gd⟩ W
  have Q1 := Aside.mk q1
  have Q2 := Aside.mk q2
  have Q3 := Aside.mk q3
  have Q4 := Aside.mk q4
  generalize aroom 2 m s = RM at *
  clear q1 q2 q3 q4
  repeat (go_big_quiet_step ((first | (go_at_call 41; exact KW.calls (Q1.out _)) | (go_at_call 42; exact KW.calls (Q2.out _)) | (go_at_call 37; first | with_reducible exact KW.calls (Q3.out _) | with_reducible exact KW.calls (Q4.out _)))))
  refine wpQuiet_nil ?_
  intro s4
  have hbs := s4.below
  replace hb := hb.trans (hbs.mono hl)
  clear k0 k1 k2 k3 k4 k5 k6 k7 k8
  go_wp2_with fail
  go_ret
  exact ⟨rfl, by rw [HW.out]; exact hb⟩

theorem areaCodes_walk (v : Int) (known : Bool) (i t : Int) (d : ByteArray) (m : Int) (raw : ByteArray) (own : Bool) (at' b : Int) (hv : -9223372036854775808 ≤ v ∧ v ≤ 9223372036854775807) (hi : 0 ≤ i ∧ i ≤ 18446744073709551615) (ht : 0 ≤ t ∧ t ≤ 18446744073709551615) (hd : d.size ≤ 140737488351232) (hm : -9223372036854775808 ≤ m ∧ m ≤ 9223372036854775807) (hraw : raw.size ≤ 140737488351232) (ha : -9223372036854775808 ≤ at' ∧ at' ≤ 9223372036854775807) (hb : 0 ≤ b ∧ b ≤ 255) (w : World) :
    Calls Try.prog 10 #[.int .i64 v, .bool known, .agg #[.int .u64 i, .int .u64 t, .string d], .int .i64 m, .string raw, .bool own, .int .i64 at', .int .u8 b] w fun e w' => e = .returned (.bool true) ∧ Below w.heap.size w w' := by
  obtain ⟨c, rfl⟩ : ∃ c : UInt8, (c.toNat : Int) = b := ⟨UInt8.ofNat b.toNat, by rw [UInt8.toNat_ofNat']; omega⟩
  have hok : (Snap.mk i t d).ok := ⟨hi.1, hi.2, ht.1, ht.2, by show d.size ≤ _; omega⟩
  cases known with
  | false =>
    cases own with
    | false => exact areaCodes_vfalse v ⟨i, t, d⟩ hok m raw at' c hv hm ha hraw hd w
    | true => exact areaCodes_vtrue v ⟨i, t, d⟩ hok m raw at' c hv hm ha hraw hd w
  | true =>
    have h0 : 0 ≤ IntKind.u64.wrap v := by rw [IntKind.wrap_u64]; omega
    have h1 : IntKind.u64.wrap v ≤ 18446744073709551615 := by rw [IntKind.wrap_u64]; omega
    rcases (show IntKind.u64.wrap v % 2 = 0 ∨ IntKind.u64.wrap v % 2 = 1 by omega) with h2 | h2
    · cases own with
      | false => exact areaCodes_onefalse v ⟨i, t, d⟩ hok m raw at' c hv hm ha hraw hd _ rfl h0 h1 h2 w
      | true => exact areaCodes_onetrue v ⟨i, t, d⟩ hok m raw at' c hv hm ha hraw hd _ rfl h0 h1 h2 w
    · cases own with
      | false => exact areaCodes_twofalse v ⟨i, t, d⟩ hok m raw at' c hv hm ha hraw hd _ rfl h0 h1 h2 w
      | true => exact areaCodes_twotrue v ⟨i, t, d⟩ hok m raw at' c hv hm ha hraw hd _ rfl h0 h1 h2 w
end Go.Proofs.Ytlbnbmojgdoieaa
