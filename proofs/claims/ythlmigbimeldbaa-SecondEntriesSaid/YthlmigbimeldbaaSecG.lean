/- second.parts: a message's fields. -/
import Derived.Test.YthlmigbimeldbaaSecF
import Derived.Test.YthlmigbimeldbaaRegS
set_option maxRecDepth 16000
namespace Go.Pin
open Go.RowKit
set_option linter.unusedVariables false
set_option linter.unusedSimpArgs false
def prtOff (j : Nat) : Nat := if j = 9 then 10 else if j = 10 then 9 else j
def prtCells (P : Nat → Nat) : Array Value := #[.func (.func 102) #[] #[.pointer (some ⟨P 0, 0, none⟩)], .func (.func 104) #[] #[.pointer (some ⟨P 0, 0, none⟩)], .func (.func 102) #[] #[.pointer (some ⟨P 1, 0, none⟩)], .func (.func 104) #[] #[.pointer (some ⟨P 1, 0, none⟩)], .func (.func 102) #[] #[.pointer (some ⟨P 2, 0, none⟩)], .func (.func 104) #[] #[.pointer (some ⟨P 2, 0, none⟩)], .func (.func 105) #[] #[.pointer (some ⟨P 3, 0, none⟩)], .func (.func 106) #[] #[.pointer (some ⟨P 3, 0, none⟩)], .func (.func 105) #[] #[.pointer (some ⟨P 4, 0, none⟩)], .func (.func 106) #[] #[.pointer (some ⟨P 4, 0, none⟩)], .func (.func 105) #[] #[.pointer (some ⟨P 5, 0, none⟩)], .func (.func 106) #[] #[.pointer (some ⟨P 5, 0, none⟩)], .func (.func 105) #[] #[.pointer (some ⟨P 6, 0, none⟩)], .func (.func 106) #[] #[.pointer (some ⟨P 6, 0, none⟩)], .func (.func 105) #[] #[.pointer (some ⟨P 7, 0, none⟩)], .func (.func 106) #[] #[.pointer (some ⟨P 7, 0, none⟩)], .func (.func 112) #[] #[.pointer (some ⟨P 8, 0, none⟩)], .func (.func 113) #[] #[.pointer (some ⟨P 8, 0, none⟩)], .func (.func 107) #[] #[.pointer (some ⟨P 9, 0, none⟩)], .func (.func 109) #[] #[.pointer (some ⟨P 9, 0, none⟩)], .func (.func 114) #[] #[.pointer (some ⟨P 10, 0, none⟩)], .func (.func 115) #[] #[.pointer (some ⟨P 10, 0, none⟩)]]
/-- The fields' row F: the closures, over boxes that point into block A. -/
structure PrtAt (w : World) (F A : Nat) (P : Nat → Nat) : Prop where
  row : ∀ i, i < 22 → w.cell? ⟨F, i, none⟩ = some ((prtCells P).getD i undef)
  box : ∀ j, j < 11 → w.cell? ⟨P j, 0, none⟩ = some (.pointer (some ⟨A, prtOff j, none⟩))
/-- What second.parts answers. -/
def PrtMade (A : Nat) (w : World) (e : Ending) (w' : World) : Prop := ∃ F P, e = .returned (.slice (some ⟨F, 0, none⟩) 11 11) ∧ w.heap.size ≤ F ∧ (∀ j, j < 11 → w.heap.size ≤ P j) ∧ PrtAt w' F A P ∧ Below w.heap.size w w'
theorem PrtAt.keep {S : Nat → Prop} {a w : World} {F A : Nat} {P : Nat → Nat} (h : PrtAt a F A P) (hk : Keep S a w) (h1 : ¬ S F) (h2 : ∀ j, j < 11 → ¬ S (P j)) : PrtAt w F A P :=
  ⟨fun i hi => hk.cell (h.row i hi) h1, fun j hj => hk.cell (h.box j hj) (h2 j hj)⟩
end Go.Pin
namespace Go.Proofs.Ythlmigbimeldbaa
open Go.RowKit Go.Pin
set_option linter.unusedVariables false
set_option linter.unusedSimpArgs false
set_option maxHeartbeats 3200000 in
theorem sec_parts (A : Nat) (w : World) :
    Calls Try.prog 72 #[.pointer (some ⟨A, 0, none⟩)] w (PrtMade A w) := by
  go_enter Try.func72, Try.ntmps72
  go_upto_region 1 with fail
  refine wp_region_stay (S := fun w' => ∃ s' : KW (fun _ => False) w, w' = s'.w) 3 (by kernel_rfl) (by simp) (by kernel_rfl) (by kernel_rfl) ⟨⟨w.drew, (Keep.refl _ w).drew⟩, rfl⟩ ?_
  simp only [List.take_succ_cons, List.take_zero, List.drop_succ_cons, List.drop_zero]
  refine wpStay_quietS 1 _ _ (by kernel_rfl) ?_
  simp only [List.take_succ_cons, List.take_zero, List.drop_succ_cons, List.drop_zero]
  repeat (go_big_quiet_step (fail))
  refine wpQuiet_nil ?_
  refine wpStay_call (.pointer (some ⟨A, 0, none⟩)) (by rfl) (fun w' hw' => by unfold Oper.quietAt; go_simp) ?_
  go_simp
  refine wpStay_quietS 1 _ _ (by kernel_rfl) ?_
  simp only [List.take_succ_cons, List.take_zero, List.drop_succ_cons, List.drop_zero]
  repeat (go_big_quiet_step (fail))
  refine wpQuiet_nil ?_
  refine wpStay_nil ?_
  refine wpAnyH_more (g := 40) 4 3 (by simp) (by kernel_rfl) (by kernel_rfl) ⟨⟨w.drew, (Keep.refl _ w).drew⟩, rfl⟩ ?_
  simp only [List.take_succ_cons, List.take_zero, List.drop_succ_cons, List.drop_zero]
  refine wpStay_quietS 1 _ _ (by kernel_rfl) ?_
  simp only [List.take_succ_cons, List.take_zero, List.drop_succ_cons, List.drop_zero]
  repeat (go_big_quiet_step (fail))
  refine wpQuiet_nil ?_
  refine wpStay_call (.pointer (some ⟨A, 0, none⟩)) (by rfl) (fun w' hw' => by unfold Oper.quietAt; go_simp) ?_
  go_simp
  refine wpStay_quietS 1 _ _ (by kernel_rfl) ?_
  simp only [List.take_succ_cons, List.take_zero, List.drop_succ_cons, List.drop_zero]
  repeat (go_big_quiet_step (fail))
  refine wpQuiet_nil ?_
  refine wpStay_nil ?_
  refine wpAnyH_more (g := 37) 8 3 (by simp) (by kernel_rfl) (by kernel_rfl) ⟨⟨w.drew, (Keep.refl _ w).drew⟩, rfl⟩ ?_
  simp only [List.take_succ_cons, List.take_zero, List.drop_succ_cons, List.drop_zero]
  refine wpStay_quietS 1 _ _ (by kernel_rfl) ?_
  simp only [List.take_succ_cons, List.take_zero, List.drop_succ_cons, List.drop_zero]
  repeat (go_big_quiet_step (fail))
  refine wpQuiet_nil ?_
  refine wpStay_call (.pointer (some ⟨A, 0, none⟩)) (by rfl) (fun w' hw' => by unfold Oper.quietAt; go_simp) ?_
  go_simp
  refine wpStay_quietS 1 _ _ (by kernel_rfl) ?_
  simp only [List.take_succ_cons, List.take_zero, List.drop_succ_cons, List.drop_zero]
  repeat (go_big_quiet_step (fail))
  refine wpQuiet_nil ?_
  refine wpStay_nil ?_
  refine wpAnyH_more (g := 34) 12 3 (by simp) (by kernel_rfl) (by kernel_rfl) ⟨⟨w.drew, (Keep.refl _ w).drew⟩, rfl⟩ ?_
  simp only [List.take_succ_cons, List.take_zero, List.drop_succ_cons, List.drop_zero]
  refine wpStay_quietS 1 _ _ (by kernel_rfl) ?_
  simp only [List.take_succ_cons, List.take_zero, List.drop_succ_cons, List.drop_zero]
  repeat (go_big_quiet_step (fail))
  refine wpQuiet_nil ?_
  refine wpStay_call (.pointer (some ⟨A, 0, none⟩)) (by rfl) (fun w' hw' => by unfold Oper.quietAt; go_simp) ?_
  go_simp
  refine wpStay_quietS 1 _ _ (by kernel_rfl) ?_
  simp only [List.take_succ_cons, List.take_zero, List.drop_succ_cons, List.drop_zero]
  repeat (go_big_quiet_step (fail))
  refine wpQuiet_nil ?_
  refine wpStay_nil ?_
  refine wpAnyH_more (g := 31) 16 3 (by simp) (by kernel_rfl) (by kernel_rfl) ⟨⟨w.drew, (Keep.refl _ w).drew⟩, rfl⟩ ?_
  simp only [List.take_succ_cons, List.take_zero, List.drop_succ_cons, List.drop_zero]
  refine wpStay_quietS 1 _ _ (by kernel_rfl) ?_
  simp only [List.take_succ_cons, List.take_zero, List.drop_succ_cons, List.drop_zero]
  repeat (go_big_quiet_step (fail))
  refine wpQuiet_nil ?_
  refine wpStay_call (.pointer (some ⟨A, 0, none⟩)) (by rfl) (fun w' hw' => by unfold Oper.quietAt; go_simp) ?_
  go_simp
  refine wpStay_quietS 1 _ _ (by kernel_rfl) ?_
  simp only [List.take_succ_cons, List.take_zero, List.drop_succ_cons, List.drop_zero]
  repeat (go_big_quiet_step (fail))
  refine wpQuiet_nil ?_
  refine wpStay_nil ?_
  refine wpAnyH_more (g := 28) 20 3 (by simp) (by kernel_rfl) (by kernel_rfl) ⟨⟨w.drew, (Keep.refl _ w).drew⟩, rfl⟩ ?_
  simp only [List.take_succ_cons, List.take_zero, List.drop_succ_cons, List.drop_zero]
  refine wpStay_quietS 1 _ _ (by kernel_rfl) ?_
  simp only [List.take_succ_cons, List.take_zero, List.drop_succ_cons, List.drop_zero]
  repeat (go_big_quiet_step (fail))
  refine wpQuiet_nil ?_
  refine wpStay_call (.pointer (some ⟨A, 0, none⟩)) (by rfl) (fun w' hw' => by unfold Oper.quietAt; go_simp) ?_
  go_simp
  refine wpStay_quietS 1 _ _ (by kernel_rfl) ?_
  simp only [List.take_succ_cons, List.take_zero, List.drop_succ_cons, List.drop_zero]
  repeat (go_big_quiet_step (fail))
  refine wpQuiet_nil ?_
  refine wpStay_nil ?_
  refine wpAnyH_more (g := 25) 24 3 (by simp) (by kernel_rfl) (by kernel_rfl) ⟨⟨w.drew, (Keep.refl _ w).drew⟩, rfl⟩ ?_
  simp only [List.take_succ_cons, List.take_zero, List.drop_succ_cons, List.drop_zero]
  refine wpStay_quietS 1 _ _ (by kernel_rfl) ?_
  simp only [List.take_succ_cons, List.take_zero, List.drop_succ_cons, List.drop_zero]
  repeat (go_big_quiet_step (fail))
  refine wpQuiet_nil ?_
  refine wpStay_call (.pointer (some ⟨A, 0, none⟩)) (by rfl) (fun w' hw' => by unfold Oper.quietAt; go_simp) ?_
  go_simp
  refine wpStay_quietS 1 _ _ (by kernel_rfl) ?_
  simp only [List.take_succ_cons, List.take_zero, List.drop_succ_cons, List.drop_zero]
  repeat (go_big_quiet_step (fail))
  refine wpQuiet_nil ?_
  refine wpStay_nil ?_
  refine wpAnyH_more (g := 22) 28 3 (by simp) (by kernel_rfl) (by kernel_rfl) ⟨⟨w.drew, (Keep.refl _ w).drew⟩, rfl⟩ ?_
  simp only [List.take_succ_cons, List.take_zero, List.drop_succ_cons, List.drop_zero]
  refine wpStay_quietS 1 _ _ (by kernel_rfl) ?_
  simp only [List.take_succ_cons, List.take_zero, List.drop_succ_cons, List.drop_zero]
  repeat (go_big_quiet_step (fail))
  refine wpQuiet_nil ?_
  refine wpStay_call (.pointer (some ⟨A, 0, none⟩)) (by rfl) (fun w' hw' => by unfold Oper.quietAt; go_simp) ?_
  go_simp
  refine wpStay_quietS 1 _ _ (by kernel_rfl) ?_
  simp only [List.take_succ_cons, List.take_zero, List.drop_succ_cons, List.drop_zero]
  repeat (go_big_quiet_step (fail))
  refine wpQuiet_nil ?_
  refine wpStay_nil ?_
  refine wpAnyH_more (g := 19) 32 3 (by simp) (by kernel_rfl) (by kernel_rfl) ⟨⟨w.drew, (Keep.refl _ w).drew⟩, rfl⟩ ?_
  simp only [List.take_succ_cons, List.take_zero, List.drop_succ_cons, List.drop_zero]
  refine wpStay_quietS 1 _ _ (by kernel_rfl) ?_
  simp only [List.take_succ_cons, List.take_zero, List.drop_succ_cons, List.drop_zero]
  repeat (go_big_quiet_step (fail))
  refine wpQuiet_nil ?_
  refine wpStay_call (.pointer (some ⟨A, 0, none⟩)) (by rfl) (fun w' hw' => by unfold Oper.quietAt; go_simp) ?_
  go_simp
  refine wpStay_quietS 1 _ _ (by kernel_rfl) ?_
  simp only [List.take_succ_cons, List.take_zero, List.drop_succ_cons, List.drop_zero]
  repeat (go_big_quiet_step (fail))
  refine wpQuiet_nil ?_
  refine wpStay_nil ?_
  refine wpAnyH_more (g := 16) 36 3 (by simp) (by kernel_rfl) (by kernel_rfl) ⟨⟨w.drew, (Keep.refl _ w).drew⟩, rfl⟩ ?_
  simp only [List.take_succ_cons, List.take_zero, List.drop_succ_cons, List.drop_zero]
  refine wpStay_quietS 1 _ _ (by kernel_rfl) ?_
  simp only [List.take_succ_cons, List.take_zero, List.drop_succ_cons, List.drop_zero]
  repeat (go_big_quiet_step (fail))
  refine wpQuiet_nil ?_
  refine wpStay_call (.pointer (some ⟨A, 0, none⟩)) (by rfl) (fun w' hw' => by unfold Oper.quietAt; go_simp) ?_
  go_simp
  refine wpStay_quietS 1 _ _ (by kernel_rfl) ?_
  simp only [List.take_succ_cons, List.take_zero, List.drop_succ_cons, List.drop_zero]
  repeat (go_big_quiet_step (fail))
  refine wpQuiet_nil ?_
  refine wpStay_nil ?_
  refine wpAnyH_more (g := 13) 40 3 (by simp) (by kernel_rfl) (by kernel_rfl) ⟨⟨w.drew, (Keep.refl _ w).drew⟩, rfl⟩ ?_
  simp only [List.take_succ_cons, List.take_zero, List.drop_succ_cons, List.drop_zero]
  refine wpStay_quietS 1 _ _ (by kernel_rfl) ?_
  simp only [List.take_succ_cons, List.take_zero, List.drop_succ_cons, List.drop_zero]
  repeat (go_big_quiet_step (fail))
  refine wpQuiet_nil ?_
  refine wpStay_call (.pointer (some ⟨A, 0, none⟩)) (by rfl) (fun w' hw' => by unfold Oper.quietAt; go_simp) ?_
  go_simp
  refine wpStay_quietS 1 _ _ (by kernel_rfl) ?_
  simp only [List.take_succ_cons, List.take_zero, List.drop_succ_cons, List.drop_zero]
  repeat (go_big_quiet_step (fail))
  refine wpQuiet_nil ?_
  refine wpStay_nil ?_
  have hk := (Keep.refl (fun _ => False) w).drew
  have hw0 : w.heap.size ≤ w.drew.heap.size := Nat.le_refl _
  refine wpAnyH_one 3 (by kernel_rfl) rfl (fun K' hK' => ?_)
  go_simp
  refine (sec_number_int A 0 _).mono ?_
  rintro e w0 ⟨p0, rfl, hp0, hc0, hb0⟩
  have hkk : Keep (fun _ => False) w.drew w0 := Keep.of_below hb0 fun _ q _ => q
  replace hk := hk.trans hkk
  have hl0 : w.heap.size ≤ p0 := by have := hk.size; have := hkk.size; omega
  have hw1 : w.heap.size ≤ w0.heap.size := hk.size
  refine hK'.out _ _ ⟨⟨w0, hk⟩, rfl⟩ (fun _ => ?_)
  clear hK' K' hkk hb0 hp0
  refine wpAnyH_one 7 (by kernel_rfl) rfl (fun K' hK' => ?_)
  go_simp
  refine (sec_number_int A 1 _).mono ?_
  rintro e w1 ⟨p1, rfl, hp1, hc1, hb1⟩
  have hkk : Keep (fun _ => False) w0 w1 := Keep.of_below hb1 fun _ q _ => q
  replace hk := hk.trans hkk
  have hl1 : w.heap.size ≤ p1 := by have := hk.size; have := hkk.size; omega
  have hw2 : w.heap.size ≤ w1.heap.size := hk.size
  replace hc0 := hkk.cell hc0 id
  refine hK'.out _ _ ⟨⟨w1, hk⟩, rfl⟩ (fun _ => ?_)
  clear hK' K' hkk hb1 hp1
  refine wpAnyH_one 11 (by kernel_rfl) rfl (fun K' hK' => ?_)
  go_simp
  refine (sec_number_int A 2 _).mono ?_
  rintro e w2 ⟨p2, rfl, hp2, hc2, hb2⟩
  have hkk : Keep (fun _ => False) w1 w2 := Keep.of_below hb2 fun _ q _ => q
  replace hk := hk.trans hkk
  have hl2 : w.heap.size ≤ p2 := by have := hk.size; have := hkk.size; omega
  have hw3 : w.heap.size ≤ w2.heap.size := hk.size
  replace hc0 := hkk.cell hc0 id
  replace hc1 := hkk.cell hc1 id
  refine hK'.out _ _ ⟨⟨w2, hk⟩, rfl⟩ (fun _ => ?_)
  clear hK' K' hkk hb2 hp2
  refine wpAnyH_one 15 (by kernel_rfl) rfl (fun K' hK' => ?_)
  go_simp
  refine (sec_number_u64 A 3 _).mono ?_
  rintro e w3 ⟨p3, rfl, hp3, hc3, hb3⟩
  have hkk : Keep (fun _ => False) w2 w3 := Keep.of_below hb3 fun _ q _ => q
  replace hk := hk.trans hkk
  have hl3 : w.heap.size ≤ p3 := by have := hk.size; have := hkk.size; omega
  have hw4 : w.heap.size ≤ w3.heap.size := hk.size
  replace hc0 := hkk.cell hc0 id
  replace hc1 := hkk.cell hc1 id
  replace hc2 := hkk.cell hc2 id
  refine hK'.out _ _ ⟨⟨w3, hk⟩, rfl⟩ (fun _ => ?_)
  clear hK' K' hkk hb3 hp3
  refine wpAnyH_one 19 (by kernel_rfl) rfl (fun K' hK' => ?_)
  go_simp
  refine (sec_number_u64 A 4 _).mono ?_
  rintro e w4 ⟨p4, rfl, hp4, hc4, hb4⟩
  have hkk : Keep (fun _ => False) w3 w4 := Keep.of_below hb4 fun _ q _ => q
  replace hk := hk.trans hkk
  have hl4 : w.heap.size ≤ p4 := by have := hk.size; have := hkk.size; omega
  have hw5 : w.heap.size ≤ w4.heap.size := hk.size
  replace hc0 := hkk.cell hc0 id
  replace hc1 := hkk.cell hc1 id
  replace hc2 := hkk.cell hc2 id
  replace hc3 := hkk.cell hc3 id
  refine hK'.out _ _ ⟨⟨w4, hk⟩, rfl⟩ (fun _ => ?_)
  clear hK' K' hkk hb4 hp4
  refine wpAnyH_one 23 (by kernel_rfl) rfl (fun K' hK' => ?_)
  go_simp
  refine (sec_number_u64 A 5 _).mono ?_
  rintro e w5 ⟨p5, rfl, hp5, hc5, hb5⟩
  have hkk : Keep (fun _ => False) w4 w5 := Keep.of_below hb5 fun _ q _ => q
  replace hk := hk.trans hkk
  have hl5 : w.heap.size ≤ p5 := by have := hk.size; have := hkk.size; omega
  have hw6 : w.heap.size ≤ w5.heap.size := hk.size
  replace hc0 := hkk.cell hc0 id
  replace hc1 := hkk.cell hc1 id
  replace hc2 := hkk.cell hc2 id
  replace hc3 := hkk.cell hc3 id
  replace hc4 := hkk.cell hc4 id
  refine hK'.out _ _ ⟨⟨w5, hk⟩, rfl⟩ (fun _ => ?_)
  clear hK' K' hkk hb5 hp5
  refine wpAnyH_one 27 (by kernel_rfl) rfl (fun K' hK' => ?_)
  go_simp
  refine (sec_number_u64 A 6 _).mono ?_
  rintro e w6 ⟨p6, rfl, hp6, hc6, hb6⟩
  have hkk : Keep (fun _ => False) w5 w6 := Keep.of_below hb6 fun _ q _ => q
  replace hk := hk.trans hkk
  have hl6 : w.heap.size ≤ p6 := by have := hk.size; have := hkk.size; omega
  have hw7 : w.heap.size ≤ w6.heap.size := hk.size
  replace hc0 := hkk.cell hc0 id
  replace hc1 := hkk.cell hc1 id
  replace hc2 := hkk.cell hc2 id
  replace hc3 := hkk.cell hc3 id
  replace hc4 := hkk.cell hc4 id
  replace hc5 := hkk.cell hc5 id
  refine hK'.out _ _ ⟨⟨w6, hk⟩, rfl⟩ (fun _ => ?_)
  clear hK' K' hkk hb6 hp6
  refine wpAnyH_one 31 (by kernel_rfl) rfl (fun K' hK' => ?_)
  go_simp
  refine (sec_number_u64 A 7 _).mono ?_
  rintro e w7 ⟨p7, rfl, hp7, hc7, hb7⟩
  have hkk : Keep (fun _ => False) w6 w7 := Keep.of_below hb7 fun _ q _ => q
  replace hk := hk.trans hkk
  have hl7 : w.heap.size ≤ p7 := by have := hk.size; have := hkk.size; omega
  have hw8 : w.heap.size ≤ w7.heap.size := hk.size
  replace hc0 := hkk.cell hc0 id
  replace hc1 := hkk.cell hc1 id
  replace hc2 := hkk.cell hc2 id
  replace hc3 := hkk.cell hc3 id
  replace hc4 := hkk.cell hc4 id
  replace hc5 := hkk.cell hc5 id
  replace hc6 := hkk.cell hc6 id
  refine hK'.out _ _ ⟨⟨w7, hk⟩, rfl⟩ (fun _ => ?_)
  clear hK' K' hkk hb7 hp7
  refine wpAnyH_one 35 (by kernel_rfl) rfl (fun K' hK' => ?_)
  go_simp
  refine (sec_flag A 8 _).mono ?_
  rintro e w8 ⟨p8, rfl, hp8, hc8, hb8⟩
  have hkk : Keep (fun _ => False) w7 w8 := Keep.of_below hb8 fun _ q _ => q
  replace hk := hk.trans hkk
  have hl8 : w.heap.size ≤ p8 := by have := hk.size; have := hkk.size; omega
  have hw9 : w.heap.size ≤ w8.heap.size := hk.size
  replace hc0 := hkk.cell hc0 id
  replace hc1 := hkk.cell hc1 id
  replace hc2 := hkk.cell hc2 id
  replace hc3 := hkk.cell hc3 id
  replace hc4 := hkk.cell hc4 id
  replace hc5 := hkk.cell hc5 id
  replace hc6 := hkk.cell hc6 id
  replace hc7 := hkk.cell hc7 id
  refine hK'.out _ _ ⟨⟨w8, hk⟩, rfl⟩ (fun _ => ?_)
  clear hK' K' hkk hb8 hp8
  refine wpAnyH_one 39 (by kernel_rfl) rfl (fun K' hK' => ?_)
  go_simp
  refine (sec_text A 10 _).mono ?_
  rintro e w9 ⟨p9, rfl, hp9, hc9, hb9⟩
  have hkk : Keep (fun _ => False) w8 w9 := Keep.of_below hb9 fun _ q _ => q
  replace hk := hk.trans hkk
  have hl9 : w.heap.size ≤ p9 := by have := hk.size; have := hkk.size; omega
  have hw10 : w.heap.size ≤ w9.heap.size := hk.size
  replace hc0 := hkk.cell hc0 id
  replace hc1 := hkk.cell hc1 id
  replace hc2 := hkk.cell hc2 id
  replace hc3 := hkk.cell hc3 id
  replace hc4 := hkk.cell hc4 id
  replace hc5 := hkk.cell hc5 id
  replace hc6 := hkk.cell hc6 id
  replace hc7 := hkk.cell hc7 id
  replace hc8 := hkk.cell hc8 id
  refine hK'.out _ _ ⟨⟨w9, hk⟩, rfl⟩ (fun _ => ?_)
  clear hK' K' hkk hb9 hp9
  refine wpAnyH_one 43 (by kernel_rfl) rfl (fun K' hK' => ?_)
  go_simp
  refine (sec_entries A 9 _).mono ?_
  rintro e w10 ⟨p10, rfl, hp10, hc10, hb10⟩
  have hkk : Keep (fun _ => False) w9 w10 := Keep.of_below hb10 fun _ q _ => q
  replace hk := hk.trans hkk
  have hl10 : w.heap.size ≤ p10 := by have := hk.size; have := hkk.size; omega
  have hw11 : w.heap.size ≤ w10.heap.size := hk.size
  replace hc0 := hkk.cell hc0 id
  replace hc1 := hkk.cell hc1 id
  replace hc2 := hkk.cell hc2 id
  replace hc3 := hkk.cell hc3 id
  replace hc4 := hkk.cell hc4 id
  replace hc5 := hkk.cell hc5 id
  replace hc6 := hkk.cell hc6 id
  replace hc7 := hkk.cell hc7 id
  replace hc8 := hkk.cell hc8 id
  replace hc9 := hkk.cell hc9 id
  refine hK'.out _ _ ⟨⟨w10, hk⟩, rfl⟩ (fun _ => ?_)
  clear hK' K' hkk hb10 hp10
  refine wpAnyH_one 44 (by kernel_rfl) rfl (fun K' hK' => ?_)
  go_simp
  have hkk := (Keep.refl (fun _ => False) w10).alloc (.cells #[.func (.func 102) #[] #[.pointer (some ⟨p0, 0, none⟩)], .func (.func 104) #[] #[.pointer (some ⟨p0, 0, none⟩)], .func (.func 102) #[] #[.pointer (some ⟨p1, 0, none⟩)], .func (.func 104) #[] #[.pointer (some ⟨p1, 0, none⟩)], .func (.func 102) #[] #[.pointer (some ⟨p2, 0, none⟩)], .func (.func 104) #[] #[.pointer (some ⟨p2, 0, none⟩)], .func (.func 105) #[] #[.pointer (some ⟨p3, 0, none⟩)], .func (.func 106) #[] #[.pointer (some ⟨p3, 0, none⟩)], .func (.func 105) #[] #[.pointer (some ⟨p4, 0, none⟩)], .func (.func 106) #[] #[.pointer (some ⟨p4, 0, none⟩)], .func (.func 105) #[] #[.pointer (some ⟨p5, 0, none⟩)], .func (.func 106) #[] #[.pointer (some ⟨p5, 0, none⟩)], .func (.func 105) #[] #[.pointer (some ⟨p6, 0, none⟩)], .func (.func 106) #[] #[.pointer (some ⟨p6, 0, none⟩)], .func (.func 105) #[] #[.pointer (some ⟨p7, 0, none⟩)], .func (.func 106) #[] #[.pointer (some ⟨p7, 0, none⟩)], .func (.func 112) #[] #[.pointer (some ⟨p8, 0, none⟩)], .func (.func 113) #[] #[.pointer (some ⟨p8, 0, none⟩)], .func (.func 107) #[] #[.pointer (some ⟨p9, 0, none⟩)], .func (.func 109) #[] #[.pointer (some ⟨p9, 0, none⟩)], .func (.func 114) #[] #[.pointer (some ⟨p10, 0, none⟩)], .func (.func 115) #[] #[.pointer (some ⟨p10, 0, none⟩)]] 131)
  have HS : PrtAt (w10.alloc (.cells #[.func (.func 102) #[] #[.pointer (some ⟨p0, 0, none⟩)], .func (.func 104) #[] #[.pointer (some ⟨p0, 0, none⟩)], .func (.func 102) #[] #[.pointer (some ⟨p1, 0, none⟩)], .func (.func 104) #[] #[.pointer (some ⟨p1, 0, none⟩)], .func (.func 102) #[] #[.pointer (some ⟨p2, 0, none⟩)], .func (.func 104) #[] #[.pointer (some ⟨p2, 0, none⟩)], .func (.func 105) #[] #[.pointer (some ⟨p3, 0, none⟩)], .func (.func 106) #[] #[.pointer (some ⟨p3, 0, none⟩)], .func (.func 105) #[] #[.pointer (some ⟨p4, 0, none⟩)], .func (.func 106) #[] #[.pointer (some ⟨p4, 0, none⟩)], .func (.func 105) #[] #[.pointer (some ⟨p5, 0, none⟩)], .func (.func 106) #[] #[.pointer (some ⟨p5, 0, none⟩)], .func (.func 105) #[] #[.pointer (some ⟨p6, 0, none⟩)], .func (.func 106) #[] #[.pointer (some ⟨p6, 0, none⟩)], .func (.func 105) #[] #[.pointer (some ⟨p7, 0, none⟩)], .func (.func 106) #[] #[.pointer (some ⟨p7, 0, none⟩)], .func (.func 112) #[] #[.pointer (some ⟨p8, 0, none⟩)], .func (.func 113) #[] #[.pointer (some ⟨p8, 0, none⟩)], .func (.func 107) #[] #[.pointer (some ⟨p9, 0, none⟩)], .func (.func 109) #[] #[.pointer (some ⟨p9, 0, none⟩)], .func (.func 114) #[] #[.pointer (some ⟨p10, 0, none⟩)], .func (.func 115) #[] #[.pointer (some ⟨p10, 0, none⟩)]] 131)) w10.heap.size A (fun j => [p0, p1, p2, p3, p4, p5, p6, p7, p8, p9, p10].getD j 0) := by
    refine ⟨fun i hi => ?_, fun j hj => ?_⟩
    · have h1 : i < (prtCells (fun j => [p0, p1, p2, p3, p4, p5, p6, p7, p8, p9, p10].getD j 0)).size := hi
      show (w10.alloc (.cells (prtCells (fun j => [p0, p1, p2, p3, p4, p5, p6, p7, p8, p9, p10].getD j 0)) 131)).cell? ⟨w10.heap.size, i, none⟩ = _
      rw [cell_alloc_row]
      exact arr_getD _ i h1
    · have hj2 : j = 0 ∨ j = 1 ∨ j = 2 ∨ j = 3 ∨ j = 4 ∨ j = 5 ∨ j = 6 ∨ j = 7 ∨ j = 8 ∨ j = 9 ∨ j = 10 := by omega
      rcases hj2 with rfl | rfl | rfl | rfl | rfl | rfl | rfl | rfl | rfl | rfl | rfl
      · exact hkk.cell hc0 id
      · exact hkk.cell hc1 id
      · exact hkk.cell hc2 id
      · exact hkk.cell hc3 id
      · exact hkk.cell hc4 id
      · exact hkk.cell hc5 id
      · exact hkk.cell hc6 id
      · exact hkk.cell hc7 id
      · exact hkk.cell hc8 id
      · exact hkk.cell hc9 id
      · exact hkk.cell hc10 id
  have hPs : ∀ j, j < 11 → w.heap.size ≤ (fun j => [p0, p1, p2, p3, p4, p5, p6, p7, p8, p9, p10].getD j 0) j := fun j hj => by
    have hj2 : j = 0 ∨ j = 1 ∨ j = 2 ∨ j = 3 ∨ j = 4 ∨ j = 5 ∨ j = 6 ∨ j = 7 ∨ j = 8 ∨ j = 9 ∨ j = 10 := by omega
    rcases hj2 with rfl | rfl | rfl | rfl | rfl | rfl | rfl | rfl | rfl | rfl | rfl <;> assumption
  replace hk := hk.trans hkk
  have hF : w.heap.size ≤ w10.heap.size := hw11
  clear hc0 hc1 hc2 hc3 hc4 hc5 hc6 hc7 hc8 hc9 hc10 hkk
  refine hK'.out _ _ ⟨⟨_, hk⟩, rfl⟩ (fun _ => ?_)
  clear hK' K'
  generalize w10.alloc (.cells #[.func (.func 102) #[] #[.pointer (some ⟨p0, 0, none⟩)], .func (.func 104) #[] #[.pointer (some ⟨p0, 0, none⟩)], .func (.func 102) #[] #[.pointer (some ⟨p1, 0, none⟩)], .func (.func 104) #[] #[.pointer (some ⟨p1, 0, none⟩)], .func (.func 102) #[] #[.pointer (some ⟨p2, 0, none⟩)], .func (.func 104) #[] #[.pointer (some ⟨p2, 0, none⟩)], .func (.func 105) #[] #[.pointer (some ⟨p3, 0, none⟩)], .func (.func 106) #[] #[.pointer (some ⟨p3, 0, none⟩)], .func (.func 105) #[] #[.pointer (some ⟨p4, 0, none⟩)], .func (.func 106) #[] #[.pointer (some ⟨p4, 0, none⟩)], .func (.func 105) #[] #[.pointer (some ⟨p5, 0, none⟩)], .func (.func 106) #[] #[.pointer (some ⟨p5, 0, none⟩)], .func (.func 105) #[] #[.pointer (some ⟨p6, 0, none⟩)], .func (.func 106) #[] #[.pointer (some ⟨p6, 0, none⟩)], .func (.func 105) #[] #[.pointer (some ⟨p7, 0, none⟩)], .func (.func 106) #[] #[.pointer (some ⟨p7, 0, none⟩)], .func (.func 112) #[] #[.pointer (some ⟨p8, 0, none⟩)], .func (.func 113) #[] #[.pointer (some ⟨p8, 0, none⟩)], .func (.func 107) #[] #[.pointer (some ⟨p9, 0, none⟩)], .func (.func 109) #[] #[.pointer (some ⟨p9, 0, none⟩)], .func (.func 114) #[] #[.pointer (some ⟨p10, 0, none⟩)], .func (.func 115) #[] #[.pointer (some ⟨p10, 0, none⟩)]] 131) = w11 at *
  generalize w10.heap.size = F at *
  refine wpAnyH_more (g := 0) 45 1 (by simp) (by kernel_rfl) (by kernel_rfl) ⟨⟨w11, hk⟩, rfl⟩ ?_
  simp only [List.take_succ_cons, List.take_zero, List.drop_succ_cons, List.drop_zero]
  refine wpStay_quietS 1 _ _ (by kernel_rfl) ?_
  simp only [List.take_succ_cons, List.take_zero, List.drop_succ_cons, List.drop_zero]
  repeat (go_big_quiet_step (fail))
  refine wpQuiet_nil ?_
  refine wpStay_nil ?_
  refine wpAnyH_done (by kernel_rfl) (NoPanic.normal ?_) _
  go_wp2_with fail
  go_ret
  exact ⟨F, _, rfl, hF, hPs, HS, hk.below (Nat.le_refl _) fun _ q => q.elim⟩
end Go.Proofs.Ythlmigbimeldbaa
