/- pintlelaw06: examples. -/
import Derived.Test.YthlmigbimeldbaaSecQ
import Derived.Test.YthlmigbimeldbaaSecG
import Derived.Test.YthlmigbimeldbaaRdW
set_option maxRecDepth 16000
namespace Go.Pin
open Go.RowKit
set_option linter.unusedVariables false
set_option linter.unusedSimpArgs false
abbrev exS1 : En := ⟨1, 1, 0, 0, 0, 0, 0, 0, 0, ⟨#[]⟩, ⟨#[]⟩⟩
abbrev exS2 : En := ⟨1, 1, 11, 1, 0, 0, 0, 0, 0, ⟨#[]⟩, ⟨#[97]⟩⟩
theorem exS_ok : exS1.ok ∧ exS2.ok := ⟨⟨by decide, by decide, by decide, by decide, by decide, by decide, by decide, by decide, by decide, by decide, by decide⟩, ⟨by decide, by decide, by decide, by decide, by decide, by decide, by decide, by decide, by decide, by decide, by decide⟩⟩
theorem exS_1 : exS1.right = true ∧ secPutS exS1 = ⟨#[2, 1, 3, 1, 0]⟩ := ⟨by rfl, by rfl⟩
theorem exS_2 : exS2.right = true ∧ secPutS exS2 = ⟨#[1, 11, 2, 1, 3, 1, 4, 1, 11, 1, 97, 0]⟩ := ⟨by rfl, by rfl⟩
/-- A message that is zero, in memory. -/
structure SevZ (w : World) (M : Nat) : Prop where
  c0 : w.cell? ⟨M, 0, none⟩ = some (.int .i64 0)
  c1 : w.cell? ⟨M, 1, none⟩ = some (.int .i64 0)
  c2 : w.cell? ⟨M, 2, none⟩ = some (.int .i64 0)
  c3 : w.cell? ⟨M, 3, none⟩ = some (.int .u64 0)
  c4 : w.cell? ⟨M, 4, none⟩ = some (.int .u64 0)
  c5 : w.cell? ⟨M, 5, none⟩ = some (.int .u64 0)
  c6 : w.cell? ⟨M, 6, none⟩ = some (.int .u64 0)
  c7 : w.cell? ⟨M, 7, none⟩ = some (.int .u64 0)
  c8 : w.cell? ⟨M, 8, none⟩ = some (.bool false)
  c9 : w.cell? ⟨M, 9, none⟩ = some (.slice none 0 0)
  c10 : w.cell? ⟨M, 10, none⟩ = some (.string ⟨#[]⟩)
  fr : ∀ j, w.frozen? ⟨M, j, none⟩ = false
theorem SevZ.new (w : World) : SevZ (w.alloc (.cells #[.int .i64 0, .int .i64 0, .int .i64 0, .int .u64 0, .int .u64 0, .int .u64 0, .int .u64 0, .int .u64 0, .bool false, .slice none 0 0, .string ⟨#[]⟩] 80)) w.heap.size := by
  constructor <;> simp
theorem SevZ.keep {S : Nat → Prop} {a w : World} {M : Nat} (h : SevZ a M) (hk : Keep S a w) (hn : ¬ S M) : SevZ w M :=
  ⟨hk.cell h.c0 hn, hk.cell h.c1 hn, hk.cell h.c2 hn, hk.cell h.c3 hn, hk.cell h.c4 hn, hk.cell h.c5 hn, hk.cell h.c6 hn, hk.cell h.c7 hn, hk.cell h.c8 hn, hk.cell h.c9 hn, hk.cell h.c10 hn, fun j => by rw [hk.frozen (p := ⟨M, j, none⟩) (World.block_lt_of_cell? (a := ⟨M, 0, none⟩) _ h.c0) hn]; exact h.fr j⟩
theorem rd_empty : (Rd.mk ⟨#[]⟩ false).var = (0, Rd.fail) := by rfl
end Go.Pin
namespace Go.Proofs.Ythlmigbimeldbaa
open Go.RowKit Go.Pin
set_option linter.unusedVariables false
set_option linter.unusedSimpArgs false
/-- Where nothing is to be read no field is taken. -/
theorem sec_get_empty (R F : Nat) (w : World) (h : RdAt w R ⟨⟨#[]⟩, false⟩) :
    Calls Try.prog 66 #[.pointer (some ⟨R, 0, none⟩), .slice (some ⟨F, 0, none⟩) 11 11] w fun x w' => x = .returned (.tuple #[]) ∧ RdAt w' R Rd.fail ∧ Keep (fun k => k = R) w w' := by
  have HV := Pin.Aside.mk (rd_var R _ w h (by decide))
  rw [rd_empty] at HV
  go_enter Try.func66, Try.ntmps66
  go_wp2_with fail
  refine HV.out.mono ?_
  rintro x w1 ⟨rfl, hr, hk⟩
  have HR := Pin.Aside.mk hr
  clear hr
  go_wp2_with fail
  refine wp_loop_rounds 1 ?_
  rw [rounds_succ]
  go_wp2_with fail
  go_end0
  exact ⟨rfl, HR.out, hk⟩
def msgZ : Array Value := #[.int .i64 0, .int .i64 0, .int .i64 0, .int .u64 0, .int .u64 0, .int .u64 0, .int .u64 0, .int .u64 0, .bool false, .slice none 0 0, .string ⟨#[]⟩]
set_option maxHeartbeats 1600000 in
theorem sec_getMsg_empty (w : World) :
    Calls Try.prog 45 #[.string ⟨#[]⟩] w fun x w' => x = .returned (.tuple #[.agg #[.int .i64 0, .int .i64 0, .int .i64 0, .int .u64 0, .int .u64 0, .int .u64 0, .int .u64 0, .int .u64 0, .bool false, .slice none 0 0, .string ⟨#[]⟩], .bool false]) ∧ Below w.heap.size w w' := by
  have hk0 := (Keep.refl (fun _ => False) w).alloc (.cells #[.int .i64 0, .int .i64 0, .int .i64 0, .int .u64 0, .int .u64 0, .int .u64 0, .int .u64 0, .int .u64 0, .bool false, .slice none 0 0, .string ⟨#[]⟩] 80)
  have HZ := Pin.Aside.mk (SevZ.new w)
  have HW := Pin.Aside.mk (hk0.below (Nat.le_refl _) fun _ q => q.elim)
  clear hk0
  go_enter Try.func45, Try.ntmps45
  go_upto_region 1 with fail
  generalize w.alloc (.cells #[.int .i64 0, .int .i64 0, .int .i64 0, .int .u64 0, .int .u64 0, .int .u64 0, .int .u64 0, .int .u64 0, .bool false, .slice none 0 0, .string ⟨#[]⟩] 80) = w1 at *
  obtain ⟨M, hM⟩ : ∃ A, w.heap.size = A := ⟨_, rfl⟩
  rw [hM] at HZ HW
  try rw [hM]
  have HM := Pin.Aside.mk hM
  clear hM
  go_wp2_with fail
  refine (rd_new _ _).mono ?_
  rintro x w2 ⟨rfl, hr2, hz2, hb2⟩
  clear hz2
  have hM1 : M < w1.heap.size := World.block_lt_of_cell? _ _ HZ.out.c0
  have hk2 : Keep (fun _ => False) w1 w2 := Keep.of_below hb2 fun _ q _ => q
  replace HZ := Pin.Aside.mk (HZ.out.keep hk2 id)
  replace HW := Pin.Aside.mk (HW.out.trans (hb2.mono (Nat.le_of_lt hM1)))
  have HR := Pin.Aside.mk hr2
  clear hb2 hk2 hr2
  have hka := (Keep.refl (fun _ => False) w2).alloc (.cells #[.int .i64 0, .int .i64 0, .int .i64 0, .int .u64 0, .int .u64 0, .int .u64 0, .int .u64 0, .int .u64 0, .bool false, .slice none 0 0, .string ⟨#[]⟩] 80)
  have hM2 : M < w2.heap.size := World.block_lt_of_cell? _ _ HZ.out.c0
  replace HZ := Pin.Aside.mk (HZ.out.keep hka id)
  replace HW := Pin.Aside.mk (HW.out.trans (hka.below (B := M) (Nat.le_of_lt hM2) fun _ q => q.elim))
  replace HR := Pin.Aside.mk (HR.out.keep hka id)
  clear hka
  go_upto_region 3 with fail
  generalize w2.alloc (.cells #[.int .i64 0, .int .i64 0, .int .i64 0, .int .u64 0, .int .u64 0, .int .u64 0, .int .u64 0, .int .u64 0, .bool false, .slice none 0 0, .string ⟨#[]⟩] 80) = w3 at *
  have hM3 : M < w3.heap.size := World.block_lt_of_cell? _ _ HZ.out.c0
  generalize w2.heap.size = A at *
  obtain ⟨R, hRR⟩ : ∃ R, w1.heap.size = R := ⟨_, rfl⟩
  rw [hRR] at HR hM1
  rw [hRR]
  clear hRR
  go_wp2_with fail
  refine (sec_parts A _).mono ?_
  rintro x w4 ⟨F, P, rfl, hF4, hP4, hS4, hb4⟩
  clear hF4 hP4 hS4
  have hk4 : Keep (fun _ => False) w3 w4 := Keep.of_below hb4 fun _ q _ => q
  replace HZ := Pin.Aside.mk (HZ.out.keep hk4 id)
  replace HW := Pin.Aside.mk (HW.out.trans (hb4.mono (Nat.le_of_lt hM3)))
  replace HR := Pin.Aside.mk (HR.out.keep hk4 id)
  have hM4 : M < w4.heap.size := World.block_lt_of_cell? _ _ HZ.out.c0
  clear hb4 hk4
  go_wp2_with fail
  refine (sec_get_empty R F _ HR.out).mono ?_
  rintro x w5 ⟨rfl, hr5, hk5⟩
  replace HZ := Pin.Aside.mk (HZ.out.keep hk5 (by omega))
  replace HW := Pin.Aside.mk (HW.out.trans (hk5.below (B := M) (Nat.le_of_lt hM4) (by rintro k rfl; omega)))
  replace HR := Pin.Aside.mk hr5
  clear hr5 hk5
  go_wp2_with fail
  refine (rd_ok R _ _ HR.out).mono ?_
  rintro x w6 ⟨rfl, rfl⟩
  have hzc := HZ.out
  obtain ⟨c0, c1, c2, c3, c4, c5, c6, c7, c8, c9, c10, cf⟩ := hzc
  have f0 := cf 0
  have f1 := cf 1
  have f2 := cf 2
  have f3 := cf 3
  have f4 := cf 4
  have f5 := cf 5
  have f6 := cf 6
  have f7 := cf 7
  have f8 := cf 8
  have f9 := cf 9
  have f10 := cf 10
  clear cf
  rw [show Rd.fail.bad = true from rfl]
  go_wp2_with fail
  refine bodyPost_ret (v := .tuple #[.agg #[.int .i64 0, .int .i64 0, .int .i64 0, .int .u64 0, .int .u64 0, .int .u64 0, .int .u64 0, .int .u64 0, .bool false, .slice none 0 0, .string ⟨#[]⟩], .bool false]) (by simp [results, Try.results45, go_sem, c0, c1, c2, c3, c4, c5, c6, c7, c8, c9, c10]) rfl ⟨rfl, ?_⟩
  rw [HM.out]
  exact (((((((((((HW.out.setCell (p := ⟨M, 0, none⟩) (Nat.le_refl _) _).setCell (p := ⟨M, 1, none⟩) (Nat.le_refl _) _).setCell (p := ⟨M, 2, none⟩) (Nat.le_refl _) _).setCell (p := ⟨M, 3, none⟩) (Nat.le_refl _) _).setCell (p := ⟨M, 4, none⟩) (Nat.le_refl _) _).setCell (p := ⟨M, 5, none⟩) (Nat.le_refl _) _).setCell (p := ⟨M, 6, none⟩) (Nat.le_refl _) _).setCell (p := ⟨M, 7, none⟩) (Nat.le_refl _) _).setCell (p := ⟨M, 8, none⟩) (Nat.le_refl _) _).setCell (p := ⟨M, 9, none⟩) (Nat.le_refl _) _).setCell (p := ⟨M, 10, none⟩) (Nat.le_refl _) _)
set_option maxHeartbeats 1600000 in
theorem sec_examples (w : World) : Calls Try.prog 29 #[] w fun x w' => x = .returned (.bool true) ∧ Below w.heap.size w w' := by
  have P1 := Pin.Aside.mk (fun W => sec_Put exS1 exS_ok.1 W)
  have P2 := Pin.Aside.mk (fun W => sec_Put exS2 exS_ok.2 W)
  rw [exS_1.1, exS_1.2] at P1
  rw [exS_2.1, exS_2.2] at P2
  dsimp only [En.cells] at P1 P2
  have G0 := Pin.Aside.mk sec_getMsg_empty
  have hb := Below.refl w.heap.size w
  have hse := str_beq
  go_enter Try.func29, Try.ntmps29
  go_wp2_with fail
  refine (P1.out _).mono ?_
  rintro x w1 ⟨rfl, hbb⟩
  replace hb := hb.trans hbb
  clear hbb
  go_wp2_with fail
  refine (P2.out _).mono ?_
  rintro x w2 ⟨rfl, hbb⟩
  replace hb := hb.trans (hbb.mono (by have := hb.size; omega))
  clear hbb
  go_wp2_with fail
  refine (G0.out _).mono ?_
  rintro x w3 ⟨rfl, hbb⟩
  replace hb := hb.trans (hbb.mono (by have := hb.size; omega))
  clear hbb
  replace hb := hb.trans (((Keep.refl (fun _ => False) w3).alloc (.cells #[.int .i64 0, .int .i64 0, .int .i64 0, .int .u64 0, .int .u64 0, .int .u64 0, .int .u64 0, .int .u64 0, .bool false, .slice none 0 0, .string ⟨#[]⟩] 80)).below (B := w.heap.size) (by have := hb.size; omega) fun _ q => q.elim)
  go_upto_region 4 with fail
  generalize w3.alloc (.cells #[.int .i64 0, .int .i64 0, .int .i64 0, .int .u64 0, .int .u64 0, .int .u64 0, .int .u64 0, .int .u64 0, .bool false, .slice none 0 0, .string ⟨#[]⟩] 80) = w4 at *
  go_wp2_with fail
  go_ret
  exact ⟨rfl, hb⟩
end Go.Proofs.Ythlmigbimeldbaa
