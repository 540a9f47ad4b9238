/- slices.Sort of whole numbers of 64 bits. -/
import Derived.Test.YtpebpcmppcpkdaaDoorUSo
import Derived.Test.YtpebpcmppcpkdaaDoorUBl
set_option maxRecDepth 16000
namespace Go.Pin
open Go.RowKit
set_option linter.unusedVariables false
set_option linter.unusedSimpArgs false
def usort (zs : List Int) : List Int := zs.mergeSort fun x y => decide (x ≤ y)
theorem usort_perm (zs : List Int) : List.Perm (usort zs) zs := List.mergeSort_perm _ _
theorem usort_len (zs : List Int) : (usort zs).length = zs.length := (usort_perm zs).length_eq
theorem usort_sorted (zs : List Int) : (usort zs).Pairwise (· ≤ ·) := by
  have h1 := List.pairwise_mergeSort (le := fun x y : Int => decide (x ≤ y)) (fun a b c h1 h2 => by simp at *; omega) (fun a b => by simp; omega) zs
  exact h1.imp fun h => by simpa using h
theorem usort_congr {xs ys : List Int} (h : List.Perm xs ys) : usort xs = usort ys :=
  List.Perm.eq_of_pairwise (le := fun x y : Int => x ≤ y) (fun a b _ _ h1 h2 => by omega) (usort_sorted xs) (usort_sorted ys) ((usort_perm xs).trans (h.trans (usort_perm ys).symm))
theorem usort_ins (zs : List Int) : (Sort.insertionSort Sort.ltInt zs.toArray 0 zs.toArray.size) = (usort zs).toArray := by
  obtain ⟨hP, hSo⟩ := Sort.insertionSort_holds (lt := Sort.ltInt) Sort.swo_ltInt zs.toArray 0 zs.toArray.size (Nat.zero_le _) (Nat.le_refl _)
  have h := Sort.sorted_unique_holds Sort.swo_ltInt (fun x y h1 h2 => by simp only [Sort.ltInt, decide_eq_false_iff_not] at h1 h2; omega) zs.toArray _ hP hSo
  apply Array.toList_inj.1
  rw [h]
  show _ = usort zs
  unfold usort
  congr 1
  funext x y
  show (!decide (y < x)) = decide (x ≤ y)
  by_cases h : x ≤ y
  · have h' : ¬ y < x := by omega
    simp [h, h']
  · have h' : y < x := by omega
    simp [h, h']
end Go.Pin
namespace Go.Proofs.YtpebpcmppcpkdaaDoor
open Go.RowKit Go.Pin
set_option linter.unusedVariables false
set_option linter.unusedSimpArgs false
set_option maxHeartbeats 1600000 in
theorem u_sort (Q o cap : Nat) (zs : List Int) (w : World) (hH : URow w Q o zs.toArray) (hz : zs.length ≤ 12) :
    Calls Tryd.prog 50 #[.slice (some ⟨Q, o, none⟩) zs.length cap] w fun e w' => e = .returned (.tuple #[]) ∧ Keep (fun k => k = Q) w w' ∧ URow w' Q o (usort zs).toArray := by
  have HP := Pin.Aside.mk (fun lim => u_pdq_few Q o cap zs.toArray lim w hH (by simpa using hz))
  rw [usort_ins] at HP
  simp only [List.size_toArray] at HP
  clear hH
  have hw : IntKind.u64.wrap (zs.length : Int) = zs.length := by rw [IntKind.wrap_u64]; omega
  go_enter Tryd.func50, Tryd.ntmps50
  go_wp2_with fail
  refine (YtpebpcmppcpkdaaDoorSh.bits_Len _ _ (by omega) (by omega)).mono ?_
  rintro e w1 ⟨rfl, rfl⟩
  go_wp2_with fail
  refine (HP.out _).mono ?_
  rintro e w2 ⟨rfl, hk, hr⟩
  have HR := Pin.Aside.mk hr
  clear hr
  go_wp2_with fail
  go_end0
  exact ⟨rfl, hk, HR.out⟩
theorem u_ins_none (p : Option Addr) (cap : Nat) (w : World) :
    Calls Tryd.prog 75 #[.slice p 0 cap, .int .i64 0, .int .i64 0] w fun e w' => e = .returned (.tuple #[]) ∧ w' = w := by
  go_enter Tryd.func75, Tryd.ntmps75
  go_wp2_with fail
  refine wp_loop_rounds 1 ?_
  rw [rounds_succ]
  go_wp2_with fail
  go_end0
  exact ⟨rfl, rfl⟩
theorem u_pdq_none (p : Option Addr) (cap : Nat) (lim : Int) (w : World) :
    Calls Tryd.prog 63 #[.slice p 0 cap, .int .i64 0, .int .i64 0, .int .i64 lim] w fun e w' => e = .returned (.tuple #[]) ∧ w' = w := by
  go_enter Tryd.func63, Tryd.ntmps63
  go_wp2_with fail
  refine wp_loop_rounds 1 ?_
  rw [rounds_succ]
  go_wp2_with fail
  refine (u_ins_none p cap _).mono ?_
  rintro e w1 ⟨rfl, rfl⟩
  go_wp2_with fail
  (try simp only [Exit.inBlock, Exit.then]); refine bodyPost_ret (results_none rfl _ _ _) rfl ?_
  exact ⟨rfl, rfl⟩
theorem u_sort_none (p : Option Addr) (cap : Nat) (w : World) :
    Calls Tryd.prog 50 #[.slice p 0 cap] w fun e w' => e = .returned (.tuple #[]) ∧ w' = w := by
  go_enter Tryd.func50, Tryd.ntmps50
  go_wp2_with fail
  refine (YtpebpcmppcpkdaaDoorSh.bits_Len _ _ (by omega) (by omega)).mono ?_
  rintro e w1 ⟨rfl, rfl⟩
  go_wp2_with fail
  refine (u_pdq_none p cap _ _).mono ?_
  rintro e w2 ⟨rfl, rfl⟩
  go_wp2_with fail
  go_end0
  exact ⟨rfl, rfl⟩
end Go.Proofs.YtpebpcmppcpkdaaDoor
