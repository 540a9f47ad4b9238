/- entry: small, node, Fields. -/
import Derived.Test.YthlmigbimeldbaaProg
import Derived.Test.YthlmigbimeldbaaEnM
import Derived.Test.YthlmigbimeldbaaBytes
import Derived.Test.YthlmigbimeldbaaMap
set_option maxRecDepth 16000
namespace Go.Pin
open Go.RowKit
set_option linter.unusedVariables false
set_option linter.unusedSimpArgs false
def enL : List Ent := [(0, Value.string ⟨#[]⟩), (1, Value.string ⟨#[99, 98, 100]⟩), (2, Value.string ⟨#[99, 98, 109]⟩), (3, Value.string ⟨#[99, 109]⟩), (4, Value.string ⟨#[99]⟩), (5, Value.string ⟨#[110]⟩), (6, Value.string ⟨#[110]⟩), (7, Value.string ⟨#[110, 108]⟩), (8, Value.string ⟨#[]⟩), (9, Value.string ⟨#[]⟩), (10, Value.string ⟨#[]⟩), (11, Value.string ⟨#[99, 98, 100, 111]⟩)]
theorem enL_eq : (mset (mset (mset (mset (mset (mset (mset (mset (mset (mset (mset (mset [] 0 (Value.string ⟨#[]⟩)) 1 (Value.string ⟨#[99, 98, 100]⟩)) 2 (Value.string ⟨#[99, 98, 109]⟩)) 3 (Value.string ⟨#[99, 109]⟩)) 4 (Value.string ⟨#[99]⟩)) 5 (Value.string ⟨#[110]⟩)) 6 (Value.string ⟨#[110]⟩)) 7 (Value.string ⟨#[110, 108]⟩)) 8 (Value.string ⟨#[]⟩)) 9 (Value.string ⟨#[]⟩)) 10 (Value.string ⟨#[]⟩)) 11 (Value.string ⟨#[99, 98, 100, 111]⟩)) = enL := by simp [mset, enL]
theorem enL_get (k : Int) : (mget enL k).getD (.string ⟨#[]⟩) = .string (enF k).1 ∧ (mget enL k).isSome = (enF k).2 := by
  by_cases h : 0 ≤ k ∧ k ≤ 11
  · have hc : k = 0 ∨ k = 1 ∨ k = 2 ∨ k = 3 ∨ k = 4 ∨ k = 5 ∨ k = 6 ∨ k = 7 ∨ k = 8 ∨ k = 9 ∨ k = 10 ∨ k = 11 := by omega
    rcases hc with rfl | rfl | rfl | rfl | rfl | rfl | rfl | rfl | rfl | rfl | rfl | rfl <;> exact ⟨rfl, rfl⟩
  · have e : enF k = (⟨#[]⟩, false) := by
      unfold enF
      rw [if_neg (by omega), if_neg (by omega), if_neg (by omega), if_neg (by omega), if_neg (by omega), if_neg (by omega), if_neg (by omega), if_neg (by omega)]
    have g : mget enL k = none := by
      unfold mget
      rw [show enL.find? (fun p => decide (p.1 = k)) = none from List.find?_eq_none.2 (by
        intro p hp
        unfold enL at hp
        simp only [List.mem_cons, List.not_mem_nil, or_false] at hp
        rcases hp with rfl | rfl | rfl | rfl | rfl | rfl | rfl | rfl | rfl | rfl | rfl | rfl <;> simp <;> omega)]
      rfl
    rw [e, g]; exact ⟨rfl, rfl⟩
end Go.Pin
namespace Go.Proofs.Ythlmigbimeldbaa
open Go.RowKit Go.Pin
set_option linter.unusedVariables false
set_option linter.unusedSimpArgs false
theorem en_node (n : Int) (w : World) : Calls Try.prog 82 #[.int .i64 n] w fun e w' => e = .returned (.bool (decide (1 ≤ n ∧ n ≤ 7))) ∧ w' = w := by
  by_cases h1 : 1 ≤ n
  · by_cases h2 : n ≤ 7
    · rw [show decide (1 ≤ n ∧ n ≤ 7) = true by simpa using ⟨h1, h2⟩]
      go_enter Try.func82, Try.ntmps82
      go_wp2_with fail
      go_ret
      exact ⟨rfl, rfl⟩
    · rw [show decide (1 ≤ n ∧ n ≤ 7) = false by simp; omega]
      go_enter Try.func82, Try.ntmps82
      go_wp2_with fail
      go_ret
      exact ⟨rfl, rfl⟩
  · rw [show decide (1 ≤ n ∧ n ≤ 7) = false by simp; omega]
    go_enter Try.func82, Try.ntmps82
    go_wp2_with fail
    go_ret
    exact ⟨rfl, rfl⟩
theorem en_small (n : Int) (h0 : 0 ≤ n) (h1 : n ≤ 18446744073709551615) (w : World) : Calls Try.prog 81 #[.int .u64 n] w fun e w' => e = .returned (.bool (decide (n < 4294967296))) ∧ w' = w := by
  have hE : decide (n < 4294967296) = (n / 4294967296 == 0) := by rw [Bool.eq_iff_iff]; simp; omega
  rw [hE]
  clear hE
  go_enter Try.func81, Try.ntmps81
  go_wp2_with fail
  go_ret
  exact ⟨rfl, rfl⟩
set_option maxHeartbeats 1600000 in
theorem en_fields (k : Int) (w : World) : Calls Try.prog 79 #[.int .i64 k] w fun e w' => e = .returned (.tuple #[.string (enF k).1, .bool (enF k).2]) ∧ Below w.heap.size w w' := by
  have hmm := @run_makeMap Try.prog
  have hm0 := MapAt.made w .i64
  obtain ⟨w1, hu1, hm1, hk1, hz1⟩ := run_map_update (P := Try.prog) (t := 149) hm0 Try.underlying149 Try.underlying3 0 (Value.string ⟨#[]⟩)
  obtain ⟨w2, hu2, hm2, hk2, hz2⟩ := run_map_update (P := Try.prog) (t := 149) hm1 Try.underlying149 Try.underlying3 1 (Value.string ⟨#[99, 98, 100]⟩)
  obtain ⟨w3, hu3, hm3, hk3, hz3⟩ := run_map_update (P := Try.prog) (t := 149) hm2 Try.underlying149 Try.underlying3 2 (Value.string ⟨#[99, 98, 109]⟩)
  obtain ⟨w4, hu4, hm4, hk4, hz4⟩ := run_map_update (P := Try.prog) (t := 149) hm3 Try.underlying149 Try.underlying3 3 (Value.string ⟨#[99, 109]⟩)
  obtain ⟨w5, hu5, hm5, hk5, hz5⟩ := run_map_update (P := Try.prog) (t := 149) hm4 Try.underlying149 Try.underlying3 4 (Value.string ⟨#[99]⟩)
  obtain ⟨w6, hu6, hm6, hk6, hz6⟩ := run_map_update (P := Try.prog) (t := 149) hm5 Try.underlying149 Try.underlying3 5 (Value.string ⟨#[110]⟩)
  obtain ⟨w7, hu7, hm7, hk7, hz7⟩ := run_map_update (P := Try.prog) (t := 149) hm6 Try.underlying149 Try.underlying3 6 (Value.string ⟨#[110]⟩)
  obtain ⟨w8, hu8, hm8, hk8, hz8⟩ := run_map_update (P := Try.prog) (t := 149) hm7 Try.underlying149 Try.underlying3 7 (Value.string ⟨#[110, 108]⟩)
  obtain ⟨w9, hu9, hm9, hk9, hz9⟩ := run_map_update (P := Try.prog) (t := 149) hm8 Try.underlying149 Try.underlying3 8 (Value.string ⟨#[]⟩)
  obtain ⟨w10, hu10, hm10, hk10, hz10⟩ := run_map_update (P := Try.prog) (t := 149) hm9 Try.underlying149 Try.underlying3 9 (Value.string ⟨#[]⟩)
  obtain ⟨w11, hu11, hm11, hk11, hz11⟩ := run_map_update (P := Try.prog) (t := 149) hm10 Try.underlying149 Try.underlying3 10 (Value.string ⟨#[]⟩)
  obtain ⟨w12, hu12, hm12, hk12, hz12⟩ := run_map_update (P := Try.prog) (t := 149) hm11 Try.underlying149 Try.underlying3 11 (Value.string ⟨#[99, 98, 100, 111]⟩)
  have hl := run_map_lookup_ok (P := Try.prog) (t := 149) hm12 Try.underlying149 Try.underlying3 k (z := .string ⟨#[]⟩) rfl
  rw [enL_eq, (enL_get k).1, (enL_get k).2] at hl
  have hkm : Keep (fun k => k = w.heap.size) w w12 := ((Keep.refl (fun k => k = w.heap.size) w).alloc (.map #[] 0)).trans hk1 |>.trans hk2 |>.trans hk3 |>.trans hk4 |>.trans hk5 |>.trans hk6 |>.trans hk7 |>.trans hk8 |>.trans hk9 |>.trans hk10 |>.trans hk11 |>.trans hk12
  have Hk := Pin.Aside.mk hkm
  obtain ⟨⟨s, ok⟩, hs⟩ : ∃ r, enF k = r := ⟨_, rfl⟩
  rw [hs] at hl
  rw [hs]
  clear hm0 hkm hs hm1 hk1 hz1 hm2 hk2 hz2 hm3 hk3 hz3 hm4 hk4 hz4 hm5 hk5 hz5 hm6 hk6 hz6 hm7 hk7 hz7 hm8 hk8 hz8 hm9 hk9 hz9 hm10 hk10 hz10 hm11 hk11 hz11 hm12 hk12 hz12
  go_enter Try.func79, Try.ntmps79
  go_wp2_with fail
  go_ret2
  exact ⟨rfl, Hk.out.below (Nat.le_refl _) fun k q => by rw [q]; exact Nat.le_refl _⟩
end Go.Proofs.Ythlmigbimeldbaa
