/- slices.Index, slices.Contains of numbers. -/
import Derived.Test.YtpfkpaombiikcaaDoorBytes
import Derived.Test.YtpfkpaombiikcaaDoorProg
set_option maxRecDepth 16000
namespace Go.Pin
open Go.RowKit
set_option linter.unusedVariables false
set_option linter.unusedSimpArgs false
/-- The first place of x, or -1. -/
def idxI (zs : List Int) (x : Int) : Int := if x ∈ zs then ((zs.findIdx fun y => decide (y = x) : Nat) : Int) else -1
theorem idxI_at (zs : List Int) (x : Int) (k : Nat) (hk : k < zs.length) (h : zs.getD k 0 = x) (hl : ∀ j, j < k → zs.getD j 0 ≠ x) : idxI zs x = (k : Int) := by
  have hm : x ∈ zs := by rw [← h]; simp only [List.getD, List.getElem?_eq_getElem hk, Option.getD_some]; exact List.getElem_mem hk
  unfold idxI
  rw [if_pos hm]
  congr 1
  rw [List.findIdx_eq hk]
  refine ⟨?_, fun j hj => ?_⟩
  · simp only [List.getD, List.getElem?_eq_getElem hk, Option.getD_some] at h; simpa using h
  · have := hl j hj
    simp only [List.getD, List.getElem?_eq_getElem (show j < zs.length by omega), Option.getD_some] at this; simpa using this
theorem idxI_none (zs : List Int) (x : Int) (hl : ∀ j, j < zs.length → zs.getD j 0 ≠ x) : idxI zs x = -1 := by
  unfold idxI
  rw [if_neg]
  intro hm
  obtain ⟨j, hj, e⟩ := List.mem_iff_getElem.1 hm
  have := hl j hj
  simp only [List.getD, List.getElem?_eq_getElem hj, Option.getD_some] at this
  exact this e
theorem idxI_range (zs : List Int) (x : Int) : -1 ≤ idxI zs x ∧ idxI zs x ≤ zs.length := by
  unfold idxI
  split
  · have := List.findIdx_le_length (p := fun y => decide (y = x)) (xs := zs); omega
  · omega
theorem idxI_mem (zs : List Int) (x : Int) : decide (0 ≤ idxI zs x) = decide (x ∈ zs) := by
  unfold idxI
  split
  · rename_i h; simp [h]
  · rename_i h; simp [h]
end Go.Pin
namespace Go.Proofs.YtpfkpaombiikcaaDoor
open Go.RowKit Go.Pin
set_option linter.unusedVariables false
set_option linter.unusedSimpArgs false
set_option maxHeartbeats 800000 in
theorem slices_index (a : Option Addr) (c : Nat) (zs : List Int) (x : Int) (w : World) (hlen : zs.length ≤ 9223372036854775807)
    (hc : 0 < zs.length → ∃ b o, a = some ⟨b, o, none⟩ ∧ ∀ i, i < zs.length → w.cell? ⟨b, o + i, none⟩ = some (.int .i64 (zs.getD i 0))) :
    Calls Tryd.prog 91 #[.slice a zs.length c, .int .i64 x] w fun e w' => e = .returned (.int .i64 (idxI zs x)) ∧ w' = w := by
  have Hc := Aside.mk hc
  clear hc
  go_enter Tryd.func91, Tryd.ntmps91
  go_wp2_with fail
  go_loop [8] (fun i => ∃ k : Nat, k ≤ zs.length ∧ i = .int .i64 k ∧ ∀ j, j < k → zs.getD j 0 ≠ x) (fun i => zs.length - (intOf i).toNat)
  case atStart => exact ⟨0, by omega, rfl, fun j hj => by omega⟩
  case round =>
    obtain ⟨k, hk, rfl, hl⟩ := hrel
    have Hl := Aside.mk hl
    clear hl
    by_cases hlt : k < zs.length
    · obtain ⟨b, o, rfl, hcell⟩ := Hc.out (by omega)
      obtain ⟨z, hz⟩ : ∃ z, zs.getD k 0 = z := ⟨_, rfl⟩
      have hck := hcell k hlt
      rw [hz] at hck
      have Hz := Aside.mk hz
      clear hcell hz
      by_cases hx : x = z
      · have he : (x == z) = true := by simpa using hx
        have hfin := idxI_at zs x k hlt (Hz.out.trans hx.symm) Hl.out
        have Hf := Aside.mk hfin
        clear hfin hx
        go_wp2_with fail
        go_ret
        exact ⟨by rw [Hf.out]; rfl, rfl⟩
      · have he : (x == z) = false := by simpa using hx
        have hnx : z ≠ x := fun q => hx q.symm
        have Hnx := Aside.mk hnx
        clear hx hnx
        go_wp2_with fail
        go_round
        case rel => exact ⟨k + 1, by omega, by go_num, fun j hj => by
          rcases Nat.lt_or_ge j k with h | h
          · exact Hl.out j h
          · obtain rfl : j = k := by omega
            rw [Hz.out]; exact Hnx.out⟩
        case measure => simp [intOf]; omega
    · obtain rfl : k = zs.length := by omega
      have hfin := idxI_none zs x Hl.out
      have Hf := Aside.mk hfin
      clear hfin
      go_wp2_with fail
      go_ret
      exact ⟨by rw [Hf.out]; rfl, rfl⟩
set_option maxHeartbeats 400000 in
theorem slices_contains (a : Option Addr) (c : Nat) (zs : List Int) (x : Int) (w : World) (hlen : zs.length ≤ 9223372036854775807)
    (hc : 0 < zs.length → ∃ b o, a = some ⟨b, o, none⟩ ∧ ∀ i, i < zs.length → w.cell? ⟨b, o + i, none⟩ = some (.int .i64 (zs.getD i 0))) :
    Calls Tryd.prog 63 #[.slice a zs.length c, .int .i64 x] w fun e w' => e = .returned (.bool (decide (x ∈ zs))) ∧ w' = w := by
  have hcon := slices_index a c zs x w hlen hc
  have hr := idxI_range zs x
  have Hm := Aside.mk (idxI_mem zs x)
  clear hc
  generalize idxI zs x = k at *
  go_enter Tryd.func63, Tryd.ntmps63
  go_wp2_with fail
  refine hcon.mono ?_
  rintro e w' ⟨rfl, rfl⟩
  go_wp2_with fail
  go_ret
  exact ⟨by rw [← Hm.out]; rfl, rfl⟩
end Go.Proofs.YtpfkpaombiikcaaDoor
