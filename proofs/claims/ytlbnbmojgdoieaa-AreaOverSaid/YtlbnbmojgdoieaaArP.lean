/- Plain laws: how many sectors a snap needs. -/
import Derived.Test.YtlbnbmojgdoieaaArT
import Derived.Test.YtlbnbmojgdoieaaAreaR
namespace Go.Pin
open Go.RowKit
set_option linter.unusedVariables false
set_option linter.unusedSimpArgs false
theorem wrun_wait (b : ByteArray) (a : Nat) (d : Dv) (hok : d.ok) (hl : Live d) : ∀ k, a + k ≤ d.n → ∃ D, wrun b a d k = (0, D) ∧ Laid d D b a k ∧ ∀ j, D.w j = if a ≤ j ∧ j < a + k then true else d.w j := by
  intro k
  induction k with
  | zero => exact fun _ => ⟨d, rfl, ⟨hok, hl, rfl, fun i hi => by omega, fun _ _ => rfl⟩, fun j => by rw [if_neg (by omega)]⟩
  | succ k ih =>
    intro hk
    obtain ⟨D, hD, h, hw⟩ := ih (by omega)
    have hk' : a + k < D.n := by rw [h.n]; omega
    refine ⟨dset (a + k) (piece b k) D, ?_, ⟨dset_ok h.ok hk' (piece_size b k), h.live.set _ _, h.n, fun i hi => ?_, fun j hj => ?_⟩, fun j => ?_⟩
    · show (if (wrun b a d k).1 ≠ 0 then _ else _) = _
      rw [hD, if_neg (by simp)]
      exact h.live.write hk' (piece_size b k)
    · rw [dset_s h.ok hk']
      by_cases e : i = k
      · rw [if_pos (by omega), e]
      · rw [if_neg (by omega)]; exact h.at' i (by omega)
    · rw [dset_s h.ok hk', if_neg (by omega)]; exact h.else' j (by omega)
    · rw [dset_w h.ok hk', hw]
      by_cases e : j = a + k
      · rw [if_pos e, if_pos (by omega)]
      · rw [if_neg e]
        by_cases q : a ≤ j ∧ j < a + k
        · rw [if_pos q, if_pos (by omega)]
        · rw [if_neg q, if_neg (by omega)]
theorem fpack_pos (v : Int) (hv : v = 1 ∨ v = 2) (b : ByteArray) (hb : b.size ≤ 1048576) : 1 ≤ (fpack v b).1.size := by
  unfold fpack
  rw [if_neg (by omega)]
  have h : (fixedS (csum (fhead v b.size) b).toNat 4).size = 4 := by
    have := fixedS_data (csum (fhead v b.size) b).toNat 4 (by omega)
    show (fixedS (csum (fhead v b.size) b).toNat ((4 : Nat) : Int)).data.toList.length = 4
    rw [this, fixedL_len]
  simp only [ByteArray.size_append]
  omega
theorem wait_count (D : Dv) (n : Nat) (hn : D.n = 10) (h1 : 1 ≤ n) (h2 : n ≤ 6) (hw : ∀ j, D.w j = if 0 ≤ j ∧ j < 0 + n then true else (dnew 10).w j) : (dwaiting D).length = n := by
  have e : dwaiting D = (List.range 10).filter (fun j => decide (j < n)) := by
    unfold dwaiting
    rw [hn]
    apply List.filter_congr
    intro j _
    rw [hw, show (dnew 10).w j = false from getD_rep _ _ _]
    by_cases q : j < n
    · rw [if_pos (by omega)]; simp [q]
    · rw [if_neg (by omega)]; simp [q]
  rw [e]
  rcases (show n = 1 ∨ n = 2 ∨ n = 3 ∨ n = 4 ∨ n = 5 ∨ n = 6 by omega) with rfl | rfl | rfl | rfl | rfl | rfl <;> decide
theorem none_there : (aget (rcat (dnew 10) 5 5)).2.2 = false := by decide +kernel
theorem read_none (D : Dv) (hn : D.n = 10) (hl : Live D) (h : ∀ j, 5 ≤ j → D.s j = (dnew 10).s j) : aread D 5 5 = (snone, 0, 2) := by
  unfold aread
  have hr : aright D.n 5 5 = true := by rw [hn]; decide
  have e : rcat D (5 : Int).toNat (5 : Int).toNat = rcat (dnew 10) 5 5 := by
    show rcat D 5 5 = _
    unfold rcat rcatL
    congr 3
    apply List.map_congr_left
    intro i _
    rw [h (5 + i) (by omega)]
  rw [if_neg (by rw [hr]; simp), if_neg (by rw [hl.dead]; simp), e, none_there, if_neg (by simp)]
/-- What is asked of a snap's room. -/
theorem rooms_plain (v : Int) (hv : v = 1 ∨ v = 2) (s : Snap) (hs : s.ok) (hd : s.d.size ≤ 300) : ∃ (P : ByteArray) (n : Nat) (D : Dv), aput v s = (P, true) ∧ P.size ≤ 346 ∧ ((P.size : Int) + 63) / 64 = (n : Int) ∧ 1 ≤ n ∧ n ≤ 6 ∧
    awrite (dnew 10) 0 ((n : Int) - 1) v s = (if 1 < n then 4 else 1, dnew 10) ∧ awrite (dnew 10) 0 (n : Int) v s = (0, D) ∧ (dwaiting D).length = n ∧ aroom v n s = true ∧ aroom v ((n : Int) - 1) s = false ∧ (n ≤ 5 → aread D 5 5 = (snone, 0, 2)) := by
  obtain ⟨h1, h2, h3⟩ := aput_ok v hv s (by omega)
  have hz := aput_small v s hd
  have hp : 1 ≤ (aput v s).1.size := by rw [h1]; exact fpack_pos v hv _ (by omega)
  obtain ⟨P, hP⟩ : ∃ P, (aput v s).1 = P := ⟨_, rfl⟩
  have hPP : aput v s = (P, true) := Prod.ext hP h2
  rw [hP] at hz hp
  obtain ⟨n, hn⟩ : ∃ n : Nat, ((P.size : Int) + 63) / 64 = (n : Int) := ⟨(((P.size : Int) + 63) / 64).toNat, by omega⟩
  have hn1 : 1 ≤ n := by omega
  have hn6 : n ≤ 6 := by omega
  have hz64 : P.size ≤ 64 * n := by omega
  have hz63 : 64 * (n - 1) < P.size := by omega
  have n10 : (dnew 10).n = 10 := dnew_n 10
  obtain ⟨D, hD, hL, hw⟩ := wrun_wait P 0 (dnew 10) (dnew_ok 10 (by omega) (by omega)) (live_new 10) n (by rw [n10]; omega)
  refine ⟨P, n, D, hPP, hz, hn, hn1, hn6, ?_, ?_, wait_count D n (by rw [hL.n]; exact n10) hn1 hn6 hw, ?_, ?_, fun h5 => read_none D (by rw [hL.n]; exact n10) hL.live fun j hj => hL.else' j (by omega)⟩
  · unfold awrite
    rw [hPP, n10]
    by_cases q : 1 < n
    · rw [if_neg (by unfold aright; simp; omega), if_pos (by show 64 * ((n : Int) - 1) < (P.size : Int); omega), if_pos q]
    · rw [if_pos (by unfold aright; simp; omega), if_neg q]
  · unfold awrite
    rw [hPP, n10, if_neg (by unfold aright; simp; omega), if_neg (by show ¬ 64 * (n : Int) < (P.size : Int); omega)]
    exact hD
  · unfold aroom
    rw [hPP]
    simp; omega
  · unfold aroom
    rw [hPP]
    simp; omega
end Go.Pin
