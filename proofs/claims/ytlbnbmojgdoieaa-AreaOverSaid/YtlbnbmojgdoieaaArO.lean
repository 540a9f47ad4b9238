/- Plain laws: a snap that is written over, and a crash. -/
import Derived.Test.YtlbnbmojgdoieaaArP
import Derived.Test.YtlbnbmojgdoieaaDevC
namespace Go.Pin
open Go.RowKit
set_option linter.unusedVariables false
set_option linter.unusedSimpArgs false
/-- Device D: the first k pieces of b lie from sector 0 on, over d; j steps are left. -/
structure Over (d D : Dv) (b : ByteArray) (k : Nat) (c : Int) : Prop where
  ok : D.ok
  dead : D.dead = false
  armed : D.armed = c
  n : D.n = d.n
  at' : ∀ i, i < k → D.s i = pad (piece b i)
  old : ∀ i, D.o i = d.o i
  w : ∀ i, i < k → D.w i = true
theorem dstep_pos {D : Dv} {c : Int} (h : D.armed = c) (hc : 0 < c) : dstep D = { D with armed := c - 1 } := by unfold dstep; rw [h, if_pos hc]
/-- Armed for c steps: the first c pieces are written. -/
theorem wrun_armed (b : ByteArray) (d : Dv) (hok : d.ok) (hd : d.dead = false) (c : Nat) (ha : d.armed = (c : Int)) : ∀ k, k ≤ c → k ≤ d.n → ∃ D, wrun b 0 d k = (0, D) ∧ Over d D b k ((c : Int) - k) := by
  intro k
  induction k with
  | zero => exact fun _ _ => ⟨d, rfl, hok, hd, by rw [ha]; omega, rfl, fun i hi => by omega, fun _ => rfl, fun i hi => by omega⟩
  | succ k ih =>
    intro hc hk
    obtain ⟨D, hD, h⟩ := ih (by omega) (by omega)
    have hk' : k < D.n := by rw [h.n]; omega
    have hst : dstep D = { D with armed := (c : Int) - k - 1 } := dstep_pos h.armed (by omega)
    have hsok : (dstep D).ok := dstep_ok h.ok
    have hsn : k < (dstep D).n := by rw [hst]; exact hk'
    have hw : dwrite D ((0 + k : Nat) : Int) (piece b k) = (0, dset k (piece b k) (dstep D)) := by
      have hps := piece_size b k
      unfold dwrite
      have hr : dref D ((0 + k : Nat) : Int) = 0 := by unfold dref; rw [if_neg (by rw [h.dead]; simp), if_neg (by omega)]
      rw [hr, if_neg (by simp), if_neg (by omega)]
      unfold dtry
      rw [if_neg (by rw [h.armed]; omega), show ((0 + k : Nat) : Int).toNat = k by omega]
    refine ⟨dset k (piece b k) (dstep D), ?_, dset_ok hsok hsn (piece_size b k), ?_, ?_, ?_, fun i hi => ?_, fun i => ?_, fun i hi => ?_⟩
    · show (if (wrun b 0 d k).1 ≠ 0 then _ else _) = _
      rw [hD, if_neg (by simp)]
      exact hw
    · rw [hst]; exact h.dead
    · rw [hst]; show (c : Int) - k - 1 = _; omega
    · rw [hst]; exact h.n
    · rw [dset_s hsok hsn]
      by_cases e : i = k
      · rw [if_pos e, e]
      · rw [if_neg e, hst]; exact h.at' i (by omega)
    · rw [hst]; exact h.old i
    · rw [dset_w hsok hsn]
      by_cases e : i = k
      · rw [if_pos e]
      · rw [if_neg e, hst]; exact h.w i (by omega)
/-- .. and then it crashes. -/
theorem wrun_crash (b : ByteArray) (d : Dv) (hok : d.ok) (hd : d.dead = false) (c n : Nat) (ha : d.armed = (c : Int)) (hc : c < n) (hn : n ≤ d.n) : ∃ D, wrun b 0 d n = (7, D) ∧ D.ok ∧ D.n = d.n ∧ ∀ i, D.o i = d.o i := by
  obtain ⟨D, hD, h⟩ := wrun_armed b d hok hd c ha c (Nat.le_refl _) (by omega)
  have hw : dwrite D ((0 + c : Nat) : Int) (piece b c) = (7, { D with dead := true }) := by
    have hps := piece_size b c
    unfold dwrite
    have hr : dref D ((0 + c : Nat) : Int) = 0 := by unfold dref; rw [if_neg (by rw [h.dead]; simp), if_neg (by rw [h.n]; omega)]
    rw [hr, if_neg (by simp), if_neg (by omega)]
    unfold dtry
    rw [if_pos (by rw [h.armed]; omega)]
  have h1 : wrun b 0 d (c + 1) = (7, { D with dead := true }) := by
    show (if (wrun b 0 d c).1 ≠ 0 then _ else _) = _
    rw [hD, if_neg (by simp)]
    exact hw
  refine ⟨{ D with dead := true }, ?_, dead_ok h.ok true, h.n, h.old⟩
  rw [wrun_stuck b 0 d (c + 1) (by rw [h1]; simp) n (by omega), h1]
/-- All six are lost: what was flushed is read. -/
theorem after_lost (D : Dv) (hok : D.ok) (hn : D.n = 6) (j : Nat) (hj : j < 6) : (dafter D [0, 1, 2, 3, 4, 5]).s j = D.o j := by
  rw [dafter_s, dafter_o D _ j (by omega)]
  unfold aft
  cases hw : D.w j with
  | false => rw [if_neg (by simp)]; exact hok.same j hw
  | true => rw [if_pos ⟨rfl, by rcases (show j = 0 ∨ j = 1 ∨ j = 2 ∨ j = 3 ∨ j = 4 ∨ j = 5 by omega) with rfl | rfl | rfl | rfl | rfl | rfl <;> decide⟩]
theorem read_of_pads (D : Dv) (hd : D.dead = false) (hn : D.n = 6) (b : ByteArray) (hb : b.size ≤ 384) (h : ∀ i, i < 6 → D.s i = pad (piece b i)) : aread D 0 6 = (if (aget (b ++ zeros (384 - b.size))).2.2 = true then ((aget (b ++ zeros (384 - b.size))).1, (aget (b ++ zeros (384 - b.size))).2.1, 0) else (snone, 0, 2)) := by
  have hE : (b ++ zeros (64 * 6 - b.size)).data.toList.length = 64 * 6 := by
    show (b ++ zeros (64 * 6 - b.size)).size = _
    rw [ByteArray.size_append, zeros_size]; omega
  have key : ∀ k, k ≤ 6 → rcatL D 0 k = (b ++ zeros (64 * 6 - b.size)).data.toList.take (64 * k) := by
    intro k
    induction k with
    | zero => intro _; simp [rcatL]
    | succ k ih =>
      intro hk
      rw [rcatL_succ, ih (by omega), Nat.zero_add, h k (by omega), pad_piece b k 6 (by omega) (by omega), show 64 * (k + 1) = 64 * k + 64 by omega, List.take_add]
  have e : rcat D 0 6 = b ++ zeros (384 - b.size) := by
    apply ByteArray.ext
    apply Array.ext'
    show rcatL D 0 6 = _
    rw [key 6 (Nat.le_refl _), List.take_of_length_le (by rw [hE]; exact Nat.le_refl _)]
  unfold aread
  have hr : aright D.n 0 6 = true := by rw [hn]; decide
  rw [if_neg (by rw [hr]; simp), if_neg (by rw [hd]; simp)]
  rw [show rcat D (0 : Int).toNat (6 : Int).toNat = rcat D 0 6 from rfl, e]
theorem read_snap (D : Dv) (hd : D.dead = false) (hn : D.n = 6) (v : Int) (hv : v = 1 ∨ v = 2) (s : Snap) (hs : s.ok) (hsz : s.d.size ≤ 300) (h : ∀ i, i < 6 → D.s i = pad (piece (aput v s).1 i)) : aread D 0 6 = (s, v, 0) := by
  have hz := aput_small v s hsz
  rw [read_of_pads D hd hn _ (by omega) h, aget_put v hv s hs (by omega), if_pos rfl]
/-- What is asked of a snap that is written over. -/
theorem over_plain (v : Int) (hv : v = 1 ∨ v = 2) (s t : Snap) (hs : s.ok) (ht : t.ok) (hsz : s.d.size ≤ 300) (htz : t.d.size ≤ 300) (c : Nat) (hc : c ≤ 7) : ∃ (D1 D4 : Dv) (F : Int), awrite (dnew 6) 0 6 v s = (0, D1) ∧ dflush D1 = (0, dsettle D1) ∧
    awrite (darm (dsettle D1) (c : Int)) 0 6 v t = (F, D4) ∧ (6 ≤ c → F = 0 ∧ aread D4 0 6 = (t, v, 0)) ∧ (c < 6 → F = 7 ∧ aread (dafter D4 [0, 1, 2, 3, 4, 5]) 0 6 = (s, v, 0)) := by
  have hz1 := aput_small v s hsz
  have hz2 := aput_small v t htz
  have n6 : (dnew 6).n = 6 := dnew_n 6
  obtain ⟨_, p1, _⟩ := aput_ok v hv s (by omega)
  obtain ⟨_, p2, _⟩ := aput_ok v hv t (by omega)
  obtain ⟨D1, hD1, hL, hw⟩ := wrun_wait (aput v s).1 0 (dnew 6) (dnew_ok 6 (by omega) (by omega)) (live_new 6) 6 (by rw [n6]; omega)
  have n1 : D1.n = 6 := by rw [hL.n]; exact n6
  have ok2 : (dsettle D1).ok := dsettle_ok hL.ok
  have n2 : (dsettle D1).n = 6 := by rw [dsettle_n hL.ok]; exact n1
  have o2 : ∀ i, i < 6 → (dsettle D1).o i = pad (piece (aput v s).1 i) := fun i hi => by
    show D1.s i = _
    have := hL.at' i hi
    rw [Nat.zero_add] at this; exact this
  have ha3 : (darm (dsettle D1) (c : Int)).armed = (c : Int) := by unfold darm; simp
  have ok3 : (darm (dsettle D1) (c : Int)).ok := darm_ok ok2 _ (by omega)
  have n3 : (darm (dsettle D1) (c : Int)).n = 6 := n2
  have d3 : (darm (dsettle D1) (c : Int)).dead = false := hL.live.dead
  have o3 : ∀ i, i < 6 → (darm (dsettle D1) (c : Int)).o i = pad (piece (aput v s).1 i) := o2
  have hw1 : awrite (dnew 6) 0 6 v s = (0, D1) := by
    unfold awrite
    rw [p1, n6, if_neg (by simp [aright]), if_neg (by omega)]
    exact hD1
  have hw2 : awrite (darm (dsettle D1) (c : Int)) 0 6 v t = wrun (aput v t).1 0 (darm (dsettle D1) (c : Int)) 6 := by
    unfold awrite
    rw [p2, n3, if_neg (by simp [aright]), if_neg (by omega)]
    rfl
  have hf : dflush D1 = (0, dsettle D1) := hL.live.flush
  generalize hD3 : darm (dsettle D1) (c : Int) = D3 at *
  by_cases h6 : 6 ≤ c
  · obtain ⟨D4, hD4, hO⟩ := wrun_armed (aput v t).1 D3 ok3 d3 c ha3 6 h6 (by omega)
    exact ⟨D1, D4, 0, hw1, hf, by rw [hD3, hw2]; exact hD4, fun _ => ⟨rfl, read_snap D4 hO.dead (by rw [hO.n]; exact n3) v hv t ht htz hO.at'⟩, fun q => by omega⟩
  · obtain ⟨D4, hD4, hok4, hn4, ho4⟩ := wrun_crash (aput v t).1 D3 ok3 d3 c 6 ha3 (by omega) (by omega)
    refine ⟨D1, D4, 7, hw1, hf, by rw [hD3, hw2]; exact hD4, fun q => by omega, fun _ => ⟨rfl, read_snap _ rfl (by rw [dafter_n, hn4]; exact n3) v hv s hs hsz fun i hi => ?_⟩⟩
    rw [after_lost D4 hok4 (by rw [hn4]; exact n3) i hi, ho4, o3 i hi]
end Go.Pin
