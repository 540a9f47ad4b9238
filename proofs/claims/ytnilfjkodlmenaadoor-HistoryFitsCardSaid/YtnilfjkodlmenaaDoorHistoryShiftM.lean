/- HistoryShift: its plain law. -/
import Derived.Test.YtnilfjkodlmenaaDoorHiG
set_option maxRecDepth 16000
namespace Go.Pin
open Go.RowKit
set_option linter.unusedVariables false
set_option linter.unusedSimpArgs false
/-- The same, later. -/
def hShift (b : Int) (o : HOp) : HOp := { o with start := o.start + b, stop := if 0 < o.stop then o.stop + b else o.stop }
theorem hAt_get {L : List HOp} {k : Nat} {x : HOp} (h : L[k]? = some x) : hAt L k = x := by unfold hAt; rw [List.getD, h]; rfl
theorem hAt_map (b : Int) (L : List HOp) (k : Nat) (hk : k < L.length) : hAt (L.map (hShift b)) k = hShift b (hAt L k) := by
  rw [hAt_get (L := L) (List.getElem?_eq_getElem hk)]
  exact hAt_get (by rw [List.getElem?_map, List.getElem?_eq_getElem hk]; rfl)
theorem hAt_rev (L : List HOp) (k : Nat) (hk : k < L.length) : hAt L.reverse (L.length - 1 - k) = hAt L k := by
  rw [hAt_get (L := L) (List.getElem?_eq_getElem hk)]
  refine hAt_get ?_
  rw [List.getElem?_reverse (by omega), show L.length - 1 - (L.length - 1 - k) = k by omega, List.getElem?_eq_getElem hk]
theorem stop_zero (b : Int) (hb : 0 ≤ b) (s : Int) (hs : 0 ≤ s) : ((if 0 < s then s + b else s) = 0 ↔ s = 0) := by
  split <;> omega
theorem shift_alike (b : Int) (hb : 0 ≤ b) (L : List HOp) (hs : ∀ k, k < L.length → 0 ≤ (hAt L k).stop) : HAlike L (L.map (hShift b)) id where
  len := List.length_map ..
  into := fun k hk => hk
  inj := fun j k _ _ h => h
  onto := fun j hj => ⟨j, hj, rfl⟩
  e := fun k hk => by
    show (hAt (L.map (hShift b)) k).e = _ ∧ (hAt (L.map (hShift b)) k).re = _ ∧ (hAt (L.map (hShift b)) k).rd = _
    rw [hAt_map b L k hk]
    exact ⟨rfl, rfl, rfl⟩
  over := fun k hk => by
    show (hAt (L.map (hShift b)) k).stop = 0 ↔ _
    rw [hAt_map b L k hk]
    exact stop_zero b hb _ (hs k hk)
  lt := fun j k hj hk hz => by
    show (hAt (L.map (hShift b)) j).start < (hAt (L.map (hShift b)) k).stop ↔ _
    rw [hAt_map b L k hk, hAt_map b L j hj]
    show (hAt L j).start + b < (if 0 < (hAt L k).stop then (hAt L k).stop + b else (hAt L k).stop) ↔ _
    rw [if_pos (by have := hs k hk; omega)]
    omega
theorem shift_alike' (b : Int) (hb : 0 ≤ b) (L : List HOp) (hs : ∀ k, k < L.length → 0 ≤ (hAt L k).stop) : HAlike (L.map (hShift b)) L id where
  len := (List.length_map ..).symm
  into := fun k hk => hk
  inj := fun j k _ _ h => h
  onto := fun j hj => ⟨j, hj, rfl⟩
  e := fun k hk => by
    rw [List.length_map] at hk
    rw [hAt_map b L k hk]
    exact ⟨rfl, rfl, rfl⟩
  over := fun k hk => by
    rw [List.length_map] at hk
    rw [hAt_map b L k hk]
    exact (stop_zero b hb _ (hs k hk)).symm
  lt := fun j k hj hk hz => by
    rw [List.length_map] at hk hj
    rw [hAt_map b L k hk] at hz ⊢
    rw [hAt_map b L j hj]
    have hz' : (hAt L k).stop ≠ 0 := fun q => hz ((stop_zero b hb _ (hs k hk)).2 q)
    show (hAt L j).start < (hAt L k).stop ↔ (hAt L j).start + b < (if 0 < (hAt L k).stop then (hAt L k).stop + b else (hAt L k).stop)
    rw [if_pos (by have := hs k hk; omega)]
    omega
theorem shift_order (b : Int) (hb : 0 ≤ b) (L : List HOp) (hs : ∀ k, k < L.length → 0 ≤ (hAt L k).stop) (h1 : hRight L = true) (h2 : hRight (L.map (hShift b)) = true) : hOrder (L.map (hShift b)) = hOrder L := by
  unfold hOrder
  rw [if_pos h1, if_pos h2, List.length_map]
  exact hs_alike (shift_alike b hb L hs) (shift_alike' b hb L hs) _ _ _
theorem rev_alike (L : List HOp) : HAlike L L.reverse (fun k => L.length - 1 - k) where
  len := List.length_reverse ..
  into := fun k hk => by show L.length - 1 - k < L.length; omega
  inj := fun j k hj hk h => by have h' : L.length - 1 - j = L.length - 1 - k := h; omega
  onto := fun j hj => ⟨L.length - 1 - j, by omega, by show _; omega⟩
  e := fun k hk => by rw [hAt_rev L k hk]; exact ⟨rfl, rfl, rfl⟩
  over := fun k hk => by rw [hAt_rev L k hk]
  lt := fun j k hj hk _ => by rw [hAt_rev L k hk, hAt_rev L j hj]
theorem rev_right (L : List HOp) (h : hRight L = true) : hRight L.reverse = true := by
  unfold hRight at *
  rw [List.length_reverse, List.all_reverse]
  exact h
theorem rev_fits (L : List HOp) (h : ∃ r, hFits L 0 [] r) : ∃ r, hFits L.reverse 0 [] r := by
  obtain ⟨r, hr⟩ := h
  exact ⟨_, hfits_alike (rev_alike L) r 0 0 [] (fun k hk => by rw [Nat.zero_testBit, Nat.zero_testBit]) hr⟩
theorem rev_legal (L : List HOp) (h : hRight L = true) : (hOrder L.reverse).isSome = (hOrder L).isSome := by
  rw [Bool.eq_iff_iff, hOrder_iff L h, hOrder_iff L.reverse (rev_right L h)]
  exact ⟨fun q => by have := rev_fits L.reverse q; rw [List.reverse_reverse] at this; exact this, rev_fits L⟩
/-- Of a story. -/
theorem story_stop (l : List HRaw) (hl : ∀ r ∈ l, r.ok) : ∀ k, k < (hStory l []).length → 0 ≤ (hAt (hStory l []) k).stop := by
  intro k hk
  obtain ⟨r, e, d, h, _, _⟩ := story_mem l hl [] HBlk.nil _ (hAt_mem _ k hk)
  rw [h]
  exact (rstop_bounds r).1
theorem story_small (l : List HRaw) (hl : ∀ r ∈ l, r.ok) : ∀ x ∈ hStory l [], 0 ≤ x.start ∧ x.start ≤ 1000 ∧ 0 ≤ x.stop ∧ x.stop ≤ 1000 := by
  intro x hx
  obtain ⟨r, e, d, rfl, _, _⟩ := story_mem l hl [] HBlk.nil x hx
  have := rstop_bounds r
  show 0 ≤ r.start % 12 ∧ r.start % 12 ≤ 1000 ∧ 0 ≤ rstop r ∧ rstop r ≤ 1000
  omega
theorem story_shift_ok (l : List HRaw) (hl : ∀ r ∈ l, r.ok) (b : Int) (hb : 0 ≤ b ∧ b ≤ 255) : ∀ x ∈ (hStory l []).map (hShift b), x.ok := by
  intro x hx
  obtain ⟨y, hy, rfl⟩ := List.mem_map.1 hx
  obtain ⟨r, e, d, rfl, he, hd⟩ := story_mem l hl [] HBlk.nil y hy
  have := rstop_bounds r
  exact raw_ok r (r.start % 12 + b) (if 0 < rstop r then rstop r + b else rstop r) e d (by omega) (by split <;> omega) he hd
theorem story_shift_right (l : List HRaw) (hl : ∀ r ∈ l, r.ok) (hn : l.length ≤ 10) (b : Int) (hb : 0 ≤ b ∧ b ≤ 255) : hRight ((hStory l []).map (hShift b)) = true := by
  unfold hRight
  rw [Bool.and_eq_true]
  refine ⟨decide_eq_true (by rw [List.length_map, story_len]; exact hn), ?_⟩
  rw [List.all_eq_true]
  intro x hx
  obtain ⟨y, hy, rfl⟩ := List.mem_map.1 hx
  obtain ⟨r, e, d, rfl, _, _⟩ := story_mem l hl [] HBlk.nil y hy
  have h0 := (rstop_bounds r).1
  show (!hBad ⟨(rawOp r).e, r.start % 12 + b, if 0 < rstop r then rstop r + b else rstop r, e, d⟩) = true
  rw [raw_bad r _ _ e d (by
    by_cases h : rstop r = 0
    · left; rw [if_neg (by omega)]; exact h
    · right
      rw [if_pos (by omega)]
      have := rstop_after r h
      omega)]
  rfl
end Go.Pin
