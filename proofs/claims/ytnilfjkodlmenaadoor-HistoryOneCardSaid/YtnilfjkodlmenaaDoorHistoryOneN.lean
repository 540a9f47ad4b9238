/- HistoryOne: the list that it makes, in words. -/
import Derived.Test.YtnilfjkodlmenaaDoorHistoryOneM
import Derived.Test.YtnilfjkodlmenaaDoorHiG
set_option maxRecDepth 16000
namespace Go.Pin
open Go.RowKit
set_option linter.unusedVariables false
set_option linter.unusedSimpArgs false
def oneX (i : Nat) (r : HRaw) : HOp := { rawOp r with start := 10 * (i : Int) + 1, stop := 10 * (i : Int) + 6 }
def oneOp (i : Nat) (B : List ByteArray) (r : HRaw) : HOp := { oneX i r with re := (hdo B (oneX i r)).2.1, rd := (hdo B (oneX i r)).2.2 }
def oneB (B : List ByteArray) (i : Nat) (r : HRaw) : List ByteArray := (hdo B (oneX i r)).1
def oneL : List HRaw → Nat → List ByteArray → List HOp
  | [], _, _ => []
  | r :: l, i, B => oneOp i B r :: oneL l (i + 1) (oneB B i r)
def oneBs : List HRaw → Nat → List ByteArray → List ByteArray
  | [], _, B => B
  | r :: l, i, B => oneBs l (i + 1) (oneB B i r)
theorem oneL_len : ∀ (l : List HRaw) (i : Nat) (B : List ByteArray), (oneL l i B).length = l.length
  | [], _, _ => rfl
  | r :: l, i, B => by show (oneL l _ _).length + 1 = l.length + 1; rw [oneL_len l]
theorem oneL_snoc : ∀ (l : List HRaw) (r : HRaw) (i : Nat) (B : List ByteArray), oneL (l ++ [r]) i B = oneL l i B ++ [oneOp (i + l.length) (oneBs l i B) r] ∧ oneBs (l ++ [r]) i B = oneB (oneBs l i B) (i + l.length) r
  | [], r, i, B => ⟨rfl, rfl⟩
  | x :: l, r, i, B => by
    have := oneL_snoc l r (i + 1) (oneB B i x)
    rw [show i + 1 + l.length = i + (x :: l).length by rw [List.length_cons]; omega] at this
    exact ⟨by show _ :: oneL (l ++ [r]) _ _ = _; rw [this.1]; rfl, this.2⟩
theorem oneBs_blk : ∀ (l : List HRaw) (i : Nat) (B : List ByteArray), HBlk B → HBlk (oneBs l i B)
  | [], _, _, h => h
  | r :: l, i, B, h => oneBs_blk l (i + 1) _ (hdo_blk h _)
theorem one_take {R : List HRaw} {k : Nat} {r : HRaw} (h : R[k]? = some r) : oneL (R.take (k + 1)) 0 [] = oneL (R.take k) 0 [] ++ [oneOp k (oneBs (R.take k) 0 []) r] ∧ oneBs (R.take (k + 1)) 0 [] = oneB (oneBs (R.take k) 0 []) k r := by
  have hk : k < R.length := (List.getElem?_eq_some_iff.1 h).1
  have h1 : R.take (k + 1) = R.take k ++ [r] := by rw [List.take_add_one, h]; rfl
  have := oneL_snoc (R.take k) r 0 []
  rw [List.length_take, Nat.min_eq_left (Nat.le_of_lt hk), Nat.zero_add] at this
  rw [h1]
  exact this
theorem oneL_at : ∀ (l : List HRaw) (i : Nat) (B : List ByteArray) (k : Nat) (r : HRaw), l[k]? = some r → (oneL l i B)[k]? = some (oneOp (i + k) (oneBs (l.take k) i B) r)
  | [], _, _, k, r, h => by simp at h
  | x :: l, i, B, 0, r, h => by
    have : x = r := by simpa using h
    subst this; rfl
  | x :: l, i, B, k + 1, r, h => by
    have := oneL_at l (i + 1) (oneB B i x) k r (by simpa using h)
    rw [show i + 1 + k = i + (k + 1) by omega] at this
    exact this
theorem one_hat {R : List HRaw} {k : Nat} {r : HRaw} (h : R[k]? = some r) : hAt (oneL R 0 []) k = oneOp k (oneBs (R.take k) 0 []) r := by
  have := oneL_at R 0 [] k r h
  rw [Nat.zero_add] at this
  unfold hAt
  rw [List.getD, this]; rfl
theorem one_after (R : List HRaw) : ∀ k, k ≤ R.length → hAfter (oneL R 0 []) k = oneBs (R.take k) 0 []
  | 0, _ => rfl
  | k + 1, hk => by
    obtain ⟨r, hr⟩ : ∃ r, R[k]? = some r := ⟨R[k]'(by omega), List.getElem?_eq_getElem _⟩
    show (hdo (hAfter (oneL R 0 []) k) (hAt (oneL R 0 []) k)).1 = _
    rw [one_after R k (by omega), one_hat hr, (one_take hr).2, hdo_alike _ (oneOp k (oneBs (R.take k) 0 []) r) (oneX k r) rfl]
    rfl
theorem one_told' (R : List HRaw) (k : Nat) (hk : k < R.length) : (hdo (hAfter (oneL R 0 []) k) (hAt (oneL R 0 []) k)).2 = ((hAt (oneL R 0 []) k).re, (hAt (oneL R 0 []) k).rd) := by
  obtain ⟨r, hr⟩ : ∃ r, R[k]? = some r := ⟨R[k]'hk, List.getElem?_eq_getElem _⟩
  rw [one_after R k (by omega), one_hat hr, hdo_alike _ (oneOp k (oneBs (R.take k) 0 []) r) (oneX k r) rfl]
  rfl
theorem one_oneL (R : List HRaw) : OneL (oneL R 0 []) where
  start := fun k hk => by
    rw [oneL_len] at hk
    rw [one_hat (List.getElem?_eq_getElem hk)]; rfl
  stop := fun k hk => by
    rw [oneL_len] at hk
    left
    rw [one_hat (List.getElem?_eq_getElem hk)]; rfl
theorem one_form {R : List HRaw} {k : Nat} (hk : k < R.length) : ∃ r e d, hAt (oneL R 0 []) k = ⟨(rawOp r).e, 10 * (k : Int) + 1, 10 * (k : Int) + 6, e, d⟩ ∧ (0 ≤ e ∧ e ≤ 11) ∧ d.size ≤ 8192 := by
  rw [one_hat (List.getElem?_eq_getElem hk)]
  have h1 := hdo_told (oneBs_blk (R.take k) 0 [] HBlk.nil) (oneX k (R[k]'hk))
  exact ⟨R[k], _, _, rfl, h1.1, h1.2⟩
theorem mem_hat {L : List HOp} {x : HOp} (h : x ∈ L) : ∃ k, k < L.length ∧ hAt L k = x := by
  obtain ⟨k, hk, rfl⟩ := List.mem_iff_getElem.1 h
  refine ⟨k, hk, ?_⟩
  unfold hAt
  rw [List.getD, List.getElem?_eq_getElem hk]; rfl
theorem one_ok (R : List HRaw) (hn : R.length ≤ 10) : ∀ x ∈ oneL R 0 [], x.ok := by
  intro x hx
  obtain ⟨k, hk, rfl⟩ := mem_hat hx
  rw [oneL_len] at hk
  obtain ⟨r, e, d, h, he, hd⟩ := one_form hk
  rw [h]
  exact raw_ok r _ _ e d (by omega) (by omega) (by omega) (by omega)
theorem one_right (R : List HRaw) (hn : R.length ≤ 10) : hRight (oneL R 0 []) = true := by
  unfold hRight
  rw [Bool.and_eq_true]
  refine ⟨decide_eq_true (by rw [oneL_len]; exact hn), ?_⟩
  rw [List.all_eq_true]
  intro x hx
  obtain ⟨k, hk, rfl⟩ := mem_hat hx
  rw [oneL_len] at hk
  obtain ⟨r, e, d, h, _, _⟩ := one_form hk
  rw [h, raw_bad r _ _ e d (.inr (by omega))]
  rfl
theorem one_found (R : List HRaw) (hn : R.length ≤ 10) : hOrder (oneL R 0 []) = some (List.range' 0 R.length) := by
  have := one_order (one_oneL R) (one_right R hn) (fun k hk => by
    rw [oneL_len] at hk
    obtain ⟨r, e, d, h, _, _⟩ := one_form hk
    rw [h]
    show 10 * (k : Int) + 6 ≠ 0
    omega) (fun k hk => one_told' R k (by rw [oneL_len] at hk; exact hk))
  rw [oneL_len] at this
  exact this
/-! ### One answer turned -/
theorem hat_set (L : List HOp) (k j : Nat) (y : HOp) (hk : k < L.length) (hj : j < L.length) : hAt (L.set k y) j = if j = k then y else hAt L j := by
  unfold hAt
  rw [List.getD, List.getElem?_set]
  by_cases h : j = k
  · subst h
    rw [if_pos rfl, if_pos hk, if_pos rfl]; rfl
  · rw [if_neg (fun q => h q.symm), if_neg h]; rfl
theorem after_same (L M : List HOp) (n : Nat) (h : ∀ j, j < n → (hAt M j).e = (hAt L j).e) : ∀ i, i ≤ n → hAfter M i = hAfter L i
  | 0, _ => rfl
  | i + 1, hi => by
    show (hdo (hAfter M i) (hAt M i)).1 = (hdo (hAfter L i) (hAt L i)).1
    rw [after_same L M n h i (by omega), hdo_alike _ _ _ (h i (by omega))]
def turned (L : List HOp) (k : Nat) : List HOp := L.set k { hAt L k with re := (hAt L k).re + 100 }
def opened (L : List HOp) (k : Nat) : List HOp := (turned L k).set k { hAt L k with re := (hAt L k).re + 100, stop := 0 }
theorem turned_len (L : List HOp) (k : Nat) : (turned L k).length = L.length := List.length_set ..
theorem opened_len (L : List HOp) (k : Nat) : (opened L k).length = L.length := by unfold opened; rw [List.length_set, turned_len]
theorem turned_at (L : List HOp) (k j : Nat) (hk : k < L.length) (hj : j < L.length) : hAt (turned L k) j = if j = k then { hAt L k with re := (hAt L k).re + 100 } else hAt L j := hat_set L k j _ hk hj
theorem opened_at (L : List HOp) (k j : Nat) (hk : k < L.length) (hj : j < L.length) : hAt (opened L k) j = if j = k then { hAt L k with re := (hAt L k).re + 100, stop := 0 } else hAt L j := by
  unfold opened
  rw [hat_set _ k j _ (by rw [turned_len]; exact hk) (by rw [turned_len]; exact hj)]
  by_cases h : j = k
  · rw [if_pos h, if_pos h]
  · rw [if_neg h, if_neg h, turned_at L k j hk hj, if_neg h]
theorem turned_none (R : List HRaw) (k : Nat) (hk : k < R.length) : hOrder (turned (oneL R 0 []) k) = none := by
  have hkL : k < (oneL R 0 []).length := by rw [oneL_len]; exact hk
  have hone : OneL (turned (oneL R 0 []) k) := ⟨fun j hj => by
      rw [turned_len] at hj
      rw [turned_at _ k j hkL hj]
      split
      · rename_i h; rw [h]; exact (one_oneL R).start k hkL
      · exact (one_oneL R).start j hj, fun j hj => by
      rw [turned_len] at hj
      rw [turned_at _ k j hkL hj, turned_len]
      split
      · rename_i h; rw [h]; exact (one_oneL R).stop k hkL
      · exact (one_oneL R).stop j hj⟩
  refine one_turned hone (k := k) (by rw [turned_len]; exact hkL) ?_ ?_
  · rw [turned_at _ k k hkL hkL, if_pos rfl]
    obtain ⟨r, e, d, h, _, _⟩ := one_form hk
    show (hAt (oneL R 0 []) k).stop ≠ 0
    rw [h]
    show 10 * (k : Int) + 6 ≠ 0
    omega
  · have he : ∀ j, j < (oneL R 0 []).length → (hAt (turned (oneL R 0 []) k) j).e = (hAt (oneL R 0 []) j).e := fun j hj => by
      rw [turned_at _ k j hkL hj]
      split
      · rename_i h; rw [h]
      · rfl
    rw [after_same _ _ _ he k (by omega), hdo_alike _ _ _ (he k hkL), one_told' R k hk, turned_at _ k k hkL hkL, if_pos rfl]
    intro h
    injection h with h _
    have h' : (hAt (oneL R 0 []) k).re = (hAt (oneL R 0 []) k).re + 100 := h
    omega
theorem opened_some (R : List HRaw) (hn : R.length ≤ 10) (k : Nat) (hk : k + 1 = R.length) : (hOrder (opened (oneL R 0 []) k)).isSome = true := by
  have hkL : k < (oneL R 0 []).length := by rw [oneL_len]; omega
  have hone : OneL (opened (oneL R 0 []) k) := ⟨fun j hj => by
      rw [opened_len] at hj
      rw [opened_at _ k j hkL hj]
      split
      · rename_i h; rw [h]; exact (one_oneL R).start k hkL
      · exact (one_oneL R).start j hj, fun j hj => by
      rw [opened_len] at hj
      rw [opened_at _ k j hkL hj, opened_len]
      split
      · rename_i h; rw [h]; exact .inr ⟨by rw [oneL_len]; exact hk, rfl⟩
      · exact (one_oneL R).stop j hj⟩
  refine one_open hone ?_ (n := k) (by rw [opened_len, oneL_len]; exact hk.symm) (by rw [opened_at _ k k hkL hkL, if_pos rfl]) (fun j hj => ?_)
  · unfold hRight
    rw [Bool.and_eq_true]
    refine ⟨decide_eq_true (by rw [opened_len, oneL_len]; exact hn), ?_⟩
    rw [List.all_eq_true]
    intro x hx
    obtain ⟨j, hj, rfl⟩ := mem_hat hx
    rw [opened_len] at hj
    rw [opened_at _ k j hkL hj]
    split
    · obtain ⟨r, e, d, h, _, _⟩ := one_form (R := R) (k := k) (by omega)
      rw [h]
      show (!hBad ⟨(rawOp r).e, 10 * (k : Int) + 1, 0, e + 100, d⟩) = true
      rw [raw_bad r _ _ _ d (.inl rfl)]
      rfl
    · rw [oneL_len] at hj
      obtain ⟨r, e, d, h, _, _⟩ := one_form hj
      rw [h, raw_bad r _ _ e d (.inr (by omega))]
      rfl
  · have he : ∀ i, i < (oneL R 0 []).length → (hAt (opened (oneL R 0 []) k) i).e = (hAt (oneL R 0 []) i).e := fun i hi => by
      rw [opened_at _ k i hkL hi]
      split
      · rename_i h; rw [h]
      · rfl
    have hjL : j < (oneL R 0 []).length := by omega
    rw [after_same _ _ _ he j (by omega), hdo_alike _ _ _ (he j hjL), one_told' R j (by omega), opened_at _ k j hkL hjL, if_neg (by omega)]
theorem turned_ok (R : List HRaw) (hn : R.length ≤ 10) (k : Nat) (hk : k < R.length) : (∀ x ∈ turned (oneL R 0 []) k, x.ok) ∧ ∀ x ∈ opened (oneL R 0 []) k, x.ok := by
  have hkL : k < (oneL R 0 []).length := by rw [oneL_len]; exact hk
  refine ⟨fun x hx => ?_, fun x hx => ?_⟩
  · obtain ⟨j, hj, rfl⟩ := mem_hat hx
    rw [turned_len] at hj
    rw [turned_at _ k j hkL hj]
    split
    · obtain ⟨r, e, d, h, he, hd⟩ := one_form hk
      rw [h]
      exact raw_ok r (10 * (k : Int) + 1) (10 * (k : Int) + 6) (e + 100) d (by omega) (by omega) (by omega) (by omega)
    · exact one_ok R hn _ (hAt_mem _ j hj)
  · obtain ⟨j, hj, rfl⟩ := mem_hat hx
    rw [opened_len] at hj
    rw [opened_at _ k j hkL hj]
    split
    · obtain ⟨r, e, d, h, he, hd⟩ := one_form hk
      rw [h]
      exact raw_ok r (10 * (k : Int) + 1) 0 (e + 100) d (by omega) (by omega) (by omega) (by omega)
    · exact one_ok R hn _ (hAt_mem _ j hj)
end Go.Pin
