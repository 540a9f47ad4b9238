/- HistoryOver, HistoryLost: their plain laws. -/
import Derived.Test.YtnilfjkodlmenaaDoorHiX
set_option maxRecDepth 16000
namespace Go.Pin
open Go.RowKit
set_option linter.unusedVariables false
set_option linter.unusedSimpArgs false
theorem do_R (a b : Int) : hdo [] (opR a b) = ([hWhole bz], 0, bz) := by
  unfold hdo
  rw [if_neg (by show ¬ (hKnown 3 = false ∨ 64 < 0 ∨ 64 < 0); decide), if_neg, if_neg (by show ¬ (3 : Int) = 100; decide), if_neg (by show ¬ (3 : Int) = 2; decide), if_pos (by rfl)]
  · rfl
  · rintro (q | q | q)
    · obtain ⟨q, _⟩ := q
      revert q
      show ¬ ((3 : Int) = 1 ∨ (3 : Int) = 11)
      decide
    · obtain ⟨q, _⟩ := q
      revert q
      show ¬ ((3 : Int) = 2 ∨ (3 : Int) = 100)
      decide
    · obtain ⟨_, q⟩ := q
      revert q
      show ¬ ((128 : Int) < 1)
      decide
theorem do_W (y s : ByteArray) (hs : s.size ≤ 64) (a b : Int) : hdo [y] (opW s a b) = ([hWhole s], 0, bz) := by
  unfold hdo
  rw [if_neg, if_neg, if_neg (by show ¬ (1 : Int) = 100; decide), if_neg (by show ¬ (1 : Int) = 2; decide), if_neg (by show ¬ (1 : Int) = 3; decide), if_neg (by rintro ⟨q, _⟩; revert q; show ¬ (1 : Int) = 11; decide)]
  · rfl
  · rintro (q | q | q)
    · revert q; show ¬ (_ ∧ hBounds 1 (opW s a b).e 1 = false)
      rintro ⟨_, q⟩
      revert q
      show ¬ (decide ((0 : Int) ≤ ((1 : Nat) : Int)) && decide ((1 : Int) ≤ ((1 : Nat) : Int) - 0)) = false
      decide
    · obtain ⟨q, _⟩ := q
      revert q
      show ¬ ((1 : Int) = 2 ∨ (1 : Int) = 100)
      decide
    · obtain ⟨q, _⟩ := q
      revert q
      show ¬ ((1 : Int) = 3)
      decide
  · rintro (q | q | q)
    · revert q; show ¬ hKnown 1 = false; decide
    · have : 64 < s.size := q
      omega
    · revert q; show ¬ 64 < 0; decide
theorem do_G (y t : ByteArray) (a b : Int) : hdo [y] (opG t a b) = ([y], 0, y) := by
  unfold hdo
  rw [if_neg, if_neg, if_pos (by rfl)]
  · show ([y], (0 : Int), y ++ bz) = _
    have : y ++ bz = y := by
      apply ByteArray.ext
      rw [ByteArray.data_append]
      simp
    rw [this]
  · rintro (q | q | q)
    · obtain ⟨q, _⟩ := q
      revert q
      show ¬ ((100 : Int) = 1 ∨ (100 : Int) = 11)
      decide
    · revert q; show ¬ (_ ∧ hBounds 1 (opG t a b).e 1 = false)
      rintro ⟨_, q⟩
      revert q
      show ¬ (decide ((0 : Int) ≤ ((1 : Nat) : Int)) && decide ((1 : Int) ≤ ((1 : Nat) : Int) - 0)) = false
      decide
    · obtain ⟨q, _⟩ := q
      revert q
      show ¬ ((100 : Int) = 3)
      decide
  · rintro (q | q | q)
    · revert q; show ¬ hKnown 100 = false; decide
    · revert q; show ¬ 64 < 0; decide
    · revert q; show ¬ 64 < 0; decide
/-- One arm, as a Boolean. -/
def hAi (L : List HOp) (f d : Nat) (B : List ByteArray) (k : Nat) : Bool := hMay L d k && hTold B (hAt L k) && (hs L f (d ||| 1 <<< k) (hdo B (hAt L k)).1).isSome
theorem arm_some (L : List HOp) (f d : Nat) (B : List ByteArray) (k : Nat) : (hArm L f d B k).isSome = hAi L f d B k := by
  unfold hArm hAi
  cases hMay L d k <;> cases hTold B (hAt L k) <;> simp
theorem find_some {α β : Type} (f : α → Option β) : ∀ l : List α, (l.findSome? f).isSome = l.any fun x => (f x).isSome
  | [] => rfl
  | x :: l => by
    rw [List.findSome?_cons, List.any_cons, ← find_some f l]
    cases f x <;> rfl
theorem any_congr' {α : Type} {f g : α → Bool} : ∀ (l : List α), (∀ x ∈ l, f x = g x) → l.any f = l.any g
  | [], _ => rfl
  | x :: l, h => by rw [List.any_cons, List.any_cons, h x (List.mem_cons_self ..), any_congr' l fun y hy => h y (List.mem_cons_of_mem _ hy)]
theorem is_succ {L : List HOp} {f d : Nat} {B : List ByteArray} (ho : hOver L d = false) : (hs L (f + 1) d B).isSome = (List.range L.length).any (hAi L f d B) := by
  rw [hs_succ L f d B ho, find_some]
  exact any_congr' _ fun k _ => arm_some L f d B k
theorem is_over {L : List HOp} {f d : Nat} {B : List ByteArray} (ho : hOver L d = true) : (hs L f d B).isSome = true := by
  rw [hs_eq, if_pos ho]; rfl
theorem ai_not {L : List HOp} {f d : Nat} {B : List ByteArray} {k : Nat} (h : hMay L d k = false) : hAi L f d B k = false := by unfold hAi; rw [h]; rfl
theorem ai_on {L : List HOp} {f d : Nat} {B C : List ByteArray} {k : Nat} {x : HOp} {s : ByteArray} (h : hMay L d k = true) (hx : hAt L k = x) (hd : hdo B x = (C, 0, s)) (hre : x.re = 0) :
    hAi L f d B k = ((decide (x.stop = 0) || decide (s = x.rd)) && (hs L f (d ||| 1 <<< k) C).isSome) := by
  unfold hAi hTold
  rw [h, hx, hd, hre, Bool.true_and]
  congr 2
  rw [decide_eq_decide]
  simp
theorem told_bz {x : HOp} (h : x.rd = bz) : (decide (x.stop = 0) || decide (bz = x.rd)) = true := by rw [h, decide_eq_true rfl, Bool.or_true]
theorem any4 (g : Nat → Bool) : (List.range 4).any g = (g 0 || (g 1 || (g 2 || g 3))) := by
  show (g 0 || (g 1 || (g 2 || (g 3 || false)))) = _
  rw [Bool.or_false]
theorem any3 (g : Nat → Bool) : (List.range 3).any g = (g 0 || (g 1 || g 2)) := by
  show (g 0 || (g 1 || (g 2 || false))) = _
  rw [Bool.or_false]
/-! ### Two at one time, read behind both -/
section
variable (s t g : ByteArray) (hs' : s.size ≤ 64) (ht : t.size ≤ 64)
def lateL : List HOp := [opR 1 2, opW s 3 9, opW t 4 8, opG g 10 11]
def whileL : List HOp := [opR 1 2, opW s 3 9, opW t 4 8, opG g 5 6]
include hs' ht
theorem late_some : (hs (lateL s t g) 4 0 []).isSome = decide (g = hWhole s ∨ g = hWhole t) := by
  have e : (lateL s t g).length = 4 := rfl
  have e15 : ∀ f B, (hs (lateL s t g) f 15 B).isSome = true := fun f B => is_over (by kernel_rfl)
  have e7 : ∀ y, (hs (lateL s t g) 1 7 [y]).isSome = decide (y = g) := fun y => by
    rw [is_succ (by kernel_rfl), e, any4, ai_not (by kernel_rfl), ai_not (by kernel_rfl), ai_not (by kernel_rfl), ai_on (k := 3) (x := opG g 10 11) (by kernel_rfl) rfl (do_G y g 10 11) rfl, is_over (by kernel_rfl)]
    simp
  have e3 : ∀ y, (hs (lateL s t g) 2 3 [y]).isSome = decide (hWhole t = g) := fun y => by
    rw [is_succ (by kernel_rfl), e, any4, ai_not (by kernel_rfl), ai_not (by kernel_rfl), ai_on (k := 2) (x := opW t 4 8) (by kernel_rfl) rfl (do_W y t ht 4 8) rfl, ai_not (by kernel_rfl), told_bz rfl]
    show (false || (false || (true && (hs (lateL s t g) 1 7 [hWhole t]).isSome || false))) = _
    rw [e7]
    simp
  have e5 : ∀ y, (hs (lateL s t g) 2 5 [y]).isSome = decide (hWhole s = g) := fun y => by
    rw [is_succ (by kernel_rfl), e, any4, ai_not (by kernel_rfl), ai_on (k := 1) (x := opW s 3 9) (by kernel_rfl) rfl (do_W y s hs' 3 9) rfl, ai_not (by kernel_rfl), ai_not (by kernel_rfl), told_bz rfl]
    show (false || (true && (hs (lateL s t g) 1 7 [hWhole s]).isSome || (false || false))) = _
    rw [e7]
    simp
  have e1 : ∀ y, (hs (lateL s t g) 3 1 [y]).isSome = decide (g = hWhole s ∨ g = hWhole t) := fun y => by
    rw [is_succ (by kernel_rfl), e, any4, ai_not (by kernel_rfl), ai_on (k := 1) (x := opW s 3 9) (by kernel_rfl) rfl (do_W y s hs' 3 9) rfl, ai_on (k := 2) (x := opW t 4 8) (by kernel_rfl) rfl (do_W y t ht 4 8) rfl, ai_not (by kernel_rfl), told_bz rfl, told_bz rfl]
    show (false || (true && (hs (lateL s t g) 2 3 [hWhole s]).isSome || (true && (hs (lateL s t g) 2 5 [hWhole t]).isSome || false))) = _
    rw [e3, e5]
    by_cases h1 : g = hWhole s
    · simp [h1]
    · by_cases h2 : g = hWhole t
      · simp [h2]
      · simp [h1, h2, Ne.symm h1, Ne.symm h2]
  rw [is_succ (by kernel_rfl), e, any4, ai_on (k := 0) (x := opR 1 2) (by kernel_rfl) rfl (do_R 1 2) rfl, ai_not (by kernel_rfl), ai_not (by kernel_rfl), ai_not (by kernel_rfl), told_bz rfl]
  show (true && (hs (lateL s t g) 3 1 [hWhole bz]).isSome || (false || (false || false))) = _
  rw [e1]
  simp
theorem while_some : (hs (whileL s t g) 4 0 []).isSome = decide (g = hWhole s ∨ g = hWhole t ∨ g = hWhole bz) := by
  have e : (whileL s t g).length = 4 := rfl
  have e15 : ∀ f B, (hs (whileL s t g) f 15 B).isSome = true := fun f B => is_over (by kernel_rfl)
  have e7 : ∀ y, (hs (whileL s t g) 1 7 [y]).isSome = decide (y = g) := fun y => by
    rw [is_succ (by kernel_rfl), e, any4, ai_not (by kernel_rfl), ai_not (by kernel_rfl), ai_not (by kernel_rfl), ai_on (k := 3) (x := opG g 5 6) (by kernel_rfl) rfl (do_G y g 5 6) rfl, is_over (by kernel_rfl)]
    simp
  have e11 : ∀ y, (hs (whileL s t g) 1 11 [y]).isSome = true := fun y => by
    rw [is_succ (by kernel_rfl), e, any4, ai_not (by kernel_rfl), ai_not (by kernel_rfl), ai_on (k := 2) (x := opW t 4 8) (by kernel_rfl) rfl (do_W y t ht 4 8) rfl, ai_not (by kernel_rfl), told_bz rfl, is_over (by kernel_rfl)]
    rfl
  have e13 : ∀ y, (hs (whileL s t g) 1 13 [y]).isSome = true := fun y => by
    rw [is_succ (by kernel_rfl), e, any4, ai_not (by kernel_rfl), ai_on (k := 1) (x := opW s 3 9) (by kernel_rfl) rfl (do_W y s hs' 3 9) rfl, ai_not (by kernel_rfl), ai_not (by kernel_rfl), told_bz rfl, is_over (by kernel_rfl)]
    rfl
  have e9 : ∀ y, (hs (whileL s t g) 2 9 [y]).isSome = true := fun y => by
    rw [is_succ (by kernel_rfl), e, any4, ai_not (by kernel_rfl), ai_on (k := 1) (x := opW s 3 9) (by kernel_rfl) rfl (do_W y s hs' 3 9) rfl, ai_on (k := 2) (x := opW t 4 8) (by kernel_rfl) rfl (do_W y t ht 4 8) rfl, ai_not (by kernel_rfl), told_bz rfl, told_bz rfl]
    show (false || (true && (hs (whileL s t g) 1 11 [hWhole s]).isSome || (true && (hs (whileL s t g) 1 13 [hWhole t]).isSome || false))) = _
    rw [e11, e13]
    rfl
  have e3 : ∀ y, (hs (whileL s t g) 2 3 [y]).isSome = decide (hWhole t = g ∨ y = g) := fun y => by
    rw [is_succ (by kernel_rfl), e, any4, ai_not (by kernel_rfl), ai_not (by kernel_rfl), ai_on (k := 2) (x := opW t 4 8) (by kernel_rfl) rfl (do_W y t ht 4 8) rfl, ai_on (k := 3) (x := opG g 5 6) (by kernel_rfl) rfl (do_G y g 5 6) rfl, told_bz rfl]
    show (false || (false || (true && (hs (whileL s t g) 1 7 [hWhole t]).isSome || ((false || decide (y = g)) && (hs (whileL s t g) 1 11 [y]).isSome)))) = _
    rw [e7, e11]
    simp
  have e5 : ∀ y, (hs (whileL s t g) 2 5 [y]).isSome = decide (hWhole s = g ∨ y = g) := fun y => by
    rw [is_succ (by kernel_rfl), e, any4, ai_not (by kernel_rfl), ai_on (k := 1) (x := opW s 3 9) (by kernel_rfl) rfl (do_W y s hs' 3 9) rfl, ai_not (by kernel_rfl), ai_on (k := 3) (x := opG g 5 6) (by kernel_rfl) rfl (do_G y g 5 6) rfl, told_bz rfl]
    show (false || (true && (hs (whileL s t g) 1 7 [hWhole s]).isSome || (false || ((false || decide (y = g)) && (hs (whileL s t g) 1 13 [y]).isSome)))) = _
    rw [e7, e13]
    simp
  have e1 : ∀ y, (hs (whileL s t g) 3 1 [y]).isSome = decide (g = hWhole s ∨ g = hWhole t ∨ g = y) := fun y => by
    rw [is_succ (by kernel_rfl), e, any4, ai_not (by kernel_rfl), ai_on (k := 1) (x := opW s 3 9) (by kernel_rfl) rfl (do_W y s hs' 3 9) rfl, ai_on (k := 2) (x := opW t 4 8) (by kernel_rfl) rfl (do_W y t ht 4 8) rfl, ai_on (k := 3) (x := opG g 5 6) (by kernel_rfl) rfl (do_G y g 5 6) rfl, told_bz rfl, told_bz rfl]
    show (false || (true && (hs (whileL s t g) 2 3 [hWhole s]).isSome || (true && (hs (whileL s t g) 2 5 [hWhole t]).isSome || ((false || decide (y = g)) && (hs (whileL s t g) 2 9 [y]).isSome)))) = _
    rw [e3, e5, e9]
    by_cases h1 : g = hWhole s
    · simp [h1]
    · by_cases h2 : g = hWhole t
      · simp [h2]
      · by_cases h3 : g = y
        · simp [h3]
        · simp [h1, h2, h3, Ne.symm h1, Ne.symm h2, Ne.symm h3]
  rw [is_succ (by kernel_rfl), e, any4, ai_on (k := 0) (x := opR 1 2) (by kernel_rfl) rfl (do_R 1 2) rfl, ai_not (by kernel_rfl), ai_not (by kernel_rfl), ai_not (by kernel_rfl), told_bz rfl]
  show (true && (hs (whileL s t g) 3 1 [hWhole bz]).isSome || (false || (false || false))) = _
  rw [e1]
  simp
end
/-! ### What was never answered -/
section
variable (s g : ByteArray) (hs' : s.size ≤ 64)
def firstL (z : Int) : List HOp := [opR 1 2, opW s 3 z, opG g 10 11]
def backL (z : Int) : List HOp := [opR 1 2, opW s 3 z, opG g 10 11, opG (hWhole bz) 12 13]
include hs'
theorem first_some : (hs (firstL s g 4) 3 0 []).isSome = decide (g = hWhole s) := by
  have e : (firstL s g 4).length = 3 := rfl
  have e3 : ∀ y, (hs (firstL s g 4) 1 3 [y]).isSome = decide (y = g) := fun y => by
    rw [is_succ (by kernel_rfl), e, any3, ai_not (by kernel_rfl), ai_not (by kernel_rfl), ai_on (k := 2) (x := opG g 10 11) (by kernel_rfl) rfl (do_G y g 10 11) rfl, is_over (by kernel_rfl)]
    simp
  have e1 : ∀ y, (hs (firstL s g 4) 2 1 [y]).isSome = decide (hWhole s = g) := fun y => by
    rw [is_succ (by kernel_rfl), e, any3, ai_not (by kernel_rfl), ai_on (k := 1) (x := opW s 3 4) (by kernel_rfl) rfl (do_W y s hs' 3 4) rfl, ai_not (by kernel_rfl), told_bz rfl]
    show (false || (true && (hs (firstL s g 4) 1 3 [hWhole s]).isSome || false)) = _
    rw [e3]
    simp
  rw [is_succ (by kernel_rfl), e, any3, ai_on (k := 0) (x := opR 1 2) (by kernel_rfl) rfl (do_R 1 2) rfl, ai_not (by kernel_rfl), ai_not (by kernel_rfl), told_bz rfl]
  show (true && (hs (firstL s g 4) 2 1 [hWhole bz]).isSome || (false || false)) = _
  rw [e1]
  simp [eq_comm]
theorem first_open : (hs (firstL s g 0) 3 0 []).isSome = decide (g = hWhole s ∨ g = hWhole bz) := by
  have e : (firstL s g 0).length = 3 := rfl
  have e3 : ∀ y, (hs (firstL s g 0) 1 3 [y]).isSome = decide (y = g) := fun y => by
    rw [is_succ (by kernel_rfl), e, any3, ai_not (by kernel_rfl), ai_not (by kernel_rfl), ai_on (k := 2) (x := opG g 10 11) (by kernel_rfl) rfl (do_G y g 10 11) rfl, is_over (by kernel_rfl)]
    simp
  have e5 : ∀ B, (hs (firstL s g 0) 1 5 B).isSome = true := fun B => is_over (by kernel_rfl)
  have e1 : ∀ y, (hs (firstL s g 0) 2 1 [y]).isSome = decide (g = hWhole s ∨ g = y) := fun y => by
    rw [is_succ (by kernel_rfl), e, any3, ai_not (by kernel_rfl), ai_on (k := 1) (x := opW s 3 0) (by kernel_rfl) rfl (do_W y s hs' 3 0) rfl, ai_on (k := 2) (x := opG g 10 11) (by kernel_rfl) rfl (do_G y g 10 11) rfl, told_bz rfl]
    show (false || (true && (hs (firstL s g 0) 1 3 [hWhole s]).isSome || ((false || decide (y = g)) && (hs (firstL s g 0) 1 5 [y]).isSome))) = _
    rw [e3, e5]
    by_cases h1 : g = hWhole s
    · simp [h1]
    · by_cases h3 : g = y
      · simp [h3]
      · simp [h1, h3, Ne.symm h1, Ne.symm h3]
  rw [is_succ (by kernel_rfl), e, any3, ai_on (k := 0) (x := opR 1 2) (by kernel_rfl) rfl (do_R 1 2) rfl, ai_not (by kernel_rfl), ai_not (by kernel_rfl), told_bz rfl]
  show (true && (hs (firstL s g 0) 2 1 [hWhole bz]).isSome || (false || false)) = _
  rw [e1]
  simp
theorem back_some : (hs (backL s g 4) 4 0 []).isSome = decide (g = hWhole s ∧ hWhole s = hWhole bz) := by
  have e : (backL s g 4).length = 4 := rfl
  have e7 : ∀ y, (hs (backL s g 4) 1 7 [y]).isSome = decide (y = hWhole bz) := fun y => by
    rw [is_succ (by kernel_rfl), e, any4, ai_not (by kernel_rfl), ai_not (by kernel_rfl), ai_not (by kernel_rfl), ai_on (k := 3) (x := opG (hWhole bz) 12 13) (by kernel_rfl) rfl (do_G y (hWhole bz) 12 13) rfl, is_over (by kernel_rfl)]
    simp
  have e3 : ∀ y, (hs (backL s g 4) 2 3 [y]).isSome = decide (y = g ∧ y = hWhole bz) := fun y => by
    rw [is_succ (by kernel_rfl), e, any4, ai_not (by kernel_rfl), ai_not (by kernel_rfl), ai_on (k := 2) (x := opG g 10 11) (by kernel_rfl) rfl (do_G y g 10 11) rfl, ai_not (by kernel_rfl)]
    show (false || (false || ((false || decide (y = g)) && (hs (backL s g 4) 1 7 [y]).isSome || false))) = _
    rw [e7]
    simp
  have e1 : ∀ y, (hs (backL s g 4) 3 1 [y]).isSome = decide (hWhole s = g ∧ hWhole s = hWhole bz) := fun y => by
    rw [is_succ (by kernel_rfl), e, any4, ai_not (by kernel_rfl), ai_on (k := 1) (x := opW s 3 4) (by kernel_rfl) rfl (do_W y s hs' 3 4) rfl, ai_not (by kernel_rfl), ai_not (by kernel_rfl), told_bz rfl]
    show (false || (true && (hs (backL s g 4) 2 3 [hWhole s]).isSome || (false || false))) = _
    rw [e3]
    simp
  rw [is_succ (by kernel_rfl), e, any4, ai_on (k := 0) (x := opR 1 2) (by kernel_rfl) rfl (do_R 1 2) rfl, ai_not (by kernel_rfl), ai_not (by kernel_rfl), ai_not (by kernel_rfl), told_bz rfl]
  show (true && (hs (backL s g 4) 3 1 [hWhole bz]).isSome || (false || (false || false))) = _
  rw [e1]
  simp [eq_comm]
theorem back_open : (hs (backL s g 0) 4 0 []).isSome = decide (g = hWhole bz) := by
  have e : (backL s g 0).length = 4 := rfl
  have e13 : ∀ f B, (hs (backL s g 0) f 13 B).isSome = true := fun f B => is_over (by kernel_rfl)
  have e7 : ∀ y, (hs (backL s g 0) 1 7 [y]).isSome = decide (y = hWhole bz) := fun y => by
    rw [is_succ (by kernel_rfl), e, any4, ai_not (by kernel_rfl), ai_not (by kernel_rfl), ai_not (by kernel_rfl), ai_on (k := 3) (x := opG (hWhole bz) 12 13) (by kernel_rfl) rfl (do_G y (hWhole bz) 12 13) rfl, is_over (by kernel_rfl)]
    simp
  have e3 : ∀ y, (hs (backL s g 0) 2 3 [y]).isSome = decide (y = g ∧ y = hWhole bz) := fun y => by
    rw [is_succ (by kernel_rfl), e, any4, ai_not (by kernel_rfl), ai_not (by kernel_rfl), ai_on (k := 2) (x := opG g 10 11) (by kernel_rfl) rfl (do_G y g 10 11) rfl, ai_not (by kernel_rfl)]
    show (false || (false || ((false || decide (y = g)) && (hs (backL s g 0) 1 7 [y]).isSome || false))) = _
    rw [e7]
    simp
  have e5 : ∀ y, (hs (backL s g 0) 2 5 [y]).isSome = decide (hWhole s = hWhole bz ∨ y = hWhole bz) := fun y => by
    rw [is_succ (by kernel_rfl), e, any4, ai_not (by kernel_rfl), ai_on (k := 1) (x := opW s 3 0) (by kernel_rfl) rfl (do_W y s hs' 3 0) rfl, ai_not (by kernel_rfl), ai_on (k := 3) (x := opG (hWhole bz) 12 13) (by kernel_rfl) rfl (do_G y (hWhole bz) 12 13) rfl, told_bz rfl]
    show (false || (true && (hs (backL s g 0) 1 7 [hWhole s]).isSome || (false || ((false || decide (y = hWhole bz)) && (hs (backL s g 0) 1 13 [y]).isSome)))) = _
    rw [e7, e13]
    simp
  have e1 : (hs (backL s g 0) 3 1 [hWhole bz]).isSome = decide (g = hWhole bz) := by
    rw [is_succ (by kernel_rfl), e, any4, ai_not (by kernel_rfl), ai_on (k := 1) (x := opW s 3 0) (by kernel_rfl) rfl (do_W _ s hs' 3 0) rfl, ai_on (k := 2) (x := opG g 10 11) (by kernel_rfl) rfl (do_G _ g 10 11) rfl, ai_not (by kernel_rfl), told_bz rfl]
    show (false || (true && (hs (backL s g 0) 2 3 [hWhole s]).isSome || ((false || decide (hWhole bz = g)) && (hs (backL s g 0) 2 5 [hWhole bz]).isSome || false))) = _
    rw [e3, e5]
    by_cases h1 : g = hWhole bz
    · simp [h1]
    · have h2 : ¬ (hWhole s = g ∧ hWhole s = hWhole bz) := fun q => h1 (q.1.symm.trans q.2)
      simp [h1, h2, Ne.symm h1]
  rw [is_succ (by kernel_rfl), e, any4, ai_on (k := 0) (x := opR 1 2) (by kernel_rfl) rfl (do_R 1 2) rfl, ai_not (by kernel_rfl), ai_not (by kernel_rfl), ai_not (by kernel_rfl), told_bz rfl]
  show (true && (hs (backL s g 0) 3 1 [hWhole bz]).isSome || (false || (false || false))) = _
  rw [e1]
  simp
end
end Go.Pin
