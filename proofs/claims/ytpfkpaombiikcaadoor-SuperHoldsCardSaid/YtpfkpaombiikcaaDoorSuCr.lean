/- super: a Write that crashes in one of its steps: what is there then. -/
import Derived.Test.YtpfkpaombiikcaaDoorSuE
set_option maxRecDepth 16000
namespace Go.Pin
open Go.RowKit
set_option linter.unusedVariables false
set_option linter.unusedSimpArgs false
theorem suread_congr {d D : Dv} (hl : Live d) (hL : Live D) {a : Nat} (h1 : a + 1 < d.n) (h2 : a + 1 < D.n) (e0 : D.s a = d.s a) (e1 : D.s (a + 1) = d.s (a + 1)) : suread D a = suread d a := by
  rw [suread_live hl h1, suread_live hL h2, e0, e1]
theorem suwrite_put' {d : Dv} (a : Int) (s : ByteArray) (hs : s.size ≤ 51) (r : ByteArray × Int × Int × Int) (hr : suread d a = r) (h6 : r.2.2.2 = 6 → r.2.1 = 0) (h60 : r.2.2.2 = 6 ∨ r.2.2.2 = 0) (hg : r.2.1 ≠ 18446744073709551615) :
    suwrite d a s = suput d (a + (suNext r).2) (suNext r).1 s := by
  unfold suwrite suput suNext
  rw [if_neg (by omega), hr, if_neg (by rcases h60 with q | q <;> rw [q] <;> simp), if_neg hg]
  rcases h60 with q | q
  · have := h6 q
    rw [q, if_pos rfl, if_pos rfl, this]; simp
  · have e6 : ¬ (0 : Int) = 6 := by omega
    rw [q]
    simp only [e6, if_false]
    rw [show a + 1 - r.2.2.1 = a + (1 - r.2.2.1) by omega]
theorem suread_arm (d : Dv) (k a : Int) : suread (darm d k) a = suread d a := rfl
theorem after_s (X : Dv) (lost : List Int) (i : Nat) (hi : i < X.n) : (dafter X lost).s i = if X.w i = true ∧ (i : Int) ∈ lost then X.o i else X.s i := by
  rw [dafter_s, dafter_o X lost i hi]; rfl
/-- What is there behind a crash: as it was, or what was to be written, and then it was not lost. -/
theorem su_crash {d : Dv} (hok : d.ok) (hl : Live d) (hn : d.n = 2) (hw : ∀ i, d.w i = false) (S : ByteArray) (hS : S.size ≤ 51) (r : ByteArray × Int × Int × Int) (hr : suread d ((0 : Nat) : Int) = r) (hg : r.2.1 ≤ 100) (k : Int) (hk : 0 ≤ k ∧ k ≤ 2) (lost : List Int) (hlost : lost = [] ∨ lost = [0, 1]) :
    ∃ c X b g i h, suwrite (darm d k) ((0 : Nat) : Int) S = (c, X) ∧ suread (dafter X lost) ((0 : Nat) : Int) = (b, g, i, h) ∧
      ((k = 2 ∧ c = 0 ∧ b = S ∧ h = 0 ∧ g = (suNext r).1) ∨ (k ≠ 2 ∧ c = 7 ∧ (b, g, i, h) = r) ∨ (k ≠ 2 ∧ c = 7 ∧ b = S ∧ h = 0 ∧ lost = [])) := by
  have hA := sget_range (d.s 0)
  have hB := sget_range (d.s (0 + 1))
  have hc := sucells_range (sget (d.s 0)) (sget (d.s (0 + 1))) ⟨hA.1, hA.2.1⟩ ⟨hB.1, hB.2.1⟩
  have hrl := suread_live hl (a := 0) (by omega)
  rw [hr] at hrl
  rw [← hrl] at hc
  have hG : 0 < (suNext r).1 ∧ (suNext r).1 < 18446744073709551616 := by
    unfold suNext
    split
    · simp
    · dsimp only; omega
  obtain ⟨n, hnn⟩ := Int.eq_ofNat_of_zero_le (show 0 ≤ (suNext r).1 by omega)
  have hn0 : 0 < n := by omega
  have hn1 : n < 18446744073709551616 := by omega
  have hgp := sget_put n hn0 hn1 S hS
  have hx := sucells_next (sget (d.s 0)) (sget (d.s (0 + 1))) S true hA.1 hB.1
  rw [← hrl, hnn] at hx
  obtain ⟨t, ht⟩ : ∃ t : Nat, (suNext r).2 = (t : Int) ∧ t < 2 := by
    rcases hx with ⟨q, _⟩ | ⟨q, _⟩
    · exact ⟨0, q, by omega⟩
    · exact ⟨1, q, by omega⟩
  have hput := suwrite_put' (d := darm d k) ((0 : Nat) : Int) S hS r (by rw [suread_arm]; exact hr) hc.2.2.2.1 hc.2.2.1 (by omega)
  rw [hnn, ht.1, show ((0 : Nat) : Int) + (t : Int) = (t : Int) by omega] at hput
  obtain ⟨T, hT⟩ : ∃ T, cput (sbody n S) = T := ⟨_, rfl⟩
  have hTz : T.size = 64 := by rw [← hT]; exact cput_size64 n S hS
  rw [hT] at hgp
  have hok' := darm_ok hok k (by omega)
  have harm : (darm d k).armed = k := by show (if k < -1 then -1 else k) = k; rw [if_neg (by omega)]
  have hdd : (darm d k).dead = false := hl.dead
  have hnd : (darm d k).n = 2 := hn
  have hdw : dwrite (darm d k) (t : Int) T = dtry (darm d k) (dset t T) := by
    unfold dwrite
    have : dref (darm d k) (t : Int) = 0 := by unfold dref; rw [if_neg (by rw [hdd]; simp), if_neg (by rw [hnd]; omega)]
    rw [this, if_neg (by simp), if_neg (by omega), Int.toNat_natCast]
  have hss : ∀ i, (dset t T (dstep (darm d k))).s i = if i = t then T else d.s i := fun i => by
    rw [dset_s (dstep_ok hok') (by show t < d.n; omega), pad64 T hTz]; rfl
  have hws : ∀ i, (dset t T (dstep (darm d k))).w i = if i = t then true else false := fun i => by
    rw [dset_w (dstep_ok hok') (by show t < d.n; omega)]
    split
    · rfl
    · exact hw i
  have hput2 : suput (darm d k) (t : Int) (n : Int) S = if (dtry (darm d k) (dset t T)).1 ≠ 0 then dtry (darm d k) (dset t T) else dflush (dtry (darm d k) (dset t T)).2 := by
    unfold suput
    rw [sput_ok n hn0 S hS, hT, hdw]
  rw [hput2] at hput
  -- what both cells of the device behind the crash tell
  have same : ∀ X : Dv, X.n = 2 → (∀ i, i < 2 → (dafter X lost).s i = d.s i) → suread (dafter X lost) ((0 : Nat) : Int) = r := fun X hX hs => by
    rw [suread_congr hl (live_after X lost) (a := 0) (by omega) (by rw [dafter_n]; omega) (hs 0 (by omega)) (hs 1 (by omega)), hr]
  have new : ∀ X : Dv, X.n = 2 → (∀ i, i < 2 → (dafter X lost).s i = if i = t then T else d.s i) → suread (dafter X lost) ((0 : Nat) : Int) = (S, (n : Int), (t : Int), 0) := fun X hX hs => by
    rw [suread_live (live_after X lost) (by rw [dafter_n]; omega), hs 0 (by omega), hs (0 + 1) (by omega)]
    rcases hx with ⟨h1, h2⟩ | ⟨h1, h2⟩
    · have ht0 : t = 0 := by have := ht.1; omega
      subst ht0
      rw [if_pos rfl, if_neg (by omega), hgp]; exact h2
    · have ht0 : t = 1 := by have := ht.1; omega
      subst ht0
      rw [if_neg (by omega), if_pos rfl, hgp]; exact h2
  rcases (show k = 0 ∨ k = 1 ∨ k = 2 by omega) with hk0 | hk0 | hk0
  · have e1 : dtry (darm d k) (dset t T) = (7, { darm d k with dead := true }) := by unfold dtry; rw [if_pos (by rw [harm]; exact hk0)]
    rw [e1, if_pos (by simp)] at hput
    refine ⟨7, _, r.1, r.2.1, r.2.2.1, r.2.2.2, hput, same _ hnd fun i hi => ?_, .inr (.inl ⟨by omega, rfl, rfl⟩)⟩
    rw [after_s _ _ _ (by show i < d.n; omega), if_neg]
    · rfl
    · rintro ⟨q, _⟩
      have : d.w i = true := q
      rw [hw] at this; cases this
  · have e1 : dtry (darm d k) (dset t T) = (0, dset t T (dstep (darm d k))) := by unfold dtry; rw [if_neg (by rw [harm]; omega)]
    rw [e1, if_neg (by simp)] at hput
    have ha : (dset t T (dstep (darm d k))).armed = 0 := by
      show (if 0 < (darm d k).armed then (darm d k).armed - 1 else (darm d k).armed) = 0
      rw [harm, if_pos (by omega)]; omega
    have e2 : dflush (dset t T (dstep (darm d k))) = (7, { dset t T (dstep (darm d k)) with dead := true }) := by
      unfold dflush dtry
      rw [if_neg (by show ¬ d.dead = true; rw [hl.dead]; simp), if_pos ha]
    rw [e2] at hput
    rcases hlost with rfl | rfl
    · refine ⟨7, _, S, n, t, 0, hput, new _ hnd fun i hi => ?_, .inr (.inr ⟨by omega, rfl, rfl, rfl, rfl⟩)⟩
      rw [after_s _ _ _ (by show i < d.n; omega), if_neg (by simp)]
      exact hss i
    · refine ⟨7, _, r.1, r.2.1, r.2.2.1, r.2.2.2, hput, same _ hnd fun i hi => ?_, .inr (.inl ⟨by omega, rfl, rfl⟩)⟩
      rw [after_s _ _ _ (by show i < d.n; omega)]
      by_cases hit : i = t
      · rw [if_pos]
        · show d.o i = d.s i
          exact (hok.same i (hw i)).symm
        · refine ⟨?_, by have : i = 0 ∨ i = 1 := by omega
                         rcases this with q | q <;> subst q <;> simp⟩
          show (dset t T (dstep (darm d k))).w i = true
          rw [hws, if_pos hit]
      · rw [if_neg]
        · show (dset t T (dstep (darm d k))).s i = d.s i
          rw [hss, if_neg hit]
        · rintro ⟨q, _⟩
          have : (dset t T (dstep (darm d k))).w i = true := q
          rw [hws, if_neg hit] at this; cases this
  · have e1 : dtry (darm d k) (dset t T) = (0, dset t T (dstep (darm d k))) := by unfold dtry; rw [if_neg (by rw [harm]; omega)]
    rw [e1, if_neg (by simp)] at hput
    have ha : (dset t T (dstep (darm d k))).armed = 1 := by
      show (if 0 < (darm d k).armed then (darm d k).armed - 1 else (darm d k).armed) = 1
      rw [harm, if_pos (by omega)]; omega
    have e2 : dflush (dset t T (dstep (darm d k))) = (0, dsettle (dstep (dset t T (dstep (darm d k))))) := by
      unfold dflush dtry
      rw [if_neg (by show ¬ d.dead = true; rw [hl.dead]; simp), if_neg (by rw [ha]; omega)]
    rw [e2] at hput
    have hY := dset_ok (dstep_ok hok') (k := t) (by show t < d.n; omega) (s := T) (by omega)
    have hXn : (dsettle (dstep (dset t T (dstep (darm d k))))).n = 2 := (dsettle_n (dstep_ok hY)).trans hnd
    refine ⟨0, _, S, n, t, 0, hput, new _ hXn fun i hi => ?_, .inl ⟨hk0, rfl, rfl, rfl, hnn.symm⟩⟩
    rw [after_s _ _ _ (by omega), if_neg]
    · exact hss i
    · rintro ⟨q, _⟩
      have : (dsettle (dstep (dset t T (dstep (darm d k))))).w i = false := getD_rep _ _ _
      rw [this] at q; cases q
end Go.Pin
