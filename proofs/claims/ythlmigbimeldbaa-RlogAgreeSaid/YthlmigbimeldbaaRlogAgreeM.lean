/- RlogAgree: plain laws of logs that are taken from a third one. -/
import Derived.Test.YthlmigbimeldbaaRlogTakenM
import Derived.Test.YthlmigbimeldbaaRlogDropsM
set_option maxRecDepth 16000
namespace Go.Pin
open Go.RowKit
set_option linter.unusedVariables false
set_option linter.unusedSimpArgs false
/-- An entry of a term above 50. -/
def agUp (e : En) : En := { e with term := e.term + 50 }
theorem ag_step (L : List En) (i : Nat) (e : En) (h : L[i]? = some e) :
    ((L.take i).map agUp ++ L.drop i)[i]? = some e ∧ ((L.take i).map agUp ++ L.drop i).set i (agUp e) = (L.take (i + 1)).map agUp ++ L.drop (i + 1) := by
  have hk : i < L.length := (List.getElem?_eq_some_iff.1 h).1
  have hl : ((L.take i).map agUp).length = i := by rw [List.length_map, List.length_take]; omega
  have hd : L.drop i = e :: L.drop (i + 1) := by
    rw [List.drop_eq_getElem_cons hk]
    rw [List.getElem?_eq_getElem hk] at h
    simp at h; rw [h]
  constructor
  · rw [List.getElem?_append_right (by omega), hl, hd]; simp
  · rw [List.set_append, if_neg (by omega), hl, hd, List.take_add_one, h]
    simp
theorem lgRising_six (M : List (En × Bool)) (base term : Int) : lgRising M base term 6 = lgRising (M.take 6) base term 10 := by
  unfold lgRising; rw [List.take_take]; rfl
theorem ag_rises {Z : Lg} (hn : Z.neat) (hr : Z.rises) (h0 : Z.bt = 0) : (Lg.mk 0 0 (Z.l.map agUp)).rises := by
  refine ⟨fun e he => ?_, fun j e he => ?_⟩
  · obtain ⟨x, hx, rfl⟩ := List.mem_map.1 he
    have h1 := hr.right x hx
    have h2 : 0 < x.term ∧ 0 < x.index := by
      unfold En.right at h1
      simp only [Bool.and_eq_true, decide_eq_true_eq] at h1
      exact ⟨h1.1.1.2, h1.1.2⟩
    exact En.right_put h1 x.index _ h2.2 (by omega)
  · dsimp only at he ⊢
    rw [List.getElem?_map] at he
    cases hq : Z.l[j]? with
    | none => rw [hq] at he; cases he
    | some x =>
      rw [hq] at he
      simp only [Option.map_some, Option.some.injEq] at he
      subst he
      have hx0 := (hn.term x (List.mem_of_getElem? hq)).1
      cases j with
      | zero => show (0 : Int) ≤ x.term + 50; omega
      | succ j =>
        show ((Z.l.map agUp).getD j En.zero).term ≤ x.term + 50
        have hj : j < Z.l.length := by have := (List.getElem?_eq_some_iff.1 hq).1; omega
        have hup := hr.up (j + 1) x hq
        have e1 : lgBefore Z.bt Z.l (j + 1) = (Z.l.getD j En.zero).term := rfl
        rw [e1, List.getD_eq_getElem?_getD, List.getElem?_eq_getElem hj] at hup
        rw [List.getD_eq_getElem?_getD, List.getElem?_map, List.getElem?_eq_getElem hj]
        show (Z.l[j]).term + 50 ≤ x.term + 50
        have hup2 : (Z.l[j]).term ≤ x.term := hup
        omega
theorem ag_ok {Z : Lg} (hn : Z.neat) (ho : Z.ok) : ∀ e ∈ Z.l.map agUp, e.ok := by
  intro e he
  obtain ⟨x, hx, rfl⟩ := List.mem_map.1 he
  have hx0 := hn.term x hx
  have hxo := ho.l x hx
  exact ⟨by show 0 ≤ x.term + 50 ∧ x.term + 50 ≤ _; omega, hxo.index, hxo.kind, hxo.client, hxo.seq, hxo.block, hxo.many, hxo.node, hxo.level, hxo.data, hxo.old⟩
theorem Lg.rises.take {g : Lg} (h : g.rises) (k : Nat) : (Lg.mk g.base g.bt (g.l.take k)).rises := by
  refine ⟨fun e he => h.right e (List.mem_of_mem_take he), fun j e he => ?_⟩
  dsimp only at he ⊢
  have hj : j < k ∧ j < g.l.length := by
    have := (List.getElem?_eq_some_iff.1 he).1
    rw [List.length_take] at this; omega
  rw [List.getElem?_take, if_pos hj.1] at he
  have e1 : lgBefore g.bt (g.l.take k) j = lgBefore g.bt g.l j := by
    cases j with
    | zero => rfl
    | succ j =>
      show ((g.l.take k).getD j En.zero).term = (g.l.getD j En.zero).term
      rw [List.getD_eq_getElem?_getD, List.getD_eq_getElem?_getD, List.getElem?_take, if_pos (by omega)]
  rw [e1]; exact h.up j e he
/-- What is taken of a source whose terms are above the log's own. -/
def agTaken (X : List En) (S : List En) (m : Nat) : Lg := ⟨0, 0, if m = 0 then X else S.take m⟩
theorem agree_take {X S : List En} (hx : (Lg.mk 0 0 X).seq) (hxr : (Lg.mk 0 0 X).rises) (hs : (Lg.mk 0 0 S).seq) (hsr : (Lg.mk 0 0 S).rises) (hXl : X.length ≤ 50) (hSl : S.length ≤ 50)
    (hlow : ∀ e ∈ X, e.term < 50) (hhigh : ∀ e ∈ S, 50 ≤ e.term) (m : Nat) (hm : m ≤ S.length) :
    (Lg.mk 0 0 X).take 0 0 (S.take m) = (agTaken X S m, if m = 0 then 0 else 1, true) ∧ (agTaken X S m).seq ∧ (agTaken X S m).rises := by
  have hidx := hs.index
  dsimp only at hidx
  rcases take_seq hx hxr 0 (Nat.zero_le _) (S.take m) (by rw [List.length_take]; omega) hXl (fun j e he => by
    rw [List.getElem?_take] at he
    split at he
    · have := hidx j e he; dsimp only; omega
    · cases he) (by exact hsr.take m) (by dsimp only; omega) with ⟨h1, h2⟩ | ⟨j, e, h1, h2, h3, h4, h5, h6, h7⟩
  · have hm0 : m = 0 := by
      cases m with
      | zero => rfl
      | succ m =>
        have he := List.getElem?_eq_getElem (show 0 < S.length by omega)
        have q := h1 0 S[0] (by rw [List.getElem?_take, if_pos (by omega)]; exact he)
        have hh := hhigh _ (List.getElem_mem (show 0 < S.length by omega))
        dsimp only at q
        cases hq : X[0 + 0]? with
        | none => rw [hq] at q; cases q
        | some y =>
          rw [hq] at q
          simp only [Option.map_some, Option.some.injEq] at q
          have := hlow y (List.mem_of_getElem? hq)
          omega
    subst hm0
    exact ⟨h2, hx, hxr⟩
  · have hj0 : j = 0 := by
      cases j with
      | zero => rfl
      | succ j =>
        have hml : 0 < (S.take m).length := by have := (List.getElem?_eq_some_iff.1 h1).1; omega
        have he := List.getElem?_eq_getElem hml
        have q := h3 0 _ (by omega) he
        have hh := hhigh _ (List.mem_of_mem_take (List.getElem_mem hml))
        dsimp only at q
        cases hq : X[0 + 0]? with
        | none => rw [hq] at q; cases q
        | some y =>
          rw [hq] at q
          simp only [Option.map_some, Option.some.injEq] at q
          have := hlow y (List.mem_of_getElem? hq)
          omega
    subst hj0
    have hm0 : m ≠ 0 := by
      intro q; subst q; simp at h1
    have e1 : agTaken X S m = ⟨0, 0, List.take (0 + 0) X ++ List.drop 0 (S.take m)⟩ := by
      unfold agTaken; rw [if_neg hm0]; simp
    rw [if_neg hm0, e1]
    exact ⟨h7, h5, h6⟩
theorem Lg.seq.part {g : Lg} (h : g.seq) (i m : Int) (h1 : g.base < i) : g.part i m = (g.l.drop (i - g.base - 1).toNat).take m.toNat := by
  unfold Lg.part
  rw [fold_part g.base i m h1, filter_drop i g.l g.base h.index]
  simp
theorem agTaken_part {X S : List En} {m : Nat} (h : (agTaken X S m).seq) (k : Nat) (hk : k ≤ m) : (agTaken X S m).part 1 k = S.take k := by
  rw [h.part 1 k (by show (0 : Int) < 1; omega)]
  show ((agTaken X S m).l.drop ((1 : Int) - 0 - 1).toNat).take ((k : Int)).toNat = _
  rw [show ((1 : Int) - 0 - 1).toNat = 0 by omega, show ((k : Int)).toNat = k by omega, List.drop_zero]
  unfold agTaken
  by_cases q : m = 0
  · have : k = 0 := by omega
    subst this; simp
  · dsimp only; rw [if_neg q, List.take_take, Nat.min_eq_left hk]
theorem lgRising_low (M : List (En × Bool)) (base term : Int) (h2 : 0 ≤ term) : ∀ e ∈ (lgRising M base term 10).l, e.term < 50 := by
  intro e he
  obtain ⟨k, hk⟩ := List.getElem?_of_mem he
  obtain ⟨x, hx, rfl⟩ := lgRise_get _ _ _ _ hk
  have h5 := lgTop_le ((lgLogged (base % 100) (M.take 10)).take (k + 1)) (max (term % 3) 1)
  have h6 : ((lgLogged (base % 100) (M.take 10)).take (k + 1)).length ≤ 10 := by rw [List.length_take, lgLogged_len, List.length_take]; omega
  dsimp only
  omega
theorem lgRising_zero (M : List (En × Bool)) : (lgRising M 0 0 10).base = 0 ∧ (lgRising M 0 0 10).bt = 0 := ⟨rfl, rfl⟩
/-- The whole source is taken. -/
theorem agree_full {X S : List En} (hx : (Lg.mk 0 0 X).seq) (hxr : (Lg.mk 0 0 X).rises) (hs : (Lg.mk 0 0 S).seq) (hsr : (Lg.mk 0 0 S).rises) (hXl : X.length ≤ 50) (hSl : S.length ≤ 50)
    (hlow : ∀ e ∈ X, e.term < 50) (hhigh : ∀ e ∈ S, 50 ≤ e.term) (m : Nat) (hm : m ≤ S.length) :
    ∃ F f, (agTaken X S m).take 0 0 S = (F, f, true) ∧ F.l.length ≤ 100 ∧ (S.length = 0 ∨ F.l = S) := by
  obtain ⟨_, hq, hqr⟩ := agree_take hx hxr hs hsr hXl hSl hlow hhigh m hm
  by_cases hm0 : m = 0
  · subst hm0
    obtain ⟨h1, _, _⟩ := agree_take hx hxr hs hsr hXl hSl hlow hhigh S.length (Nat.le_refl _)
    rw [List.take_of_length_le (Nat.le_refl _)] at h1
    refine ⟨_, _, h1, ?_, ?_⟩
    · unfold agTaken; dsimp only; split
      · omega
      · rw [List.length_take]; omega
    · by_cases q : S.length = 0
      · exact .inl q
      · right; unfold agTaken; rw [if_neg q]; simp
  · have e1 : agTaken X S m = ⟨0, 0, S.take m⟩ := by unfold agTaken; rw [if_neg hm0]
    rw [e1] at hq hqr ⊢
    have hidx := hs.index
    dsimp only at hidx
    rcases take_seq hq hqr 0 (Nat.zero_le _) S hSl (by dsimp only; rw [List.length_take]; omega) (fun j e he => by have := hidx j e he; dsimp only; omega) (by exact hsr) (by dsimp only; omega) with ⟨h1, h2⟩ | ⟨j, e, h1, h2, h3, h4, h5, h6, h7⟩
    · refine ⟨_, _, h2, by dsimp only; rw [List.length_take]; omega, .inr ?_⟩
      dsimp only
      by_cases q : m = S.length
      · rw [q, List.take_of_length_le (Nat.le_refl _)]
      · have he := List.getElem?_eq_getElem (show m < S.length by omega)
        have q2 := h1 m _ he
        dsimp only at q2
        rw [List.getElem?_take, if_neg (by omega)] at q2
        cases q2
    · refine ⟨_, _, h7, by dsimp only; rw [List.length_append, List.length_take, List.length_take, List.length_drop]; omega, .inr ?_⟩
      dsimp only at h2 h4 ⊢
      have hj : m ≤ j := by
        rcases Nat.lt_or_ge j m with q | q
        · rw [Nat.zero_add, List.getElem?_take, if_pos q, h1] at h2
          exact absurd rfl h2
        · exact q
      rw [List.length_take] at h4
      have hjm : j = m := by omega
      subst hjm
      rw [Nat.zero_add, List.take_take, Nat.min_self, List.take_append_drop]
structure AgLow (X : List En) : Prop where
  seq : (Lg.mk 0 0 X).seq
  rises : (Lg.mk 0 0 X).rises
  ok : (Lg.mk 0 0 X).ok
  len : X.length ≤ 10
  low : ∀ e ∈ X, e.term < 50
structure AgHigh (T : List En) : Prop where
  seq : (Lg.mk 0 0 T).seq
  rises : (Lg.mk 0 0 T).rises
  ok : ∀ e ∈ T, e.ok
  len : T.length ≤ 10
  high : ∀ e ∈ T, 50 ≤ e.term
theorem ag_low (M : List (En × Bool)) (hM : ∀ x ∈ M, x.1.ok) : ∃ X, lgRising M 0 0 6 = ⟨0, 0, X⟩ ∧ AgLow X := by
  rw [lgRising_six]
  have hM2 : ∀ x ∈ M.take 6, x.1.ok := fun x hx => hM x (List.mem_of_mem_take hx)
  have h1 := lgRising_neat (M.take 6) 0 0 (by omega) (by omega)
  have h2 := lgRising_rises (M.take 6) 0 0 (by omega) (by omega) hM2
  have h3 := lgRising_ok (M.take 6) 0 0 (by omega) (by omega) hM2
  have h4 := lgRising_low (M.take 6) 0 0 (by omega)
  obtain ⟨X, e⟩ : ∃ X, lgRising (M.take 6) 0 0 10 = ⟨0, 0, X⟩ := ⟨_, rfl⟩
  rw [e] at h1 h2 h3 h4 ⊢
  exact ⟨X, rfl, h1.seq, h2, h3, h1.len, h4⟩
theorem ag_high (M : List (En × Bool)) (hM : ∀ x ∈ M, x.1.ok) : ∃ S, lgRising M 0 0 10 = ⟨0, 0, S⟩ ∧ AgHigh (S.map agUp) ∧ (∀ e ∈ S, 0 ≤ e.term ∧ e.term ≤ 200) ∧ S.length ≤ 10 := by
  have h1 := lgRising_neat M 0 0 (by omega) (by omega)
  have h2 := lgRising_rises M 0 0 (by omega) (by omega) hM
  have h3 := lgRising_ok M 0 0 (by omega) (by omega) hM
  obtain ⟨S, e⟩ : ∃ S, lgRising M 0 0 10 = ⟨0, 0, S⟩ := ⟨_, rfl⟩
  rw [e] at h1 h2 h3 ⊢
  refine ⟨S, rfl, ⟨⟨by dsimp only; omega, by dsimp only; rw [List.length_map]; exact Nat.le_trans h1.len (by omega), fun k x hx => ?_⟩, ag_rises h1 h2 rfl, ag_ok h1 h3, by rw [List.length_map]; exact h1.len, fun x hx => ?_⟩, h1.term, h1.len⟩
  · dsimp only at hx ⊢
    rw [List.getElem?_map] at hx
    cases hq : S[k]? with
    | none => rw [hq] at hx; cases hx
    | some y =>
      rw [hq] at hx
      simp only [Option.map_some, Option.some.injEq] at hx
      subst hx
      exact h1.index k y hq
  · obtain ⟨y, hy, rfl⟩ := List.mem_map.1 hx
    have := (h1.term y hy).1
    show 50 ≤ y.term + 50
    omega
theorem agTaken_ok {X T : List En} (hx : (Lg.mk 0 0 X).ok) (hT : ∀ e ∈ T, e.ok) (m : Nat) : (agTaken X T m).ok := by
  refine ⟨hx.base, hx.bt, fun e he => ?_⟩
  unfold agTaken at he
  dsimp only at he
  split at he
  · exact hx.l e he
  · exact hT e (List.mem_of_mem_take he)
theorem agTaken_len {X T : List En} (m : Nat) (hX : X.length ≤ 10) (hT : T.length ≤ 10) : (agTaken X T m).l.length ≤ 10 := by
  unfold agTaken
  dsimp only
  split
  · exact hX
  · rw [List.length_take]; omega
end Go.Pin
