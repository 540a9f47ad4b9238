/- VdiskOpens: plain laws. -/
import Derived.Test.YtpebpcmppcpkdaaDoorVdiskSizesM
set_option maxRecDepth 16000
namespace Go.Pin
open Go.RowKit
set_option linter.unusedVariables false
set_option linter.unusedSimpArgs false
/-- So many sessions, of the clients 1, 2 .. -/
def opsList (m : Nat) : List (Int × Ses) := (List.range m).map fun (i : Nat) => (((i : Nat) : Int) + 1, Ses.zero)
def vdOpens (m : Nat) : Vd := ⟨0, [], opsList m⟩
theorem opsList_len (m : Nat) : (opsList m).length = m := by unfold opsList; simp
theorem opsList_succ (m : Nat) : opsList (m + 1) = opsList m ++ [((m : Int) + 1, Ses.zero)] := by
  unfold opsList; rw [List.range_succ, List.map_append]; rfl
theorem opsList_keys (m : Nat) (k : Int) : k ∈ (opsList m).map (·.1) ↔ 1 ≤ k ∧ k ≤ m := by
  unfold opsList
  rw [List.map_map, List.mem_map]
  constructor
  · rintro ⟨i, hi, rfl⟩
    rw [List.mem_range] at hi
    simp only [Function.comp_apply]; omega
  · rintro ⟨h1, h2⟩
    refine ⟨(k - 1).toNat, by rw [List.mem_range]; omega, ?_⟩
    simp only [Function.comp_apply]; omega
theorem aget_none {α : Type} (L : List (Int × α)) (k : Int) (h : k ∉ L.map (·.1)) : aget L k = none := by
  unfold aget
  rw [Option.map_eq_none_iff, List.find?_eq_none]
  intro p hp
  simp only [decide_eq_true_eq]
  intro q
  exact h (List.mem_map.2 ⟨p, hp, q⟩)
theorem aset_new {α : Type} (L : List (Int × α)) (k : Int) (v : α) (h : k ∉ L.map (·.1)) : aset L k v = L ++ [(k, v)] := by
  unfold aset; rw [if_neg h]
theorem open_right (c : Int) (hc : 0 < c) : (enOf 4 c 0 0 0 noB noB).right = true := by
  unfold En.right enFit
  simp [enF, enHas, hc]
theorem apply_open (D : Vd) (c : Int) (hc : 0 < c) : D.apply (enOf 4 c 0 0 0 noB noB) = D.begin c := by
  unfold Vd.apply
  rw [if_neg (by rw [open_right c hc]; decide), if_neg (by dsimp only; omega), if_pos (by dsimp only)]
theorem opens_next (m : Nat) (hm : m < 64) : (vdOpens m).apply (enOf 4 ((m : Int) + 1) 0 0 0 noB noB) = (vdOpens (m + 1), ⟨0, noB⟩) := by
  rw [apply_open _ _ (by omega)]
  have hn : (m : Int) + 1 ∉ (opsList m).map (·.1) := by rw [opsList_keys]; omega
  unfold Vd.begin vdOpens
  dsimp only
  rw [aget_none _ _ hn]
  dsimp only
  rw [if_neg (by rw [opsList_len]; omega), aset_new _ _ _ hn, ← opsList_succ]
theorem opens_full (c : Int) (hc : 64 < c) : (vdOpens 64).apply (enOf 4 c 0 0 0 noB noB) = (vdOpens 64, ⟨3, noB⟩) := by
  rw [apply_open _ _ (by omega)]
  have hn : c ∉ (opsList 64).map (·.1) := by rw [opsList_keys]; omega
  unfold Vd.begin vdOpens
  dsimp only
  rw [aget_none _ _ hn]
  dsimp only
  rw [if_pos (opsList_len 64)]
theorem opens_step (c : Nat) (h0 : 0 < c) : (vdOpens (min (c - 1) 64)).apply (enOf 4 (c : Int) 0 0 0 noB noB) = (vdOpens (min c 64), ⟨if c ≤ 64 then 0 else 3, noB⟩) := by
  by_cases h : c ≤ 64
  · have := opens_next (c - 1) (by omega)
    rw [if_pos h, Nat.min_eq_left h, Nat.min_eq_left (by omega)]
    have e1 : ((c - 1 : Nat) : Int) + 1 = (c : Int) := by omega
    have e2 : c - 1 + 1 = c := by omega
    rw [e1, e2] at this
    exact this
  · rw [if_neg h, Nat.min_eq_right (by omega), Nat.min_eq_right (by omega)]
    exact opens_full c (by omega)
theorem opens_ok (m : Nat) : (vdOpens m).ok := by
  refine ⟨⟨Int.le_refl 0, show (0 : Int) ≤ 128 by decide⟩, fun k => Nat.zero_le _, fun c s hs => ?_⟩
  unfold vdOpens aget opsList at hs
  obtain ⟨p, hp, rfl⟩ := Option.map_eq_some_iff.1 hs
  have := List.mem_of_find?_eq_some hp
  rw [List.mem_map] at this
  obtain ⟨i, _, rfl⟩ := this
  exact ⟨Int.le_refl 0, show (0 : Int) ≤ 18446744073709551615 by decide⟩
theorem aget_some {α : Type} (L : List (Int × α)) (k : Int) (h : k ∈ L.map (·.1)) : ∃ v, aget L k = some v ∧ (k, v) ∈ L := by
  rw [List.mem_map] at h
  obtain ⟨p, hp, rfl⟩ := h
  cases q : L.find? (fun x => decide (x.1 = p.1)) with
  | none => rw [List.find?_eq_none] at q; exact absurd (q p hp) (by simp)
  | some x =>
    refine ⟨x.2, by unfold aget; rw [q]; rfl, ?_⟩
    have h1 := List.mem_of_find?_eq_some q
    have h2 := List.find?_some q
    simp only [decide_eq_true_eq] at h2
    rw [← h2]; exact h1
theorem opens_get (m : Nat) (hm : 0 < m) : aget (opsList m) 1 = some Ses.zero := by
  obtain ⟨v, h1, h2⟩ := aget_some (opsList m) 1 ((opsList_keys m 1).2 (by omega))
  unfold opsList at h2
  rw [List.mem_map] at h2
  obtain ⟨i, _, h3⟩ := h2
  rw [h1, ← (Prod.mk.inj h3).2]
/-- Behind the sessions: a size is asked for, the first session is begun again, it is told what it did. -/
theorem vd_opens (k : Nat) :
    ∃ (D1 D2 : Vd) (a b : Res), (vdOpens (min k 64)).apply (enOf 3 1 3 0 5 noB noB) = (D1, a) ∧ D1.apply (enOf 4 1 0 0 0 noB noB) = (D2, b) ∧ D1.ok ∧ D2.ok ∧ b.e = 0 ∧ (aget D2.opens 1).isSome = true ∧
      ((k = 0 ∧ a.e = 12 ∧ ((aget D2.opens 1).getD Ses.zero).seq = 0 ∧ D2.many = 0) ∨ (0 < k ∧ a.e = 0 ∧ ((aget D2.opens 1).getD Ses.zero).seq = 3 ∧ D2.many = 5)) := by
  have ok1 := (opens_ok (min k 64)).apply (enOf 3 1 3 0 5 noB noB) (enOf_ok _ _ _ _ _ _ _ (by decide) (by decide) (by decide) (by decide) (by decide) (by decide) (by decide))
  by_cases h : k = 0
  · subst h
    have h1 : (vdOpens (min 0 64)).apply (enOf 3 1 3 0 5 noB noB) = (vdOpens 0, ⟨12, noB⟩) := by rfl
    have h2 : (vdOpens 0).apply (enOf 4 1 0 0 0 noB noB) = (vdOpens 1, ⟨0, noB⟩) := by rfl
    exact ⟨_, _, _, _, h1, h2, opens_ok _, opens_ok _, rfl, by rfl, .inl ⟨rfl, rfl, by rfl, by rfl⟩⟩
  · have ha : aget (vdOpens (min k 64)).opens 1 = some Ses.zero := opens_get _ (by omega)
    obtain ⟨D', h1, h2, h3, h4⟩ := apply_step (D := vdOpens (min k 64)) (e := enOf 3 1 3 0 5 noB noB) (resize_right 1 3 5 (by decide) (by decide)) (by dsimp only; decide) (by dsimp only; decide) ha (by decide) (by decide)
    rw [h1] at ok1
    rw [does_resize, if_neg (by decide)] at h1 h2 h3 h4
    dsimp only at h1 h2 h3 h4 ok1
    have h5 : D'.apply (enOf 4 1 0 0 0 noB noB) = (D', ⟨0, noB⟩) := by
      rw [apply_open _ _ (by decide)]
      unfold Vd.begin
      rw [h4]
    refine ⟨_, _, _, _, h1, h5, ok1, ok1, rfl, by rw [h4]; rfl, .inr ⟨by omega, rfl, by rw [h4]; rfl, h2⟩⟩
end Go.Pin
