/- VdiskClients: plain laws. -/
import Derived.Test.YtpebpcmppcpkdaaDoorVdiskSizesM
set_option maxRecDepth 16000
namespace Go.Pin
open Go.RowKit
set_option linter.unusedVariables false
set_option linter.unusedSimpArgs false
/-- Two clients: what they were told last, each with its number; a third one has no session. -/
structure TwoC (D : Vd) (p q : Ses) : Prop where
  ok : D.ok
  a1 : aget D.opens 1 = some p
  a2 : aget D.opens 2 = some q
  a3 : aget D.opens 3 = none
theorem write_right' (c q b : Int) (d : ByteArray) (hc : 0 < c) (hb : 0 ≤ b ∧ b < 4294967296) (hd : d.size ≤ 64) : (enOf 1 c q b 0 d noB).right = true := by
  unfold En.right enFit
  simp [enF, enHas, hc, hb.2, hd]
theorem does_opens (D : Vd) (c q b : Int) (d : ByteArray) : (D.does (enOf 1 c q b 0 d noB)).1.opens = D.opens := by
  unfold Vd.does
  rw [if_pos (by dsimp only)]
  unfold Vd.write
  split
  · dsimp only
    unfold Vd.setB; split <;> rfl
  · rfl
/-- A writing of a client that has a session: refused at the number 0, told again at its last one, else done. -/
theorem write_any (D : Vd) (ok : D.ok) (c q b : Int) (d : ByteArray) (hc : 0 < c ∧ c ≤ 100) (hq : 0 ≤ q ∧ q ≤ 1000) (hb : 0 ≤ b ∧ b < 4294967296) (hd : d.size ≤ 64) (s : Ses) (ha : aget D.opens c = some s) (hs : s.seq ≤ q) :
    ∃ D' r s', D.apply (enOf 1 c q b 0 d noB) = (D', r) ∧ D'.ok ∧ aget D'.opens c = some s' ∧ s'.seq = q ∧ (∀ j, j ≠ c → aget D'.opens j = aget D.opens j) ∧ (q = 0 → r.e = 12) ∧ (0 < q → r.e = s'.e ∧ r.data = s'.data) := by
  have hok := ok.apply (enOf 1 c q b 0 d noB) (enOf_ok _ _ _ _ _ _ _ (by decide) (by omega) (by omega) (by omega) (by decide) (by omega) (by decide))
  have hr := write_right' c q b d hc.1 hb hd
  have h0 := (ok.seq _ _ ha).1
  by_cases hq0 : q = 0
  · have h1 : D.apply (enOf 1 c q b 0 d noB) = (D, ⟨12, noB⟩) := by
      unfold Vd.apply
      rw [if_neg (by rw [hr]; decide), if_neg (by dsimp only; omega), if_neg (by dsimp only; decide), ha]
      dsimp only
      rw [if_pos (.inl hq0)]
    refine ⟨D, _, s, h1, ok, ha, by omega, fun _ _ => rfl, fun _ => rfl, fun h => by omega⟩
  · by_cases hlt : s.seq < q
    · have h1 := apply_does (D := D) (e := enOf 1 c q b 0 d noB) hr (by dsimp only; omega) (by dsimp only; decide) ha hlt h0
      rw [h1] at hok
      refine ⟨_, _, _, h1, hok, by dsimp only; rw [aget_set, if_pos rfl], rfl, fun j hj => ?_, fun h => absurd h hq0, fun _ => ⟨rfl, rfl⟩⟩
      dsimp only
      rw [aget_set, if_neg hj, does_opens]
    · have h1 : D.apply (enOf 1 c q b 0 d noB) = (D, ⟨s.e, s.data⟩) := by
        unfold Vd.apply
        rw [if_neg (by rw [hr]; decide), if_neg (by dsimp only; omega), if_neg (by dsimp only; decide), ha]
        dsimp only
        rw [if_neg (by rintro (h | h) <;> omega), if_neg hlt]
      refine ⟨D, _, s, h1, ok, ha, by omega, fun _ _ => rfl, fun h => absurd h hq0, fun _ => ⟨rfl, rfl⟩⟩
theorem clients_1 (D : Vd) (p q : Ses) (h : TwoC D p q) (n b : Int) (hn : p.seq ≤ n ∧ n ≤ 1000) (hb : 0 ≤ b ∧ b ≤ 100) :
    ∃ D' r p', D.apply (enOf 1 1 n b 0 ⟨#[120]⟩ noB) = (D', r) ∧ TwoC D' p' q ∧ p'.seq = n ∧ (n = 0 → r.e = 12) ∧ (0 < n → r.e = p'.e ∧ r.data = p'.data) := by
  have h0 := (h.ok.seq _ _ h.a1).1
  obtain ⟨D', r, s', h1, h2, h3, h4, h5, h6, h7⟩ := write_any D h.ok 1 n b ⟨#[120]⟩ (by decide) (by omega) (by omega) (by decide) p h.a1 hn.1
  exact ⟨D', r, s', h1, ⟨h2, h3, by rw [h5 2 (by decide)]; exact h.a2, by rw [h5 3 (by decide)]; exact h.a3⟩, h4, h6, h7⟩
theorem clients_2 (D : Vd) (p q : Ses) (h : TwoC D p q) (n b : Int) (hn : q.seq ≤ n ∧ n ≤ 1000) (hb : 0 ≤ b ∧ b ≤ 100) :
    ∃ D' r q', D.apply (enOf 1 2 n b 0 ⟨#[120]⟩ noB) = (D', r) ∧ TwoC D' p q' ∧ q'.seq = n ∧ (n = 0 → r.e = 12) ∧ (0 < n → r.e = q'.e ∧ r.data = q'.data) := by
  have h0 := (h.ok.seq _ _ h.a2).1
  obtain ⟨D', r, s', h1, h2, h3, h4, h5, h6, h7⟩ := write_any D h.ok 2 n b ⟨#[120]⟩ (by decide) (by omega) (by omega) (by decide) q h.a2 hn.1
  exact ⟨D', r, s', h1, ⟨h2, by rw [h5 1 (by decide)]; exact h.a1, h3, by rw [h5 3 (by decide)]; exact h.a3⟩, h4, h6, h7⟩
theorem clients_0 : TwoC (vdBegun 4) ⟨0, 0, noB⟩ ⟨1, 0, noB⟩ := ⟨begun_ok 4 (by decide), by rfl, by rfl, by rfl⟩
end Go.Pin
