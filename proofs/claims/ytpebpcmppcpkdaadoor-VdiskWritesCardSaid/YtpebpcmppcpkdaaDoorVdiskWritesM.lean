/- VdiskWrites: plain laws. -/
import Derived.Test.YtpebpcmppcpkdaaDoorVdiskSizesM
set_option maxRecDepth 16000
namespace Go.Pin
open Go.RowKit
set_option linter.unusedVariables false
set_option linter.unusedSimpArgs false
theorem does_trim (D : Vd) (c q b n : Int) : D.does (enOf 2 c q b n noB noB) = if D.bounds b n = true then (D.trimTo b n.toNat, ⟨0, noB⟩) else (D, ⟨5, noB⟩) := by
  unfold Vd.does
  rw [if_neg (by dsimp only; decide), if_pos (by dsimp only)]
  rfl
theorem blk_trimTo (D : Vd) (b k : Int) (n : Nat) : (D.trimTo b n).blk k = if b ≤ k ∧ k < b + n then ⟨#[]⟩ else D.blk k := by
  unfold Vd.blk Vd.trimTo
  dsimp only
  rw [aget_filter D.blocks (fun i => !(decide (b ≤ i) && decide (i < b + n))) k]
  by_cases h : b ≤ k ∧ k < b + n
  · simp [h.1, h.2]
  · rw [if_neg h, if_pos]
    simp only [Bool.not_eq_true', Bool.and_eq_false_iff, decide_eq_false_iff_not]
    omega
theorem bareB_no : bareB noB = noB := by rfl
theorem vdBegun_blk (n k : Int) : (vdBegun n).blk k = noB := by rfl
/-- What a block is to be behind two writings. -/
def wrWant (x y : Int) (s t : ByteArray) (k : Int) : ByteArray := if k = y then wholeB t else if k = x then wholeB s else wholeB noB
end Go.Pin
namespace Go.Proofs.YtpebpcmppcpkdaaDoor
open Go.RowKit Go.Pin
set_option linter.unusedVariables false
set_option linter.unusedSimpArgs false
theorem read1_in (D : Vd) (k : Int) (h : k < D.many) : Vd.read1 D k = (wholeB (D.blk k), 0) := by
  unfold Vd.read1; rw [if_pos ((bounds_one D k).2 h)]
theorem trim_step (D : Vd) (ok : D.ok) (q b : Int) (hb : 0 ≤ b ∧ b < 4294967296) (hq : 0 ≤ q ∧ q ≤ 100) (s : Ses) (ha : aget D.opens 1 = some s) (hs : s.seq < q) :
    ∃ D' r, D.apply (enOf 2 1 q b 1 noB noB) = (D', r) ∧ D'.ok ∧ (r.e = 0 ↔ b < D.many) ∧ D'.many = D.many ∧ (∀ k, D'.blk k = if b < D.many ∧ k = b then noB else D.blk k) ∧ ∃ s', aget D'.opens 1 = some s' ∧ s'.seq = q := by
  have hok := ok.apply (enOf 2 1 q b 1 noB noB) (enOf_ok _ _ _ _ _ _ _ (by decide) (by decide) (by omega) (by omega) (by decide) (by decide) (by decide))
  obtain ⟨D', h1, h2, h3, h4⟩ := apply_step (D := D) (e := enOf 2 1 q b 1 noB noB) (trim_right 1 q b 1 (by decide) hb (by decide)) (by dsimp only; decide) (by dsimp only; decide) ha hs (ok.seq _ _ ha).1
  rw [h1] at hok
  rw [does_trim] at h1 h2 h3 h4
  have hbo := bounds_one D b
  refine ⟨D', _, h1, hok, ?_, ?_, ?_, _, h4, rfl⟩
  · by_cases h : D.bounds b 1 = true
    · rw [if_pos h]; exact ⟨fun _ => hbo.1 h, fun _ => rfl⟩
    · rw [if_neg h]; exact ⟨fun q => absurd q (by dsimp only; decide), fun q => absurd (hbo.2 q) h⟩
  · rw [h2]
    split <;> rfl
  · intro k
    rw [h3]
    by_cases h : D.bounds b 1 = true
    · rw [if_pos h]
      dsimp only
      rw [blk_trimTo]
      have := hbo.1 h
      have e1 : (1 : Int).toNat = 1 := rfl
      rw [e1]
      by_cases hk : k = b
      · rw [if_pos (by omega), if_pos ⟨this, hk⟩]
      · rw [if_neg (by omega), if_neg (fun q => hk q.2)]
    · rw [if_neg h, if_neg (fun q => h (hbo.2 q.1))]
theorem vd_writes (x y : Int) (s t : ByteArray) (hx : 0 ≤ x ∧ x < 10) (hy : 0 ≤ y ∧ y < 10) (hs : s.size ≤ 64) (ht : t.size ≤ 64) :
    ∃ (D1 D2 D3 : Vd) (p q r : Res), (vdBegun 8).apply (enOf 1 1 1 x 0 s noB) = (D1, p) ∧ D1.apply (enOf 1 1 2 y 0 t noB) = (D2, q) ∧ D2.apply (enOf 2 1 3 y 1 noB noB) = (D3, r) ∧ D1.ok ∧ D2.ok ∧ D3.ok ∧
      (p.e = 0 ↔ x < 8) ∧ (q.e = 0 ↔ y < 8) ∧ (r.e = 0 ↔ y < 8) ∧ (∀ k, 0 ≤ k → k < 8 → Vd.read1 D2 k = (wrWant x y s t k, 0)) ∧ (y < 8 → Vd.read1 D3 y = (wholeB noB, 0)) := by
  obtain ⟨D1, p, h1, ok1, r1, m1, b1, s1, a1, q1⟩ := write_step (vdBegun 8) (begun_ok 8 (by decide)) 1 x s (by omega) hs (by decide) ⟨0, 0, noB⟩ rfl (by dsimp only; decide)
  obtain ⟨D2, q, h2, ok2, r2, m2, b2, s2, a2, q2⟩ := write_step D1 ok1 2 y t (by omega) ht (by decide) s1 a1 (by omega)
  obtain ⟨D3, r, h3, ok3, r3, m3, b3, s3, a3, q3⟩ := trim_step D2 ok2 3 y (by omega) (by decide) s2 a2 (by omega)
  have hm0 : (vdBegun 8).many = 8 := rfl
  rw [hm0] at m1 r1 b1
  rw [m1] at m2 r2 b2
  rw [m2] at m3 r3 b3
  refine ⟨D1, D2, D3, p, q, r, h1, h2, h3, ok1, ok2, ok3, r1, r2, r3, ?_, ?_⟩
  · intro k hk hk2
    rw [read1_in D2 k (by rw [m2]; exact hk2), b2, b1, vdBegun_blk]
    unfold wrWant
    by_cases e1 : k = y
    · rw [if_pos ⟨by omega, e1⟩, if_pos e1, whole_bare t ht]
    · rw [if_neg (fun q => e1 q.2), if_neg e1]
      by_cases e2 : k = x
      · rw [if_pos ⟨by omega, e2⟩, if_pos e2, whole_bare s hs]
      · rw [if_neg (fun q => e2 q.2), if_neg e2]
  · intro hy8
    rw [read1_in D3 y (by rw [m3]; exact hy8), b3, if_pos ⟨hy8, rfl⟩]
end Go.Proofs.YtpebpcmppcpkdaaDoor
