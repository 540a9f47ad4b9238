/- VdiskSizes: plain laws. -/
import Derived.Test.YtpebpcmppcpkdaaDoorVdiskSwapsM
set_option maxRecDepth 16000
namespace Go.Pin
open Go.RowKit
set_option linter.unusedVariables false
set_option linter.unusedSimpArgs false
/-- One told entry of a client that has a session: what is left of the disk in words. -/
theorem apply_step {D : Vd} {e : En} (hr : e.right = true) (hc : ¬ e.client = 0) (h4 : ¬ e.kind = 4) {s : Ses} (ha : aget D.opens e.client = some s) (hq : s.seq < e.seq) (h0 : 0 ≤ s.seq) :
    ∃ D', D.apply e = (D', (D.does e).2) ∧ D'.many = (D.does e).1.many ∧ (∀ k, D'.blk k = (D.does e).1.blk k) ∧ aget D'.opens e.client = some ⟨e.seq, (D.does e).2.e, (D.does e).2.data⟩ :=
  ⟨_, apply_does hr hc h4 ha hq h0, rfl, fun _ => rfl, by dsimp only; rw [aget_set, if_pos rfl]⟩
theorem does_write (D : Vd) (c q b : Int) (d : ByteArray) : D.does (enOf 1 c q b 0 d noB) = if D.bounds b 1 = true then (D.setB b d, ⟨0, noB⟩) else (D, ⟨5, noB⟩) := by
  unfold Vd.does
  rw [if_pos (by dsimp only)]
  rfl
theorem does_resize (D : Vd) (c q n : Int) : D.does (enOf 3 c q 0 n noB noB) = if 128 < n then (D, ⟨5, noB⟩) else ({ D with many := n, blocks := D.blocks.filter fun p => decide (p.1 < n) }, ⟨0, noB⟩) := by
  unfold Vd.does
  rw [if_neg (by dsimp only; decide), if_neg (by dsimp only; decide), if_pos (by dsimp only)]
  rfl
theorem blk_filter (D : Vd) (m n k : Int) : ({ D with many := m, blocks := D.blocks.filter fun p => decide (p.1 < n) } : Vd).blk k = if k < n then D.blk k else ⟨#[]⟩ := by
  unfold Vd.blk
  dsimp only
  rw [aget_filter D.blocks (fun i => decide (i < n)) k]
  by_cases h : k < n
  · simp [h]
  · simp [h]
theorem bounds_one (D : Vd) (k : Int) : D.bounds k 1 = true ↔ k < D.many := by
  unfold Vd.bounds
  rw [Bool.and_eq_true, decide_eq_true_eq, decide_eq_true_eq]
  omega
end Go.Pin
namespace Go.Proofs.YtpebpcmppcpkdaaDoor
open Go.RowKit Go.Pin
set_option linter.unusedVariables false
set_option linter.unusedSimpArgs false
/-- A resize of the first client. -/
theorem resize_step (D : Vd) (ok : D.ok) (q n : Int) (hn : 0 ≤ n ∧ n < 4294967296) (hq : 0 ≤ q ∧ q ≤ 100) (s : Ses) (ha : aget D.opens 1 = some s) (hs : s.seq < q) :
    ∃ D' r, D.apply (enOf 3 1 q 0 n noB noB) = (D', r) ∧ D'.ok ∧ (r.e = 0 ↔ n ≤ 128) ∧ D'.many = (if n ≤ 128 then n else D.many) ∧ (∀ k, D'.blk k = if n ≤ 128 ∧ ¬ k < n then ⟨#[]⟩ else D.blk k) ∧ ∃ s', aget D'.opens 1 = some s' ∧ s'.seq = q := by
  have hok := ok.apply (enOf 3 1 q 0 n noB noB) (enOf_ok _ _ _ _ _ _ _ (by decide) (by decide) (by omega) (by decide) (by omega) (by decide) (by decide))
  obtain ⟨D', h1, h2, h3, h4⟩ := apply_step (D := D) (e := enOf 3 1 q 0 n noB noB) (resize_right 1 q n (by decide) hn) (by dsimp only; decide) (by dsimp only; decide) ha hs (ok.seq _ _ ha).1
  rw [h1] at hok
  rw [does_resize] at h1 h2 h3 h4
  refine ⟨D', _, h1, hok, ?_, ?_, ?_, _, h4, rfl⟩
  · by_cases h : 128 < n
    · rw [if_pos h]; dsimp only; omega
    · rw [if_neg h]; dsimp only; omega
  · rw [h2]
    by_cases h : 128 < n
    · rw [if_pos h, if_neg (by omega)]
    · rw [if_neg h, if_pos (by omega)]
  · intro k
    rw [h3]
    by_cases h : 128 < n
    · rw [if_pos h, if_neg (by omega)]
    · rw [if_neg h, blk_filter]
      by_cases hk : k < n
      · rw [if_pos hk, if_neg (by omega)]
      · rw [if_neg hk, if_pos (by omega)]
theorem write_step (D : Vd) (ok : D.ok) (q b : Int) (d : ByteArray) (hb : 0 ≤ b ∧ b < 4294967296) (hd : d.size ≤ 64) (hq : 0 ≤ q ∧ q ≤ 100) (s : Ses) (ha : aget D.opens 1 = some s) (hs : s.seq < q) :
    ∃ D' r, D.apply (enOf 1 1 q b 0 d noB) = (D', r) ∧ D'.ok ∧ (r.e = 0 ↔ b < D.many) ∧ D'.many = D.many ∧ (∀ k, D'.blk k = if b < D.many ∧ k = b then bareB d else D.blk k) ∧ ∃ s', aget D'.opens 1 = some s' ∧ s'.seq = q := by
  have hok := ok.apply (enOf 1 1 q b 0 d noB) (enOf_ok _ _ _ _ _ _ _ (by decide) (by decide) (by omega) (by omega) (by decide) (by omega) (by decide))
  obtain ⟨D', h1, h2, h3, h4⟩ := apply_step (D := D) (e := enOf 1 1 q b 0 d noB) (write_right 1 q b d (by decide) hb hd) (by dsimp only; decide) (by dsimp only; decide) ha hs (ok.seq _ _ ha).1
  rw [h1] at hok
  rw [does_write] at h1 h2 h3 h4
  have hbo := bounds_one D b
  refine ⟨D', _, h1, hok, ?_, ?_, ?_, _, h4, rfl⟩
  · by_cases h : D.bounds b 1 = true
    · rw [if_pos h]; exact ⟨fun _ => hbo.1 h, fun _ => rfl⟩
    · rw [if_neg h]; exact ⟨fun q => absurd q (by dsimp only; decide), fun q => absurd (hbo.2 q) h⟩
  · rw [h2]
    split
    · exact (setB_opens _ _ _).2
    · rfl
  · intro k
    rw [h3]
    by_cases h : D.bounds b 1 = true
    · rw [if_pos h, blk_setB]
      have := hbo.1 h
      by_cases hk : k = b
      · rw [if_pos hk, if_pos ⟨this, hk⟩]
      · rw [if_neg hk, if_neg (fun q => hk q.2)]
    · rw [if_neg h, if_neg (fun q => h (hbo.2 q.1))]
theorem vd_sizes (k n m : Int) (s : ByteArray) (hk : 0 ≤ k ∧ k < 128) (hn : 0 ≤ n ∧ n < 130) (hm : 0 ≤ m ∧ m < 130) (hs : s.size ≤ 64) :
    ∃ (D1 D2 D3 : Vd) (r p q : Res), (vdBegun 128).apply (enOf 1 1 1 k 0 s noB) = (D1, r) ∧ D1.apply (enOf 3 1 2 0 n noB noB) = (D2, p) ∧ D2.apply (enOf 3 1 3 0 m noB noB) = (D3, q) ∧ D1.ok ∧ D2.ok ∧ D3.ok ∧
      r.e = 0 ∧ (p.e = 0 ↔ n ≤ 128) ∧ (q.e = 0 ↔ m ≤ 128) ∧ D3.many = (if m ≤ 128 then m else if n ≤ 128 then n else 128) ∧
      D3.blk k = (if (n ≤ 128 → k < n) ∧ (m ≤ 128 → k < m) then bareB s else ⟨#[]⟩) := by
  obtain ⟨D1, r, h1, ok1, r1, m1, b1, s1, a1, q1⟩ := write_step (vdBegun 128) (begun_ok 128 (by decide)) 1 k s (by omega) hs (by decide) ⟨0, 0, noB⟩ rfl (by dsimp only; decide)
  obtain ⟨D2, p, h2, ok2, r2, m2, b2, s2, a2, q2⟩ := resize_step D1 ok1 2 n (by omega) (by decide) s1 a1 (by omega)
  obtain ⟨D3, q, h3, ok3, r3, m3, b3, s3, a3, q3⟩ := resize_step D2 ok2 3 m (by omega) (by decide) s2 a2 (by omega)
  have hmy : (vdBegun 128).many = 128 := rfl
  refine ⟨D1, D2, D3, r, p, q, h1, h2, h3, ok1, ok2, ok3, r1.2 (by rw [hmy]; omega), r2, r3, ?_, ?_⟩
  · rw [m3, m2, m1]
  · have e1 : D1.blk k = bareB s := by rw [b1, if_pos ⟨by rw [hmy]; omega, rfl⟩]
    rw [b3, b2, e1]
    by_cases g1 : m ≤ 128 ∧ ¬ k < m
    · rw [if_pos g1, if_neg (by omega)]
    · rw [if_neg g1]
      by_cases g2 : n ≤ 128 ∧ ¬ k < n
      · rw [if_pos g2, if_neg (by omega)]
      · rw [if_neg g2, if_pos (by omega)]
end Go.Proofs.YtpebpcmppcpkdaaDoor
