/- VdiskSwaps: plain laws. -/
import Derived.Test.YtpebpcmppcpkdaaDoorVdP
set_option maxRecDepth 16000
namespace Go.Pin
open Go.RowKit
set_option linter.unusedVariables false
set_option linter.unusedSimpArgs false
theorem write_right (c q b : Int) (d : ByteArray) (hc : 0 < c) (hb : 0 ≤ b ∧ b < 4294967296) (hd : d.size ≤ 64) : (enOf 1 c q b 0 d noB).right = true := by
  unfold En.right enFit
  simp [enF, enHas, hc, hb.2, hd]
theorem swap_right (c q b : Int) (d o : ByteArray) (hc : 0 < c) (hb : 0 ≤ b ∧ b < 4294967296) (hd : d.size ≤ 64) (ho : o.size ≤ 64) : (enOf 11 c q b 0 d o).right = true := by
  unfold En.right enFit
  simp [enF, enHas, hc, hb.2, hd, ho]
theorem trim_right (c q b m : Int) (hc : 0 < c) (hb : 0 ≤ b ∧ b < 4294967296) (hm : 0 ≤ m ∧ m < 4294967296) : (enOf 2 c q b m noB noB).right = true := by
  unfold En.right enFit
  simp [enF, enHas, hc, hb.2, hm.2]
theorem apply_does {D : Vd} {e : En} (hr : e.right = true) (hc : ¬ e.client = 0) (h4 : ¬ e.kind = 4) {s : Ses} (ha : aget D.opens e.client = some s) (hq : s.seq < e.seq) (h0 : 0 ≤ s.seq) :
    D.apply e = ({ (D.does e).1 with opens := aset (D.does e).1.opens e.client ⟨e.seq, (D.does e).2.e, (D.does e).2.data⟩ }, (D.does e).2) := by
  unfold Vd.apply
  rw [if_neg (by rw [hr]; decide), if_neg hc, if_neg h4, ha]
  dsimp only
  rw [if_neg (by rintro (q | q) <;> omega), if_pos hq]
theorem begun_ok (n : Int) (h : 0 ≤ n ∧ n ≤ 128) : (vdBegun n).ok := by
  refine ⟨h, fun k => Nat.zero_le _, fun c s hs => ?_⟩
  have h1 : s = ⟨0, 0, noB⟩ ∨ s = ⟨1, 0, noB⟩ := by
    unfold aget at hs
    obtain ⟨p, hp, rfl⟩ := Option.map_eq_some_iff.1 hs
    have := List.mem_of_find?_eq_some hp
    simp at this
    rcases this with rfl | rfl
    · exact .inl rfl
    · exact .inr rfl
  rcases h1 with rfl | rfl <;> exact ⟨by decide, by decide⟩
theorem setB_opens (D : Vd) (k : Int) (s : ByteArray) : (D.setB k s).opens = D.opens ∧ (D.setB k s).many = D.many := by
  unfold Vd.setB; split <;> exact ⟨rfl, rfl⟩
theorem blk_opens (D : Vd) (L : List (Int × Ses)) (k : Int) : ({ D with opens := L } : Vd).blk k = D.blk k := rfl
end Go.Pin
namespace Go.Proofs.YtpebpcmppcpkdaaDoor
open Go.RowKit Go.Pin
set_option linter.unusedVariables false
set_option linter.unusedSimpArgs false
theorem vd_swaps (a o n : ByteArray) (ha : a.size ≤ 64) (ho : o.size ≤ 64) (hn : n.size ≤ 64) :
    ∃ (D1 D2 : Vd) (r R : Res) (S : ByteArray), (vdBegun 2).apply (enOf 1 1 1 1 0 a noB) = (D1, r) ∧ D1.ok ∧ D1.apply (enOf 11 1 2 1 0 n o) = (D2, R) ∧ D2.ok ∧ Vd.read1 D2 1 = (S, 0) ∧
      ((wholeB a = wholeB o ∧ R = ⟨0, noB⟩ ∧ S = wholeB n) ∨ (wholeB a ≠ wholeB o ∧ R = ⟨11, wholeB a⟩ ∧ S = wholeB a)) := by
  have ok0 := begun_ok 2 (by decide)
  have ok1 := ok0.apply (enOf 1 1 1 1 0 a noB) (enOf_ok _ _ _ _ _ _ _ (by decide) (by decide) (by decide) (by decide) (by decide) (by omega) (by decide))
  have h1 := apply_does (D := vdBegun 2) (e := enOf 1 1 1 1 0 a noB) (write_right 1 1 1 a (by decide) (by decide) ha) (by dsimp only; decide) (by dsimp only; decide) (s := ⟨0, 0, noB⟩) rfl (by dsimp only; decide) (by decide)
  have hd1 : (vdBegun 2).does (enOf 1 1 1 1 0 a noB) = ((vdBegun 2).setB 1 a, ⟨0, noB⟩) := by
    unfold Vd.does
    rw [if_pos rfl]
    unfold Vd.write
    rw [if_pos (by rfl)]
  rw [hd1] at h1
  dsimp only at h1
  rw [h1] at ok1
  dsimp only at ok1
  have hb1 : ({ (vdBegun 2).setB 1 a with opens := aset ((vdBegun 2).setB 1 a).opens 1 ⟨1, 0, noB⟩ } : Vd).blk 1 = bareB a := by
    rw [blk_opens, blk_setB, if_pos rfl]
  have hm1 : ({ (vdBegun 2).setB 1 a with opens := aset ((vdBegun 2).setB 1 a).opens 1 ⟨1, 0, noB⟩ } : Vd).many = 2 := (setB_opens _ _ _).2
  have hs1 : aget ({ (vdBegun 2).setB 1 a with opens := aset ((vdBegun 2).setB 1 a).opens 1 ⟨1, 0, noB⟩ } : Vd).opens 1 = some ⟨1, 0, noB⟩ := by
    dsimp only; rw [aget_set, if_pos rfl]
  generalize ({ (vdBegun 2).setB 1 a with opens := aset ((vdBegun 2).setB 1 a).opens 1 ⟨1, 0, noB⟩ } : Vd) = D1 at *
  have ok2 := ok1.apply (enOf 11 1 2 1 0 n o) (enOf_ok _ _ _ _ _ _ _ (by decide) (by decide) (by decide) (by decide) (by decide) (by omega) (by omega))
  have h2 := apply_does (D := D1) (e := enOf 11 1 2 1 0 n o) (swap_right 1 2 1 n o (by decide) (by decide) hn ho) (by dsimp only; decide) (by dsimp only; decide) hs1 (by dsimp only; decide) (by decide)
  have hbd : D1.bounds 1 1 = true := by unfold Vd.bounds; rw [hm1]; rfl
  have hdo : D1.does (enOf 11 1 2 1 0 n o) = if bareB a ≠ bareB o then (D1, ⟨11, wholeB (bareB a)⟩) else (D1.setB 1 n, ⟨0, noB⟩) := by
    unfold Vd.does
    rw [if_neg (by dsimp only; decide), if_neg (by dsimp only; decide), if_neg (by dsimp only; decide)]
    unfold Vd.swap Vd.write
    dsimp only
    rw [hbd, hb1]
    simp
  have hbd2 : ∀ D : Vd, D.many = 2 → D.bounds 1 1 = true := fun D h => by unfold Vd.bounds; rw [h]; rfl
  rw [h2] at ok2
  by_cases q : bareB a = bareB o
  · rw [hdo, if_neg (by simp [q])] at h2 ok2
    dsimp only at h2 ok2
    refine ⟨D1, _, _, _, wholeB n, h1, ok1, h2, ok2, ?_, .inl ⟨(whole_eq a o ha ho).2 q, rfl, rfl⟩⟩
    unfold Vd.read1
    rw [if_pos (hbd2 _ (by dsimp only; rw [(setB_opens _ _ _).2]; exact hm1)), blk_opens, blk_setB, if_pos rfl, whole_bare n hn]
  · rw [hdo, if_pos q] at h2 ok2
    dsimp only at h2 ok2
    refine ⟨D1, _, _, _, wholeB a, h1, ok1, h2, ok2, ?_, .inr ⟨fun e => q ((whole_eq a o ha ho).1 e), by rw [whole_bare a ha], rfl⟩⟩
    unfold Vd.read1
    rw [if_pos (by exact hbd2 _ hm1), blk_opens, hb1, whole_bare a ha]
end Go.Proofs.YtpebpcmppcpkdaaDoor
