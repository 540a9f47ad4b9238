/- VdiskOnce: plain laws. -/
import Derived.Test.YtpebpcmppcpkdaaDoorVdInv
import Derived.Test.YtpebpcmppcpkdaaDoorMkR
import Derived.Test.YtpebpcmppcpkdaaDoorVdiskSwapsM
set_option maxRecDepth 16000
namespace Go.Pin
open Go.RowKit
set_option linter.unusedVariables false
set_option linter.unusedSimpArgs false
theorem own_ok (e : En) (he : e.ok) : e.own.ok := by
  have hk := enKind_in e.kind
  have h1 : 0 ≤ e.client % 5 + 1 ∧ e.client % 5 + 1 ≤ 10 := by have := he.client; omega
  have h2 : 0 ≤ e.block % 9 ∧ e.block % 9 ≤ 10 := by omega
  have h3 : 0 ≤ e.many % 9 ∧ e.many % 9 ≤ 10 := by omega
  have h4 : 1 ≤ e.node % 18446744073709551616 % 7 + 1 ∧ e.node % 18446744073709551616 % 7 + 1 ≤ 7 := by omega
  have h5 : 1 ≤ e.level % 18446744073709551616 % 2 + 1 ∧ e.level % 18446744073709551616 % 2 + 1 ≤ 2 := by omega
  have h6 := cut64_le e.data
  have h7 := cut64_le e.old
  have h8 : 0 ≤ e.seq % 9 ∧ e.seq % 9 ≤ 10 := by omega
  have h9 : 0 ≤ e.term % 1000 + 1 ∧ e.term % 1000 + 1 ≤ 1000 := by omega
  have h10 : 0 ≤ e.index % 1000 + 1 ∧ e.index % 1000 + 1 ≤ 1000 := by omega
  generalize hS : e.seq % 9 = S at *
  generalize hT : e.term % 1000 + 1 = T at *
  generalize hI : e.index % 1000 + 1 = I at *
  generalize hC : e.client % 5 + 1 = C at *
  generalize hB : e.block % 9 = B at *
  generalize hM : e.many % 9 = M at *
  generalize hN : e.node % 18446744073709551616 % 7 + 1 = N at *
  generalize hL : e.level % 18446744073709551616 % 2 + 1 = L at *
  generalize hD : cut64 e.data = D at *
  generalize hO : cut64 e.old = O at *
  have hc : enKind e.kind = 0 ∨ enKind e.kind = 1 ∨ enKind e.kind = 2 ∨ enKind e.kind = 3 ∨ enKind e.kind = 4 ∨ enKind e.kind = 5 ∨ enKind e.kind = 6 ∨ enKind e.kind = 7 ∨ enKind e.kind = 8 ∨ enKind e.kind = 9 ∨ enKind e.kind = 10 ∨ enKind e.kind = 11 := by omega
  unfold En.own enStart
  rcases hc with q | q | q | q | q | q | q | q | q | q | q | q <;> rw [q] <;> simp [enF, enPut, En.zero, hC, hB, hM, hN, hL, hD, hO, hS, hT, hI]
  all_goals (constructor <;> (try (constructor <;> (dsimp only; omega))) <;> (dsimp only; first | omega | exact Nat.zero_le _))
theorem own_pos (e : En) (he : e.ok) : 0 < e.own.index ∧ 0 < e.own.term := by
  have hc : enKind e.kind = 0 ∨ enKind e.kind = 1 ∨ enKind e.kind = 2 ∨ enKind e.kind = 3 ∨ enKind e.kind = 4 ∨ enKind e.kind = 5 ∨ enKind e.kind = 6 ∨ enKind e.kind = 7 ∨ enKind e.kind = 8 ∨ enKind e.kind = 9 ∨ enKind e.kind = 10 ∨ enKind e.kind = 11 := by have := enKind_in e.kind; omega
  have h9 : 0 < e.term % 1000 + 1 := by omega
  have h10 : 0 < e.index % 1000 + 1 := by omega
  generalize hT : e.term % 1000 + 1 = T at *
  generalize hI : e.index % 1000 + 1 = I at *
  unfold En.own enStart
  rcases hc with q | q | q | q | q | q | q | q | q | q | q | q <;> rw [q] <;> simp [enF, enPut, hT, hI] <;> exact ⟨h10, h9⟩
theorem own_is_right (e : En) (he : e.ok) : e.own.right = true := by
  have h := own_pos e he
  exact En.own_right e he e.own.index e.own.term h.1 h.2
/-- Another client, another number: an entry that is right and has a client stays right. -/
theorem right_client {e : En} (h : e.right = true) (hc : 0 < e.client) (c q : Int) (hc' : 0 < c) : ({ e with client := c, seq := q } : En).right = true := by
  unfold En.right at h ⊢
  simp only [Bool.and_eq_true] at h ⊢
  obtain ⟨⟨⟨h1, h2⟩, h3⟩, h4⟩ := h
  refine ⟨⟨⟨h1, h2⟩, h3⟩, ?_⟩
  obtain ⟨⟨⟨⟨⟨⟨g1, g2⟩, g3⟩, g4⟩, g5⟩, g6⟩, g7⟩ := h4
  refine ⟨⟨⟨⟨⟨⟨?_, g2⟩, g3⟩, g4⟩, g5⟩, g6⟩, g7⟩
  unfold enFit at g1 ⊢
  by_cases hh : enHas (enF e.kind).1 99 = true
  · rw [if_pos hh]; simpa using hc'
  · rw [if_neg hh] at g1
    simp [hc] at g1
end Go.Pin
namespace Go.Proofs.YtpebpcmppcpkdaaDoor
open Go.RowKit Go.Pin
set_option linter.unusedVariables false
set_option linter.unusedSimpArgs false
theorem begun_base (n : Int) (h : 0 ≤ n ∧ n ≤ 128) : (vdBegun n).base := by
  refine ⟨begun_ok n h, fun p hp => (by cases hp), fun p hp => ?_, fun p hp => ?_⟩
  · simp only [List.mem_cons, List.not_mem_nil, or_false] at hp
    rcases hp with rfl | rfl <;> exact ⟨by decide, by decide⟩
  · simp only [List.mem_cons, List.not_mem_nil, or_false] at hp
    rcases hp with rfl | rfl <;> exact ⟨by decide, by decide, by decide⟩
/-- What is asked twice is done once; what goes back, and what has no session, is refused. -/
theorem vd_once (e : En) (he : e.ok) (s : ByteArray) (t : ByteArray) (hs : s.size ≤ 64) (ht : t.size ≤ 64) (hc : ¬ e.own.client = 0) (h4 : ¬ e.own.kind = 4) :
    ∃ (D1 D2 : Vd) (z a : Res), (vdBegun 8).apply (enOf 1 2 2 3 0 s noB) = (D1, z) ∧ D1.ok ∧ D1.apply { e.own with client := 1, seq := 5 } = (D2, a) ∧ D2.ok ∧ Vd.fit D2 ∧
      D2.apply { e.own with client := 1, seq := 5 } = (D2, a) ∧ aget D2.opens 1 = some ⟨5, a.e, a.data⟩ ∧ D2.apply { e.own with client := 1, seq := 4 } = (D2, ⟨12, noB⟩) ∧
      D2.apply { e.own with client := 3, seq := 4 } = (D2, ⟨12, noB⟩) ∧ D2.apply (enOf 1 1 5 0 0 t noB) = (D2, a) := by
  have ho := own_ok e he
  have hr := own_is_right e he
  have hc' : 0 < e.own.client := by have := ho.client.1; omega
  generalize e.own = E at *
  have hk : E.kind = 1 ∨ E.kind = 2 ∨ E.kind = 3 ∨ E.kind = 11 := by
    rcases en_right_kind hr hc ho with q | q | q | q | q
    · exact .inl q
    · exact .inr (.inl q)
    · exact .inr (.inr (.inl q))
    · exact absurd q h4
    · exact .inr (.inr (.inr q))
  have hokn : ∀ c q : Int, 0 ≤ c → c ≤ 10 → 0 ≤ q → q ≤ 10 → ({ E with client := c, seq := q } : En).ok := fun c q h1 h2 h3 h5 => ⟨ho.term, ho.index, ho.kind, ⟨h1, by dsimp only; omega⟩, ⟨h3, by dsimp only; omega⟩, ho.block, ho.many, ho.node, ho.level, ho.data, ho.old⟩
  have b0 := begun_base 8 (by decide)
  have o1 := enOf_ok 1 2 2 3 0 s noB (by decide) (by decide) (by decide) (by decide) (by decide) (by omega) (by decide)
  obtain ⟨b1, _, l1, m1, n1⟩ := Vd.base.apply b0 _ o1
  have h1 := apply_does (D := vdBegun 8) (e := enOf 1 2 2 3 0 s noB) (write_right 2 2 3 s (by decide) (by decide) hs) (by dsimp only; decide) (by dsimp only; decide) (s := ⟨1, 0, noB⟩) rfl (by dsimp only; decide) (by decide)
  have hl1 : ((vdBegun 8).apply (enOf 1 2 2 3 0 s noB)).1.blocks.length ≤ 1 := l1
  have hn1 : ((vdBegun 8).apply (enOf 1 2 2 3 0 s noB)).1.opens.length = 2 := n1 ⟨1, 0, noB⟩ rfl
  have ha1 : aget ((vdBegun 8).apply (enOf 1 2 2 3 0 s noB)).1.opens 1 = some ⟨0, 0, noB⟩ ∧ aget ((vdBegun 8).apply (enOf 1 2 2 3 0 s noB)).1.opens 3 = none := by
    rw [h1]
    dsimp only
    have hop : ((vdBegun 8).does (enOf 1 2 2 3 0 s noB)).1.opens = (vdBegun 8).opens := (does_facts _ b0.ok b0.kb _ o1).2.1
    rw [hop]
    exact ⟨by rw [aget_set, if_neg (by decide)]; rfl, by rw [aget_set, if_neg (by decide)]; rfl⟩
  generalize hD1 : (vdBegun 8).apply (enOf 1 2 2 3 0 s noB) = P1 at *
  obtain ⟨D1, z⟩ := P1
  dsimp only at hl1 hn1 ha1 b1
  clear h1 l1 m1 n1
  have hr5 := right_client hr hc' 1 5 (by decide)
  have o2 := hokn 1 5 (by decide) (by decide) (by decide) (by decide)
  obtain ⟨b2, r2, l2, m2, n2⟩ := Vd.base.apply b1 _ o2
  have h2 := apply_does (D := D1) (e := { E with client := 1, seq := 5 }) hr5 (by dsimp only; decide) h4 (s := ⟨0, 0, noB⟩) ha1.1 (by dsimp only; decide) (by decide)
  have d2 := does_facts D1 b1.ok b1.kb _ o2
  have ha2 : aget (D1.apply { E with client := 1, seq := 5 }).1.opens 1 = some ⟨5, (D1.apply { E with client := 1, seq := 5 }).2.e, (D1.apply { E with client := 1, seq := 5 }).2.data⟩ ∧ aget (D1.apply { E with client := 1, seq := 5 }).1.opens 3 = none := by
    rw [h2]
    dsimp only
    rw [d2.2.1]
    exact ⟨by rw [aget_set, if_pos rfl], by rw [aget_set, if_neg (by decide)]; exact ha1.2⟩
  have hn2 := n2 ⟨0, 0, noB⟩ ha1.1
  generalize hD2 : D1.apply { E with client := 1, seq := 5 } = P2 at *
  obtain ⟨D2, a⟩ := P2
  dsimp only at b2 l2 m2 hn2 ha2
  have told : ∀ x : En, x.right = true → x.client = 1 → ¬ x.kind = 4 → x.seq = 5 → D2.apply x = (D2, a) := fun x q1 q2 q3 q4 => by
    unfold Vd.apply
    rw [if_neg (by rw [q1]; decide), if_neg (by rw [q2]; decide), if_neg q3, q2, ha2.1]
    dsimp only
    rw [q4, if_neg (by decide), if_neg (by decide)]
  refine ⟨D1, D2, z, a, rfl, b1.ok, hD2, b2.ok, Vd.base.fit b2 (by omega) (by omega), ?_, ha2.1, ?_, ?_, ?_⟩
  · exact told _ hr5 rfl h4 rfl
  · have hr4 := right_client hr hc' 1 4 (by decide)
    unfold Vd.apply
    rw [if_neg (by rw [hr4]; decide), if_neg (by dsimp only; decide), if_neg h4]
    dsimp only
    rw [ha2.1]
    dsimp only
    rw [if_pos (.inr (by decide))]
  · have hr4 := right_client hr hc' 3 4 (by decide)
    unfold Vd.apply
    rw [if_neg (by rw [hr4]; decide), if_neg (by dsimp only; decide), if_neg h4]
    dsimp only
    rw [ha2.2]
  · exact told _ (write_right 1 5 0 t (by decide) (by decide) ht) rfl (show ¬ (1 : Int) = 4 by decide) rfl
end Go.Proofs.YtpebpcmppcpkdaaDoor
