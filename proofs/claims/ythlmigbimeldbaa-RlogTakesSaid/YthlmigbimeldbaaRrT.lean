/- pintleref16: Take. -/
import Derived.Test.YthlmigbimeldbaaRrC
import Derived.Test.YthlmigbimeldbaaLgM
import Derived.Test.YthlmigbimeldbaaRegK
import Derived.Test.YthlmigbimeldbaaRsP
set_option maxRecDepth 16000
namespace Go.Pin
open Go.RowKit
set_option linter.unusedVariables false
set_option linter.unusedSimpArgs false
/-- What keeps Take from taking. -/
def takeBad (g : Lg) (prev term : Int) (more : List En) : Bool := !g.right || !(Lg.mk prev term more).right || (decide (g.base ≤ prev) && (!(g.term prev).isSome || decide ((g.term prev).getD 0 ≠ term)))
theorem take_bad {g : Lg} {prev term : Int} {more : List En} (h : takeBad g prev term more = true) : g.take prev term more = (g, 0, false) := by
  unfold Lg.take
  rw [if_pos]
  unfold takeBad at h
  cases h1 : g.right with
  | false => exact .inl rfl
  | true =>
    cases h2 : (Lg.mk prev term more).right with
    | false => exact .inr (.inl rfl)
    | true =>
      rw [h1, h2] at h
      simp only [Bool.not_true, Bool.false_or, Bool.and_eq_true, decide_eq_true_eq, Bool.or_eq_true, Bool.not_eq_true'] at h
      refine .inr (.inr ⟨h.1, ?_⟩)
      unfold Lg.same
      rw [decide_eq_false_iff_not]
      intro q
      rw [q] at h
      rcases h.2 with h3 | h3
      · cases h3
      · exact h3 rfl
theorem take_good {g : Lg} {prev term : Int} {more : List En} (h : takeBad g prev term more = false) : ¬ (g.right = false ∨ (Lg.mk prev term more).right = false ∨ (g.base ≤ prev ∧ g.same prev term = false)) := by
  unfold takeBad at h
  simp only [Bool.or_eq_false_iff, Bool.not_eq_false', Bool.and_eq_false_iff, decide_eq_false_iff_not] at h
  obtain ⟨⟨h1, h2⟩, h3⟩ := h
  rintro (q | q | ⟨q, q2⟩)
  · rw [h1] at q; cases q
  · rw [h2] at q; cases q
  · rcases h3 with h3 | ⟨h3, h4⟩
    · exact h3 q
    · unfold Lg.same at q2
      rw [decide_eq_false_iff_not] at q2
      apply q2
      cases hq : g.term prev with
      | none => rw [hq] at h3; cases h3
      | some t => rw [hq] at h4; simp at h4; rw [h4]
theorem lgMiss_no {g : Lg} {e : En} (h : lgMiss g e = false) : e.index ≤ g.base ∨ (g.base < e.index ∧ g.term e.index = some e.term) := by
  unfold lgMiss Lg.same at h
  by_cases q : g.base < e.index
  · right
    rw [decide_eq_true q, Bool.true_and, Bool.not_eq_false', decide_eq_true_eq] at h
    exact ⟨q, h⟩
  · left; omega
theorem lgMiss_yes {g : Lg} {e : En} (h : lgMiss g e = true) : g.base < e.index ∧ ¬ g.term e.index = some e.term := by
  unfold lgMiss Lg.same at h
  rw [Bool.and_eq_true, decide_eq_true_eq, Bool.not_eq_true', decide_eq_false_iff_not] at h
  exact h
end Go.Pin
namespace Go.Proofs.Ythlmigbimeldbaa
open Go.RowKit Go.Pin
set_option linter.unusedVariables false
set_option linter.unusedSimpArgs false
theorem Below.size' {B : Nat} {a b : World} (h : Below B a b) (hB : B ≤ a.heap.size) : B ≤ b.heap.size := Nat.le_trans hB h.size
theorem EntsAt.keep4 {blk : Nat} {a w : World} {p : Option Addr} {n : Nat} {L : List En} (h : EntsAt a p n L) (hk : Keep (fun b => b = blk) a w) (hN : ∀ A o, p = some ⟨A, o, none⟩ → A ≠ blk) : EntsAt w p n L := h.keep hk fun A o q q2 => hN A o q q2
theorem grownBy_cell {a b : World} {row : Option Nat} {p : Addr} {v : Value} (h : a.grownBy b row) (hc : a.cell? p = some v) (hn : row ≠ some p.block) : b.cell? p = some v := by
  rw [← hc]; exact World.cell?_of_block (w := a) (h.block p.block (World.block_lt_of_cell? _ _ hc) (fun q => hn q.symm))
theorem grownBy_frozen {a b : World} {row : Option Nat} {B o : Nat} {v : Value} (h : a.grownBy b row) (hc : a.cell? ⟨B, o, none⟩ = some v) (hn : row ≠ some B) (j : Nat) : b.frozen? ⟨B, j, none⟩ = a.frozen? ⟨B, j, none⟩ :=
  World.frozen?_of_block (w := a) (h.block B (World.block_lt_of_cell? _ _ hc) (fun q => hn q.symm))
set_option maxHeartbeats 3200000 in
theorem r16_take_bad (g : Lg) (ho : g.ok) (prev term : Int) (hp0 : 0 ≤ prev ∧ prev ≤ 18446744073709551615) (ht0 : 0 ≤ term ∧ term ≤ 18446744073709551615) (more : List En) (hm : ∀ e ∈ more, e.ok) (p p2 : Option Addr) (n c n2 c2 : Nat) (hn1 : n ≤ 500) (hn2 : n2 ≤ 500) (hc2 : n2 ≤ c2) (w : World) (hL : EntsAt w p n g.l) (hM : EntsAt w p2 n2 more) (hbad : takeBad g prev term more = true) :
    Calls Try.prog 19 #[g.val p n c, .int .u64 prev, .int .u64 term, .slice p2 n2 c2] w fun x w' => (∃ p' n' c', x = .returned (.tuple #[(g.take prev term more).1.val p' n' c', .int .u64 (g.take prev term more).2.1, .bool (g.take prev term more).2.2]) ∧ EntsAt w' p' n' (g.take prev term more).1.l) ∧ Below w.heap.size w w' := by
  have hk := (Keep.refl (fun _ => False) w).alloc (.cells #[.int .u64 g.base, .int .u64 g.bt, .slice p n c] 35)
  obtain ⟨cb, ct, cs⟩ := LgCells.new w 35 g p n c
  have hk2 := (Keep.refl (fun _ => False) (w.alloc (.cells #[.int .u64 g.base, .int .u64 g.bt, .slice p n c] 35))).alloc (.cells #[.int .u64 0, .int .u64 0, .slice none 0 0] 35)
  have hk3 := hk.trans hk2
  have hb := hk3.below (Nat.le_refl _) fun _ q => q.elim
  have hr0 : ((w.alloc (.cells #[.int .u64 g.base, .int .u64 g.bt, .slice p n c] 35)).alloc (.cells #[.int .u64 0, .int .u64 0, .slice none 0 0] 35)).cell? ⟨w.heap.size + 1, 0, none⟩ = some (.int .u64 0) := by simp
  have hr1 : ((w.alloc (.cells #[.int .u64 g.base, .int .u64 g.bt, .slice p n c] 35)).alloc (.cells #[.int .u64 0, .int .u64 0, .slice none 0 0] 35)).cell? ⟨w.heap.size + 1, 1, none⟩ = some (.int .u64 0) := by simp
  have hr2 : ((w.alloc (.cells #[.int .u64 g.base, .int .u64 g.bt, .slice p n c] 35)).alloc (.cells #[.int .u64 0, .int .u64 0, .slice none 0 0] 35)).cell? ⟨w.heap.size + 1, 2, none⟩ = some (.slice none 0 0) := by simp
  have hf0 : ∀ j, ((w.alloc (.cells #[.int .u64 g.base, .int .u64 g.bt, .slice p n c] 35)).alloc (.cells #[.int .u64 0, .int .u64 0, .slice none 0 0] 35)).frozen? ⟨w.heap.size + 1, j, none⟩ = false := by intro j; simp
  replace cb := hk2.cell cb id
  replace ct := hk2.cell ct id
  replace cs := hk2.cell cs id
  have HL := Pin.Aside.mk hL
  have HM := Pin.Aside.mk hM
  have HO := Pin.Aside.mk ho
  have HMO := Pin.Aside.mk hm
  have Hr1 := Pin.Aside.mk (fun W hW => r16_right g ho p n c (by omega) W hW)
  have Hr2 := Pin.Aside.mk (fun W hW => r16_chain prev term more hm p2 n2 c2 (by omega) W hW)
  have hre : (Lg.mk prev term more).right = (lgChain prev term more 0 && decide (prev < 4611686018427387904)) := rfl
  rw [← hre] at Hr2
  have Ht := Pin.Aside.mk (fun W hW => r16_term g prev p n c (by omega) W hW)
  have HTM := Pin.Aside.mk (fun (i : Int) W hW => r16_term g i p n c (by omega) W hW)
  obtain ⟨R1, hR1⟩ : ∃ b, g.right = b := ⟨_, rfl⟩
  obtain ⟨R2, hR2⟩ : ∃ b, (Lg.mk prev term more).right = b := ⟨_, rfl⟩
  obtain ⟨tp, htp⟩ : ∃ b, (g.term prev).getD 0 = b := ⟨_, rfl⟩
  obtain ⟨tok, htok⟩ : ∃ b, (g.term prev).isSome = b := ⟨_, rfl⟩
  have HBAD := Pin.Aside.mk (show takeBad g prev term more = (!R1 || !R2 || (decide (g.base ≤ prev) && (!tok || decide (tp ≠ term)))) by unfold takeBad; rw [hR1, hR2, htp, htok])
  rw [hR1] at Hr1
  rw [hR2] at Hr2
  rw [htp, htok] at Ht
  clear hk hk2 hk3 hL hM ho hm hre hR1 hR2 htp htok
  have HT := Pin.Aside.mk (take_bad hbad)
  rw [hbad] at HBAD
  clear hbad HTM
  have hgv : g = ⟨g.base, g.bt, g.l⟩ := rfl
  obtain ⟨base, bt, L⟩ := g
  dsimp only [Lg.val] at *
  go_enter Try.func19, Try.ntmps19
  go_upto_region 1 with fail
  generalize World.alloc (World.alloc _ _) _ = wa at *
  have hB0 : w.heap.size = w.heap.size := rfl
  generalize hB : w.heap.size = B at hb cb ct cs hr0 hr1 hr2 hf0 hB0 ⊢
  clear hB0 hgv
  have HF := Pin.Aside.mk hf0
  clear hf0
  go_wp2_with fail
  refine (Hr1.out _ (HL.out.below (by first | exact hb | (rw [hB]; exact hb)))).mono ?_
  rintro x w1 ⟨rfl, hbb⟩
  have hkk : Keep (fun _ => False) wa w1 := Keep.of_below hbb fun _ q _ => q
  replace cb := hkk.cell cb id
  replace ct := hkk.cell ct id
  replace cs := hkk.cell cs id
  have hf0 : ∀ j, w1.frozen? ⟨B + 1, j, none⟩ = false := fun j => (hkk.frozen_at (q := ⟨B + 1, j, none⟩) hr0 rfl id).trans (HF.out j)
  replace hr0 := hkk.cell hr0 id
  replace hr1 := hkk.cell hr1 id
  replace hr2 := hkk.cell hr2 id
  replace hb := hb.trans (hbb.mono (by first | exact hb.size | (rw [← hB]; exact hb.size)))
  replace HF := Pin.Aside.mk hf0
  clear hbb hkk hf0
  go_wp2_with fail
  refine (Hr2.out _ (HM.out.below (by first | exact hb | (rw [hB]; exact hb)))).mono ?_
  rintro x w2 ⟨rfl, hbb⟩
  have hkk : Keep (fun _ => False) w1 w2 := Keep.of_below hbb fun _ q _ => q
  replace cb := hkk.cell cb id
  replace ct := hkk.cell ct id
  replace cs := hkk.cell cs id
  have hf0 : ∀ j, w2.frozen? ⟨B + 1, j, none⟩ = false := fun j => (hkk.frozen_at (q := ⟨B + 1, j, none⟩) hr0 rfl id).trans (HF.out j)
  replace hr0 := hkk.cell hr0 id
  replace hr1 := hkk.cell hr1 id
  replace hr2 := hkk.cell hr2 id
  replace hb := hb.trans (hbb.mono (by first | exact hb.size | (rw [← hB]; exact hb.size)))
  replace HF := Pin.Aside.mk hf0
  clear hbb hkk hf0
  go_wp2_with fail
  refine (Ht.out _ (HL.out.below (by first | exact hb | (rw [hB]; exact hb)))).mono ?_
  rintro x w3 ⟨rfl, hbb⟩
  have hkk : Keep (fun _ => False) w2 w3 := Keep.of_below hbb fun _ q _ => q
  replace cb := hkk.cell cb id
  replace ct := hkk.cell ct id
  replace cs := hkk.cell cs id
  have hf0 : ∀ j, w3.frozen? ⟨B + 1, j, none⟩ = false := fun j => (hkk.frozen_at (q := ⟨B + 1, j, none⟩) hr0 rfl id).trans (HF.out j)
  replace hr0 := hkk.cell hr0 id
  replace hr1 := hkk.cell hr1 id
  replace hr2 := hkk.cell hr2 id
  replace hb := hb.trans (hbb.mono (by first | exact hb.size | (rw [← hB]; exact hb.size)))
  replace HF := Pin.Aside.mk hf0
  clear hbb hkk hf0
  clear Hr1 Hr2 Ht
  cases R1 with
  | false =>
    clear HBAD
    have hfa := HF.out 0
    have hfb := HF.out 1
    have hfc := HF.out 2
    have hk4 := ((((Keep.refl (fun b => b = B + 1) w3).setCell (p := ⟨B + 1, 0, none⟩) (.inl rfl) (.int .u64 base)).setCell (p := ⟨B + 1, 1, none⟩) (.inl rfl) (.int .u64 bt)).setCell (p := ⟨B + 1, 2, none⟩) (.inl rfl) (.slice p n c))
    have HB := Pin.Aside.mk (hb.trans (hk4.below (by first | exact hb.size | (rw [← hB]; exact hb.size)) fun q h => by rw [h]; omega))
    clear hk4 hb HF
    go_wp2_with fail
    refine bodyPost_ret (v := .tuple #[.agg #[.int .u64 base, .int .u64 bt, .slice p n c], .int .u64 0, .bool false]) (by simp [results, Try.results19, go_sem, *]) rfl ?_
    rw [HT.out]
    exact ⟨⟨p, n, c, rfl, HL.out.below (by first | exact HB.out | (rw [hB]; exact HB.out))⟩, by first | exact HB.out | (rw [hB]; exact HB.out)⟩
  | true =>
    cases R2 with
    | false =>
      clear HBAD
      have hfa := HF.out 0
      have hfb := HF.out 1
      have hfc := HF.out 2
      have hk4 := ((((Keep.refl (fun b => b = B + 1) w3).setCell (p := ⟨B + 1, 0, none⟩) (.inl rfl) (.int .u64 base)).setCell (p := ⟨B + 1, 1, none⟩) (.inl rfl) (.int .u64 bt)).setCell (p := ⟨B + 1, 2, none⟩) (.inl rfl) (.slice p n c))
      have HB := Pin.Aside.mk (hb.trans (hk4.below (by first | exact hb.size | (rw [← hB]; exact hb.size)) fun q h => by rw [h]; omega))
      clear hk4 hb HF
      go_wp2_with fail
      refine bodyPost_ret (v := .tuple #[.agg #[.int .u64 base, .int .u64 bt, .slice p n c], .int .u64 0, .bool false]) (by simp [results, Try.results19, go_sem, *]) rfl ?_
      rw [HT.out]
      exact ⟨⟨p, n, c, rfl, HL.out.below (by first | exact HB.out | (rw [hB]; exact HB.out))⟩, by first | exact HB.out | (rw [hB]; exact HB.out)⟩
    | true =>
      have hpb : base ≤ prev := by
        have := HBAD.out
        simp only [Bool.not_true, Bool.false_or] at this
        have h2 := (Bool.and_eq_true _ _ ▸ this.symm : _ ∧ _).1
        simpa using h2
      cases tok with
      | false =>
        clear HBAD
        have hfa := HF.out 0
        have hfb := HF.out 1
        have hfc := HF.out 2
        have hk4 := ((((Keep.refl (fun b => b = B + 1) w3).setCell (p := ⟨B + 1, 0, none⟩) (.inl rfl) (.int .u64 base)).setCell (p := ⟨B + 1, 1, none⟩) (.inl rfl) (.int .u64 bt)).setCell (p := ⟨B + 1, 2, none⟩) (.inl rfl) (.slice p n c))
        have HB := Pin.Aside.mk (hb.trans (hk4.below (by first | exact hb.size | (rw [← hB]; exact hb.size)) fun q h => by rw [h]; omega))
        clear hk4 hb HF
        go_wp2_with fail
        refine bodyPost_ret (v := .tuple #[.agg #[.int .u64 base, .int .u64 bt, .slice p n c], .int .u64 0, .bool false]) (by simp [results, Try.results19, go_sem, *]) rfl ?_
        rw [HT.out]
        exact ⟨⟨p, n, c, rfl, HL.out.below (by first | exact HB.out | (rw [hB]; exact HB.out))⟩, by first | exact HB.out | (rw [hB]; exact HB.out)⟩
      | true =>
        have hne : ¬ tp = term := by
          have := HBAD.out
          simp only [Bool.not_true, Bool.false_or] at this
          have h2 := (Bool.and_eq_true _ _ ▸ this.symm : _ ∧ _).2
          simpa using h2
        clear HBAD
        have hfa := HF.out 0
        have hfb := HF.out 1
        have hfc := HF.out 2
        have hk4 := ((((Keep.refl (fun b => b = B + 1) w3).setCell (p := ⟨B + 1, 0, none⟩) (.inl rfl) (.int .u64 base)).setCell (p := ⟨B + 1, 1, none⟩) (.inl rfl) (.int .u64 bt)).setCell (p := ⟨B + 1, 2, none⟩) (.inl rfl) (.slice p n c))
        have HB := Pin.Aside.mk (hb.trans (hk4.below (by first | exact hb.size | (rw [← hB]; exact hb.size)) fun q h => by rw [h]; omega))
        clear hk4 hb HF
        go_wp2_with fail
        refine bodyPost_ret (v := .tuple #[.agg #[.int .u64 base, .int .u64 bt, .slice p n c], .int .u64 0, .bool false]) (by simp [results, Try.results19, go_sem, *]) rfl ?_
        rw [HT.out]
        exact ⟨⟨p, n, c, rfl, HL.out.below (by first | exact HB.out | (rw [hB]; exact HB.out))⟩, by first | exact HB.out | (rw [hB]; exact HB.out)⟩
set_option maxHeartbeats 3200000 in
theorem r16_take_none (g : Lg) (ho : g.ok) (prev term : Int) (hp0 : 0 ≤ prev ∧ prev ≤ 18446744073709551615) (ht0 : 0 ≤ term ∧ term ≤ 18446744073709551615) (more : List En) (hm : ∀ e ∈ more, e.ok) (p p2 : Option Addr) (n c n2 c2 : Nat) (hn1 : n ≤ 500) (hn2 : n2 ≤ 500) (hc2 : n2 ≤ c2) (w : World) (hL : EntsAt w p n g.l) (hM : EntsAt w p2 n2 more) (hbad : takeBad g prev term more = false) (hnone : more.findIdx? (lgMiss g) = none) :
    Calls Try.prog 19 #[g.val p n c, .int .u64 prev, .int .u64 term, .slice p2 n2 c2] w fun x w' => (∃ p' n' c', x = .returned (.tuple #[(g.take prev term more).1.val p' n' c', .int .u64 (g.take prev term more).2.1, .bool (g.take prev term more).2.2]) ∧ EntsAt w' p' n' (g.take prev term more).1.l) ∧ Below w.heap.size w w' := by
  have hk := (Keep.refl (fun _ => False) w).alloc (.cells #[.int .u64 g.base, .int .u64 g.bt, .slice p n c] 35)
  obtain ⟨cb, ct, cs⟩ := LgCells.new w 35 g p n c
  have hk2 := (Keep.refl (fun _ => False) (w.alloc (.cells #[.int .u64 g.base, .int .u64 g.bt, .slice p n c] 35))).alloc (.cells #[.int .u64 0, .int .u64 0, .slice none 0 0] 35)
  have hk3 := hk.trans hk2
  have hb := hk3.below (Nat.le_refl _) fun _ q => q.elim
  have hr0 : ((w.alloc (.cells #[.int .u64 g.base, .int .u64 g.bt, .slice p n c] 35)).alloc (.cells #[.int .u64 0, .int .u64 0, .slice none 0 0] 35)).cell? ⟨w.heap.size + 1, 0, none⟩ = some (.int .u64 0) := by simp
  have hr1 : ((w.alloc (.cells #[.int .u64 g.base, .int .u64 g.bt, .slice p n c] 35)).alloc (.cells #[.int .u64 0, .int .u64 0, .slice none 0 0] 35)).cell? ⟨w.heap.size + 1, 1, none⟩ = some (.int .u64 0) := by simp
  have hr2 : ((w.alloc (.cells #[.int .u64 g.base, .int .u64 g.bt, .slice p n c] 35)).alloc (.cells #[.int .u64 0, .int .u64 0, .slice none 0 0] 35)).cell? ⟨w.heap.size + 1, 2, none⟩ = some (.slice none 0 0) := by simp
  have hf0 : ∀ j, ((w.alloc (.cells #[.int .u64 g.base, .int .u64 g.bt, .slice p n c] 35)).alloc (.cells #[.int .u64 0, .int .u64 0, .slice none 0 0] 35)).frozen? ⟨w.heap.size + 1, j, none⟩ = false := by intro j; simp
  replace cb := hk2.cell cb id
  replace ct := hk2.cell ct id
  replace cs := hk2.cell cs id
  have HL := Pin.Aside.mk hL
  have HM := Pin.Aside.mk hM
  have HO := Pin.Aside.mk ho
  have HMO := Pin.Aside.mk hm
  have Hr1 := Pin.Aside.mk (fun W hW => r16_right g ho p n c (by omega) W hW)
  have Hr2 := Pin.Aside.mk (fun W hW => r16_chain prev term more hm p2 n2 c2 (by omega) W hW)
  have hre : (Lg.mk prev term more).right = (lgChain prev term more 0 && decide (prev < 4611686018427387904)) := rfl
  rw [← hre] at Hr2
  have Ht := Pin.Aside.mk (fun W hW => r16_term g prev p n c (by omega) W hW)
  have HTM := Pin.Aside.mk (fun (i : Int) W hW => r16_term g i p n c (by omega) W hW)
  obtain ⟨R1, hR1⟩ : ∃ b, g.right = b := ⟨_, rfl⟩
  obtain ⟨R2, hR2⟩ : ∃ b, (Lg.mk prev term more).right = b := ⟨_, rfl⟩
  obtain ⟨tp, htp⟩ : ∃ b, (g.term prev).getD 0 = b := ⟨_, rfl⟩
  obtain ⟨tok, htok⟩ : ∃ b, (g.term prev).isSome = b := ⟨_, rfl⟩
  have HBAD := Pin.Aside.mk (show takeBad g prev term more = (!R1 || !R2 || (decide (g.base ≤ prev) && (!tok || decide (tp ≠ term)))) by unfold takeBad; rw [hR1, hR2, htp, htok])
  rw [hR1] at Hr1
  rw [hR2] at Hr2
  rw [htp, htok] at Ht
  clear hk hk2 hk3 hL hM ho hm hre hR1 hR2 htp htok
  have HG := Pin.Aside.mk (take_good hbad)
  rw [hbad] at HBAD
  clear hbad
  have HT := Pin.Aside.mk (show g.take prev term more = (g, 0, true) by unfold Lg.take; rw [if_neg HG.out, hnone])
  have HNO := Pin.Aside.mk (fun e he => by
    rw [List.findIdx?_eq_none_iff] at hnone
    exact hnone e he)
  clear hnone
  have hgv : g = ⟨g.base, g.bt, g.l⟩ := rfl
  obtain ⟨base, bt, L⟩ := g
  dsimp only [Lg.val] at *
  go_enter Try.func19, Try.ntmps19
  go_upto_region 1 with fail
  generalize World.alloc (World.alloc _ _) _ = wa at *
  have hB0 : w.heap.size = w.heap.size := rfl
  generalize hB : w.heap.size = B at hb cb ct cs hr0 hr1 hr2 hf0 hB0 ⊢
  clear hB0 hgv
  have HF := Pin.Aside.mk hf0
  clear hf0
  go_wp2_with fail
  refine (Hr1.out _ (HL.out.below (by first | exact hb | (rw [hB]; exact hb)))).mono ?_
  rintro x w1 ⟨rfl, hbb⟩
  have hkk : Keep (fun _ => False) wa w1 := Keep.of_below hbb fun _ q _ => q
  replace cb := hkk.cell cb id
  replace ct := hkk.cell ct id
  replace cs := hkk.cell cs id
  have hf0 : ∀ j, w1.frozen? ⟨B + 1, j, none⟩ = false := fun j => (hkk.frozen_at (q := ⟨B + 1, j, none⟩) hr0 rfl id).trans (HF.out j)
  replace hr0 := hkk.cell hr0 id
  replace hr1 := hkk.cell hr1 id
  replace hr2 := hkk.cell hr2 id
  replace hb := hb.trans (hbb.mono (by first | exact hb.size | (rw [← hB]; exact hb.size)))
  replace HF := Pin.Aside.mk hf0
  clear hbb hkk hf0
  go_wp2_with fail
  refine (Hr2.out _ (HM.out.below (by first | exact hb | (rw [hB]; exact hb)))).mono ?_
  rintro x w2 ⟨rfl, hbb⟩
  have hkk : Keep (fun _ => False) w1 w2 := Keep.of_below hbb fun _ q _ => q
  replace cb := hkk.cell cb id
  replace ct := hkk.cell ct id
  replace cs := hkk.cell cs id
  have hf0 : ∀ j, w2.frozen? ⟨B + 1, j, none⟩ = false := fun j => (hkk.frozen_at (q := ⟨B + 1, j, none⟩) hr0 rfl id).trans (HF.out j)
  replace hr0 := hkk.cell hr0 id
  replace hr1 := hkk.cell hr1 id
  replace hr2 := hkk.cell hr2 id
  replace hb := hb.trans (hbb.mono (by first | exact hb.size | (rw [← hB]; exact hb.size)))
  replace HF := Pin.Aside.mk hf0
  clear hbb hkk hf0
  go_wp2_with fail
  refine (Ht.out _ (HL.out.below (by first | exact hb | (rw [hB]; exact hb)))).mono ?_
  rintro x w3 ⟨rfl, hbb⟩
  have hkk : Keep (fun _ => False) w2 w3 := Keep.of_below hbb fun _ q _ => q
  replace cb := hkk.cell cb id
  replace ct := hkk.cell ct id
  replace cs := hkk.cell cs id
  have hf0 : ∀ j, w3.frozen? ⟨B + 1, j, none⟩ = false := fun j => (hkk.frozen_at (q := ⟨B + 1, j, none⟩) hr0 rfl id).trans (HF.out j)
  replace hr0 := hkk.cell hr0 id
  replace hr1 := hkk.cell hr1 id
  replace hr2 := hkk.cell hr2 id
  replace hb := hb.trans (hbb.mono (by first | exact hb.size | (rw [← hB]; exact hb.size)))
  replace HF := Pin.Aside.mk hf0
  clear hbb hkk hf0
  clear Hr1 Hr2 Ht
  go_upto_region 4 with fail
  go_cut [54] (fun v wx => v = .bool false ∧ wx = w3)
  case first =>
    have hR1 : R1 = true := by
      have := HBAD.out
      cases R1
      · simp at this
      · rfl
    subst hR1
    have hR2 : R2 = true := by
      have := HBAD.out
      cases R2
      · simp at this
      · rfl
    subst hR2
    by_cases hpb : base ≤ prev
    · have h2 := HBAD.out
      simp only [Bool.not_true, Bool.false_or, decide_eq_true hpb, Bool.true_and] at h2
      have h3 : tok = true := by cases tok; simp at h2; rfl
      subst h3
      have h4 : tp = term := by simpa using h2
      clear HBAD h2
      go_wp2_with fail
      go_meet
      exact ⟨rfl, rfl⟩
    · clear HBAD
      go_wp2_with fail
      go_meet
      exact ⟨rfl, rfl⟩
  case rest =>
    obtain ⟨rfl, hw3⟩ := hcut
    subst hw3
    clear HBAD
    have HB3 := Pin.Aside.mk hb
    have XC := Pin.Aside.mk (And.intro cb (And.intro ct (And.intro cs (And.intro hr0 (And.intro hr1 hr2)))))
    have HF3 := HF
    clear hb cb ct cs hr0 hr1 hr2 HF
    generalize wc = wS at *
    go_wp2_with fail
    go_loopw [15] (fun x wr => ∃ i : Nat, i ≤ n2 ∧ x = .int .i64 i ∧ Pin.Aside (Below wS.heap.size wS wr)) (fun x _ => n2 - (intOf x).toNat)
    case atStart => exact ⟨0, by omega, rfl, Pin.Aside.mk (Below.refl _ _)⟩
    case round =>
      obtain ⟨i, hi, rfl, HW⟩ := hrel
      have hkr : Keep (fun _ => False) wS wr := Keep.of_below HW.out fun _ q _ => q
      have hb := HB3.out.trans (HW.out.mono (by first | exact HB3.out.size | (rw [← hB]; exact HB3.out.size)))
      obtain ⟨cb, ct, cs, hr0, hr1, hr2⟩ := XC.out
      have HF : Pin.Aside (∀ j, wr.frozen? ⟨B + 1, j, none⟩ = false) := Pin.Aside.mk (fun j => (hkr.frozen_at (q := ⟨B + 1, j, none⟩) hr0 rfl id).trans (HF3.out j))
      replace cb := hkr.cell cb id
      replace ct := hkr.cell ct id
      replace cs := hkr.cell cs id
      replace hr0 := hkr.cell hr0 id
      replace hr1 := hkr.cell hr1 id
      replace hr2 := hkr.cell hr2 id
      clear hkr
      by_cases hlt : i < n2
      · obtain ⟨e, he⟩ : ∃ x, more[i]? = some x := ⟨more[i]'(by have := HM.out.len; omega), List.getElem?_eq_getElem (by have := HM.out.len; omega)⟩
        have hms : lgMiss ⟨base, bt, L⟩ e = false := HNO.out e (List.mem_of_getElem? he)
        obtain ⟨A, o, rfl, hE⟩ := HM.out.at' i e he
        have HE := Pin.Aside.mk (hE.keep (Keep.of_below (S := fun _ => False) hb fun _ q _ => by first | exact q | (rw [← hB]; exact q)) id)
        obtain ⟨d0, d1, d2, d3, d4, d5, d6, d7, d8, d9, d10⟩ := HE.out
        have hk0 : (0 : Int) ≤ (i : Int) := by omega
        have hk1 : (i : Int) < (n2 : Int) := by omega
        have hke := (Keep.refl (fun _ => False) wr).alloc (.cells e.cells 32)
        have HX := Pin.Aside.mk (EnAt.new wr 32 e)
        have HF' : Pin.Aside (∀ j, (wr.alloc (.cells e.cells 32)).frozen? ⟨B + 1, j, none⟩ = false) := Pin.Aside.mk (fun j => (hke.frozen_at (q := ⟨B + 1, j, none⟩) hr0 rfl id).trans (HF.out j))
        have Q := Pin.Aside.mk (And.intro (hke.cell cb id) (And.intro (hke.cell ct id) (And.intro (hke.cell cs id) (And.intro (hke.cell hr0 id) (And.intro (hke.cell hr1 id) (hke.cell hr2 id))))))
        have hb' := Pin.Aside.mk (hb.trans (hke.below (by first | exact hb.size | (rw [← hB]; exact hb.size)) fun _ q => q.elim))
        have hWe := Pin.Aside.mk (HW.out.trans (hke.below HW.out.size fun _ q => q.elim))
        have HEB := Pin.Aside.mk (World.block_lt_of_cell? _ _ hr0)
        clear hE hke he
        go_upto_region 10 with fail
        clear d0 d1 d2 d3 d4 d5 d6 d7 d8 d9 d10 cb ct cs hr0 hr1 hr2 HF hb
        generalize World.alloc wr _ = we at *
        generalize wr.heap.size = E at *
        obtain ⟨cb, ct, cs, hr0, hr1, hr2⟩ := Q.out
        have hb := hb'.out
        have HF := HF'
        have x1 := HX.out.c1
        have x0 := HX.out.c0
        simp only [Nat.zero_add] at x1 x0
        clear Q hb' HF'
        have Hx := Pin.Aside.mk (HTM.out e.index _ (HL.out.below (by first | exact hb | (rw [hB]; exact hb))))
        obtain ⟨ux, hux⟩ : ∃ b, ((Lg.mk base bt L).term e.index).getD 0 = b := ⟨_, rfl⟩
        obtain ⟨ui, hui⟩ : ∃ b, ((Lg.mk base bt L).term e.index).isSome = b := ⟨_, rfl⟩
        rw [hux, hui] at Hx
        have HUX := Pin.Aside.mk (And.intro hux hui)
        clear hux hui
        go_wp2_with fail
        refine Hx.out.mono ?_
        rintro x w5 ⟨rfl, hbb⟩
        have hW5 := Pin.Aside.mk (hWe.out.trans (hbb.mono hWe.out.size))
        have hk5 : Keep (fun _ => False) we w5 := Keep.of_below hbb fun _ q _ => q
        have HX5 := Pin.Aside.mk (HX.out.keep hk5 id)
        replace x1 := hk5.cell x1 id
        replace x0 := hk5.cell x0 id
        clear hk5
        have hkk : Keep (fun _ => False) we w5 := Keep.of_below hbb fun _ q _ => q
        replace cb := hkk.cell cb id
        replace ct := hkk.cell ct id
        replace cs := hkk.cell cs id
        have hf0 : ∀ j, w5.frozen? ⟨B + 1, j, none⟩ = false := fun j => (hkk.frozen_at (q := ⟨B + 1, j, none⟩) hr0 rfl id).trans (HF.out j)
        replace hr0 := hkk.cell hr0 id
        replace hr1 := hkk.cell hr1 id
        replace hr2 := hkk.cell hr2 id
        replace hb := hb.trans (hbb.mono (by first | exact hb.size | (rw [← hB]; exact hb.size)))
        replace HF := Pin.Aside.mk hf0
        clear hbb hkk hf0
        clear Hx HX hWe
        rcases lgMiss_no hms with h1 | ⟨h1, h2⟩
        · clear HUX
          dsimp only at h1
          go_wp2_with fail
          go_roundw
          case rel => exact ⟨i + 1, by omega, by go_num, hW5⟩
          case measure => simp [intOf]; omega
        · dsimp only at h1
          have hu1 : ux = e.term := by rw [← HUX.out.1, h2]; rfl
          have hu2 : ui = true := by rw [← HUX.out.2, h2]; rfl
          subst hu2
          clear HUX h2
          go_wp2_with fail
          go_roundw
          case rel => exact ⟨i + 1, by omega, by go_num, hW5⟩
          case measure => simp [intOf]; omega
      · have hi2 : i = n2 := by omega
        have hfa := HF.out 0
        have hfb := HF.out 1
        have hfc := HF.out 2
        have hk4 := ((((Keep.refl (fun b => b = B + 1) wr).setCell (p := ⟨B + 1, 0, none⟩) (.inl rfl) (.int .u64 base)).setCell (p := ⟨B + 1, 1, none⟩) (.inl rfl) (.int .u64 bt)).setCell (p := ⟨B + 1, 2, none⟩) (.inl rfl) (.slice p n c))
        have HB := Pin.Aside.mk (hb.trans (hk4.below (by first | exact hb.size | (rw [← hB]; exact hb.size)) fun q h => by rw [h]; omega))
        clear hk4 hb HF
        go_wp2_with fail
        refine bodyPost_ret (v := .tuple #[.agg #[.int .u64 base, .int .u64 bt, .slice p n c], .int .u64 0, .bool true]) (by simp [results, Try.results19, go_sem, *]) rfl ?_
        rw [HT.out]
        exact ⟨⟨p, n, c, rfl, HL.out.below (by first | exact HB.out | (rw [hB]; exact HB.out))⟩, by first | exact HB.out | (rw [hB]; exact HB.out)⟩
set_option maxHeartbeats 6400000 in
theorem r16_take_some (g : Lg) (ho : g.ok) (prev term : Int) (hp0 : 0 ≤ prev ∧ prev ≤ 18446744073709551615) (ht0 : 0 ≤ term ∧ term ≤ 18446744073709551615) (more : List En) (hm : ∀ e ∈ more, e.ok) (p p2 : Option Addr) (n c n2 c2 : Nat) (hn1 : n ≤ 500) (hn2 : n2 ≤ 500) (hc2 : n2 ≤ c2) (w : World) (hL : EntsAt w p n g.l) (hM : EntsAt w p2 n2 more) (hbad : takeBad g prev term more = false) (k : Nat) (ek : En) (hfind : more.findIdx? (lgMiss g) = some k) (hek : more[k]? = some ek) :
    Calls Try.prog 19 #[g.val p n c, .int .u64 prev, .int .u64 term, .slice p2 n2 c2] w fun x w' => (∃ p' n' c', x = .returned (.tuple #[(g.take prev term more).1.val p' n' c', .int .u64 (g.take prev term more).2.1, .bool (g.take prev term more).2.2]) ∧ EntsAt w' p' n' (g.take prev term more).1.l) ∧ Below w.heap.size w w' := by
  have hk := (Keep.refl (fun _ => False) w).alloc (.cells #[.int .u64 g.base, .int .u64 g.bt, .slice p n c] 35)
  obtain ⟨cb, ct, cs⟩ := LgCells.new w 35 g p n c
  have hk2 := (Keep.refl (fun _ => False) (w.alloc (.cells #[.int .u64 g.base, .int .u64 g.bt, .slice p n c] 35))).alloc (.cells #[.int .u64 0, .int .u64 0, .slice none 0 0] 35)
  have hk3 := hk.trans hk2
  have hb := hk3.below (Nat.le_refl _) fun _ q => q.elim
  have hr0 : ((w.alloc (.cells #[.int .u64 g.base, .int .u64 g.bt, .slice p n c] 35)).alloc (.cells #[.int .u64 0, .int .u64 0, .slice none 0 0] 35)).cell? ⟨w.heap.size + 1, 0, none⟩ = some (.int .u64 0) := by simp
  have hr1 : ((w.alloc (.cells #[.int .u64 g.base, .int .u64 g.bt, .slice p n c] 35)).alloc (.cells #[.int .u64 0, .int .u64 0, .slice none 0 0] 35)).cell? ⟨w.heap.size + 1, 1, none⟩ = some (.int .u64 0) := by simp
  have hr2 : ((w.alloc (.cells #[.int .u64 g.base, .int .u64 g.bt, .slice p n c] 35)).alloc (.cells #[.int .u64 0, .int .u64 0, .slice none 0 0] 35)).cell? ⟨w.heap.size + 1, 2, none⟩ = some (.slice none 0 0) := by simp
  have hf0 : ∀ j, ((w.alloc (.cells #[.int .u64 g.base, .int .u64 g.bt, .slice p n c] 35)).alloc (.cells #[.int .u64 0, .int .u64 0, .slice none 0 0] 35)).frozen? ⟨w.heap.size + 1, j, none⟩ = false := by intro j; simp
  replace cb := hk2.cell cb id
  replace ct := hk2.cell ct id
  replace cs := hk2.cell cs id
  have HL := Pin.Aside.mk hL
  have HM := Pin.Aside.mk hM
  have HO := Pin.Aside.mk ho
  have HMO := Pin.Aside.mk hm
  have Hr1 := Pin.Aside.mk (fun W hW => r16_right g ho p n c (by omega) W hW)
  have Hr2 := Pin.Aside.mk (fun W hW => r16_chain prev term more hm p2 n2 c2 (by omega) W hW)
  have hre : (Lg.mk prev term more).right = (lgChain prev term more 0 && decide (prev < 4611686018427387904)) := rfl
  rw [← hre] at Hr2
  have Ht := Pin.Aside.mk (fun W hW => r16_term g prev p n c (by omega) W hW)
  have HTM := Pin.Aside.mk (fun (i : Int) W hW => r16_term g i p n c (by omega) W hW)
  obtain ⟨R1, hR1⟩ : ∃ b, g.right = b := ⟨_, rfl⟩
  obtain ⟨R2, hR2⟩ : ∃ b, (Lg.mk prev term more).right = b := ⟨_, rfl⟩
  obtain ⟨tp, htp⟩ : ∃ b, (g.term prev).getD 0 = b := ⟨_, rfl⟩
  obtain ⟨tok, htok⟩ : ∃ b, (g.term prev).isSome = b := ⟨_, rfl⟩
  have HBAD := Pin.Aside.mk (show takeBad g prev term more = (!R1 || !R2 || (decide (g.base ≤ prev) && (!tok || decide (tp ≠ term)))) by unfold takeBad; rw [hR1, hR2, htp, htok])
  rw [hR1] at Hr1
  rw [hR2] at Hr2
  rw [htp, htok] at Ht
  clear hk hk2 hk3 hL hM ho hm hre hR1 hR2 htp htok
  have HG := Pin.Aside.mk (take_good hbad)
  rw [hbad] at HBAD
  clear hbad
  obtain ⟨hgr, hgc⟩ : g.right = true ∧ g.base < 4611686018427387904 := by
    have h1 : g.right = true := by
      cases hq : g.right with
      | true => rfl
      | false => exact absurd (.inl hq) HG.out
    refine ⟨h1, ?_⟩
    unfold Lg.right at h1
    rw [Bool.and_eq_true, decide_eq_true_eq] at h1
    exact h1.2
  have HIX := Pin.Aside.mk (show ∀ (j : Nat) (x : En), g.l[j]? = some x → x.index = g.base + j + 1 from fun j x hx => by
    unfold Lg.right at hgr
    rw [Bool.and_eq_true, lgChain_fits] at hgr
    have h2 := hgr.1 j x hx
    have h3 := (List.getElem?_eq_some_iff.1 hx).1
    have h4 := HL.out.len
    have h5 := HO.out.base
    unfold lgFits at h2
    simp only [Bool.and_eq_true, decide_eq_true_eq] at h2
    have h6 := h2.1.2
    omega)
  obtain ⟨K, hK⟩ : ∃ K : Nat, K = min ((ek.index - g.base - 1).toNat) g.l.length := ⟨_, rfl⟩
  have HT := Pin.Aside.mk (show g.take prev term more = if (Lg.mk g.base g.bt (g.l.take K ++ more.drop k)).right = true then (⟨g.base, g.bt, g.l.take K ++ more.drop k⟩, ek.index, true) else (g, 0, false) by
    unfold Lg.take
    rw [if_neg HG.out, hfind]
    dsimp only
    rw [show more.getD k En.zero = ek by rw [List.getD_eq_getElem?_getD, hek]; rfl, ← hK])
  have HNO : Pin.Aside (∀ (j : Nat) (e : En), j < k → more[j]? = some e → lgMiss g e = false) := Pin.Aside.mk (fun j e hj he => by
    have h5 := hfind
    rw [List.findIdx?_eq_some_iff_getElem] at h5
    obtain ⟨q1, q2, q3⟩ := h5
    have h6 := q3 j hj
    rw [List.getElem?_eq_getElem (by omega)] at he
    simp only [Option.some.injEq] at he
    rw [he] at h6
    simpa using h6)
  have hmis : lgMiss g ek = true := by
    rw [List.findIdx?_eq_some_iff_getElem] at hfind
    obtain ⟨q1, q2, _⟩ := hfind
    rw [List.getElem?_eq_getElem q1] at hek
    cases hek; exact q2
  have HMS := Pin.Aside.mk hmis
  have hkn : k < n2 := by rw [← HM.out.len]; exact (List.getElem?_eq_some_iff.1 hek).1
  have hKn : K ≤ n := by rw [hK, HL.out.len]; exact Nat.min_le_right _ _
  have HK := Pin.Aside.mk (show ∀ j : Nat, j < n → (g.base + j + 1 < ek.index ↔ j < K) from fun j hj => by
    have h1 := (lgMiss_yes hmis).1
    rw [hK, HL.out.len]; omega)
  have HEK := Pin.Aside.mk hek
  have HOK := Pin.Aside.mk (show (Lg.mk g.base g.bt (g.l.take K ++ more.drop k)).ok from ⟨HO.out.base, HO.out.bt, fun x hx => by
    rcases List.mem_append.1 hx with q | q
    · exact HO.out.l x (List.mem_of_mem_take q)
    · exact HMO.out x (List.mem_of_mem_drop q)⟩)
  have HLM := Pin.Aside.mk (show (g.l.take K ++ more.drop k).length = K + (n2 - k) by rw [List.length_append, List.length_take, List.length_drop, HL.out.len, HM.out.len]; omega)
  have HTK := Pin.Aside.mk (show (g.l.take K).length = K by rw [List.length_take, HL.out.len]; omega)
  clear hfind hek hmis hgr hgc hK
  have hgv : g = ⟨g.base, g.bt, g.l⟩ := rfl
  obtain ⟨base, bt, L⟩ := g
  dsimp only [Lg.val] at *
  go_enter Try.func19, Try.ntmps19
  go_upto_region 1 with fail
  generalize World.alloc (World.alloc _ _) _ = wa at *
  have hB0 : w.heap.size = w.heap.size := rfl
  generalize hB : w.heap.size = B at hb cb ct cs hr0 hr1 hr2 hf0 hB0 ⊢
  clear hB0 hgv
  have HF := Pin.Aside.mk hf0
  clear hf0
  go_wp2_with fail
  refine (Hr1.out _ (HL.out.below (by first | exact hb | (rw [hB]; exact hb)))).mono ?_
  rintro x w1 ⟨rfl, hbb⟩
  have hkk : Keep (fun _ => False) wa w1 := Keep.of_below hbb fun _ q _ => q
  replace cb := hkk.cell cb id
  replace ct := hkk.cell ct id
  replace cs := hkk.cell cs id
  have hf0 : ∀ j, w1.frozen? ⟨B + 1, j, none⟩ = false := fun j => (hkk.frozen_at (q := ⟨B + 1, j, none⟩) hr0 rfl id).trans (HF.out j)
  replace hr0 := hkk.cell hr0 id
  replace hr1 := hkk.cell hr1 id
  replace hr2 := hkk.cell hr2 id
  replace hb := hb.trans (hbb.mono (by first | exact hb.size | (rw [← hB]; exact hb.size)))
  replace HF := Pin.Aside.mk hf0
  clear hbb hkk hf0
  go_wp2_with fail
  refine (Hr2.out _ (HM.out.below (by first | exact hb | (rw [hB]; exact hb)))).mono ?_
  rintro x w2 ⟨rfl, hbb⟩
  have hkk : Keep (fun _ => False) w1 w2 := Keep.of_below hbb fun _ q _ => q
  replace cb := hkk.cell cb id
  replace ct := hkk.cell ct id
  replace cs := hkk.cell cs id
  have hf0 : ∀ j, w2.frozen? ⟨B + 1, j, none⟩ = false := fun j => (hkk.frozen_at (q := ⟨B + 1, j, none⟩) hr0 rfl id).trans (HF.out j)
  replace hr0 := hkk.cell hr0 id
  replace hr1 := hkk.cell hr1 id
  replace hr2 := hkk.cell hr2 id
  replace hb := hb.trans (hbb.mono (by first | exact hb.size | (rw [← hB]; exact hb.size)))
  replace HF := Pin.Aside.mk hf0
  clear hbb hkk hf0
  go_wp2_with fail
  refine (Ht.out _ (HL.out.below (by first | exact hb | (rw [hB]; exact hb)))).mono ?_
  rintro x w3 ⟨rfl, hbb⟩
  have hkk : Keep (fun _ => False) w2 w3 := Keep.of_below hbb fun _ q _ => q
  replace cb := hkk.cell cb id
  replace ct := hkk.cell ct id
  replace cs := hkk.cell cs id
  have hf0 : ∀ j, w3.frozen? ⟨B + 1, j, none⟩ = false := fun j => (hkk.frozen_at (q := ⟨B + 1, j, none⟩) hr0 rfl id).trans (HF.out j)
  replace hr0 := hkk.cell hr0 id
  replace hr1 := hkk.cell hr1 id
  replace hr2 := hkk.cell hr2 id
  replace hb := hb.trans (hbb.mono (by first | exact hb.size | (rw [← hB]; exact hb.size)))
  replace HF := Pin.Aside.mk hf0
  clear hbb hkk hf0
  clear Hr1 Hr2 Ht
  go_upto_region 4 with fail
  go_cut [54] (fun v wx => v = .bool false ∧ wx = w3)
  case first =>
    have hR1 : R1 = true := by
      have := HBAD.out
      cases R1
      · simp at this
      · rfl
    subst hR1
    have hR2 : R2 = true := by
      have := HBAD.out
      cases R2
      · simp at this
      · rfl
    subst hR2
    by_cases hpb : base ≤ prev
    · have h2 := HBAD.out
      simp only [Bool.not_true, Bool.false_or, decide_eq_true hpb, Bool.true_and] at h2
      have h3 : tok = true := by cases tok; simp at h2; rfl
      subst h3
      have h4 : tp = term := by simpa using h2
      clear HBAD h2
      go_wp2_with fail
      go_meet
      exact ⟨rfl, rfl⟩
    · clear HBAD
      go_wp2_with fail
      go_meet
      exact ⟨rfl, rfl⟩
  case rest =>
    obtain ⟨rfl, hw3⟩ := hcut
    subst hw3
    clear HBAD
    have HB3 := Pin.Aside.mk hb
    have XC := Pin.Aside.mk (And.intro cb (And.intro ct (And.intro cs (And.intro hr0 (And.intro hr1 hr2)))))
    have HF3 := HF
    clear hb cb ct cs hr0 hr1 hr2 HF
    generalize wc = wS at *
    go_wp2_with fail
    go_loopw [15] (fun x wr => ∃ i : Nat, i ≤ k ∧ x = .int .i64 i ∧ Pin.Aside (Below wS.heap.size wS wr)) (fun x _ => n2 - (intOf x).toNat)
    case atStart => exact ⟨0, by omega, rfl, Pin.Aside.mk (Below.refl _ _)⟩
    case round =>
      obtain ⟨i, hi, rfl, HW⟩ := hrel
      have hkr : Keep (fun _ => False) wS wr := Keep.of_below HW.out fun _ q _ => q
      have hb := HB3.out.trans (HW.out.mono (by first | exact HB3.out.size | (rw [← hB]; exact HB3.out.size)))
      obtain ⟨cb, ct, cs, hr0, hr1, hr2⟩ := XC.out
      have HF : Pin.Aside (∀ j, wr.frozen? ⟨B + 1, j, none⟩ = false) := Pin.Aside.mk (fun j => (hkr.frozen_at (q := ⟨B + 1, j, none⟩) hr0 rfl id).trans (HF3.out j))
      replace cb := hkr.cell cb id
      replace ct := hkr.cell ct id
      replace cs := hkr.cell cs id
      replace hr0 := hkr.cell hr0 id
      replace hr1 := hkr.cell hr1 id
      replace hr2 := hkr.cell hr2 id
      clear hkr
      by_cases hlt : i < k
      · have hlt2 : i < n2 := by omega
        obtain ⟨e, he⟩ : ∃ x, more[i]? = some x := ⟨more[i]'(by have := HM.out.len; omega), List.getElem?_eq_getElem (by have := HM.out.len; omega)⟩
        have hms : lgMiss ⟨base, bt, L⟩ e = false := HNO.out i e hlt he
        obtain ⟨A, o, rfl, hE⟩ := HM.out.at' i e he
        have HE := Pin.Aside.mk (hE.keep (Keep.of_below (S := fun _ => False) hb fun _ q _ => by first | exact q | (rw [← hB]; exact q)) id)
        obtain ⟨d0, d1, d2, d3, d4, d5, d6, d7, d8, d9, d10⟩ := HE.out
        have hk0 : (0 : Int) ≤ (i : Int) := by omega
        have hk1 : (i : Int) < (n2 : Int) := by omega
        have hke := (Keep.refl (fun _ => False) wr).alloc (.cells e.cells 32)
        have HX := Pin.Aside.mk (EnAt.new wr 32 e)
        have HF' : Pin.Aside (∀ j, (wr.alloc (.cells e.cells 32)).frozen? ⟨B + 1, j, none⟩ = false) := Pin.Aside.mk (fun j => (hke.frozen_at (q := ⟨B + 1, j, none⟩) hr0 rfl id).trans (HF.out j))
        have Q := Pin.Aside.mk (And.intro (hke.cell cb id) (And.intro (hke.cell ct id) (And.intro (hke.cell cs id) (And.intro (hke.cell hr0 id) (And.intro (hke.cell hr1 id) (hke.cell hr2 id))))))
        have hb' := Pin.Aside.mk (hb.trans (hke.below (by first | exact hb.size | (rw [← hB]; exact hb.size)) fun _ q => q.elim))
        have hWe := Pin.Aside.mk (HW.out.trans (hke.below HW.out.size fun _ q => q.elim))
        have HEB := Pin.Aside.mk (World.block_lt_of_cell? _ _ hr0)
        clear hE hke he
        go_upto_region 10 with fail
        clear d0 d1 d2 d3 d4 d5 d6 d7 d8 d9 d10 cb ct cs hr0 hr1 hr2 HF hb
        generalize World.alloc wr _ = we at *
        generalize wr.heap.size = E at *
        obtain ⟨cb, ct, cs, hr0, hr1, hr2⟩ := Q.out
        have hb := hb'.out
        have HF := HF'
        have x1 := HX.out.c1
        have x0 := HX.out.c0
        simp only [Nat.zero_add] at x1 x0
        clear Q hb' HF'
        have Hx := Pin.Aside.mk (HTM.out e.index _ (HL.out.below (by first | exact hb | (rw [hB]; exact hb))))
        obtain ⟨ux, hux⟩ : ∃ b, ((Lg.mk base bt L).term e.index).getD 0 = b := ⟨_, rfl⟩
        obtain ⟨ui, hui⟩ : ∃ b, ((Lg.mk base bt L).term e.index).isSome = b := ⟨_, rfl⟩
        rw [hux, hui] at Hx
        have HUX := Pin.Aside.mk (And.intro hux hui)
        clear hux hui
        go_wp2_with fail
        refine Hx.out.mono ?_
        rintro x w5 ⟨rfl, hbb⟩
        have hW5 := Pin.Aside.mk (hWe.out.trans (hbb.mono hWe.out.size))
        have hk5 : Keep (fun _ => False) we w5 := Keep.of_below hbb fun _ q _ => q
        have HX5 := Pin.Aside.mk (HX.out.keep hk5 id)
        replace x1 := hk5.cell x1 id
        replace x0 := hk5.cell x0 id
        clear hk5
        have hkk : Keep (fun _ => False) we w5 := Keep.of_below hbb fun _ q _ => q
        replace cb := hkk.cell cb id
        replace ct := hkk.cell ct id
        replace cs := hkk.cell cs id
        have hf0 : ∀ j, w5.frozen? ⟨B + 1, j, none⟩ = false := fun j => (hkk.frozen_at (q := ⟨B + 1, j, none⟩) hr0 rfl id).trans (HF.out j)
        replace hr0 := hkk.cell hr0 id
        replace hr1 := hkk.cell hr1 id
        replace hr2 := hkk.cell hr2 id
        replace hb := hb.trans (hbb.mono (by first | exact hb.size | (rw [← hB]; exact hb.size)))
        replace HF := Pin.Aside.mk hf0
        clear hbb hkk hf0
        clear Hx HX hWe
        rcases lgMiss_no hms with h1 | ⟨h1, h2⟩
        · clear HUX
          dsimp only at h1
          go_wp2_with fail
          go_roundw
          case rel => exact ⟨i + 1, by omega, by go_num, hW5⟩
          case measure => simp [intOf]; omega
        · dsimp only at h1
          have hu1 : ux = e.term := by rw [← HUX.out.1, h2]; rfl
          have hu2 : ui = true := by rw [← HUX.out.2, h2]; rfl
          subst hu2
          clear HUX h2
          go_wp2_with fail
          go_roundw
          case rel => exact ⟨i + 1, by omega, by go_num, hW5⟩
          case measure => simp [intOf]; omega
      · have hik : i = k := by omega
        subst hik
        have hlt2 : i < n2 := hkn
        have he := HEK.out
        generalize hee : ek = e at *
        clear hee
        obtain ⟨A, o, rfl, hE⟩ := HM.out.at' i e he
        have HE := Pin.Aside.mk (hE.keep (Keep.of_below (S := fun _ => False) hb fun _ q _ => by first | exact q | (rw [← hB]; exact q)) id)
        obtain ⟨d0, d1, d2, d3, d4, d5, d6, d7, d8, d9, d10⟩ := HE.out
        have hk0 : (0 : Int) ≤ (i : Int) := by omega
        have hk1 : (i : Int) < (n2 : Int) := by omega
        have hke := (Keep.refl (fun _ => False) wr).alloc (.cells e.cells 32)
        have HX := Pin.Aside.mk (EnAt.new wr 32 e)
        have HF' : Pin.Aside (∀ j, (wr.alloc (.cells e.cells 32)).frozen? ⟨B + 1, j, none⟩ = false) := Pin.Aside.mk (fun j => (hke.frozen_at (q := ⟨B + 1, j, none⟩) hr0 rfl id).trans (HF.out j))
        have Q := Pin.Aside.mk (And.intro (hke.cell cb id) (And.intro (hke.cell ct id) (And.intro (hke.cell cs id) (And.intro (hke.cell hr0 id) (And.intro (hke.cell hr1 id) (hke.cell hr2 id))))))
        have hb' := Pin.Aside.mk (hb.trans (hke.below (by first | exact hb.size | (rw [← hB]; exact hb.size)) fun _ q => q.elim))
        have hWe := Pin.Aside.mk (HW.out.trans (hke.below HW.out.size fun _ q => q.elim))
        have HEB := Pin.Aside.mk (World.block_lt_of_cell? _ _ hr0)
        clear hE hke he
        go_upto_region 10 with fail
        clear d0 d1 d2 d3 d4 d5 d6 d7 d8 d9 d10 cb ct cs hr0 hr1 hr2 HF hb
        generalize World.alloc wr _ = we at *
        generalize wr.heap.size = E at *
        obtain ⟨cb, ct, cs, hr0, hr1, hr2⟩ := Q.out
        have hb := hb'.out
        have HF := HF'
        have x1 := HX.out.c1
        have x0 := HX.out.c0
        simp only [Nat.zero_add] at x1 x0
        clear Q hb' HF'
        have Hx := Pin.Aside.mk (HTM.out e.index _ (HL.out.below (by first | exact hb | (rw [hB]; exact hb))))
        obtain ⟨ux, hux⟩ : ∃ b, ((Lg.mk base bt L).term e.index).getD 0 = b := ⟨_, rfl⟩
        obtain ⟨ui, hui⟩ : ∃ b, ((Lg.mk base bt L).term e.index).isSome = b := ⟨_, rfl⟩
        rw [hux, hui] at Hx
        have HUX := Pin.Aside.mk (And.intro hux hui)
        clear hux hui
        go_wp2_with fail
        refine Hx.out.mono ?_
        rintro x w5 ⟨rfl, hbb⟩
        have hW5 := Pin.Aside.mk (hWe.out.trans (hbb.mono hWe.out.size))
        have hk5 : Keep (fun _ => False) we w5 := Keep.of_below hbb fun _ q _ => q
        have HX5 := Pin.Aside.mk (HX.out.keep hk5 id)
        replace x1 := hk5.cell x1 id
        replace x0 := hk5.cell x0 id
        clear hk5
        have hkk : Keep (fun _ => False) we w5 := Keep.of_below hbb fun _ q _ => q
        replace cb := hkk.cell cb id
        replace ct := hkk.cell ct id
        replace cs := hkk.cell cs id
        have hf0 : ∀ j, w5.frozen? ⟨B + 1, j, none⟩ = false := fun j => (hkk.frozen_at (q := ⟨B + 1, j, none⟩) hr0 rfl id).trans (HF.out j)
        replace hr0 := hkk.cell hr0 id
        replace hr1 := hkk.cell hr1 id
        replace hr2 := hkk.cell hr2 id
        replace hb := hb.trans (hbb.mono (by first | exact hb.size | (rw [← hB]; exact hb.size)))
        replace HF := Pin.Aside.mk hf0
        clear hbb hkk hf0
        clear Hx HX hWe
        obtain ⟨hg1, hg2⟩ := lgMiss_yes HMS.out
        go_upto_region 11 with fail
        go_cut [86] (fun v wx => v = .bool false ∧ wx = w5)
        case first =>
          cases ui with
          | false =>
            clear HUX hg2
            have hg1f : decide (e.index ≤ base) = false := by rw [decide_eq_false_iff_not]; first | omega | (dsimp only at hg1; omega)
            go_wp2_with fail
            go_meet
            exact ⟨rfl, rfl⟩
          | true =>
            have hun : ¬ ux = e.term := by
              intro q
              apply hg2
              cases hq : (Lg.mk base bt L).term e.index with
              | none => rw [hq] at HUX; have := HUX.out.2; cases this
              | some t => rw [hq] at HUX; have := HUX.out.1; rw [← q, ← this]; rfl
            clear HUX hg2
            have hg1f : decide (e.index ≤ base) = false := by rw [decide_eq_false_iff_not]; first | omega | (dsimp only at hg1; omega)
            have hunf : (ux == e.term) = false := beq_false_of_ne hun
            go_wp2_with fail
            go_meet
            exact ⟨rfl, rfl⟩
        case rest =>
          obtain ⟨rfl, hw5⟩ := hcut
          subst hw5
          clear HUX hg2
          generalize wc = w5 at *
          have hO0 : w5.heap.size = w5.heap.size := rfl
          have hka := (Keep.refl (fun _ => False) w5).alloc (.cells #[.int .u64 base, .int .u64 bt, .slice none 0 0] 35)
          have HB6 := Pin.Aside.mk (hb.trans (hka.below (by first | exact hb.size | (rw [← hB]; exact hb.size)) fun _ q => q.elim))
          have o0 : (w5.alloc (.cells #[.int .u64 base, .int .u64 bt, .slice none 0 0] 35)).cell? ⟨w5.heap.size, 0, none⟩ = some (.int .u64 base) := by simp
          have o1 : (w5.alloc (.cells #[.int .u64 base, .int .u64 bt, .slice none 0 0] 35)).cell? ⟨w5.heap.size, 1, none⟩ = some (.int .u64 bt) := by simp
          have o2 : (w5.alloc (.cells #[.int .u64 base, .int .u64 bt, .slice none 0 0] 35)).cell? ⟨w5.heap.size, 2, none⟩ = some (.slice none 0 0) := by simp
          have of : ∀ j, (w5.alloc (.cells #[.int .u64 base, .int .u64 bt, .slice none 0 0] 35)).frozen? ⟨w5.heap.size, j, none⟩ = false := by intro j; simp
          have hB6 : Below w5.heap.size w5 (w5.alloc (.cells #[.int .u64 base, .int .u64 bt, .slice none 0 0] 35)) := hka.below (Nat.le_refl _) fun _ q => q.elim
          have HOF := Pin.Aside.mk of
          have HXB := Pin.Aside.mk (World.block_lt_of_cell? _ _ x1)
          have HRB := Pin.Aside.mk (World.block_lt_of_cell? _ _ hr0)
          have HCB := Pin.Aside.mk (World.block_lt_of_cell? _ _ cb)
          have XC5 := Pin.Aside.mk (And.intro cb (And.intro ct (And.intro cs (And.intro hr0 (And.intro hr1 (And.intro hr2 (And.intro x0 x1)))))))
          have HB5 := Pin.Aside.mk hb
          clear of hka
          go_upto_region 13 with fail
          have O0 := Pin.Aside.mk (And.intro o0 (And.intro o1 o2))
          have HBI := Pin.Aside.mk hB6
          clear o0 o1 o2 hB6 cb ct cs hr0 hr1 hr2 x0 x1 hb
          generalize World.alloc w5 _ = w6 at *
          generalize hO : w5.heap.size = O at *
          clear hO0
          have HO5 := Pin.Aside.mk hO
          clear hO
          go_wp2_with fail
          clear hlt hlt2 hi
          go_loopw [20] (fun x wr => ∃ (kk : Nat) (v : Value), kk ≤ K ∧ x = .int .i64 kk ∧ Pin.Aside (Below O w5 wr) ∧ Pin.Aside (wr.cell? ⟨O, 0, none⟩ = some (.int .u64 base) ∧ wr.cell? ⟨O, 1, none⟩ = some (.int .u64 bt) ∧ wr.cell? ⟨O, 2, none⟩ = some v) ∧ Pin.Aside (∀ j, wr.frozen? ⟨O, j, none⟩ = false) ∧ Pin.Aside (OwnE wr (O + 1) 32 v (L.take kk))) (fun x _ => K - (intOf x).toNat)
          case atStart => exact ⟨0, .slice none 0 0, by omega, rfl, HBI, O0, HOF, Pin.Aside.mk (ownE_nil _ _ _)⟩
          case round =>
            clear HBI O0 HOF HB6
            obtain ⟨kk, v, hkk0, rfl, HBI, O0, HOF, HV⟩ := hrel
            have hkr : Keep (fun _ => False) w5 wr := Keep.of_below HBI.out fun b q _ => by rw [HO5.out] at q; exact q
            obtain ⟨cb, ct, cs, hr0, hr1, hr2, x0, x1⟩ := XC5.out
            replace cb := hkr.cell cb id
            replace ct := hkr.cell ct id
            replace cs := hkr.cell cs id
            replace hr0 := hkr.cell hr0 id
            replace hr1 := hkr.cell hr1 id
            replace hr2 := hkr.cell hr2 id
            replace x0 := hkr.cell x0 id
            replace x1 := hkr.cell x1 id
            obtain ⟨o0, o1, o2⟩ := O0.out
            have HLr := Pin.Aside.mk ((HL.out.below (by first | exact HB5.out | (rw [hB]; exact HB5.out))).keep' hkr)
            have HMr := Pin.Aside.mk ((HM.out.below (by first | exact HB5.out | (rw [hB]; exact HB5.out))).keep' hkr)
            have HFr : Pin.Aside (∀ j, wr.frozen? ⟨B + 1, j, none⟩ = false) := Pin.Aside.mk (fun j => (hkr.frozen_at (q := ⟨B + 1, j, none⟩) XC5.out.2.2.2.1 rfl id).trans (HF.out j))
            clear hkr
            go_upto_region 14 with fail
            go_cut [107] (fun v wx => v = .bool (decide (kk < K)) ∧ ∃ nq, wx = wr.drewN nq)
            case first =>
              by_cases hq : kk < K
              · have hkn2 : kk < n := by omega
                have hkl : kk < L.length := by rw [HLr.out.len]; exact hkn2
                obtain ⟨y, hy⟩ : ∃ y, L[kk]? = some y := ⟨L[kk], List.getElem?_eq_getElem hkl⟩
                have hyi := HIX.out kk y hy
                try dsimp only at hyi
                have hyl : y.index < e.index := by have := (HK.out kk hkn2).2 hq; (try dsimp only at this); omega
                obtain ⟨A', o', rfl, hY⟩ := HLr.out.at' kk y hy
                have y1 := hY.c1
                have hk0' : (0 : Int) ≤ (kk : Int) := by omega
                have hk1' : (kk : Int) < (n : Int) := by omega
                clear hyi hY hy
                go_quiet (fail)
                go_wp2_with fail
                go_meet
                exact ⟨by rw [decide_eq_true hq], _, rfl⟩
              · by_cases hkn2 : kk < n
                · have hkl : kk < L.length := by rw [HLr.out.len]; exact hkn2
                  obtain ⟨y, hy⟩ : ∃ y, L[kk]? = some y := ⟨L[kk], List.getElem?_eq_getElem hkl⟩
                  have hyi := HIX.out kk y hy
                  try dsimp only at hyi
                  have hyl : decide (y.index < e.index) = false := by rw [decide_eq_false_iff_not]; intro q; exact hq ((HK.out kk hkn2).1 (by (try dsimp only); omega))
                  obtain ⟨A', o', rfl, hY⟩ := HLr.out.at' kk y hy
                  have y1 := hY.c1
                  have hk0' : (0 : Int) ≤ (kk : Int) := by omega
                  have hk1' : (kk : Int) < (n : Int) := by omega
                  clear hyi hY hy
                  go_quiet (fail)
                  go_wp2_with fail
                  go_meet
                  exact ⟨by rw [decide_eq_false hq], _, rfl⟩
                · have hk1' : decide ((kk : Int) < (n : Int)) = false := by rw [decide_eq_false_iff_not]; omega
                  go_quiet (fail)
                  go_wp2_with fail
                  go_meet
                  exact ⟨by rw [decide_eq_false hq], _, rfl⟩
            case rest =>
              obtain ⟨rfl, nq, hwc⟩ := hcut
              have hkd : Keep (fun _ => False) wr wc := by rw [hwc]; exact (Keep.refl _ _).drewN nq
              have hfd : ∀ q, wc.frozen? q = wr.frozen? q := fun q => by rw [hwc]; rfl
              clear hwc
              obtain ⟨wd, hwd⟩ : ∃ wd, wd = wc := ⟨_, rfl⟩
              subst hwd
              replace cb := hkd.cell cb id
              replace ct := hkd.cell ct id
              replace cs := hkd.cell cs id
              replace hr0 := hkd.cell hr0 id
              replace hr1 := hkd.cell hr1 id
              replace hr2 := hkd.cell hr2 id
              replace x0 := hkd.cell x0 id
              replace x1 := hkd.cell x1 id
              replace o0 := hkd.cell o0 id
              replace o1 := hkd.cell o1 id
              replace o2 := hkd.cell o2 id
              have HBd : Pin.Aside (Below O w5 wd) := Pin.Aside.mk (HBI.out.trans (hkd.below (by have := HBI.out.size; have := HO5.out; omega) fun _ q => q.elim))
              replace HLr := Pin.Aside.mk (HLr.out.keep' hkd)
              replace HMr := Pin.Aside.mk (HMr.out.keep' hkd)
              have HVd := Pin.Aside.mk (ownE_keep HV.out hkd fun _ _ q => q)
              have HOFd : Pin.Aside (∀ j, wd.frozen? ⟨O, j, none⟩ = false) := Pin.Aside.mk (fun j => (hfd _).trans (HOF.out j))
              have HFd : Pin.Aside (∀ j, wd.frozen? ⟨B + 1, j, none⟩ = false) := Pin.Aside.mk (fun j => (hfd _).trans (HFr.out j))
              clear hkd hfd HBI O0 HOF HV HFr
              have hOlt := World.block_lt_of_cell? _ _ o0
              dsimp only at hOlt
              have hN : O + 1 ≤ wd.heap.size := hOlt
              by_cases hq : kk < K
              · have hqq : decide (kk < K) = true := decide_eq_true hq
                rw [hqq]
                have hkn2 : kk < n := by omega
                have hkl : kk < L.length := by rw [HLr.out.len]; exact hkn2
                obtain ⟨y, hy⟩ : ∃ y, L[kk]? = some y := ⟨L[kk], List.getElem?_eq_getElem hkl⟩
                obtain ⟨A', o', rfl, hY⟩ := HLr.out.at' kk y hy
                have hk0' : (0 : Int) ≤ (kk : Int) := by omega
                have hk1' : (kk : Int) < (n : Int) := by omega
                have hsnoc : L.take kk ++ [y] = L.take (kk + 1) := by rw [List.take_add_one, hy]; rfl
                obtain ⟨c0, c1, c2, c3, c4, c5, c6, c7, c8, c9, c10⟩ := hY
                go_upto_region 16 with fail
                have hAlt : A' ≤ O := by
                  have h1 := World.block_lt_of_cell? _ _ c0
                  have h2 := HL.out.at' kk y hy
                  obtain ⟨A2, o2', q, hY2⟩ := h2
                  cases q
                  have h3 := World.block_lt_of_cell? _ _ hY2.c0
                  have h4 := HB5.out.size
                  have h5 := HO5.out
                  try dsimp only at h3
                  omega
                have hBlt : B ≤ O := by
                  have h3 := HCB.out
                  have h5 := HO5.out
                  try dsimp only at h3
                  omega
                have k0 : ∀ s' : KW (fun b => O < b) wd, s'.w.cell? ⟨O, 2, none⟩ = some (v) := fun s' => s'.keep.cell o2 (by simp)
                have k1 : ∀ s' : KW (fun b => O < b) wd, s'.w.cell? ⟨B, 2, none⟩ = some (.slice (some ⟨A', o', none⟩) n c) := fun s' => s'.keep.cell cs (by simp; omega)
                have k2 : ∀ s' : KW (fun b => O < b) wd, s'.w.cell? ⟨A', o' + kk * 11, none⟩ = some (.int .u64 y.term) := fun s' => s'.keep.cell c0 (by simp; omega)
                have k3 : ∀ s' : KW (fun b => O < b) wd, s'.w.cell? ⟨A', o' + kk * 11 + 1, none⟩ = some (.int .u64 y.index) := fun s' => s'.keep.cell c1 (by simp; omega)
                have k4 : ∀ s' : KW (fun b => O < b) wd, s'.w.cell? ⟨A', o' + kk * 11 + 2, none⟩ = some (.int .i64 y.kind) := fun s' => s'.keep.cell c2 (by simp; omega)
                have k5 : ∀ s' : KW (fun b => O < b) wd, s'.w.cell? ⟨A', o' + kk * 11 + 3, none⟩ = some (.int .u64 y.client) := fun s' => s'.keep.cell c3 (by simp; omega)
                have k6 : ∀ s' : KW (fun b => O < b) wd, s'.w.cell? ⟨A', o' + kk * 11 + 4, none⟩ = some (.int .u64 y.seq) := fun s' => s'.keep.cell c4 (by simp; omega)
                have k7 : ∀ s' : KW (fun b => O < b) wd, s'.w.cell? ⟨A', o' + kk * 11 + 5, none⟩ = some (.int .u64 y.block) := fun s' => s'.keep.cell c5 (by simp; omega)
                have k8 : ∀ s' : KW (fun b => O < b) wd, s'.w.cell? ⟨A', o' + kk * 11 + 6, none⟩ = some (.int .u64 y.many) := fun s' => s'.keep.cell c6 (by simp; omega)
                have k9 : ∀ s' : KW (fun b => O < b) wd, s'.w.cell? ⟨A', o' + kk * 11 + 7, none⟩ = some (.int .i64 y.node) := fun s' => s'.keep.cell c7 (by simp; omega)
                have k10 : ∀ s' : KW (fun b => O < b) wd, s'.w.cell? ⟨A', o' + kk * 11 + 8, none⟩ = some (.int .i64 y.level) := fun s' => s'.keep.cell c8 (by simp; omega)
                have k11 : ∀ s' : KW (fun b => O < b) wd, s'.w.cell? ⟨A', o' + kk * 11 + 9, none⟩ = some (.string y.data) := fun s' => s'.keep.cell c9 (by simp; omega)
                have k12 : ∀ s' : KW (fun b => O < b) wd, s'.w.cell? ⟨A', o' + kk * 11 + 10, none⟩ = some (.string y.old) := fun s' => s'.keep.cell c10 (by simp; omega)
                have hS0 : ∃ s' : KW (fun b => O < b) wd, wd.drew = s'.w := ⟨⟨wd.drew, (Keep.refl _ wd).drew⟩, rfl⟩
                refine wp_region_stayK (S := fun w' => ∃ s' : KW (fun b => O < b) wd, w' = s'.w) 10 7 (by kernel_rfl) (by simp) (by kernel_rfl) (by kernel_rfl) hS0 ?_
                simp only [List.take_succ_cons, List.take_zero]
                refine wpStay_quietS 7 _ _ (by kernel_rfl) ?_
                simp only [List.take_succ_cons, List.take_zero, List.drop_succ_cons, List.drop_zero]
                repeat (go_big_quiet_step (fail))
                refine wpQuiet_nil ?_
                refine wpStay_nil ?_
                clear k0 k1 k2 k3 k4 k5 k6 k7 k8 k9 k10 k11 k12
                have hke := ((Keep.refl (fun _ => False) wd).alloc (.cells y.cells 32)).drew
                have hNew := (EnAt.new wd 32 y).keep ((Keep.refl (fun _ => False) (wd.alloc (.cells y.cells 32))).drew) id
                refine wpAnyK_one 7 (by kernel_rfl) rfl (fun K' hK' => ?_)
                go_simp
                refine hK'.out _ _ (fun _ => ⟨⟨_, hke.mono fun _ q => q.elim⟩, rfl⟩) ?_
                clear hK' K' c0 c1 c2 c3 c4 c5 c6 c7 c8 c9 c10 cb ct cs hr0 hr1 hr2 x0 x1
                have o0N := hke.cell o0 id
                have o1N := hke.cell o1 id
                have o2N := hke.cell o2 id
                have hfN : ∀ j, ((wd.alloc (.cells y.cells 32)).drew).frozen? ⟨O, j, none⟩ = false := fun j => (hke.frozen_at (q := ⟨O, j, none⟩) o0 rfl id).trans (HOFd.out j)
                have hVN := ownE_keep HVd.out hke fun _ _ q => q
                have hbN : Below (O + 1) wd ((wd.alloc (.cells y.cells 32)).drew) := hke.below hN fun _ q => q.elim
                clear hke o0 o1 o2
                generalize (World.alloc wd _).drew = wN at *
                refine wpAnyK_one 8 (by kernel_rfl) rfl (fun K' hK' => ?_)
                rw [if_pos (by rfl)]
                refine wp_en_append _ _ rfl (O + 1) (Nat.le_trans hN hbN.size) v (L.take kk) [y] (some ⟨wd.heap.size, 0, none⟩) 1 1 (by rfl) (by rfl) hVN ⟨rfl, fun j z hz => ?_⟩ (by rw [List.length_take]; omega) (by omega) ?_
                · cases j with
                  | zero => simp at hz; subst hz; exact ⟨_, _, rfl, hNew⟩
                  | succ j => simp at hz
                intro v7 w7 ho7 hg7
                rw [hsnoc] at ho7
                obtain ⟨p7, c7, rfl, hE7, hz1, hz2⟩ := OwnE.open ho7
                obtain ⟨m7, hm7⟩ : ∃ m7, (L.take (kk + 1)).length = m7 := ⟨_, rfl⟩
                rw [hm7] at ho7 ⊢
                clear hE7 hz1 hz2 hm7
                go_simp
                have hb7 : Below (O + 1) wd w7 := hbN.grown hg7 (Nat.le_trans hN hbN.size) (fun q hq => (hVN.lt q hq).1)
                have hk7 : Keep (fun b => O < b) wd w7 := Keep.of_below hb7 fun q h1 h2 => by omega
                have hnO : v.ownBlock ≠ some O := fun q => by have := (hVN.lt O q).1; omega
                have o0' := grownBy_cell hg7 o0N hnO
                have o1' := grownBy_cell hg7 o1N hnO
                have o2' := grownBy_cell hg7 o2N hnO
                have f' : ∀ j, w7.frozen? ⟨O, j, none⟩ = false := fun j => (grownBy_frozen hg7 o0N hnO j).trans (hfN j)
                refine hK'.out _ _ (fun _ => ⟨⟨w7, hk7⟩, rfl⟩) ?_
                clear hK' K' o0N o1N o2N hfN hVN hbN hg7 hNew
                refine wpAnyK_more (g := 1) 9 1 (by simp) (by kernel_rfl) (by kernel_rfl) ⟨⟨w7, hk7⟩, rfl⟩ ?_
                simp only [List.take_succ_cons, List.take_zero, List.drop_succ_cons, List.drop_zero]
                refine wpStay_quietS 1 _ _ (by kernel_rfl) ?_
                simp only [List.take_succ_cons, List.take_zero, List.drop_succ_cons, List.drop_zero]
                repeat (go_big_quiet_step (fail))
                refine wpQuiet_nil ?_
                refine wpStay_nil ?_
                have f2 := f' 2
                have hks := (Keep.refl (fun b => b = O) w7).setCell (p := ⟨O, 2, none⟩) (.inl rfl) (.slice p7 m7 c7)
                have HO' := Pin.Aside.mk (And.intro (show (w7.setCell ⟨O, 2, none⟩ (.slice p7 m7 c7)).cell? ⟨O, 0, none⟩ = some (.int .u64 base) by simp [go_sem, o0']) (And.intro (show (w7.setCell ⟨O, 2, none⟩ (.slice p7 m7 c7)).cell? ⟨O, 1, none⟩ = some (.int .u64 bt) by simp [go_sem, o1']) (World.cell?_setCell_same w7 ⟨O, 2, none⟩ (.slice p7 m7 c7) o2')))
                have HF' : Pin.Aside (∀ j, (w7.setCell ⟨O, 2, none⟩ (.slice p7 m7 c7)).frozen? ⟨O, j, none⟩ = false) := Pin.Aside.mk (fun j => by rw [World.frozen?_setCell]; exact f' j)
                have HV' := Pin.Aside.mk (ownE_keep ho7 hks fun g hg q => by have := (ho7.lt g hg).1; omega)
                have HB' : Pin.Aside (Below O w5 (w7.setCell ⟨O, 2, none⟩ (.slice p7 m7 c7))) := Pin.Aside.mk (HBd.out.trans ((hb7.mono (Nat.le_succ O)).setCell (p := ⟨O, 2, none⟩) (Nat.le_refl _) (.slice p7 m7 c7)))
                clear hks ho7 hb7 o0' o1'
                refine wpAnyK_one 10 (by kernel_rfl) rfl (fun K' hK' => ?_)
                go_simp
                refine hK'.out _ _ (fun q => absurd rfl q) ?_
                clear hK' K'
                refine wpAnyK_done (by kernel_rfl) (NoPanic.normal ?_) _
                go_wp2_with fail
                go_roundw
                case rel => exact ⟨kk + 1, .slice p7 m7 c7, by omega, by go_num, HB', HO', HF', HV'⟩
                case measure => simp [intOf]; omega
              · have hkk1 : kk = K := by omega
                have hqq : decide (kk < K) = false := decide_eq_false hq
                rw [hqq]
                subst hkk1
                have hBO : B ≤ O := by
                  have h3 := HCB.out
                  have h5 := HO5.out
                  try dsimp only at h3
                  omega
                have hBO2 : B + 1 < O := by
                  have h3 := HRB.out
                  have h5 := HO5.out
                  try dsimp only at h3
                  omega
                have hEO : E < O := by
                  have h3 := HXB.out
                  have h5 := HO5.out
                  try dsimp only at h3
                  omega
                have hbd : Below B w wd := HB5.out.trans (HBd.out.mono hBO)
                have hi0 : (0 : Int) ≤ (i : Int) := by omega
                have hi1 : (i : Int) ≤ (n2 : Int) := by omega
                have hi3 : (n2 : Int) ≤ (c2 : Int) := by omega
                go_upto_region 17 with fail
                have k0 : ∀ s' : KW (fun b => O < b) wd, s'.w.cell? ⟨O, 2, none⟩ = some v := fun s' => s'.keep.cell o2 (by simp)
                have hS0 : ∃ s' : KW (fun b => O < b) wd, wd.drew = s'.w := ⟨⟨wd.drew, (Keep.refl _ wd).drew⟩, rfl⟩
                refine wp_region_stayK (S := fun w' => ∃ s' : KW (fun b => O < b) wd, w' = s'.w) 7 5 (by kernel_rfl) (by simp) (by kernel_rfl) (by kernel_rfl) hS0 ?_
                simp only [List.take_succ_cons, List.take_zero]
                refine wpStay_quietS 5 _ _ (by kernel_rfl) ?_
                simp only [List.take_succ_cons, List.take_zero, List.drop_succ_cons, List.drop_zero]
                repeat (go_big_quiet_step (fail))
                refine wpQuiet_nil ?_
                refine wpStay_nil ?_
                clear k0
                have hVN := ownE_keep HVd.out ((Keep.refl (fun _ => False) wd).drew) fun _ _ q => q
                have hbN : Below (O + 1) wd wd.drew := below_drew (Below.refl _ _)
                refine wpAnyK_one 5 (by kernel_rfl) rfl (fun K' hK' => ?_)
                rw [if_pos (by rfl)]
                refine wp_en_append _ _ rfl (O + 1) hN v (L.take kk) (more.drop i) (some ⟨A, o + i * 11, none⟩) (n2 - i) (c2 - i) (by rfl) (by rfl) hVN ((HMr.out.drop i).keep' (Keep.refl _ wd).drew) (by rw [List.length_take]; omega) (by omega) ?_
                intro v7 w7 ho7 hg7
                obtain ⟨p7, c7, rfl, hE7, hz1, hz2⟩ := OwnE.open ho7
                rw [HLM.out] at ho7 ⊢
                obtain ⟨n7, hn7⟩ : ∃ n7, kk + (n2 - i) = n7 := ⟨_, rfl⟩
                rw [hn7] at ho7 ⊢
                clear hE7 hz1 hz2
                go_simp
                have hb7 : Below (O + 1) wd w7 := hbN.grown hg7 hN (fun q hq => (hVN.lt q hq).1)
                have hk7 : Keep (fun b => O < b) wd w7 := Keep.of_below hb7 fun q h1 h2 => by omega
                have f2 : w7.frozen? ⟨O, 2, none⟩ = false := (hk7.frozen_at (q := ⟨O, 2, none⟩) o0 rfl (by simp)).trans (HOFd.out 2)
                have o0' := hk7.cell o0 (by simp)
                have o1' := hk7.cell o1 (by simp)
                have o2' := hk7.cell o2 (by simp)
                refine hK'.out _ _ (fun _ => ⟨⟨w7, hk7⟩, rfl⟩) ?_
                clear hK' K' hVN hbN hg7
                refine wpAnyK_more (g := 1) 6 1 (by simp) (by kernel_rfl) (by kernel_rfl) ⟨⟨w7, hk7⟩, rfl⟩ ?_
                simp only [List.take_succ_cons, List.take_zero, List.drop_succ_cons, List.drop_zero]
                refine wpStay_quietS 1 _ _ (by kernel_rfl) ?_
                simp only [List.take_succ_cons, List.take_zero, List.drop_succ_cons, List.drop_zero]
                repeat (go_big_quiet_step (fail))
                refine wpQuiet_nil ?_
                refine wpStay_nil ?_
                have hks := (Keep.refl (fun b => b = O) w7).setCell (p := ⟨O, 2, none⟩) (.inl rfl) (.slice p7 n7 c7)
                have hkA : Keep (fun b => O ≤ b) wd (w7.setCell ⟨O, 2, none⟩ (.slice p7 n7 c7)) := (hk7.mono fun b q => Nat.le_of_lt q).trans (hks.mono fun b q => by rw [q]; exact Nat.le_refl _)
                have p0 : (w7.setCell ⟨O, 2, none⟩ (.slice p7 n7 c7)).cell? ⟨O, 0, none⟩ = some (.int .u64 base) := by simp [go_sem, o0']
                have p1 : (w7.setCell ⟨O, 2, none⟩ (.slice p7 n7 c7)).cell? ⟨O, 1, none⟩ = some (.int .u64 bt) := by simp [go_sem, o1']
                have p2' := World.cell?_setCell_same w7 ⟨O, 2, none⟩ (.slice p7 n7 c7) o2'
                have HVo := Pin.Aside.mk (ownE_keep ho7 hks fun g hg q => by have := (ho7.lt g hg).1; omega)
                have hb8 : Below B w (w7.setCell ⟨O, 2, none⟩ (.slice p7 n7 c7)) := hbd.trans ((hb7.mono (show B ≤ O + 1 by omega)).setCell (p := ⟨O, 2, none⟩) hBO (.slice p7 n7 c7))
                have HQ := Pin.Aside.mk (And.intro p0 (And.intro p1 p2'))
                have HC8 := Pin.Aside.mk (And.intro (hkA.cell cb (by simp; omega)) (And.intro (hkA.cell ct (by simp; omega)) (And.intro (hkA.cell cs (by simp; omega)) (And.intro (hkA.cell hr0 (by simp; omega)) (And.intro (hkA.cell hr1 (by simp; omega)) (And.intro (hkA.cell hr2 (by simp; omega)) (hkA.cell x1 (by simp; omega))))))))
                have HF8 : Pin.Aside (∀ j, (w7.setCell ⟨O, 2, none⟩ (.slice p7 n7 c7)).frozen? ⟨B + 1, j, none⟩ = false) := Pin.Aside.mk (fun j => (hkA.frozen_at (q := ⟨B + 1, j, none⟩) hr0 rfl (by simp; omega)).trans (HFd.out j))
                have Hb8 := Pin.Aside.mk hb8
                clear hks ho7 hb7 o0' o1' p0 p1 p2' hkA hb8 cb ct cs hr0 hr1 hr2 x0 x1 o0 o1 o2
                refine wpAnyK_one 7 (by kernel_rfl) rfl (fun K' hK' => ?_)
                go_simp
                refine hK'.out _ _ (fun q => absurd rfl q) ?_
                clear hK' K'
                refine wpAnyK_done (by kernel_rfl) (NoPanic.normal ?_) _
                clear f2 o2' hk7 HOFd HVd HBd HFd hOlt hN hbd
                generalize w7.setCell ⟨O, 2, none⟩ (.slice p7 n7 c7) = w8 at *
                have hE8 := Pin.Aside.mk (OwnE.ents HVo.out).1
                have HPB := Pin.Aside.mk (OwnE.ents HVo.out).2.2
                obtain ⟨p0, p1, p2'⟩ := HQ.out
                obtain ⟨cb, ct, cs, hr0, hr1, hr2, x1⟩ := HC8.out
                have hb := Hb8.out
                have Hrr := Pin.Aside.mk (r16_right ⟨base, bt, L.take kk ++ more.drop i⟩ HOK.out p7 n7 c7 (by omega) w8 hE8.out)
                obtain ⟨rr, hrr⟩ : ∃ rr, (Lg.mk base bt (L.take kk ++ more.drop i)).right = rr := ⟨_, rfl⟩
                rw [hrr] at Hrr HT
                clear hrr HVo HQ HC8 Hb8
                go_wp2_with fail
                refine Hrr.out.mono ?_
                rintro x w9 ⟨rfl, hbb⟩
                have hkk : Keep (fun _ => False) w8 w9 := Keep.of_below hbb fun _ q _ => q
                have HF : Pin.Aside (∀ j, w9.frozen? ⟨B + 1, j, none⟩ = false) := Pin.Aside.mk (fun j => (hkk.frozen_at (q := ⟨B + 1, j, none⟩) hr0 rfl id).trans (HF8.out j))
                replace cb := hkk.cell cb id
                replace ct := hkk.cell ct id
                replace cs := hkk.cell cs id
                replace hr0 := hkk.cell hr0 id
                replace hr1 := hkk.cell hr1 id
                replace hr2 := hkk.cell hr2 id
                replace x1 := hkk.cell x1 id
                replace p0 := hkk.cell p0 id
                replace p1 := hkk.cell p1 id
                replace p2' := hkk.cell p2' id
                replace hb := hb.trans (hbb.mono (by first | exact hb.size | (rw [← hB]; exact hb.size)))
                replace hE8 := Pin.Aside.mk (hE8.out.keep' hkk)
                clear hkk hbb Hrr HF8
                cases rr with
                | false =>
                  rw [if_neg (by decide)] at HT
                  clear p0 p1 p2' x1 hE8
                  have hfa := HF.out 0
                  have hfb := HF.out 1
                  have hfc := HF.out 2
                  have hk4 := ((((Keep.refl (fun b => b = B + 1) w9).setCell (p := ⟨B + 1, 0, none⟩) (.inl rfl) (.int .u64 base)).setCell (p := ⟨B + 1, 1, none⟩) (.inl rfl) (.int .u64 bt)).setCell (p := ⟨B + 1, 2, none⟩) (.inl rfl) (.slice p n c))
                  have HB := Pin.Aside.mk (hb.trans (hk4.below (by first | exact hb.size | (rw [← hB]; exact hb.size)) fun q h => by rw [h]; omega))
                  clear hk4 hb HF
                  go_wp2_with fail
                  refine bodyPost_ret (v := .tuple #[.agg #[.int .u64 base, .int .u64 bt, .slice p n c], .int .u64 0, .bool false]) (by simp [results, Try.results19, go_sem, *]) rfl ?_
                  rw [HT.out]
                  exact ⟨⟨p, n, c, rfl, HL.out.below (by first | exact HB.out | (rw [hB]; exact HB.out))⟩, by first | exact HB.out | (rw [hB]; exact HB.out)⟩
                | true =>
                  rw [if_pos rfl] at HT
                  clear cb ct cs
                  have hfa := HF.out 0
                  have hfb := HF.out 1
                  have hfc := HF.out 2
                  have hk5 := ((((Keep.refl (fun b => b = B + 1) w9).setCell (p := ⟨B + 1, 0, none⟩) (.inl rfl) (.int .u64 base)).setCell (p := ⟨B + 1, 1, none⟩) (.inl rfl) (.int .u64 bt)).setCell (p := ⟨B + 1, 2, none⟩) (.inl rfl) (.slice p7 n7 c7)).drew
                  have HB := Pin.Aside.mk (hb.trans (hk5.below (by first | exact hb.size | (rw [← hB]; exact hb.size)) fun q h => by rw [h]; omega))
                  have HE9 := Pin.Aside.mk (hE8.out.keep hk5 fun A o q q2 => by have h1 := HPB.out A o q; omega)
                  have hEB := HEB.out
                  try dsimp only at hEB
                  go_upto_region 21 with fail
                  have k0 : ∀ s' : KW (fun b => b = B + 1) w9, s'.w.cell? ⟨O, 0, none⟩ = some (.int .u64 base) := fun s' => s'.keep.cell p0 (by simp; omega)
                  have k1 : ∀ s' : KW (fun b => b = B + 1) w9, s'.w.cell? ⟨O, 1, none⟩ = some (.int .u64 bt) := fun s' => s'.keep.cell p1 (by simp; omega)
                  have k2 : ∀ s' : KW (fun b => b = B + 1) w9, s'.w.cell? ⟨O, 2, none⟩ = some (.slice p7 n7 c7) := fun s' => s'.keep.cell p2' (by simp; omega)
                  have k3 : ∀ s' : KW (fun b => b = B + 1) w9, s'.w.cell? ⟨E, 1, none⟩ = some (.int .u64 e.index) := fun s' => s'.keep.cell x1 (by simp; omega)
                  refine wp_region_stay (S := fun w' => ∃ s' : KW (fun b => b = B + 1) w9, w' = s'.w) 3 (by kernel_rfl) (by simp) (by kernel_rfl) (by kernel_rfl) ⟨⟨w9.drew, (Keep.refl _ w9).drew⟩, rfl⟩ ?_
                  simp only [List.take_succ_cons, List.take_zero]
                  refine wpStay_quietS 3 _ _ (by kernel_rfl) ?_
                  simp only [List.take_succ_cons, List.take_zero, List.drop_succ_cons, List.drop_zero]
                  repeat (go_big_quiet_step (fail))
                  refine wpQuiet_nil ?_
                  refine wpStay_nil ?_
                  clear k0 k1 k2 k3
                  refine wpAnyH_one 3 (by kernel_rfl) rfl (fun K' hK' => ?_)
                  go_simp
                  refine hK'.out _ _ ⟨⟨_, hk5⟩, rfl⟩ (fun _ => ?_)
                  clear hK' K'
                  refine wpAnyH_more (g := 0) 4 2 (by simp) (by kernel_rfl) (by kernel_rfl) ⟨⟨_, hk5⟩, rfl⟩ ?_
                  simp only [List.take_succ_cons, List.take_zero, List.drop_succ_cons, List.drop_zero]
                  refine wpStay_quietS 2 _ _ (by kernel_rfl) ?_
                  simp only [List.take_succ_cons, List.take_zero, List.drop_succ_cons, List.drop_zero]
                  repeat (go_big_quiet_step (fail))
                  refine wpQuiet_nil ?_
                  refine wpStay_nil ?_
                  refine wpAnyH_done (by kernel_rfl) (NoPanic.normal ?_) _
                  clear hb hk5 x1 p0 p1 p2'
                  go_wp2_with fail
                  refine bodyPost_ret (v := .tuple #[.agg #[.int .u64 base, .int .u64 bt, .slice p7 n7 c7], .int .u64 e.index, .bool true]) (by simp [results, Try.results19, go_sem, *]) rfl ?_
                  rw [HT.out]
                  exact ⟨⟨p7, n7, c7, rfl, HE9.out⟩, by first | exact HB.out | (rw [hB]; exact HB.out)⟩
theorem r16_take (g : Lg) (ho : g.ok) (prev term : Int) (hp0 : 0 ≤ prev ∧ prev ≤ 18446744073709551615) (ht0 : 0 ≤ term ∧ term ≤ 18446744073709551615) (more : List En) (hm : ∀ e ∈ more, e.ok) (p p2 : Option Addr) (n c n2 c2 : Nat) (hn1 : n ≤ 500) (hn2 : n2 ≤ 500) (hc2 : n2 ≤ c2) (w : World) (hL : EntsAt w p n g.l) (hM : EntsAt w p2 n2 more) :
    Calls Try.prog 19 #[g.val p n c, .int .u64 prev, .int .u64 term, .slice p2 n2 c2] w fun x w' => (∃ p' n' c', x = .returned (.tuple #[(g.take prev term more).1.val p' n' c', .int .u64 (g.take prev term more).2.1, .bool (g.take prev term more).2.2]) ∧ EntsAt w' p' n' (g.take prev term more).1.l) ∧ Below w.heap.size w w' := by
  cases hbad : takeBad g prev term more with
  | true => exact r16_take_bad g ho prev term hp0 ht0 more hm p p2 n c n2 c2 hn1 hn2 hc2 w hL hM hbad
  | false =>
    cases hf : more.findIdx? (lgMiss g) with
    | none => exact r16_take_none g ho prev term hp0 ht0 more hm p p2 n c n2 c2 hn1 hn2 hc2 w hL hM hbad hf
    | some k =>
      have h1 := hf
      rw [List.findIdx?_eq_some_iff_getElem] at h1
      obtain ⟨hk, _⟩ := h1
      exact r16_take_some g ho prev term hp0 ht0 more hm p p2 n c n2 c2 hn1 hn2 hc2 w hL hM hbad k _ hf (List.getElem?_eq_getElem hk)
end Go.Proofs.Ythlmigbimeldbaa
