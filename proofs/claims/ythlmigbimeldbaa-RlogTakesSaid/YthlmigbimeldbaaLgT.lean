/- rlog: Take. -/
import Derived.Test.YthlmigbimeldbaaLgC
import Derived.Test.YthlmigbimeldbaaRegS
set_option maxRecDepth 16000
namespace Go.Proofs.Ythlmigbimeldbaa
open Go.RowKit Go.Pin
set_option linter.unusedVariables false
set_option linter.unusedSimpArgs false
set_option maxHeartbeats 1600000 in
theorem lg_take_a (g : Lg) (ho : g.ok) (prev term : Int) (hp0 : 0 ≤ prev ∧ prev ≤ 18446744073709551615) (ht0 : 0 ≤ term ∧ term ≤ 18446744073709551615) (more : List En) (hm : ∀ e ∈ more, e.ok) (p p2 : Option Addr) (n c n2 c2 : Nat) (hn1 : n ≤ 500) (hc1 : n ≤ c) (hn2 : n2 ≤ 500) (hc2 : n2 ≤ c2) (w : World) (hL : EntsAt w p n g.l) (hM : EntsAt w p2 n2 more) (h1 : g.right = false) :
    Calls Try.prog 18 #[g.val p n c, .int .u64 prev, .int .u64 term, .slice p2 n2 c2] w fun x w' => (∃ p' n' c', x = .returned (.tuple #[(g.take prev term more).1.val p' n' c', .int .u64 (g.take prev term more).2.1, .bool (g.take prev term more).2.2]) ∧ n' ≤ c' ∧ EntsAt w' p' n' (g.take prev term more).1.l) ∧ Below w.heap.size w w' := by
  have hk := (Keep.refl (fun _ => False) w).alloc (.cells #[.int .u64 g.base, .int .u64 g.bt, .slice p n c] 27)
  obtain ⟨cb, ct, cs⟩ := LgCells.new w 27 g p n c
  have hk2 := (Keep.refl (fun _ => False) (w.alloc (.cells #[.int .u64 g.base, .int .u64 g.bt, .slice p n c] 27))).alloc (.cells #[.int .u64 0, .int .u64 0, .slice none 0 0] 27)
  have hk3 := hk.trans hk2
  have hb := hk3.below (Nat.le_refl _) fun _ q => q.elim
  have hr0 : ((w.alloc (.cells #[.int .u64 g.base, .int .u64 g.bt, .slice p n c] 27)).alloc (.cells #[.int .u64 0, .int .u64 0, .slice none 0 0] 27)).cell? ⟨w.heap.size + 1, 0, none⟩ = some (.int .u64 0) := by simp
  have hr1 : ((w.alloc (.cells #[.int .u64 g.base, .int .u64 g.bt, .slice p n c] 27)).alloc (.cells #[.int .u64 0, .int .u64 0, .slice none 0 0] 27)).cell? ⟨w.heap.size + 1, 1, none⟩ = some (.int .u64 0) := by simp
  have hr2 : ((w.alloc (.cells #[.int .u64 g.base, .int .u64 g.bt, .slice p n c] 27)).alloc (.cells #[.int .u64 0, .int .u64 0, .slice none 0 0] 27)).cell? ⟨w.heap.size + 1, 2, none⟩ = some (.slice none 0 0) := by simp
  have hf0 : ∀ j, ((w.alloc (.cells #[.int .u64 g.base, .int .u64 g.bt, .slice p n c] 27)).alloc (.cells #[.int .u64 0, .int .u64 0, .slice none 0 0] 27)).frozen? ⟨w.heap.size + 1, j, none⟩ = false := by intro j; simp
  replace cb := hk2.cell cb id
  replace ct := hk2.cell ct id
  replace cs := hk2.cell cs id
  have HL := Pin.Aside.mk hL
  have HM := Pin.Aside.mk hM
  have Hr1 := Pin.Aside.mk (fun W hW => lg_right g ho p n c (by omega) W hW)
  have Hr2 := Pin.Aside.mk (fun W hW => lg_right ⟨prev, term, more⟩ ⟨hp0, ht0, hm⟩ p2 n2 c2 (by omega) W hW)
  have Hsm := Pin.Aside.mk (fun W hW => lg_same g prev term p n c (by omega) W hW)
  clear hk hk2 hk3 hL hM
  have HT := Pin.Aside.mk (show g.take prev term more = (g, 0, false) by unfold Lg.take; rw [if_pos (.inl h1)])
  rw [h1] at Hr1
  clear h1
  have hgv : g = ⟨g.base, g.bt, g.l⟩ := rfl
  obtain ⟨base, bt, L⟩ := g
  dsimp only [Lg.val] at *
  go_enter Try.func18, Try.ntmps18
  go_upto_region 1 with fail
  generalize World.alloc (World.alloc _ _) _ = wa at *
  have hB0 : w.heap.size = w.heap.size := rfl
  generalize hB : w.heap.size = B at hb cb ct cs hr0 hr1 hr2 hf0 hB0 ⊢
  clear hB0 hgv
  have HF := Pin.Aside.mk hf0
  clear hf0
  go_wp2_with fail
  refine (Hr1.out _ (HL.out.below (by first | exact hb | (rw [hB]; exact hb)))).mono ?_
  rintro x w1 ⟨rfl, hbb⟩
  have hkk : Keep (fun _ => False) wa w1 := Keep.of_below hbb fun _ q _ => q
  replace cb := hkk.cell cb id
  replace ct := hkk.cell ct id
  replace cs := hkk.cell cs id
  have hf0 : ∀ j, w1.frozen? ⟨B + 1, j, none⟩ = false := fun j => (hkk.frozen_at (q := ⟨B + 1, j, none⟩) hr0 rfl id).trans (HF.out j)
  replace hr0 := hkk.cell hr0 id
  replace hr1 := hkk.cell hr1 id
  replace hr2 := hkk.cell hr2 id
  replace hb := hb.trans (hbb.mono (by first | exact hb.size | (rw [← hB]; exact hb.size)))
  replace HF := Pin.Aside.mk hf0
  clear hbb hkk hf0
  have hfa := HF.out 0
  have hfb := HF.out 1
  have hfc := HF.out 2
  have hk4 := ((((Keep.refl (fun b => b = B + 1) w1).setCell (p := ⟨B + 1, 0, none⟩) (.inl rfl) (.int .u64 base)).setCell (p := ⟨B + 1, 1, none⟩) (.inl rfl) (.int .u64 bt)).setCell (p := ⟨B + 1, 2, none⟩) (.inl rfl) (.slice p n c))
  have HB := Pin.Aside.mk (hb.trans (hk4.below (by first | exact hb.size | (rw [← hB]; exact hb.size)) fun q h => by rw [h]; omega))
  clear hk4 hb Hr1 Hr2 Hsm HF
  go_wp2_with fail
  refine bodyPost_ret (v := .tuple #[.agg #[.int .u64 base, .int .u64 bt, .slice p n c], .int .u64 0, .bool false]) (by simp [results, Try.results18, go_sem, *]) rfl ?_
  rw [HT.out]
  exact ⟨⟨p, n, c, rfl, hc1, HL.out.below (by first | exact HB.out | (rw [hB]; exact HB.out))⟩, by first | exact HB.out | (rw [hB]; exact HB.out)⟩
set_option maxHeartbeats 1600000 in
theorem lg_take_b (g : Lg) (ho : g.ok) (prev term : Int) (hp0 : 0 ≤ prev ∧ prev ≤ 18446744073709551615) (ht0 : 0 ≤ term ∧ term ≤ 18446744073709551615) (more : List En) (hm : ∀ e ∈ more, e.ok) (p p2 : Option Addr) (n c n2 c2 : Nat) (hn1 : n ≤ 500) (hc1 : n ≤ c) (hn2 : n2 ≤ 500) (hc2 : n2 ≤ c2) (w : World) (hL : EntsAt w p n g.l) (hM : EntsAt w p2 n2 more) (h1 : g.right = true) (h2 : (Lg.mk prev term more).right = false) :
    Calls Try.prog 18 #[g.val p n c, .int .u64 prev, .int .u64 term, .slice p2 n2 c2] w fun x w' => (∃ p' n' c', x = .returned (.tuple #[(g.take prev term more).1.val p' n' c', .int .u64 (g.take prev term more).2.1, .bool (g.take prev term more).2.2]) ∧ n' ≤ c' ∧ EntsAt w' p' n' (g.take prev term more).1.l) ∧ Below w.heap.size w w' := by
  have hk := (Keep.refl (fun _ => False) w).alloc (.cells #[.int .u64 g.base, .int .u64 g.bt, .slice p n c] 27)
  obtain ⟨cb, ct, cs⟩ := LgCells.new w 27 g p n c
  have hk2 := (Keep.refl (fun _ => False) (w.alloc (.cells #[.int .u64 g.base, .int .u64 g.bt, .slice p n c] 27))).alloc (.cells #[.int .u64 0, .int .u64 0, .slice none 0 0] 27)
  have hk3 := hk.trans hk2
  have hb := hk3.below (Nat.le_refl _) fun _ q => q.elim
  have hr0 : ((w.alloc (.cells #[.int .u64 g.base, .int .u64 g.bt, .slice p n c] 27)).alloc (.cells #[.int .u64 0, .int .u64 0, .slice none 0 0] 27)).cell? ⟨w.heap.size + 1, 0, none⟩ = some (.int .u64 0) := by simp
  have hr1 : ((w.alloc (.cells #[.int .u64 g.base, .int .u64 g.bt, .slice p n c] 27)).alloc (.cells #[.int .u64 0, .int .u64 0, .slice none 0 0] 27)).cell? ⟨w.heap.size + 1, 1, none⟩ = some (.int .u64 0) := by simp
  have hr2 : ((w.alloc (.cells #[.int .u64 g.base, .int .u64 g.bt, .slice p n c] 27)).alloc (.cells #[.int .u64 0, .int .u64 0, .slice none 0 0] 27)).cell? ⟨w.heap.size + 1, 2, none⟩ = some (.slice none 0 0) := by simp
  have hf0 : ∀ j, ((w.alloc (.cells #[.int .u64 g.base, .int .u64 g.bt, .slice p n c] 27)).alloc (.cells #[.int .u64 0, .int .u64 0, .slice none 0 0] 27)).frozen? ⟨w.heap.size + 1, j, none⟩ = false := by intro j; simp
  replace cb := hk2.cell cb id
  replace ct := hk2.cell ct id
  replace cs := hk2.cell cs id
  have HL := Pin.Aside.mk hL
  have HM := Pin.Aside.mk hM
  have Hr1 := Pin.Aside.mk (fun W hW => lg_right g ho p n c (by omega) W hW)
  have Hr2 := Pin.Aside.mk (fun W hW => lg_right ⟨prev, term, more⟩ ⟨hp0, ht0, hm⟩ p2 n2 c2 (by omega) W hW)
  have Hsm := Pin.Aside.mk (fun W hW => lg_same g prev term p n c (by omega) W hW)
  clear hk hk2 hk3 hL hM
  have HT := Pin.Aside.mk (show g.take prev term more = (g, 0, false) by unfold Lg.take; rw [if_pos (.inr (.inl h2))])
  rw [h1] at Hr1
  rw [h2] at Hr2
  clear h1 h2
  have hgv : g = ⟨g.base, g.bt, g.l⟩ := rfl
  obtain ⟨base, bt, L⟩ := g
  dsimp only [Lg.val] at *
  go_enter Try.func18, Try.ntmps18
  go_upto_region 1 with fail
  generalize World.alloc (World.alloc _ _) _ = wa at *
  have hB0 : w.heap.size = w.heap.size := rfl
  generalize hB : w.heap.size = B at hb cb ct cs hr0 hr1 hr2 hf0 hB0 ⊢
  clear hB0 hgv
  have HF := Pin.Aside.mk hf0
  clear hf0
  go_wp2_with fail
  refine (Hr1.out _ (HL.out.below (by first | exact hb | (rw [hB]; exact hb)))).mono ?_
  rintro x w1 ⟨rfl, hbb⟩
  have hkk : Keep (fun _ => False) wa w1 := Keep.of_below hbb fun _ q _ => q
  replace cb := hkk.cell cb id
  replace ct := hkk.cell ct id
  replace cs := hkk.cell cs id
  have hf0 : ∀ j, w1.frozen? ⟨B + 1, j, none⟩ = false := fun j => (hkk.frozen_at (q := ⟨B + 1, j, none⟩) hr0 rfl id).trans (HF.out j)
  replace hr0 := hkk.cell hr0 id
  replace hr1 := hkk.cell hr1 id
  replace hr2 := hkk.cell hr2 id
  replace hb := hb.trans (hbb.mono (by first | exact hb.size | (rw [← hB]; exact hb.size)))
  replace HF := Pin.Aside.mk hf0
  clear hbb hkk hf0
  go_wp2_with fail
  refine (Hr2.out _ (HM.out.below (by first | exact hb | (rw [hB]; exact hb)))).mono ?_
  rintro x w2 ⟨rfl, hbb⟩
  have hkk : Keep (fun _ => False) w1 w2 := Keep.of_below hbb fun _ q _ => q
  replace cb := hkk.cell cb id
  replace ct := hkk.cell ct id
  replace cs := hkk.cell cs id
  have hf0 : ∀ j, w2.frozen? ⟨B + 1, j, none⟩ = false := fun j => (hkk.frozen_at (q := ⟨B + 1, j, none⟩) hr0 rfl id).trans (HF.out j)
  replace hr0 := hkk.cell hr0 id
  replace hr1 := hkk.cell hr1 id
  replace hr2 := hkk.cell hr2 id
  replace hb := hb.trans (hbb.mono (by first | exact hb.size | (rw [← hB]; exact hb.size)))
  replace HF := Pin.Aside.mk hf0
  clear hbb hkk hf0
  have hfa := HF.out 0
  have hfb := HF.out 1
  have hfc := HF.out 2
  have hk4 := ((((Keep.refl (fun b => b = B + 1) w2).setCell (p := ⟨B + 1, 0, none⟩) (.inl rfl) (.int .u64 base)).setCell (p := ⟨B + 1, 1, none⟩) (.inl rfl) (.int .u64 bt)).setCell (p := ⟨B + 1, 2, none⟩) (.inl rfl) (.slice p n c))
  have HB := Pin.Aside.mk (hb.trans (hk4.below (by first | exact hb.size | (rw [← hB]; exact hb.size)) fun q h => by rw [h]; omega))
  clear hk4 hb Hr1 Hr2 Hsm HF
  go_wp2_with fail
  refine bodyPost_ret (v := .tuple #[.agg #[.int .u64 base, .int .u64 bt, .slice p n c], .int .u64 0, .bool false]) (by simp [results, Try.results18, go_sem, *]) rfl ?_
  rw [HT.out]
  exact ⟨⟨p, n, c, rfl, hc1, HL.out.below (by first | exact HB.out | (rw [hB]; exact HB.out))⟩, by first | exact HB.out | (rw [hB]; exact HB.out)⟩
set_option maxHeartbeats 1600000 in
theorem lg_take_c (g : Lg) (ho : g.ok) (prev term : Int) (hp0 : 0 ≤ prev ∧ prev ≤ 18446744073709551615) (ht0 : 0 ≤ term ∧ term ≤ 18446744073709551615) (more : List En) (hm : ∀ e ∈ more, e.ok) (p p2 : Option Addr) (n c n2 c2 : Nat) (hn1 : n ≤ 500) (hc1 : n ≤ c) (hn2 : n2 ≤ 500) (hc2 : n2 ≤ c2) (w : World) (hL : EntsAt w p n g.l) (hM : EntsAt w p2 n2 more) (h1 : g.right = true) (h2 : (Lg.mk prev term more).right = true) (h3 : g.base ≤ prev) (h4 : g.same prev term = false) :
    Calls Try.prog 18 #[g.val p n c, .int .u64 prev, .int .u64 term, .slice p2 n2 c2] w fun x w' => (∃ p' n' c', x = .returned (.tuple #[(g.take prev term more).1.val p' n' c', .int .u64 (g.take prev term more).2.1, .bool (g.take prev term more).2.2]) ∧ n' ≤ c' ∧ EntsAt w' p' n' (g.take prev term more).1.l) ∧ Below w.heap.size w w' := by
  have hk := (Keep.refl (fun _ => False) w).alloc (.cells #[.int .u64 g.base, .int .u64 g.bt, .slice p n c] 27)
  obtain ⟨cb, ct, cs⟩ := LgCells.new w 27 g p n c
  have hk2 := (Keep.refl (fun _ => False) (w.alloc (.cells #[.int .u64 g.base, .int .u64 g.bt, .slice p n c] 27))).alloc (.cells #[.int .u64 0, .int .u64 0, .slice none 0 0] 27)
  have hk3 := hk.trans hk2
  have hb := hk3.below (Nat.le_refl _) fun _ q => q.elim
  have hr0 : ((w.alloc (.cells #[.int .u64 g.base, .int .u64 g.bt, .slice p n c] 27)).alloc (.cells #[.int .u64 0, .int .u64 0, .slice none 0 0] 27)).cell? ⟨w.heap.size + 1, 0, none⟩ = some (.int .u64 0) := by simp
  have hr1 : ((w.alloc (.cells #[.int .u64 g.base, .int .u64 g.bt, .slice p n c] 27)).alloc (.cells #[.int .u64 0, .int .u64 0, .slice none 0 0] 27)).cell? ⟨w.heap.size + 1, 1, none⟩ = some (.int .u64 0) := by simp
  have hr2 : ((w.alloc (.cells #[.int .u64 g.base, .int .u64 g.bt, .slice p n c] 27)).alloc (.cells #[.int .u64 0, .int .u64 0, .slice none 0 0] 27)).cell? ⟨w.heap.size + 1, 2, none⟩ = some (.slice none 0 0) := by simp
  have hf0 : ∀ j, ((w.alloc (.cells #[.int .u64 g.base, .int .u64 g.bt, .slice p n c] 27)).alloc (.cells #[.int .u64 0, .int .u64 0, .slice none 0 0] 27)).frozen? ⟨w.heap.size + 1, j, none⟩ = false := by intro j; simp
  replace cb := hk2.cell cb id
  replace ct := hk2.cell ct id
  replace cs := hk2.cell cs id
  have HL := Pin.Aside.mk hL
  have HM := Pin.Aside.mk hM
  have Hr1 := Pin.Aside.mk (fun W hW => lg_right g ho p n c (by omega) W hW)
  have Hr2 := Pin.Aside.mk (fun W hW => lg_right ⟨prev, term, more⟩ ⟨hp0, ht0, hm⟩ p2 n2 c2 (by omega) W hW)
  have Hsm := Pin.Aside.mk (fun W hW => lg_same g prev term p n c (by omega) W hW)
  clear hk hk2 hk3 hL hM
  have HT := Pin.Aside.mk (show g.take prev term more = (g, 0, false) by unfold Lg.take; rw [if_pos (.inr (.inr ⟨h3, h4⟩))])
  rw [h1] at Hr1
  rw [h2] at Hr2
  rw [h4] at Hsm
  clear h1 h2 h4
  have hgv : g = ⟨g.base, g.bt, g.l⟩ := rfl
  obtain ⟨base, bt, L⟩ := g
  dsimp only [Lg.val] at *
  go_enter Try.func18, Try.ntmps18
  go_upto_region 1 with fail
  generalize World.alloc (World.alloc _ _) _ = wa at *
  have hB0 : w.heap.size = w.heap.size := rfl
  generalize hB : w.heap.size = B at hb cb ct cs hr0 hr1 hr2 hf0 hB0 ⊢
  clear hB0 hgv
  have HF := Pin.Aside.mk hf0
  clear hf0
  go_wp2_with fail
  refine (Hr1.out _ (HL.out.below (by first | exact hb | (rw [hB]; exact hb)))).mono ?_
  rintro x w1 ⟨rfl, hbb⟩
  have hkk : Keep (fun _ => False) wa w1 := Keep.of_below hbb fun _ q _ => q
  replace cb := hkk.cell cb id
  replace ct := hkk.cell ct id
  replace cs := hkk.cell cs id
  have hf0 : ∀ j, w1.frozen? ⟨B + 1, j, none⟩ = false := fun j => (hkk.frozen_at (q := ⟨B + 1, j, none⟩) hr0 rfl id).trans (HF.out j)
  replace hr0 := hkk.cell hr0 id
  replace hr1 := hkk.cell hr1 id
  replace hr2 := hkk.cell hr2 id
  replace hb := hb.trans (hbb.mono (by first | exact hb.size | (rw [← hB]; exact hb.size)))
  replace HF := Pin.Aside.mk hf0
  clear hbb hkk hf0
  go_wp2_with fail
  refine (Hr2.out _ (HM.out.below (by first | exact hb | (rw [hB]; exact hb)))).mono ?_
  rintro x w2 ⟨rfl, hbb⟩
  have hkk : Keep (fun _ => False) w1 w2 := Keep.of_below hbb fun _ q _ => q
  replace cb := hkk.cell cb id
  replace ct := hkk.cell ct id
  replace cs := hkk.cell cs id
  have hf0 : ∀ j, w2.frozen? ⟨B + 1, j, none⟩ = false := fun j => (hkk.frozen_at (q := ⟨B + 1, j, none⟩) hr0 rfl id).trans (HF.out j)
  replace hr0 := hkk.cell hr0 id
  replace hr1 := hkk.cell hr1 id
  replace hr2 := hkk.cell hr2 id
  replace hb := hb.trans (hbb.mono (by first | exact hb.size | (rw [← hB]; exact hb.size)))
  replace HF := Pin.Aside.mk hf0
  clear hbb hkk hf0
  go_wp2_with fail
  refine (Hsm.out _ (HL.out.below (by first | exact hb | (rw [hB]; exact hb)))).mono ?_
  rintro x w3 ⟨rfl, hbb⟩
  have hkk : Keep (fun _ => False) w2 w3 := Keep.of_below hbb fun _ q _ => q
  replace cb := hkk.cell cb id
  replace ct := hkk.cell ct id
  replace cs := hkk.cell cs id
  have hf0 : ∀ j, w3.frozen? ⟨B + 1, j, none⟩ = false := fun j => (hkk.frozen_at (q := ⟨B + 1, j, none⟩) hr0 rfl id).trans (HF.out j)
  replace hr0 := hkk.cell hr0 id
  replace hr1 := hkk.cell hr1 id
  replace hr2 := hkk.cell hr2 id
  replace hb := hb.trans (hbb.mono (by first | exact hb.size | (rw [← hB]; exact hb.size)))
  replace HF := Pin.Aside.mk hf0
  clear hbb hkk hf0
  have hfa := HF.out 0
  have hfb := HF.out 1
  have hfc := HF.out 2
  have hk4 := ((((Keep.refl (fun b => b = B + 1) w3).setCell (p := ⟨B + 1, 0, none⟩) (.inl rfl) (.int .u64 base)).setCell (p := ⟨B + 1, 1, none⟩) (.inl rfl) (.int .u64 bt)).setCell (p := ⟨B + 1, 2, none⟩) (.inl rfl) (.slice p n c))
  have HB := Pin.Aside.mk (hb.trans (hk4.below (by first | exact hb.size | (rw [← hB]; exact hb.size)) fun q h => by rw [h]; omega))
  clear hk4 hb Hr1 Hr2 Hsm HF
  go_wp2_with fail
  refine bodyPost_ret (v := .tuple #[.agg #[.int .u64 base, .int .u64 bt, .slice p n c], .int .u64 0, .bool false]) (by simp [results, Try.results18, go_sem, *]) rfl ?_
  rw [HT.out]
  exact ⟨⟨p, n, c, rfl, hc1, HL.out.below (by first | exact HB.out | (rw [hB]; exact HB.out))⟩, by first | exact HB.out | (rw [hB]; exact HB.out)⟩
set_option maxHeartbeats 3200000 in
theorem lg_take_d1 (g : Lg) (ho : g.ok) (prev term : Int) (hp0 : 0 ≤ prev ∧ prev ≤ 18446744073709551615) (ht0 : 0 ≤ term ∧ term ≤ 18446744073709551615) (more : List En) (hm : ∀ e ∈ more, e.ok) (p p2 : Option Addr) (n c n2 c2 : Nat) (hn1 : n ≤ 500) (hc1 : n ≤ c) (hn2 : n2 ≤ 500) (hc2 : n2 ≤ c2) (w : World) (hL : EntsAt w p n g.l) (hM : EntsAt w p2 n2 more) (h1 : g.right = true) (h2 : (Lg.mk prev term more).right = true) (h3 : g.base ≤ prev) (h4 : g.same prev term = true) (h5 : more.findIdx? (lgMiss g) = none) :
    Calls Try.prog 18 #[g.val p n c, .int .u64 prev, .int .u64 term, .slice p2 n2 c2] w fun x w' => (∃ p' n' c', x = .returned (.tuple #[(g.take prev term more).1.val p' n' c', .int .u64 (g.take prev term more).2.1, .bool (g.take prev term more).2.2]) ∧ n' ≤ c' ∧ EntsAt w' p' n' (g.take prev term more).1.l) ∧ Below w.heap.size w w' := by
  have hk := (Keep.refl (fun _ => False) w).alloc (.cells #[.int .u64 g.base, .int .u64 g.bt, .slice p n c] 27)
  obtain ⟨cb, ct, cs⟩ := LgCells.new w 27 g p n c
  have hk2 := (Keep.refl (fun _ => False) (w.alloc (.cells #[.int .u64 g.base, .int .u64 g.bt, .slice p n c] 27))).alloc (.cells #[.int .u64 0, .int .u64 0, .slice none 0 0] 27)
  have hk3 := hk.trans hk2
  have hb := hk3.below (Nat.le_refl _) fun _ q => q.elim
  have hr0 : ((w.alloc (.cells #[.int .u64 g.base, .int .u64 g.bt, .slice p n c] 27)).alloc (.cells #[.int .u64 0, .int .u64 0, .slice none 0 0] 27)).cell? ⟨w.heap.size + 1, 0, none⟩ = some (.int .u64 0) := by simp
  have hr1 : ((w.alloc (.cells #[.int .u64 g.base, .int .u64 g.bt, .slice p n c] 27)).alloc (.cells #[.int .u64 0, .int .u64 0, .slice none 0 0] 27)).cell? ⟨w.heap.size + 1, 1, none⟩ = some (.int .u64 0) := by simp
  have hr2 : ((w.alloc (.cells #[.int .u64 g.base, .int .u64 g.bt, .slice p n c] 27)).alloc (.cells #[.int .u64 0, .int .u64 0, .slice none 0 0] 27)).cell? ⟨w.heap.size + 1, 2, none⟩ = some (.slice none 0 0) := by simp
  have hf0 : ∀ j, ((w.alloc (.cells #[.int .u64 g.base, .int .u64 g.bt, .slice p n c] 27)).alloc (.cells #[.int .u64 0, .int .u64 0, .slice none 0 0] 27)).frozen? ⟨w.heap.size + 1, j, none⟩ = false := by intro j; simp
  replace cb := hk2.cell cb id
  replace ct := hk2.cell ct id
  replace cs := hk2.cell cs id
  have HL := Pin.Aside.mk hL
  have HM := Pin.Aside.mk hM
  have Hr1 := Pin.Aside.mk (fun W hW => lg_right g ho p n c (by omega) W hW)
  have Hr2 := Pin.Aside.mk (fun W hW => lg_right ⟨prev, term, more⟩ ⟨hp0, ht0, hm⟩ p2 n2 c2 (by omega) W hW)
  have Hsm := Pin.Aside.mk (fun W hW => lg_same g prev term p n c (by omega) W hW)
  clear hk hk2 hk3 hL hM
  have HI := Pin.Aside.mk (show lgIdx (lgMiss g) more = -1 by unfold lgIdx; rw [h5])
  have HT := Pin.Aside.mk (show g.take prev term more = (g, 0, true) by unfold Lg.take; rw [if_neg (by rintro (q | q | q); rw [h1] at q; cases q; rw [h2] at q; cases q; rw [h4] at q; cases q.2), h5])
  rw [h1] at Hr1
  rw [h2] at Hr2
  rw [h4] at Hsm
  clear h1 h2 h4
  have hgv : g = ⟨g.base, g.bt, g.l⟩ := rfl
  obtain ⟨base, bt, L⟩ := g
  dsimp only [Lg.val] at *
  go_enter Try.func18, Try.ntmps18
  go_upto_region 1 with fail
  generalize World.alloc (World.alloc _ _) _ = wa at *
  have hB0 : w.heap.size = w.heap.size := rfl
  generalize hB : w.heap.size = B at hb cb ct cs hr0 hr1 hr2 hf0 hB0 ⊢
  clear hB0 hgv
  have HF := Pin.Aside.mk hf0
  clear hf0
  go_wp2_with fail
  refine (Hr1.out _ (HL.out.below (by first | exact hb | (rw [hB]; exact hb)))).mono ?_
  rintro x w1 ⟨rfl, hbb⟩
  have hkk : Keep (fun _ => False) wa w1 := Keep.of_below hbb fun _ q _ => q
  replace cb := hkk.cell cb id
  replace ct := hkk.cell ct id
  replace cs := hkk.cell cs id
  have hf0 : ∀ j, w1.frozen? ⟨B + 1, j, none⟩ = false := fun j => (hkk.frozen_at (q := ⟨B + 1, j, none⟩) hr0 rfl id).trans (HF.out j)
  replace hr0 := hkk.cell hr0 id
  replace hr1 := hkk.cell hr1 id
  replace hr2 := hkk.cell hr2 id
  replace hb := hb.trans (hbb.mono (by first | exact hb.size | (rw [← hB]; exact hb.size)))
  replace HF := Pin.Aside.mk hf0
  clear hbb hkk hf0
  go_wp2_with fail
  refine (Hr2.out _ (HM.out.below (by first | exact hb | (rw [hB]; exact hb)))).mono ?_
  rintro x w2 ⟨rfl, hbb⟩
  have hkk : Keep (fun _ => False) w1 w2 := Keep.of_below hbb fun _ q _ => q
  replace cb := hkk.cell cb id
  replace ct := hkk.cell ct id
  replace cs := hkk.cell cs id
  have hf0 : ∀ j, w2.frozen? ⟨B + 1, j, none⟩ = false := fun j => (hkk.frozen_at (q := ⟨B + 1, j, none⟩) hr0 rfl id).trans (HF.out j)
  replace hr0 := hkk.cell hr0 id
  replace hr1 := hkk.cell hr1 id
  replace hr2 := hkk.cell hr2 id
  replace hb := hb.trans (hbb.mono (by first | exact hb.size | (rw [← hB]; exact hb.size)))
  replace HF := Pin.Aside.mk hf0
  clear hbb hkk hf0
  go_wp2_with fail
  refine (Hsm.out _ (HL.out.below (by first | exact hb | (rw [hB]; exact hb)))).mono ?_
  rintro x w3 ⟨rfl, hbb⟩
  have hkk : Keep (fun _ => False) w2 w3 := Keep.of_below hbb fun _ q _ => q
  replace cb := hkk.cell cb id
  replace ct := hkk.cell ct id
  replace cs := hkk.cell cs id
  have hf0 : ∀ j, w3.frozen? ⟨B + 1, j, none⟩ = false := fun j => (hkk.frozen_at (q := ⟨B + 1, j, none⟩) hr0 rfl id).trans (HF.out j)
  replace hr0 := hkk.cell hr0 id
  replace hr1 := hkk.cell hr1 id
  replace hr2 := hkk.cell hr2 id
  replace hb := hb.trans (hbb.mono (by first | exact hb.size | (rw [← hB]; exact hb.size)))
  replace HF := Pin.Aside.mk hf0
  clear hbb hkk hf0
  clear Hr1 Hr2 Hsm
  have Hx2 := Pin.Aside.mk (lg_idxMiss (lgMiss ⟨base, bt, L⟩) B _ n2 c2 more (by omega) w3 (HM.out.below (by first | exact hb | (rw [hB]; exact hb))) (fun e _ W' hW' => by
    have hq : Keep (fun _ => False) w3 W' := Keep.of_below hW' fun _ q _ => q
    exact lg_miss1 ⟨base, bt, L⟩ e B p n c (by omega) W' ⟨hq.cell cb id, hq.cell ct id, hq.cell cs id⟩ ((HL.out.below (by first | exact hb | (rw [hB]; exact hb))).keep' hq)))
  rw [HI.out] at Hx2
  go_wp2_with fail
  refine Hx2.out.mono ?_
  rintro x w4 ⟨rfl, hbb⟩
  have hkk : Keep (fun _ => False) w3 w4 := Keep.of_below hbb fun _ q _ => q
  replace cb := hkk.cell cb id
  replace ct := hkk.cell ct id
  replace cs := hkk.cell cs id
  have hf0 : ∀ j, w4.frozen? ⟨B + 1, j, none⟩ = false := fun j => (hkk.frozen_at (q := ⟨B + 1, j, none⟩) hr0 rfl id).trans (HF.out j)
  replace hr0 := hkk.cell hr0 id
  replace hr1 := hkk.cell hr1 id
  replace hr2 := hkk.cell hr2 id
  replace hb := hb.trans (hbb.mono (by first | exact hb.size | (rw [← hB]; exact hb.size)))
  replace HF := Pin.Aside.mk hf0
  clear hbb hkk hf0
  clear Hx2
  have hfa := HF.out 0
  have hfb := HF.out 1
  have hfc := HF.out 2
  have hk4 := ((((Keep.refl (fun b => b = B + 1) w4).setCell (p := ⟨B + 1, 0, none⟩) (.inl rfl) (.int .u64 base)).setCell (p := ⟨B + 1, 1, none⟩) (.inl rfl) (.int .u64 bt)).setCell (p := ⟨B + 1, 2, none⟩) (.inl rfl) (.slice p n c))
  have HB := Pin.Aside.mk (hb.trans (hk4.below (by first | exact hb.size | (rw [← hB]; exact hb.size)) fun q h => by rw [h]; omega))
  clear hk4 hb HF
  go_wp2_with fail
  refine bodyPost_ret (v := .tuple #[.agg #[.int .u64 base, .int .u64 bt, .slice p n c], .int .u64 0, .bool true]) (by simp [results, Try.results18, go_sem, *]) rfl ?_
  rw [HT.out]
  exact ⟨⟨p, n, c, rfl, hc1, HL.out.below (by first | exact HB.out | (rw [hB]; exact HB.out))⟩, by first | exact HB.out | (rw [hB]; exact HB.out)⟩
set_option maxHeartbeats 3200000 in
theorem lg_take_d2 (g : Lg) (ho : g.ok) (prev term : Int) (hp0 : 0 ≤ prev ∧ prev ≤ 18446744073709551615) (ht0 : 0 ≤ term ∧ term ≤ 18446744073709551615) (more : List En) (hm : ∀ e ∈ more, e.ok) (p p2 : Option Addr) (n c n2 c2 : Nat) (hn1 : n ≤ 500) (hc1 : n ≤ c) (hn2 : n2 ≤ 500) (hc2 : n2 ≤ c2) (w : World) (hL : EntsAt w p n g.l) (hM : EntsAt w p2 n2 more) (h1 : g.right = true) (h2 : (Lg.mk prev term more).right = true) (h3 : ¬ g.base ≤ prev) (h5 : more.findIdx? (lgMiss g) = none) :
    Calls Try.prog 18 #[g.val p n c, .int .u64 prev, .int .u64 term, .slice p2 n2 c2] w fun x w' => (∃ p' n' c', x = .returned (.tuple #[(g.take prev term more).1.val p' n' c', .int .u64 (g.take prev term more).2.1, .bool (g.take prev term more).2.2]) ∧ n' ≤ c' ∧ EntsAt w' p' n' (g.take prev term more).1.l) ∧ Below w.heap.size w w' := by
  have hk := (Keep.refl (fun _ => False) w).alloc (.cells #[.int .u64 g.base, .int .u64 g.bt, .slice p n c] 27)
  obtain ⟨cb, ct, cs⟩ := LgCells.new w 27 g p n c
  have hk2 := (Keep.refl (fun _ => False) (w.alloc (.cells #[.int .u64 g.base, .int .u64 g.bt, .slice p n c] 27))).alloc (.cells #[.int .u64 0, .int .u64 0, .slice none 0 0] 27)
  have hk3 := hk.trans hk2
  have hb := hk3.below (Nat.le_refl _) fun _ q => q.elim
  have hr0 : ((w.alloc (.cells #[.int .u64 g.base, .int .u64 g.bt, .slice p n c] 27)).alloc (.cells #[.int .u64 0, .int .u64 0, .slice none 0 0] 27)).cell? ⟨w.heap.size + 1, 0, none⟩ = some (.int .u64 0) := by simp
  have hr1 : ((w.alloc (.cells #[.int .u64 g.base, .int .u64 g.bt, .slice p n c] 27)).alloc (.cells #[.int .u64 0, .int .u64 0, .slice none 0 0] 27)).cell? ⟨w.heap.size + 1, 1, none⟩ = some (.int .u64 0) := by simp
  have hr2 : ((w.alloc (.cells #[.int .u64 g.base, .int .u64 g.bt, .slice p n c] 27)).alloc (.cells #[.int .u64 0, .int .u64 0, .slice none 0 0] 27)).cell? ⟨w.heap.size + 1, 2, none⟩ = some (.slice none 0 0) := by simp
  have hf0 : ∀ j, ((w.alloc (.cells #[.int .u64 g.base, .int .u64 g.bt, .slice p n c] 27)).alloc (.cells #[.int .u64 0, .int .u64 0, .slice none 0 0] 27)).frozen? ⟨w.heap.size + 1, j, none⟩ = false := by intro j; simp
  replace cb := hk2.cell cb id
  replace ct := hk2.cell ct id
  replace cs := hk2.cell cs id
  have HL := Pin.Aside.mk hL
  have HM := Pin.Aside.mk hM
  have Hr1 := Pin.Aside.mk (fun W hW => lg_right g ho p n c (by omega) W hW)
  have Hr2 := Pin.Aside.mk (fun W hW => lg_right ⟨prev, term, more⟩ ⟨hp0, ht0, hm⟩ p2 n2 c2 (by omega) W hW)
  have Hsm := Pin.Aside.mk (fun W hW => lg_same g prev term p n c (by omega) W hW)
  clear hk hk2 hk3 hL hM
  have HI := Pin.Aside.mk (show lgIdx (lgMiss g) more = -1 by unfold lgIdx; rw [h5])
  have HT := Pin.Aside.mk (show g.take prev term more = (g, 0, true) by unfold Lg.take; rw [if_neg (by rintro (q | q | q); rw [h1] at q; cases q; rw [h2] at q; cases q; exact h3 q.1), h5])
  rw [h1] at Hr1
  rw [h2] at Hr2
  clear h1 h2
  have hgv : g = ⟨g.base, g.bt, g.l⟩ := rfl
  obtain ⟨base, bt, L⟩ := g
  dsimp only [Lg.val] at *
  go_enter Try.func18, Try.ntmps18
  go_upto_region 1 with fail
  generalize World.alloc (World.alloc _ _) _ = wa at *
  have hB0 : w.heap.size = w.heap.size := rfl
  generalize hB : w.heap.size = B at hb cb ct cs hr0 hr1 hr2 hf0 hB0 ⊢
  clear hB0 hgv
  have HF := Pin.Aside.mk hf0
  clear hf0
  go_wp2_with fail
  refine (Hr1.out _ (HL.out.below (by first | exact hb | (rw [hB]; exact hb)))).mono ?_
  rintro x w1 ⟨rfl, hbb⟩
  have hkk : Keep (fun _ => False) wa w1 := Keep.of_below hbb fun _ q _ => q
  replace cb := hkk.cell cb id
  replace ct := hkk.cell ct id
  replace cs := hkk.cell cs id
  have hf0 : ∀ j, w1.frozen? ⟨B + 1, j, none⟩ = false := fun j => (hkk.frozen_at (q := ⟨B + 1, j, none⟩) hr0 rfl id).trans (HF.out j)
  replace hr0 := hkk.cell hr0 id
  replace hr1 := hkk.cell hr1 id
  replace hr2 := hkk.cell hr2 id
  replace hb := hb.trans (hbb.mono (by first | exact hb.size | (rw [← hB]; exact hb.size)))
  replace HF := Pin.Aside.mk hf0
  clear hbb hkk hf0
  go_wp2_with fail
  refine (Hr2.out _ (HM.out.below (by first | exact hb | (rw [hB]; exact hb)))).mono ?_
  rintro x w2 ⟨rfl, hbb⟩
  have hkk : Keep (fun _ => False) w1 w2 := Keep.of_below hbb fun _ q _ => q
  replace cb := hkk.cell cb id
  replace ct := hkk.cell ct id
  replace cs := hkk.cell cs id
  have hf0 : ∀ j, w2.frozen? ⟨B + 1, j, none⟩ = false := fun j => (hkk.frozen_at (q := ⟨B + 1, j, none⟩) hr0 rfl id).trans (HF.out j)
  replace hr0 := hkk.cell hr0 id
  replace hr1 := hkk.cell hr1 id
  replace hr2 := hkk.cell hr2 id
  replace hb := hb.trans (hbb.mono (by first | exact hb.size | (rw [← hB]; exact hb.size)))
  replace HF := Pin.Aside.mk hf0
  clear hbb hkk hf0
  have ⟨w3, hw3⟩ : ∃ w3, w2 = w3 := ⟨_, rfl⟩
  subst hw3
  clear Hr1 Hr2 Hsm
  have Hx2 := Pin.Aside.mk (lg_idxMiss (lgMiss ⟨base, bt, L⟩) B _ n2 c2 more (by omega) w2 (HM.out.below (by first | exact hb | (rw [hB]; exact hb))) (fun e _ W' hW' => by
    have hq : Keep (fun _ => False) w2 W' := Keep.of_below hW' fun _ q _ => q
    exact lg_miss1 ⟨base, bt, L⟩ e B p n c (by omega) W' ⟨hq.cell cb id, hq.cell ct id, hq.cell cs id⟩ ((HL.out.below (by first | exact hb | (rw [hB]; exact hb))).keep' hq)))
  rw [HI.out] at Hx2
  go_wp2_with fail
  refine Hx2.out.mono ?_
  rintro x w4 ⟨rfl, hbb⟩
  have hkk : Keep (fun _ => False) w2 w4 := Keep.of_below hbb fun _ q _ => q
  replace cb := hkk.cell cb id
  replace ct := hkk.cell ct id
  replace cs := hkk.cell cs id
  have hf0 : ∀ j, w4.frozen? ⟨B + 1, j, none⟩ = false := fun j => (hkk.frozen_at (q := ⟨B + 1, j, none⟩) hr0 rfl id).trans (HF.out j)
  replace hr0 := hkk.cell hr0 id
  replace hr1 := hkk.cell hr1 id
  replace hr2 := hkk.cell hr2 id
  replace hb := hb.trans (hbb.mono (by first | exact hb.size | (rw [← hB]; exact hb.size)))
  replace HF := Pin.Aside.mk hf0
  clear hbb hkk hf0
  clear Hx2
  have hfa := HF.out 0
  have hfb := HF.out 1
  have hfc := HF.out 2
  have hk4 := ((((Keep.refl (fun b => b = B + 1) w4).setCell (p := ⟨B + 1, 0, none⟩) (.inl rfl) (.int .u64 base)).setCell (p := ⟨B + 1, 1, none⟩) (.inl rfl) (.int .u64 bt)).setCell (p := ⟨B + 1, 2, none⟩) (.inl rfl) (.slice p n c))
  have HB := Pin.Aside.mk (hb.trans (hk4.below (by first | exact hb.size | (rw [← hB]; exact hb.size)) fun q h => by rw [h]; omega))
  clear hk4 hb HF
  go_wp2_with fail
  refine bodyPost_ret (v := .tuple #[.agg #[.int .u64 base, .int .u64 bt, .slice p n c], .int .u64 0, .bool true]) (by simp [results, Try.results18, go_sem, *]) rfl ?_
  rw [HT.out]
  exact ⟨⟨p, n, c, rfl, hc1, HL.out.below (by first | exact HB.out | (rw [hB]; exact HB.out))⟩, by first | exact HB.out | (rw [hB]; exact HB.out)⟩
set_option maxHeartbeats 3200000 in
theorem lg_take_e1 (g : Lg) (ho : g.ok) (prev term : Int) (hp0 : 0 ≤ prev ∧ prev ≤ 18446744073709551615) (ht0 : 0 ≤ term ∧ term ≤ 18446744073709551615) (more : List En) (hm : ∀ e ∈ more, e.ok) (p p2 : Option Addr) (n c n2 c2 : Nat) (hn1 : n ≤ 500) (hc1 : n ≤ c) (hn2 : n2 ≤ 500) (hc2 : n2 ≤ c2) (w : World) (hL : EntsAt w p n g.l) (hM : EntsAt w p2 n2 more) (h1 : g.right = true) (h2 : (Lg.mk prev term more).right = true) (h3 : g.base ≤ prev) (h4 : g.same prev term = true) (k K : Nat) (e : En) (h5 : more.findIdx? (lgMiss g) = some k) (h6 : more[k]? = some e) (hK : K = min (e.index - g.base - 1).toNat g.l.length) (h7 : (Lg.mk g.base g.bt (g.l.take K ++ more.drop k)).right = false) :
    Calls Try.prog 18 #[g.val p n c, .int .u64 prev, .int .u64 term, .slice p2 n2 c2] w fun x w' => (∃ p' n' c', x = .returned (.tuple #[(g.take prev term more).1.val p' n' c', .int .u64 (g.take prev term more).2.1, .bool (g.take prev term more).2.2]) ∧ n' ≤ c' ∧ EntsAt w' p' n' (g.take prev term more).1.l) ∧ Below w.heap.size w w' := by
  have hk := (Keep.refl (fun _ => False) w).alloc (.cells #[.int .u64 g.base, .int .u64 g.bt, .slice p n c] 27)
  obtain ⟨cb, ct, cs⟩ := LgCells.new w 27 g p n c
  have hk2 := (Keep.refl (fun _ => False) (w.alloc (.cells #[.int .u64 g.base, .int .u64 g.bt, .slice p n c] 27))).alloc (.cells #[.int .u64 0, .int .u64 0, .slice none 0 0] 27)
  have hk3 := hk.trans hk2
  have hb := hk3.below (Nat.le_refl _) fun _ q => q.elim
  have hr0 : ((w.alloc (.cells #[.int .u64 g.base, .int .u64 g.bt, .slice p n c] 27)).alloc (.cells #[.int .u64 0, .int .u64 0, .slice none 0 0] 27)).cell? ⟨w.heap.size + 1, 0, none⟩ = some (.int .u64 0) := by simp
  have hr1 : ((w.alloc (.cells #[.int .u64 g.base, .int .u64 g.bt, .slice p n c] 27)).alloc (.cells #[.int .u64 0, .int .u64 0, .slice none 0 0] 27)).cell? ⟨w.heap.size + 1, 1, none⟩ = some (.int .u64 0) := by simp
  have hr2 : ((w.alloc (.cells #[.int .u64 g.base, .int .u64 g.bt, .slice p n c] 27)).alloc (.cells #[.int .u64 0, .int .u64 0, .slice none 0 0] 27)).cell? ⟨w.heap.size + 1, 2, none⟩ = some (.slice none 0 0) := by simp
  have hf0 : ∀ j, ((w.alloc (.cells #[.int .u64 g.base, .int .u64 g.bt, .slice p n c] 27)).alloc (.cells #[.int .u64 0, .int .u64 0, .slice none 0 0] 27)).frozen? ⟨w.heap.size + 1, j, none⟩ = false := by intro j; simp
  replace cb := hk2.cell cb id
  replace ct := hk2.cell ct id
  replace cs := hk2.cell cs id
  have HL := Pin.Aside.mk hL
  have HM := Pin.Aside.mk hM
  have Hr1 := Pin.Aside.mk (fun W hW => lg_right g ho p n c (by omega) W hW)
  have Hr2 := Pin.Aside.mk (fun W hW => lg_right ⟨prev, term, more⟩ ⟨hp0, ht0, hm⟩ p2 n2 c2 (by omega) W hW)
  have Hsm := Pin.Aside.mk (fun W hW => lg_same g prev term p n c (by omega) W hW)
  clear hk hk2 hk3 hL hM
  have HI := Pin.Aside.mk (show lgIdx (lgMiss g) more = k by unfold lgIdx; rw [h5])
  have HT := Pin.Aside.mk (show g.take prev term more = (g, 0, false) by
    unfold Lg.take
    rw [if_neg (by rintro (q | q | q); rw [h1] at q; cases q; rw [h2] at q; cases q; rw [h4] at q; cases q.2), h5]
    dsimp only
    rw [show more.getD k En.zero = e by rw [List.getD_eq_getElem?_getD, h6]; rfl, ← hK, if_neg (by rw [h7]; decide)])
  have hmis : lgMiss g e = true := by
    rw [List.findIdx?_eq_some_iff_getElem] at h5
    obtain ⟨q1, q2, _⟩ := h5
    rw [List.getElem?_eq_getElem q1] at h6
    cases h6; exact q2
  have hbe : g.base < e.index := by
    unfold lgMiss at hmis
    simp only [Bool.and_eq_true, decide_eq_true_eq] at hmis
    exact hmis.1
  have hei := (hm e (List.mem_of_getElem? h6)).index
  have hb1 := ho.base
  have hkn : k < n2 := by rw [← HM.out.len]; exact (List.getElem?_eq_some_iff.1 h6).1
  have hKn : K ≤ n := by rw [hK, HL.out.len]; exact Nat.min_le_right _ _
  have hx1 : IntKind.u64.wrap (e.index - g.base) = e.index - g.base := by rw [IntKind.wrap_u64]; omega
  have hx2 : IntKind.u64.wrap (e.index - g.base - 1) = e.index - g.base - 1 := by rw [IntKind.wrap_u64]; omega
  have hx3 : min (e.index - g.base - 1) (n : Int) = (K : Int) := by rw [hK, HL.out.len]; omega
  have HX := Pin.Aside.mk (And.intro hx1 (And.intro hx2 hx3))
  have hok : (Lg.mk g.base g.bt (g.l.take K ++ more.drop k)).ok := ⟨ho.base, ho.bt, fun x hx => by
    rcases List.mem_append.1 hx with q | q
    · exact ho.l x (List.mem_of_mem_take q)
    · exact hm x (List.mem_of_mem_drop q)⟩
  have HOK := Pin.Aside.mk hok
  obtain ⟨A, o, rfl, hE⟩ := HM.out.at' k e h6
  have HE := Pin.Aside.mk hE
  have H7 := Pin.Aside.mk h7
  have HLM := Pin.Aside.mk (show (g.l.take K ++ more.drop k).length = K + (n2 - k) by rw [List.length_append, List.length_take, List.length_drop, HL.out.len, HM.out.len]; omega)
  clear hx1 hx2 hx3 hok hE hmis h5 h6 h7 hK
  rw [h1] at Hr1
  rw [h2] at Hr2
  rw [h4] at Hsm
  clear h1 h2 h4
  have hgv : g = ⟨g.base, g.bt, g.l⟩ := rfl
  obtain ⟨base, bt, L⟩ := g
  dsimp only [Lg.val] at *
  go_enter Try.func18, Try.ntmps18
  go_upto_region 1 with fail
  generalize World.alloc (World.alloc _ _) _ = wa at *
  have hB0 : w.heap.size = w.heap.size := rfl
  generalize hB : w.heap.size = B at hb cb ct cs hr0 hr1 hr2 hf0 hB0 ⊢
  clear hB0 hgv
  have HF := Pin.Aside.mk hf0
  clear hf0
  go_wp2_with fail
  refine (Hr1.out _ (HL.out.below (by first | exact hb | (rw [hB]; exact hb)))).mono ?_
  rintro x w1 ⟨rfl, hbb⟩
  have hkk : Keep (fun _ => False) wa w1 := Keep.of_below hbb fun _ q _ => q
  replace cb := hkk.cell cb id
  replace ct := hkk.cell ct id
  replace cs := hkk.cell cs id
  have hf0 : ∀ j, w1.frozen? ⟨B + 1, j, none⟩ = false := fun j => (hkk.frozen_at (q := ⟨B + 1, j, none⟩) hr0 rfl id).trans (HF.out j)
  replace hr0 := hkk.cell hr0 id
  replace hr1 := hkk.cell hr1 id
  replace hr2 := hkk.cell hr2 id
  replace hb := hb.trans (hbb.mono (by first | exact hb.size | (rw [← hB]; exact hb.size)))
  replace HF := Pin.Aside.mk hf0
  clear hbb hkk hf0
  go_wp2_with fail
  refine (Hr2.out _ (HM.out.below (by first | exact hb | (rw [hB]; exact hb)))).mono ?_
  rintro x w2 ⟨rfl, hbb⟩
  have hkk : Keep (fun _ => False) w1 w2 := Keep.of_below hbb fun _ q _ => q
  replace cb := hkk.cell cb id
  replace ct := hkk.cell ct id
  replace cs := hkk.cell cs id
  have hf0 : ∀ j, w2.frozen? ⟨B + 1, j, none⟩ = false := fun j => (hkk.frozen_at (q := ⟨B + 1, j, none⟩) hr0 rfl id).trans (HF.out j)
  replace hr0 := hkk.cell hr0 id
  replace hr1 := hkk.cell hr1 id
  replace hr2 := hkk.cell hr2 id
  replace hb := hb.trans (hbb.mono (by first | exact hb.size | (rw [← hB]; exact hb.size)))
  replace HF := Pin.Aside.mk hf0
  clear hbb hkk hf0
  go_wp2_with fail
  refine (Hsm.out _ (HL.out.below (by first | exact hb | (rw [hB]; exact hb)))).mono ?_
  rintro x w3 ⟨rfl, hbb⟩
  have hkk : Keep (fun _ => False) w2 w3 := Keep.of_below hbb fun _ q _ => q
  replace cb := hkk.cell cb id
  replace ct := hkk.cell ct id
  replace cs := hkk.cell cs id
  have hf0 : ∀ j, w3.frozen? ⟨B + 1, j, none⟩ = false := fun j => (hkk.frozen_at (q := ⟨B + 1, j, none⟩) hr0 rfl id).trans (HF.out j)
  replace hr0 := hkk.cell hr0 id
  replace hr1 := hkk.cell hr1 id
  replace hr2 := hkk.cell hr2 id
  replace hb := hb.trans (hbb.mono (by first | exact hb.size | (rw [← hB]; exact hb.size)))
  replace HF := Pin.Aside.mk hf0
  clear hbb hkk hf0
  clear Hr1 Hr2 Hsm
  have Hx2 := Pin.Aside.mk (lg_idxMiss (lgMiss ⟨base, bt, L⟩) B _ n2 c2 more (by omega) w3 (HM.out.below (by first | exact hb | (rw [hB]; exact hb))) (fun e _ W' hW' => by
    have hq : Keep (fun _ => False) w3 W' := Keep.of_below hW' fun _ q _ => q
    exact lg_miss1 ⟨base, bt, L⟩ e B p n c (by omega) W' ⟨hq.cell cb id, hq.cell ct id, hq.cell cs id⟩ ((HL.out.below (by first | exact hb | (rw [hB]; exact hb))).keep' hq)))
  rw [HI.out] at Hx2
  go_wp2_with fail
  refine Hx2.out.mono ?_
  rintro x w4 ⟨rfl, hbb⟩
  have hkk : Keep (fun _ => False) w3 w4 := Keep.of_below hbb fun _ q _ => q
  replace cb := hkk.cell cb id
  replace ct := hkk.cell ct id
  replace cs := hkk.cell cs id
  have hf0 : ∀ j, w4.frozen? ⟨B + 1, j, none⟩ = false := fun j => (hkk.frozen_at (q := ⟨B + 1, j, none⟩) hr0 rfl id).trans (HF.out j)
  replace hr0 := hkk.cell hr0 id
  replace hr1 := hkk.cell hr1 id
  replace hr2 := hkk.cell hr2 id
  replace hb := hb.trans (hbb.mono (by first | exact hb.size | (rw [← hB]; exact hb.size)))
  replace HF := Pin.Aside.mk hf0
  clear hbb hkk hf0
  clear Hx2
  have c1 := (HE.out.keep (Keep.of_below (S := fun _ => False) hb fun _ q _ => by first | exact q | (rw [← hB]; exact q)) id).c1
  have hk0 : (0 : Int) ≤ (k : Int) := by omega
  have hk1 : (k : Int) < (n2 : Int) := by omega
  obtain ⟨hx1, hx2, hx3⟩ := HX.out
  try dsimp only at hx1 hx2 hx3 hbe hei hb1
  go_upto_region 8 with fail
  clear c1 hx1 hx2 hx3
  have hBl := World.block_lt_of_cell? _ _ hr0
  dsimp only at hBl
  have k0 : ∀ s' : KW (fun b => b = B + 1) w4, s'.w.cell? ⟨B, 0, none⟩ = some (.int .u64 base) := fun s' => s'.keep.cell cb (by simp)
  have k1 : ∀ s' : KW (fun b => b = B + 1) w4, s'.w.cell? ⟨B, 1, none⟩ = some (.int .u64 bt) := fun s' => s'.keep.cell ct (by simp)
  have k2 : ∀ s' : KW (fun b => b = B + 1) w4, s'.w.cell? ⟨B, 2, none⟩ = some (.slice p n c) := fun s' => s'.keep.cell cs (by simp)
  have hK0 : (0 : Int) ≤ (K : Int) := by omega
  have hK1 : (K : Int) ≤ (c : Int) := by omega
  have hk2 : (k : Int) ≤ (n2 : Int) := by omega
  have hk3 : (n2 : Int) ≤ (c2 : Int) := by omega
  refine wp_region_stay (S := fun w' => ∃ s' : KW (fun b => b = B + 1) w4, w' = s'.w) 8 (by kernel_rfl) (by simp) (by kernel_rfl) (by kernel_rfl) ⟨⟨w4.drew, (Keep.refl _ w4).drew⟩, rfl⟩ ?_
  simp only [List.take_succ_cons, List.take_zero]
  refine wpStay_quietS 8 _ _ (by kernel_rfl) ?_
  simp only [List.take_succ_cons, List.take_zero, List.drop_succ_cons, List.drop_zero]
  repeat (go_big_quiet_step (fail))
  refine wpQuiet_nil ?_
  refine wpStay_nil ?_
  refine wpAnyH_more (g := 4) 9 3 (by simp) (by kernel_rfl) (by kernel_rfl) ⟨⟨w4.drew, (Keep.refl _ w4).drew⟩, rfl⟩ ?_
  simp only [List.take_succ_cons, List.take_zero, List.drop_succ_cons, List.drop_zero]
  refine wpStay_quietS 3 _ _ (by kernel_rfl) ?_
  simp only [List.take_succ_cons, List.take_zero, List.drop_succ_cons, List.drop_zero]
  repeat (go_big_quiet_step (fail))
  refine wpQuiet_nil ?_
  refine wpStay_nil ?_
  clear k0 k1 k2 hK0 hK1 hk2 hk3 hk0 hk1
  refine wpAnyH_one 8 (by kernel_rfl) rfl (fun K' hK' => ?_)
  go_simp
  refine (lg_clone p K c (L.take K) (by omega) _ ((HL.out.take K hKn).below (below_drew (by first | exact hb | (rw [hB]; exact hb))))).mono ?_
  rintro x w5 ⟨⟨v, rfl, hv⟩, hbb⟩
  have hlt4 : w4.drew.heap.size = w4.heap.size := rfl
  rw [hlt4] at hv hbb
  have hkc : Keep (fun b => b = B + 1) w4 w5 := ((Keep.refl _ w4).drew).trans (Keep.of_below hbb fun q h1 h2 => h1)
  have hbc := (below_drew hb).trans (hbb.mono (by first | exact hb.size | (rw [← hB]; exact hb.size)))
  refine hK'.out _ _ ⟨⟨w5, hkc⟩, rfl⟩ (fun _ => ?_)
  clear hK' K'
  have hv0 := hv
  replace hv := ownE_le hv (show B + 2 ≤ w4.heap.size by omega)
  have hsz5 := hkc.size
  have hnews : ∀ (j : Nat) (u : Value), (enCells (more.drop k))[j]? = some u → w5.cell? ((⟨A, o + k * 11, none⟩ : Addr).add j) = some u := fun j u hu => ((HM.out.below (by first | exact hbc | (rw [hB]; exact hbc))).drop k).news j u hu
  have hlen : (enCells (more.drop k)).length = (n2 - k) * 11 := by rw [enCells_len, List.length_drop, HM.out.len]
  have htl : (L.take K).length = K := by rw [List.length_take, HL.out.len]; exact Nat.min_eq_left hKn
  obtain ⟨i0, hi, hz0, hzs, hzb⟩ := info_parts en_info
  refine wpAnyH_one 12 (by kernel_rfl) rfl (fun K' hK' => ?_)
  rw [if_pos (by rfl)]
  refine wp_append_lies _ _ _ _ rfl (B + 2) 32 i0 En.zero.val 11 104 Try.underlying25 hi hz0 hzs hzb rfl (by omega) v (L.take K).length (enCells (L.take K)) (by rfl) hv ⟨A, o + k * 11, none⟩ (n2 - k) (c2 - k) (enCells (more.drop k)) (by rfl) hlen hnews (enCells_one _) (by omega) (by rw [htl]; unfold maxLen; omega) (by rw [htl]; omega) (by omega) _ rfl ?_
  intro g2 cap w6 hown6 hgrow hat hlt6
  have hbf : Below w4.heap.size w4 w6 := ((Below.refl _ w4).trans ⟨hbb.os, hbb.tape, hbb.output, hbb.size, hbb.block⟩).grown hgrow (by omega) (fun q hq => (hv0.lt q hq).1)
  have hkd : Keep (fun b => b = B + 1) w4 w6 := Keep.of_below hbf fun q h1 h2 => h1
  have hbd := hb.trans (hbf.mono (by first | exact hb.size | (rw [← hB]; exact hb.size)))
  refine hK'.out _ _ ⟨⟨w6, hkd⟩, rfl⟩ (fun _ => ?_)
  clear hK' K'
  have HO := Pin.Aside.mk (show OwnE w6 (B + 2) 32 (.slice (some ⟨g2, 0, none⟩) (K + (n2 - k)) cap) (L.take K ++ more.drop k) by
    unfold OwnE
    rw [enCells_app, List.length_append, List.length_drop, HM.out.len, htl]
    rw [htl] at hown6; exact hown6)
  rw [htl]
  have hkf : Keep (fun _ => False) w4 w6 := Keep.of_below hbf fun q h1 h2 => h1
  have hfa : w6.frozen? ⟨B + 1, 0, none⟩ = false := (hkf.frozen_at (q := ⟨B + 1, 0, none⟩) hr0 rfl id).trans (HF.out 0)
  have hfb : w6.frozen? ⟨B + 1, 1, none⟩ = false := (hkf.frozen_at (q := ⟨B + 1, 1, none⟩) hr0 rfl id).trans (HF.out 1)
  have hfc : w6.frozen? ⟨B + 1, 2, none⟩ = false := (hkf.frozen_at (q := ⟨B + 1, 2, none⟩) hr0 rfl id).trans (HF.out 2)
  replace hr0 := hkf.cell hr0 id
  replace hr1 := hkf.cell hr1 id
  replace hr2 := hkf.cell hr2 id
  replace cb := hkf.cell cb id
  replace ct := hkf.cell ct id
  replace cs := hkf.cell cs id
  clear hown6 hgrow hat hlt6 hlen hnews hv hv0 hbb hbc hkc hkf hb hlt4
  refine wpAnyH_one 13 (by kernel_rfl) rfl (fun K' hK' => ?_)
  go_simp
  refine hK'.out _ _ ⟨⟨w6, hkd⟩, rfl⟩ (fun _ => ?_)
  clear hK' K'
  refine wpAnyH_one 14 (by kernel_rfl) rfl (fun K' hK' => ?_)
  go_simp
  have hk4 := ((((Keep.refl (fun b => b = B + 1) w6).setCell (p := ⟨B + 1, 0, none⟩) (.inl rfl) (.int .u64 base)).setCell (p := ⟨B + 1, 1, none⟩) (.inl rfl) (.int .u64 bt)).setCell (p := ⟨B + 1, 2, none⟩) (.inl rfl) (.slice (some ⟨g2, 0, none⟩) (K + (n2 - k)) cap))
  refine hK'.out _ _ ⟨⟨_, hkd.trans hk4⟩, rfl⟩ (fun _ => ?_)
  clear hK' K'
  refine wpAnyH_done (by kernel_rfl) (NoPanic.normal ?_) _
  have r0 : (((w6.setCell ⟨B + 1, 0, none⟩ (.int .u64 base)).setCell ⟨B + 1, 1, none⟩ (.int .u64 bt)).setCell ⟨B + 1, 2, none⟩ (.slice (some ⟨g2, 0, none⟩) (K + (n2 - k)) cap)).cell? ⟨B + 1, 0, none⟩ = some (.int .u64 base) := by simp [go_sem, hr0, hr1, hr2]
  have r1 : (((w6.setCell ⟨B + 1, 0, none⟩ (.int .u64 base)).setCell ⟨B + 1, 1, none⟩ (.int .u64 bt)).setCell ⟨B + 1, 2, none⟩ (.slice (some ⟨g2, 0, none⟩) (K + (n2 - k)) cap)).cell? ⟨B + 1, 1, none⟩ = some (.int .u64 bt) := by simp [go_sem, hr0, hr1, hr2]
  have r2 : (((w6.setCell ⟨B + 1, 0, none⟩ (.int .u64 base)).setCell ⟨B + 1, 1, none⟩ (.int .u64 bt)).setCell ⟨B + 1, 2, none⟩ (.slice (some ⟨g2, 0, none⟩) (K + (n2 - k)) cap)).cell? ⟨B + 1, 2, none⟩ = some (.slice (some ⟨g2, 0, none⟩) (K + (n2 - k)) cap) := by simp [go_sem, hr0, hr1, hr2]
  have gfa : (((w6.setCell ⟨B + 1, 0, none⟩ (.int .u64 base)).setCell ⟨B + 1, 1, none⟩ (.int .u64 bt)).setCell ⟨B + 1, 2, none⟩ (.slice (some ⟨g2, 0, none⟩) (K + (n2 - k)) cap)).frozen? ⟨B + 1, 0, none⟩ = false := by simp [go_sem, hfa]
  have gfb : (((w6.setCell ⟨B + 1, 0, none⟩ (.int .u64 base)).setCell ⟨B + 1, 1, none⟩ (.int .u64 bt)).setCell ⟨B + 1, 2, none⟩ (.slice (some ⟨g2, 0, none⟩) (K + (n2 - k)) cap)).frozen? ⟨B + 1, 1, none⟩ = false := by simp [go_sem, hfb]
  have gfc : (((w6.setCell ⟨B + 1, 0, none⟩ (.int .u64 base)).setCell ⟨B + 1, 1, none⟩ (.int .u64 bt)).setCell ⟨B + 1, 2, none⟩ (.slice (some ⟨g2, 0, none⟩) (K + (n2 - k)) cap)).frozen? ⟨B + 1, 2, none⟩ = false := by simp [go_sem, hfc]
  replace cb := hk4.cell cb (by simp)
  replace ct := hk4.cell ct (by simp)
  replace cs := hk4.cell cs (by simp)
  have hb := hbd.trans (hk4.below (by first | exact hbd.size | (rw [← hB]; exact hbd.size)) fun q h => by rw [h]; omega)
  have hO7 := ownE_keep HO.out hk4 (fun q hq h => by have := (HO.out.lt q hq).1; omega)
  clear hk4 hbd hkd hbf HO hfa hfb hfc hr0 hr1 hr2
  generalize World.setCell (World.setCell (World.setCell w6 _ _) _ _) _ _ = w7 at *
  obtain ⟨hE7, hc7, hA7⟩ := OwnE.ents hO7
  have Hr := Pin.Aside.mk (lg_right ⟨base, bt, L.take K ++ more.drop k⟩ HOK.out (some ⟨g2, 0, none⟩) (K + (n2 - k)) cap (by omega) w7 hE7)
  rw [H7.out] at Hr
  have HE7 := Pin.Aside.mk hE7
  have HA7 := Pin.Aside.mk hA7
  have hr0 := r0
  have hr1 := r1
  have hr2 := r2
  have hf0 : ∀ j, j < 3 → w7.frozen? ⟨B + 1, j, none⟩ = false := fun j hj => by
    rcases (show j = 0 ∨ j = 1 ∨ j = 2 by omega) with rfl | rfl | rfl
    · exact gfa
    · exact gfb
    · exact gfc
  have HF := Pin.Aside.mk hf0
  clear hf0 r0 r1 r2 gfa gfb gfc hE7 hA7 hO7
  go_wp2_with fail
  refine Hr.out.mono ?_
  rintro x w8 ⟨rfl, hbb⟩
  have hkk : Keep (fun _ => False) w7 w8 := Keep.of_below hbb fun _ q _ => q
  replace cb := hkk.cell cb id
  replace ct := hkk.cell ct id
  replace cs := hkk.cell cs id
  have hfa : w8.frozen? ⟨B + 1, 0, none⟩ = false := (hkk.frozen_at (q := ⟨B + 1, 0, none⟩) hr0 rfl id).trans (HF.out 0 (by omega))
  have hfb : w8.frozen? ⟨B + 1, 1, none⟩ = false := (hkk.frozen_at (q := ⟨B + 1, 1, none⟩) hr0 rfl id).trans (HF.out 1 (by omega))
  have hfc : w8.frozen? ⟨B + 1, 2, none⟩ = false := (hkk.frozen_at (q := ⟨B + 1, 2, none⟩) hr0 rfl id).trans (HF.out 2 (by omega))
  replace hr0 := hkk.cell hr0 id
  replace hr1 := hkk.cell hr1 id
  replace hr2 := hkk.cell hr2 id
  replace hb := hb.trans (hbb.mono (by first | exact hb.size | (rw [← hB]; exact hb.size)))
  have HE8 := Pin.Aside.mk (HE7.out.keep' hkk)
  clear hbb hkk HF Hr
  have hk4 := ((((Keep.refl (fun b => b = B + 1) w8).setCell (p := ⟨B + 1, 0, none⟩) (.inl rfl) (.int .u64 base)).setCell (p := ⟨B + 1, 1, none⟩) (.inl rfl) (.int .u64 bt)).setCell (p := ⟨B + 1, 2, none⟩) (.inl rfl) (.slice p n c))
  have HB := Pin.Aside.mk (hb.trans (hk4.below (by first | exact hb.size | (rw [← hB]; exact hb.size)) fun q h => by rw [h]; omega))
  clear hk4 hb
  go_wp2_with fail
  refine bodyPost_ret (v := .tuple #[.agg #[.int .u64 base, .int .u64 bt, .slice p n c], .int .u64 0, .bool false]) (by simp [results, Try.results18, go_sem, *]) rfl ?_
  rw [HT.out]
  exact ⟨⟨p, n, c, rfl, hc1, HL.out.below (by first | exact HB.out | (rw [hB]; exact HB.out))⟩, by first | exact HB.out | (rw [hB]; exact HB.out)⟩
set_option maxHeartbeats 3200000 in
theorem lg_take_e2 (g : Lg) (ho : g.ok) (prev term : Int) (hp0 : 0 ≤ prev ∧ prev ≤ 18446744073709551615) (ht0 : 0 ≤ term ∧ term ≤ 18446744073709551615) (more : List En) (hm : ∀ e ∈ more, e.ok) (p p2 : Option Addr) (n c n2 c2 : Nat) (hn1 : n ≤ 500) (hc1 : n ≤ c) (hn2 : n2 ≤ 500) (hc2 : n2 ≤ c2) (w : World) (hL : EntsAt w p n g.l) (hM : EntsAt w p2 n2 more) (h1 : g.right = true) (h2 : (Lg.mk prev term more).right = true) (h3 : ¬ g.base ≤ prev) (k K : Nat) (e : En) (h5 : more.findIdx? (lgMiss g) = some k) (h6 : more[k]? = some e) (hK : K = min (e.index - g.base - 1).toNat g.l.length) (h7 : (Lg.mk g.base g.bt (g.l.take K ++ more.drop k)).right = false) :
    Calls Try.prog 18 #[g.val p n c, .int .u64 prev, .int .u64 term, .slice p2 n2 c2] w fun x w' => (∃ p' n' c', x = .returned (.tuple #[(g.take prev term more).1.val p' n' c', .int .u64 (g.take prev term more).2.1, .bool (g.take prev term more).2.2]) ∧ n' ≤ c' ∧ EntsAt w' p' n' (g.take prev term more).1.l) ∧ Below w.heap.size w w' := by
  have hk := (Keep.refl (fun _ => False) w).alloc (.cells #[.int .u64 g.base, .int .u64 g.bt, .slice p n c] 27)
  obtain ⟨cb, ct, cs⟩ := LgCells.new w 27 g p n c
  have hk2 := (Keep.refl (fun _ => False) (w.alloc (.cells #[.int .u64 g.base, .int .u64 g.bt, .slice p n c] 27))).alloc (.cells #[.int .u64 0, .int .u64 0, .slice none 0 0] 27)
  have hk3 := hk.trans hk2
  have hb := hk3.below (Nat.le_refl _) fun _ q => q.elim
  have hr0 : ((w.alloc (.cells #[.int .u64 g.base, .int .u64 g.bt, .slice p n c] 27)).alloc (.cells #[.int .u64 0, .int .u64 0, .slice none 0 0] 27)).cell? ⟨w.heap.size + 1, 0, none⟩ = some (.int .u64 0) := by simp
  have hr1 : ((w.alloc (.cells #[.int .u64 g.base, .int .u64 g.bt, .slice p n c] 27)).alloc (.cells #[.int .u64 0, .int .u64 0, .slice none 0 0] 27)).cell? ⟨w.heap.size + 1, 1, none⟩ = some (.int .u64 0) := by simp
  have hr2 : ((w.alloc (.cells #[.int .u64 g.base, .int .u64 g.bt, .slice p n c] 27)).alloc (.cells #[.int .u64 0, .int .u64 0, .slice none 0 0] 27)).cell? ⟨w.heap.size + 1, 2, none⟩ = some (.slice none 0 0) := by simp
  have hf0 : ∀ j, ((w.alloc (.cells #[.int .u64 g.base, .int .u64 g.bt, .slice p n c] 27)).alloc (.cells #[.int .u64 0, .int .u64 0, .slice none 0 0] 27)).frozen? ⟨w.heap.size + 1, j, none⟩ = false := by intro j; simp
  replace cb := hk2.cell cb id
  replace ct := hk2.cell ct id
  replace cs := hk2.cell cs id
  have HL := Pin.Aside.mk hL
  have HM := Pin.Aside.mk hM
  have Hr1 := Pin.Aside.mk (fun W hW => lg_right g ho p n c (by omega) W hW)
  have Hr2 := Pin.Aside.mk (fun W hW => lg_right ⟨prev, term, more⟩ ⟨hp0, ht0, hm⟩ p2 n2 c2 (by omega) W hW)
  have Hsm := Pin.Aside.mk (fun W hW => lg_same g prev term p n c (by omega) W hW)
  clear hk hk2 hk3 hL hM
  have HI := Pin.Aside.mk (show lgIdx (lgMiss g) more = k by unfold lgIdx; rw [h5])
  have HT := Pin.Aside.mk (show g.take prev term more = (g, 0, false) by
    unfold Lg.take
    rw [if_neg (by rintro (q | q | q); rw [h1] at q; cases q; rw [h2] at q; cases q; exact h3 q.1), h5]
    dsimp only
    rw [show more.getD k En.zero = e by rw [List.getD_eq_getElem?_getD, h6]; rfl, ← hK, if_neg (by rw [h7]; decide)])
  have hmis : lgMiss g e = true := by
    rw [List.findIdx?_eq_some_iff_getElem] at h5
    obtain ⟨q1, q2, _⟩ := h5
    rw [List.getElem?_eq_getElem q1] at h6
    cases h6; exact q2
  have hbe : g.base < e.index := by
    unfold lgMiss at hmis
    simp only [Bool.and_eq_true, decide_eq_true_eq] at hmis
    exact hmis.1
  have hei := (hm e (List.mem_of_getElem? h6)).index
  have hb1 := ho.base
  have hkn : k < n2 := by rw [← HM.out.len]; exact (List.getElem?_eq_some_iff.1 h6).1
  have hKn : K ≤ n := by rw [hK, HL.out.len]; exact Nat.min_le_right _ _
  have hx1 : IntKind.u64.wrap (e.index - g.base) = e.index - g.base := by rw [IntKind.wrap_u64]; omega
  have hx2 : IntKind.u64.wrap (e.index - g.base - 1) = e.index - g.base - 1 := by rw [IntKind.wrap_u64]; omega
  have hx3 : min (e.index - g.base - 1) (n : Int) = (K : Int) := by rw [hK, HL.out.len]; omega
  have HX := Pin.Aside.mk (And.intro hx1 (And.intro hx2 hx3))
  have hok : (Lg.mk g.base g.bt (g.l.take K ++ more.drop k)).ok := ⟨ho.base, ho.bt, fun x hx => by
    rcases List.mem_append.1 hx with q | q
    · exact ho.l x (List.mem_of_mem_take q)
    · exact hm x (List.mem_of_mem_drop q)⟩
  have HOK := Pin.Aside.mk hok
  obtain ⟨A, o, rfl, hE⟩ := HM.out.at' k e h6
  have HE := Pin.Aside.mk hE
  have H7 := Pin.Aside.mk h7
  have HLM := Pin.Aside.mk (show (g.l.take K ++ more.drop k).length = K + (n2 - k) by rw [List.length_append, List.length_take, List.length_drop, HL.out.len, HM.out.len]; omega)
  clear hx1 hx2 hx3 hok hE hmis h5 h6 h7 hK
  rw [h1] at Hr1
  rw [h2] at Hr2
  clear h1 h2
  have hgv : g = ⟨g.base, g.bt, g.l⟩ := rfl
  obtain ⟨base, bt, L⟩ := g
  dsimp only [Lg.val] at *
  go_enter Try.func18, Try.ntmps18
  go_upto_region 1 with fail
  generalize World.alloc (World.alloc _ _) _ = wa at *
  have hB0 : w.heap.size = w.heap.size := rfl
  generalize hB : w.heap.size = B at hb cb ct cs hr0 hr1 hr2 hf0 hB0 ⊢
  clear hB0 hgv
  have HF := Pin.Aside.mk hf0
  clear hf0
  go_wp2_with fail
  refine (Hr1.out _ (HL.out.below (by first | exact hb | (rw [hB]; exact hb)))).mono ?_
  rintro x w1 ⟨rfl, hbb⟩
  have hkk : Keep (fun _ => False) wa w1 := Keep.of_below hbb fun _ q _ => q
  replace cb := hkk.cell cb id
  replace ct := hkk.cell ct id
  replace cs := hkk.cell cs id
  have hf0 : ∀ j, w1.frozen? ⟨B + 1, j, none⟩ = false := fun j => (hkk.frozen_at (q := ⟨B + 1, j, none⟩) hr0 rfl id).trans (HF.out j)
  replace hr0 := hkk.cell hr0 id
  replace hr1 := hkk.cell hr1 id
  replace hr2 := hkk.cell hr2 id
  replace hb := hb.trans (hbb.mono (by first | exact hb.size | (rw [← hB]; exact hb.size)))
  replace HF := Pin.Aside.mk hf0
  clear hbb hkk hf0
  go_wp2_with fail
  refine (Hr2.out _ (HM.out.below (by first | exact hb | (rw [hB]; exact hb)))).mono ?_
  rintro x w2 ⟨rfl, hbb⟩
  have hkk : Keep (fun _ => False) w1 w2 := Keep.of_below hbb fun _ q _ => q
  replace cb := hkk.cell cb id
  replace ct := hkk.cell ct id
  replace cs := hkk.cell cs id
  have hf0 : ∀ j, w2.frozen? ⟨B + 1, j, none⟩ = false := fun j => (hkk.frozen_at (q := ⟨B + 1, j, none⟩) hr0 rfl id).trans (HF.out j)
  replace hr0 := hkk.cell hr0 id
  replace hr1 := hkk.cell hr1 id
  replace hr2 := hkk.cell hr2 id
  replace hb := hb.trans (hbb.mono (by first | exact hb.size | (rw [← hB]; exact hb.size)))
  replace HF := Pin.Aside.mk hf0
  clear hbb hkk hf0
  have ⟨w3, hw3⟩ : ∃ w3, w2 = w3 := ⟨_, rfl⟩
  subst hw3
  clear Hr1 Hr2 Hsm
  have Hx2 := Pin.Aside.mk (lg_idxMiss (lgMiss ⟨base, bt, L⟩) B _ n2 c2 more (by omega) w2 (HM.out.below (by first | exact hb | (rw [hB]; exact hb))) (fun e _ W' hW' => by
    have hq : Keep (fun _ => False) w2 W' := Keep.of_below hW' fun _ q _ => q
    exact lg_miss1 ⟨base, bt, L⟩ e B p n c (by omega) W' ⟨hq.cell cb id, hq.cell ct id, hq.cell cs id⟩ ((HL.out.below (by first | exact hb | (rw [hB]; exact hb))).keep' hq)))
  rw [HI.out] at Hx2
  go_wp2_with fail
  refine Hx2.out.mono ?_
  rintro x w4 ⟨rfl, hbb⟩
  have hkk : Keep (fun _ => False) w2 w4 := Keep.of_below hbb fun _ q _ => q
  replace cb := hkk.cell cb id
  replace ct := hkk.cell ct id
  replace cs := hkk.cell cs id
  have hf0 : ∀ j, w4.frozen? ⟨B + 1, j, none⟩ = false := fun j => (hkk.frozen_at (q := ⟨B + 1, j, none⟩) hr0 rfl id).trans (HF.out j)
  replace hr0 := hkk.cell hr0 id
  replace hr1 := hkk.cell hr1 id
  replace hr2 := hkk.cell hr2 id
  replace hb := hb.trans (hbb.mono (by first | exact hb.size | (rw [← hB]; exact hb.size)))
  replace HF := Pin.Aside.mk hf0
  clear hbb hkk hf0
  clear Hx2
  have c1 := (HE.out.keep (Keep.of_below (S := fun _ => False) hb fun _ q _ => by first | exact q | (rw [← hB]; exact q)) id).c1
  have hk0 : (0 : Int) ≤ (k : Int) := by omega
  have hk1 : (k : Int) < (n2 : Int) := by omega
  obtain ⟨hx1, hx2, hx3⟩ := HX.out
  try dsimp only at hx1 hx2 hx3 hbe hei hb1
  go_upto_region 8 with fail
  clear c1 hx1 hx2 hx3
  have hBl := World.block_lt_of_cell? _ _ hr0
  dsimp only at hBl
  have k0 : ∀ s' : KW (fun b => b = B + 1) w4, s'.w.cell? ⟨B, 0, none⟩ = some (.int .u64 base) := fun s' => s'.keep.cell cb (by simp)
  have k1 : ∀ s' : KW (fun b => b = B + 1) w4, s'.w.cell? ⟨B, 1, none⟩ = some (.int .u64 bt) := fun s' => s'.keep.cell ct (by simp)
  have k2 : ∀ s' : KW (fun b => b = B + 1) w4, s'.w.cell? ⟨B, 2, none⟩ = some (.slice p n c) := fun s' => s'.keep.cell cs (by simp)
  have hK0 : (0 : Int) ≤ (K : Int) := by omega
  have hK1 : (K : Int) ≤ (c : Int) := by omega
  have hk2 : (k : Int) ≤ (n2 : Int) := by omega
  have hk3 : (n2 : Int) ≤ (c2 : Int) := by omega
  refine wp_region_stay (S := fun w' => ∃ s' : KW (fun b => b = B + 1) w4, w' = s'.w) 8 (by kernel_rfl) (by simp) (by kernel_rfl) (by kernel_rfl) ⟨⟨w4.drew, (Keep.refl _ w4).drew⟩, rfl⟩ ?_
  simp only [List.take_succ_cons, List.take_zero]
  refine wpStay_quietS 8 _ _ (by kernel_rfl) ?_
  simp only [List.take_succ_cons, List.take_zero, List.drop_succ_cons, List.drop_zero]
  repeat (go_big_quiet_step (fail))
  refine wpQuiet_nil ?_
  refine wpStay_nil ?_
  refine wpAnyH_more (g := 4) 9 3 (by simp) (by kernel_rfl) (by kernel_rfl) ⟨⟨w4.drew, (Keep.refl _ w4).drew⟩, rfl⟩ ?_
  simp only [List.take_succ_cons, List.take_zero, List.drop_succ_cons, List.drop_zero]
  refine wpStay_quietS 3 _ _ (by kernel_rfl) ?_
  simp only [List.take_succ_cons, List.take_zero, List.drop_succ_cons, List.drop_zero]
  repeat (go_big_quiet_step (fail))
  refine wpQuiet_nil ?_
  refine wpStay_nil ?_
  clear k0 k1 k2 hK0 hK1 hk2 hk3 hk0 hk1
  refine wpAnyH_one 8 (by kernel_rfl) rfl (fun K' hK' => ?_)
  go_simp
  refine (lg_clone p K c (L.take K) (by omega) _ ((HL.out.take K hKn).below (below_drew (by first | exact hb | (rw [hB]; exact hb))))).mono ?_
  rintro x w5 ⟨⟨v, rfl, hv⟩, hbb⟩
  have hlt4 : w4.drew.heap.size = w4.heap.size := rfl
  rw [hlt4] at hv hbb
  have hkc : Keep (fun b => b = B + 1) w4 w5 := ((Keep.refl _ w4).drew).trans (Keep.of_below hbb fun q h1 h2 => h1)
  have hbc := (below_drew hb).trans (hbb.mono (by first | exact hb.size | (rw [← hB]; exact hb.size)))
  refine hK'.out _ _ ⟨⟨w5, hkc⟩, rfl⟩ (fun _ => ?_)
  clear hK' K'
  have hv0 := hv
  replace hv := ownE_le hv (show B + 2 ≤ w4.heap.size by omega)
  have hsz5 := hkc.size
  have hnews : ∀ (j : Nat) (u : Value), (enCells (more.drop k))[j]? = some u → w5.cell? ((⟨A, o + k * 11, none⟩ : Addr).add j) = some u := fun j u hu => ((HM.out.below (by first | exact hbc | (rw [hB]; exact hbc))).drop k).news j u hu
  have hlen : (enCells (more.drop k)).length = (n2 - k) * 11 := by rw [enCells_len, List.length_drop, HM.out.len]
  have htl : (L.take K).length = K := by rw [List.length_take, HL.out.len]; exact Nat.min_eq_left hKn
  obtain ⟨i0, hi, hz0, hzs, hzb⟩ := info_parts en_info
  refine wpAnyH_one 12 (by kernel_rfl) rfl (fun K' hK' => ?_)
  rw [if_pos (by rfl)]
  refine wp_append_lies _ _ _ _ rfl (B + 2) 32 i0 En.zero.val 11 104 Try.underlying25 hi hz0 hzs hzb rfl (by omega) v (L.take K).length (enCells (L.take K)) (by rfl) hv ⟨A, o + k * 11, none⟩ (n2 - k) (c2 - k) (enCells (more.drop k)) (by rfl) hlen hnews (enCells_one _) (by omega) (by rw [htl]; unfold maxLen; omega) (by rw [htl]; omega) (by omega) _ rfl ?_
  intro g2 cap w6 hown6 hgrow hat hlt6
  have hbf : Below w4.heap.size w4 w6 := ((Below.refl _ w4).trans ⟨hbb.os, hbb.tape, hbb.output, hbb.size, hbb.block⟩).grown hgrow (by omega) (fun q hq => (hv0.lt q hq).1)
  have hkd : Keep (fun b => b = B + 1) w4 w6 := Keep.of_below hbf fun q h1 h2 => h1
  have hbd := hb.trans (hbf.mono (by first | exact hb.size | (rw [← hB]; exact hb.size)))
  refine hK'.out _ _ ⟨⟨w6, hkd⟩, rfl⟩ (fun _ => ?_)
  clear hK' K'
  have HO := Pin.Aside.mk (show OwnE w6 (B + 2) 32 (.slice (some ⟨g2, 0, none⟩) (K + (n2 - k)) cap) (L.take K ++ more.drop k) by
    unfold OwnE
    rw [enCells_app, List.length_append, List.length_drop, HM.out.len, htl]
    rw [htl] at hown6; exact hown6)
  rw [htl]
  have hkf : Keep (fun _ => False) w4 w6 := Keep.of_below hbf fun q h1 h2 => h1
  have hfa : w6.frozen? ⟨B + 1, 0, none⟩ = false := (hkf.frozen_at (q := ⟨B + 1, 0, none⟩) hr0 rfl id).trans (HF.out 0)
  have hfb : w6.frozen? ⟨B + 1, 1, none⟩ = false := (hkf.frozen_at (q := ⟨B + 1, 1, none⟩) hr0 rfl id).trans (HF.out 1)
  have hfc : w6.frozen? ⟨B + 1, 2, none⟩ = false := (hkf.frozen_at (q := ⟨B + 1, 2, none⟩) hr0 rfl id).trans (HF.out 2)
  replace hr0 := hkf.cell hr0 id
  replace hr1 := hkf.cell hr1 id
  replace hr2 := hkf.cell hr2 id
  replace cb := hkf.cell cb id
  replace ct := hkf.cell ct id
  replace cs := hkf.cell cs id
  clear hown6 hgrow hat hlt6 hlen hnews hv hv0 hbb hbc hkc hkf hb hlt4
  refine wpAnyH_one 13 (by kernel_rfl) rfl (fun K' hK' => ?_)
  go_simp
  refine hK'.out _ _ ⟨⟨w6, hkd⟩, rfl⟩ (fun _ => ?_)
  clear hK' K'
  refine wpAnyH_one 14 (by kernel_rfl) rfl (fun K' hK' => ?_)
  go_simp
  have hk4 := ((((Keep.refl (fun b => b = B + 1) w6).setCell (p := ⟨B + 1, 0, none⟩) (.inl rfl) (.int .u64 base)).setCell (p := ⟨B + 1, 1, none⟩) (.inl rfl) (.int .u64 bt)).setCell (p := ⟨B + 1, 2, none⟩) (.inl rfl) (.slice (some ⟨g2, 0, none⟩) (K + (n2 - k)) cap))
  refine hK'.out _ _ ⟨⟨_, hkd.trans hk4⟩, rfl⟩ (fun _ => ?_)
  clear hK' K'
  refine wpAnyH_done (by kernel_rfl) (NoPanic.normal ?_) _
  have r0 : (((w6.setCell ⟨B + 1, 0, none⟩ (.int .u64 base)).setCell ⟨B + 1, 1, none⟩ (.int .u64 bt)).setCell ⟨B + 1, 2, none⟩ (.slice (some ⟨g2, 0, none⟩) (K + (n2 - k)) cap)).cell? ⟨B + 1, 0, none⟩ = some (.int .u64 base) := by simp [go_sem, hr0, hr1, hr2]
  have r1 : (((w6.setCell ⟨B + 1, 0, none⟩ (.int .u64 base)).setCell ⟨B + 1, 1, none⟩ (.int .u64 bt)).setCell ⟨B + 1, 2, none⟩ (.slice (some ⟨g2, 0, none⟩) (K + (n2 - k)) cap)).cell? ⟨B + 1, 1, none⟩ = some (.int .u64 bt) := by simp [go_sem, hr0, hr1, hr2]
  have r2 : (((w6.setCell ⟨B + 1, 0, none⟩ (.int .u64 base)).setCell ⟨B + 1, 1, none⟩ (.int .u64 bt)).setCell ⟨B + 1, 2, none⟩ (.slice (some ⟨g2, 0, none⟩) (K + (n2 - k)) cap)).cell? ⟨B + 1, 2, none⟩ = some (.slice (some ⟨g2, 0, none⟩) (K + (n2 - k)) cap) := by simp [go_sem, hr0, hr1, hr2]
  have gfa : (((w6.setCell ⟨B + 1, 0, none⟩ (.int .u64 base)).setCell ⟨B + 1, 1, none⟩ (.int .u64 bt)).setCell ⟨B + 1, 2, none⟩ (.slice (some ⟨g2, 0, none⟩) (K + (n2 - k)) cap)).frozen? ⟨B + 1, 0, none⟩ = false := by simp [go_sem, hfa]
  have gfb : (((w6.setCell ⟨B + 1, 0, none⟩ (.int .u64 base)).setCell ⟨B + 1, 1, none⟩ (.int .u64 bt)).setCell ⟨B + 1, 2, none⟩ (.slice (some ⟨g2, 0, none⟩) (K + (n2 - k)) cap)).frozen? ⟨B + 1, 1, none⟩ = false := by simp [go_sem, hfb]
  have gfc : (((w6.setCell ⟨B + 1, 0, none⟩ (.int .u64 base)).setCell ⟨B + 1, 1, none⟩ (.int .u64 bt)).setCell ⟨B + 1, 2, none⟩ (.slice (some ⟨g2, 0, none⟩) (K + (n2 - k)) cap)).frozen? ⟨B + 1, 2, none⟩ = false := by simp [go_sem, hfc]
  replace cb := hk4.cell cb (by simp)
  replace ct := hk4.cell ct (by simp)
  replace cs := hk4.cell cs (by simp)
  have hb := hbd.trans (hk4.below (by first | exact hbd.size | (rw [← hB]; exact hbd.size)) fun q h => by rw [h]; omega)
  have hO7 := ownE_keep HO.out hk4 (fun q hq h => by have := (HO.out.lt q hq).1; omega)
  clear hk4 hbd hkd hbf HO hfa hfb hfc hr0 hr1 hr2
  generalize World.setCell (World.setCell (World.setCell w6 _ _) _ _) _ _ = w7 at *
  obtain ⟨hE7, hc7, hA7⟩ := OwnE.ents hO7
  have Hr := Pin.Aside.mk (lg_right ⟨base, bt, L.take K ++ more.drop k⟩ HOK.out (some ⟨g2, 0, none⟩) (K + (n2 - k)) cap (by omega) w7 hE7)
  rw [H7.out] at Hr
  have HE7 := Pin.Aside.mk hE7
  have HA7 := Pin.Aside.mk hA7
  have hr0 := r0
  have hr1 := r1
  have hr2 := r2
  have hf0 : ∀ j, j < 3 → w7.frozen? ⟨B + 1, j, none⟩ = false := fun j hj => by
    rcases (show j = 0 ∨ j = 1 ∨ j = 2 by omega) with rfl | rfl | rfl
    · exact gfa
    · exact gfb
    · exact gfc
  have HF := Pin.Aside.mk hf0
  clear hf0 r0 r1 r2 gfa gfb gfc hE7 hA7 hO7
  go_wp2_with fail
  refine Hr.out.mono ?_
  rintro x w8 ⟨rfl, hbb⟩
  have hkk : Keep (fun _ => False) w7 w8 := Keep.of_below hbb fun _ q _ => q
  replace cb := hkk.cell cb id
  replace ct := hkk.cell ct id
  replace cs := hkk.cell cs id
  have hfa : w8.frozen? ⟨B + 1, 0, none⟩ = false := (hkk.frozen_at (q := ⟨B + 1, 0, none⟩) hr0 rfl id).trans (HF.out 0 (by omega))
  have hfb : w8.frozen? ⟨B + 1, 1, none⟩ = false := (hkk.frozen_at (q := ⟨B + 1, 1, none⟩) hr0 rfl id).trans (HF.out 1 (by omega))
  have hfc : w8.frozen? ⟨B + 1, 2, none⟩ = false := (hkk.frozen_at (q := ⟨B + 1, 2, none⟩) hr0 rfl id).trans (HF.out 2 (by omega))
  replace hr0 := hkk.cell hr0 id
  replace hr1 := hkk.cell hr1 id
  replace hr2 := hkk.cell hr2 id
  replace hb := hb.trans (hbb.mono (by first | exact hb.size | (rw [← hB]; exact hb.size)))
  have HE8 := Pin.Aside.mk (HE7.out.keep' hkk)
  clear hbb hkk HF Hr
  have hk4 := ((((Keep.refl (fun b => b = B + 1) w8).setCell (p := ⟨B + 1, 0, none⟩) (.inl rfl) (.int .u64 base)).setCell (p := ⟨B + 1, 1, none⟩) (.inl rfl) (.int .u64 bt)).setCell (p := ⟨B + 1, 2, none⟩) (.inl rfl) (.slice p n c))
  have HB := Pin.Aside.mk (hb.trans (hk4.below (by first | exact hb.size | (rw [← hB]; exact hb.size)) fun q h => by rw [h]; omega))
  clear hk4 hb
  go_wp2_with fail
  refine bodyPost_ret (v := .tuple #[.agg #[.int .u64 base, .int .u64 bt, .slice p n c], .int .u64 0, .bool false]) (by simp [results, Try.results18, go_sem, *]) rfl ?_
  rw [HT.out]
  exact ⟨⟨p, n, c, rfl, hc1, HL.out.below (by first | exact HB.out | (rw [hB]; exact HB.out))⟩, by first | exact HB.out | (rw [hB]; exact HB.out)⟩
set_option maxHeartbeats 3200000 in
theorem lg_take_f1 (g : Lg) (ho : g.ok) (prev term : Int) (hp0 : 0 ≤ prev ∧ prev ≤ 18446744073709551615) (ht0 : 0 ≤ term ∧ term ≤ 18446744073709551615) (more : List En) (hm : ∀ e ∈ more, e.ok) (p p2 : Option Addr) (n c n2 c2 : Nat) (hn1 : n ≤ 500) (hc1 : n ≤ c) (hn2 : n2 ≤ 500) (hc2 : n2 ≤ c2) (w : World) (hL : EntsAt w p n g.l) (hM : EntsAt w p2 n2 more) (h1 : g.right = true) (h2 : (Lg.mk prev term more).right = true) (h3 : g.base ≤ prev) (h4 : g.same prev term = true) (k K : Nat) (e : En) (h5 : more.findIdx? (lgMiss g) = some k) (h6 : more[k]? = some e) (hK : K = min (e.index - g.base - 1).toNat g.l.length) (h7 : (Lg.mk g.base g.bt (g.l.take K ++ more.drop k)).right = true) :
    Calls Try.prog 18 #[g.val p n c, .int .u64 prev, .int .u64 term, .slice p2 n2 c2] w fun x w' => (∃ p' n' c', x = .returned (.tuple #[(g.take prev term more).1.val p' n' c', .int .u64 (g.take prev term more).2.1, .bool (g.take prev term more).2.2]) ∧ n' ≤ c' ∧ EntsAt w' p' n' (g.take prev term more).1.l) ∧ Below w.heap.size w w' := by
  have hk := (Keep.refl (fun _ => False) w).alloc (.cells #[.int .u64 g.base, .int .u64 g.bt, .slice p n c] 27)
  obtain ⟨cb, ct, cs⟩ := LgCells.new w 27 g p n c
  have hk2 := (Keep.refl (fun _ => False) (w.alloc (.cells #[.int .u64 g.base, .int .u64 g.bt, .slice p n c] 27))).alloc (.cells #[.int .u64 0, .int .u64 0, .slice none 0 0] 27)
  have hk3 := hk.trans hk2
  have hb := hk3.below (Nat.le_refl _) fun _ q => q.elim
  have hr0 : ((w.alloc (.cells #[.int .u64 g.base, .int .u64 g.bt, .slice p n c] 27)).alloc (.cells #[.int .u64 0, .int .u64 0, .slice none 0 0] 27)).cell? ⟨w.heap.size + 1, 0, none⟩ = some (.int .u64 0) := by simp
  have hr1 : ((w.alloc (.cells #[.int .u64 g.base, .int .u64 g.bt, .slice p n c] 27)).alloc (.cells #[.int .u64 0, .int .u64 0, .slice none 0 0] 27)).cell? ⟨w.heap.size + 1, 1, none⟩ = some (.int .u64 0) := by simp
  have hr2 : ((w.alloc (.cells #[.int .u64 g.base, .int .u64 g.bt, .slice p n c] 27)).alloc (.cells #[.int .u64 0, .int .u64 0, .slice none 0 0] 27)).cell? ⟨w.heap.size + 1, 2, none⟩ = some (.slice none 0 0) := by simp
  have hf0 : ∀ j, ((w.alloc (.cells #[.int .u64 g.base, .int .u64 g.bt, .slice p n c] 27)).alloc (.cells #[.int .u64 0, .int .u64 0, .slice none 0 0] 27)).frozen? ⟨w.heap.size + 1, j, none⟩ = false := by intro j; simp
  replace cb := hk2.cell cb id
  replace ct := hk2.cell ct id
  replace cs := hk2.cell cs id
  have HL := Pin.Aside.mk hL
  have HM := Pin.Aside.mk hM
  have Hr1 := Pin.Aside.mk (fun W hW => lg_right g ho p n c (by omega) W hW)
  have Hr2 := Pin.Aside.mk (fun W hW => lg_right ⟨prev, term, more⟩ ⟨hp0, ht0, hm⟩ p2 n2 c2 (by omega) W hW)
  have Hsm := Pin.Aside.mk (fun W hW => lg_same g prev term p n c (by omega) W hW)
  clear hk hk2 hk3 hL hM
  have HI := Pin.Aside.mk (show lgIdx (lgMiss g) more = k by unfold lgIdx; rw [h5])
  have HT := Pin.Aside.mk (show g.take prev term more = (⟨g.base, g.bt, g.l.take K ++ more.drop k⟩, e.index, true) by
    unfold Lg.take
    rw [if_neg (by rintro (q | q | q); rw [h1] at q; cases q; rw [h2] at q; cases q; rw [h4] at q; cases q.2), h5]
    dsimp only
    rw [show more.getD k En.zero = e by rw [List.getD_eq_getElem?_getD, h6]; rfl, ← hK, if_pos h7])
  have hmis : lgMiss g e = true := by
    rw [List.findIdx?_eq_some_iff_getElem] at h5
    obtain ⟨q1, q2, _⟩ := h5
    rw [List.getElem?_eq_getElem q1] at h6
    cases h6; exact q2
  have hbe : g.base < e.index := by
    unfold lgMiss at hmis
    simp only [Bool.and_eq_true, decide_eq_true_eq] at hmis
    exact hmis.1
  have hei := (hm e (List.mem_of_getElem? h6)).index
  have hb1 := ho.base
  have hkn : k < n2 := by rw [← HM.out.len]; exact (List.getElem?_eq_some_iff.1 h6).1
  have hKn : K ≤ n := by rw [hK, HL.out.len]; exact Nat.min_le_right _ _
  have hx1 : IntKind.u64.wrap (e.index - g.base) = e.index - g.base := by rw [IntKind.wrap_u64]; omega
  have hx2 : IntKind.u64.wrap (e.index - g.base - 1) = e.index - g.base - 1 := by rw [IntKind.wrap_u64]; omega
  have hx3 : min (e.index - g.base - 1) (n : Int) = (K : Int) := by rw [hK, HL.out.len]; omega
  have HX := Pin.Aside.mk (And.intro hx1 (And.intro hx2 hx3))
  have hok : (Lg.mk g.base g.bt (g.l.take K ++ more.drop k)).ok := ⟨ho.base, ho.bt, fun x hx => by
    rcases List.mem_append.1 hx with q | q
    · exact ho.l x (List.mem_of_mem_take q)
    · exact hm x (List.mem_of_mem_drop q)⟩
  have HOK := Pin.Aside.mk hok
  obtain ⟨A, o, rfl, hE⟩ := HM.out.at' k e h6
  have HE := Pin.Aside.mk hE
  have H7 := Pin.Aside.mk h7
  have HLM := Pin.Aside.mk (show (g.l.take K ++ more.drop k).length = K + (n2 - k) by rw [List.length_append, List.length_take, List.length_drop, HL.out.len, HM.out.len]; omega)
  clear hx1 hx2 hx3 hok hE hmis h5 h6 h7 hK
  rw [h1] at Hr1
  rw [h2] at Hr2
  rw [h4] at Hsm
  clear h1 h2 h4
  have hgv : g = ⟨g.base, g.bt, g.l⟩ := rfl
  obtain ⟨base, bt, L⟩ := g
  dsimp only [Lg.val] at *
  go_enter Try.func18, Try.ntmps18
  go_upto_region 1 with fail
  generalize World.alloc (World.alloc _ _) _ = wa at *
  have hB0 : w.heap.size = w.heap.size := rfl
  generalize hB : w.heap.size = B at hb cb ct cs hr0 hr1 hr2 hf0 hB0 ⊢
  clear hB0 hgv
  have HF := Pin.Aside.mk hf0
  clear hf0
  go_wp2_with fail
  refine (Hr1.out _ (HL.out.below (by first | exact hb | (rw [hB]; exact hb)))).mono ?_
  rintro x w1 ⟨rfl, hbb⟩
  have hkk : Keep (fun _ => False) wa w1 := Keep.of_below hbb fun _ q _ => q
  replace cb := hkk.cell cb id
  replace ct := hkk.cell ct id
  replace cs := hkk.cell cs id
  have hf0 : ∀ j, w1.frozen? ⟨B + 1, j, none⟩ = false := fun j => (hkk.frozen_at (q := ⟨B + 1, j, none⟩) hr0 rfl id).trans (HF.out j)
  replace hr0 := hkk.cell hr0 id
  replace hr1 := hkk.cell hr1 id
  replace hr2 := hkk.cell hr2 id
  replace hb := hb.trans (hbb.mono (by first | exact hb.size | (rw [← hB]; exact hb.size)))
  replace HF := Pin.Aside.mk hf0
  clear hbb hkk hf0
  go_wp2_with fail
  refine (Hr2.out _ (HM.out.below (by first | exact hb | (rw [hB]; exact hb)))).mono ?_
  rintro x w2 ⟨rfl, hbb⟩
  have hkk : Keep (fun _ => False) w1 w2 := Keep.of_below hbb fun _ q _ => q
  replace cb := hkk.cell cb id
  replace ct := hkk.cell ct id
  replace cs := hkk.cell cs id
  have hf0 : ∀ j, w2.frozen? ⟨B + 1, j, none⟩ = false := fun j => (hkk.frozen_at (q := ⟨B + 1, j, none⟩) hr0 rfl id).trans (HF.out j)
  replace hr0 := hkk.cell hr0 id
  replace hr1 := hkk.cell hr1 id
  replace hr2 := hkk.cell hr2 id
  replace hb := hb.trans (hbb.mono (by first | exact hb.size | (rw [← hB]; exact hb.size)))
  replace HF := Pin.Aside.mk hf0
  clear hbb hkk hf0
  go_wp2_with fail
  refine (Hsm.out _ (HL.out.below (by first | exact hb | (rw [hB]; exact hb)))).mono ?_
  rintro x w3 ⟨rfl, hbb⟩
  have hkk : Keep (fun _ => False) w2 w3 := Keep.of_below hbb fun _ q _ => q
  replace cb := hkk.cell cb id
  replace ct := hkk.cell ct id
  replace cs := hkk.cell cs id
  have hf0 : ∀ j, w3.frozen? ⟨B + 1, j, none⟩ = false := fun j => (hkk.frozen_at (q := ⟨B + 1, j, none⟩) hr0 rfl id).trans (HF.out j)
  replace hr0 := hkk.cell hr0 id
  replace hr1 := hkk.cell hr1 id
  replace hr2 := hkk.cell hr2 id
  replace hb := hb.trans (hbb.mono (by first | exact hb.size | (rw [← hB]; exact hb.size)))
  replace HF := Pin.Aside.mk hf0
  clear hbb hkk hf0
  clear Hr1 Hr2 Hsm
  have Hx2 := Pin.Aside.mk (lg_idxMiss (lgMiss ⟨base, bt, L⟩) B _ n2 c2 more (by omega) w3 (HM.out.below (by first | exact hb | (rw [hB]; exact hb))) (fun e _ W' hW' => by
    have hq : Keep (fun _ => False) w3 W' := Keep.of_below hW' fun _ q _ => q
    exact lg_miss1 ⟨base, bt, L⟩ e B p n c (by omega) W' ⟨hq.cell cb id, hq.cell ct id, hq.cell cs id⟩ ((HL.out.below (by first | exact hb | (rw [hB]; exact hb))).keep' hq)))
  rw [HI.out] at Hx2
  go_wp2_with fail
  refine Hx2.out.mono ?_
  rintro x w4 ⟨rfl, hbb⟩
  have hkk : Keep (fun _ => False) w3 w4 := Keep.of_below hbb fun _ q _ => q
  replace cb := hkk.cell cb id
  replace ct := hkk.cell ct id
  replace cs := hkk.cell cs id
  have hf0 : ∀ j, w4.frozen? ⟨B + 1, j, none⟩ = false := fun j => (hkk.frozen_at (q := ⟨B + 1, j, none⟩) hr0 rfl id).trans (HF.out j)
  replace hr0 := hkk.cell hr0 id
  replace hr1 := hkk.cell hr1 id
  replace hr2 := hkk.cell hr2 id
  replace hb := hb.trans (hbb.mono (by first | exact hb.size | (rw [← hB]; exact hb.size)))
  replace HF := Pin.Aside.mk hf0
  clear hbb hkk hf0
  clear Hx2
  have c1 := (HE.out.keep (Keep.of_below (S := fun _ => False) hb fun _ q _ => by first | exact q | (rw [← hB]; exact q)) id).c1
  have hk0 : (0 : Int) ≤ (k : Int) := by omega
  have hk1 : (k : Int) < (n2 : Int) := by omega
  obtain ⟨hx1, hx2, hx3⟩ := HX.out
  try dsimp only at hx1 hx2 hx3 hbe hei hb1
  go_upto_region 8 with fail
  clear c1 hx1 hx2 hx3
  have hBl := World.block_lt_of_cell? _ _ hr0
  dsimp only at hBl
  have k0 : ∀ s' : KW (fun b => b = B + 1) w4, s'.w.cell? ⟨B, 0, none⟩ = some (.int .u64 base) := fun s' => s'.keep.cell cb (by simp)
  have k1 : ∀ s' : KW (fun b => b = B + 1) w4, s'.w.cell? ⟨B, 1, none⟩ = some (.int .u64 bt) := fun s' => s'.keep.cell ct (by simp)
  have k2 : ∀ s' : KW (fun b => b = B + 1) w4, s'.w.cell? ⟨B, 2, none⟩ = some (.slice p n c) := fun s' => s'.keep.cell cs (by simp)
  have hK0 : (0 : Int) ≤ (K : Int) := by omega
  have hK1 : (K : Int) ≤ (c : Int) := by omega
  have hk2 : (k : Int) ≤ (n2 : Int) := by omega
  have hk3 : (n2 : Int) ≤ (c2 : Int) := by omega
  refine wp_region_stay (S := fun w' => ∃ s' : KW (fun b => b = B + 1) w4, w' = s'.w) 8 (by kernel_rfl) (by simp) (by kernel_rfl) (by kernel_rfl) ⟨⟨w4.drew, (Keep.refl _ w4).drew⟩, rfl⟩ ?_
  simp only [List.take_succ_cons, List.take_zero]
  refine wpStay_quietS 8 _ _ (by kernel_rfl) ?_
  simp only [List.take_succ_cons, List.take_zero, List.drop_succ_cons, List.drop_zero]
  repeat (go_big_quiet_step (fail))
  refine wpQuiet_nil ?_
  refine wpStay_nil ?_
  refine wpAnyH_more (g := 4) 9 3 (by simp) (by kernel_rfl) (by kernel_rfl) ⟨⟨w4.drew, (Keep.refl _ w4).drew⟩, rfl⟩ ?_
  simp only [List.take_succ_cons, List.take_zero, List.drop_succ_cons, List.drop_zero]
  refine wpStay_quietS 3 _ _ (by kernel_rfl) ?_
  simp only [List.take_succ_cons, List.take_zero, List.drop_succ_cons, List.drop_zero]
  repeat (go_big_quiet_step (fail))
  refine wpQuiet_nil ?_
  refine wpStay_nil ?_
  clear k0 k1 k2 hK0 hK1 hk2 hk3 hk0 hk1
  refine wpAnyH_one 8 (by kernel_rfl) rfl (fun K' hK' => ?_)
  go_simp
  refine (lg_clone p K c (L.take K) (by omega) _ ((HL.out.take K hKn).below (below_drew (by first | exact hb | (rw [hB]; exact hb))))).mono ?_
  rintro x w5 ⟨⟨v, rfl, hv⟩, hbb⟩
  have hlt4 : w4.drew.heap.size = w4.heap.size := rfl
  rw [hlt4] at hv hbb
  have hkc : Keep (fun b => b = B + 1) w4 w5 := ((Keep.refl _ w4).drew).trans (Keep.of_below hbb fun q h1 h2 => h1)
  have hbc := (below_drew hb).trans (hbb.mono (by first | exact hb.size | (rw [← hB]; exact hb.size)))
  refine hK'.out _ _ ⟨⟨w5, hkc⟩, rfl⟩ (fun _ => ?_)
  clear hK' K'
  have hv0 := hv
  replace hv := ownE_le hv (show B + 2 ≤ w4.heap.size by omega)
  have hsz5 := hkc.size
  have hnews : ∀ (j : Nat) (u : Value), (enCells (more.drop k))[j]? = some u → w5.cell? ((⟨A, o + k * 11, none⟩ : Addr).add j) = some u := fun j u hu => ((HM.out.below (by first | exact hbc | (rw [hB]; exact hbc))).drop k).news j u hu
  have hlen : (enCells (more.drop k)).length = (n2 - k) * 11 := by rw [enCells_len, List.length_drop, HM.out.len]
  have htl : (L.take K).length = K := by rw [List.length_take, HL.out.len]; exact Nat.min_eq_left hKn
  obtain ⟨i0, hi, hz0, hzs, hzb⟩ := info_parts en_info
  refine wpAnyH_one 12 (by kernel_rfl) rfl (fun K' hK' => ?_)
  rw [if_pos (by rfl)]
  refine wp_append_lies _ _ _ _ rfl (B + 2) 32 i0 En.zero.val 11 104 Try.underlying25 hi hz0 hzs hzb rfl (by omega) v (L.take K).length (enCells (L.take K)) (by rfl) hv ⟨A, o + k * 11, none⟩ (n2 - k) (c2 - k) (enCells (more.drop k)) (by rfl) hlen hnews (enCells_one _) (by omega) (by rw [htl]; unfold maxLen; omega) (by rw [htl]; omega) (by omega) _ rfl ?_
  intro g2 cap w6 hown6 hgrow hat hlt6
  have hbf : Below w4.heap.size w4 w6 := ((Below.refl _ w4).trans ⟨hbb.os, hbb.tape, hbb.output, hbb.size, hbb.block⟩).grown hgrow (by omega) (fun q hq => (hv0.lt q hq).1)
  have hkd : Keep (fun b => b = B + 1) w4 w6 := Keep.of_below hbf fun q h1 h2 => h1
  have hbd := hb.trans (hbf.mono (by first | exact hb.size | (rw [← hB]; exact hb.size)))
  refine hK'.out _ _ ⟨⟨w6, hkd⟩, rfl⟩ (fun _ => ?_)
  clear hK' K'
  have HO := Pin.Aside.mk (show OwnE w6 (B + 2) 32 (.slice (some ⟨g2, 0, none⟩) (K + (n2 - k)) cap) (L.take K ++ more.drop k) by
    unfold OwnE
    rw [enCells_app, List.length_append, List.length_drop, HM.out.len, htl]
    rw [htl] at hown6; exact hown6)
  rw [htl]
  have hkf : Keep (fun _ => False) w4 w6 := Keep.of_below hbf fun q h1 h2 => h1
  have hfa : w6.frozen? ⟨B + 1, 0, none⟩ = false := (hkf.frozen_at (q := ⟨B + 1, 0, none⟩) hr0 rfl id).trans (HF.out 0)
  have hfb : w6.frozen? ⟨B + 1, 1, none⟩ = false := (hkf.frozen_at (q := ⟨B + 1, 1, none⟩) hr0 rfl id).trans (HF.out 1)
  have hfc : w6.frozen? ⟨B + 1, 2, none⟩ = false := (hkf.frozen_at (q := ⟨B + 1, 2, none⟩) hr0 rfl id).trans (HF.out 2)
  replace hr0 := hkf.cell hr0 id
  replace hr1 := hkf.cell hr1 id
  replace hr2 := hkf.cell hr2 id
  replace cb := hkf.cell cb id
  replace ct := hkf.cell ct id
  replace cs := hkf.cell cs id
  clear hown6 hgrow hat hlt6 hlen hnews hv hv0 hbb hbc hkc hkf hb hlt4
  refine wpAnyH_one 13 (by kernel_rfl) rfl (fun K' hK' => ?_)
  go_simp
  refine hK'.out _ _ ⟨⟨w6, hkd⟩, rfl⟩ (fun _ => ?_)
  clear hK' K'
  refine wpAnyH_one 14 (by kernel_rfl) rfl (fun K' hK' => ?_)
  go_simp
  have hk4 := ((((Keep.refl (fun b => b = B + 1) w6).setCell (p := ⟨B + 1, 0, none⟩) (.inl rfl) (.int .u64 base)).setCell (p := ⟨B + 1, 1, none⟩) (.inl rfl) (.int .u64 bt)).setCell (p := ⟨B + 1, 2, none⟩) (.inl rfl) (.slice (some ⟨g2, 0, none⟩) (K + (n2 - k)) cap))
  refine hK'.out _ _ ⟨⟨_, hkd.trans hk4⟩, rfl⟩ (fun _ => ?_)
  clear hK' K'
  refine wpAnyH_done (by kernel_rfl) (NoPanic.normal ?_) _
  have r0 : (((w6.setCell ⟨B + 1, 0, none⟩ (.int .u64 base)).setCell ⟨B + 1, 1, none⟩ (.int .u64 bt)).setCell ⟨B + 1, 2, none⟩ (.slice (some ⟨g2, 0, none⟩) (K + (n2 - k)) cap)).cell? ⟨B + 1, 0, none⟩ = some (.int .u64 base) := by simp [go_sem, hr0, hr1, hr2]
  have r1 : (((w6.setCell ⟨B + 1, 0, none⟩ (.int .u64 base)).setCell ⟨B + 1, 1, none⟩ (.int .u64 bt)).setCell ⟨B + 1, 2, none⟩ (.slice (some ⟨g2, 0, none⟩) (K + (n2 - k)) cap)).cell? ⟨B + 1, 1, none⟩ = some (.int .u64 bt) := by simp [go_sem, hr0, hr1, hr2]
  have r2 : (((w6.setCell ⟨B + 1, 0, none⟩ (.int .u64 base)).setCell ⟨B + 1, 1, none⟩ (.int .u64 bt)).setCell ⟨B + 1, 2, none⟩ (.slice (some ⟨g2, 0, none⟩) (K + (n2 - k)) cap)).cell? ⟨B + 1, 2, none⟩ = some (.slice (some ⟨g2, 0, none⟩) (K + (n2 - k)) cap) := by simp [go_sem, hr0, hr1, hr2]
  have gfa : (((w6.setCell ⟨B + 1, 0, none⟩ (.int .u64 base)).setCell ⟨B + 1, 1, none⟩ (.int .u64 bt)).setCell ⟨B + 1, 2, none⟩ (.slice (some ⟨g2, 0, none⟩) (K + (n2 - k)) cap)).frozen? ⟨B + 1, 0, none⟩ = false := by simp [go_sem, hfa]
  have gfb : (((w6.setCell ⟨B + 1, 0, none⟩ (.int .u64 base)).setCell ⟨B + 1, 1, none⟩ (.int .u64 bt)).setCell ⟨B + 1, 2, none⟩ (.slice (some ⟨g2, 0, none⟩) (K + (n2 - k)) cap)).frozen? ⟨B + 1, 1, none⟩ = false := by simp [go_sem, hfb]
  have gfc : (((w6.setCell ⟨B + 1, 0, none⟩ (.int .u64 base)).setCell ⟨B + 1, 1, none⟩ (.int .u64 bt)).setCell ⟨B + 1, 2, none⟩ (.slice (some ⟨g2, 0, none⟩) (K + (n2 - k)) cap)).frozen? ⟨B + 1, 2, none⟩ = false := by simp [go_sem, hfc]
  replace cb := hk4.cell cb (by simp)
  replace ct := hk4.cell ct (by simp)
  replace cs := hk4.cell cs (by simp)
  have hb := hbd.trans (hk4.below (by first | exact hbd.size | (rw [← hB]; exact hbd.size)) fun q h => by rw [h]; omega)
  have hO7 := ownE_keep HO.out hk4 (fun q hq h => by have := (HO.out.lt q hq).1; omega)
  clear hk4 hbd hkd hbf HO hfa hfb hfc hr0 hr1 hr2
  generalize World.setCell (World.setCell (World.setCell w6 _ _) _ _) _ _ = w7 at *
  obtain ⟨hE7, hc7, hA7⟩ := OwnE.ents hO7
  have Hr := Pin.Aside.mk (lg_right ⟨base, bt, L.take K ++ more.drop k⟩ HOK.out (some ⟨g2, 0, none⟩) (K + (n2 - k)) cap (by omega) w7 hE7)
  rw [H7.out] at Hr
  have HE7 := Pin.Aside.mk hE7
  have HA7 := Pin.Aside.mk hA7
  have hr0 := r0
  have hr1 := r1
  have hr2 := r2
  have hf0 : ∀ j, j < 3 → w7.frozen? ⟨B + 1, j, none⟩ = false := fun j hj => by
    rcases (show j = 0 ∨ j = 1 ∨ j = 2 by omega) with rfl | rfl | rfl
    · exact gfa
    · exact gfb
    · exact gfc
  have HF := Pin.Aside.mk hf0
  clear hf0 r0 r1 r2 gfa gfb gfc hE7 hA7 hO7
  go_wp2_with fail
  refine Hr.out.mono ?_
  rintro x w8 ⟨rfl, hbb⟩
  have hkk : Keep (fun _ => False) w7 w8 := Keep.of_below hbb fun _ q _ => q
  replace cb := hkk.cell cb id
  replace ct := hkk.cell ct id
  replace cs := hkk.cell cs id
  have hfa : w8.frozen? ⟨B + 1, 0, none⟩ = false := (hkk.frozen_at (q := ⟨B + 1, 0, none⟩) hr0 rfl id).trans (HF.out 0 (by omega))
  have hfb : w8.frozen? ⟨B + 1, 1, none⟩ = false := (hkk.frozen_at (q := ⟨B + 1, 1, none⟩) hr0 rfl id).trans (HF.out 1 (by omega))
  have hfc : w8.frozen? ⟨B + 1, 2, none⟩ = false := (hkk.frozen_at (q := ⟨B + 1, 2, none⟩) hr0 rfl id).trans (HF.out 2 (by omega))
  replace hr0 := hkk.cell hr0 id
  replace hr1 := hkk.cell hr1 id
  replace hr2 := hkk.cell hr2 id
  replace hb := hb.trans (hbb.mono (by first | exact hb.size | (rw [← hB]; exact hb.size)))
  have HE8 := Pin.Aside.mk (HE7.out.keep' hkk)
  clear hbb hkk HF Hr
  have hk4 := ((((Keep.refl (fun b => b = B + 1) w8).setCell (p := ⟨B + 1, 0, none⟩) (.inl rfl) (.int .u64 base)).setCell (p := ⟨B + 1, 1, none⟩) (.inl rfl) (.int .u64 bt)).setCell (p := ⟨B + 1, 2, none⟩) (.inl rfl) (.slice (some ⟨g2, 0, none⟩) (K + (n2 - k)) cap))
  have HB := Pin.Aside.mk (hb.trans (hk4.below (by first | exact hb.size | (rw [← hB]; exact hb.size)) fun q h => by rw [h]; omega))
  have HE9 := Pin.Aside.mk (HE8.out.keep hk4 (fun A o q h => by have := HA7.out A o q; omega))
  clear hk4 hb
  go_wp2_with fail
  refine bodyPost_ret (v := .tuple #[.agg #[.int .u64 base, .int .u64 bt, .slice (some ⟨g2, 0, none⟩) (K + (n2 - k)) cap], .int .u64 e.index, .bool true]) (by simp [results, Try.results18, go_sem, *]) rfl ?_
  rw [HT.out]
  exact ⟨⟨_, _, cap, rfl, hc7, HE9.out⟩, by first | exact HB.out | (rw [hB]; exact HB.out)⟩
set_option maxHeartbeats 3200000 in
theorem lg_take_f2 (g : Lg) (ho : g.ok) (prev term : Int) (hp0 : 0 ≤ prev ∧ prev ≤ 18446744073709551615) (ht0 : 0 ≤ term ∧ term ≤ 18446744073709551615) (more : List En) (hm : ∀ e ∈ more, e.ok) (p p2 : Option Addr) (n c n2 c2 : Nat) (hn1 : n ≤ 500) (hc1 : n ≤ c) (hn2 : n2 ≤ 500) (hc2 : n2 ≤ c2) (w : World) (hL : EntsAt w p n g.l) (hM : EntsAt w p2 n2 more) (h1 : g.right = true) (h2 : (Lg.mk prev term more).right = true) (h3 : ¬ g.base ≤ prev) (k K : Nat) (e : En) (h5 : more.findIdx? (lgMiss g) = some k) (h6 : more[k]? = some e) (hK : K = min (e.index - g.base - 1).toNat g.l.length) (h7 : (Lg.mk g.base g.bt (g.l.take K ++ more.drop k)).right = true) :
    Calls Try.prog 18 #[g.val p n c, .int .u64 prev, .int .u64 term, .slice p2 n2 c2] w fun x w' => (∃ p' n' c', x = .returned (.tuple #[(g.take prev term more).1.val p' n' c', .int .u64 (g.take prev term more).2.1, .bool (g.take prev term more).2.2]) ∧ n' ≤ c' ∧ EntsAt w' p' n' (g.take prev term more).1.l) ∧ Below w.heap.size w w' := by
  have hk := (Keep.refl (fun _ => False) w).alloc (.cells #[.int .u64 g.base, .int .u64 g.bt, .slice p n c] 27)
  obtain ⟨cb, ct, cs⟩ := LgCells.new w 27 g p n c
  have hk2 := (Keep.refl (fun _ => False) (w.alloc (.cells #[.int .u64 g.base, .int .u64 g.bt, .slice p n c] 27))).alloc (.cells #[.int .u64 0, .int .u64 0, .slice none 0 0] 27)
  have hk3 := hk.trans hk2
  have hb := hk3.below (Nat.le_refl _) fun _ q => q.elim
  have hr0 : ((w.alloc (.cells #[.int .u64 g.base, .int .u64 g.bt, .slice p n c] 27)).alloc (.cells #[.int .u64 0, .int .u64 0, .slice none 0 0] 27)).cell? ⟨w.heap.size + 1, 0, none⟩ = some (.int .u64 0) := by simp
  have hr1 : ((w.alloc (.cells #[.int .u64 g.base, .int .u64 g.bt, .slice p n c] 27)).alloc (.cells #[.int .u64 0, .int .u64 0, .slice none 0 0] 27)).cell? ⟨w.heap.size + 1, 1, none⟩ = some (.int .u64 0) := by simp
  have hr2 : ((w.alloc (.cells #[.int .u64 g.base, .int .u64 g.bt, .slice p n c] 27)).alloc (.cells #[.int .u64 0, .int .u64 0, .slice none 0 0] 27)).cell? ⟨w.heap.size + 1, 2, none⟩ = some (.slice none 0 0) := by simp
  have hf0 : ∀ j, ((w.alloc (.cells #[.int .u64 g.base, .int .u64 g.bt, .slice p n c] 27)).alloc (.cells #[.int .u64 0, .int .u64 0, .slice none 0 0] 27)).frozen? ⟨w.heap.size + 1, j, none⟩ = false := by intro j; simp
  replace cb := hk2.cell cb id
  replace ct := hk2.cell ct id
  replace cs := hk2.cell cs id
  have HL := Pin.Aside.mk hL
  have HM := Pin.Aside.mk hM
  have Hr1 := Pin.Aside.mk (fun W hW => lg_right g ho p n c (by omega) W hW)
  have Hr2 := Pin.Aside.mk (fun W hW => lg_right ⟨prev, term, more⟩ ⟨hp0, ht0, hm⟩ p2 n2 c2 (by omega) W hW)
  have Hsm := Pin.Aside.mk (fun W hW => lg_same g prev term p n c (by omega) W hW)
  clear hk hk2 hk3 hL hM
  have HI := Pin.Aside.mk (show lgIdx (lgMiss g) more = k by unfold lgIdx; rw [h5])
  have HT := Pin.Aside.mk (show g.take prev term more = (⟨g.base, g.bt, g.l.take K ++ more.drop k⟩, e.index, true) by
    unfold Lg.take
    rw [if_neg (by rintro (q | q | q); rw [h1] at q; cases q; rw [h2] at q; cases q; exact h3 q.1), h5]
    dsimp only
    rw [show more.getD k En.zero = e by rw [List.getD_eq_getElem?_getD, h6]; rfl, ← hK, if_pos h7])
  have hmis : lgMiss g e = true := by
    rw [List.findIdx?_eq_some_iff_getElem] at h5
    obtain ⟨q1, q2, _⟩ := h5
    rw [List.getElem?_eq_getElem q1] at h6
    cases h6; exact q2
  have hbe : g.base < e.index := by
    unfold lgMiss at hmis
    simp only [Bool.and_eq_true, decide_eq_true_eq] at hmis
    exact hmis.1
  have hei := (hm e (List.mem_of_getElem? h6)).index
  have hb1 := ho.base
  have hkn : k < n2 := by rw [← HM.out.len]; exact (List.getElem?_eq_some_iff.1 h6).1
  have hKn : K ≤ n := by rw [hK, HL.out.len]; exact Nat.min_le_right _ _
  have hx1 : IntKind.u64.wrap (e.index - g.base) = e.index - g.base := by rw [IntKind.wrap_u64]; omega
  have hx2 : IntKind.u64.wrap (e.index - g.base - 1) = e.index - g.base - 1 := by rw [IntKind.wrap_u64]; omega
  have hx3 : min (e.index - g.base - 1) (n : Int) = (K : Int) := by rw [hK, HL.out.len]; omega
  have HX := Pin.Aside.mk (And.intro hx1 (And.intro hx2 hx3))
  have hok : (Lg.mk g.base g.bt (g.l.take K ++ more.drop k)).ok := ⟨ho.base, ho.bt, fun x hx => by
    rcases List.mem_append.1 hx with q | q
    · exact ho.l x (List.mem_of_mem_take q)
    · exact hm x (List.mem_of_mem_drop q)⟩
  have HOK := Pin.Aside.mk hok
  obtain ⟨A, o, rfl, hE⟩ := HM.out.at' k e h6
  have HE := Pin.Aside.mk hE
  have H7 := Pin.Aside.mk h7
  have HLM := Pin.Aside.mk (show (g.l.take K ++ more.drop k).length = K + (n2 - k) by rw [List.length_append, List.length_take, List.length_drop, HL.out.len, HM.out.len]; omega)
  clear hx1 hx2 hx3 hok hE hmis h5 h6 h7 hK
  rw [h1] at Hr1
  rw [h2] at Hr2
  clear h1 h2
  have hgv : g = ⟨g.base, g.bt, g.l⟩ := rfl
  obtain ⟨base, bt, L⟩ := g
  dsimp only [Lg.val] at *
  go_enter Try.func18, Try.ntmps18
  go_upto_region 1 with fail
  generalize World.alloc (World.alloc _ _) _ = wa at *
  have hB0 : w.heap.size = w.heap.size := rfl
  generalize hB : w.heap.size = B at hb cb ct cs hr0 hr1 hr2 hf0 hB0 ⊢
  clear hB0 hgv
  have HF := Pin.Aside.mk hf0
  clear hf0
  go_wp2_with fail
  refine (Hr1.out _ (HL.out.below (by first | exact hb | (rw [hB]; exact hb)))).mono ?_
  rintro x w1 ⟨rfl, hbb⟩
  have hkk : Keep (fun _ => False) wa w1 := Keep.of_below hbb fun _ q _ => q
  replace cb := hkk.cell cb id
  replace ct := hkk.cell ct id
  replace cs := hkk.cell cs id
  have hf0 : ∀ j, w1.frozen? ⟨B + 1, j, none⟩ = false := fun j => (hkk.frozen_at (q := ⟨B + 1, j, none⟩) hr0 rfl id).trans (HF.out j)
  replace hr0 := hkk.cell hr0 id
  replace hr1 := hkk.cell hr1 id
  replace hr2 := hkk.cell hr2 id
  replace hb := hb.trans (hbb.mono (by first | exact hb.size | (rw [← hB]; exact hb.size)))
  replace HF := Pin.Aside.mk hf0
  clear hbb hkk hf0
  go_wp2_with fail
  refine (Hr2.out _ (HM.out.below (by first | exact hb | (rw [hB]; exact hb)))).mono ?_
  rintro x w2 ⟨rfl, hbb⟩
  have hkk : Keep (fun _ => False) w1 w2 := Keep.of_below hbb fun _ q _ => q
  replace cb := hkk.cell cb id
  replace ct := hkk.cell ct id
  replace cs := hkk.cell cs id
  have hf0 : ∀ j, w2.frozen? ⟨B + 1, j, none⟩ = false := fun j => (hkk.frozen_at (q := ⟨B + 1, j, none⟩) hr0 rfl id).trans (HF.out j)
  replace hr0 := hkk.cell hr0 id
  replace hr1 := hkk.cell hr1 id
  replace hr2 := hkk.cell hr2 id
  replace hb := hb.trans (hbb.mono (by first | exact hb.size | (rw [← hB]; exact hb.size)))
  replace HF := Pin.Aside.mk hf0
  clear hbb hkk hf0
  have ⟨w3, hw3⟩ : ∃ w3, w2 = w3 := ⟨_, rfl⟩
  subst hw3
  clear Hr1 Hr2 Hsm
  have Hx2 := Pin.Aside.mk (lg_idxMiss (lgMiss ⟨base, bt, L⟩) B _ n2 c2 more (by omega) w2 (HM.out.below (by first | exact hb | (rw [hB]; exact hb))) (fun e _ W' hW' => by
    have hq : Keep (fun _ => False) w2 W' := Keep.of_below hW' fun _ q _ => q
    exact lg_miss1 ⟨base, bt, L⟩ e B p n c (by omega) W' ⟨hq.cell cb id, hq.cell ct id, hq.cell cs id⟩ ((HL.out.below (by first | exact hb | (rw [hB]; exact hb))).keep' hq)))
  rw [HI.out] at Hx2
  go_wp2_with fail
  refine Hx2.out.mono ?_
  rintro x w4 ⟨rfl, hbb⟩
  have hkk : Keep (fun _ => False) w2 w4 := Keep.of_below hbb fun _ q _ => q
  replace cb := hkk.cell cb id
  replace ct := hkk.cell ct id
  replace cs := hkk.cell cs id
  have hf0 : ∀ j, w4.frozen? ⟨B + 1, j, none⟩ = false := fun j => (hkk.frozen_at (q := ⟨B + 1, j, none⟩) hr0 rfl id).trans (HF.out j)
  replace hr0 := hkk.cell hr0 id
  replace hr1 := hkk.cell hr1 id
  replace hr2 := hkk.cell hr2 id
  replace hb := hb.trans (hbb.mono (by first | exact hb.size | (rw [← hB]; exact hb.size)))
  replace HF := Pin.Aside.mk hf0
  clear hbb hkk hf0
  clear Hx2
  have c1 := (HE.out.keep (Keep.of_below (S := fun _ => False) hb fun _ q _ => by first | exact q | (rw [← hB]; exact q)) id).c1
  have hk0 : (0 : Int) ≤ (k : Int) := by omega
  have hk1 : (k : Int) < (n2 : Int) := by omega
  obtain ⟨hx1, hx2, hx3⟩ := HX.out
  try dsimp only at hx1 hx2 hx3 hbe hei hb1
  go_upto_region 8 with fail
  clear c1 hx1 hx2 hx3
  have hBl := World.block_lt_of_cell? _ _ hr0
  dsimp only at hBl
  have k0 : ∀ s' : KW (fun b => b = B + 1) w4, s'.w.cell? ⟨B, 0, none⟩ = some (.int .u64 base) := fun s' => s'.keep.cell cb (by simp)
  have k1 : ∀ s' : KW (fun b => b = B + 1) w4, s'.w.cell? ⟨B, 1, none⟩ = some (.int .u64 bt) := fun s' => s'.keep.cell ct (by simp)
  have k2 : ∀ s' : KW (fun b => b = B + 1) w4, s'.w.cell? ⟨B, 2, none⟩ = some (.slice p n c) := fun s' => s'.keep.cell cs (by simp)
  have hK0 : (0 : Int) ≤ (K : Int) := by omega
  have hK1 : (K : Int) ≤ (c : Int) := by omega
  have hk2 : (k : Int) ≤ (n2 : Int) := by omega
  have hk3 : (n2 : Int) ≤ (c2 : Int) := by omega
  refine wp_region_stay (S := fun w' => ∃ s' : KW (fun b => b = B + 1) w4, w' = s'.w) 8 (by kernel_rfl) (by simp) (by kernel_rfl) (by kernel_rfl) ⟨⟨w4.drew, (Keep.refl _ w4).drew⟩, rfl⟩ ?_
  simp only [List.take_succ_cons, List.take_zero]
  refine wpStay_quietS 8 _ _ (by kernel_rfl) ?_
  simp only [List.take_succ_cons, List.take_zero, List.drop_succ_cons, List.drop_zero]
  repeat (go_big_quiet_step (fail))
  refine wpQuiet_nil ?_
  refine wpStay_nil ?_
  refine wpAnyH_more (g := 4) 9 3 (by simp) (by kernel_rfl) (by kernel_rfl) ⟨⟨w4.drew, (Keep.refl _ w4).drew⟩, rfl⟩ ?_
  simp only [List.take_succ_cons, List.take_zero, List.drop_succ_cons, List.drop_zero]
  refine wpStay_quietS 3 _ _ (by kernel_rfl) ?_
  simp only [List.take_succ_cons, List.take_zero, List.drop_succ_cons, List.drop_zero]
  repeat (go_big_quiet_step (fail))
  refine wpQuiet_nil ?_
  refine wpStay_nil ?_
  clear k0 k1 k2 hK0 hK1 hk2 hk3 hk0 hk1
  refine wpAnyH_one 8 (by kernel_rfl) rfl (fun K' hK' => ?_)
  go_simp
  refine (lg_clone p K c (L.take K) (by omega) _ ((HL.out.take K hKn).below (below_drew (by first | exact hb | (rw [hB]; exact hb))))).mono ?_
  rintro x w5 ⟨⟨v, rfl, hv⟩, hbb⟩
  have hlt4 : w4.drew.heap.size = w4.heap.size := rfl
  rw [hlt4] at hv hbb
  have hkc : Keep (fun b => b = B + 1) w4 w5 := ((Keep.refl _ w4).drew).trans (Keep.of_below hbb fun q h1 h2 => h1)
  have hbc := (below_drew hb).trans (hbb.mono (by first | exact hb.size | (rw [← hB]; exact hb.size)))
  refine hK'.out _ _ ⟨⟨w5, hkc⟩, rfl⟩ (fun _ => ?_)
  clear hK' K'
  have hv0 := hv
  replace hv := ownE_le hv (show B + 2 ≤ w4.heap.size by omega)
  have hsz5 := hkc.size
  have hnews : ∀ (j : Nat) (u : Value), (enCells (more.drop k))[j]? = some u → w5.cell? ((⟨A, o + k * 11, none⟩ : Addr).add j) = some u := fun j u hu => ((HM.out.below (by first | exact hbc | (rw [hB]; exact hbc))).drop k).news j u hu
  have hlen : (enCells (more.drop k)).length = (n2 - k) * 11 := by rw [enCells_len, List.length_drop, HM.out.len]
  have htl : (L.take K).length = K := by rw [List.length_take, HL.out.len]; exact Nat.min_eq_left hKn
  obtain ⟨i0, hi, hz0, hzs, hzb⟩ := info_parts en_info
  refine wpAnyH_one 12 (by kernel_rfl) rfl (fun K' hK' => ?_)
  rw [if_pos (by rfl)]
  refine wp_append_lies _ _ _ _ rfl (B + 2) 32 i0 En.zero.val 11 104 Try.underlying25 hi hz0 hzs hzb rfl (by omega) v (L.take K).length (enCells (L.take K)) (by rfl) hv ⟨A, o + k * 11, none⟩ (n2 - k) (c2 - k) (enCells (more.drop k)) (by rfl) hlen hnews (enCells_one _) (by omega) (by rw [htl]; unfold maxLen; omega) (by rw [htl]; omega) (by omega) _ rfl ?_
  intro g2 cap w6 hown6 hgrow hat hlt6
  have hbf : Below w4.heap.size w4 w6 := ((Below.refl _ w4).trans ⟨hbb.os, hbb.tape, hbb.output, hbb.size, hbb.block⟩).grown hgrow (by omega) (fun q hq => (hv0.lt q hq).1)
  have hkd : Keep (fun b => b = B + 1) w4 w6 := Keep.of_below hbf fun q h1 h2 => h1
  have hbd := hb.trans (hbf.mono (by first | exact hb.size | (rw [← hB]; exact hb.size)))
  refine hK'.out _ _ ⟨⟨w6, hkd⟩, rfl⟩ (fun _ => ?_)
  clear hK' K'
  have HO := Pin.Aside.mk (show OwnE w6 (B + 2) 32 (.slice (some ⟨g2, 0, none⟩) (K + (n2 - k)) cap) (L.take K ++ more.drop k) by
    unfold OwnE
    rw [enCells_app, List.length_append, List.length_drop, HM.out.len, htl]
    rw [htl] at hown6; exact hown6)
  rw [htl]
  have hkf : Keep (fun _ => False) w4 w6 := Keep.of_below hbf fun q h1 h2 => h1
  have hfa : w6.frozen? ⟨B + 1, 0, none⟩ = false := (hkf.frozen_at (q := ⟨B + 1, 0, none⟩) hr0 rfl id).trans (HF.out 0)
  have hfb : w6.frozen? ⟨B + 1, 1, none⟩ = false := (hkf.frozen_at (q := ⟨B + 1, 1, none⟩) hr0 rfl id).trans (HF.out 1)
  have hfc : w6.frozen? ⟨B + 1, 2, none⟩ = false := (hkf.frozen_at (q := ⟨B + 1, 2, none⟩) hr0 rfl id).trans (HF.out 2)
  replace hr0 := hkf.cell hr0 id
  replace hr1 := hkf.cell hr1 id
  replace hr2 := hkf.cell hr2 id
  replace cb := hkf.cell cb id
  replace ct := hkf.cell ct id
  replace cs := hkf.cell cs id
  clear hown6 hgrow hat hlt6 hlen hnews hv hv0 hbb hbc hkc hkf hb hlt4
  refine wpAnyH_one 13 (by kernel_rfl) rfl (fun K' hK' => ?_)
  go_simp
  refine hK'.out _ _ ⟨⟨w6, hkd⟩, rfl⟩ (fun _ => ?_)
  clear hK' K'
  refine wpAnyH_one 14 (by kernel_rfl) rfl (fun K' hK' => ?_)
  go_simp
  have hk4 := ((((Keep.refl (fun b => b = B + 1) w6).setCell (p := ⟨B + 1, 0, none⟩) (.inl rfl) (.int .u64 base)).setCell (p := ⟨B + 1, 1, none⟩) (.inl rfl) (.int .u64 bt)).setCell (p := ⟨B + 1, 2, none⟩) (.inl rfl) (.slice (some ⟨g2, 0, none⟩) (K + (n2 - k)) cap))
  refine hK'.out _ _ ⟨⟨_, hkd.trans hk4⟩, rfl⟩ (fun _ => ?_)
  clear hK' K'
  refine wpAnyH_done (by kernel_rfl) (NoPanic.normal ?_) _
  have r0 : (((w6.setCell ⟨B + 1, 0, none⟩ (.int .u64 base)).setCell ⟨B + 1, 1, none⟩ (.int .u64 bt)).setCell ⟨B + 1, 2, none⟩ (.slice (some ⟨g2, 0, none⟩) (K + (n2 - k)) cap)).cell? ⟨B + 1, 0, none⟩ = some (.int .u64 base) := by simp [go_sem, hr0, hr1, hr2]
  have r1 : (((w6.setCell ⟨B + 1, 0, none⟩ (.int .u64 base)).setCell ⟨B + 1, 1, none⟩ (.int .u64 bt)).setCell ⟨B + 1, 2, none⟩ (.slice (some ⟨g2, 0, none⟩) (K + (n2 - k)) cap)).cell? ⟨B + 1, 1, none⟩ = some (.int .u64 bt) := by simp [go_sem, hr0, hr1, hr2]
  have r2 : (((w6.setCell ⟨B + 1, 0, none⟩ (.int .u64 base)).setCell ⟨B + 1, 1, none⟩ (.int .u64 bt)).setCell ⟨B + 1, 2, none⟩ (.slice (some ⟨g2, 0, none⟩) (K + (n2 - k)) cap)).cell? ⟨B + 1, 2, none⟩ = some (.slice (some ⟨g2, 0, none⟩) (K + (n2 - k)) cap) := by simp [go_sem, hr0, hr1, hr2]
  have gfa : (((w6.setCell ⟨B + 1, 0, none⟩ (.int .u64 base)).setCell ⟨B + 1, 1, none⟩ (.int .u64 bt)).setCell ⟨B + 1, 2, none⟩ (.slice (some ⟨g2, 0, none⟩) (K + (n2 - k)) cap)).frozen? ⟨B + 1, 0, none⟩ = false := by simp [go_sem, hfa]
  have gfb : (((w6.setCell ⟨B + 1, 0, none⟩ (.int .u64 base)).setCell ⟨B + 1, 1, none⟩ (.int .u64 bt)).setCell ⟨B + 1, 2, none⟩ (.slice (some ⟨g2, 0, none⟩) (K + (n2 - k)) cap)).frozen? ⟨B + 1, 1, none⟩ = false := by simp [go_sem, hfb]
  have gfc : (((w6.setCell ⟨B + 1, 0, none⟩ (.int .u64 base)).setCell ⟨B + 1, 1, none⟩ (.int .u64 bt)).setCell ⟨B + 1, 2, none⟩ (.slice (some ⟨g2, 0, none⟩) (K + (n2 - k)) cap)).frozen? ⟨B + 1, 2, none⟩ = false := by simp [go_sem, hfc]
  replace cb := hk4.cell cb (by simp)
  replace ct := hk4.cell ct (by simp)
  replace cs := hk4.cell cs (by simp)
  have hb := hbd.trans (hk4.below (by first | exact hbd.size | (rw [← hB]; exact hbd.size)) fun q h => by rw [h]; omega)
  have hO7 := ownE_keep HO.out hk4 (fun q hq h => by have := (HO.out.lt q hq).1; omega)
  clear hk4 hbd hkd hbf HO hfa hfb hfc hr0 hr1 hr2
  generalize World.setCell (World.setCell (World.setCell w6 _ _) _ _) _ _ = w7 at *
  obtain ⟨hE7, hc7, hA7⟩ := OwnE.ents hO7
  have Hr := Pin.Aside.mk (lg_right ⟨base, bt, L.take K ++ more.drop k⟩ HOK.out (some ⟨g2, 0, none⟩) (K + (n2 - k)) cap (by omega) w7 hE7)
  rw [H7.out] at Hr
  have HE7 := Pin.Aside.mk hE7
  have HA7 := Pin.Aside.mk hA7
  have hr0 := r0
  have hr1 := r1
  have hr2 := r2
  have hf0 : ∀ j, j < 3 → w7.frozen? ⟨B + 1, j, none⟩ = false := fun j hj => by
    rcases (show j = 0 ∨ j = 1 ∨ j = 2 by omega) with rfl | rfl | rfl
    · exact gfa
    · exact gfb
    · exact gfc
  have HF := Pin.Aside.mk hf0
  clear hf0 r0 r1 r2 gfa gfb gfc hE7 hA7 hO7
  go_wp2_with fail
  refine Hr.out.mono ?_
  rintro x w8 ⟨rfl, hbb⟩
  have hkk : Keep (fun _ => False) w7 w8 := Keep.of_below hbb fun _ q _ => q
  replace cb := hkk.cell cb id
  replace ct := hkk.cell ct id
  replace cs := hkk.cell cs id
  have hfa : w8.frozen? ⟨B + 1, 0, none⟩ = false := (hkk.frozen_at (q := ⟨B + 1, 0, none⟩) hr0 rfl id).trans (HF.out 0 (by omega))
  have hfb : w8.frozen? ⟨B + 1, 1, none⟩ = false := (hkk.frozen_at (q := ⟨B + 1, 1, none⟩) hr0 rfl id).trans (HF.out 1 (by omega))
  have hfc : w8.frozen? ⟨B + 1, 2, none⟩ = false := (hkk.frozen_at (q := ⟨B + 1, 2, none⟩) hr0 rfl id).trans (HF.out 2 (by omega))
  replace hr0 := hkk.cell hr0 id
  replace hr1 := hkk.cell hr1 id
  replace hr2 := hkk.cell hr2 id
  replace hb := hb.trans (hbb.mono (by first | exact hb.size | (rw [← hB]; exact hb.size)))
  have HE8 := Pin.Aside.mk (HE7.out.keep' hkk)
  clear hbb hkk HF Hr
  have hk4 := ((((Keep.refl (fun b => b = B + 1) w8).setCell (p := ⟨B + 1, 0, none⟩) (.inl rfl) (.int .u64 base)).setCell (p := ⟨B + 1, 1, none⟩) (.inl rfl) (.int .u64 bt)).setCell (p := ⟨B + 1, 2, none⟩) (.inl rfl) (.slice (some ⟨g2, 0, none⟩) (K + (n2 - k)) cap))
  have HB := Pin.Aside.mk (hb.trans (hk4.below (by first | exact hb.size | (rw [← hB]; exact hb.size)) fun q h => by rw [h]; omega))
  have HE9 := Pin.Aside.mk (HE8.out.keep hk4 (fun A o q h => by have := HA7.out A o q; omega))
  clear hk4 hb
  go_wp2_with fail
  refine bodyPost_ret (v := .tuple #[.agg #[.int .u64 base, .int .u64 bt, .slice (some ⟨g2, 0, none⟩) (K + (n2 - k)) cap], .int .u64 e.index, .bool true]) (by simp [results, Try.results18, go_sem, *]) rfl ?_
  rw [HT.out]
  exact ⟨⟨_, _, cap, rfl, hc7, HE9.out⟩, by first | exact HB.out | (rw [hB]; exact HB.out)⟩
theorem lg_take (g : Lg) (ho : g.ok) (prev term : Int) (hp0 : 0 ≤ prev ∧ prev ≤ 18446744073709551615) (ht0 : 0 ≤ term ∧ term ≤ 18446744073709551615) (more : List En) (hm : ∀ e ∈ more, e.ok) (p p2 : Option Addr) (n c n2 c2 : Nat) (hn1 : n ≤ 500) (hc1 : n ≤ c) (hn2 : n2 ≤ 500) (hc2 : n2 ≤ c2) (w : World) (hL : EntsAt w p n g.l) (hM : EntsAt w p2 n2 more) :
    Calls Try.prog 18 #[g.val p n c, .int .u64 prev, .int .u64 term, .slice p2 n2 c2] w fun x w' => (∃ p' n' c', x = .returned (.tuple #[(g.take prev term more).1.val p' n' c', .int .u64 (g.take prev term more).2.1, .bool (g.take prev term more).2.2]) ∧ n' ≤ c' ∧ EntsAt w' p' n' (g.take prev term more).1.l) ∧ Below w.heap.size w w' := by
  by_cases h1 : g.right = true
  case neg => exact lg_take_a g ho prev term hp0 ht0 more hm p p2 n c n2 c2 hn1 hc1 hn2 hc2 w hL hM (by simpa using h1)
  by_cases h2 : (Lg.mk prev term more).right = true
  case neg => exact lg_take_b g ho prev term hp0 ht0 more hm p p2 n c n2 c2 hn1 hc1 hn2 hc2 w hL hM h1 (by simpa using h2)
  by_cases h3 : g.base ≤ prev
  · by_cases h4 : g.same prev term = true
    case neg => exact lg_take_c g ho prev term hp0 ht0 more hm p p2 n c n2 c2 hn1 hc1 hn2 hc2 w hL hM h1 h2 h3 (by simpa using h4)
    cases h5 : more.findIdx? (lgMiss g) with
    | none => exact lg_take_d1 g ho prev term hp0 ht0 more hm p p2 n c n2 c2 hn1 hc1 hn2 hc2 w hL hM h1 h2 h3 h4 h5
    | some k =>
      obtain ⟨e, h6⟩ : ∃ e, more[k]? = some e := by
        have q := h5
        rw [List.findIdx?_eq_some_iff_getElem] at q
        exact ⟨_, List.getElem?_eq_getElem q.1⟩
      cases h7 : (Lg.mk g.base g.bt (g.l.take (min (e.index - g.base - 1).toNat g.l.length) ++ more.drop k)).right with
      | false => exact lg_take_e1 g ho prev term hp0 ht0 more hm p p2 n c n2 c2 hn1 hc1 hn2 hc2 w hL hM h1 h2 h3 h4 k _ e h5 h6 rfl h7
      | true => exact lg_take_f1 g ho prev term hp0 ht0 more hm p p2 n c n2 c2 hn1 hc1 hn2 hc2 w hL hM h1 h2 h3 h4 k _ e h5 h6 rfl h7
  · cases h5 : more.findIdx? (lgMiss g) with
    | none => exact lg_take_d2 g ho prev term hp0 ht0 more hm p p2 n c n2 c2 hn1 hc1 hn2 hc2 w hL hM h1 h2 h3 h5
    | some k =>
      obtain ⟨e, h6⟩ : ∃ e, more[k]? = some e := by
        have q := h5
        rw [List.findIdx?_eq_some_iff_getElem] at q
        exact ⟨_, List.getElem?_eq_getElem q.1⟩
      cases h7 : (Lg.mk g.base g.bt (g.l.take (min (e.index - g.base - 1).toNat g.l.length) ++ more.drop k)).right with
      | false => exact lg_take_e2 g ho prev term hp0 ht0 more hm p p2 n c n2 c2 hn1 hc1 hn2 hc2 w hL hM h1 h2 h3 k _ e h5 h6 rfl h7
      | true => exact lg_take_f2 g ho prev term hp0 ht0 more hm p p2 n c n2 c2 hn1 hc1 hn2 hc2 w hL hM h1 h2 h3 k _ e h5 h6 rfl h7
end Go.Proofs.Ythlmigbimeldbaa
