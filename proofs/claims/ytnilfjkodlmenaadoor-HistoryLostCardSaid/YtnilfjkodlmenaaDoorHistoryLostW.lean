/- HistoryLost: walk. -/
import Derived.Test.YtnilfjkodlmenaaDoorHistoryOverM
import Derived.Test.YtnilfjkodlmenaaDoorHiZ
import Derived.BigQuiet
import Derived.Deep.AppendLies
import Derived.Deep.CutBlock
set_option maxRecDepth 16000
namespace Go.Pin
theorem right_first4 (s g : ByteArray) (hs : s.size ≤ 64) : hRight (firstL s g 4) = true := by
  unfold hRight firstL
  rw [Bool.and_eq_true]
  refine ⟨decide_eq_true (show (3 : Nat) ≤ 10 by decide), ?_⟩
  rw [List.all_eq_true]
  intro x hx
  have hb : ∀ o : HOp, hKnown o.e.kind = true → o.e.data.size ≤ 64 → o.e.old.size ≤ 64 → (o.stop = 0 ∨ o.start < o.stop) → (!hBad o) = true := fun o h1 h2 h3 h4 => by
    have h5 : (decide (o.stop ≠ 0) && decide (o.stop ≤ o.start)) = false := by
      rcases h4 with h | h
      · rw [decide_eq_false (fun q => q h : ¬ o.stop ≠ 0)]; rfl
      · rw [decide_eq_false (by omega : ¬ o.stop ≤ o.start), Bool.and_false]
    unfold hBad
    rw [h1, decide_eq_false (by omega : ¬ 64 < o.e.data.size), decide_eq_false (by omega : ¬ 64 < o.e.old.size), h5]
    rfl
  rcases List.mem_cons.1 hx with rfl | hx
  · exact hb _ rfl (by decide) (by decide) (.inr (by decide))
  rcases List.mem_cons.1 hx with rfl | hx
  · exact hb _ rfl hs (by show (0 : Nat) ≤ 64; decide) (.inr (by show (3 : Int) < 4; decide))
  rcases List.mem_cons.1 hx with rfl | hx
  · exact hb _ rfl (by show (0 : Nat) ≤ 64; decide) (by show (0 : Nat) ≤ 64; decide) (.inr (by show (10 : Int) < 11; decide))
  cases hx
theorem right_back4 (s g : ByteArray) (hs : s.size ≤ 64) : hRight (backL s g 4) = true := by
  unfold hRight backL
  rw [Bool.and_eq_true]
  refine ⟨decide_eq_true (show (4 : Nat) ≤ 10 by decide), ?_⟩
  rw [List.all_eq_true]
  intro x hx
  have hb : ∀ o : HOp, hKnown o.e.kind = true → o.e.data.size ≤ 64 → o.e.old.size ≤ 64 → (o.stop = 0 ∨ o.start < o.stop) → (!hBad o) = true := fun o h1 h2 h3 h4 => by
    have h5 : (decide (o.stop ≠ 0) && decide (o.stop ≤ o.start)) = false := by
      rcases h4 with h | h
      · rw [decide_eq_false (fun q => q h : ¬ o.stop ≠ 0)]; rfl
      · rw [decide_eq_false (by omega : ¬ o.stop ≤ o.start), Bool.and_false]
    unfold hBad
    rw [h1, decide_eq_false (by omega : ¬ 64 < o.e.data.size), decide_eq_false (by omega : ¬ 64 < o.e.old.size), h5]
    rfl
  rcases List.mem_cons.1 hx with rfl | hx
  · exact hb _ rfl (by decide) (by decide) (.inr (by decide))
  rcases List.mem_cons.1 hx with rfl | hx
  · exact hb _ rfl hs (by show (0 : Nat) ≤ 64; decide) (.inr (by show (3 : Int) < 4; decide))
  rcases List.mem_cons.1 hx with rfl | hx
  · exact hb _ rfl (by show (0 : Nat) ≤ 64; decide) (by show (0 : Nat) ≤ 64; decide) (.inr (by show (10 : Int) < 11; decide))
  rcases List.mem_cons.1 hx with rfl | hx
  · exact hb _ rfl (by show (0 : Nat) ≤ 64; decide) (by show (0 : Nat) ≤ 64; decide) (.inr (by show (12 : Int) < 13; decide))
  cases hx
theorem first_ok4 (s g : ByteArray) (hs : s.size ≤ 64) (hg : g.size ≤ 64) : ∀ x ∈ firstL s g 4, x.ok := by
  intro x hx
  rcases List.mem_cons.1 hx with rfl | hx
  · exact ok_R (by decide) (by decide)
  rcases List.mem_cons.1 hx with rfl | hx
  · exact ok_W (by omega) (by decide) (by decide)
  rcases List.mem_cons.1 hx with rfl | hx
  · exact ok_G (by omega) (by decide) (by decide)
  cases hx
theorem back_ok4 (s g : ByteArray) (hs : s.size ≤ 64) (hg : g.size ≤ 64) : ∀ x ∈ backL s g 4, x.ok := by
  intro x hx
  rcases List.mem_cons.1 hx with rfl | hx
  · exact ok_R (by decide) (by decide)
  rcases List.mem_cons.1 hx with rfl | hx
  · exact ok_W (by omega) (by decide) (by decide)
  rcases List.mem_cons.1 hx with rfl | hx
  · exact ok_G (by omega) (by decide) (by decide)
  rcases List.mem_cons.1 hx with rfl | hx
  · exact ok_G (by rw [hWhole_size _ (by decide)]; decide) (by decide) (by decide)
  cases hx
theorem right_first0 (s g : ByteArray) (hs : s.size ≤ 64) : hRight (firstL s g 0) = true := by
  unfold hRight firstL
  rw [Bool.and_eq_true]
  refine ⟨decide_eq_true (show (3 : Nat) ≤ 10 by decide), ?_⟩
  rw [List.all_eq_true]
  intro x hx
  have hb : ∀ o : HOp, hKnown o.e.kind = true → o.e.data.size ≤ 64 → o.e.old.size ≤ 64 → (o.stop = 0 ∨ o.start < o.stop) → (!hBad o) = true := fun o h1 h2 h3 h4 => by
    have h5 : (decide (o.stop ≠ 0) && decide (o.stop ≤ o.start)) = false := by
      rcases h4 with h | h
      · rw [decide_eq_false (fun q => q h : ¬ o.stop ≠ 0)]; rfl
      · rw [decide_eq_false (by omega : ¬ o.stop ≤ o.start), Bool.and_false]
    unfold hBad
    rw [h1, decide_eq_false (by omega : ¬ 64 < o.e.data.size), decide_eq_false (by omega : ¬ 64 < o.e.old.size), h5]
    rfl
  rcases List.mem_cons.1 hx with rfl | hx
  · exact hb _ rfl (by decide) (by decide) (.inr (by decide))
  rcases List.mem_cons.1 hx with rfl | hx
  · exact hb _ rfl hs (by show (0 : Nat) ≤ 64; decide) (.inl rfl)
  rcases List.mem_cons.1 hx with rfl | hx
  · exact hb _ rfl (by show (0 : Nat) ≤ 64; decide) (by show (0 : Nat) ≤ 64; decide) (.inr (by show (10 : Int) < 11; decide))
  cases hx
theorem right_back0 (s g : ByteArray) (hs : s.size ≤ 64) : hRight (backL s g 0) = true := by
  unfold hRight backL
  rw [Bool.and_eq_true]
  refine ⟨decide_eq_true (show (4 : Nat) ≤ 10 by decide), ?_⟩
  rw [List.all_eq_true]
  intro x hx
  have hb : ∀ o : HOp, hKnown o.e.kind = true → o.e.data.size ≤ 64 → o.e.old.size ≤ 64 → (o.stop = 0 ∨ o.start < o.stop) → (!hBad o) = true := fun o h1 h2 h3 h4 => by
    have h5 : (decide (o.stop ≠ 0) && decide (o.stop ≤ o.start)) = false := by
      rcases h4 with h | h
      · rw [decide_eq_false (fun q => q h : ¬ o.stop ≠ 0)]; rfl
      · rw [decide_eq_false (by omega : ¬ o.stop ≤ o.start), Bool.and_false]
    unfold hBad
    rw [h1, decide_eq_false (by omega : ¬ 64 < o.e.data.size), decide_eq_false (by omega : ¬ 64 < o.e.old.size), h5]
    rfl
  rcases List.mem_cons.1 hx with rfl | hx
  · exact hb _ rfl (by decide) (by decide) (.inr (by decide))
  rcases List.mem_cons.1 hx with rfl | hx
  · exact hb _ rfl hs (by show (0 : Nat) ≤ 64; decide) (.inl rfl)
  rcases List.mem_cons.1 hx with rfl | hx
  · exact hb _ rfl (by show (0 : Nat) ≤ 64; decide) (by show (0 : Nat) ≤ 64; decide) (.inr (by show (10 : Int) < 11; decide))
  rcases List.mem_cons.1 hx with rfl | hx
  · exact hb _ rfl (by show (0 : Nat) ≤ 64; decide) (by show (0 : Nat) ≤ 64; decide) (.inr (by show (12 : Int) < 13; decide))
  cases hx
theorem first_ok0 (s g : ByteArray) (hs : s.size ≤ 64) (hg : g.size ≤ 64) : ∀ x ∈ firstL s g 0, x.ok := by
  intro x hx
  rcases List.mem_cons.1 hx with rfl | hx
  · exact ok_R (by decide) (by decide)
  rcases List.mem_cons.1 hx with rfl | hx
  · exact ok_W (by omega) (by decide) (by decide)
  rcases List.mem_cons.1 hx with rfl | hx
  · exact ok_G (by omega) (by decide) (by decide)
  cases hx
theorem back_ok0 (s g : ByteArray) (hs : s.size ≤ 64) (hg : g.size ≤ 64) : ∀ x ∈ backL s g 0, x.ok := by
  intro x hx
  rcases List.mem_cons.1 hx with rfl | hx
  · exact ok_R (by decide) (by decide)
  rcases List.mem_cons.1 hx with rfl | hx
  · exact ok_W (by omega) (by decide) (by decide)
  rcases List.mem_cons.1 hx with rfl | hx
  · exact ok_G (by omega) (by decide) (by decide)
  rcases List.mem_cons.1 hx with rfl | hx
  · exact ok_G (by rw [hWhole_size _ (by decide)]; decide) (by decide) (by decide)
  cases hx
theorem first_order4 (s g : ByteArray) (hs : s.size ≤ 64) : (hOrder (firstL s g 4)).isSome = decide (g = hWhole s) := by
  unfold hOrder
  rw [if_pos (right_first4 s g hs)]
  exact first_some s g hs
theorem first_order0 (s g : ByteArray) (hs : s.size ≤ 64) : (hOrder (firstL s g 0)).isSome = decide (g = hWhole s ∨ g = hWhole bz) := by
  unfold hOrder
  rw [if_pos (right_first0 s g hs)]
  exact first_open s g hs
theorem back_order4 (s g : ByteArray) (hs : s.size ≤ 64) : (hOrder (backL s g 4)).isSome = decide (g = hWhole s ∧ hWhole s = hWhole bz) := by
  unfold hOrder
  rw [if_pos (right_back4 s g hs)]
  exact back_some s g hs
theorem back_order0 (s g : ByteArray) (hs : s.size ≤ 64) : (hOrder (backL s g 0)).isSome = decide (g = hWhole bz) := by
  unfold hOrder
  rw [if_pos (right_back0 s g hs)]
  exact back_open s g hs
end Go.Pin
namespace Go.Proofs.YtnilfjkodlmenaaDoor
open Go.RowKit Go.Pin
set_option linter.unusedVariables false
set_option linter.unusedSimpArgs false
set_option maxHeartbeats 6400000 in
theorem historyLost_true (s u : ByteArray) (k : Int) (hs : s.size ≤ 140737488351232) (hu : u.size ≤ 140737488351232) (hk : 0 ≤ k ∧ k ≤ 255) (w : World) :
    Calls Tryd.prog 6 #[.string s, .string u, .int .u8 k, .bool true] w fun x w' => x = .returned (.bool true) ∧ Below w.heap.size w w' := by
  obtain ⟨ms, hms, hms1, hms2⟩ : ∃ m : Nat, min (s.size : Int) 64 = (m : Int) ∧ m ≤ 64 ∧ m ≤ s.size := ⟨min s.size 64, by omega, by omega, by omega⟩
  obtain ⟨S, hcS, hzS⟩ : ∃ X, s.extract 0 ms = X ∧ X.size ≤ 64 := ⟨_, rfl, by rw [ByteArray.size_extract]; omega⟩
  have HE := Pin.Aside.mk (fun W => law21_examples W)
  have HWS := Pin.Aside.mk (fun W => law21_whole S (by omega) W)
  have HWU := Pin.Aside.mk (fun W => law21_whole u hu W)
  have HWZ := Pin.Aside.mk (fun W => law21_whole ⟨#[]⟩ (by decide) W)
  obtain ⟨q, hq, hq0, hq4⟩ : ∃ q : Int, k % 3 = q ∧ 0 ≤ q ∧ q < 3 := ⟨_, rfl, by omega, by omega⟩
  have hqt : Int.tmod k 3 = q := by rw [Int.tmod_eq_emod_of_nonneg hk.1]; exact hq
  have HB := Pin.Aside.mk (Below.refl w.heap.size w)
  go_enter Tryd.func6, Tryd.ntmps6
  go_wp2_with fail
  refine (HE.out _).mono ?_
  rintro x w1 ⟨rfl, hb⟩
  replace HB := Pin.Aside.mk (HB.out.trans (hb.mono HB.out.size))
  clear hb HE
  have hR : hRow (w1.alloc (.cells #[.int .u64 0, .int .u64 0, .int .i64 3, .int .u64 0, .int .u64 0, .int .u64 0, .int .u64 1, .int .i64 0, .int .i64 0, .string ⟨#[]⟩, .string ⟨#[]⟩, .int .u64 1, .int .u64 2, .int .i64 0, .string ⟨#[]⟩, .int .u64 0, .int .u64 0, .int .i64 1, .int .u64 0, .int .u64 0, .int .u64 0, .int .u64 0, .int .i64 0, .int .i64 0, .string S, .string ⟨#[]⟩, .int .u64 3, .int .u64 0, .int .i64 0, .string ⟨#[]⟩] 33)) w.heap.size (.slice (some ⟨w1.heap.size, 0, none⟩) 2 2) [opR 1 2, opW S 3 0] := hRow.made w1 w.heap.size [opR 1 2, opW S 3 0] HB.out.size (by show (2 : Nat) ≤ maxLen; unfold maxLen; omega)
  have hka := (Keep.refl (fun _ => False) w1).alloc (.cells #[.int .u64 0, .int .u64 0, .int .i64 3, .int .u64 0, .int .u64 0, .int .u64 0, .int .u64 1, .int .i64 0, .int .i64 0, .string ⟨#[]⟩, .string ⟨#[]⟩, .int .u64 1, .int .u64 2, .int .i64 0, .string ⟨#[]⟩, .int .u64 0, .int .u64 0, .int .i64 1, .int .u64 0, .int .u64 0, .int .u64 0, .int .u64 0, .int .i64 0, .int .i64 0, .string S, .string ⟨#[]⟩, .int .u64 3, .int .u64 0, .int .i64 0, .string ⟨#[]⟩] 33)
  go_upto_region 6 with fail
  generalize w1.alloc (.cells #[.int .u64 0, .int .u64 0, .int .i64 3, .int .u64 0, .int .u64 0, .int .u64 0, .int .u64 1, .int .i64 0, .int .i64 0, .string ⟨#[]⟩, .string ⟨#[]⟩, .int .u64 1, .int .u64 2, .int .i64 0, .string ⟨#[]⟩, .int .u64 0, .int .u64 0, .int .i64 1, .int .u64 0, .int .u64 0, .int .u64 0, .int .u64 0, .int .i64 0, .int .i64 0, .string S, .string ⟨#[]⟩, .int .u64 3, .int .u64 0, .int .i64 0, .string ⟨#[]⟩] 33) = w2 at *
  have hgw : w.heap.size ≤ w1.heap.size := HB.out.size
  replace HB := Pin.Aside.mk (HB.out.trans (hka.below HB.out.size fun _ q => q.elim))
  clear hka
  generalize w1.heap.size = G at *
  have hf27 := hR.there rfl 27
  have h27 : w2.cell? ⟨G, 27, none⟩ = some (.int .u64 0) := by have := World.ownsRow.cellAt hR 27 (by show 27 < 2 * 15; omega); rw [this]; rfl
  have HR := Pin.Aside.mk (hR.store rfl (j := 1) (i := 12) (x := opW S 3 0) (y := opW S 3 4) (v := .int .u64 4) rfl (by decide) rfl)
  replace HB := Pin.Aside.mk (HB.out.trans (((Keep.refl (fun j => j = G) w2).setCell (p := ⟨G, 27, none⟩) (.inl rfl) (.int .u64 4)).below HB.out.size (by rintro j rfl; exact hgw)))
  clear hR
  go_upto_region 8 with fail
  generalize w2.setCell ⟨G, 27, none⟩ (.int .u64 4) = w3 at *
  replace HR : Pin.Aside (hRow w3 w.heap.size (.slice (some ⟨G, 0, none⟩) 2 2) [opR 1 2, opW S 3 4]) := Pin.Aside.mk HR.out
  clear hf27 h27
  go_cut [11] (fun v wx => ∃ g, v = .string g ∧ Pin.Aside (g.size = 64) ∧ Pin.Aside (hRow wx w.heap.size (.slice (some ⟨G, 0, none⟩) 2 2) [opR 1 2, opW S 3 4]) ∧ Pin.Aside (Below w.heap.size w wx))
  case first =>
    go_wp2_with fail
    refine (HWS.out _).mono ?_
    rintro x wn ⟨rfl, hb⟩
    replace HR := Pin.Aside.mk (HR.out.below hb)
    replace HB := Pin.Aside.mk (HB.out.trans (hb.mono HB.out.size))
    clear hb
    go_wp2_with fail
    refine (HWZ.out _).mono ?_
    rintro x wn ⟨rfl, hb⟩
    replace HR := Pin.Aside.mk (HR.out.below hb)
    replace HB := Pin.Aside.mk (HB.out.trans (hb.mono HB.out.size))
    clear hb
    go_wp2_with fail
    refine (HWU.out _).mono ?_
    rintro x wn ⟨rfl, hb⟩
    replace HR := Pin.Aside.mk (HR.out.below hb)
    replace HB := Pin.Aside.mk (HB.out.trans (hb.mono HB.out.size))
    clear hb
    have hka := fun L => (Keep.refl (fun _ => False) wn).alloc (.cells L 9)
    have HR' := Pin.Aside.mk (fun L => HR.out.keep (hka L) fun _ _ _ => id)
    have HB' := Pin.Aside.mk (fun L => HB.out.trans ((hka L).below HB.out.size fun _ q => q.elim))
    have hsS := Pin.Aside.mk (hCut_size S)
    have hsZ := Pin.Aside.mk (hCut_size ⟨#[]⟩)
    have hsU := Pin.Aside.mk (hCut_size u)
    clear hka
    have hq5 : q = 0 ∨ q = 1 ∨ q = 2 := by omega
    clear hq
    rcases hq5 with rfl | rfl | rfl
    · go_wp2_with fail
      go_meet
      exact ⟨_, rfl, hsS, Pin.Aside.mk (HR'.out _), Pin.Aside.mk (HB'.out _)⟩
    · go_wp2_with fail
      go_meet
      exact ⟨_, rfl, hsZ, Pin.Aside.mk (HR'.out _), Pin.Aside.mk (HB'.out _)⟩
    · go_wp2_with fail
      go_meet
      exact ⟨_, rfl, hsU, Pin.Aside.mk (HR'.out _), Pin.Aside.mk (HB'.out _)⟩
  case rest =>
    clear HR HB
    obtain ⟨g, rfl, HG, HR, HB⟩ := hcut
    obtain ⟨i0, hif, hz0, hzs, hzb⟩ := info_parts op_info
    have e1 := hCut_eq S hzS
    have e3 := hCut_eq ⟨#[]⟩ (by decide)
    rw [e1] at HWS
    rw [e3] at HWZ
    clear e1 e3
    have hGc : G < wc.heap.size := by
      obtain ⟨G', h2, _, _, h3⟩ := HR.out.form (by show 0 < (2 : Nat); decide)
      injection h2 with h2
      injection h2 with h2
      rw [h2]; exact h3
    have HX : BoxAt (wc.alloc (.cells #[.int .u64 0, .int .u64 0, .int .i64 100, .int .u64 0, .int .u64 0, .int .u64 0, .int .u64 1, .int .i64 0, .int .i64 0, .string ⟨#[]⟩, .string ⟨#[]⟩, .int .u64 10, .int .u64 11, .int .i64 0, .string g] 33)) wc.heap.size (opG g 10 11) := BoxAt.new wc 33 (opG g 10 11)
    have hkb := (Keep.refl (fun _ => False) wc).alloc (.cells #[.int .u64 0, .int .u64 0, .int .i64 100, .int .u64 0, .int .u64 0, .int .u64 0, .int .u64 1, .int .i64 0, .int .i64 0, .string ⟨#[]⟩, .string ⟨#[]⟩, .int .u64 10, .int .u64 11, .int .i64 0, .string g] 33)
    have HR2 := Pin.Aside.mk (HR.out.keep hkb fun _ _ _ => id)
    have HB2 := Pin.Aside.mk (HB.out.trans (hkb.below HB.out.size fun _ q => q.elim))
    have hEw : w.heap.size ≤ wc.heap.size := HB.out.size
    go_upto_region 10 with fail
    generalize wc.alloc (.cells #[.int .u64 0, .int .u64 0, .int .i64 100, .int .u64 0, .int .u64 0, .int .u64 0, .int .u64 1, .int .i64 0, .int .i64 0, .string ⟨#[]⟩, .string ⟨#[]⟩, .int .u64 10, .int .u64 11, .int .i64 0, .string g] 33) = wd at *
    generalize wc.heap.size = E at *
    clear hkb HR HB
    have hGE : ¬ G = E := by omega
    have c0 := HX.cell 0 (.int .u64 0) rfl
    have c1 := HX.cell 1 (.int .u64 0) rfl
    have c2 := HX.cell 2 (.int .i64 100) rfl
    have c3 := HX.cell 3 (.int .u64 0) rfl
    have c4 := HX.cell 4 (.int .u64 0) rfl
    have c5 := HX.cell 5 (.int .u64 0) rfl
    have c6 := HX.cell 6 (.int .u64 1) rfl
    have c7 := HX.cell 7 (.int .i64 0) rfl
    have c8 := HX.cell 8 (.int .i64 0) rfl
    have c9 := HX.cell 9 (.string ⟨#[]⟩) rfl
    have c10 := HX.cell 10 (.string ⟨#[]⟩) rfl
    have c11 := HX.cell 11 (.int .u64 10) rfl
    have c12 := HX.cell 12 (.int .u64 11) rfl
    have c13 := HX.cell 13 (.int .i64 0) rfl
    have c14 := HX.cell 14 (.string g) rfl
    have hka := (Keep.refl (fun _ => False) wd).alloc (.cells #[.int .u64 0, .int .u64 0, .int .i64 100, .int .u64 0, .int .u64 0, .int .u64 0, .int .u64 1, .int .i64 0, .int .i64 0, .string ⟨#[]⟩, .string ⟨#[]⟩, .int .u64 10, .int .u64 11, .int .i64 0, .string g] 33)
    have hown : hRow (wd.alloc (.cells #[.int .u64 0, .int .u64 0, .int .i64 100, .int .u64 0, .int .u64 0, .int .u64 0, .int .u64 1, .int .i64 0, .int .i64 0, .string ⟨#[]⟩, .string ⟨#[]⟩, .int .u64 10, .int .u64 11, .int .i64 0, .string g] 33)) w.heap.size (.slice (some ⟨G, 0, none⟩) 2 2) [opR 1 2, opW S 3 4] := HR2.out.keep hka fun _ _ _ => id
    have hnew : (wd.alloc (.cells #[.int .u64 0, .int .u64 0, .int .i64 100, .int .u64 0, .int .u64 0, .int .u64 0, .int .u64 1, .int .i64 0, .int .i64 0, .string ⟨#[]⟩, .string ⟨#[]⟩, .int .u64 10, .int .u64 11, .int .i64 0, .string g] 33)).heap[wd.heap.size]? = some (.cells #[.int .u64 0, .int .u64 0, .int .i64 100, .int .u64 0, .int .u64 0, .int .u64 0, .int .u64 1, .int .i64 0, .int .i64 0, .string ⟨#[]⟩, .string ⟨#[]⟩, .int .u64 10, .int .u64 11, .int .i64 0, .string g] 33) := Go.heap_alloc_new wd _
    have hbs := HB2.out.size
    have HXa := HX.keep hka id
    have hEl := HX.lt
    unfold hRow at hown
    go_wp2_with (at_builtin; refine wpList_append_lies _ rfl _ _ _ rfl w.heap.size 33 i0 _ 15 144 Tryd.underlying24 hif hz0 hzs hzb rfl (by omega) _ 2 (hFlat [opR 1 2, opW S 3 4]) rfl hown ⟨wd.heap.size, 0, none⟩ 1 1 (opG g 10 11).cells.toList rfl rfl (World.news_of_block (cs := #[.int .u64 0, .int .u64 0, .int .i64 100, .int .u64 0, .int .u64 0, .int .u64 0, .int .u64 1, .int .i64 0, .int .i64 0, .string ⟨#[]⟩, .string ⟨#[]⟩, .int .u64 10, .int .u64 11, .int .i64 0, .string g]) (t := 33) (fr := (0, 0)) hnew) (hCells_one (opG g 10 11)) (by omega) (by unfold maxLen; omega) (by omega) (by simp; omega) _ rfl ?_)
    intro G4 cap w4 hown4 hgrow hat hlt4
    have HX4 := HXa.keep (keep_grownBy hgrow) (fun q => by injection q with q; exact hGE q)
    have HR4 : Pin.Aside (hRow w4 w.heap.size (.slice (some ⟨G4, 0, none⟩) 3 cap) (firstL S g 4)) := Pin.Aside.mk (hRow.snoc (L := [opR 1 2, opW S 3 4]) (x := (opG g 10 11)) rfl hown4)
    have HB4 := Pin.Aside.mk ((HB2.out.trans (hka.below HB2.out.size fun _ q => q.elim)).grown hgrow (by simp; omega) (fun k hk => (World.ownsRow.lt hown k hk).1))
    have hG4E : ¬ G4 = E := by
      rcases hat with q | q
      · have q' : some G = some G4 := q
        injection q' with q'
        omega
      · omega
    clear hown hnew hown4 hgrow hat hka HR2 HB2 hbs HXa hEl hlt4 HX
    clear c0 c1 c2 c3 c4 c5 c6 c7 c8 c9 c10 c11 c12 c13 c14
    have hg64 := HG.out
    have HL1 := Pin.Aside.mk (hi_legal (firstL S g 4) (by show (3 : Nat) ≤ 1000; decide) (first_ok4 S g hzS (by omega)) (some ⟨G4, 0, none⟩) cap w4 HR4.out.ops (itoa_small _ (by show (3 : Nat) ≤ 6; decide) _ _))
    rw [first_order4 S g hzS, show (firstL S g 4).length = 3 from rfl] at HL1
    have HX4a := Pin.Aside.mk HX4
    clear HX4
    go_wp2_with fail
    refine HL1.out.mono ?_
    rintro x w5 ⟨rfl, hb⟩
    have HR5 := Pin.Aside.mk (HR4.out.below hb)
    have HX5 := HX4a.out.keep (Keep.of_below hb fun _ q _ => q : Keep (fun _ => False) w4 w5) id
    have HB5 := Pin.Aside.mk (HB4.out.trans (hb.mono HB4.out.size))
    clear hb HL1 HR4 HX4a HB4
    obtain ⟨b1, hb1⟩ : ∃ b, decide (g = hWhole S) = b := ⟨_, rfl⟩
    rw [hb1]
    have HB1 := Pin.Aside.mk hb1
    clear hb1
    have c11 := HX5.cell 11 (.int .u64 10) rfl
    have c12 := HX5.cell 12 (.int .u64 11) rfl
    have f11 := HX5.fr 11
    have f12 := HX5.fr 12
    have hk6 := ((Keep.refl (fun j => j = E) w5).setCell (p := ⟨E, 11, none⟩) (.inl rfl) (.int .u64 12)).setCell (p := ⟨E, 12, none⟩) (.inl rfl) (.int .u64 13)
    have HX6 := (HX5.set (y := opG g 12 11) (i := 11) (v := .int .u64 12) (by decide) rfl).set (y := opG g 12 13) (i := 12) (v := .int .u64 13) (by decide) rfl
    have HR6 := Pin.Aside.mk (HR5.out.keepB hk6 hG4E)
    have HB6 := Pin.Aside.mk (HB5.out.trans (hk6.below HB5.out.size (by rintro j rfl; exact hEw)))
    clear hk6 HR5 HB5
    go_upto_region 14 with fail
    clear c11 c12 f11 f12 HX5
    generalize (w5.setCell ⟨E, 11, none⟩ (.int .u64 12)).setCell ⟨E, 12, none⟩ (.int .u64 13) = w6 at *
    obtain ⟨VS, hVS⟩ : ∃ V, hWhole S = V := ⟨_, rfl⟩
    obtain ⟨VZ, hVZ⟩ : ∃ V, hWhole ⟨#[]⟩ = V := ⟨_, rfl⟩
    rw [hVS] at HWS
    rw [hVZ] at HWZ
    have HVZ := Pin.Aside.mk hVZ
    have HVS := Pin.Aside.mk hVS
    clear hVS hVZ
    have HX6a := Pin.Aside.mk HX6
    clear HX6
    go_wp2_with fail
    refine (HWZ.out _).mono ?_
    rintro x w7 ⟨rfl, hb⟩
    have HR7 := Pin.Aside.mk (HR6.out.below hb)
    have HX7 := HX6a.out.keep (Keep.of_below hb fun _ q _ => q : Keep (fun _ => False) w6 w7) id
    have HB7 := Pin.Aside.mk (HB6.out.trans (hb.mono HB6.out.size))
    clear hb HR6 HX6a HB6
    have c14 := HX7.cell 14 (.string g) rfl
    have f14 := HX7.fr 14
    have hk8 := (Keep.refl (fun j => j = E) w7).setCell (p := ⟨E, 14, none⟩) (.inl rfl) (.string VZ)
    have HX8 := HX7.set (y := opG VZ 12 13) (i := 14) (v := .string VZ) (by decide) rfl
    have HR8 := Pin.Aside.mk (HR7.out.keepB hk8 hG4E)
    have HB8 := Pin.Aside.mk (HB7.out.trans (hk8.below HB7.out.size (by rintro j rfl; exact hEw)))
    clear hk8 HR7 HB7
    go_upto_region 15 with fail
    clear c14 f14 HX7
    generalize w7.setCell ⟨E, 14, none⟩ (.string VZ) = w8 at *
    have c0 := HX8.cell 0 (.int .u64 0) rfl
    have c1 := HX8.cell 1 (.int .u64 0) rfl
    have c2 := HX8.cell 2 (.int .i64 100) rfl
    have c3 := HX8.cell 3 (.int .u64 0) rfl
    have c4 := HX8.cell 4 (.int .u64 0) rfl
    have c5 := HX8.cell 5 (.int .u64 0) rfl
    have c6 := HX8.cell 6 (.int .u64 1) rfl
    have c7 := HX8.cell 7 (.int .i64 0) rfl
    have c8 := HX8.cell 8 (.int .i64 0) rfl
    have c9 := HX8.cell 9 (.string ⟨#[]⟩) rfl
    have c10 := HX8.cell 10 (.string ⟨#[]⟩) rfl
    have c11 := HX8.cell 11 (.int .u64 12) rfl
    have c12 := HX8.cell 12 (.int .u64 13) rfl
    have c13 := HX8.cell 13 (.int .i64 0) rfl
    have c14 := HX8.cell 14 (.string VZ) rfl
    have hka := (Keep.refl (fun _ => False) w8).alloc (.cells #[.int .u64 0, .int .u64 0, .int .i64 100, .int .u64 0, .int .u64 0, .int .u64 0, .int .u64 1, .int .i64 0, .int .i64 0, .string ⟨#[]⟩, .string ⟨#[]⟩, .int .u64 12, .int .u64 13, .int .i64 0, .string VZ] 33)
    have hown : hRow (w8.alloc (.cells #[.int .u64 0, .int .u64 0, .int .i64 100, .int .u64 0, .int .u64 0, .int .u64 0, .int .u64 1, .int .i64 0, .int .i64 0, .string ⟨#[]⟩, .string ⟨#[]⟩, .int .u64 12, .int .u64 13, .int .i64 0, .string VZ] 33)) w.heap.size (.slice (some ⟨G4, 0, none⟩) 3 cap) (firstL S g 4) := HR8.out.keep hka fun _ _ _ => id
    have hnew : (w8.alloc (.cells #[.int .u64 0, .int .u64 0, .int .i64 100, .int .u64 0, .int .u64 0, .int .u64 0, .int .u64 1, .int .i64 0, .int .i64 0, .string ⟨#[]⟩, .string ⟨#[]⟩, .int .u64 12, .int .u64 13, .int .i64 0, .string VZ] 33)).heap[w8.heap.size]? = some (.cells #[.int .u64 0, .int .u64 0, .int .i64 100, .int .u64 0, .int .u64 0, .int .u64 0, .int .u64 1, .int .i64 0, .int .i64 0, .string ⟨#[]⟩, .string ⟨#[]⟩, .int .u64 12, .int .u64 13, .int .i64 0, .string VZ] 33) := Go.heap_alloc_new w8 _
    have hbs := HB8.out.size
    have HXa := HX8.keep hka id
    have hEl := HX8.lt
    unfold hRow at hown
    go_wp2_with (at_builtin; refine wpList_append_lies _ rfl _ _ _ rfl w.heap.size 33 i0 _ 15 144 Tryd.underlying24 hif hz0 hzs hzb rfl (by omega) _ 3 (hFlat (firstL S g 4)) rfl hown ⟨w8.heap.size, 0, none⟩ 1 1 (opG VZ 12 13).cells.toList rfl rfl (World.news_of_block (cs := #[.int .u64 0, .int .u64 0, .int .i64 100, .int .u64 0, .int .u64 0, .int .u64 0, .int .u64 1, .int .i64 0, .int .i64 0, .string ⟨#[]⟩, .string ⟨#[]⟩, .int .u64 12, .int .u64 13, .int .i64 0, .string VZ]) (t := 33) (fr := (0, 0)) hnew) (hCells_one (opG VZ 12 13)) (by omega) (by unfold maxLen; omega) (by omega) (by simp; omega) _ rfl ?_)
    intro G9 cap9 w9 hown4 hgrow hat hlt4
    have HX9 := HXa.keep (keep_grownBy hgrow) (fun q => by injection q with q; exact hG4E q)
    have HR9 : Pin.Aside (hRow w9 w.heap.size (.slice (some ⟨G9, 0, none⟩) 4 cap9) (firstL S g 4 ++ [opG VZ 12 13])) := Pin.Aside.mk (hRow.snoc (L := (firstL S g 4)) (x := (opG VZ 12 13)) rfl hown4)
    have HB9 := Pin.Aside.mk ((HB8.out.trans (hka.below HB8.out.size fun _ q => q.elim)).grown hgrow (by simp; omega) (fun k hk => (World.ownsRow.lt hown k hk).1))
    have hG9E : ¬ G9 = E := by
      rcases hat with q | q
      · have q' : some G4 = some G9 := q
        injection q' with q'
        omega
      · omega
    clear hown hnew hown4 hgrow hat hka HR8 HB8 hbs HXa hEl hlt4 HX8
    clear c0 c1 c2 c3 c4 c5 c6 c7 c8 c9 c10 c11 c12 c13 c14
    have HLst : Pin.Aside (firstL S g 4 ++ [opG VZ 12 13] = backL S g 4) := Pin.Aside.mk (by rw [← HVZ.out]; rfl)
    rw [HLst.out] at HR9
    have HL2 := Pin.Aside.mk (hi_legal (backL S g 4) (by show (4 : Nat) ≤ 1000; decide) (back_ok4 S g hzS (by omega)) (some ⟨G9, 0, none⟩) cap9 w9 HR9.out.ops (itoa_small _ (by show (4 : Nat) ≤ 6; decide) _ _))
    rw [back_order4 S g hzS, show (backL S g 4).length = 4 from rfl] at HL2
    clear HX9
    go_wp2_with fail
    refine HL2.out.mono ?_
    rintro x w10 ⟨rfl, hb⟩
    have HB := Pin.Aside.mk (HB9.out.trans (hb.mono HB9.out.size))
    clear hb HL2 HR9 HB9
    obtain ⟨b2, hb2⟩ : ∃ b, decide (g = hWhole S ∧ hWhole S = hWhole bz) = b := ⟨_, rfl⟩
    rw [hb2]
    have HB2 := Pin.Aside.mk hb2
    clear hb2
    rw [HVS.out] at HB1
    rw [HVS.out, HVZ.out] at HB2
    clear HWU hcS hms hg64
    have hse := str_beq
    by_cases hS : g = VS
    · have q1 : b1 = true := by rw [← HB1.out]; exact decide_eq_true hS
      by_cases hZ : g = VZ
      · have q2 : b2 = true := by rw [← HB2.out]; exact decide_eq_true ⟨hS, hS.symm.trans hZ⟩
        subst q1 q2
        have d1 : decide (g = VS) = true := decide_eq_true hS
        have d2 : decide (g = VZ) = true := decide_eq_true hZ
        have d3 : decide (VS = VZ) = true := decide_eq_true (hS.symm.trans hZ)
        clear hS hZ
        by_cases hE : S.toList = []
        · have hE2 : S.toList.isEmpty = true := by rw [hE]; rfl
          go_wp2_with fail
          repeat (first | (with_reducible refine (HWS.out _).mono ?_; rintro x wn ⟨rfl, hb⟩; replace HB := Pin.Aside.mk (HB.out.trans (hb.mono HB.out.size)); clear hb; go_wp2_with fail) | (with_reducible refine (HWZ.out _).mono ?_; rintro x wn ⟨rfl, hb⟩; replace HB := Pin.Aside.mk (HB.out.trans (hb.mono HB.out.size)); clear hb; go_wp2_with fail))
          go_ret
          exact ⟨rfl, HB.out⟩
        · have hE2 : S.toList.isEmpty = false := by cases h : S.toList with | nil => exact absurd h hE | cons _ _ => rfl
          go_wp2_with fail
          repeat (first | (with_reducible refine (HWS.out _).mono ?_; rintro x wn ⟨rfl, hb⟩; replace HB := Pin.Aside.mk (HB.out.trans (hb.mono HB.out.size)); clear hb; go_wp2_with fail) | (with_reducible refine (HWZ.out _).mono ?_; rintro x wn ⟨rfl, hb⟩; replace HB := Pin.Aside.mk (HB.out.trans (hb.mono HB.out.size)); clear hb; go_wp2_with fail))
          go_ret
          exact ⟨rfl, HB.out⟩
      · have q2 : b2 = false := by rw [← HB2.out]; exact decide_eq_false (fun h => hZ (h.1.trans h.2))
        subst q1 q2
        have d1 : decide (g = VS) = true := decide_eq_true hS
        have d2 : decide (g = VZ) = false := decide_eq_false hZ
        clear hS hZ
        go_wp2_with fail
        repeat (first | (with_reducible refine (HWS.out _).mono ?_; rintro x wn ⟨rfl, hb⟩; replace HB := Pin.Aside.mk (HB.out.trans (hb.mono HB.out.size)); clear hb; go_wp2_with fail) | (with_reducible refine (HWZ.out _).mono ?_; rintro x wn ⟨rfl, hb⟩; replace HB := Pin.Aside.mk (HB.out.trans (hb.mono HB.out.size)); clear hb; go_wp2_with fail))
        go_ret
        exact ⟨rfl, HB.out⟩
    · have q1 : b1 = false := by rw [← HB1.out]; exact decide_eq_false hS
      have q2 : b2 = false := by rw [← HB2.out]; exact decide_eq_false (fun h => hS h.1)
      subst q1 q2
      have d1 : decide (g = VS) = false := decide_eq_false hS
      by_cases hZ : g = VZ
      · have d2 : decide (g = VZ) = true := decide_eq_true hZ
        have hSZ : ¬ VS = VZ := fun h => hS (hZ.trans h.symm)
        have d3 : decide (VS = VZ) = false := decide_eq_false hSZ
        have hE : ¬ S.toList = [] := fun h => hSZ (by
          rw [← HVS.out, ← HVZ.out]
          have em : (⟨#[]⟩ : ByteArray).toList = [] := by decide +kernel
          have h2 := hse S ⟨#[]⟩
          rw [h, em] at h2
          have : S = ⟨#[]⟩ := of_decide_eq_true (h2.symm.trans rfl)
          rw [this])
        have hE2 : S.toList.isEmpty = false := by cases h : S.toList with | nil => exact absurd h hE | cons _ _ => rfl
        clear hS hZ hSZ
        go_wp2_with fail
        repeat (first | (with_reducible refine (HWS.out _).mono ?_; rintro x wn ⟨rfl, hb⟩; replace HB := Pin.Aside.mk (HB.out.trans (hb.mono HB.out.size)); clear hb; go_wp2_with fail) | (with_reducible refine (HWZ.out _).mono ?_; rintro x wn ⟨rfl, hb⟩; replace HB := Pin.Aside.mk (HB.out.trans (hb.mono HB.out.size)); clear hb; go_wp2_with fail))
        go_ret
        exact ⟨rfl, HB.out⟩
      · have d2 : decide (g = VZ) = false := decide_eq_false hZ
        clear hS hZ
        go_wp2_with fail
        repeat (first | (with_reducible refine (HWS.out _).mono ?_; rintro x wn ⟨rfl, hb⟩; replace HB := Pin.Aside.mk (HB.out.trans (hb.mono HB.out.size)); clear hb; go_wp2_with fail) | (with_reducible refine (HWZ.out _).mono ?_; rintro x wn ⟨rfl, hb⟩; replace HB := Pin.Aside.mk (HB.out.trans (hb.mono HB.out.size)); clear hb; go_wp2_with fail))
        go_ret
        exact ⟨rfl, HB.out⟩
set_option maxHeartbeats 6400000 in
theorem historyLost_false (s u : ByteArray) (k : Int) (hs : s.size ≤ 140737488351232) (hu : u.size ≤ 140737488351232) (hk : 0 ≤ k ∧ k ≤ 255) (w : World) :
    Calls Tryd.prog 6 #[.string s, .string u, .int .u8 k, .bool false] w fun x w' => x = .returned (.bool true) ∧ Below w.heap.size w w' := by
  obtain ⟨ms, hms, hms1, hms2⟩ : ∃ m : Nat, min (s.size : Int) 64 = (m : Int) ∧ m ≤ 64 ∧ m ≤ s.size := ⟨min s.size 64, by omega, by omega, by omega⟩
  obtain ⟨S, hcS, hzS⟩ : ∃ X, s.extract 0 ms = X ∧ X.size ≤ 64 := ⟨_, rfl, by rw [ByteArray.size_extract]; omega⟩
  have HE := Pin.Aside.mk (fun W => law21_examples W)
  have HWS := Pin.Aside.mk (fun W => law21_whole S (by omega) W)
  have HWU := Pin.Aside.mk (fun W => law21_whole u hu W)
  have HWZ := Pin.Aside.mk (fun W => law21_whole ⟨#[]⟩ (by decide) W)
  obtain ⟨q, hq, hq0, hq4⟩ : ∃ q : Int, k % 3 = q ∧ 0 ≤ q ∧ q < 3 := ⟨_, rfl, by omega, by omega⟩
  have hqt : Int.tmod k 3 = q := by rw [Int.tmod_eq_emod_of_nonneg hk.1]; exact hq
  have HB := Pin.Aside.mk (Below.refl w.heap.size w)
  go_enter Tryd.func6, Tryd.ntmps6
  go_wp2_with fail
  refine (HE.out _).mono ?_
  rintro x w1 ⟨rfl, hb⟩
  replace HB := Pin.Aside.mk (HB.out.trans (hb.mono HB.out.size))
  clear hb HE
  have hR : hRow (w1.alloc (.cells #[.int .u64 0, .int .u64 0, .int .i64 3, .int .u64 0, .int .u64 0, .int .u64 0, .int .u64 1, .int .i64 0, .int .i64 0, .string ⟨#[]⟩, .string ⟨#[]⟩, .int .u64 1, .int .u64 2, .int .i64 0, .string ⟨#[]⟩, .int .u64 0, .int .u64 0, .int .i64 1, .int .u64 0, .int .u64 0, .int .u64 0, .int .u64 0, .int .i64 0, .int .i64 0, .string S, .string ⟨#[]⟩, .int .u64 3, .int .u64 0, .int .i64 0, .string ⟨#[]⟩] 33)) w.heap.size (.slice (some ⟨w1.heap.size, 0, none⟩) 2 2) [opR 1 2, opW S 3 0] := hRow.made w1 w.heap.size [opR 1 2, opW S 3 0] HB.out.size (by show (2 : Nat) ≤ maxLen; unfold maxLen; omega)
  have hka := (Keep.refl (fun _ => False) w1).alloc (.cells #[.int .u64 0, .int .u64 0, .int .i64 3, .int .u64 0, .int .u64 0, .int .u64 0, .int .u64 1, .int .i64 0, .int .i64 0, .string ⟨#[]⟩, .string ⟨#[]⟩, .int .u64 1, .int .u64 2, .int .i64 0, .string ⟨#[]⟩, .int .u64 0, .int .u64 0, .int .i64 1, .int .u64 0, .int .u64 0, .int .u64 0, .int .u64 0, .int .i64 0, .int .i64 0, .string S, .string ⟨#[]⟩, .int .u64 3, .int .u64 0, .int .i64 0, .string ⟨#[]⟩] 33)
  go_upto_region 6 with fail
  generalize w1.alloc (.cells #[.int .u64 0, .int .u64 0, .int .i64 3, .int .u64 0, .int .u64 0, .int .u64 0, .int .u64 1, .int .i64 0, .int .i64 0, .string ⟨#[]⟩, .string ⟨#[]⟩, .int .u64 1, .int .u64 2, .int .i64 0, .string ⟨#[]⟩, .int .u64 0, .int .u64 0, .int .i64 1, .int .u64 0, .int .u64 0, .int .u64 0, .int .u64 0, .int .i64 0, .int .i64 0, .string S, .string ⟨#[]⟩, .int .u64 3, .int .u64 0, .int .i64 0, .string ⟨#[]⟩] 33) = w2 at *
  have hgw : w.heap.size ≤ w1.heap.size := HB.out.size
  replace HB := Pin.Aside.mk (HB.out.trans (hka.below HB.out.size fun _ q => q.elim))
  clear hka
  generalize w1.heap.size = G at *
  have HR := Pin.Aside.mk hR
  clear hR
  go_upto_region 8 with fail
  go_cut [11] (fun v wx => ∃ g, v = .string g ∧ Pin.Aside (g.size = 64) ∧ Pin.Aside (hRow wx w.heap.size (.slice (some ⟨G, 0, none⟩) 2 2) [opR 1 2, opW S 3 0]) ∧ Pin.Aside (Below w.heap.size w wx))
  case first =>
    go_wp2_with fail
    refine (HWS.out _).mono ?_
    rintro x wn ⟨rfl, hb⟩
    replace HR := Pin.Aside.mk (HR.out.below hb)
    replace HB := Pin.Aside.mk (HB.out.trans (hb.mono HB.out.size))
    clear hb
    go_wp2_with fail
    refine (HWZ.out _).mono ?_
    rintro x wn ⟨rfl, hb⟩
    replace HR := Pin.Aside.mk (HR.out.below hb)
    replace HB := Pin.Aside.mk (HB.out.trans (hb.mono HB.out.size))
    clear hb
    go_wp2_with fail
    refine (HWU.out _).mono ?_
    rintro x wn ⟨rfl, hb⟩
    replace HR := Pin.Aside.mk (HR.out.below hb)
    replace HB := Pin.Aside.mk (HB.out.trans (hb.mono HB.out.size))
    clear hb
    have hka := fun L => (Keep.refl (fun _ => False) wn).alloc (.cells L 9)
    have HR' := Pin.Aside.mk (fun L => HR.out.keep (hka L) fun _ _ _ => id)
    have HB' := Pin.Aside.mk (fun L => HB.out.trans ((hka L).below HB.out.size fun _ q => q.elim))
    have hsS := Pin.Aside.mk (hCut_size S)
    have hsZ := Pin.Aside.mk (hCut_size ⟨#[]⟩)
    have hsU := Pin.Aside.mk (hCut_size u)
    clear hka
    have hq5 : q = 0 ∨ q = 1 ∨ q = 2 := by omega
    clear hq
    rcases hq5 with rfl | rfl | rfl
    · go_wp2_with fail
      go_meet
      exact ⟨_, rfl, hsS, Pin.Aside.mk (HR'.out _), Pin.Aside.mk (HB'.out _)⟩
    · go_wp2_with fail
      go_meet
      exact ⟨_, rfl, hsZ, Pin.Aside.mk (HR'.out _), Pin.Aside.mk (HB'.out _)⟩
    · go_wp2_with fail
      go_meet
      exact ⟨_, rfl, hsU, Pin.Aside.mk (HR'.out _), Pin.Aside.mk (HB'.out _)⟩
  case rest =>
    clear HR HB
    obtain ⟨g, rfl, HG, HR, HB⟩ := hcut
    obtain ⟨i0, hif, hz0, hzs, hzb⟩ := info_parts op_info
    have e1 := hCut_eq S hzS
    have e3 := hCut_eq ⟨#[]⟩ (by decide)
    rw [e1] at HWS
    rw [e3] at HWZ
    clear e1 e3
    have hGc : G < wc.heap.size := by
      obtain ⟨G', h2, _, _, h3⟩ := HR.out.form (by show 0 < (2 : Nat); decide)
      injection h2 with h2
      injection h2 with h2
      rw [h2]; exact h3
    have HX : BoxAt (wc.alloc (.cells #[.int .u64 0, .int .u64 0, .int .i64 100, .int .u64 0, .int .u64 0, .int .u64 0, .int .u64 1, .int .i64 0, .int .i64 0, .string ⟨#[]⟩, .string ⟨#[]⟩, .int .u64 10, .int .u64 11, .int .i64 0, .string g] 33)) wc.heap.size (opG g 10 11) := BoxAt.new wc 33 (opG g 10 11)
    have hkb := (Keep.refl (fun _ => False) wc).alloc (.cells #[.int .u64 0, .int .u64 0, .int .i64 100, .int .u64 0, .int .u64 0, .int .u64 0, .int .u64 1, .int .i64 0, .int .i64 0, .string ⟨#[]⟩, .string ⟨#[]⟩, .int .u64 10, .int .u64 11, .int .i64 0, .string g] 33)
    have HR2 := Pin.Aside.mk (HR.out.keep hkb fun _ _ _ => id)
    have HB2 := Pin.Aside.mk (HB.out.trans (hkb.below HB.out.size fun _ q => q.elim))
    have hEw : w.heap.size ≤ wc.heap.size := HB.out.size
    go_upto_region 10 with fail
    generalize wc.alloc (.cells #[.int .u64 0, .int .u64 0, .int .i64 100, .int .u64 0, .int .u64 0, .int .u64 0, .int .u64 1, .int .i64 0, .int .i64 0, .string ⟨#[]⟩, .string ⟨#[]⟩, .int .u64 10, .int .u64 11, .int .i64 0, .string g] 33) = wd at *
    generalize wc.heap.size = E at *
    clear hkb HR HB
    have hGE : ¬ G = E := by omega
    have c0 := HX.cell 0 (.int .u64 0) rfl
    have c1 := HX.cell 1 (.int .u64 0) rfl
    have c2 := HX.cell 2 (.int .i64 100) rfl
    have c3 := HX.cell 3 (.int .u64 0) rfl
    have c4 := HX.cell 4 (.int .u64 0) rfl
    have c5 := HX.cell 5 (.int .u64 0) rfl
    have c6 := HX.cell 6 (.int .u64 1) rfl
    have c7 := HX.cell 7 (.int .i64 0) rfl
    have c8 := HX.cell 8 (.int .i64 0) rfl
    have c9 := HX.cell 9 (.string ⟨#[]⟩) rfl
    have c10 := HX.cell 10 (.string ⟨#[]⟩) rfl
    have c11 := HX.cell 11 (.int .u64 10) rfl
    have c12 := HX.cell 12 (.int .u64 11) rfl
    have c13 := HX.cell 13 (.int .i64 0) rfl
    have c14 := HX.cell 14 (.string g) rfl
    have hka := (Keep.refl (fun _ => False) wd).alloc (.cells #[.int .u64 0, .int .u64 0, .int .i64 100, .int .u64 0, .int .u64 0, .int .u64 0, .int .u64 1, .int .i64 0, .int .i64 0, .string ⟨#[]⟩, .string ⟨#[]⟩, .int .u64 10, .int .u64 11, .int .i64 0, .string g] 33)
    have hown : hRow (wd.alloc (.cells #[.int .u64 0, .int .u64 0, .int .i64 100, .int .u64 0, .int .u64 0, .int .u64 0, .int .u64 1, .int .i64 0, .int .i64 0, .string ⟨#[]⟩, .string ⟨#[]⟩, .int .u64 10, .int .u64 11, .int .i64 0, .string g] 33)) w.heap.size (.slice (some ⟨G, 0, none⟩) 2 2) [opR 1 2, opW S 3 0] := HR2.out.keep hka fun _ _ _ => id
    have hnew : (wd.alloc (.cells #[.int .u64 0, .int .u64 0, .int .i64 100, .int .u64 0, .int .u64 0, .int .u64 0, .int .u64 1, .int .i64 0, .int .i64 0, .string ⟨#[]⟩, .string ⟨#[]⟩, .int .u64 10, .int .u64 11, .int .i64 0, .string g] 33)).heap[wd.heap.size]? = some (.cells #[.int .u64 0, .int .u64 0, .int .i64 100, .int .u64 0, .int .u64 0, .int .u64 0, .int .u64 1, .int .i64 0, .int .i64 0, .string ⟨#[]⟩, .string ⟨#[]⟩, .int .u64 10, .int .u64 11, .int .i64 0, .string g] 33) := Go.heap_alloc_new wd _
    have hbs := HB2.out.size
    have HXa := HX.keep hka id
    have hEl := HX.lt
    unfold hRow at hown
    go_wp2_with (at_builtin; refine wpList_append_lies _ rfl _ _ _ rfl w.heap.size 33 i0 _ 15 144 Tryd.underlying24 hif hz0 hzs hzb rfl (by omega) _ 2 (hFlat [opR 1 2, opW S 3 0]) rfl hown ⟨wd.heap.size, 0, none⟩ 1 1 (opG g 10 11).cells.toList rfl rfl (World.news_of_block (cs := #[.int .u64 0, .int .u64 0, .int .i64 100, .int .u64 0, .int .u64 0, .int .u64 0, .int .u64 1, .int .i64 0, .int .i64 0, .string ⟨#[]⟩, .string ⟨#[]⟩, .int .u64 10, .int .u64 11, .int .i64 0, .string g]) (t := 33) (fr := (0, 0)) hnew) (hCells_one (opG g 10 11)) (by omega) (by unfold maxLen; omega) (by omega) (by simp; omega) _ rfl ?_)
    intro G4 cap w4 hown4 hgrow hat hlt4
    have HX4 := HXa.keep (keep_grownBy hgrow) (fun q => by injection q with q; exact hGE q)
    have HR4 : Pin.Aside (hRow w4 w.heap.size (.slice (some ⟨G4, 0, none⟩) 3 cap) (firstL S g 0)) := Pin.Aside.mk (hRow.snoc (L := [opR 1 2, opW S 3 0]) (x := (opG g 10 11)) rfl hown4)
    have HB4 := Pin.Aside.mk ((HB2.out.trans (hka.below HB2.out.size fun _ q => q.elim)).grown hgrow (by simp; omega) (fun k hk => (World.ownsRow.lt hown k hk).1))
    have hG4E : ¬ G4 = E := by
      rcases hat with q | q
      · have q' : some G = some G4 := q
        injection q' with q'
        omega
      · omega
    clear hown hnew hown4 hgrow hat hka HR2 HB2 hbs HXa hEl hlt4 HX
    clear c0 c1 c2 c3 c4 c5 c6 c7 c8 c9 c10 c11 c12 c13 c14
    have hg64 := HG.out
    have HL1 := Pin.Aside.mk (hi_legal (firstL S g 0) (by show (3 : Nat) ≤ 1000; decide) (first_ok0 S g hzS (by omega)) (some ⟨G4, 0, none⟩) cap w4 HR4.out.ops (itoa_small _ (by show (3 : Nat) ≤ 6; decide) _ _))
    rw [first_order0 S g hzS, show (firstL S g 0).length = 3 from rfl] at HL1
    have HX4a := Pin.Aside.mk HX4
    clear HX4
    go_wp2_with fail
    refine HL1.out.mono ?_
    rintro x w5 ⟨rfl, hb⟩
    have HR5 := Pin.Aside.mk (HR4.out.below hb)
    have HX5 := HX4a.out.keep (Keep.of_below hb fun _ q _ => q : Keep (fun _ => False) w4 w5) id
    have HB5 := Pin.Aside.mk (HB4.out.trans (hb.mono HB4.out.size))
    clear hb HL1 HR4 HX4a HB4
    obtain ⟨b1, hb1⟩ : ∃ b, decide (g = hWhole S ∨ g = hWhole bz) = b := ⟨_, rfl⟩
    rw [hb1]
    have HB1 := Pin.Aside.mk hb1
    clear hb1
    have c11 := HX5.cell 11 (.int .u64 10) rfl
    have c12 := HX5.cell 12 (.int .u64 11) rfl
    have f11 := HX5.fr 11
    have f12 := HX5.fr 12
    have hk6 := ((Keep.refl (fun j => j = E) w5).setCell (p := ⟨E, 11, none⟩) (.inl rfl) (.int .u64 12)).setCell (p := ⟨E, 12, none⟩) (.inl rfl) (.int .u64 13)
    have HX6 := (HX5.set (y := opG g 12 11) (i := 11) (v := .int .u64 12) (by decide) rfl).set (y := opG g 12 13) (i := 12) (v := .int .u64 13) (by decide) rfl
    have HR6 := Pin.Aside.mk (HR5.out.keepB hk6 hG4E)
    have HB6 := Pin.Aside.mk (HB5.out.trans (hk6.below HB5.out.size (by rintro j rfl; exact hEw)))
    clear hk6 HR5 HB5
    go_upto_region 14 with fail
    clear c11 c12 f11 f12 HX5
    generalize (w5.setCell ⟨E, 11, none⟩ (.int .u64 12)).setCell ⟨E, 12, none⟩ (.int .u64 13) = w6 at *
    obtain ⟨VS, hVS⟩ : ∃ V, hWhole S = V := ⟨_, rfl⟩
    obtain ⟨VZ, hVZ⟩ : ∃ V, hWhole ⟨#[]⟩ = V := ⟨_, rfl⟩
    rw [hVS] at HWS
    rw [hVZ] at HWZ
    have HVZ := Pin.Aside.mk hVZ
    have HVS := Pin.Aside.mk hVS
    clear hVS hVZ
    have HX6a := Pin.Aside.mk HX6
    clear HX6
    go_wp2_with fail
    refine (HWZ.out _).mono ?_
    rintro x w7 ⟨rfl, hb⟩
    have HR7 := Pin.Aside.mk (HR6.out.below hb)
    have HX7 := HX6a.out.keep (Keep.of_below hb fun _ q _ => q : Keep (fun _ => False) w6 w7) id
    have HB7 := Pin.Aside.mk (HB6.out.trans (hb.mono HB6.out.size))
    clear hb HR6 HX6a HB6
    have c14 := HX7.cell 14 (.string g) rfl
    have f14 := HX7.fr 14
    have hk8 := (Keep.refl (fun j => j = E) w7).setCell (p := ⟨E, 14, none⟩) (.inl rfl) (.string VZ)
    have HX8 := HX7.set (y := opG VZ 12 13) (i := 14) (v := .string VZ) (by decide) rfl
    have HR8 := Pin.Aside.mk (HR7.out.keepB hk8 hG4E)
    have HB8 := Pin.Aside.mk (HB7.out.trans (hk8.below HB7.out.size (by rintro j rfl; exact hEw)))
    clear hk8 HR7 HB7
    go_upto_region 15 with fail
    clear c14 f14 HX7
    generalize w7.setCell ⟨E, 14, none⟩ (.string VZ) = w8 at *
    have c0 := HX8.cell 0 (.int .u64 0) rfl
    have c1 := HX8.cell 1 (.int .u64 0) rfl
    have c2 := HX8.cell 2 (.int .i64 100) rfl
    have c3 := HX8.cell 3 (.int .u64 0) rfl
    have c4 := HX8.cell 4 (.int .u64 0) rfl
    have c5 := HX8.cell 5 (.int .u64 0) rfl
    have c6 := HX8.cell 6 (.int .u64 1) rfl
    have c7 := HX8.cell 7 (.int .i64 0) rfl
    have c8 := HX8.cell 8 (.int .i64 0) rfl
    have c9 := HX8.cell 9 (.string ⟨#[]⟩) rfl
    have c10 := HX8.cell 10 (.string ⟨#[]⟩) rfl
    have c11 := HX8.cell 11 (.int .u64 12) rfl
    have c12 := HX8.cell 12 (.int .u64 13) rfl
    have c13 := HX8.cell 13 (.int .i64 0) rfl
    have c14 := HX8.cell 14 (.string VZ) rfl
    have hka := (Keep.refl (fun _ => False) w8).alloc (.cells #[.int .u64 0, .int .u64 0, .int .i64 100, .int .u64 0, .int .u64 0, .int .u64 0, .int .u64 1, .int .i64 0, .int .i64 0, .string ⟨#[]⟩, .string ⟨#[]⟩, .int .u64 12, .int .u64 13, .int .i64 0, .string VZ] 33)
    have hown : hRow (w8.alloc (.cells #[.int .u64 0, .int .u64 0, .int .i64 100, .int .u64 0, .int .u64 0, .int .u64 0, .int .u64 1, .int .i64 0, .int .i64 0, .string ⟨#[]⟩, .string ⟨#[]⟩, .int .u64 12, .int .u64 13, .int .i64 0, .string VZ] 33)) w.heap.size (.slice (some ⟨G4, 0, none⟩) 3 cap) (firstL S g 0) := HR8.out.keep hka fun _ _ _ => id
    have hnew : (w8.alloc (.cells #[.int .u64 0, .int .u64 0, .int .i64 100, .int .u64 0, .int .u64 0, .int .u64 0, .int .u64 1, .int .i64 0, .int .i64 0, .string ⟨#[]⟩, .string ⟨#[]⟩, .int .u64 12, .int .u64 13, .int .i64 0, .string VZ] 33)).heap[w8.heap.size]? = some (.cells #[.int .u64 0, .int .u64 0, .int .i64 100, .int .u64 0, .int .u64 0, .int .u64 0, .int .u64 1, .int .i64 0, .int .i64 0, .string ⟨#[]⟩, .string ⟨#[]⟩, .int .u64 12, .int .u64 13, .int .i64 0, .string VZ] 33) := Go.heap_alloc_new w8 _
    have hbs := HB8.out.size
    have HXa := HX8.keep hka id
    have hEl := HX8.lt
    unfold hRow at hown
    go_wp2_with (at_builtin; refine wpList_append_lies _ rfl _ _ _ rfl w.heap.size 33 i0 _ 15 144 Tryd.underlying24 hif hz0 hzs hzb rfl (by omega) _ 3 (hFlat (firstL S g 0)) rfl hown ⟨w8.heap.size, 0, none⟩ 1 1 (opG VZ 12 13).cells.toList rfl rfl (World.news_of_block (cs := #[.int .u64 0, .int .u64 0, .int .i64 100, .int .u64 0, .int .u64 0, .int .u64 0, .int .u64 1, .int .i64 0, .int .i64 0, .string ⟨#[]⟩, .string ⟨#[]⟩, .int .u64 12, .int .u64 13, .int .i64 0, .string VZ]) (t := 33) (fr := (0, 0)) hnew) (hCells_one (opG VZ 12 13)) (by omega) (by unfold maxLen; omega) (by omega) (by simp; omega) _ rfl ?_)
    intro G9 cap9 w9 hown4 hgrow hat hlt4
    have HX9 := HXa.keep (keep_grownBy hgrow) (fun q => by injection q with q; exact hG4E q)
    have HR9 : Pin.Aside (hRow w9 w.heap.size (.slice (some ⟨G9, 0, none⟩) 4 cap9) (firstL S g 0 ++ [opG VZ 12 13])) := Pin.Aside.mk (hRow.snoc (L := (firstL S g 0)) (x := (opG VZ 12 13)) rfl hown4)
    have HB9 := Pin.Aside.mk ((HB8.out.trans (hka.below HB8.out.size fun _ q => q.elim)).grown hgrow (by simp; omega) (fun k hk => (World.ownsRow.lt hown k hk).1))
    have hG9E : ¬ G9 = E := by
      rcases hat with q | q
      · have q' : some G4 = some G9 := q
        injection q' with q'
        omega
      · omega
    clear hown hnew hown4 hgrow hat hka HR8 HB8 hbs HXa hEl hlt4 HX8
    clear c0 c1 c2 c3 c4 c5 c6 c7 c8 c9 c10 c11 c12 c13 c14
    have HLst : Pin.Aside (firstL S g 0 ++ [opG VZ 12 13] = backL S g 0) := Pin.Aside.mk (by rw [← HVZ.out]; rfl)
    rw [HLst.out] at HR9
    have HL2 := Pin.Aside.mk (hi_legal (backL S g 0) (by show (4 : Nat) ≤ 1000; decide) (back_ok0 S g hzS (by omega)) (some ⟨G9, 0, none⟩) cap9 w9 HR9.out.ops (itoa_small _ (by show (4 : Nat) ≤ 6; decide) _ _))
    rw [back_order0 S g hzS, show (backL S g 0).length = 4 from rfl] at HL2
    clear HX9
    go_wp2_with fail
    refine HL2.out.mono ?_
    rintro x w10 ⟨rfl, hb⟩
    have HB := Pin.Aside.mk (HB9.out.trans (hb.mono HB9.out.size))
    clear hb HL2 HR9 HB9
    obtain ⟨b2, hb2⟩ : ∃ b, decide (g = hWhole bz) = b := ⟨_, rfl⟩
    rw [hb2]
    have HB2 := Pin.Aside.mk hb2
    clear hb2
    rw [HVS.out, HVZ.out] at HB1
    rw [HVZ.out] at HB2
    clear HWU hcS hms hg64
    have hse := str_beq
    by_cases hS : g = VS
    · have q1 : b1 = true := by rw [← HB1.out]; exact decide_eq_true (.inl hS)
      have d1 : decide (g = VS) = true := decide_eq_true hS
      by_cases hZ : g = VZ
      · have q2 : b2 = true := by rw [← HB2.out]; exact decide_eq_true hZ
        have d2 : decide (g = VZ) = true := decide_eq_true hZ
        subst q1 q2
        clear hS hZ
        go_wp2_with fail
        repeat (first | (with_reducible refine (HWS.out _).mono ?_; rintro x wn ⟨rfl, hb⟩; replace HB := Pin.Aside.mk (HB.out.trans (hb.mono HB.out.size)); clear hb; go_wp2_with fail) | (with_reducible refine (HWZ.out _).mono ?_; rintro x wn ⟨rfl, hb⟩; replace HB := Pin.Aside.mk (HB.out.trans (hb.mono HB.out.size)); clear hb; go_wp2_with fail))
        go_ret
        exact ⟨rfl, HB.out⟩
      · have q2 : b2 = false := by rw [← HB2.out]; exact decide_eq_false hZ
        have d2 : decide (g = VZ) = false := decide_eq_false hZ
        subst q1 q2
        clear hS hZ
        go_wp2_with fail
        repeat (first | (with_reducible refine (HWS.out _).mono ?_; rintro x wn ⟨rfl, hb⟩; replace HB := Pin.Aside.mk (HB.out.trans (hb.mono HB.out.size)); clear hb; go_wp2_with fail) | (with_reducible refine (HWZ.out _).mono ?_; rintro x wn ⟨rfl, hb⟩; replace HB := Pin.Aside.mk (HB.out.trans (hb.mono HB.out.size)); clear hb; go_wp2_with fail))
        go_ret
        exact ⟨rfl, HB.out⟩
    · have d1 : decide (g = VS) = false := decide_eq_false hS
      by_cases hZ : g = VZ
      · have q1 : b1 = true := by rw [← HB1.out]; exact decide_eq_true (.inr hZ)
        have q2 : b2 = true := by rw [← HB2.out]; exact decide_eq_true hZ
        have d2 : decide (g = VZ) = true := decide_eq_true hZ
        subst q1 q2
        clear hS hZ
        go_wp2_with fail
        repeat (first | (with_reducible refine (HWS.out _).mono ?_; rintro x wn ⟨rfl, hb⟩; replace HB := Pin.Aside.mk (HB.out.trans (hb.mono HB.out.size)); clear hb; go_wp2_with fail) | (with_reducible refine (HWZ.out _).mono ?_; rintro x wn ⟨rfl, hb⟩; replace HB := Pin.Aside.mk (HB.out.trans (hb.mono HB.out.size)); clear hb; go_wp2_with fail))
        go_ret
        exact ⟨rfl, HB.out⟩
      · have q1 : b1 = false := by rw [← HB1.out]; exact decide_eq_false (by rintro (h | h) <;> contradiction)
        have q2 : b2 = false := by rw [← HB2.out]; exact decide_eq_false hZ
        have d2 : decide (g = VZ) = false := decide_eq_false hZ
        subst q1 q2
        clear hS hZ
        go_wp2_with fail
        repeat (first | (with_reducible refine (HWS.out _).mono ?_; rintro x wn ⟨rfl, hb⟩; replace HB := Pin.Aside.mk (HB.out.trans (hb.mono HB.out.size)); clear hb; go_wp2_with fail) | (with_reducible refine (HWZ.out _).mono ?_; rintro x wn ⟨rfl, hb⟩; replace HB := Pin.Aside.mk (HB.out.trans (hb.mono HB.out.size)); clear hb; go_wp2_with fail))
        go_ret
        exact ⟨rfl, HB.out⟩
theorem historyLost_walk (s u : ByteArray) (k : Int) (b : Bool) (hs : s.size ≤ 140737488351232) (hu : u.size ≤ 140737488351232) (hk : 0 ≤ k ∧ k ≤ 255) (w : World) :
    Calls Tryd.prog 6 #[.string s, .string u, .int .u8 k, .bool b] w fun x w' => x = .returned (.bool true) ∧ Below w.heap.size w w' := by
  cases b
  · exact historyLost_false s u k hs hu hk w
  · exact historyLost_true s u k hs hu hk w
end Go.Proofs.YtnilfjkodlmenaaDoor
