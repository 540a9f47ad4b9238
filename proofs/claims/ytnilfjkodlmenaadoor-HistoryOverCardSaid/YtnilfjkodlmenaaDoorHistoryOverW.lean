/- HistoryOver: walk. -/
import Derived.Test.YtnilfjkodlmenaaDoorHistoryOverM
import Derived.Test.YtnilfjkodlmenaaDoorHiY
import Derived.BigQuiet
import Derived.Deep.AppendLies
import Derived.Deep.CutBlock
set_option maxRecDepth 16000
namespace Go.Pin
theorem right_late (s t g : ByteArray) (hs : s.size ≤ 64) (ht : t.size ≤ 64) : hRight (lateL s t g) = true := by
  unfold hRight lateL
  rw [Bool.and_eq_true]
  refine ⟨decide_eq_true (show (4 : Nat) ≤ 10 by decide), ?_⟩
  rw [List.all_eq_true]
  intro x hx
  have hb : ∀ o : HOp, hKnown o.e.kind = true → o.e.data.size ≤ 64 → o.e.old.size ≤ 64 → o.start < o.stop → (!hBad o) = true := fun o h1 h2 h3 h4 => by
    unfold hBad
    rw [h1, decide_eq_false (by omega : ¬ 64 < o.e.data.size), decide_eq_false (by omega : ¬ 64 < o.e.old.size), decide_eq_false (by omega : ¬ o.stop ≤ o.start), Bool.and_false]
    rfl
  rcases List.mem_cons.1 hx with rfl | hx
  · exact hb _ rfl (by decide) (by decide) (by decide)
  rcases List.mem_cons.1 hx with rfl | hx
  · exact hb _ rfl hs (by show (0 : Nat) ≤ 64; decide) (by show (3 : Int) < 9; decide)
  rcases List.mem_cons.1 hx with rfl | hx
  · exact hb _ rfl ht (by show (0 : Nat) ≤ 64; decide) (by show (4 : Int) < 8; decide)
  rcases List.mem_cons.1 hx with rfl | hx
  · exact hb _ rfl (by show (0 : Nat) ≤ 64; decide) (by show (0 : Nat) ≤ 64; decide) (by show (10 : Int) < 11; decide)
  cases hx
theorem right_while (s t g : ByteArray) (hs : s.size ≤ 64) (ht : t.size ≤ 64) : hRight (whileL s t g) = true := by
  unfold hRight whileL
  rw [Bool.and_eq_true]
  refine ⟨decide_eq_true (show (4 : Nat) ≤ 10 by decide), ?_⟩
  rw [List.all_eq_true]
  intro x hx
  have hb : ∀ o : HOp, hKnown o.e.kind = true → o.e.data.size ≤ 64 → o.e.old.size ≤ 64 → o.start < o.stop → (!hBad o) = true := fun o h1 h2 h3 h4 => by
    unfold hBad
    rw [h1, decide_eq_false (by omega : ¬ 64 < o.e.data.size), decide_eq_false (by omega : ¬ 64 < o.e.old.size), decide_eq_false (by omega : ¬ o.stop ≤ o.start), Bool.and_false]
    rfl
  rcases List.mem_cons.1 hx with rfl | hx
  · exact hb _ rfl (by decide) (by decide) (by decide)
  rcases List.mem_cons.1 hx with rfl | hx
  · exact hb _ rfl hs (by show (0 : Nat) ≤ 64; decide) (by show (3 : Int) < 9; decide)
  rcases List.mem_cons.1 hx with rfl | hx
  · exact hb _ rfl ht (by show (0 : Nat) ≤ 64; decide) (by show (4 : Int) < 8; decide)
  rcases List.mem_cons.1 hx with rfl | hx
  · exact hb _ rfl (by show (0 : Nat) ≤ 64; decide) (by show (0 : Nat) ≤ 64; decide) (by show (5 : Int) < 6; decide)
  cases hx
theorem late_order (s t g : ByteArray) (hs : s.size ≤ 64) (ht : t.size ≤ 64) : (hOrder (lateL s t g)).isSome = decide (g = hWhole s ∨ g = hWhole t) := by
  unfold hOrder
  rw [if_pos (right_late s t g hs ht)]
  exact late_some s t g hs ht
theorem while_order (s t g : ByteArray) (hs : s.size ≤ 64) (ht : t.size ≤ 64) : (hOrder (whileL s t g)).isSome = decide (g = hWhole s ∨ g = hWhole t ∨ g = hWhole bz) := by
  unfold hOrder
  rw [if_pos (right_while s t g hs ht)]
  exact while_some s t g hs ht
theorem late_ok (s t g : ByteArray) (hs : s.size ≤ 64) (ht : t.size ≤ 64) (hg : g.size ≤ 64) : ∀ x ∈ lateL s t g, x.ok := by
  intro x hx
  rcases List.mem_cons.1 hx with rfl | hx
  · exact ok_R (by decide) (by decide)
  rcases List.mem_cons.1 hx with rfl | hx
  · exact ok_W (by omega) (by decide) (by decide)
  rcases List.mem_cons.1 hx with rfl | hx
  · exact ok_W (by omega) (by decide) (by decide)
  rcases List.mem_cons.1 hx with rfl | hx
  · exact ok_G (by omega) (by decide) (by decide)
  cases hx
theorem while_ok (s t g : ByteArray) (hs : s.size ≤ 64) (ht : t.size ≤ 64) (hg : g.size ≤ 64) : ∀ x ∈ whileL s t g, x.ok := by
  intro x hx
  rcases List.mem_cons.1 hx with rfl | hx
  · exact ok_R (by decide) (by decide)
  rcases List.mem_cons.1 hx with rfl | hx
  · exact ok_W (by omega) (by decide) (by decide)
  rcases List.mem_cons.1 hx with rfl | hx
  · exact ok_W (by omega) (by decide) (by decide)
  rcases List.mem_cons.1 hx with rfl | hx
  · exact ok_G (by omega) (by decide) (by decide)
  cases hx
end Go.Pin
namespace Go.Proofs.YtnilfjkodlmenaaDoor
open Go.RowKit Go.Pin
set_option linter.unusedVariables false
set_option linter.unusedSimpArgs false
set_option maxHeartbeats 6400000 in
theorem historyOver_walk (s t u : ByteArray) (k : Int) (hs : s.size ≤ 140737488351232) (ht : t.size ≤ 140737488351232) (hu : u.size ≤ 140737488351232) (hk : 0 ≤ k ∧ k ≤ 255) (w : World) :
    Calls Tryd.prog 5 #[.string s, .string t, .string u, .int .u8 k] w fun x w' => x = .returned (.bool true) ∧ Below w.heap.size w w' := by
  obtain ⟨ms, hms, hms1, hms2⟩ : ∃ m : Nat, min (s.size : Int) 64 = (m : Int) ∧ m ≤ 64 ∧ m ≤ s.size := ⟨min s.size 64, by omega, by omega, by omega⟩
  obtain ⟨mt, hmt, hmt1, hmt2⟩ : ∃ m : Nat, min (t.size : Int) 64 = (m : Int) ∧ m ≤ 64 ∧ m ≤ t.size := ⟨min t.size 64, by omega, by omega, by omega⟩
  obtain ⟨S, hcS, hzS⟩ : ∃ X, s.extract 0 ms = X ∧ X.size ≤ 64 := ⟨_, rfl, by rw [ByteArray.size_extract]; omega⟩
  obtain ⟨T, hcT, hzT⟩ : ∃ X, t.extract 0 mt = X ∧ X.size ≤ 64 := ⟨_, rfl, by rw [ByteArray.size_extract]; omega⟩
  have HE := Pin.Aside.mk (fun W => law21_examples W)
  have HWS := Pin.Aside.mk (fun W => law21_whole S (by omega) W)
  have HWT := Pin.Aside.mk (fun W => law21_whole T (by omega) W)
  have HWU := Pin.Aside.mk (fun W => law21_whole u hu W)
  have HWZ := Pin.Aside.mk (fun W => law21_whole ⟨#[]⟩ (by decide) W)
  obtain ⟨q, hq, hq0, hq4⟩ : ∃ q : Int, k % 4 = q ∧ 0 ≤ q ∧ q < 4 := ⟨_, rfl, by omega, by omega⟩
  have hqt : Int.tmod k 4 = q := by rw [Int.tmod_eq_emod_of_nonneg hk.1]; exact hq
  have HB := Pin.Aside.mk (Below.refl w.heap.size w)
  go_enter Tryd.func5, Tryd.ntmps5
  go_wp2_with fail
  refine (HE.out _).mono ?_
  rintro x w1 ⟨rfl, hb⟩
  replace HB := Pin.Aside.mk (HB.out.trans (hb.mono HB.out.size))
  clear hb HE
  have hR : hRow (w1.alloc (.cells #[.int .u64 0, .int .u64 0, .int .i64 3, .int .u64 0, .int .u64 0, .int .u64 0, .int .u64 1, .int .i64 0, .int .i64 0, .string ⟨#[]⟩, .string ⟨#[]⟩, .int .u64 1, .int .u64 2, .int .i64 0, .string ⟨#[]⟩, .int .u64 0, .int .u64 0, .int .i64 1, .int .u64 0, .int .u64 0, .int .u64 0, .int .u64 0, .int .i64 0, .int .i64 0, .string S, .string ⟨#[]⟩, .int .u64 3, .int .u64 9, .int .i64 0, .string ⟨#[]⟩, .int .u64 0, .int .u64 0, .int .i64 1, .int .u64 0, .int .u64 0, .int .u64 0, .int .u64 0, .int .i64 0, .int .i64 0, .string T, .string ⟨#[]⟩, .int .u64 4, .int .u64 8, .int .i64 0, .string ⟨#[]⟩] 33)) w.heap.size (.slice (some ⟨w1.heap.size, 0, none⟩) 3 3) [opR 1 2, opW S 3 9, opW T 4 8] := hRow.made w1 w.heap.size [opR 1 2, opW S 3 9, opW T 4 8] HB.out.size (by show (3 : Nat) ≤ maxLen; unfold maxLen; omega)
  have hka := (Keep.refl (fun _ => False) w1).alloc (.cells #[.int .u64 0, .int .u64 0, .int .i64 3, .int .u64 0, .int .u64 0, .int .u64 0, .int .u64 1, .int .i64 0, .int .i64 0, .string ⟨#[]⟩, .string ⟨#[]⟩, .int .u64 1, .int .u64 2, .int .i64 0, .string ⟨#[]⟩, .int .u64 0, .int .u64 0, .int .i64 1, .int .u64 0, .int .u64 0, .int .u64 0, .int .u64 0, .int .i64 0, .int .i64 0, .string S, .string ⟨#[]⟩, .int .u64 3, .int .u64 9, .int .i64 0, .string ⟨#[]⟩, .int .u64 0, .int .u64 0, .int .i64 1, .int .u64 0, .int .u64 0, .int .u64 0, .int .u64 0, .int .i64 0, .int .i64 0, .string T, .string ⟨#[]⟩, .int .u64 4, .int .u64 8, .int .i64 0, .string ⟨#[]⟩] 33)
  go_upto_region 7 with fail
  generalize w1.alloc (.cells #[.int .u64 0, .int .u64 0, .int .i64 3, .int .u64 0, .int .u64 0, .int .u64 0, .int .u64 1, .int .i64 0, .int .i64 0, .string ⟨#[]⟩, .string ⟨#[]⟩, .int .u64 1, .int .u64 2, .int .i64 0, .string ⟨#[]⟩, .int .u64 0, .int .u64 0, .int .i64 1, .int .u64 0, .int .u64 0, .int .u64 0, .int .u64 0, .int .i64 0, .int .i64 0, .string S, .string ⟨#[]⟩, .int .u64 3, .int .u64 9, .int .i64 0, .string ⟨#[]⟩, .int .u64 0, .int .u64 0, .int .i64 1, .int .u64 0, .int .u64 0, .int .u64 0, .int .u64 0, .int .i64 0, .int .i64 0, .string T, .string ⟨#[]⟩, .int .u64 4, .int .u64 8, .int .i64 0, .string ⟨#[]⟩] 33) = w2 at *
  replace HB := Pin.Aside.mk (HB.out.trans (hka.below HB.out.size fun _ q => q.elim))
  have HR := Pin.Aside.mk hR
  clear hka hR
  generalize w1.heap.size = G at *
  go_cut [11] (fun v wx => ∃ g, v = .string g ∧ Pin.Aside (g.size = 64) ∧ Pin.Aside (hRow wx w.heap.size (.slice (some ⟨G, 0, none⟩) 3 3) [opR 1 2, opW S 3 9, opW T 4 8]) ∧ Pin.Aside (Below w.heap.size w wx))
  case first =>
    go_wp2_with fail
    refine (HWS.out _).mono ?_
    rintro x wn ⟨rfl, hb⟩
    replace HR := Pin.Aside.mk (HR.out.below hb)
    replace HB := Pin.Aside.mk (HB.out.trans (hb.mono HB.out.size))
    clear hb
    go_wp2_with fail
    refine (HWT.out _).mono ?_
    rintro x wn ⟨rfl, hb⟩
    replace HR := Pin.Aside.mk (HR.out.below hb)
    replace HB := Pin.Aside.mk (HB.out.trans (hb.mono HB.out.size))
    clear hb
    go_wp2_with fail
    refine (HWZ.out _).mono ?_
    rintro x wn ⟨rfl, hb⟩
    replace HR := Pin.Aside.mk (HR.out.below hb)
    replace HB := Pin.Aside.mk (HB.out.trans (hb.mono HB.out.size))
    clear hb
    go_wp2_with fail
    refine (HWU.out _).mono ?_
    rintro x wn ⟨rfl, hb⟩
    replace HR := Pin.Aside.mk (HR.out.below hb)
    replace HB := Pin.Aside.mk (HB.out.trans (hb.mono HB.out.size))
    clear hb
    have hka := fun L => (Keep.refl (fun _ => False) wn).alloc (.cells L 9)
    have HR' := Pin.Aside.mk (fun L => HR.out.keep (hka L) fun _ _ _ => id)
    have HB' := Pin.Aside.mk (fun L => HB.out.trans ((hka L).below HB.out.size fun _ q => q.elim))
    have hsS := Pin.Aside.mk (hCut_size S)
    have hsT := Pin.Aside.mk (hCut_size T)
    have hsZ := Pin.Aside.mk (hCut_size ⟨#[]⟩)
    have hsU := Pin.Aside.mk (hCut_size u)
    clear hka
    have hq5 : q = 0 ∨ q = 1 ∨ q = 2 ∨ q = 3 := by omega
    clear hq
    rcases hq5 with rfl | rfl | rfl | rfl
    · go_wp2_with fail
      go_meet
      exact ⟨_, rfl, hsS, Pin.Aside.mk (HR'.out _), Pin.Aside.mk (HB'.out _)⟩
    · go_wp2_with fail
      go_meet
      exact ⟨_, rfl, hsT, Pin.Aside.mk (HR'.out _), Pin.Aside.mk (HB'.out _)⟩
    · go_wp2_with fail
      go_meet
      exact ⟨_, rfl, hsZ, Pin.Aside.mk (HR'.out _), Pin.Aside.mk (HB'.out _)⟩
    · go_wp2_with fail
      go_meet
      exact ⟨_, rfl, hsU, Pin.Aside.mk (HR'.out _), Pin.Aside.mk (HB'.out _)⟩
  case rest =>
    clear HR HB
    obtain ⟨g, rfl, HG, HR, HB⟩ := hcut
    obtain ⟨i0, hif, hz0, hzs, hzb⟩ := info_parts op_info
    have hka := (Keep.refl (fun _ => False) wc).alloc (.cells #[.int .u64 0, .int .u64 0, .int .i64 100, .int .u64 0, .int .u64 0, .int .u64 0, .int .u64 1, .int .i64 0, .int .i64 0, .string ⟨#[]⟩, .string ⟨#[]⟩, .int .u64 10, .int .u64 11, .int .i64 0, .string g] 33)
    have hown : hRow (wc.alloc (.cells #[.int .u64 0, .int .u64 0, .int .i64 100, .int .u64 0, .int .u64 0, .int .u64 0, .int .u64 1, .int .i64 0, .int .i64 0, .string ⟨#[]⟩, .string ⟨#[]⟩, .int .u64 10, .int .u64 11, .int .i64 0, .string g] 33)) w.heap.size (.slice (some ⟨G, 0, none⟩) 3 3) [opR 1 2, opW S 3 9, opW T 4 8] := HR.out.keep hka fun _ _ _ => id
    have hnew : (wc.alloc (.cells #[.int .u64 0, .int .u64 0, .int .i64 100, .int .u64 0, .int .u64 0, .int .u64 0, .int .u64 1, .int .i64 0, .int .i64 0, .string ⟨#[]⟩, .string ⟨#[]⟩, .int .u64 10, .int .u64 11, .int .i64 0, .string g] 33)).heap[wc.heap.size]? = some (.cells #[.int .u64 0, .int .u64 0, .int .i64 100, .int .u64 0, .int .u64 0, .int .u64 0, .int .u64 1, .int .i64 0, .int .i64 0, .string ⟨#[]⟩, .string ⟨#[]⟩, .int .u64 10, .int .u64 11, .int .i64 0, .string g] 33) := Go.heap_alloc_new wc _
    have hbs := HB.out.size
    unfold hRow at hown
    go_upto_region 8 with fail
    go_wp2_with (at_builtin; refine wpList_append_lies _ rfl _ _ _ rfl w.heap.size 33 i0 _ 15 144 Tryd.underlying24 hif hz0 hzs hzb rfl (by omega) _ 3 (hFlat [opR 1 2, opW S 3 9, opW T 4 8]) rfl hown ⟨wc.heap.size, 0, none⟩ 1 1 (opG g 10 11).cells.toList rfl rfl (World.news_of_block (cs := #[.int .u64 0, .int .u64 0, .int .i64 100, .int .u64 0, .int .u64 0, .int .u64 0, .int .u64 1, .int .i64 0, .int .i64 0, .string ⟨#[]⟩, .string ⟨#[]⟩, .int .u64 10, .int .u64 11, .int .i64 0, .string g]) (t := 33) (fr := (0, 0)) hnew) (hCells_one (opG g 10 11)) (by omega) (by unfold maxLen; omega) (by omega) (by simp; omega) _ rfl ?_)
    intro G4 cap w4 hown4 hgrow hat hlt4
    have HR4 : Pin.Aside (hRow w4 w.heap.size (.slice (some ⟨G4, 0, none⟩) 4 cap) (lateL S T g)) := Pin.Aside.mk (hRow.snoc (L := [opR 1 2, opW S 3 9, opW T 4 8]) (x := opG g 10 11) rfl hown4)
    have HB4 := Pin.Aside.mk ((HB.out.trans (hka.below HB.out.size fun _ q => q.elim)).grown hgrow (by simp; omega) (fun k hk => (World.ownsRow.lt hown k hk).1))
    clear hown hnew hown4 hgrow hat hka HR HB hbs
    have hg64 := HG.out
    have HL1 := Pin.Aside.mk (hi_legal (lateL S T g) (by show (4 : Nat) ≤ 1000; decide) (late_ok S T g hzS hzT (by omega)) (some ⟨G4, 0, none⟩) cap w4 HR4.out.ops (itoa_small _ (by show (4 : Nat) ≤ 6; decide) _ _))
    rw [late_order S T g hzS hzT, show (lateL S T g).length = 4 from rfl] at HL1
    go_wp2_with fail
    refine HL1.out.mono ?_
    rintro x w5 ⟨rfl, hb⟩
    have HR5 := HR4.out.below hb
    replace HB4 := Pin.Aside.mk (HB4.out.trans (hb.mono HB4.out.size))
    clear hb HL1 HR4
    obtain ⟨b1, hb1⟩ : ∃ b, decide (g = hWhole S ∨ g = hWhole T) = b := ⟨_, rfl⟩
    rw [hb1]
    have HB1 := Pin.Aside.mk hb1
    clear hb1
    have hf56 := HR5.there rfl 56
    have hf57 := HR5.there rfl 57
    have h56 : w5.cell? ⟨G4, 56, none⟩ = some (.int .u64 10) := by have := World.ownsRow.cellAt HR5 56 (by show 56 < 4 * 15; omega); rw [this]; rfl
    have h57 : w5.cell? ⟨G4, 57, none⟩ = some (.int .u64 11) := by have := World.ownsRow.cellAt HR5 57 (by show 57 < 4 * 15; omega); rw [this]; rfl
    have HR6 := Pin.Aside.mk (HR5.store rfl (j := 3) (i := 11) (x := opG g 10 11) (y := opG g 5 11) (v := .int .u64 5) rfl (by decide) rfl)
    have HR7 := Pin.Aside.mk (HR6.out.store rfl (j := 3) (i := 12) (x := opG g 5 11) (y := opG g 5 6) (v := .int .u64 6) rfl (by decide) rfl)
    have hG4 := HR5.form (by show 0 < (4 : Nat); decide)
    obtain ⟨G5, hG5, hn4, hG6, _⟩ := hG4
    clear hn4
    injection hG5 with hG5
    injection hG5 with hG5
    subst hG5
    have HB7 := Pin.Aside.mk (HB4.out.trans ((((Keep.refl (fun j => j = G4) w5).setCell (p := ⟨G4, 56, none⟩) (.inl rfl) (.int .u64 5)).setCell (p := ⟨G4, 57, none⟩) (.inl rfl) (.int .u64 6)).below HB4.out.size (by rintro j rfl; exact hG6)))
    clear HR5 HR6 HB4 hG6
    go_upto_region 12 with fail
    generalize (w5.setCell ⟨G4, 56, none⟩ (.int .u64 5)).setCell ⟨G4, 57, none⟩ (.int .u64 6) = w7 at *
    clear hf56 hf57 h56 h57
    have HR8 : Pin.Aside (hRow w7 w.heap.size (.slice (some ⟨G4, 0, none⟩) 4 cap) (whileL S T g)) := Pin.Aside.mk HR7.out
    have HL2 := Pin.Aside.mk (hi_legal (whileL S T g) (by show (4 : Nat) ≤ 1000; decide) (while_ok S T g hzS hzT (by omega)) (some ⟨G4, 0, none⟩) cap w7 HR8.out.ops (itoa_small _ (by show (4 : Nat) ≤ 6; decide) _ _))
    rw [while_order S T g hzS hzT, show (whileL S T g).length = 4 from rfl] at HL2
    go_wp2_with fail
    refine HL2.out.mono ?_
    rintro x w8 ⟨rfl, hb⟩
    have HB := Pin.Aside.mk (HB7.out.trans (hb.mono HB7.out.size))
    clear hb HL2 HR8 HR7 HB7
    obtain ⟨b2, hb2⟩ : ∃ b, decide (g = hWhole S ∨ g = hWhole T ∨ g = hWhole bz) = b := ⟨_, rfl⟩
    rw [hb2]
    have HB2 := Pin.Aside.mk hb2
    clear hb2
    have e1 := hCut_eq S hzS
    have e2 := hCut_eq T hzT
    have e3 := hCut_eq ⟨#[]⟩ (by decide)
    rw [e1] at HWS
    rw [e2] at HWT
    rw [e3] at HWZ
    obtain ⟨VS, hVS⟩ : ∃ V, hWhole S = V := ⟨_, rfl⟩
    obtain ⟨VT, hVT⟩ : ∃ V, hWhole T = V := ⟨_, rfl⟩
    obtain ⟨VZ, hVZ⟩ : ∃ V, hWhole ⟨#[]⟩ = V := ⟨_, rfl⟩
    rw [hVS] at HWS HB1 HB2
    rw [hVT] at HWT HB1 HB2
    rw [hVZ] at HWZ HB2
    clear e1 e2 e3 hVS hVT hVZ HWU hcS hcT hms hmt hg64
    have hse := str_beq
    by_cases hS : g = VS
    · have q1 : b1 = true := by rw [← HB1.out]; exact decide_eq_true (.inl hS)
      have q2 : b2 = true := by rw [← HB2.out]; exact decide_eq_true (.inl hS)
      subst q1 q2
      have d1 : decide (g = VS) = true := decide_eq_true hS
      clear hS
      go_wp2_with fail
      repeat (first | (with_reducible refine (HWS.out _).mono ?_; rintro x wn ⟨rfl, hb⟩; replace HB := Pin.Aside.mk (HB.out.trans (hb.mono HB.out.size)); clear hb; go_wp2_with fail) | (with_reducible refine (HWT.out _).mono ?_; rintro x wn ⟨rfl, hb⟩; replace HB := Pin.Aside.mk (HB.out.trans (hb.mono HB.out.size)); clear hb; go_wp2_with fail) | (with_reducible refine (HWZ.out _).mono ?_; rintro x wn ⟨rfl, hb⟩; replace HB := Pin.Aside.mk (HB.out.trans (hb.mono HB.out.size)); clear hb; go_wp2_with fail))
      go_ret
      exact ⟨rfl, HB.out⟩
    · have d1 : decide (g = VS) = false := decide_eq_false hS
      by_cases hT : g = VT
      · have q1 : b1 = true := by rw [← HB1.out]; exact decide_eq_true (.inr hT)
        have q2 : b2 = true := by rw [← HB2.out]; exact decide_eq_true (.inr (.inl hT))
        subst q1 q2
        have d2 : decide (g = VT) = true := decide_eq_true hT
        clear hT hS
        go_wp2_with fail
        repeat (first | (with_reducible refine (HWS.out _).mono ?_; rintro x wn ⟨rfl, hb⟩; replace HB := Pin.Aside.mk (HB.out.trans (hb.mono HB.out.size)); clear hb; go_wp2_with fail) | (with_reducible refine (HWT.out _).mono ?_; rintro x wn ⟨rfl, hb⟩; replace HB := Pin.Aside.mk (HB.out.trans (hb.mono HB.out.size)); clear hb; go_wp2_with fail) | (with_reducible refine (HWZ.out _).mono ?_; rintro x wn ⟨rfl, hb⟩; replace HB := Pin.Aside.mk (HB.out.trans (hb.mono HB.out.size)); clear hb; go_wp2_with fail))
        go_ret
        exact ⟨rfl, HB.out⟩
      · have d2 : decide (g = VT) = false := decide_eq_false hT
        have q1 : b1 = false := by rw [← HB1.out]; exact decide_eq_false (by rintro (h | h) <;> contradiction)
        by_cases hZ : g = VZ
        · have q2 : b2 = true := by rw [← HB2.out]; exact decide_eq_true (.inr (.inr hZ))
          subst q1 q2
          have d3 : decide (g = VZ) = true := decide_eq_true hZ
          clear hT hS hZ
          go_wp2_with fail
          repeat (first | (with_reducible refine (HWS.out _).mono ?_; rintro x wn ⟨rfl, hb⟩; replace HB := Pin.Aside.mk (HB.out.trans (hb.mono HB.out.size)); clear hb; go_wp2_with fail) | (with_reducible refine (HWT.out _).mono ?_; rintro x wn ⟨rfl, hb⟩; replace HB := Pin.Aside.mk (HB.out.trans (hb.mono HB.out.size)); clear hb; go_wp2_with fail) | (with_reducible refine (HWZ.out _).mono ?_; rintro x wn ⟨rfl, hb⟩; replace HB := Pin.Aside.mk (HB.out.trans (hb.mono HB.out.size)); clear hb; go_wp2_with fail))
          go_ret
          exact ⟨rfl, HB.out⟩
        · have q2 : b2 = false := by rw [← HB2.out]; exact decide_eq_false (by rintro (h | h | h) <;> contradiction)
          subst q1 q2
          have d3 : decide (g = VZ) = false := decide_eq_false hZ
          clear hT hS hZ
          go_wp2_with fail
          repeat (first | (with_reducible refine (HWS.out _).mono ?_; rintro x wn ⟨rfl, hb⟩; replace HB := Pin.Aside.mk (HB.out.trans (hb.mono HB.out.size)); clear hb; go_wp2_with fail) | (with_reducible refine (HWT.out _).mono ?_; rintro x wn ⟨rfl, hb⟩; replace HB := Pin.Aside.mk (HB.out.trans (hb.mono HB.out.size)); clear hb; go_wp2_with fail) | (with_reducible refine (HWZ.out _).mono ?_; rintro x wn ⟨rfl, hb⟩; replace HB := Pin.Aside.mk (HB.out.trans (hb.mono HB.out.size)); clear hb; go_wp2_with fail))
          go_ret
          exact ⟨rfl, HB.out⟩
end Go.Proofs.YtnilfjkodlmenaaDoor
