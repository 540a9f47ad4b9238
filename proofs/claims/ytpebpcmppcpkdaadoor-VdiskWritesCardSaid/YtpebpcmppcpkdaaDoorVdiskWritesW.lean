/- VdiskWrites: its walk. -/
import Derived.Test.YtpebpcmppcpkdaaDoorVdiskWritesM
import Derived.OpenShut
set_option maxRecDepth 16000
namespace Go.Pin
open Go.RowKit
set_option linter.unusedVariables false
set_option linter.unusedSimpArgs false
/-- A row of eight texts. -/
structure Row8 (w : World) (Q : Nat) : Prop where
  cell : ∀ j, j < 8 → ∃ s : ByteArray, w.cell? ⟨Q, j, none⟩ = some (.string s)
  fr : ∀ j, w.frozen? ⟨Q, j, none⟩ = false
theorem Row8.lt {w : World} {Q : Nat} (h : Row8 w Q) : Q < w.heap.size := by
  obtain ⟨s, hs⟩ := h.cell 0 (by decide)
  exact World.block_lt_of_cell? _ _ hs
theorem Row8.keep {S : Nat → Prop} {a w : World} {Q : Nat} (h : Row8 a Q) (hk : Keep S a w) (hn : ¬ S Q) : Row8 w Q :=
  ⟨fun j hj => by obtain ⟨s, hs⟩ := h.cell j hj; exact ⟨s, hk.cell hs hn⟩, fun j => by rw [hk.frozen (p := ⟨Q, j, none⟩) h.lt hn]; exact h.fr j⟩
theorem Row8.set {w : World} {Q : Nat} (h : Row8 w Q) (j : Nat) (s : ByteArray) : Row8 (w.setCell ⟨Q, j, none⟩ (.string s)) Q :=
  ⟨fun i hi => by
    obtain ⟨t, ht⟩ := h.cell i hi
    by_cases e : i = j
    · subst e; exact ⟨s, World.cell?_setCell_same _ _ _ ht⟩
    · exact ⟨t, by rw [World.cell?_setCell_other _ _ _ _ (by simp [e]), ht]⟩, fun i => by rw [World.frozen?_setCell]; exact h.fr i⟩
theorem Keep.frozen_at' {S : Nat → Prop} {a b : World} (h : Keep S a b) {p q : Addr} {v : Value} (hc : a.cell? p = some v) (hq : q.block = p.block) (hn : ¬ S q.block) : b.frozen? q = a.frozen? q :=
  h.frozen (by rw [hq]; exact World.block_lt_of_cell? _ _ hc) hn
theorem run_make_strs {P : Program} (w : World) (t e : TypeId) (i : TypeInfo) (ht : P.underlying t = some (.slice e)) (hi : P.info? e = some i) (hz : i.zero = some (.string ⟨#[]⟩)) (hs : i.size = 1) (hb : i.bytes = 16)
    (n : Nat) (hn : n ≤ 4096) :
    (Instr.makeSlice t (.int .i64 (n : Int)) (.int .i64 (n : Int))).run P w = .ok (.slice (some ⟨w.heap.size, 0, none⟩) n n) (w.alloc (.cells (Array.replicate n (.string ⟨#[]⟩)) e)) := by
  have h := run_make (P := P) w t e i (.string ⟨#[]⟩) ht hi hz .i64 .i64 n n (by omega) (Int.le_refl _) (by rw [hb]; omega) (by omega)
  rw [h, hs]
  have : madeCells (Value.string ⟨#[]⟩).cells ((n : Int).toNat * 1) = Array.replicate n (.string ⟨#[]⟩) := by
    apply Array.ext
    · simp [madeCells]
    · intro j h1 h2
      have hj : j < n := by simpa [madeCells] using h1
      simp [madeCells, Value.cells, Nat.mod_one]
  rw [this]; simp
theorem Row8.made (w : World) (e : TypeId) : Row8 (w.alloc (.cells (Array.replicate 8 (.string ⟨#[]⟩)) e)) w.heap.size :=
  ⟨fun j hj => ⟨⟨#[]⟩, by rw [cell_alloc_row]; simp [hj]⟩, fun j => by simp⟩
end Go.Pin
namespace Go.Proofs.YtpebpcmppcpkdaaDoor
open Go.RowKit Go.Pin
set_option linter.unusedVariables false
set_option linter.unusedSimpArgs false
theorem make_str8 (w : World) : (Instr.makeSlice 32 (.int .i64 8) (.int .i64 8)).run Tryd.prog w = .ok (.slice (some ⟨w.heap.size, 0, none⟩) 8 8) (w.alloc (.cells (Array.replicate 8 (.string ⟨#[]⟩)) 9)) := by
  have hp : (Tryd.prog.info? 9).map (fun i => (i.zero, i.size, i.bytes)) = some (some (.string ⟨#[]⟩), 1, 16) := by kernel_rfl
  obtain ⟨i0, hi, hz0, hz1, hz2⟩ := info_parts hp
  exact run_make_strs (P := Tryd.prog) w 32 9 i0 Tryd.underlying32 hi hz0 hz1 hz2 8 (by omega)
set_option maxHeartbeats 3200000 in
theorem vdiskWrites_walk (s t : ByteArray) (a c : Int) (hs : s.size ≤ 140737488351232) (ht : t.size ≤ 140737488351232) (ha : 0 ≤ a ∧ a ≤ 255) (hc : 0 ≤ c ∧ c ≤ 255) (w : World) :
    Calls Tryd.prog 3 #[.string s, .string t, .int .u8 a, .int .u8 c] w fun e w' => e = .returned (.bool true) ∧ Below w.heap.size w w' := by
  obtain ⟨ms, hms, hms1, hms2⟩ : ∃ m : Nat, min (s.size : Int) 64 = (m : Int) ∧ m ≤ 64 ∧ m ≤ s.size := ⟨min s.size 64, by omega, by omega, by omega⟩
  obtain ⟨S, hcS, hzS⟩ : ∃ X, s.extract 0 ms = X ∧ X.size ≤ 64 := ⟨_, rfl, by rw [ByteArray.size_extract]; omega⟩
  obtain ⟨mt, hmt, hmt1, hmt2⟩ : ∃ m : Nat, min (t.size : Int) 64 = (m : Int) ∧ m ≤ 64 ∧ m ≤ t.size := ⟨min t.size 64, by omega, by omega, by omega⟩
  obtain ⟨T, hcT, hzT⟩ : ∃ X, t.extract 0 mt = X ∧ X.size ≤ 64 := ⟨_, rfl, by rw [ByteArray.size_extract]; omega⟩
  obtain ⟨x, hx, hx1⟩ : ∃ x, a.tmod 10 = x ∧ (0 ≤ x ∧ x < 10) := ⟨_, rfl, by rw [Int.tmod_eq_emod_of_nonneg ha.1]; omega⟩
  obtain ⟨y, hy, hy1⟩ : ∃ y, c.tmod 10 = y ∧ (0 ≤ y ∧ y < 10) := ⟨_, rfl, by rw [Int.tmod_eq_emod_of_nonneg hc.1]; omega⟩
  have hb := Below.refl w.heap.size w
  have hB0 : w.heap.size ≤ w.heap.size := Nat.le_refl _
  generalize hB : w.heap.size = B at hb hB0
  have E0 := Pin.Aside.mk (mk_examples15 w)
  have G0 := Pin.Aside.mk (mk_begun 8 (by decide))
  obtain ⟨D1, D2, D3, p, q, r, h1, h2, h3, ok1, ok2, ok3, hp, hq, hr, hW, hZ⟩ := vd_writes x y S T hx1 hy1 hzS hzT
  have A1 := Pin.Aside.mk (fun b mb mo W (hW : VdAt W b mb mo (vdBegun 8)) => vd_apply b mb mo (vdBegun 8) (enOf 1 1 1 x 0 S noB) (enOf_ok _ _ _ _ _ _ _ (by decide) (by decide) (by decide) (by omega) (by decide) (by omega) (by decide)) (begun_ok 8 (by decide)) W hW)
  have A2 := Pin.Aside.mk (fun b mb mo W (hW : VdAt W b mb mo D1) => vd_apply b mb mo D1 (enOf 1 1 2 y 0 T noB) (enOf_ok _ _ _ _ _ _ _ (by decide) (by decide) (by decide) (by omega) (by decide) (by omega) (by decide)) ok1 W hW)
  have A3 := Pin.Aside.mk (fun b mb mo W (hW : VdAt W b mb mo D2) => vd_apply b mb mo D2 (enOf 2 1 3 y 1 noB noB) (enOf_ok _ _ _ _ _ _ _ (by decide) (by decide) (by decide) (by omega) (by decide) (by decide) (by decide)) ok2 W hW)
  rw [h1] at A1
  rw [h2] at A2
  rw [h3] at A3
  dsimp only [En.cells, Res.val] at A1 A2 A3
  have R0 : Pin.Aside (∀ k : Nat, k < 8 → ∀ b mb mo W, VdAt W b mb mo D2 → Calls Tryd.prog 14 #[.pointer (some ⟨b, 0, none⟩), .int .u64 k, .int .u64 1] W fun e w' => e = .returned (.tuple #[.string (wrWant x y S T k), .int .i64 0]) ∧ Below W.heap.size W w') := Pin.Aside.mk (fun k hk b mb mo W hW' => by
    have := vd_read b mb mo D2 k (by have := ok2.many; omega) (by omega) (ok2.blk _) W hW'
    rw [hW k (by omega) (by omega)] at this
    exact this)
  have R3 : Pin.Aside (∀ b mb mo W, VdAt W b mb mo D3 → Calls Tryd.prog 14 #[.pointer (some ⟨b, 0, none⟩), .int .u64 (min y 7), .int .u64 1] W fun e w' => ∃ Z E, e = .returned (.tuple #[.string Z, .int .i64 E]) ∧ (y < 8 → Z = wholeB noB) ∧ Below W.heap.size W w') := Pin.Aside.mk (fun b mb mo W hW' => by
    refine (vd_read b mb mo D3 (min y 7) (by have := ok3.many; omega) (by omega) (ok3.blk _) W hW').mono ?_
    rintro e w' ⟨rfl, hbb⟩
    refine ⟨_, _, rfl, fun h8 => ?_, hbb⟩
    rw [show min y 7 = y by omega, hZ h8])
  have KN := Pin.Aside.mk (fun W => mk_whole noB (by decide) W)
  have KS := Pin.Aside.mk (fun W => mk_whole S hzS W)
  have KT := Pin.Aside.mk (fun W => mk_whole T hzT W)
  have HQ := Pin.Aside.mk (And.intro hp (And.intro hq hr))
  have HS := Pin.Aside.mk (And.intro hcS hcT)
  clear h1 h2 h3 ok1 ok2 ok3 hW hZ hp hq hr
  have hse := str_beq
  have hmk := make_str8
  go_enter Tryd.func3, Tryd.ntmps3
  go_wp2_with fail
  refine E0.out.mono ?_
  rintro x' w1 ⟨rfl, hbb⟩
  replace hb := hb.trans (by rw [← hB]; exact hbb)
  clear hbb
  go_wp2_with fail
  refine (G0.out _).mono ?_
  rintro x' w2 ⟨b, mb, mo, rfl, hV, hq, hbb⟩
  have HV := Pin.Aside.mk hV
  have hq1 : B ≤ b := Nat.le_trans (by have := hb.size; omega) hq.1
  have hq2 : B ≤ mb := Nat.le_trans (by have := hb.size; omega) hq.2.1
  have hq3 : B ≤ mo := Nat.le_trans (by have := hb.size; omega) hq.2.2
  replace hb := hb.trans (hbb.mono (by have := hb.size; omega))
  clear hV hq hbb
  go_wp2_with fail
  refine (A1.out b mb mo _ HV.out).mono ?_
  rintro x' w3 ⟨rfl, hV2, hk2⟩
  have hka := (Keep.refl (fun _ => False) w3).alloc (.cells #[.int .i64 p.e, .string p.data] 28)
  replace HV := Pin.Aside.mk (hV2.keep' hka)
  have RA0 : (w3.alloc (.cells #[.int .i64 p.e, .string p.data] 28)).cell? ⟨w3.heap.size, 0, none⟩ = some (.int .i64 p.e) := by simp
  have RAL := hV2.lt
  replace hb := (hb.trans (hk2.below (B := B) (by have := hb.size; omega) (by rintro k (q | q | q) <;> omega))).trans (hka.below (B := B) (by have := hb.size; have := hk2.size; omega) fun _ q => q.elim)
  clear hk2 hka hV2
  go_upto_region 12 with fail
  generalize World.alloc w3 _ = w4 at *
  generalize w3.heap.size = RA at *
  clear hcS hcT hms hmt hx hy
  go_wp2_with fail
  refine (A2.out b mb mo _ HV.out).mono ?_
  rintro x' w5 ⟨rfl, hV2, hk2⟩
  have hka := (Keep.refl (fun _ => False) w5).alloc (.cells #[.int .i64 q.e, .string q.data] 28)
  replace HV := Pin.Aside.mk (hV2.keep' hka)
  have RB0 : (w5.alloc (.cells #[.int .i64 q.e, .string q.data] 28)).cell? ⟨w5.heap.size, 0, none⟩ = some (.int .i64 q.e) := by simp
  have RBL := hV2.lt
  replace hb := (hb.trans (hk2.below (B := B) (by have := hb.size; omega) (by rintro k (q | q | q) <;> omega))).trans (hka.below (B := B) (by have := hb.size; have := hk2.size; omega) fun _ q => q.elim)
  replace RA0 := hka.cell (hk2.cell RA0 (by rintro (q | q | q) <;> (dsimp only at q; omega))) id
  clear hk2 hka hV2
  go_upto_region 13 with fail
  generalize World.alloc w5 _ = w6 at *
  generalize w5.heap.size = RB at *
  have hkm := (Keep.refl (fun _ => False) w6).alloc (.cells (Array.replicate 8 (.string ⟨#[]⟩)) 9)
  have HR8 := Pin.Aside.mk (Row8.made w6 9)
  have HVL := HV.out.lt
  have RAB : RA < w6.heap.size ∧ RB < w6.heap.size := ⟨World.block_lt_of_cell? _ _ RA0, World.block_lt_of_cell? _ _ RB0⟩
  replace HV := Pin.Aside.mk (HV.out.keep' hkm)
  replace RA0 := hkm.cell RA0 id
  replace RB0 := hkm.cell RB0 id
  have hQB : B ≤ w6.heap.size := by have := hb.size; omega
  replace hb := hb.trans (hkm.below (B := B) (by have := hb.size; omega) fun _ q => q.elim)
  clear hkm
  go_upto_region 14 with fail
  generalize World.alloc w6 _ = w7 at *
  generalize w6.heap.size = Q at *
  have hb2 := Pin.Aside.mk hb
  clear hb
  have RA1 := Pin.Aside.mk RA0
  have RB1 := Pin.Aside.mk RB0
  clear RA0 RB0 hmk
  go_wp2_with fail
  go_loopw [16] (fun i wr => ∃ k : Nat, k ≤ 8 ∧ i = .int .u64 k ∧ Pin.Aside (Keep (fun j => j = Q) w7 wr) ∧ Pin.Aside (Row8 wr Q)) (fun i _ => 8 - (intOf i).toNat)
  case atStart => exact ⟨0, by omega, rfl, Pin.Aside.mk (Keep.refl _ _), HR8⟩
  case round =>
    clear HR8
    obtain ⟨k, hk8, rfl, HK, HR8⟩ := hrel
    rename_i wr
    by_cases hlt : k < 8
    · have hrd := Pin.Aside.mk (R0.out k hlt)
      obtain ⟨v0, hc0⟩ := HR8.out.cell k hlt
      have hf0 := HR8.out.fr k
      unfold wrWant at hrd
      by_cases ex : (k : Int) = x <;> by_cases ey : (k : Int) = y
      · rw [if_pos ey] at hrd
        have ex' : ((k : Int) == x) = true := by simpa using ex
        have ey' : ((k : Int) == y) = true := by simpa using ey
        clear ex ey
        go_wp2_with fail
        refine (KN.out _).mono ?_
        rintro x' v1 ⟨rfl, hbb⟩
        have hkk : Keep (fun _ => False) _ v1 := Keep.of_below hbb fun _ q _ => q
        replace HK := Pin.Aside.mk ((HK.out.trans (hkk.mono fun _ q => q.elim)).setCell (p := ⟨Q, k, none⟩) (.inl rfl) (.string (wholeB noB)))
        replace HR8 := Pin.Aside.mk ((HR8.out.keep hkk id).set k (wholeB noB))
        replace hf0 : v1.frozen? ⟨Q, k, none⟩ = false := (hkk.frozen_at' (q := ⟨Q, k, none⟩) hc0 rfl id).trans hf0
        replace hc0 := hkk.cell hc0 id
        clear hbb hkk
        go_upto_region 18 with fail
        replace hc0 : (v1.setCell ⟨Q, k, none⟩ (.string (wholeB noB))).cell? ⟨Q, k, none⟩ = some (.string (wholeB noB)) := World.cell?_setCell_same _ _ _ hc0
        replace hf0 : (v1.setCell ⟨Q, k, none⟩ (.string (wholeB noB))).frozen? ⟨Q, k, none⟩ = false := by rw [World.frozen?_setCell]; exact hf0
        generalize hgw : v1.setCell ⟨Q, k, none⟩ (.string (wholeB noB)) = v1s at *
        clear hgw
        go_wp2_with fail
        refine (KS.out _).mono ?_
        rintro x' v2 ⟨rfl, hbb⟩
        have hkk : Keep (fun _ => False) _ v2 := Keep.of_below hbb fun _ q _ => q
        replace HK := Pin.Aside.mk ((HK.out.trans (hkk.mono fun _ q => q.elim)).setCell (p := ⟨Q, k, none⟩) (.inl rfl) (.string (wholeB S)))
        replace HR8 := Pin.Aside.mk ((HR8.out.keep hkk id).set k (wholeB S))
        replace hf0 : v2.frozen? ⟨Q, k, none⟩ = false := (hkk.frozen_at' (q := ⟨Q, k, none⟩) hc0 rfl id).trans hf0
        replace hc0 := hkk.cell hc0 id
        clear hbb hkk
        go_upto_region 20 with fail
        replace hc0 : (v2.setCell ⟨Q, k, none⟩ (.string (wholeB S))).cell? ⟨Q, k, none⟩ = some (.string (wholeB S)) := World.cell?_setCell_same _ _ _ hc0
        replace hf0 : (v2.setCell ⟨Q, k, none⟩ (.string (wholeB S))).frozen? ⟨Q, k, none⟩ = false := by rw [World.frozen?_setCell]; exact hf0
        generalize hgw : v2.setCell ⟨Q, k, none⟩ (.string (wholeB S)) = v2s at *
        clear hgw
        go_wp2_with fail
        refine (KT.out _).mono ?_
        rintro x' v3 ⟨rfl, hbb⟩
        have hkk : Keep (fun _ => False) _ v3 := Keep.of_below hbb fun _ q _ => q
        replace HK := Pin.Aside.mk ((HK.out.trans (hkk.mono fun _ q => q.elim)).setCell (p := ⟨Q, k, none⟩) (.inl rfl) (.string (wholeB T)))
        replace HR8 := Pin.Aside.mk ((HR8.out.keep hkk id).set k (wholeB T))
        replace hf0 : v3.frozen? ⟨Q, k, none⟩ = false := (hkk.frozen_at' (q := ⟨Q, k, none⟩) hc0 rfl id).trans hf0
        replace hc0 := hkk.cell hc0 id
        clear hbb hkk
        go_upto_region 22 with fail
        replace hc0 : (v3.setCell ⟨Q, k, none⟩ (.string (wholeB T))).cell? ⟨Q, k, none⟩ = some (.string (wholeB T)) := World.cell?_setCell_same _ _ _ hc0
        replace hf0 : (v3.setCell ⟨Q, k, none⟩ (.string (wholeB T))).frozen? ⟨Q, k, none⟩ = false := by rw [World.frozen?_setCell]; exact hf0
        generalize hgw : v3.setCell ⟨Q, k, none⟩ (.string (wholeB T)) = v3s at *
        clear hgw
        go_wp2_with fail
        refine (hrd.out b mb mo _ (HV.out.keep HK.out (by omega) (by omega) (by omega))).mono ?_
        rintro x' v9 ⟨rfl, hbb⟩
        have hkk : Keep (fun _ => False) v3s v9 := Keep.of_below hbb fun _ q _ => q
        replace HK := Pin.Aside.mk (HK.out.trans (hkk.mono fun _ q => q.elim))
        replace HR8 := Pin.Aside.mk (HR8.out.keep hkk id)
        replace hc0 := hkk.cell hc0 id
        clear hbb hkk hf0
        go_wp2_with fail
        go_roundw
        case rel => exact ⟨k + 1, by omega, by go_num, HK, HR8⟩
        case measure => simp [intOf]; omega
      · rw [if_neg ey, if_pos ex] at hrd
        have ex' : ((k : Int) == x) = true := by simpa using ex
        have ey' : ((k : Int) == y) = false := by simpa using ey
        clear ex ey
        go_wp2_with fail
        refine (KN.out _).mono ?_
        rintro x' v1 ⟨rfl, hbb⟩
        have hkk : Keep (fun _ => False) _ v1 := Keep.of_below hbb fun _ q _ => q
        replace HK := Pin.Aside.mk ((HK.out.trans (hkk.mono fun _ q => q.elim)).setCell (p := ⟨Q, k, none⟩) (.inl rfl) (.string (wholeB noB)))
        replace HR8 := Pin.Aside.mk ((HR8.out.keep hkk id).set k (wholeB noB))
        replace hf0 : v1.frozen? ⟨Q, k, none⟩ = false := (hkk.frozen_at' (q := ⟨Q, k, none⟩) hc0 rfl id).trans hf0
        replace hc0 := hkk.cell hc0 id
        clear hbb hkk
        go_upto_region 18 with fail
        replace hc0 : (v1.setCell ⟨Q, k, none⟩ (.string (wholeB noB))).cell? ⟨Q, k, none⟩ = some (.string (wholeB noB)) := World.cell?_setCell_same _ _ _ hc0
        replace hf0 : (v1.setCell ⟨Q, k, none⟩ (.string (wholeB noB))).frozen? ⟨Q, k, none⟩ = false := by rw [World.frozen?_setCell]; exact hf0
        generalize hgw : v1.setCell ⟨Q, k, none⟩ (.string (wholeB noB)) = v1s at *
        clear hgw
        go_wp2_with fail
        refine (KS.out _).mono ?_
        rintro x' v2 ⟨rfl, hbb⟩
        have hkk : Keep (fun _ => False) _ v2 := Keep.of_below hbb fun _ q _ => q
        replace HK := Pin.Aside.mk ((HK.out.trans (hkk.mono fun _ q => q.elim)).setCell (p := ⟨Q, k, none⟩) (.inl rfl) (.string (wholeB S)))
        replace HR8 := Pin.Aside.mk ((HR8.out.keep hkk id).set k (wholeB S))
        replace hf0 : v2.frozen? ⟨Q, k, none⟩ = false := (hkk.frozen_at' (q := ⟨Q, k, none⟩) hc0 rfl id).trans hf0
        replace hc0 := hkk.cell hc0 id
        clear hbb hkk
        go_upto_region 22 with fail
        replace hc0 : (v2.setCell ⟨Q, k, none⟩ (.string (wholeB S))).cell? ⟨Q, k, none⟩ = some (.string (wholeB S)) := World.cell?_setCell_same _ _ _ hc0
        replace hf0 : (v2.setCell ⟨Q, k, none⟩ (.string (wholeB S))).frozen? ⟨Q, k, none⟩ = false := by rw [World.frozen?_setCell]; exact hf0
        generalize hgw : v2.setCell ⟨Q, k, none⟩ (.string (wholeB S)) = v2s at *
        clear hgw
        go_wp2_with fail
        refine (hrd.out b mb mo _ (HV.out.keep HK.out (by omega) (by omega) (by omega))).mono ?_
        rintro x' v9 ⟨rfl, hbb⟩
        have hkk : Keep (fun _ => False) v2s v9 := Keep.of_below hbb fun _ q _ => q
        replace HK := Pin.Aside.mk (HK.out.trans (hkk.mono fun _ q => q.elim))
        replace HR8 := Pin.Aside.mk (HR8.out.keep hkk id)
        replace hc0 := hkk.cell hc0 id
        clear hbb hkk hf0
        go_wp2_with fail
        go_roundw
        case rel => exact ⟨k + 1, by omega, by go_num, HK, HR8⟩
        case measure => simp [intOf]; omega
      · rw [if_pos ey] at hrd
        have ex' : ((k : Int) == x) = false := by simpa using ex
        have ey' : ((k : Int) == y) = true := by simpa using ey
        clear ex ey
        go_wp2_with fail
        refine (KN.out _).mono ?_
        rintro x' v1 ⟨rfl, hbb⟩
        have hkk : Keep (fun _ => False) _ v1 := Keep.of_below hbb fun _ q _ => q
        replace HK := Pin.Aside.mk ((HK.out.trans (hkk.mono fun _ q => q.elim)).setCell (p := ⟨Q, k, none⟩) (.inl rfl) (.string (wholeB noB)))
        replace HR8 := Pin.Aside.mk ((HR8.out.keep hkk id).set k (wholeB noB))
        replace hf0 : v1.frozen? ⟨Q, k, none⟩ = false := (hkk.frozen_at' (q := ⟨Q, k, none⟩) hc0 rfl id).trans hf0
        replace hc0 := hkk.cell hc0 id
        clear hbb hkk
        go_upto_region 18 with fail
        replace hc0 : (v1.setCell ⟨Q, k, none⟩ (.string (wholeB noB))).cell? ⟨Q, k, none⟩ = some (.string (wholeB noB)) := World.cell?_setCell_same _ _ _ hc0
        replace hf0 : (v1.setCell ⟨Q, k, none⟩ (.string (wholeB noB))).frozen? ⟨Q, k, none⟩ = false := by rw [World.frozen?_setCell]; exact hf0
        generalize hgw : v1.setCell ⟨Q, k, none⟩ (.string (wholeB noB)) = v1s at *
        clear hgw
        go_wp2_with fail
        refine (KT.out _).mono ?_
        rintro x' v3 ⟨rfl, hbb⟩
        have hkk : Keep (fun _ => False) _ v3 := Keep.of_below hbb fun _ q _ => q
        replace HK := Pin.Aside.mk ((HK.out.trans (hkk.mono fun _ q => q.elim)).setCell (p := ⟨Q, k, none⟩) (.inl rfl) (.string (wholeB T)))
        replace HR8 := Pin.Aside.mk ((HR8.out.keep hkk id).set k (wholeB T))
        replace hf0 : v3.frozen? ⟨Q, k, none⟩ = false := (hkk.frozen_at' (q := ⟨Q, k, none⟩) hc0 rfl id).trans hf0
        replace hc0 := hkk.cell hc0 id
        clear hbb hkk
        go_upto_region 22 with fail
        replace hc0 : (v3.setCell ⟨Q, k, none⟩ (.string (wholeB T))).cell? ⟨Q, k, none⟩ = some (.string (wholeB T)) := World.cell?_setCell_same _ _ _ hc0
        replace hf0 : (v3.setCell ⟨Q, k, none⟩ (.string (wholeB T))).frozen? ⟨Q, k, none⟩ = false := by rw [World.frozen?_setCell]; exact hf0
        generalize hgw : v3.setCell ⟨Q, k, none⟩ (.string (wholeB T)) = v3s at *
        clear hgw
        go_wp2_with fail
        refine (hrd.out b mb mo _ (HV.out.keep HK.out (by omega) (by omega) (by omega))).mono ?_
        rintro x' v9 ⟨rfl, hbb⟩
        have hkk : Keep (fun _ => False) v3s v9 := Keep.of_below hbb fun _ q _ => q
        replace HK := Pin.Aside.mk (HK.out.trans (hkk.mono fun _ q => q.elim))
        replace HR8 := Pin.Aside.mk (HR8.out.keep hkk id)
        replace hc0 := hkk.cell hc0 id
        clear hbb hkk hf0
        go_wp2_with fail
        go_roundw
        case rel => exact ⟨k + 1, by omega, by go_num, HK, HR8⟩
        case measure => simp [intOf]; omega
      · rw [if_neg ey, if_neg ex] at hrd
        have ex' : ((k : Int) == x) = false := by simpa using ex
        have ey' : ((k : Int) == y) = false := by simpa using ey
        clear ex ey
        go_wp2_with fail
        refine (KN.out _).mono ?_
        rintro x' v1 ⟨rfl, hbb⟩
        have hkk : Keep (fun _ => False) _ v1 := Keep.of_below hbb fun _ q _ => q
        replace HK := Pin.Aside.mk ((HK.out.trans (hkk.mono fun _ q => q.elim)).setCell (p := ⟨Q, k, none⟩) (.inl rfl) (.string (wholeB noB)))
        replace HR8 := Pin.Aside.mk ((HR8.out.keep hkk id).set k (wholeB noB))
        replace hf0 : v1.frozen? ⟨Q, k, none⟩ = false := (hkk.frozen_at' (q := ⟨Q, k, none⟩) hc0 rfl id).trans hf0
        replace hc0 := hkk.cell hc0 id
        clear hbb hkk
        go_upto_region 22 with fail
        replace hc0 : (v1.setCell ⟨Q, k, none⟩ (.string (wholeB noB))).cell? ⟨Q, k, none⟩ = some (.string (wholeB noB)) := World.cell?_setCell_same _ _ _ hc0
        replace hf0 : (v1.setCell ⟨Q, k, none⟩ (.string (wholeB noB))).frozen? ⟨Q, k, none⟩ = false := by rw [World.frozen?_setCell]; exact hf0
        generalize hgw : v1.setCell ⟨Q, k, none⟩ (.string (wholeB noB)) = v1s at *
        clear hgw
        go_wp2_with fail
        refine (hrd.out b mb mo _ (HV.out.keep HK.out (by omega) (by omega) (by omega))).mono ?_
        rintro x' v9 ⟨rfl, hbb⟩
        have hkk : Keep (fun _ => False) v1s v9 := Keep.of_below hbb fun _ q _ => q
        replace HK := Pin.Aside.mk (HK.out.trans (hkk.mono fun _ q => q.elim))
        replace HR8 := Pin.Aside.mk (HR8.out.keep hkk id)
        replace hc0 := hkk.cell hc0 id
        clear hbb hkk hf0
        go_wp2_with fail
        go_roundw
        case rel => exact ⟨k + 1, by omega, by go_num, HK, HR8⟩
        case measure => simp [intOf]; omega
    · obtain rfl : k = 8 := by omega
      have hb := hb2.out.trans (HK.out.below (B := B) (by have := hb2.out.size; omega) (by rintro k rfl; exact hQB))
      replace HV := Pin.Aside.mk (HV.out.keep HK.out (by omega) (by omega) (by omega))
      have RA0 := HK.out.cell RA1.out (by show ¬ RA = Q; omega)
      have RB0 := HK.out.cell RB1.out (by show ¬ RB = Q; omega)
      obtain ⟨hp, hq, hr⟩ := HQ.out
      have hpE : (p.e == 0) = decide (x < 8) := by rw [Bool.eq_iff_iff, beq_iff_eq, decide_eq_true_eq]; exact hp
      have hqE : (q.e == 0) = decide (y < 8) := by rw [Bool.eq_iff_iff, beq_iff_eq, decide_eq_true_eq]; exact hq
      have hrE : (r.e == 0) = decide (y < 8) := by rw [Bool.eq_iff_iff, beq_iff_eq, decide_eq_true_eq]; exact hr
      clear hp hq hr HQ hb2 RA1 RB1 HK HR8
      go_wp2_with fail
      refine (A3.out b mb mo _ HV.out).mono ?_
      rintro x' w9 ⟨rfl, hV2, hk2⟩
      have hka := (Keep.refl (fun _ => False) w9).alloc (.cells #[.int .i64 r.e, .string r.data] 28)
      replace HV := Pin.Aside.mk (hV2.keep' hka)
      have RC0 : (w9.alloc (.cells #[.int .i64 r.e, .string r.data] 28)).cell? ⟨w9.heap.size, 0, none⟩ = some (.int .i64 r.e) := by simp
      replace hb := (hb.trans (hk2.below (B := B) (by have := hb.size; omega) (by rintro k (q | q | q) <;> omega))).trans (hka.below (B := B) (by have := hb.size; have := hk2.size; omega) fun _ q => q.elim)
      replace RA0 := hka.cell (hk2.cell RA0 (by rintro (q | q | q) <;> (dsimp only at q; omega))) id
      replace RB0 := hka.cell (hk2.cell RB0 (by rintro (q | q | q) <;> (dsimp only at q; omega))) id
      clear hk2 hka hV2
      go_upto_region 26 with fail
      generalize World.alloc w9 _ = w10 at *
      generalize w9.heap.size = RC at *
      go_wp2_with fail
      refine (R3.out b mb mo _ HV.out).mono ?_
      rintro x' w11 ⟨Z, EE, rfl, hZ, hbb⟩
      have hkk : Keep (fun _ => False) w10 w11 := Keep.of_below hbb fun _ q _ => q
      replace RA0 := hkk.cell RA0 id
      replace RB0 := hkk.cell RB0 id
      replace RC0 := hkk.cell RC0 id
      replace hb := hb.trans (hbb.mono (by have := hb.size; omega))
      clear hbb hkk
      by_cases hy8 : y < 8
      · replace hZ := hZ hy8
        subst hZ
        go_wp2_with fail
        refine (KN.out _).mono ?_
        rintro x' w12 ⟨rfl, hbb⟩
        replace hb := hb.trans (hbb.mono (by have := hb.size; omega))
        go_wp2_with fail
        go_ret
        exact ⟨rfl, hb⟩
      · clear hZ
        go_wp2_with fail
        go_ret
        exact ⟨rfl, hb⟩
end Go.Proofs.YtpebpcmppcpkdaaDoor
