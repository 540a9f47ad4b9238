/- VdiskOnce: its walk. -/
import Derived.Test.YtpebpcmppcpkdaaDoorVdiskOnceM
import Derived.Test.YtpebpcmppcpkdaaDoorMkV
import Derived.OpenShut
set_option maxRecDepth 16000
namespace Go.Pin
open Go.RowKit
set_option linter.unusedVariables false
set_option linter.unusedSimpArgs false
/-- A result in memory. -/
structure ResAt (w : World) (R : Nat) (r : Res) : Prop where
  c0 : w.cell? ⟨R, 0, none⟩ = some (.int .i64 r.e)
  c1 : w.cell? ⟨R, 1, none⟩ = some (.string r.data)
theorem ResAt.keep {S : Nat → Prop} {a w : World} {R : Nat} {r : Res} (h : ResAt a R r) (hk : Keep S a w) (hn : ¬ S R) : ResAt w R r := ⟨hk.cell h.c0 hn, hk.cell h.c1 hn⟩
theorem ResAt.new (w : World) (r : Res) (T : TypeId) : ResAt (w.alloc (.cells #[.int .i64 r.e, .string r.data] T)) w.heap.size r := ⟨by simp, by simp⟩
theorem EnAt.set11 {w : World} {A : Nat} {e : En} (h : EnAt w A 0 e) (v : Value) : EnAt (w.setCell ⟨A, 11, none⟩ v) A 0 e :=
  EnAt.of_cells fun i hi u hu => by rw [World.cell?_setCell_other _ _ _ _ (by simp <;> omega)]; exact h.cell i hi u hu
theorem ResAt.lt {w : World} {R : Nat} {r : Res} (h : ResAt w R r) : R < w.heap.size := World.block_lt_of_cell? _ _ h.c0
end Go.Pin
namespace Go.Proofs.YtpebpcmppcpkdaaDoor
open Go.RowKit Go.Pin
set_option linter.unusedVariables false
set_option linter.unusedSimpArgs false
set_option maxHeartbeats 3200000 in
theorem once_core (e : En) (he : e.ok) (own : Bool) (s t : ByteArray) (hs : s.size ≤ 140737488351232) (ht : t.size ≤ 140737488351232) (w : World) :
    Calls Tryd.prog 8 #[.agg #[.int .u64 e.term, .int .u64 e.index, .int .i64 e.kind, .int .u64 e.client, .int .u64 e.seq, .int .u64 e.block, .int .u64 e.many, .int .i64 e.node, .int .i64 e.level, .string e.data, .string e.old, .bool own], .string s, .string t] w fun x w' => x = .returned (.bool true) ∧ Below w.heap.size w w' := by
  obtain ⟨ms, hms, hms1, hms2⟩ : ∃ m : Nat, min (s.size : Int) 64 = (m : Int) ∧ m ≤ 64 ∧ m ≤ s.size := ⟨min s.size 64, by omega, by omega, by omega⟩
  obtain ⟨S, hcS, hzS⟩ : ∃ X, s.extract 0 ms = X ∧ X.size ≤ 64 := ⟨_, rfl, by rw [ByteArray.size_extract]; omega⟩
  obtain ⟨mt, hmt, hmt1, hmt2⟩ : ∃ m : Nat, min (t.size : Int) 64 = (m : Int) ∧ m ≤ 64 ∧ m ≤ t.size := ⟨min t.size 64, by omega, by omega, by omega⟩
  obtain ⟨T, hcT, hzT⟩ : ∃ X, t.extract 0 mt = X ∧ X.size ≤ 64 := ⟨_, rfl, by rw [ByteArray.size_extract]; omega⟩
  have hk0 := (Keep.refl (fun _ => False) w).alloc (.cells #[.int .u64 e.term, .int .u64 e.index, .int .i64 e.kind, .int .u64 e.client, .int .u64 e.seq, .int .u64 e.block, .int .u64 e.many, .int .i64 e.node, .int .i64 e.level, .string e.data, .string e.old, .bool own] 48)
  have HM : Pin.Aside (EnAt (w.alloc (.cells #[.int .u64 e.term, .int .u64 e.index, .int .i64 e.kind, .int .u64 e.client, .int .u64 e.seq, .int .u64 e.block, .int .u64 e.many, .int .i64 e.node, .int .i64 e.level, .string e.data, .string e.old, .bool own] 48)) w.heap.size 0 e) := Pin.Aside.mk (by constructor <;> simp)
  have HMo : Pin.Aside ((w.alloc (.cells #[.int .u64 e.term, .int .u64 e.index, .int .i64 e.kind, .int .u64 e.client, .int .u64 e.seq, .int .u64 e.block, .int .u64 e.many, .int .i64 e.node, .int .i64 e.level, .string e.data, .string e.old, .bool own] 48)).cell? ⟨w.heap.size, 11, none⟩ = some (.bool own)) := Pin.Aside.mk (by simp)
  have HMf : Pin.Aside (∀ j, (w.alloc (.cells #[.int .u64 e.term, .int .u64 e.index, .int .i64 e.kind, .int .u64 e.client, .int .u64 e.seq, .int .u64 e.block, .int .u64 e.many, .int .i64 e.node, .int .i64 e.level, .string e.data, .string e.old, .bool own] 48)).frozen? ⟨w.heap.size, j, none⟩ = false) := Pin.Aside.mk (fun j => by simp)
  have hb := hk0.below (Nat.le_refl w.heap.size) fun _ q => q.elim
  clear hk0
  have hB0 : w.heap.size ≤ w.heap.size := Nat.le_refl _
  have E0 := Pin.Aside.mk mk_examples15
  have G0 := Pin.Aside.mk (mk_begun 8 (by decide))
  have M0 := Pin.Aside.mk (mk_made_own e he)
  have ho := Pin.Aside.mk (own_ok e he)
  have O0 := Pin.Aside.mk (vd_once e he S T hzS hzT)
  have hse := str_beq
  go_enter Tryd.func8, Tryd.ntmps8
  go_upto_region 1 with fail
  generalize w.alloc (.cells #[.int .u64 e.term, .int .u64 e.index, .int .i64 e.kind, .int .u64 e.client, .int .u64 e.seq, .int .u64 e.block, .int .u64 e.many, .int .i64 e.node, .int .i64 e.level, .string e.data, .string e.old, .bool own] 48) = w0 at *
  obtain ⟨B, hB⟩ : ∃ B, w.heap.size = B := ⟨_, rfl⟩
  rw [hB] at HM HMo HMf hb
  have HBE := Pin.Aside.mk hB
  try rw [hB]
  clear hB hB0

  go_wp2_with fail
  refine (E0.out _).mono ?_
  rintro x w1 ⟨rfl, hbb⟩
  have hkk : Keep (fun _ => False) w0 w1 := Keep.of_below hbb fun _ q _ => q
  replace HM := Pin.Aside.mk (HM.out.keep hkk id)
  replace HMf : Pin.Aside (∀ j, w1.frozen? ⟨B, j, none⟩ = false) := Pin.Aside.mk (fun j => (hkk.frozen_at (q := ⟨B, j, none⟩) HMo.out rfl id).trans (HMf.out j))
  replace HMo := Pin.Aside.mk (hkk.cell HMo.out id)
  replace hb := hb.trans (hbb.mono (by have := hb.size; rw [HBE.out] at this; omega))
  clear hbb hkk
  go_wp2_with fail
  refine (G0.out _).mono ?_
  rintro x w2 ⟨b, mb, mo, rfl, hV, hq, hbb⟩
  have hkk : Keep (fun _ => False) w1 w2 := Keep.of_below hbb fun _ q _ => q
  have hBl : B < w1.heap.size := World.block_lt_of_cell? _ _ HMo.out
  replace HM := Pin.Aside.mk (HM.out.keep hkk id)
  replace HMf : Pin.Aside (∀ j, w2.frozen? ⟨B, j, none⟩ = false) := Pin.Aside.mk (fun j => (hkk.frozen_at (q := ⟨B, j, none⟩) HMo.out rfl id).trans (HMf.out j))
  replace HMo := Pin.Aside.mk (hkk.cell HMo.out id)
  have hq1 : B < b := by omega
  have hq2 : B < mb := by omega
  have hq3 : B < mo := by omega
  have HV := Pin.Aside.mk hV
  replace hb := hb.trans (hbb.mono (by have := hb.size; rw [HBE.out] at this; omega))
  clear hV hq hbb hkk hBl
  have co := HMo.out
  have fo := HMf.out 11
  have hks := (Keep.refl (fun k => k = B) w2).setCell (p := ⟨B, 11, none⟩) (.inl rfl) (.bool true)
  replace HM := Pin.Aside.mk (HM.out.set11 (.bool true))
  replace HMo : Pin.Aside ((w2.setCell ⟨B, 11, none⟩ (.bool true)).cell? ⟨B, 11, none⟩ = some (.bool true)) := Pin.Aside.mk (World.cell?_setCell_same _ _ _ co)
  replace HV := Pin.Aside.mk (HV.out.keep hks (by omega) (by omega) (by omega))
  replace hb := hb.trans (hks.below (B := B) (by have := hb.size; rw [HBE.out] at this; omega) (by rintro k rfl; exact Nat.le_refl _))
  clear hks
  go_upto_region 8 with fail
  clear co fo HMf
  generalize w2.setCell ⟨B, 11, none⟩ (.bool true) = w3 at *
  have co := HMo.out
  obtain ⟨c0, c1, c2, c3, c4, c5, c6, c7, c8, c9, c10⟩ := HM.out
  simp only [Nat.zero_add] at c1 c2 c3 c4 c5 c6 c7 c8 c9 c10
  go_wp2_with fail
  refine (M0.out _).mono ?_
  rintro x w4 ⟨rfl, hbb⟩
  clear c0 c1 c2 c3 c4 c5 c6 c7 c8 c9 c10 co
  have hkk : Keep (fun _ => False) w3 w4 := Keep.of_below hbb fun _ q _ => q
  replace HV := Pin.Aside.mk (HV.out.keep' hkk)
  replace hb := hb.trans (hbb.mono (by have := hb.size; rw [HBE.out] at this; omega))
  clear hbb hkk HM HMo M0
  generalize e.own = E at *
  have hka := (Keep.refl (fun _ => False) w4).alloc (.cells E.cells 31)
  have HE := Pin.Aside.mk (EnAt.new w4 31 E)
  have HEr := Pin.Aside.mk (RowOk.new w4 31 E)
  have hRB : B ≤ w4.heap.size := by have := hb.size; rw [HBE.out] at this; omega
  have hRV := HV.out.lt
  replace HV := Pin.Aside.mk (HV.out.keep' hka)
  replace hb := hb.trans (hka.below (B := B) hRB fun _ q => q.elim)
  clear hka
  unfold En.cells at HE HEr HV hb
  go_upto_region 9 with fail
  generalize w4.alloc (.cells #[.int .u64 E.term, .int .u64 E.index, .int .i64 E.kind, .int .u64 E.client, .int .u64 E.seq, .int .u64 E.block, .int .u64 E.many, .int .i64 E.node, .int .i64 E.level, .string E.data, .string E.old] 31) = w5 at *
  generalize w4.heap.size = R at *
  obtain ⟨c0, c1, c2, c3, c4, c5, c6, c7, c8, c9, c10⟩ := HE.out
  simp only [Nat.zero_add] at c1 c2 c3 c4 c5 c6 c7 c8 c9 c10
  by_cases hc0 : E.client = 0
  · have hcb : (E.client == 0) = true := by simpa using hc0
    clear hc0
    go_wp2_with fail
    go_ret
    exact ⟨rfl, by rw [HBE.out]; exact hb⟩
  have hcb : (E.client == 0) = false := by simpa using hc0
  by_cases hk4 : E.kind = 4
  · have hkb : (E.kind == 4) = true := by simpa using hk4
    clear hc0 hk4
    go_wp2_with fail
    go_ret
    exact ⟨rfl, by rw [HBE.out]; exact hb⟩
  have hkb : (E.kind == 4) = false := by simpa using hk4
  obtain ⟨D1, D2, z, a, p1, ok1, p2, ok2, fit2, p3, g2, p4, p5, p6⟩ := O0.out hc0 hk4
  have hokn : ∀ c q : Int, 0 ≤ c → c ≤ 10 → 0 ≤ q → q ≤ 10 → ({ E with client := c, seq := q } : En).ok := fun c q h1 h2 h3 h5 => ⟨ho.out.term, ho.out.index, ho.out.kind, ⟨h1, by dsimp only; omega⟩, ⟨h3, by dsimp only; omega⟩, ho.out.block, ho.out.many, ho.out.node, ho.out.level, ho.out.data, ho.out.old⟩
  have A1 := Pin.Aside.mk (fun W (hW : VdAt W b mb mo (vdBegun 8)) => vd_apply b mb mo (vdBegun 8) (enOf 1 2 2 3 0 S noB) (enOf_ok _ _ _ _ _ _ _ (by decide) (by decide) (by decide) (by decide) (by decide) (by omega) (by decide)) (begun_ok 8 (by decide)) W hW)
  have A2 := Pin.Aside.mk (fun W (hW : VdAt W b mb mo D1) => vd_apply b mb mo D1 { E with client := 1, seq := 5 } (hokn 1 5 (by decide) (by decide) (by decide) (by decide)) ok1 W hW)
  have A3 := Pin.Aside.mk (fun W (hW : VdAt W b mb mo D2) => vd_apply b mb mo D2 { E with client := 1, seq := 5 } (hokn 1 5 (by decide) (by decide) (by decide) (by decide)) ok2 W hW)
  have A4 := Pin.Aside.mk (fun W (hW : VdAt W b mb mo D2) => vd_apply b mb mo D2 { E with client := 1, seq := 4 } (hokn 1 4 (by decide) (by decide) (by decide) (by decide)) ok2 W hW)
  have A5 := Pin.Aside.mk (fun W (hW : VdAt W b mb mo D2) => vd_apply b mb mo D2 { E with client := 3, seq := 4 } (hokn 3 4 (by decide) (by decide) (by decide) (by decide)) ok2 W hW)
  have A6 := Pin.Aside.mk (fun W (hW : VdAt W b mb mo D2) => vd_apply b mb mo D2 (enOf 1 1 5 0 0 T noB) (enOf_ok _ _ _ _ _ _ _ (by decide) (by decide) (by decide) (by decide) (by decide) (by omega) (by decide)) ok2 W hW)
  rw [p1] at A1
  rw [p2] at A2
  rw [p3] at A3
  rw [p4] at A4
  rw [p5] at A5
  rw [p6] at A6
  dsimp only [En.cells, Res.val] at A1 A2 A3 A4 A5 A6
  have L0 := Pin.Aside.mk (fun W (hW : VdAt W b mb mo D2) => vd_last b mb mo D2 1 W hW)
  unfold Vd.ses at L0
  rw [g2] at L0
  dsimp only [Option.getD_some, Option.isSome_some] at L0
  have PU := Pin.Aside.mk (fun W (hW : VdAt W b mb mo D2) => vd_put b mb mo D2 fit2 W hW)
  generalize (⟨(Vd.put D2).toArray⟩ : ByteArray) = PT at PU
  clear p1 p2 p3 p4 p5 p6 ok1 ok2 fit2 g2 hokn O0 E0 G0 hc0 hk4
  have f3 := (HEr.out 3 (by decide)).2
  have f4 := (HEr.out 4 (by decide)).2
  have hks := ((Keep.refl (fun k => k = R) w5).setCell (p := ⟨R, 3, none⟩) (.inl rfl) (.int .u64 1)).setCell (p := ⟨R, 4, none⟩) (.inl rfl) (.int .u64 5)
  have HE1 := Pin.Aside.mk ((HE.out.set (e' := { E with client := 1 }) 3 (by decide) (.int .u64 1) rfl).set (e' := { E with client := 1, seq := 5 }) 4 (by decide) (.int .u64 5) rfl)
  have HEr1 := Pin.Aside.mk ((HEr.out.setCell ⟨R, 3, none⟩ (.int .u64 1)).setCell ⟨R, 4, none⟩ (.int .u64 5))
  replace HV := Pin.Aside.mk (HV.out.keep hks (by omega) (by omega) (by omega))
  replace hb := hb.trans (hks.below (B := B) (by have := hb.size; rw [HBE.out] at this; omega) (by rintro k rfl; exact hRB))
  clear hks
  simp only [Nat.zero_add] at HE1
  go_upto_region 13 with fail

  clear c0 c1 c2 c3 c4 c5 c6 c7 c8 c9 c10 f3 f4 hcb hkb
  generalize (w5.setCell ⟨R, 3, none⟩ (.int .u64 1)).setCell ⟨R, 4, none⟩ (.int .u64 5) = w6 at *
  clear HE HEr
  have HE := HE1
  have HEr := HEr1
  clear HE1 HEr1
  go_wp2_with fail
  refine (A1.out _ HV.out).mono ?_
  rintro x w7 ⟨rfl, hV2, hk2⟩
  replace HV := Pin.Aside.mk hV2
  replace hb := hb.trans (hk2.below (B := B) (by have := hb.size; rw [HBE.out] at this; omega) (by rintro k (q | q | q) <;> omega))
  replace HE := Pin.Aside.mk (HE.out.keep hk2 (by rintro (q | q | q) <;> omega))
  replace HEr := Pin.Aside.mk (HEr.out.keep hk2 (by rintro (q | q | q) <;> omega))
  clear hV2 hk2
  go_upto_region 14 with fail
  have hRRb := hRB
  obtain ⟨c0, c1, c2, c3, c4, c5, c6, c7, c8, c9, c10⟩ := HE.out
  simp only [Nat.zero_add] at c1 c2 c3 c4 c5 c6 c7 c8 c9 c10
  go_wp2_with fail
  refine (A2.out _ HV.out).mono ?_
  rintro x w8 ⟨rfl, hV2, hk2⟩
  clear c0 c1 c2 c3 c4 c5 c6 c7 c8 c9 c10
  replace HV := Pin.Aside.mk hV2
  replace hb := hb.trans (hk2.below (B := B) (by have := hb.size; rw [HBE.out] at this; omega) (by rintro k (q | q | q) <;> omega))
  replace HE := Pin.Aside.mk (HE.out.keep hk2 (by rintro (q | q | q) <;> omega))
  replace HEr := Pin.Aside.mk (HEr.out.keep hk2 (by rintro (q | q | q) <;> omega))
  clear hV2 hk2
  have hka := (Keep.refl (fun _ => False) w8).alloc (.cells #[.int .i64 a.e, .string a.data] 28)
  have HRA : Pin.Aside (ResAt (w8.alloc (.cells #[.int .i64 a.e, .string a.data] 28)) w8.heap.size ⟨a.e, a.data⟩) := Pin.Aside.mk (ResAt.new w8 ⟨a.e, a.data⟩ 28)
  have hLRA := HV.out.lt
  have hMRA : R < w8.heap.size := World.block_lt_of_cell? _ _ HE.out.c0
  replace HV := Pin.Aside.mk (HV.out.keep' hka)
  replace hb := hb.trans (hka.below (B := B) (by have := hb.size; rw [HBE.out] at this; omega) fun _ q => q.elim)
  replace HE := Pin.Aside.mk (HE.out.keep hka (id))
  replace HEr := Pin.Aside.mk (HEr.out.keep hka (id))
  clear hka
  go_upto_region 15 with fail
  generalize w8.alloc (.cells #[.int .i64 a.e, .string a.data] 28) = w9 at *
  generalize w8.heap.size = RA at *
  go_wp2_with fail
  refine (PU.out _ HV.out).mono ?_
  rintro x w10 ⟨rfl, hbb⟩
  have hkk : Keep (fun _ => False) w9 w10 := Keep.of_below hbb fun _ q _ => q
  replace HV := Pin.Aside.mk (HV.out.keep' hkk)
  replace hb := hb.trans (hbb.mono (by have := hb.size; rw [HBE.out] at this; omega))
  replace HE := Pin.Aside.mk (HE.out.keep hkk (id))
  replace HEr := Pin.Aside.mk (HEr.out.keep hkk (id))
  replace HRA := Pin.Aside.mk (HRA.out.keep hkk (id))
  clear hbb hkk
  go_upto_region 16 with fail
  obtain ⟨c0, c1, c2, c3, c4, c5, c6, c7, c8, c9, c10⟩ := HE.out
  simp only [Nat.zero_add] at c1 c2 c3 c4 c5 c6 c7 c8 c9 c10
  go_wp2_with fail
  refine (A3.out _ HV.out).mono ?_
  rintro x w11 ⟨rfl, hV2, hk2⟩
  clear c0 c1 c2 c3 c4 c5 c6 c7 c8 c9 c10
  replace HV := Pin.Aside.mk hV2
  replace hb := hb.trans (hk2.below (B := B) (by have := hb.size; rw [HBE.out] at this; omega) (by rintro k (q | q | q) <;> omega))
  replace HE := Pin.Aside.mk (HE.out.keep hk2 (by rintro (q | q | q) <;> omega))
  replace HEr := Pin.Aside.mk (HEr.out.keep hk2 (by rintro (q | q | q) <;> omega))
  replace HRA := Pin.Aside.mk (HRA.out.keep hk2 (by rintro (q | q | q) <;> omega))
  clear hV2 hk2
  have hka := (Keep.refl (fun _ => False) w11).alloc (.cells #[.int .i64 a.e, .string a.data] 28)
  have HRB : Pin.Aside (ResAt (w11.alloc (.cells #[.int .i64 a.e, .string a.data] 28)) w11.heap.size ⟨a.e, a.data⟩) := Pin.Aside.mk (ResAt.new w11 ⟨a.e, a.data⟩ 28)
  have hLRB := HV.out.lt
  have hMRB : R < w11.heap.size := World.block_lt_of_cell? _ _ HE.out.c0
  replace HV := Pin.Aside.mk (HV.out.keep' hka)
  replace hb := hb.trans (hka.below (B := B) (by have := hb.size; rw [HBE.out] at this; omega) fun _ q => q.elim)
  replace HE := Pin.Aside.mk (HE.out.keep hka (id))
  replace HEr := Pin.Aside.mk (HEr.out.keep hka (id))
  replace HRA := Pin.Aside.mk (HRA.out.keep hka (id))
  clear hka
  go_upto_region 17 with fail
  generalize w11.alloc (.cells #[.int .i64 a.e, .string a.data] 28) = w12 at *
  generalize w11.heap.size = RB at *
  go_wp2_with fail
  refine (PU.out _ HV.out).mono ?_
  rintro x w13 ⟨rfl, hbb⟩
  have hkk : Keep (fun _ => False) w12 w13 := Keep.of_below hbb fun _ q _ => q
  replace HV := Pin.Aside.mk (HV.out.keep' hkk)
  replace hb := hb.trans (hbb.mono (by have := hb.size; rw [HBE.out] at this; omega))
  replace HE := Pin.Aside.mk (HE.out.keep hkk (id))
  replace HEr := Pin.Aside.mk (HEr.out.keep hkk (id))
  replace HRA := Pin.Aside.mk (HRA.out.keep hkk (id))
  replace HRB := Pin.Aside.mk (HRB.out.keep hkk (id))
  clear hbb hkk
  go_upto_region 18 with fail
  go_wp2_with fail
  refine (L0.out _ HV.out).mono ?_
  rintro x w14 ⟨rfl, hbb⟩
  have hkk : Keep (fun _ => False) w13 w14 := Keep.of_below hbb fun _ q _ => q
  replace HV := Pin.Aside.mk (HV.out.keep' hkk)
  replace hb := hb.trans (hbb.mono (by have := hb.size; rw [HBE.out] at this; omega))
  replace HE := Pin.Aside.mk (HE.out.keep hkk (id))
  replace HEr := Pin.Aside.mk (HEr.out.keep hkk (id))
  replace HRA := Pin.Aside.mk (HRA.out.keep hkk (id))
  replace HRB := Pin.Aside.mk (HRB.out.keep hkk (id))
  clear hbb hkk
  have hka := (Keep.refl (fun _ => False) w14).alloc (.cells #[.int .i64 a.e, .string a.data] 28)
  have HRL : Pin.Aside (ResAt (w14.alloc (.cells #[.int .i64 a.e, .string a.data] 28)) w14.heap.size ⟨a.e, a.data⟩) := Pin.Aside.mk (ResAt.new w14 ⟨a.e, a.data⟩ 28)
  have hLRL := HV.out.lt
  have hMRL : R < w14.heap.size := World.block_lt_of_cell? _ _ HE.out.c0
  replace HV := Pin.Aside.mk (HV.out.keep' hka)
  replace hb := hb.trans (hka.below (B := B) (by have := hb.size; rw [HBE.out] at this; omega) fun _ q => q.elim)
  replace HE := Pin.Aside.mk (HE.out.keep hka (id))
  replace HEr := Pin.Aside.mk (HEr.out.keep hka (id))
  replace HRA := Pin.Aside.mk (HRA.out.keep hka (id))
  replace HRB := Pin.Aside.mk (HRB.out.keep hka (id))
  clear hka
  go_upto_region 19 with fail
  generalize w14.alloc (.cells #[.int .i64 a.e, .string a.data] 28) = w15 at *
  generalize w14.heap.size = RL at *
  have fi := (HEr.out 4 (by decide)).2
  obtain ⟨c0, c1, c2, c3, c4, c5, c6, c7, c8, c9, c10⟩ := HE.out
  simp only [Nat.zero_add] at c1 c2 c3 c4 c5 c6 c7 c8 c9 c10
  have hks := (Keep.refl (fun k => k = R) w15).setCell (p := ⟨R, 4, none⟩) (.inl rfl) (.int .u64 4)
  have HE1 := Pin.Aside.mk (HE.out.set (e' := { E with client := 1, seq := 4 }) 4 (by decide) (.int .u64 4) rfl)
  have HEr1 := Pin.Aside.mk (HEr.out.setCell ⟨R, 4, none⟩ (.int .u64 4))
  replace HV := Pin.Aside.mk (HV.out.keep hks (by omega) (by omega) (by omega))
  replace hb := hb.trans (hks.below (B := B) (by have := hb.size; rw [HBE.out] at this; omega) (by rintro k rfl; exact hRB))
  replace HRA := Pin.Aside.mk (HRA.out.keep hks (by omega))
  replace HRB := Pin.Aside.mk (HRB.out.keep hks (by omega))
  replace HRL := Pin.Aside.mk (HRL.out.keep hks (by omega))
  clear hks HE HEr
  simp only [Nat.zero_add] at HE1
  go_upto_region 20 with fail
  clear c0 c1 c2 c3 c4 c5 c6 c7 c8 c9 c10 fi
  generalize w15.setCell ⟨R, 4, none⟩ (.int .u64 4) = w16 at *
  have HE := HE1
  have HEr := HEr1
  clear HE1 HEr1
  obtain ⟨c0, c1, c2, c3, c4, c5, c6, c7, c8, c9, c10⟩ := HE.out
  simp only [Nat.zero_add] at c1 c2 c3 c4 c5 c6 c7 c8 c9 c10
  go_wp2_with fail
  refine (A4.out _ HV.out).mono ?_
  rintro x w17 ⟨rfl, hV2, hk2⟩
  clear c0 c1 c2 c3 c4 c5 c6 c7 c8 c9 c10
  replace HV := Pin.Aside.mk hV2
  replace hb := hb.trans (hk2.below (B := B) (by have := hb.size; rw [HBE.out] at this; omega) (by rintro k (q | q | q) <;> omega))
  replace HE := Pin.Aside.mk (HE.out.keep hk2 (by rintro (q | q | q) <;> omega))
  replace HEr := Pin.Aside.mk (HEr.out.keep hk2 (by rintro (q | q | q) <;> omega))
  replace HRA := Pin.Aside.mk (HRA.out.keep hk2 (by rintro (q | q | q) <;> omega))
  replace HRB := Pin.Aside.mk (HRB.out.keep hk2 (by rintro (q | q | q) <;> omega))
  replace HRL := Pin.Aside.mk (HRL.out.keep hk2 (by rintro (q | q | q) <;> omega))
  clear hV2 hk2
  have hka := (Keep.refl (fun _ => False) w17).alloc (.cells #[.int .i64 12, .string noB] 28)
  have HRC : Pin.Aside (ResAt (w17.alloc (.cells #[.int .i64 12, .string noB] 28)) w17.heap.size ⟨12, noB⟩) := Pin.Aside.mk (ResAt.new w17 ⟨12, noB⟩ 28)
  have hLRC := HV.out.lt
  have hMRC : R < w17.heap.size := World.block_lt_of_cell? _ _ HE.out.c0
  replace HV := Pin.Aside.mk (HV.out.keep' hka)
  replace hb := hb.trans (hka.below (B := B) (by have := hb.size; rw [HBE.out] at this; omega) fun _ q => q.elim)
  replace HE := Pin.Aside.mk (HE.out.keep hka (id))
  replace HEr := Pin.Aside.mk (HEr.out.keep hka (id))
  replace HRA := Pin.Aside.mk (HRA.out.keep hka (id))
  replace HRB := Pin.Aside.mk (HRB.out.keep hka (id))
  replace HRL := Pin.Aside.mk (HRL.out.keep hka (id))
  clear hka
  go_upto_region 21 with fail
  generalize w17.alloc (.cells #[.int .i64 12, .string noB] 28) = w18 at *
  generalize w17.heap.size = RC at *
  have fi := (HEr.out 3 (by decide)).2
  obtain ⟨c0, c1, c2, c3, c4, c5, c6, c7, c8, c9, c10⟩ := HE.out
  simp only [Nat.zero_add] at c1 c2 c3 c4 c5 c6 c7 c8 c9 c10
  have hks := (Keep.refl (fun k => k = R) w18).setCell (p := ⟨R, 3, none⟩) (.inl rfl) (.int .u64 3)
  have HE1 := Pin.Aside.mk (HE.out.set (e' := { E with client := 3, seq := 4 }) 3 (by decide) (.int .u64 3) rfl)
  have HEr1 := Pin.Aside.mk (HEr.out.setCell ⟨R, 3, none⟩ (.int .u64 3))
  replace HV := Pin.Aside.mk (HV.out.keep hks (by omega) (by omega) (by omega))
  replace hb := hb.trans (hks.below (B := B) (by have := hb.size; rw [HBE.out] at this; omega) (by rintro k rfl; exact hRB))
  replace HRA := Pin.Aside.mk (HRA.out.keep hks (by omega))
  replace HRB := Pin.Aside.mk (HRB.out.keep hks (by omega))
  replace HRL := Pin.Aside.mk (HRL.out.keep hks (by omega))
  replace HRC := Pin.Aside.mk (HRC.out.keep hks (by omega))
  clear hks HE HEr
  simp only [Nat.zero_add] at HE1
  go_upto_region 22 with fail
  clear c0 c1 c2 c3 c4 c5 c6 c7 c8 c9 c10 fi
  generalize w18.setCell ⟨R, 3, none⟩ (.int .u64 3) = w19 at *
  have HE := HE1
  have HEr := HEr1
  clear HE1 HEr1
  obtain ⟨c0, c1, c2, c3, c4, c5, c6, c7, c8, c9, c10⟩ := HE.out
  simp only [Nat.zero_add] at c1 c2 c3 c4 c5 c6 c7 c8 c9 c10
  go_wp2_with fail
  refine (A5.out _ HV.out).mono ?_
  rintro x w20 ⟨rfl, hV2, hk2⟩
  clear c0 c1 c2 c3 c4 c5 c6 c7 c8 c9 c10
  replace HV := Pin.Aside.mk hV2
  replace hb := hb.trans (hk2.below (B := B) (by have := hb.size; rw [HBE.out] at this; omega) (by rintro k (q | q | q) <;> omega))
  replace HE := Pin.Aside.mk (HE.out.keep hk2 (by rintro (q | q | q) <;> omega))
  replace HEr := Pin.Aside.mk (HEr.out.keep hk2 (by rintro (q | q | q) <;> omega))
  replace HRA := Pin.Aside.mk (HRA.out.keep hk2 (by rintro (q | q | q) <;> omega))
  replace HRB := Pin.Aside.mk (HRB.out.keep hk2 (by rintro (q | q | q) <;> omega))
  replace HRL := Pin.Aside.mk (HRL.out.keep hk2 (by rintro (q | q | q) <;> omega))
  replace HRC := Pin.Aside.mk (HRC.out.keep hk2 (by rintro (q | q | q) <;> omega))
  clear hV2 hk2
  have hka := (Keep.refl (fun _ => False) w20).alloc (.cells #[.int .i64 12, .string noB] 28)
  have HRD : Pin.Aside (ResAt (w20.alloc (.cells #[.int .i64 12, .string noB] 28)) w20.heap.size ⟨12, noB⟩) := Pin.Aside.mk (ResAt.new w20 ⟨12, noB⟩ 28)
  have hLRD := HV.out.lt
  have hMRD : R < w20.heap.size := World.block_lt_of_cell? _ _ HE.out.c0
  replace HV := Pin.Aside.mk (HV.out.keep' hka)
  replace hb := hb.trans (hka.below (B := B) (by have := hb.size; rw [HBE.out] at this; omega) fun _ q => q.elim)
  replace HE := Pin.Aside.mk (HE.out.keep hka (id))
  replace HEr := Pin.Aside.mk (HEr.out.keep hka (id))
  replace HRA := Pin.Aside.mk (HRA.out.keep hka (id))
  replace HRB := Pin.Aside.mk (HRB.out.keep hka (id))
  replace HRL := Pin.Aside.mk (HRL.out.keep hka (id))
  replace HRC := Pin.Aside.mk (HRC.out.keep hka (id))
  clear hka
  go_upto_region 23 with fail
  generalize w20.alloc (.cells #[.int .i64 12, .string noB] 28) = w21 at *
  generalize w20.heap.size = RD at *
  go_wp2_with fail
  refine (A6.out _ HV.out).mono ?_
  rintro x w22 ⟨rfl, hV2, hk2⟩
  replace HV := Pin.Aside.mk hV2
  replace hb := hb.trans (hk2.below (B := B) (by have := hb.size; rw [HBE.out] at this; omega) (by rintro k (q | q | q) <;> omega))
  replace HE := Pin.Aside.mk (HE.out.keep hk2 (by rintro (q | q | q) <;> omega))
  replace HEr := Pin.Aside.mk (HEr.out.keep hk2 (by rintro (q | q | q) <;> omega))
  replace HRA := Pin.Aside.mk (HRA.out.keep hk2 (by rintro (q | q | q) <;> omega))
  replace HRB := Pin.Aside.mk (HRB.out.keep hk2 (by rintro (q | q | q) <;> omega))
  replace HRL := Pin.Aside.mk (HRL.out.keep hk2 (by rintro (q | q | q) <;> omega))
  replace HRC := Pin.Aside.mk (HRC.out.keep hk2 (by rintro (q | q | q) <;> omega))
  replace HRD := Pin.Aside.mk (HRD.out.keep hk2 (by rintro (q | q | q) <;> omega))
  clear hV2 hk2
  have hka := (Keep.refl (fun _ => False) w22).alloc (.cells #[.int .i64 a.e, .string a.data] 28)
  have HRE : Pin.Aside (ResAt (w22.alloc (.cells #[.int .i64 a.e, .string a.data] 28)) w22.heap.size ⟨a.e, a.data⟩) := Pin.Aside.mk (ResAt.new w22 ⟨a.e, a.data⟩ 28)
  have hLRE := HV.out.lt
  have hMRE : R < w22.heap.size := World.block_lt_of_cell? _ _ HE.out.c0
  replace HV := Pin.Aside.mk (HV.out.keep' hka)
  replace hb := hb.trans (hka.below (B := B) (by have := hb.size; rw [HBE.out] at this; omega) fun _ q => q.elim)
  replace HE := Pin.Aside.mk (HE.out.keep hka (id))
  replace HEr := Pin.Aside.mk (HEr.out.keep hka (id))
  replace HRA := Pin.Aside.mk (HRA.out.keep hka (id))
  replace HRB := Pin.Aside.mk (HRB.out.keep hka (id))
  replace HRL := Pin.Aside.mk (HRL.out.keep hka (id))
  replace HRC := Pin.Aside.mk (HRC.out.keep hka (id))
  replace HRD := Pin.Aside.mk (HRD.out.keep hka (id))
  clear hka
  go_upto_region 24 with fail
  generalize w22.alloc (.cells #[.int .i64 a.e, .string a.data] 28) = w23 at *
  generalize w22.heap.size = RE at *
  obtain ⟨ra0, ra1⟩ := HRA.out
  obtain ⟨rb0, rb1⟩ := HRB.out
  obtain ⟨rl0, rl1⟩ := HRL.out
  obtain ⟨rc0, rc1⟩ := HRC.out
  obtain ⟨rd0, rd1⟩ := HRD.out
  obtain ⟨re0, re1⟩ := HRE.out
  dsimp only at ra0 ra1 rb0 rb1 rl0 rl1 rc0 rc1 rd0 rd1 re0 re1
  go_wp2_with fail
  refine (PU.out _ HV.out).mono ?_
  rintro x wz ⟨rfl, hbb⟩
  replace hb := hb.trans (hbb.mono (by have := hb.size; rw [HBE.out] at this; omega))
  go_wp2_with fail
  go_ret
  exact ⟨rfl, by rw [HBE.out]; exact hb⟩
theorem vdiskOnce_walk (term index kind client seq block many node level : Int) (data old : ByteArray) (own : Bool) (s t : ByteArray)
    (h1 : 0 ≤ term ∧ term ≤ 18446744073709551615) (h2 : 0 ≤ index ∧ index ≤ 18446744073709551615) (h3 : -9223372036854775808 ≤ kind ∧ kind ≤ 9223372036854775807) (h4 : 0 ≤ client ∧ client ≤ 18446744073709551615) (h5 : 0 ≤ seq ∧ seq ≤ 18446744073709551615) (h6 : 0 ≤ block ∧ block ≤ 18446744073709551615) (h7 : 0 ≤ many ∧ many ≤ 18446744073709551615) (h8 : -9223372036854775808 ≤ node ∧ node ≤ 9223372036854775807) (h9 : -9223372036854775808 ≤ level ∧ level ≤ 9223372036854775807) (h10 : data.size ≤ 140737488351232) (h11 : old.size ≤ 140737488351232) (hs : s.size ≤ 140737488351232) (ht : t.size ≤ 140737488351232) (w : World) :
    Calls Tryd.prog 8 #[.agg #[.int .u64 term, .int .u64 index, .int .i64 kind, .int .u64 client, .int .u64 seq, .int .u64 block, .int .u64 many, .int .i64 node, .int .i64 level, .string data, .string old, .bool own], .string s, .string t] w fun x w' => x = .returned (.bool true) ∧ Below w.heap.size w w' :=
  once_core ⟨term, index, kind, client, seq, block, many, node, level, data, old⟩ ⟨h1, h2, h3, h4, h5, h6, h7, h8, h9, by dsimp only; omega, by dsimp only; omega⟩ own s t hs ht w
end Go.Proofs.YtpebpcmppcpkdaaDoor
