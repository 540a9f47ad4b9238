/- VdiskSwaps: its walk. -/
import Derived.Test.YtpebpcmppcpkdaaDoorVdiskSwapsM
import Derived.OpenShut
set_option maxRecDepth 16000
namespace Go.Proofs.YtpebpcmppcpkdaaDoor
open Go.RowKit Go.Pin
set_option linter.unusedVariables false
set_option linter.unusedSimpArgs false
set_option maxHeartbeats 3200000 in
theorem vdiskSwaps_walk (s t u : ByteArray) (hs : s.size ≤ 140737488351232) (ht : t.size ≤ 140737488351232) (hu : u.size ≤ 140737488351232) (w : World) :
    Calls Tryd.prog 4 #[.string s, .string t, .string u] w fun e w' => e = .returned (.bool true) ∧ Below w.heap.size w w' := by
  obtain ⟨ms, hms, hms1, hms2⟩ : ∃ m : Nat, min (s.size : Int) 64 = (m : Int) ∧ m ≤ 64 ∧ m ≤ s.size := ⟨min s.size 64, by omega, by omega, by omega⟩
  obtain ⟨S, hcS, hzS⟩ : ∃ X, s.extract 0 ms = X ∧ X.size ≤ 64 := ⟨_, rfl, by rw [ByteArray.size_extract]; omega⟩
  obtain ⟨mt, hmt, hmt1, hmt2⟩ : ∃ m : Nat, min (t.size : Int) 64 = (m : Int) ∧ m ≤ 64 ∧ m ≤ t.size := ⟨min t.size 64, by omega, by omega, by omega⟩
  obtain ⟨T, hcT, hzT⟩ : ∃ X, t.extract 0 mt = X ∧ X.size ≤ 64 := ⟨_, rfl, by rw [ByteArray.size_extract]; omega⟩
  obtain ⟨mu, hmu, hmu1, hmu2⟩ : ∃ m : Nat, min (u.size : Int) 64 = (m : Int) ∧ m ≤ 64 ∧ m ≤ u.size := ⟨min u.size 64, by omega, by omega, by omega⟩
  obtain ⟨U, hcU, hzU⟩ : ∃ X, u.extract 0 mu = X ∧ X.size ≤ 64 := ⟨_, rfl, by rw [ByteArray.size_extract]; omega⟩
  have hb := Below.refl w.heap.size w
  have hB0 : w.heap.size ≤ w.heap.size := Nat.le_refl _
  generalize hB : w.heap.size = B at hb hB0
  have E0 := Pin.Aside.mk (mk_examples15 w)
  have G0 := Pin.Aside.mk (mk_begun 2 (by decide))
  obtain ⟨D1, D2, r, R, Q, h1, ok1, h2, ok2, hrd, hlaw⟩ := vd_swaps S T U hzS hzT hzU
  have A1 := Pin.Aside.mk (fun b mb mo W (hW : VdAt W b mb mo (vdBegun 2)) => vd_apply b mb mo (vdBegun 2) (enOf 1 1 1 1 0 S noB) (enOf_ok _ _ _ _ _ _ _ (by decide) (by decide) (by decide) (by decide) (by decide) (by omega) (by decide)) (begun_ok 2 (by decide)) W hW)
  have A2 := Pin.Aside.mk (fun b mb mo W (hW : VdAt W b mb mo D1) => vd_apply b mb mo D1 (enOf 11 1 2 1 0 U T) (enOf_ok _ _ _ _ _ _ _ (by decide) (by decide) (by decide) (by decide) (by decide) (by omega) (by omega)) ok1 W hW)
  rw [h1] at A1
  rw [h2] at A2
  dsimp only [En.cells, Res.val] at A1 A2
  have R0 := Pin.Aside.mk (fun b mb mo W (hW : VdAt W b mb mo D2) => vd_read b mb mo D2 1 (by have := ok2.many; omega) (by decide) (ok2.blk _) W hW)
  rw [hrd] at R0
  dsimp only at R0
  clear h1 h2 hrd ok1 ok2
  have KS := Pin.Aside.mk (fun W => mk_whole S hzS W)
  have KT := Pin.Aside.mk (fun W => mk_whole T hzT W)
  have KU := Pin.Aside.mk (fun W => mk_whole U hzU W)
  have HL := Pin.Aside.mk hlaw
  clear hlaw
  generalize wholeB S = WS at *
  generalize wholeB T = WT at *
  generalize wholeB U = WU at *
  have hse := str_beq
  go_enter Tryd.func4, Tryd.ntmps4
  go_wp2_with fail
  refine E0.out.mono ?_
  rintro x w1 ⟨rfl, hbb⟩
  replace hb := hb.trans (by rw [← hB]; exact hbb)
  clear hbb
  go_wp2_with fail
  refine (G0.out _).mono ?_
  rintro x w2 ⟨b, mb, mo, rfl, hV, hq, hbb⟩
  have HV := Pin.Aside.mk hV
  have hq1 : B ≤ b := Nat.le_trans (by have := hb.size; omega) hq.1
  have hq2 : B ≤ mb := Nat.le_trans (by have := hb.size; omega) hq.2.1
  have hq3 : B ≤ mo := Nat.le_trans (by have := hb.size; omega) hq.2.2
  replace hb := hb.trans (hbb.mono (by have := hb.size; omega))
  clear hV hq hbb
  go_wp2_with fail
  clear hcS hcT hcU hms hmt hmu
  go_wp2_with fail
  refine (A1.out b mb mo _ HV.out).mono ?_
  rintro x w3 ⟨rfl, hV2, hk2⟩
  replace HV := Pin.Aside.mk hV2
  replace hb := hb.trans (hk2.below (B := B) (by have := hb.size; omega) (by rintro k (q | q | q) <;> omega))
  clear hV2 hk2
  go_wp2_with fail
  refine (A2.out b mb mo _ HV.out).mono ?_
  rintro x w4 ⟨rfl, hV2, hk2⟩
  have hka := (Keep.refl (fun _ => False) w4).alloc (.cells #[.int .i64 R.e, .string R.data] 28)
  have HV2 := Pin.Aside.mk (hV2.keep' hka)
  have RA0 : (w4.alloc (.cells #[.int .i64 R.e, .string R.data] 28)).cell? ⟨w4.heap.size, 0, none⟩ = some (.int .i64 R.e) := by simp
  have RA1 : (w4.alloc (.cells #[.int .i64 R.e, .string R.data] 28)).cell? ⟨w4.heap.size, 1, none⟩ = some (.string R.data) := by simp
  replace hb := (hb.trans (hk2.below (B := B) (by have := hb.size; omega) (by rintro k (q | q | q) <;> omega))).trans (hka.below (B := B) (by have := hb.size; have := hk2.size; omega) fun _ q => q.elim)
  clear hk2 hka hV2
  go_upto_region 12 with fail
  generalize World.alloc w4 _ = w5 at *
  generalize w4.heap.size = RA at *
  clear HV
  go_wp2_with fail
  refine (R0.out b mb mo _ HV2.out).mono ?_
  rintro x w6 ⟨rfl, hbb⟩
  have hkk : Keep (fun _ => False) w5 w6 := Keep.of_below hbb fun _ q _ => q
  replace RA0 := hkk.cell RA0 id
  replace RA1 := hkk.cell RA1 id
  replace hb := hb.trans (hbb.mono (by have := hb.size; omega))
  clear hbb hkk HV2 R0
  go_wp2_with fail
  refine (KS.out _).mono ?_
  rintro x w7 ⟨rfl, hbb⟩
  have hkk : Keep (fun _ => False) w6 w7 := Keep.of_below hbb fun _ q _ => q
  replace RA0 := hkk.cell RA0 id
  replace RA1 := hkk.cell RA1 id
  replace hb := hb.trans (hbb.mono (by have := hb.size; omega))
  clear hbb hkk
  go_wp2_with fail
  refine (KT.out _).mono ?_
  rintro x w8 ⟨rfl, hbb⟩
  have hkk : Keep (fun _ => False) w7 w8 := Keep.of_below hbb fun _ q _ => q
  replace RA0 := hkk.cell RA0 id
  replace RA1 := hkk.cell RA1 id
  replace hb := hb.trans (hbb.mono (by have := hb.size; omega))
  clear hbb hkk
  rcases HL.out with ⟨hq, hR, hQ⟩ | ⟨hq, hR, hQ⟩
  · subst hQ hR
    go_wp2_with fail
    refine (KU.out _).mono ?_
    rintro x w9 ⟨rfl, hbb⟩
    replace hb := hb.trans (hbb.mono (by have := hb.size; omega))
    clear hbb
    go_wp2_with fail
    go_ret
    exact ⟨rfl, hb⟩
  · subst hQ hR
    go_wp2_with fail
    have k0 : ∀ s' : KW (fun _ => False) w8, s'.w.cell? ⟨RA, 0, none⟩ = some (.int .i64 11) := fun s' => s'.keep.cell RA0 id
    have k1 : ∀ s' : KW (fun _ => False) w8, s'.w.cell? ⟨RA, 1, none⟩ = some (.string Q) := fun s' => s'.keep.cell RA1 id
    refine wp_region_keep (fun _ => False) (by kernel_rfl) (by kernel_rfl) ?_
    repeat (go_big_quiet_step ((go_at_call 13; with_reducible exact KW.calls (KS.out _))))
    refine wpQuiet_nil ?_
    intro s4
    have hbs := s4.below
    replace hb := hb.trans (hbs.mono (by have := hb.size; omega))
    clear k0 k1 hbs
    go_wp2_with fail
    go_ret
    exact ⟨rfl, hb⟩
end Go.Proofs.YtpebpcmppcpkdaaDoor
