/- HistoryFits: walk. -/
import Derived.Test.YtnilfjkodlmenaaDoorHistoryShiftM
import Derived.Test.YtnilfjkodlmenaaDoorHiI
import Derived.Test.YtnilfjkodlmenaaDoorHiJ
import Derived.Test.YtnilfjkodlmenaaDoorHiX
import Derived.Test.YtnilfjkodlmenaaDoorHiT
import Derived.BigQuiet
import Derived.Deep.CutBlock
import Derived.Deep.MidRow
import Derived.Laws.OwnMore
set_option maxRecDepth 16000
namespace Go.Pin
open Go.RowKit
set_option linter.unusedVariables false
set_option linter.unusedSimpArgs false
/-- Which are met: a row of truth values. -/
structure MetAt (w : World) (M n done : Nat) : Prop where
  cell : ∀ j, j < n → w.cell? ⟨M, j, none⟩ = some (.bool (done.testBit j))
  fr : ∀ j, j < n → w.frozen? ⟨M, j, none⟩ = false
theorem MetAt.keep {S : Nat → Prop} {a w : World} {M n done : Nat} (h : MetAt a M n done) (hk : Keep S a w) (hn : ¬ S M) : MetAt w M n done :=
  ⟨fun j hj => hk.cell (h.cell j hj) hn, fun j hj => (hk.frozen_at (q := ⟨M, j, none⟩) (h.cell j hj) rfl hn).trans (h.fr j hj)⟩
theorem MetAt.set {w : World} {M n done : Nat} (h : MetAt w M n done) (k : Nat) (hk : k < n) : MetAt (w.setCell ⟨M, k, none⟩ (.bool true)) M n (done ||| 1 <<< k) := by
  refine ⟨fun j hj => ?_, fun j hj => by rw [World.frozen?_setCell]; exact h.fr j hj⟩
  rw [bit_or]
  by_cases q : k = j
  · subst q
    rw [decide_eq_true rfl, Bool.or_true]
    exact World.cell?_setCell_same _ _ _ (h.cell k hk)
  · rw [decide_eq_false q, Bool.or_false, World.cell?_setCell_other _ _ _ _ (by simp <;> omega)]
    exact h.cell j hj
theorem hRow.rangeF {w : World} {H g n c : Nat} {L : List HOp} (h : hRow w H (.slice (some ⟨g, 0, none⟩) n c) L) {k : Nat} {x : HOp} (hx : L[k]? = some x) : w.rangeAt g (k * 15) x.cells.toList := by
  intro i v hv
  obtain ⟨A, o, q, h1⟩ := h.ops.at' k x hx
  injection q with q
  injection q with q1 q2
  subst q1 q2
  have := h1.row i v hv
  rw [Nat.zero_add] at this; exact this
theorem hmay_test {L : List HOp} {done k j : Nat} (h : hMay L done k = true) (hj : j < L.length) : (done ||| 1 <<< k).testBit j = true ∨ (hAt L j).stop = 0 ∨ (hAt L k).start < (hAt L j).stop := by
  unfold hMay at h
  rw [Bool.and_eq_true] at h
  have := List.all_eq_true.1 h.1 j (List.mem_range.2 hj)
  simp only [Bool.or_eq_true, decide_eq_true_eq] at this
  rw [bit_or]
  rcases this with ((q | q) | q) | q
  · left; rw [q, decide_eq_true rfl, Bool.or_true]
  · exact .inr (.inl q)
  · left; rw [q]; rfl
  · exact .inr (.inr q)
theorem hover_test {L : List HOp} {done j : Nat} (h : hOver L done = true) (hj : j < L.length) : done.testBit j = true ∨ (hAt L j).stop = 0 := by
  unfold hOver at h
  have := List.all_eq_true.1 h j (List.mem_range.2 hj)
  rw [Bool.or_eq_true] at this
  rcases this with q | q
  · exact .inr (of_decide_eq_true q)
  · exact .inl q
end Go.Pin
namespace Go.Proofs.YtnilfjkodlmenaaDoor
open Go.RowKit Go.Pin
set_option linter.unusedVariables false
set_option linter.unusedSimpArgs false
theorem make_met (w : World) (n : Nat) (hn : n ≤ 100) : ∃ w', (Instr.makeSlice 58 (.int .i64 (n : Int)) (.int .i64 (n : Int))).run Tryd.prog w = .ok (.slice (some ⟨w.heap.size, 0, none⟩) n n) w' ∧ MetAt w' w.heap.size n 0 ∧ Keep (fun _ => False) w w' ∧ w.heap.size ≤ w'.heap.size := by
  have hp : (Tryd.prog.info? 4).map (fun i => (i.zero, i.size, i.bytes)) = some (some (.bool false), 1, 1) := by kernel_rfl
  obtain ⟨i0, hi, hz0, hz1, hz2⟩ := info_parts hp
  obtain ⟨w', h1, h2, h3⟩ := run_make_full (P := Tryd.prog) w w.heap.size 58 4 i0 (.bool false) 1 Tryd.underlying58 hi hz0 hz1 .i64 .i64 n (by rw [hz2]; omega) (by unfold maxLen; omega) (Nat.le_refl _)
  refine ⟨w', h1, ⟨fun j hj => ?_, fun j hj => World.ownsRow.frozenAt h2 j⟩, ⟨h3.os, h3.tape, h3.output, h3.size, fun k hk _ => h3.block k hk (by simp)⟩, h3.size⟩
  rw [World.ownsRow.cellAt h2 j (by omega), Nat.zero_testBit]
  have : (madeCells (Value.bool false).cells (n * 1)).toList = List.replicate (n * 1) (.bool false) := toList_madeCells_one (.bool false) (n * 1)
  rw [this, List.getElem?_replicate, if_pos (by omega)]
set_option maxHeartbeats 12800000 in
theorem historyFits_walk (a0 : Option Addr) (len0 cap0 : Nat) (w : World) (H0 : isSlice rawPs w (.slice a0 len0 cap0)) (hT : HTab w) :
    Calls Tryd.prog 8 #[.slice a0 len0 cap0] w fun e w' => e = .returned (.bool true) ∧ Below w.heap.size w w' := by
  obtain ⟨R, hR, _⟩ := raws_of_slice H0
  have hl63 : len0 ≤ 9223372036854775807 := by
    obtain ⟨a', l', c', q, h1, h2, _⟩ := H0
    injection q with q1 q2 q3
    omega
  have hRo : ∀ r ∈ R.take 7, r.ok := fun r hr => hR.ok r (List.mem_of_mem_take hr)
  have hl7 : (R.take 7).length ≤ 7 := by rw [List.length_take]; omega
  have HE := Pin.Aside.mk (fun W => law21_examples W)
  have HSt := Pin.Aside.mk (fun W hW => hi_story a0 len0 cap0 R 7 (by omega) hl63 W hW)
  have HR := Pin.Aside.mk hR
  have HT := Pin.Aside.mk hT
  have HLok := Pin.Aside.mk (story_ok (R.take 7) hRo)
  have HLr := Pin.Aside.mk (story_right (R.take 7) hRo (by omega))
  have hLl : (hStory (R.take 7) []).length ≤ 7 := by rw [story_len]; exact hl7
  have HB := Pin.Aside.mk (Below.refl w.heap.size w)
  clear H0 hR hRo hl7 hl63 hT
  obtain ⟨L, hLq⟩ : ∃ L, hStory (R.take 7) [] = L := ⟨_, rfl⟩
  rw [hLq] at HSt HLok HLr hLl
  clear hLq
  obtain ⟨n, hn⟩ : ∃ n, L.length = n := ⟨_, rfl⟩
  have HN := Pin.Aside.mk hn
  rw [hn] at hLl
  clear hn
  go_enter Tryd.func8, Tryd.ntmps8
  go_wp2_with fail
  refine (HE.out _).mono ?_
  rintro x w1 ⟨rfl, hb1⟩
  replace HB := Pin.Aside.mk (HB.out.trans (hb1.mono HB.out.size))
  have HSt1 := Pin.Aside.mk (HSt.out w1 (HR.out.keep (Keep.of_below hb1 fun _ q _ => q : Keep (fun _ => False) w w1) fun _ _ _ _ => id))
  clear hb1 HE HSt
  go_wp2_with fail
  refine HSt1.out.mono ?_
  rintro y w2 ⟨v6, rfl, hrow, hb2⟩
  obtain ⟨p6, c6, rfl⟩ := hrow.slice
  rw [HN.out]
  replace HB := Pin.Aside.mk (HB.out.trans (hb2.mono HB.out.size))
  have HW6 := Pin.Aside.mk (show hRow w2 w1.heap.size (.slice p6 n c6) L by rw [← HN.out]; exact hrow)
  clear hrow hb2 HSt1
  have HO1 := Pin.Aside.mk (hi_order L (by rw [HN.out]; omega) HLok.out p6 c6 w2 HW6.out.ops (by rw [HN.out]; exact itoa_tab n (by omega) w2 (HT.out.below HB.out)))
  rw [HN.out] at HO1
  unfold OrderMade at HO1
  go_wp2_with fail
  refine HO1.out.mono ?_
  rintro y w3 ⟨va, rfl, hva, hb3⟩
  have H6 := Pin.Aside.mk (HW6.out.below hb3)
  have HB3 := Pin.Aside.mk (HB.out.trans (hb3.mono HB.out.size))
  have HVa := Pin.Aside.mk hva
  clear hva hb3 HO1 HW6 HB
  obtain ⟨xo, hxo⟩ : ∃ xo, hOrder L = xo := ⟨_, rfl⟩
  rw [hxo] at HVa
  rw [hxo]
  have HXo := Pin.Aside.mk hxo
  clear hxo
  cases xo with
  | none =>
    obtain ⟨pa, ca, hvaq, _, _⟩ := HVa.out.of
    simp only [Option.isSome_none, Option.getD_none, List.length_nil] at hvaq ⊢
    subst hvaq
    go_wp2_with fail
    go_ret
    exact ⟨rfl, HB3.out⟩
  | some r =>
    simp only [Option.isSome_some, Option.getD_some] at HVa ⊢
    have HF0 : Pin.Aside (hFits L 0 [] r) := Pin.Aside.mk (by
      have h1 : hs L L.length 0 [] = some r := by have := HXo.out; unfold hOrder at this; rw [if_pos HLr.out] at this; exact this
      exact hs_fits L _ _ _ _ h1)
    obtain ⟨pa, ca, hvaq, _, _⟩ := HVa.out.of
    obtain ⟨m, hm⟩ : ∃ m, r.length = m := ⟨_, rfl⟩
    rw [hm] at hvaq
    have HM := Pin.Aside.mk hm
    have hm7 : m ≤ 7 := by
      have h2 := fits_left L r 0 [] HF0.out
      rw [hLeft_none, HN.out] at h2
      omega
    clear hm
    subst hvaq
    obtain ⟨w4, hmk, hMet, hk4, hs4⟩ := make_met w3 n (by omega)
    have HMet := Pin.Aside.mk hMet
    have H64 := Pin.Aside.mk (H6.out.keep hk4 fun _ _ _ => id)
    have HB4 := Pin.Aside.mk (HB3.out.trans (hk4.below HB3.out.size fun _ q => q.elim))
    have HVa4 := Pin.Aside.mk (HVa.out.keep hk4 fun _ _ _ => id)
    have hMb : Pin.Aside (∀ g o, p6 = some ⟨g, o, none⟩ → g < w3.heap.size) := Pin.Aside.mk fun g o q => (World.ownsRow.lt H6.out g (by rw [q]; rfl)).2
    have hMa : Pin.Aside (∀ g o, pa = some ⟨g, o, none⟩ → g < w3.heap.size) := Pin.Aside.mk fun g o q => by
      obtain ⟨p', c', q1, h2, _⟩ := HVa.out.of
      injection q1 with q1
      exact (h2 g o (by rw [← q1]; exact q)).2
    have hwM : w.heap.size ≤ w3.heap.size := HB3.out.size
    clear hMet hk4 H6 HB3 HVa
    go_upto_region 11 with fail
    clear hmk
    generalize w3.heap.size = Mb at *
    obtain ⟨HN2, hHN2⟩ : ∃ h, w2.heap.size = h := ⟨_, rfl⟩
    rw [hHN2] at HVa4
    clear hHN2
    go_loopw [8, 9] (fun x y wr => ∃ (i : Nat) (vb : Value) (done : Nat) (B : List ByteArray), i ≤ m ∧ x = vb ∧ y = .int .i64 i ∧ Pin.Aside (hFits L done B (r.drop i)) ∧ Pin.Aside (HBlk B) ∧ Pin.Aside (BlkAt wr vb B) ∧ Pin.Aside (∀ p n c g o, vb = .slice p n c → p = some ⟨g, o, none⟩ → ¬ g = Mb) ∧ Pin.Aside (MetAt wr Mb n done) ∧ Pin.Aside (hRow wr w1.heap.size (.slice p6 n c6) L) ∧ Pin.Aside (NumsAt wr HN2 (.slice pa m ca) r) ∧ Pin.Aside (Below w.heap.size w wr) ∧ Pin.Aside (Mb ≤ wr.heap.size)) (fun x y _ => m - (intOf y).toNat)
    case atStart => exact ⟨0, .slice none 0 0, 0, [], by omega, rfl, rfl, HF0, Pin.Aside.mk HBlk.nil, Pin.Aside.mk ⟨.inl ⟨rfl, rfl⟩⟩, Pin.Aside.mk (fun p n c g o q q2 => by injection q with q; rw [q2] at q; cases q), HMet, H64, HVa4, HB4, Pin.Aside.mk hs4⟩
    case round =>
      clear HMet H64 HVa4 HB4 hs4 HF0
      obtain ⟨i, vb, done, B, hi, e8, rfl, HF, HBk, HV, HVM, HMet, H6, HVa, HB, HMw⟩ := hrel
      replace e8 := e8.symm
      subst e8
      by_cases him : i < m
      · obtain ⟨k, hk⟩ : ∃ k, r[i]? = some k := ⟨r[i]'(by rw [HM.out]; exact him), List.getElem?_eq_getElem _⟩
        have hdr : r.drop i = k :: r.drop (i + 1) := by
          have h1 : i < r.length := by rw [HM.out]; exact him
          rw [List.drop_eq_getElem_cons h1]
          rw [List.getElem?_eq_getElem h1] at hk
          injection hk with hk
          rw [hk]
        have hF := HF.out
        rw [hdr] at hF
        obtain ⟨hkL, hmay, htold, hrest⟩ := hF
        have HMay := Pin.Aside.mk hmay
        have HTold := Pin.Aside.mk htold
        have HRest := Pin.Aside.mk hrest
        have hkn : k < n := by rw [HN.out] at hkL; exact hkL
        have hx : L[k]? = some (hAt L k) := by
          unfold hAt
          rw [List.getD, List.getElem?_eq_getElem hkL]; rfl
        obtain ⟨x, hxq⟩ : ∃ x, hAt L k = x := ⟨_, rfl⟩
        rw [hxq] at hx HTold HRest
        have HXq := Pin.Aside.mk hxq
        have HX := Pin.Aside.mk hx
        obtain ⟨pa', ca', qa, _, ha3⟩ := HVa.out.of
        obtain ⟨ga, hga, hca⟩ := ha3 i k hk
        injection qa with qa1 qa2 qa3
        rw [← qa1] at hga
        obtain ⟨G, hG, hGn, hG1, hG2⟩ := H6.out.form (by rw [HN.out]; omega)
        have hGM : ¬ G = Mb := fun q => by have := hMb.out G 0 hG; omega
        have hgaM : ¬ ga = Mb := fun q => by have := hMa.out ga 0 hga; omega
        clear qa1 qa2 qa3 ha3 hk hdr hmay htold hrest hxq hx hkL hGn
        subst hga hG
        have hi0 : (0 : Int) ≤ (i : Int) := by omega
        have hi1 : (i : Int) < (m : Int) := by omega
        have hk0 : (0 : Int) ≤ (k : Int) := by omega
        have hk1 : (k : Int) < (n : Int) := by omega
        have hk2 : ¬ (k : Int) < 0 := by omega
        have hk3 : ¬ (n : Int) ≤ (k : Int) := by omega
        have hbit := hMay_bit HMay.out
        have cm := HMet.out.cell k hkn
        rw [hbit] at cm
        have fm := HMet.out.fr k hkn
        have hks := (Keep.refl (fun j => j = Mb) wr).setCell (p := ⟨Mb, k, none⟩) (.inl rfl) (.bool true)
        have HMet5 := Pin.Aside.mk (HMet.out.set k hkn)
        have H65 := Pin.Aside.mk (hRow.keepB H6.out hks hGM)
        have HVa5 : Pin.Aside (NumsAt (wr.setCell ⟨Mb, k, none⟩ (.bool true)) HN2 (.slice (some ⟨ga, 0, none⟩) m ca) r) := Pin.Aside.mk (by
          obtain ⟨p', c', q1, h2, h3⟩ := HVa.out.of
          refine ⟨⟨p', c', q1, fun g o q => ⟨(h2 g o q).1, Nat.lt_of_lt_of_le (h2 g o q).2 hks.size⟩, fun j q hj => ?_⟩⟩
          obtain ⟨g, hg, hc⟩ := h3 j q hj
          refine ⟨g, hg, hks.cell hc ?_⟩
          injection q1 with q1
          rw [← q1] at hg
          injection hg with hg
          injection hg with hg
          show ¬ g = Mb
          rw [← hg]; exact hgaM)
        have HV5 := Pin.Aside.mk (BlkAt.keepV HV.out hks (fun p n c b o q q2 => HVM.out p n c b o q q2))
        have HB5 := Pin.Aside.mk (HB.out.trans (hks.below HB.out.size (by rintro j rfl; exact hwM)))
        have hM5 : Mb < (wr.setCell ⟨Mb, k, none⟩ (.bool true)).heap.size := Nat.lt_of_lt_of_le (World.block_lt_of_cell? _ _ cm) hks.size
        have HM5 := Pin.Aside.mk hM5
        clear hks hbit hM5
        go_upto_region 18 with fail
        clear cm fm hca HMet H6 HVa HV HB
        generalize wr.setCell ⟨Mb, k, none⟩ (.bool true) = w5 at *
        go_loopw [11] (fun x wx => ∃ j : Nat, j ≤ n ∧ x = .int .i64 j ∧ Pin.Aside (Keep (fun _ => False) w5 wx)) (fun x _ => n - (intOf x).toNat)
        case atStart => exact ⟨0, by omega, rfl, Pin.Aside.mk (Keep.refl _ _)⟩
        case round =>
          obtain ⟨j, hj, rfl, HKx⟩ := hrel
          rename World => wx
          by_cases hjn : j < n
          · have hjL : j < L.length := by rw [HN.out]; exact hjn
            have hxj : L[j]? = some (hAt L j) := by
              unfold hAt
              rw [List.getD, List.getElem?_eq_getElem hjL]; rfl
            have htest := hmay_test HMay.out hjL
            rw [HXq.out] at htest
            obtain ⟨y, hyq⟩ : ∃ y, hAt L j = y := ⟨_, rfl⟩
            rw [hyq] at hxj htest
            have hR5 := hRow.keep H65.out HKx.out fun _ _ _ => id
            have cm := (HMet5.out.keep HKx.out id).cell j hjn
            have cs := hR5.rangeF hxj 12 (.int .u64 y.stop) rfl
            have ck := hR5.rangeF HX.out 11 (.int .u64 x.start) rfl
            have hj0 : (0 : Int) ≤ (j : Int) := by omega
            have hj1 : (j : Int) < (n : Int) := by omega
            clear hR5 hxj hyq hjL
            by_cases hbt : (done ||| 1 <<< k).testBit j = true
            · rw [hbt] at cm
              clear hbt htest
              go_upto_region 20 with fail
              go_quiet (fail)
              go_wp2_with fail
              go_roundw
              case rel => exact ⟨j + 1, by omega, by go_num, Pin.Aside.mk (by first | exact HKx.out | exact HKx.out.drewN _)⟩
              case measure => simp [intOf]; omega
            · have hbf : (done ||| 1 <<< k).testBit j = false := by simpa using hbt
              rw [hbf] at cm
              by_cases hs : y.stop = 0
              · have hne : (y.stop != 0) = false := by simp [hs]
                clear hbt hbf htest hs
                go_upto_region 20 with fail
                go_quiet (fail)
                go_wp2_with fail
                go_roundw
                case rel => exact ⟨j + 1, by omega, by go_num, Pin.Aside.mk (by first | exact HKx.out | exact HKx.out.drewN _)⟩
                case measure => simp [intOf]; omega
              · have hne : (y.stop != 0) = true := by simp [hs]
                have hlt : x.start < y.stop := by
                  rcases htest with q | q | q
                  · exact absurd q hbt
                  · exact absurd q hs
                  · exact q
                have hle : decide (y.stop ≤ x.start) = false := decide_eq_false (by omega)
                clear hbt hbf htest hs hlt
                go_upto_region 20 with fail
                go_quiet (fail)
                go_wp2_with fail
                go_roundw
                case rel => exact ⟨j + 1, by omega, by go_num, Pin.Aside.mk (by first | exact HKx.out | exact HKx.out.drewN _)⟩
                case measure => simp [intOf]; omega
          · obtain rfl : j = n := by omega
            have H6x := Pin.Aside.mk (hRow.keep H65.out HKx.out fun _ _ _ => id)
            have HVax := Pin.Aside.mk (HVa5.out.keep HKx.out fun _ _ _ => id)
            have HVx := Pin.Aside.mk (HV5.out.keep HKx.out)
            have HMx := Pin.Aside.mk (HMet5.out.keep HKx.out id)
            have HBx := Pin.Aside.mk (HB5.out.trans (HKx.out.below HB5.out.size fun _ q => q.elim))
            have hMx : Mb < wx.heap.size := Nat.lt_of_lt_of_le HM5.out HKx.out.size
            have hrg : wx.rangeAt G (k * 15) x.cells.toList := H6x.out.rangeF HX.out
            have hri : (Tryd.prog.info? 33).map (·.size) = some x.cells.toList.length := op_size
            have HDo := Pin.Aside.mk (hi_do B HBk.out.len HBk.out.all x (HLok.out x (List.mem_of_getElem? HX.out)) vb wx HVx.out)
            unfold HOp.cells at HDo
            clear H65 HVa5 HV5 HMet5 HB5 HKx
            go_upto_region 22 with fail
            go_wp2_with (with_reducible refine wpList_load_mid rfl 33 (.tmp 99) rfl G (k * 15) rfl x.cells.toList _ hrg Tryd.underlying33 rfl hri ?_)
            refine HDo.out.mono ?_
            rintro y w6 ⟨v', rfl, hV6, hfr, hb6⟩
            clear hrg HDo
            obtain ⟨pv, cv, hv'⟩ : ∃ p c, v' = .slice p (hdo B x).1.length c := by
              rcases hV6.of with ⟨q, q2⟩ | ⟨b, o, c, q, _⟩
              · exact ⟨none, 0, by rw [q, q2]; rfl⟩
              · exact ⟨_, _, q⟩
            obtain ⟨e1, hd1⟩ : ∃ e1, (hdo B x).2.1 = e1 := ⟨_, rfl⟩
            obtain ⟨r1, hd2⟩ : ∃ r1, (hdo B x).2.2 = r1 := ⟨_, rfl⟩
            rw [hd1, hd2]
            have hVM' : ∀ p n c g o, v' = .slice p n c → p = some ⟨g, o, none⟩ → ¬ g = Mb := fun p n c g o q q2 => by
              rcases hfr with h | h
              · exact HVM.out p n c g o (by rw [← h]; exact q) q2
              · have := h p n c q g o q2
                omega
            have htd : x.stop = 0 ∨ (e1 = x.re ∧ r1 = x.rd) := by
              have h := HTold.out
              unfold hTold at h
              rw [Bool.or_eq_true] at h
              rcases h with q | q
              · exact .inl (of_decide_eq_true q)
              · right
                have q2 := of_decide_eq_true q
                rw [← hd1, ← hd2, q2]
                exact ⟨rfl, rfl⟩
            have hk6 : Keep (fun _ => False) wx w6 := Keep.of_below hb6 fun _ q _ => q
            have hka := hk6.trans ((Keep.refl (fun _ => False) w6).alloc (.cells #[.int .i64 e1, .string r1] 31))
            have hV7 := hV6.keep ((Keep.refl (fun _ => False) w6).alloc (.cells #[.int .i64 e1, .string r1] 31))
            have HAll : Pin.Aside (∀ W, Keep (fun _ => False) (w6.alloc (.cells #[.int .i64 e1, .string r1] 31)) W → BlkAt W v' (hdo B x).1 ∧ MetAt W Mb j (done ||| 1 <<< k) ∧ hRow W w1.heap.size (.slice (some ⟨G, 0, none⟩) j c6) L ∧ NumsAt W HN2 (.slice (some ⟨ga, 0, none⟩) m ca) r ∧ Below w.heap.size w W ∧ Mb ≤ W.heap.size) := Pin.Aside.mk fun W hW => by
              have hKW := hka.trans hW
              exact ⟨hV7.keep hW, HMx.out.keep hKW id, hRow.keep H6x.out hKW fun _ _ _ => id, HVax.out.keep hKW fun _ _ _ => id, HBx.out.trans (hKW.below HBx.out.size fun _ q => q.elim), Nat.le_trans (Nat.le_of_lt hMx) hKW.size⟩
            have q0 : (w6.alloc (.cells #[.int .i64 e1, .string r1] 31)).cell? ⟨w6.heap.size, 0, none⟩ = some (.int .i64 e1) := by simp
            have q1 : (w6.alloc (.cells #[.int .i64 e1, .string r1] 31)).cell? ⟨w6.heap.size, 1, none⟩ = some (.string r1) := by simp
            have hr7 := hRow.keep H6x.out hka fun _ _ _ => id
            have c12 := hr7.rangeF HX.out 12 (.int .u64 x.stop) rfl
            have c13 := hr7.rangeF HX.out 13 (.int .i64 x.re) rfl
            have c14 := hr7.rangeF HX.out 14 (.string x.rd) rfl
            have HBk2 := Pin.Aside.mk (hdo_blk HBk.out x)
            have HVM2 := Pin.Aside.mk hVM'
            obtain ⟨nv, hnv⟩ : ∃ nv, (hdo B x).1.length = nv := ⟨_, rfl⟩
            rw [hnv] at hv'
            clear hk6 hka hV6 hV7 hfr hb6 hr7 hnv hd1 hd2 hVM' H6x HVax HVx HMx HBx hMx
            subst hv'
            go_upto_region 23 with fail
            generalize w6.alloc (.cells #[.int .i64 e1, .string r1] 31) = w7 at *
            generalize w6.heap.size = Q at *
            have hse := str_beq
            by_cases hz : x.stop = 0
            · have hne : (x.stop != 0) = false := by simp [hz]
              clear htd hz
              go_quiet (fail)
              go_wp2_with fail
              go_roundw
              case rel =>
                have hA := fun q => HAll.out (w7.drewN q) ((Keep.refl (fun _ => False) w7).drewN q)
                exact ⟨i + 1, .slice pv nv cv, done ||| 1 <<< k, (hdo B x).1, by omega, rfl, by go_num, HRest, HBk2, Pin.Aside.mk (hA _).1, HVM2, Pin.Aside.mk (hA _).2.1, Pin.Aside.mk (hA _).2.2.1, Pin.Aside.mk (hA _).2.2.2.1, Pin.Aside.mk (hA _).2.2.2.2.1, Pin.Aside.mk (hA _).2.2.2.2.2⟩
              case measure => simp [intOf]; omega
            · have hne : (x.stop != 0) = true := by simp [hz]
              obtain ⟨he, hr⟩ : e1 = x.re ∧ r1 = x.rd := by
                rcases htd with h | h
                · exact absurd h hz
                · exact h
              clear htd hz
              subst he hr
              go_quiet (fail)
              go_wp2_with fail
              go_roundw
              case rel =>
                have hA := fun q => HAll.out (w7.drewN q) ((Keep.refl (fun _ => False) w7).drewN q)
                exact ⟨i + 1, .slice pv nv cv, done ||| 1 <<< k, (hdo B x).1, by omega, rfl, by go_num, HRest, HBk2, Pin.Aside.mk (hA _).1, HVM2, Pin.Aside.mk (hA _).2.1, Pin.Aside.mk (hA _).2.2.1, Pin.Aside.mk (hA _).2.2.2.1, Pin.Aside.mk (hA _).2.2.2.2.1, Pin.Aside.mk (hA _).2.2.2.2.2⟩
              case measure => simp [intOf]; omega
      · obtain rfl : i = m := by omega
        have hdr : r.drop i = [] := List.drop_eq_nil_of_le (by rw [HM.out]; exact Nat.le_refl _)
        have hF := HF.out
        rw [hdr] at hF
        have HOv := Pin.Aside.mk (show hOver L done = true from hF)
        clear hF hdr
        go_upto_region 27 with fail
        go_loopw [14] (fun x wx => ∃ j : Nat, j ≤ n ∧ x = .int .i64 j ∧ Pin.Aside (Keep (fun _ => False) wr wx)) (fun x _ => n - (intOf x).toNat)
        case atStart => exact ⟨0, by omega, rfl, Pin.Aside.mk (Keep.refl _ _)⟩
        case round =>
          obtain ⟨j, hj, rfl, HKx⟩ := hrel
          rename World => wx
          by_cases hjn : j < n
          · have hjL : j < L.length := by rw [HN.out]; exact hjn
            have hxj : L[j]? = some (hAt L j) := by
              unfold hAt
              rw [List.getD, List.getElem?_eq_getElem hjL]; rfl
            have htest := hover_test HOv.out hjL
            obtain ⟨y, hyq⟩ : ∃ y, hAt L j = y := ⟨_, rfl⟩
            rw [hyq] at hxj htest
            obtain ⟨G, hG, hGn, hG1, hG2⟩ := H6.out.form (by rw [HN.out]; omega)
            clear hGn
            subst hG
            have hR5 := hRow.keep H6.out HKx.out fun _ _ _ => id
            have cm := (HMet.out.keep HKx.out id).cell j hjn
            have cs := hR5.rangeF hxj 12 (.int .u64 y.stop) rfl
            have hj0 : (0 : Int) ≤ (j : Int) := by omega
            have hj1 : (j : Int) < (n : Int) := by omega
            clear hR5 hxj hyq hjL
            by_cases hbt : done.testBit j = true
            · rw [hbt] at cm
              clear hbt htest
              go_wp2_with fail
              go_roundw
              case rel => exact ⟨j + 1, by omega, by go_num, HKx⟩
              case measure => simp [intOf]; omega
            · have hbf : done.testBit j = false := by simpa using hbt
              rw [hbf] at cm
              have hs : y.stop = 0 := by
                rcases htest with q | q
                · exact absurd q hbt
                · exact q
              have hne : (y.stop != 0) = false := by simp [hs]
              clear hbt hbf htest hs
              go_wp2_with fail
              go_roundw
              case rel => exact ⟨j + 1, by omega, by go_num, HKx⟩
              case measure => simp [intOf]; omega
          · obtain rfl : j = n := by omega
            have HBf := Pin.Aside.mk (HB.out.trans (HKx.out.below HB.out.size fun _ q => q.elim))
            go_wp2_with fail
            go_ret
            exact ⟨rfl, HBf.out⟩
end Go.Proofs.YtnilfjkodlmenaaDoor
