import Derived.Test.YtpfkpaombiikcaaGreatDoorRfX
import Derived.BigRegion
/- What the document's device computes: Flush, Waiting. -/
set_option maxRecDepth 16000
namespace Go.Pin
open Go.RowKit
set_option linter.unusedVariables false
set_option linter.unusedSimpArgs false
/-- All is flushed. -/
theorem RefAt.settled {a w : World} {b N O V : Nat} {d : Dv} (h : RefAt a b N O V d) (hk : Keep (fun k => k = O ∨ k = V) a w) (hO : RowAt w O d.n fun i => .string (d.s i)) (hV : RowAt w V d.n fun _ => .bool false) : RefAt w b N O V (dsettle d) := by
  obtain ⟨x0, p0, q0, r0⟩ := h.c0
  obtain ⟨x1, p1, q1, r1⟩ := h.c1
  obtain ⟨x2, p2, q2, r2⟩ := h.c2
  have hn := dsettle_n h.ok
  have nb : ¬ (b = O ∨ b = V) := by rintro (q | q); exact h.bO q; exact h.bV q
  have nN : ¬ (N = O ∨ N = V) := by rintro (q | q); exact h.NO q; exact h.NV q
  have hb : b < a.heap.size := World.block_lt_of_cell? (a := ⟨b, 3, none⟩) _ h.c3
  exact ⟨dsettle_ok h.ok, ⟨x0, by rw [hn]; exact p0, q0, by rw [hn]; exact hk.cell r0 nb⟩, ⟨x1, by rw [hn]; exact p1, q1, by rw [hn]; exact hk.cell r1 nb⟩, ⟨x2, by rw [hn]; exact p2, q2, by rw [hn]; exact hk.cell r2 nb⟩,
    hk.cell h.c3 nb, hk.cell h.c4 nb, fun i hi => by rw [hk.frozen (p := ⟨b, i, none⟩) hb nb]; exact h.fr i hi, by rw [hn]; exact h.rN.keep hk nN, by rw [hn]; exact hO,
    by rw [hn]; exact hV.congr fun i _ => by rw [show (dsettle d).w i = false from getD_rep _ _ _], h.bN, h.bO, h.bV, h.NO, h.NV, h.OV⟩
end Go.Pin
namespace Go.Proofs.YtpfkpaombiikcaaGreatDoor
open Go.RowKit Go.Pin
set_option linter.unusedVariables false
set_option linter.unusedSimpArgs false
set_option maxHeartbeats 1600000 in
theorem ref_flush (b N O V : Nat) (d : Dv) (w : World) (h : RefAt w b N O V d) :
    Calls Tryz.prog 38 #[.pointer (some ⟨b, 0, none⟩)] w fun e w' => e = .returned (.int .i64 (dflush d).1) ∧ RefAt w' b N O V (dflush d).2 ∧ Keep (refS b N O V) w w' := by
  have h4 := h.c4
  have hn := h.ok.n2
  cases hdd : d.dead with
  | true =>
    have e1 : dflush d = (7, d) := by unfold dflush; rw [if_pos hdd]
    rw [e1]
    rw [hdd] at h4
    clear hdd e1
    go_enter Tryz.func38, Tryz.ntmps38
    go_wp2_with fail
    go_ret
    exact ⟨rfl, h, Keep.refl _ _⟩
  | false =>
    rw [hdd] at h4
    have e1 : dflush d = if (dcrash d).1 = true then (7, (dcrash d).2) else (0, dsettle (dcrash d).2) := by unfold dflush; rw [if_neg (by rw [hdd]; simp), dcrash_try d hdd]
    rw [e1]
    have hcon := ref_crashes b N O V d w h
    have hcn := dcrash_n d
    generalize dcrash d = C at *
    obtain ⟨cr, D⟩ := C
    replace hcn : D.n = d.n := hcn
    dsimp only at hcon ⊢
    cases cr with
    | true =>
      rw [if_pos rfl]
      clear hdd e1
      go_enter Tryz.func38, Tryz.ntmps38
      go_wp2_with fail
      refine hcon.mono ?_
      rintro e w1 ⟨rfl, h1, hk1⟩
      go_wp2_with fail
      go_ret
      exact ⟨rfl, h1, hk1.mono fun _ q => .inl q⟩
    | false =>
      rw [if_neg (by simp)]
      clear hdd e1
      go_enter Tryz.func38, Tryz.ntmps38
      go_wp2_with fail
      refine hcon.mono ?_
      rintro e w1 ⟨rfl, h1, hk1⟩
      clear hcon h4
      obtain ⟨x0, p0, q0, r0⟩ := h1.c0
      obtain ⟨x1, p1, q1, r1⟩ := h1.c1
      obtain ⟨x2, p2, q2, r2⟩ := h1.c2
      have hnD : D.n ≤ 4096 := by omega
      have hO0 : RowAt w1 O D.n fun i => .string (if i < 0 then D.s i else D.o i) := h1.rO.congr fun i _ => by rw [if_neg (by omega)]
      have hV0 : RowAt w1 V D.n fun i => .bool (if i < 0 then false else D.w i) := h1.rV.congr fun i _ => by rw [if_neg (by omega)]
      have Hk1 := Aside.mk hk1
      have Hh := Aside.mk h1
      have hON := Ne.symm h1.NO
      have hNO := h1.NO
      have hNV := h1.NV
      have hOV := h1.OV
      have hVO := Ne.symm h1.OV
      have hbO := h1.bO
      have hbV := h1.bV
      have hbN := h1.bN
      have hltA := h1.lt
      clear hk1 hcn h
      go_wp2_with fail
      go_loopw [3] (fun i wr => ∃ k : Nat, k ≤ D.n ∧ i = .int .i64 k ∧ RowAt wr O D.n (fun i => .string (if i < k then D.s i else D.o i)) ∧ RowAt wr V D.n (fun i => .bool (if i < k then false else D.w i)) ∧ Keep (fun j => j = O ∨ j = V) w1 wr) (fun i _ => D.n - (intOf i).toNat)
      case atStart => exact ⟨0, by omega, rfl, hO0, hV0, Keep.refl _ _⟩
      case round =>
        clear hO0 hV0
        obtain ⟨k, hk, rfl, hO, hV, hkw⟩ := hrel
        have nb : ¬ (b = O ∨ b = V) := by rintro (q | q); exact hbO q; exact hbV q
        have nN : ¬ (N = O ∨ N = V) := by rintro (q | q); exact hNO q; exact hNV q
        replace r0 := hkw.cell r0 (nb)
        replace r1 := hkw.cell r1 (nb)
        replace r2 := hkw.cell r2 (nb)
        by_cases hlt : k < D.n
        · have hk0 : (0 : Int) ≤ (k : Int) := by omega
          have hkD : (k : Int) < (D.n : Int) := by omega
          have cN := hkw.cell (Hh.out.rN.at' k hlt) nN
          have cO := hO.at' k hlt
          have fO := hO.fr k hlt
          have cV := hV.at' k hlt
          have fV := hV.fr k hlt
          rw [if_neg (by omega)] at cO cV
          have hO1 := (hO.set k hlt (.string (D.s k))).drew
          have k1 : Keep (fun j => j = O) wr (wr.setCell ⟨O, k, none⟩ (.string (D.s k))).drew := ((Keep.refl (fun j => j = O) wr).setCell (p := ⟨O, k, none⟩) (.inl rfl) _).drew
          have hV1 := hV.keep k1 hVO
          have t2 := k1.cell r2 hbO
          have tV := k1.cell cV hVO
          have tf : ((wr.setCell ⟨O, k, none⟩ (.string (D.s k))).drew).frozen? ⟨V, k, none⟩ = false := by
            rw [k1.frozen (p := ⟨V, k, none⟩) (World.block_lt_of_cell? _ _ cV) hVO]; exact fV
          have HO1 := Aside.mk hO1
          have HV1 := Aside.mk hV1
          clear hO hV hO1 hV1
          go_wp2_with fail
          go_region
          clear cO fO cN cV fV r0 r1 r2
          generalize (wr.setCell ⟨O, k, none⟩ (.string (D.s k))).drew = w3 at *
          go_wp2_with fail
          go_roundw
          case rel =>
            refine ⟨k + 1, by omega, by go_num, ?_, ?_, (hkw.trans (k1.mono fun _ q => .inl q)).setCell (p := ⟨V, k, none⟩) (.inl (.inr rfl)) _⟩
            · refine (HO1.out.keep ((Keep.refl (fun j => j = V) w3).setCell (p := ⟨V, k, none⟩) (.inl rfl) (.bool false)) hOV).congr fun i hi => ?_
              by_cases e : i = k
              · rw [if_pos e, if_pos (by omega), e]
              · rw [if_neg e]
                by_cases q : i < k
                · rw [if_pos q, if_pos (by omega)]
                · rw [if_neg q, if_neg (by omega)]
            · refine (HV1.out.set k hlt (.bool false)).congr fun i hi => ?_
              by_cases e : i = k
              · rw [if_pos e, if_pos (by omega)]
              · rw [if_neg e]
                by_cases q : i < k
                · rw [if_pos q, if_pos (by omega)]
                · rw [if_neg q, if_neg (by omega)]
          case measure => simp [intOf]; omega
        · obtain rfl : k = D.n := by omega
          go_wp2_with fail
          go_ret
          refine ⟨rfl, Hh.out.settled hkw (hO.congr fun i hi => by rw [if_pos hi]) (hV.congr fun i hi => by rw [if_pos hi]), (Hk1.out.mono fun _ q => .inl q).trans (hkw.mono fun _ q => ?_)⟩
          rcases q with q | q
          · exact .inr (.inr (.inl q))
          · exact .inr (.inr (.inr q))
end Go.Proofs.YtpfkpaombiikcaaGreatDoor
