/- RlogParts: the walk. -/
import Derived.Test.YthlmigbimeldbaaRlogPartsM
set_option maxRecDepth 16000
namespace Go.Proofs.Ythlmigbimeldbaa
open Go.RowKit Go.Pin
set_option linter.unusedVariables false
set_option linter.unusedSimpArgs false
set_option maxHeartbeats 3200000 in
theorem rlogParts_walk (a0 : Option Addr) (len0 cap0 : Nat) (base term at' most : Int) (w : World) (H0 : isSlice madePs w (.slice a0 len0 cap0)) (hb0 : 0 ≤ base ∧ base ≤ 18446744073709551615) (ht0 : 0 ≤ term ∧ term ≤ 18446744073709551615) (ha0 : 0 ≤ at' ∧ at' ≤ 255) (hm0 : 0 ≤ most ∧ most ≤ 255) :
    Calls Try.prog 8 #[.slice a0 len0 cap0, .int .u64 base, .int .u64 term, .int .u8 at', .int .u8 most] w fun e w' => e = .returned (.bool true) ∧ Below w.heap.size w w' := by
  obtain ⟨M0, hM0⟩ := mades_of_slice H0
  have G0 := Pin.Aside.mk (fun W hW => mk_rising M0 base term hb0 ht0 10 (by omega) a0 len0 cap0 W hW)
  have HM0 := Pin.Aside.mk hM0
  have N0 := Pin.Aside.mk (lgRising_neat M0 base term hb0.1 ht0.1)
  have OK0 := Pin.Aside.mk (lgRising_ok M0 base term hb0.1 ht0.1 hM0.ok)
  generalize lgRising M0 base term 10 = X at *
  clear H0 hM0
  have hb := Below.refl w.heap.size w
  have hB0 : w.heap.size = w.heap.size := rfl
  have He := Pin.Aside.mk (mk_examples w)
  generalize hB : w.heap.size = B at hb hB0 He ⊢
  clear hB0
  go_enter Try.func8, Try.ntmps8
  go_wp2_with fail
  refine He.out.mono ?_
  rintro x w1 ⟨rfl, hbb⟩
  replace hb := hb.trans hbb
  clear hbb He
  go_wp2_with fail
  refine (G0.out w1 (HM0.out.below (by rw [hB]; exact hb))).mono ?_
  rintro x w2 ⟨⟨p0, n0, c0, rfl, hOw⟩, hbb⟩
  replace hb := hb.trans (hbb.mono (by first | exact hb.size | (rw [← hB]; exact hb.size)))
  have hE0 := Pin.Aside.mk (OwnE.ents hOw).1
  have hc0 := (OwnE.ents hOw).2.1
  have hn0 : n0 ≤ 10 := by rw [← hE0.out.len]; exact N0.out.len
  clear hbb hOw
  have hka := (Keep.refl (fun _ => False) w2).alloc (.cells #[.int .u64 X.base, .int .u64 X.bt, .slice p0 n0 c0] 27)
  obtain ⟨xb, xt, xs⟩ := LgCells.new w2 27 X p0 n0 c0
  replace hb := hb.trans (hka.below (by first | exact hb.size | (rw [← hB]; exact hb.size)) fun _ q => q.elim)
  replace hE0 := Pin.Aside.mk (hE0.out.keep' hka)
  clear hka
  go_upto_region 5 with fail
  generalize World.alloc w2 _ = w3 at *
  generalize w2.heap.size = BX at *
  have hxb := N0.out.base
  obtain ⟨A, hA, hA1⟩ : ∃ A : Int, at' % 14 = A ∧ 0 ≤ A ∧ A ≤ 13 := ⟨_, rfl, by omega⟩
  obtain ⟨Q, hQ, hQ1⟩ : ∃ A : Int, most % 13 = A ∧ 0 ≤ A ∧ A ≤ 12 := ⟨_, rfl, by omega⟩
  obtain ⟨F, hF⟩ : ∃ F, X.base + A = F := ⟨_, rfl⟩
  have hw1 : IntKind.u64.wrap F = F := by rw [IntKind.wrap_u64]; omega
  have K1 := Pin.Aside.mk (fun W hW => lg_part X OK0.out F Q p0 n0 c0 (by omega) W hW)
  have K2 := Pin.Aside.mk (fun W hW => lg_part X OK0.out F (-1) p0 n0 c0 (by omega) W hW)
  have hP2 : X.part F (-1) = [] := by
    by_cases q : X.base < F
    · rw [N0.out.part F (-1) q]; rfl
    · exact part_none X F (-1) q
  rw [hP2] at K2
  have HPl := Pin.Aside.mk (show (X.part F Q).length = (if X.base < F then (max (min (X.base + n0 - F + 1) Q) 0).toNat else 0) by
    by_cases q : X.base < F
    · rw [if_pos q, N0.out.part F Q q, List.length_take, List.length_drop, hE0.out.len]; omega
    · rw [if_neg q, part_none X F Q q]; rfl)
  have HPg := Pin.Aside.mk (show ∀ (k : Nat) (e : En), (X.part F Q)[k]? = some e → e.index = F + k ∧ X.term e.index = some e.term from fun k e he => by
    by_cases q : X.base < F
    · rw [N0.out.part F Q q, List.getElem?_take] at he
      split at he
      · rw [List.getElem?_drop] at he
        have h1 := N0.out.index _ e he
        exact ⟨by rw [h1]; push_cast; omega, N0.out.term_at _ e he⟩
      · cases he
    · rw [part_none X F Q q] at he; simp at he)
  clear hP2
  dsimp only [Lg.val] at *
  go_wp2_with fail
  refine (K1.out w3 hE0.out).mono ?_
  rintro x w4 ⟨⟨v, rfl, hv⟩, hbb⟩
  obtain ⟨pp, cc, rfl, hEp, hz1, hz2⟩ := OwnE.open hv
  clear hz1 hz2
  have hkk : Keep (fun _ => False) w3 w4 := Keep.of_below hbb fun _ q _ => q
  replace xb := hkk.cell xb id
  replace xt := hkk.cell xt id
  replace xs := hkk.cell xs id
  replace hb := hb.trans (hbb.mono (by first | exact hb.size | (rw [← hB]; exact hb.size)))
  replace hE0 := Pin.Aside.mk (hE0.out.below hbb)
  clear hbb hkk
  have HP := Pin.Aside.mk hEp
  obtain ⟨P, hP⟩ : ∃ P, X.part F Q = P := ⟨_, rfl⟩
  rw [hP] at HP HPl HPg
  obtain ⟨q, hq⟩ : ∃ q, P.length = q := ⟨_, rfl⟩
  rw [hP, hq]
  rw [hq] at HP HPl
  have hq13 : q ≤ 13 := by rw [HPl.out]; split <;> omega
  clear hEp hv hP hq K1
  have K0 := K2
  by_cases hlt : X.base < F
  · have hmm : max (min (X.base + n0 - F + 1) Q) 0 = (q : Int) := by rw [HPl.out, if_pos hlt]; omega
    go_wp2_with fail
    clear K0
    go_loopw [16] (fun x wr => ∃ k : Nat, k ≤ q ∧ x = .int .i64 k ∧ Below B w wr ∧ wr.cell? ⟨BX, 0, none⟩ = some (.int .u64 X.base) ∧ wr.cell? ⟨BX, 1, none⟩ = some (.int .u64 X.bt) ∧ wr.cell? ⟨BX, 2, none⟩ = some (.slice p0 n0 c0) ∧ Pin.Aside (EntsAt wr p0 n0 X.l) ∧ Pin.Aside (EntsAt wr pp q P)) (fun x _ => q - (intOf x).toNat)
    case atStart => exact ⟨0, by omega, rfl, hb, xb, xt, xs, hE0, HP⟩
    case round =>
      clear hb xb xt xs hE0 HP
      obtain ⟨k, hk, rfl, hb, xb, xt, xs, hE0, HP⟩ := hrel
      by_cases hlk : k < q
      · obtain ⟨e, he⟩ : ∃ x, P[k]? = some x := ⟨P[k]'(by rw [← HP.out.len] at hlk; exact hlk), List.getElem?_eq_getElem _⟩
        obtain ⟨Ab, o, rfl, hE⟩ := HP.out.at' k e he
        obtain ⟨hi, ht⟩ := HPg.out k e he
        have Kt := Pin.Aside.mk (fun W hW => lg_term X e.index p0 n0 c0 (by omega) W hW)
        rw [ht] at Kt
        dsimp only [Option.isSome, Option.getD] at Kt
        have c0' := hE.c0
        have c1' := hE.c1
        rw [hi] at Kt c1'
        have hwk : IntKind.u64.wrap (F + (k : Int)) = F + k := by rw [IntKind.wrap_u64]; omega
        clear hi ht he hE
        have hk0 : (0 : Int) ≤ (k : Int) := by omega
        have hk1 : (k : Int) < (q : Int) := by omega
        go_wp2_with fail
        have k0 : ∀ s' : KW (fun _ => False) wr, s'.w.cell? ⟨BX, 0, none⟩ = some (.int .u64 X.base) := fun s' => s'.keep.cell xb id
        have k1 : ∀ s' : KW (fun _ => False) wr, s'.w.cell? ⟨BX, 1, none⟩ = some (.int .u64 X.bt) := fun s' => s'.keep.cell xt id
        have k2 : ∀ s' : KW (fun _ => False) wr, s'.w.cell? ⟨BX, 2, none⟩ = some (.slice p0 n0 c0) := fun s' => s'.keep.cell xs id
        have k3 : ∀ s' : KW (fun _ => False) wr, s'.w.cell? ⟨Ab, o + k * 11 + 1, none⟩ = some (.int .u64 (F + k)) := fun s' => s'.keep.cell c1' id
        refine wp_region_keep (fun _ => False) (by kernel_rfl) (by kernel_rfl) ?_
        repeat (go_big_quiet_step ((exact KW.calls (Kt.out _ (hE0.out.keep' (KW.keep _))))))
        refine wpQuiet_nil ?_
        intro s4
        replace xb := k0 s4
        replace xt := k1 s4
        replace xs := k2 s4
        have d1 := k3 s4
        have d0 := s4.keep.cell c0' id
        replace hb := hb.trans (s4.below.mono (by first | exact hb.size | (rw [← hB]; exact hb.size)))
        replace hE0 := Pin.Aside.mk (hE0.out.keep' s4.keep)
        replace HP := Pin.Aside.mk (HP.out.keep' s4.keep)
        clear k0 k1 k2 k3 c0' c1' Kt
        generalize s4.w = w9 at *
        clear s4
        go_wp2_with fail
        go_roundw
        case rel => exact ⟨k + 1, by omega, by go_num, hb, xb, xt, xs, hE0, HP⟩
        case measure => simp [intOf]; omega
      · have hk2 : k = q := by omega
        go_wp2_with fail
        refine (K2.out _ hE0.out).mono ?_
        rintro x w7 ⟨⟨v, rfl, hv⟩, hbb⟩
        obtain ⟨p7, c7, rfl, _, _, _⟩ := OwnE.open hv
        replace hb := hb.trans (hbb.mono (by first | exact hb.size | (rw [← hB]; exact hb.size)))
        clear hbb hv
        go_wp2_with fail
        go_ret
        exact ⟨rfl, by first | exact hb | (rw [hB]; exact hb)⟩
  · have hq0 : q = 0 := by rw [HPl.out, if_neg hlt]
    have hmm : (q : Int) = 0 := by omega
    go_wp2_with fail
    clear K0
    go_loopw [16] (fun x wr => ∃ k : Nat, k ≤ q ∧ x = .int .i64 k ∧ Below B w wr ∧ wr.cell? ⟨BX, 0, none⟩ = some (.int .u64 X.base) ∧ wr.cell? ⟨BX, 1, none⟩ = some (.int .u64 X.bt) ∧ wr.cell? ⟨BX, 2, none⟩ = some (.slice p0 n0 c0) ∧ Pin.Aside (EntsAt wr p0 n0 X.l) ∧ Pin.Aside (EntsAt wr pp q P)) (fun x _ => q - (intOf x).toNat)
    case atStart => exact ⟨0, by omega, rfl, hb, xb, xt, xs, hE0, HP⟩
    case round =>
      clear hb xb xt xs hE0 HP
      obtain ⟨k, hk, rfl, hb, xb, xt, xs, hE0, HP⟩ := hrel
      by_cases hlk : k < q
      · exact absurd hlk (by omega)
      · have hk2 : k = q := by omega
        go_wp2_with fail
        refine (K2.out _ hE0.out).mono ?_
        rintro x w7 ⟨⟨v, rfl, hv⟩, hbb⟩
        obtain ⟨p7, c7, rfl, _, _, _⟩ := OwnE.open hv
        replace hb := hb.trans (hbb.mono (by first | exact hb.size | (rw [← hB]; exact hb.size)))
        clear hbb hv
        go_wp2_with fail
        go_ret
        exact ⟨rfl, by first | exact hb | (rw [hB]; exact hb)⟩
end Go.Proofs.Ythlmigbimeldbaa
