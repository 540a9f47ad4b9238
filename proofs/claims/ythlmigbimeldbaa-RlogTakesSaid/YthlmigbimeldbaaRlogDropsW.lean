/- RlogDrops: the walk. -/
import Derived.Test.YthlmigbimeldbaaRlogDropsM
import Derived.Test.YthlmigbimeldbaaRlogUp
import Derived.Test.YthlmigbimeldbaaRsP
import Derived.Test.YthlmigbimeldbaaRegS
set_option maxRecDepth 16000
namespace Go.Pin
open Go.RowKit
set_option linter.unusedVariables false
set_option linter.unusedSimpArgs false
theorem ownE_form {w : World} {N T : Nat} {p : Option Addr} {n c : Nat} {L : List En} (h : OwnE w N T (.slice p n c) L) : (p = none ∧ n = 0 ∧ c = 0) ∨ ∃ g, p = some ⟨g, 0, none⟩ := by
  rcases h.2 with ⟨q, _⟩ | ⟨g, cap, cur, hv, _⟩
  · simp only [Value.slice.injEq] at q; exact .inl q
  · simp only [Value.slice.injEq] at hv; exact .inr ⟨g, hv.1⟩
end Go.Pin
namespace Go.Proofs.Ythlmigbimeldbaa
open Go.RowKit Go.Pin
set_option linter.unusedVariables false
set_option linter.unusedSimpArgs false
set_option maxHeartbeats 3200000 in
theorem rlogDrops_walk (a0 : Option Addr) (len0 cap0 : Nat) (base term a' b' : Int) (w : World) (H0 : isSlice madePs w (.slice a0 len0 cap0)) (hb0 : 0 ≤ base ∧ base ≤ 18446744073709551615) (ht0 : 0 ≤ term ∧ term ≤ 18446744073709551615) (ha0 : 0 ≤ a' ∧ a' ≤ 255) (hm0 : 0 ≤ b' ∧ b' ≤ 255) :
    Calls Try.prog 9 #[.slice a0 len0 cap0, .int .u64 base, .int .u64 term, .int .u8 a', .int .u8 b'] w fun e w' => e = .returned (.bool true) ∧ Below w.heap.size w w' := by
  obtain ⟨M0, hM0⟩ := mades_of_slice H0
  have G0 := Pin.Aside.mk (fun W hW => mk_rising M0 base term hb0 ht0 10 (by omega) a0 len0 cap0 W hW)
  have HM0 := Pin.Aside.mk hM0
  have N0 := Pin.Aside.mk (lgRising_neat M0 base term hb0.1 ht0.1)
  have OK0 := Pin.Aside.mk (lgRising_ok M0 base term hb0.1 ht0.1 hM0.ok)
  have R0 := Pin.Aside.mk (lgRising_rises M0 base term hb0.1 ht0.1 hM0.ok)
  generalize lgRising M0 base term 10 = X at *
  clear H0 hM0
  have hb := Below.refl w.heap.size w
  have hB0 : w.heap.size = w.heap.size := rfl
  have He := Pin.Aside.mk (mk_examples w)
  generalize hB : w.heap.size = B at hb hB0 He ⊢
  clear hB0
  go_enter Try.func9, Try.ntmps9
  go_wp2_with fail
  refine He.out.mono ?_
  rintro x w1 ⟨rfl, hbb⟩
  replace hb := hb.trans hbb
  clear hbb He
  go_wp2_with fail
  refine (G0.out w1 (HM0.out.below (by rw [hB]; exact hb))).mono ?_
  rintro x w2 ⟨⟨p0, n0, c0, rfl, hOw⟩, hbb⟩
  replace hb := hb.trans (hbb.mono (by first | exact hb.size | (rw [← hB]; exact hb.size)))
  have hE0 := Pin.Aside.mk (OwnE.ents hOw).1
  have hc0 := (OwnE.ents hOw).2.1
  have hn0 : n0 ≤ 10 := by rw [← hE0.out.len]; exact N0.out.len
  have hO0 := Pin.Aside.mk hOw
  clear hbb hOw
  have hka := (Keep.refl (fun _ => False) w2).alloc (.cells #[.int .u64 X.base, .int .u64 X.bt, .slice p0 n0 c0] 27)
  obtain ⟨xb, xt, xs⟩ := LgCells.new w2 27 X p0 n0 c0
  replace hb := hb.trans (hka.below (by first | exact hb.size | (rw [← hB]; exact hb.size)) fun _ q => q.elim)
  replace hE0 := Pin.Aside.mk (hE0.out.keep' hka)
  clear hka
  go_upto_region 5 with fail
  generalize World.alloc w2 _ = w3 at *
  generalize w2.heap.size = BX at *
  have hxb := N0.out.base
  have hlenX : X.l.length = n0 := hE0.out.len
  obtain ⟨k, hk, hkn⟩ : ∃ k : Nat, a' % ((n0 : Int) + 1) = (k : Int) ∧ k ≤ n0 := by
    have h1 := Int.emod_nonneg a' (show ((n0 : Int) + 1) ≠ 0 by omega)
    have h2 := Int.emod_lt_of_pos a' (show (0 : Int) < (n0 : Int) + 1 by omega)
    generalize a' % ((n0 : Int) + 1) = z at h1 h2 ⊢
    exact ⟨z.toNat, by omega, by omega⟩
  obtain ⟨m, hm, hmn⟩ : ∃ k : Nat, b' % ((n0 : Int) + 2) = (k : Int) ∧ k ≤ n0 + 1 := by
    have h1 := Int.emod_nonneg b' (show ((n0 : Int) + 2) ≠ 0 by omega)
    have h2 := Int.emod_lt_of_pos b' (show (0 : Int) < (n0 : Int) + 2 by omega)
    generalize b' % ((n0 : Int) + 2) = z at h1 h2 ⊢
    exact ⟨z.toNat, by omega, by omega⟩
  have hkt : a'.tmod ((n0 : Int) + 1) = (k : Int) := by rw [Int.tmod_eq_emod_of_nonneg ha0.1]; exact hk
  have hmt : b'.tmod ((n0 : Int) + 2) = (m : Int) := by rw [Int.tmod_eq_emod_of_nonneg hm0.1]; exact hm
  obtain ⟨t, ht1, ht2, ht3, hD1, hD2⟩ := N0.out.dropped k (by omega)
  have hD3 : lgDropped X (X.base + (n0 : Int) + 1) = (X, false) := by
    unfold lgDropped
    have := N0.out.term_beyond
    rw [hlenX] at this
    rw [show X.base + (n0 : Int) + 1 = X.base + ((n0 : Nat) : Int) + 1 from rfl, this]
  have HD1 := Pin.Aside.mk (fun W hW => lg_drop X OK0.out (X.base + k) (by omega) p0 n0 c0 (by omega) W hW)
  have HD3 := Pin.Aside.mk (fun W hW => lg_drop X OK0.out (X.base + (n0 : Int) + 1) (by omega) p0 n0 c0 (by omega) W hW)
  rw [hD1] at HD1
  rw [hD3] at HD3
  have hw1 : IntKind.u64.wrap (X.base + (k : Int)) = X.base + k := by rw [IntKind.wrap_u64]; omega
  have hw2 : IntKind.u64.wrap (X.base + (n0 : Int)) = X.base + n0 := by rw [IntKind.wrap_u64]; omega
  have hw3 : IntKind.u64.wrap (X.base + (n0 : Int) + 1) = X.base + n0 + 1 := by rw [IntKind.wrap_u64]; omega
  have HL1 := Pin.Aside.mk (fun W hW => lg_last X p0 n0 c0 (by omega) W hW)
  obtain ⟨i, hi⟩ : ∃ i, X.last.1 = i := ⟨_, rfl⟩
  obtain ⟨tt, htt⟩ : ∃ i, X.last.2 = i := ⟨_, rfl⟩
  have hPm := (N0.out.parts m).1
  have hPq := (N0.out.parts m).2
  have hlm : (X.l.take m).length = min m n0 := by rw [List.length_take, hlenX]
  rw [hlm, hlenX] at hPq
  have HP1 := Pin.Aside.mk (fun W hW => lg_part X OK0.out (X.base + 1) m p0 n0 c0 (by omega) W hW)
  have HP2 := Pin.Aside.mk (fun W hW => lg_part X OK0.out (X.base + 1 + (min m n0 : Nat)) n0 p0 n0 c0 (by omega) W hW)
  rw [hPm] at HP1
  rw [hPq] at HP2
  have hYn : (Lg.mk (X.base + k) t (X.l.drop k)).last = (i, tt) := by rw [hD2, ← hi, ← htt]
  have hYr : (Lg.mk (X.base + k) t (X.l.drop k)).right = true := by
    refine Lg.chain_right (by dsimp only; omega) (by rw [List.length_drop]; omega) (fun j e he => ?_) (by rw [ht3]; exact R0.out.drop k _)
    dsimp only at he ⊢
    rw [List.getElem?_drop] at he
    rw [N0.out.index _ e he]; push_cast; omega
  have hYok : (Lg.mk (X.base + k) t (X.l.drop k)).ok := ⟨by dsimp only; omega, by dsimp only; omega, fun e he => OK0.out.l e (List.mem_of_mem_drop he)⟩
  have HYN := Pin.Aside.mk hYn
  have HYR := Pin.Aside.mk hYr
  have HYO := Pin.Aside.mk hYok
  rw [hi, htt] at HL1
  clear hi htt hPm hPq hD1 hD2 hD3 hYn hYr hYok ht3 hlm
  obtain ⟨mm, hmm⟩ : ∃ mm, min m n0 = mm := ⟨_, rfl⟩
  rw [hmm] at HP2
  have hmi : min (m : Int) (n0 : Int) = (mm : Int) := by omega
  have hml : (X.l.take m).length = mm := by rw [List.length_take, hlenX]; exact hmm
  have HML := Pin.Aside.mk hml
  have HLX := Pin.Aside.mk hlenX
  clear hml hlenX hmm
  dsimp only [Lg.val] at *
  go_wp2_with fail
  refine (HD1.out _ hE0.out).mono ?_
  rintro x w4 ⟨⟨p1, n1, c1, rfl, hE1⟩, hbb⟩
  have hkk : Keep (fun _ => False) w3 w4 := Keep.of_below hbb fun _ q _ => q
  replace xb := hkk.cell xb id
  replace xt := hkk.cell xt id
  replace xs := hkk.cell xs id
  replace hb := hb.trans (hbb.mono (by first | exact hb.size | (rw [← hB]; exact hb.size)))
  replace hE0 := Pin.Aside.mk (hE0.out.below hbb)
  clear hbb hkk
  have hEy := Pin.Aside.mk hE1
  have hn1 : n1 ≤ 10 := by rw [← hE1.len, List.length_drop, HLX.out]; omega
  clear hE1
  have hka := (Keep.refl (fun _ => False) w4).alloc (.cells #[.int .u64 (X.base + k), .int .u64 t, .slice p1 n1 c1] 27)
  obtain ⟨yb, yt, ys⟩ := LgCells.new w4 27 ⟨X.base + k, t, X.l.drop k⟩ p1 n1 c1
  replace xb := hka.cell xb id
  replace xt := hka.cell xt id
  replace xs := hka.cell xs id
  replace hb := hb.trans (hka.below (by first | exact hb.size | (rw [← hB]; exact hb.size)) fun _ q => q.elim)
  replace hE0 := Pin.Aside.mk (hE0.out.keep' hka)
  replace hEy := Pin.Aside.mk (hEy.out.keep' hka)
  clear hka
  go_upto_region 8 with fail
  generalize World.alloc w4 _ = w5 at *
  generalize w4.heap.size = BY at *
  try dsimp only at yb yt ys
  go_wp2_with fail
  refine (HD3.out _ hE0.out).mono ?_
  rintro x w6 ⟨⟨p2, n2, c2, rfl, _⟩, hbb⟩
  have hkk : Keep (fun _ => False) w5 w6 := Keep.of_below hbb fun _ q _ => q
  replace xb := hkk.cell xb id
  replace xt := hkk.cell xt id
  replace xs := hkk.cell xs id
  replace yb := hkk.cell yb id
  replace yt := hkk.cell yt id
  replace ys := hkk.cell ys id
  replace hb := hb.trans (hbb.mono (by first | exact hb.size | (rw [← hB]; exact hb.size)))
  replace hE0 := Pin.Aside.mk (hE0.out.below hbb)
  replace hEy := Pin.Aside.mk (hEy.out.below hbb)
  clear hbb hkk
  have hka := (Keep.refl (fun _ => False) w6).alloc (.cells #[.int .u64 X.base, .int .u64 X.bt, .slice p2 n2 c2] 27)
  replace xb := hka.cell xb id
  replace xt := hka.cell xt id
  replace xs := hka.cell xs id
  replace yb := hka.cell yb id
  replace yt := hka.cell yt id
  replace ys := hka.cell ys id
  replace hb := hb.trans (hka.below (by first | exact hb.size | (rw [← hB]; exact hb.size)) fun _ q => q.elim)
  replace hE0 := Pin.Aside.mk (hE0.out.keep' hka)
  replace hEy := Pin.Aside.mk (hEy.out.keep' hka)
  clear hka
  go_upto_region 9 with fail
  generalize World.alloc w6 _ = w7 at *
  generalize w6.heap.size = BZ at *
  have HL2 := Pin.Aside.mk (fun W hW => lg_last ⟨X.base + k, t, X.l.drop k⟩ p1 n1 c1 (by omega) W hW)
  rw [HYN.out] at HL2
  go_wp2_with fail
  refine (HL1.out _ hE0.out).mono ?_
  rintro x w8 ⟨rfl, hbb⟩
  have hkk : Keep (fun _ => False) w7 w8 := Keep.of_below hbb fun _ q _ => q
  replace xb := hkk.cell xb id
  replace xt := hkk.cell xt id
  replace xs := hkk.cell xs id
  replace yb := hkk.cell yb id
  replace yt := hkk.cell yt id
  replace ys := hkk.cell ys id
  replace hb := hb.trans (hbb.mono (by first | exact hb.size | (rw [← hB]; exact hb.size)))
  replace hE0 := Pin.Aside.mk (hE0.out.below hbb)
  replace hEy := Pin.Aside.mk (hEy.out.below hbb)
  clear hbb hkk
  go_wp2_with fail
  refine (HL2.out _ hEy.out).mono ?_
  rintro x w9 ⟨rfl, hbb⟩
  have hkk : Keep (fun _ => False) w8 w9 := Keep.of_below hbb fun _ q _ => q
  replace xb := hkk.cell xb id
  replace xt := hkk.cell xt id
  replace xs := hkk.cell xs id
  replace yb := hkk.cell yb id
  replace yt := hkk.cell yt id
  replace ys := hkk.cell ys id
  replace hb := hb.trans (hbb.mono (by first | exact hb.size | (rw [← hB]; exact hb.size)))
  replace hE0 := Pin.Aside.mk (hE0.out.below hbb)
  replace hEy := Pin.Aside.mk (hEy.out.below hbb)
  clear hbb hkk
  clear HL1 HL2 HD1 HD3
  have hw4 : IntKind.u64.wrap (X.base + 1) = X.base + 1 := by rw [IntKind.wrap_u64]; omega
  go_wp2_with fail
  refine (HP1.out _ hE0.out).mono ?_
  rintro x w10 ⟨⟨v, rfl, hv⟩, hbb⟩
  obtain ⟨p3, c3, rfl, hE3, hz1, hz2⟩ := OwnE.open hv
  have hEp := Pin.Aside.mk hE3
  clear hz1 hz2 hE3 hv
  have hkk : Keep (fun _ => False) w9 w10 := Keep.of_below hbb fun _ q _ => q
  replace xb := hkk.cell xb id
  replace xt := hkk.cell xt id
  replace xs := hkk.cell xs id
  replace yb := hkk.cell yb id
  replace yt := hkk.cell yt id
  replace ys := hkk.cell ys id
  replace hb := hb.trans (hbb.mono (by first | exact hb.size | (rw [← hB]; exact hb.size)))
  replace hE0 := Pin.Aside.mk (hE0.out.below hbb)
  replace hEy := Pin.Aside.mk (hEy.out.below hbb)
  clear hbb hkk
  rw [HML.out] at hEp ⊢
  have hw5 : IntKind.u64.wrap (X.base + 1 + (mm : Int)) = X.base + 1 + mm := by rw [IntKind.wrap_u64]; omega
  go_wp2_with fail
  refine (HP2.out _ hE0.out).mono ?_
  rintro x w11 ⟨⟨v, rfl, hv⟩, hbb⟩
  obtain ⟨p4, c4, rfl, hE4, hz1, hz2⟩ := OwnE.open hv
  obtain ⟨n4, hn4⟩ : ∃ n4, (X.l.drop m).length = n4 := ⟨_, rfl⟩
  have hq4 : n4 ≤ 10 := by rw [← hn4, List.length_drop, HLX.out]; omega
  rw [hn4] at hE4 ⊢
  have hEq := Pin.Aside.mk hE4
  clear hz1 hz2 hE4 hv hn4
  have hkk : Keep (fun _ => False) w10 w11 := Keep.of_below hbb fun _ q _ => q
  replace xb := hkk.cell xb id
  replace xt := hkk.cell xt id
  replace xs := hkk.cell xs id
  replace yb := hkk.cell yb id
  replace yt := hkk.cell yt id
  replace ys := hkk.cell ys id
  replace hb := hb.trans (hbb.mono (by first | exact hb.size | (rw [← hB]; exact hb.size)))
  replace hE0 := Pin.Aside.mk (hE0.out.below hbb)
  replace hEy := Pin.Aside.mk (hEy.out.below hbb)
  replace hEp := Pin.Aside.mk (hEp.out.below hbb)
  clear hbb hkk
  go_upto_region 14 with fail
  have k2 : ∀ s' : KW (fun _ => False) w11, s'.w.cell? ⟨BX, 2, none⟩ = some (.slice p0 n0 c0) := fun s' => s'.keep.cell xs id
  refine wp_region_stay (S := fun w' => ∃ s' : KW (fun _ => False) w11, w' = s'.w) 1 (by kernel_rfl) (by simp) (by kernel_rfl) (by kernel_rfl) ⟨⟨w11.drew, (Keep.refl _ w11).drew⟩, rfl⟩ ?_
  simp only [List.take_succ_cons, List.take_zero]
  refine wpStay_quietS 1 _ _ (by kernel_rfl) ?_
  simp only [List.take_succ_cons, List.take_zero, List.drop_succ_cons, List.drop_zero]
  repeat (go_big_quiet_step (fail))
  refine wpQuiet_nil ?_
  refine wpStay_nil ?_
  refine wpAnyH_more (g := 6) 2 1 (by simp) (by kernel_rfl) (by kernel_rfl) ⟨⟨w11.drew, (Keep.refl _ w11).drew⟩, rfl⟩ ?_
  simp only [List.take_succ_cons, List.take_zero, List.drop_succ_cons, List.drop_zero]
  refine wpStay_quietS 1 _ _ (by kernel_rfl) ?_
  simp only [List.take_succ_cons, List.take_zero, List.drop_succ_cons, List.drop_zero]
  repeat (go_big_quiet_step (fail))
  refine wpQuiet_nil ?_
  refine wpStay_nil ?_
  refine wpAnyH_more (g := 4) 4 2 (by simp) (by kernel_rfl) (by kernel_rfl) ⟨⟨w11.drew, (Keep.refl _ w11).drew⟩, rfl⟩ ?_
  simp only [List.take_succ_cons, List.take_zero, List.drop_succ_cons, List.drop_zero]
  refine wpStay_quietS 2 _ _ (by kernel_rfl) ?_
  simp only [List.take_succ_cons, List.take_zero, List.drop_succ_cons, List.drop_zero]
  repeat (go_big_quiet_step (fail))
  refine wpQuiet_nil ?_
  refine wpStay_nil ?_
  clear k2
  refine wpAnyH_one 1 (by kernel_rfl) rfl (fun K' hK' => ?_)
  rw [if_pos (by rfl)]
  refine wp_en_append _ _ rfl w11.heap.size (Nat.le_refl _) (.slice none 0 0) [] (X.l.take m) p3 mm c3 (by rfl) (by rfl) (ownE_nil _ _ _) (hEp.out.keep' (Keep.refl _ w11).drew) (by simp) (by omega) ?_
  intro v5 w12 ho5 hg5
  have hb12 : Below w11.heap.size w11 w12 := (below_drew (Below.refl w11.heap.size w11)).grown hg5 (Nat.le_refl _) (fun q hq => by cases hq)
  have hk12 : Keep (fun _ => False) w11 w12 := Keep.of_below hb12 fun q h1 _ => h1
  refine hK'.out _ _ ⟨⟨w12, hk12⟩, rfl⟩ (fun _ => ?_)
  clear hK' K'
  rw [List.nil_append] at ho5
  refine wpAnyH_one 3 (by kernel_rfl) rfl (fun K' hK' => ?_)
  rw [if_pos (by rfl)]
  refine wp_en_append _ _ rfl w11.heap.size hb12.size v5 (X.l.take m) (X.l.drop m) p4 n4 c4 (by rfl) (by rfl) ho5 (hEq.out.keep' hk12) (by rw [HML.out]; omega) (by omega) ?_
  intro v6 w13 ho6 hg6
  have hb13 : Below w11.heap.size w11 w13 := hb12.grown hg6 hb12.size (fun q hq => (ho5.lt q hq).1)
  have hk13 : Keep (fun _ => False) w11 w13 := Keep.of_below hb13 fun q h1 _ => h1
  refine hK'.out _ _ ⟨⟨w13, hk13⟩, rfl⟩ (fun _ => ?_)
  clear hK' K'
  rw [List.take_append_drop] at ho6
  obtain ⟨p6, c6, rfl, hE6, hz1, hz2⟩ := OwnE.open ho6
  rw [HLX.out] at hE6 ⊢
  clear hz1 hz2
  refine wpAnyH_one 6 (by kernel_rfl) rfl (fun K' hK' => ?_)
  go_simp
  refine (mk_entries X.l p6 p0 n0 c6 c0 (by omega) w13 hE6 (hE0.out.keep' hk13)).mono ?_
  rintro x w14 ⟨rfl, hbb⟩
  have hk14 := hk13.trans (Keep.of_below (S := fun _ => False) hbb fun _ q _ => q)
  refine hK'.out _ _ ⟨⟨w14, hk14⟩, rfl⟩ (fun _ => ?_)
  clear hK' K'
  refine wpAnyH_one 7 (by kernel_rfl) rfl (fun K' hK' => ?_)
  go_simp
  refine hK'.out _ _ ⟨⟨w14, hk14⟩, rfl⟩ (fun _ => ?_)
  clear hK' K'
  refine wpAnyH_done (by kernel_rfl) (NoPanic.normal ?_) _
  replace hb := hb.trans ((hb13.trans (hbb.mono hb13.size)).mono (by first | exact hb.size | (rw [← hB]; exact hb.size)))
  replace xb := hk14.cell xb id
  replace xt := hk14.cell xt id
  replace xs := hk14.cell xs id
  replace yb := hk14.cell yb id
  replace yt := hk14.cell yt id
  replace ys := hk14.cell ys id
  replace hE0 := Pin.Aside.mk (hE0.out.keep' hk14)
  replace hEy := Pin.Aside.mk (hEy.out.keep' hk14)
  clear hbb hk14 hk13 hk12 hb13 hb12 hg5 hg6 ho5 ho6 hE6 hEp hEq
  go_upto_region 15 with fail
  rcases ownE_form hO0.out with ⟨rfl, rfl, rfl⟩ | ⟨g0, rfl⟩
  · have hk0 : k = 0 := by omega
    subst hk0
    have hn1e : n1 = 0 := by rw [← hEy.out.len, List.length_drop, HLX.out]
    subst hn1e
    have k1 : ∀ s' : KW (fun _ => False) w14, s'.w.cell? ⟨BX, 2, none⟩ = some (.slice none 0 0) := fun s' => s'.keep.cell xs id
    have k2 : ∀ s' : KW (fun _ => False) w14, s'.w.cell? ⟨BY, 2, none⟩ = some (.slice p1 0 c1) := fun s' => s'.keep.cell ys id
    have hXe : X.l = [] := List.eq_nil_of_length_eq_zero HLX.out
    have KE := Pin.Aside.mk (fun W h1 h2 => mk_entries (X.l.drop 0) p1 none 0 c1 0 (by omega) W h1 h2)
    have KF := Pin.Aside.mk (fun s' : KW (fun _ => False) w14 => KE.out s'.w (hEy.out.keep' s'.keep) (by rw [hXe]; exact EntsAt.nil _ _))
    clear KE
    refine wp_region_keep (fun _ => False) (by kernel_rfl) (by kernel_rfl) ?_
    repeat (go_big_quiet_step ((with_reducible exact KW.calls (KF.out _))))
    refine wpQuiet_nil ?_
    intro s4
    have e0 : X.base + ((0 : Nat) : Int) = X.base := by simp
    rw [e0] at HYO HYR yb
    have HR := Pin.Aside.mk (fun W hW => lg_right ⟨X.base, t, X.l.drop 0⟩ HYO.out p1 0 c1 (by omega) W hW)
    clear e0
    rw [HYR.out] at HR
    replace yb := s4.keep.cell yb id
    replace yt := s4.keep.cell yt id
    replace ys := s4.keep.cell ys id
    replace hEy := Pin.Aside.mk (hEy.out.keep' s4.keep)
    replace hb := hb.trans (s4.below.mono (by first | exact hb.size | (rw [← hB]; exact hb.size)))
    clear k1 k2 KF xb xt xs hE0
    generalize s4.w = w15 at *
    clear s4
    go_wp2_with fail
    refine (HR.out _ hEy.out).mono ?_
    rintro x w16 ⟨rfl, hbb⟩
    replace hb := hb.trans (hbb.mono (by first | exact hb.size | (rw [← hB]; exact hb.size)))
    clear hbb HR yb yt ys hEy
    go_wp2_with fail
    go_ret
    exact ⟨rfl, by first | exact hb | (rw [hB]; exact hb)⟩
  · have k1 : ∀ s' : KW (fun _ => False) w14, s'.w.cell? ⟨BX, 2, none⟩ = some (.slice (some ⟨g0, 0, none⟩) n0 c0) := fun s' => s'.keep.cell xs id
    have k2 : ∀ s' : KW (fun _ => False) w14, s'.w.cell? ⟨BY, 2, none⟩ = some (.slice p1 n1 c1) := fun s' => s'.keep.cell ys id
    have hk2 : (k : Int) ≤ (n0 : Int) := by omega
    have hk3 : (n0 : Int) ≤ (c0 : Int) := by omega
    have hk4 : (0 : Int) ≤ (k : Int) := by omega
    have hn1e : n1 = n0 - k := by rw [← hEy.out.len, List.length_drop, HLX.out]
    subst hn1e
    have KE := Pin.Aside.mk (fun W h1 h2 => mk_entries (X.l.drop k) p1 (if c0 = k then some ⟨g0, 0, none⟩ else some ⟨g0, k * 11, none⟩) (n0 - k) c1 (c0 - k) (by omega) W h1 h2)
    have hd0 : EntsAt w14 (if c0 = k then some ⟨g0, 0, none⟩ else some ⟨g0, k * 11, none⟩) (n0 - k) (X.l.drop k) := by
      split
      · have e1 : n0 - k = 0 := by omega
        rw [e1, List.drop_of_length_le (by rw [HLX.out]; omega)]
        exact EntsAt.nil _ _
      · have := hE0.out.drop k
        rw [Nat.zero_add] at this
        exact this
    have HK5 := Pin.Aside.mk (fun s' : KW (fun _ => False) w14 => hEy.out.keep' s'.keep)
    have HK6 := Pin.Aside.mk (fun s' : KW (fun _ => False) w14 => hd0.keep' s'.keep)
    have KF := Pin.Aside.mk (fun s' : KW (fun _ => False) w14 => KE.out s'.w (HK5.out s') (HK6.out s'))
    clear hd0 HK5 HK6 KE
    refine wp_region_keep (fun _ => False) (by kernel_rfl) (by kernel_rfl) ?_
    repeat (go_big_quiet_step ((with_reducible exact KW.calls (KF.out _))))
    refine wpQuiet_nil ?_
    intro s4
    generalize (if c0 = k then some (⟨g0, 0, none⟩ : Addr) else some ⟨g0, k * 11, none⟩) = PP at *
    have HR := Pin.Aside.mk (fun W hW => lg_right ⟨X.base + k, t, X.l.drop k⟩ HYO.out p1 (n0 - k) c1 (by omega) W hW)
    rw [HYR.out] at HR
    replace yb := s4.keep.cell yb id
    replace yt := s4.keep.cell yt id
    replace ys := s4.keep.cell ys id
    replace hEy := Pin.Aside.mk (hEy.out.keep' s4.keep)
    replace hb := hb.trans (s4.below.mono (by first | exact hb.size | (rw [← hB]; exact hb.size)))
    clear k1 k2 KF xb xt xs hE0
    generalize s4.w = w15 at *
    clear s4
    go_wp2_with fail
    refine (HR.out _ hEy.out).mono ?_
    rintro x w16 ⟨rfl, hbb⟩
    replace hb := hb.trans (hbb.mono (by first | exact hb.size | (rw [← hB]; exact hb.size)))
    clear hbb HR yb yt ys hEy
    go_wp2_with fail
    go_ret
    exact ⟨rfl, by first | exact hb | (rw [hB]; exact hb)⟩
end Go.Proofs.Ythlmigbimeldbaa
