/- RlogAgree: the walk. -/
import Derived.Test.YthlmigbimeldbaaRlogAgreeM
import Derived.Test.YthlmigbimeldbaaRlogDropsW
import Derived.Test.YthlmigbimeldbaaRegT
set_option maxRecDepth 16000
namespace Go.Proofs.Ythlmigbimeldbaa
open Go.RowKit Go.Pin
set_option linter.unusedVariables false
set_option linter.unusedSimpArgs false
set_option maxHeartbeats 3200000 in
theorem Keep.cell_eq {S : Nat → Prop} {a b : World} (h : Keep S a b) {p : Addr} (hp : p.block < a.heap.size) (hn : ¬ S p.block) : b.cell? p = a.cell? p := by
  unfold World.cell?
  rw [h.block p.block hp hn]
theorem EntsAt.keep3 {blk : Nat} {a w : World} {p : Option Addr} {n : Nat} {L : List En} (h : EntsAt a p n L) (hk : Keep (fun b => b = blk) a w) (hz : ∀ k, 3 ≤ k → a.cell? ⟨blk, k, none⟩ = none) : EntsAt w p n L :=
  ⟨h.len, fun j e he => by
    obtain ⟨A, o, q, hE⟩ := h.at' j e he
    refine ⟨A, o, q, hE.keep hk ?_⟩
    intro hA
    subst hA
    have := hE.c10
    rw [hz _ (by omega)] at this
    cases this⟩
set_option maxHeartbeats 3200000 in
theorem mk_entries_nil (L : List En) (p p2 : Option Addr) (n c c2 : Nat) (hn2 : n ≤ 1000) (w : World) (h1 : EntsAt w p n L) :
    Calls Try.prog 23 #[.slice p n c, .slice p2 0 c2] w fun x w' => x = .returned (.bool (decide (n = 0))) ∧ Below w.heap.size w w' := by
  have hb := Below.refl w.heap.size w
  clear h1
  by_cases hn : n = 0
  · subst hn
    go_enter Try.func23, Try.ntmps23
    go_wp2_with fail
    go_loopw [5] (fun x wr => x = .int .i64 0 ∧ wr = w) (fun _ _ => 0)
    case atStart => exact ⟨rfl, rfl⟩
    case round =>
      obtain ⟨rfl, rfl⟩ := hrel
      go_wp2_with fail
      go_ret
      exact ⟨rfl, hb⟩
  · have h2 : ((n : Int) == 0) = false := by rw [beq_eq_false_iff_ne]; omega
    go_enter Try.func23, Try.ntmps23
    go_wp2_with fail
    go_ret
    exact ⟨by rw [decide_eq_false hn]; rfl, hb⟩
set_option maxHeartbeats 6400000 in
theorem rlogAgree_walk (a0 : Option Addr) (len0 cap0 : Nat) (a1 : Option Addr) (len1 cap1 : Nat) (a2 : Option Addr) (len2 cap2 : Nat) (m' n' : Int) (w : World) (H0 : isSlice madePs w (.slice a0 len0 cap0)) (H1 : isSlice madePs w (.slice a1 len1 cap1)) (H2 : isSlice madePs w (.slice a2 len2 cap2)) (hm0 : 0 ≤ m' ∧ m' ≤ 255) (hn0 : 0 ≤ n' ∧ n' ≤ 255) :
    Calls Try.prog 7 #[.slice a0 len0 cap0, .slice a1 len1 cap1, .slice a2 len2 cap2, .int .u8 m', .int .u8 n'] w fun e w' => e = .returned (.bool true) ∧ Below w.heap.size w w' := by
  obtain ⟨M0, hM0⟩ := mades_of_slice H0
  obtain ⟨M1, hM1⟩ := mades_of_slice H1
  obtain ⟨M2, hM2⟩ := mades_of_slice H2
  have G0 := Pin.Aside.mk (fun W hW => mk_rising M0 0 0 (by omega) (by omega) 10 (by omega) a0 len0 cap0 W hW)
  have G1 := Pin.Aside.mk (fun W hW => mk_rising M1 0 0 (by omega) (by omega) 6 (by omega) a1 len1 cap1 W hW)
  have G2 := Pin.Aside.mk (fun W hW => mk_rising M2 0 0 (by omega) (by omega) 6 (by omega) a2 len2 cap2 W hW)
  obtain ⟨S, hS, HS, hS2, hS3⟩ := ag_high M0 hM0.ok
  obtain ⟨X, hX, HX⟩ := ag_low M1 hM1.ok
  obtain ⟨Y, hY, HY⟩ := ag_low M2 hM2.ok
  rw [hS] at G0
  rw [hX] at G1
  rw [hY] at G2
  have HM0 := Pin.Aside.mk hM0
  have HM1 := Pin.Aside.mk hM1
  have HM2 := Pin.Aside.mk hM2
  have AS := Pin.Aside.mk HS
  have AX := Pin.Aside.mk HX
  have AY := Pin.Aside.mk HY
  have S2 := Pin.Aside.mk hS2
  clear hS hX hY H0 H1 H2 hM0 hM1 hM2 HS HX HY hS2
  dsimp only [Lg.val] at G0 G1 G2
  have hb := Below.refl w.heap.size w
  have hB0 : w.heap.size = w.heap.size := rfl
  have He := Pin.Aside.mk (mk_examples w)
  generalize hB : w.heap.size = B at hb hB0 He ⊢
  clear hB0
  go_enter Try.func7, Try.ntmps7
  go_wp2_with fail
  refine He.out.mono ?_
  rintro x w1 ⟨rfl, hbb⟩
  replace hb := hb.trans hbb
  clear hbb He
  go_wp2_with fail
  refine (G0.out w1 (HM0.out.below (by rw [hB]; exact hb))).mono ?_
  rintro x w2 ⟨⟨p0, n0, c0, rfl, hOw⟩, hbb⟩
  have hOl := ownE_le hOw (show B ≤ w1.heap.size + 2 by have := hb.size; omega)
  replace hb := hb.trans (hbb.mono (by first | exact hb.size | (rw [← hB]; exact hb.size)))
  have hn0S : S.length = n0 := (OwnE.ents hOl).1.len
  have hc0 := (OwnE.ents hOl).2.1
  have hgB := (OwnE.ents hOl).2.2
  have hgX : ∀ g, (Value.slice p0 n0 c0).ownBlock = some g → g < w2.heap.size := fun g hg => (hOl.lt g hg).2
  have hka := (Keep.refl (fun _ => False) w2).alloc (.cells #[.int .u64 0, .int .u64 0, .slice p0 n0 c0] 27)
  obtain ⟨xb, xt, xs⟩ := LgCells.new w2 27 ⟨0, 0, S⟩ p0 n0 c0
  replace hb := hb.trans (hka.below (by first | exact hb.size | (rw [← hB]; exact hb.size)) fun _ q => q.elim)
  have HV := Pin.Aside.mk (ownE_keep hOl hka fun _ _ q => q)
  clear hka hOw hOl hbb G0 HM0
  go_upto_region 5 with fail
  generalize World.alloc w2 _ = w3 at *
  generalize w2.heap.size = BX at *
  try dsimp only at xb xt xs
  have hn10 : n0 ≤ 10 := by omega
  have HGB := Pin.Aside.mk hgB
  have HGX := Pin.Aside.mk hgX
  have HN0 := Pin.Aside.mk hn0S
  have HB3 := Pin.Aside.mk hb
  clear hgB hgX hn0S hb hS3
  go_wp2_with fail
  go_loopw [13] (fun x wr => ∃ i : Nat, i ≤ n0 ∧ x = .int .i64 i ∧ wr.cell? ⟨BX, 0, none⟩ = some (.int .u64 0) ∧ wr.cell? ⟨BX, 1, none⟩ = some (.int .u64 0) ∧ wr.cell? ⟨BX, 2, none⟩ = some (.slice p0 n0 c0) ∧ Pin.Aside (Below B w wr) ∧ Pin.Aside (OwnE wr B 32 (.slice p0 n0 c0) ((S.take i).map agUp ++ S.drop i))) (fun x _ => n0 - (intOf x).toNat)
  case atStart => exact ⟨0, by omega, rfl, xb, xt, xs, HB3, HV⟩
  case round =>
    clear xb xt xs HB3 HV
    obtain ⟨i, hi, rfl, xb, xt, xs, HB3, HV⟩ := hrel
    by_cases hlt : i < n0
    · obtain ⟨e, he⟩ : ∃ x, S[i]? = some x := ⟨S[i]'(by have := HN0.out; omega), List.getElem?_eq_getElem (by have := HN0.out; omega)⟩
      obtain ⟨het1, het2⟩ := S2.out e (List.mem_of_getElem? he)
      obtain ⟨q1, q2⟩ := ag_step S i e he
      generalize (S.take i).map agUp ++ S.drop i = Z at *
      obtain ⟨g, o, rfl, hEn⟩ := (OwnE.ents HV.out).1.at' i e q1
      have ho : o = 0 := ownE_zero HV.out
      subst ho
      have hgB := HGB.out g 0 rfl
      have hgX := HGX.out g rfl
      have hf0 := ownE_frozen HV.out (i * 11)
      have V1 := ownE_set HV.out i e (agUp e) 0 (.int .u64 (e.term + 50)) q1 (by omega) rfl
      rw [q2, Nat.add_zero] at V1
      have c0' := hEn.c0
      simp only [Nat.zero_add] at c0'
      have hw1 : IntKind.u64.wrap (e.term + 50) = e.term + 50 := by rw [IntKind.wrap_u64]; omega
      have hk0 : (0 : Int) ≤ (i : Int) := by omega
      have hk1 : (i : Int) < (n0 : Int) := by omega
      have hks := (Keep.refl (fun b => b = g) wr).setCell (p := ⟨g, i * 11, none⟩) (.inl rfl) (.int .u64 (e.term + 50))
      have HV1 := Pin.Aside.mk V1
      have HB4 := Pin.Aside.mk (HB3.out.setCell (p := ⟨g, i * 11, none⟩) hgB (.int .u64 (e.term + 50)))
      have XB1 := Pin.Aside.mk (hks.cell xb (by intro q; dsimp only at q; omega))
      have XB2 := Pin.Aside.mk (hks.cell xt (by intro q; dsimp only at q; omega))
      have XB3 := Pin.Aside.mk (hks.cell xs (by intro q; dsimp only at q; omega))
      clear V1 hEn he q1 q2 HV HB3 hks
      go_wp2_with fail
      go_region
      all_goals
        clear c0' hf0 hw1 xb xt xs
        go_wp2_with fail
        go_roundw
        case rel => exact ⟨i + 1, by omega, by go_num, XB1.out, XB2.out, XB3.out, Pin.Aside.mk (below_drew HB4.out), Pin.Aside.mk HV1.out⟩
        case measure => simp [intOf]; omega
    · have hi2 : i = n0 := by omega
      have hfin : (S.take i).map agUp ++ S.drop i = S.map agUp := by rw [List.take_of_length_le (by have := HN0.out; omega), List.drop_of_length_le (by have := HN0.out; omega), List.append_nil]
      rw [hfin] at HV
      have HTl : Pin.Aside ((S.map agUp).length = n0) := Pin.Aside.mk (by rw [List.length_map]; exact HN0.out)
      have hb := HB3.out
      have hE0 := Pin.Aside.mk (OwnE.ents HV.out).1
      have hForm := Pin.Aside.mk (ownE_form HV.out)
      clear HV HB3 hfin HN0 S2 HGB HGX
      generalize S.map agUp = T at *
      obtain ⟨m, hm, hmn⟩ : ∃ m : Nat, m'.tmod ((n0 : Int) + 1) = (m : Int) ∧ m ≤ n0 := by
        rw [Int.tmod_eq_emod_of_nonneg hm0.1]
        have h1 := Int.emod_nonneg m' (show ((n0 : Int) + 1) ≠ 0 by omega)
        have h2 := Int.emod_lt_of_pos m' (show (0 : Int) < (n0 : Int) + 1 by omega)
        generalize m' % ((n0 : Int) + 1) = z at h1 h2 ⊢
        exact ⟨z.toNat, by omega, by omega⟩
      obtain ⟨n, hn, hnn⟩ : ∃ n : Nat, n'.tmod ((n0 : Int) + 1) = (n : Int) ∧ n ≤ n0 := by
        rw [Int.tmod_eq_emod_of_nonneg hn0.1]
        have h1 := Int.emod_nonneg n' (show ((n0 : Int) + 1) ≠ 0 by omega)
        have h2 := Int.emod_lt_of_pos n' (show (0 : Int) < (n0 : Int) + 1 by omega)
        generalize n' % ((n0 : Int) + 1) = z at h1 h2 ⊢
        exact ⟨z.toNat, by omega, by omega⟩
      go_wp2_with fail
      refine (G1.out wr (HM1.out.below (by rw [hB]; exact hb))).mono ?_
      rintro x w5 ⟨⟨p1, n1, c1, rfl, hOx⟩, hbb⟩
      have hE1 := Pin.Aside.mk (OwnE.ents hOx).1
      have hc1 := (OwnE.ents hOx).2.1
      have hn1 : n1 ≤ 10 := by rw [← hE1.out.len]; exact AX.out.len
      clear hOx
      have hkk : Keep (fun _ => False) wr w5 := Keep.of_below hbb fun _ q _ => q
      replace xb := hkk.cell xb id
      replace xt := hkk.cell xt id
      replace xs := hkk.cell xs id
      replace hE0 := Pin.Aside.mk (hE0.out.keep' hkk)
      replace hb := hb.trans (hbb.mono (by first | exact hb.size | (rw [← hB]; exact hb.size)))
      clear hkk hbb
      have hka := (Keep.refl (fun _ => False) w5).alloc (.cells #[.int .u64 0, .int .u64 0, .slice p1 n1 c1] 27)
      obtain ⟨yb, yt, ys⟩ := LgCells.new w5 27 ⟨0, 0, X⟩ p1 n1 c1
      try dsimp only at yb yt ys
      replace xb := hka.cell xb id
      replace xt := hka.cell xt id
      replace xs := hka.cell xs id
      replace hE0 := Pin.Aside.mk (hE0.out.keep' hka)
      replace hE1 := Pin.Aside.mk (hE1.out.keep' hka)
      replace hb := hb.trans (hka.below (by first | exact hb.size | (rw [← hB]; exact hb.size)) fun _ q => q.elim)
      clear hka
      go_upto_region 10 with fail
      generalize World.alloc w5 _ = w6 at *
      generalize w5.heap.size = BY at *
      go_wp2_with fail
      refine (G2.out w6 (HM2.out.below (by rw [hB]; exact hb))).mono ?_
      rintro x w7 ⟨⟨p2, n2, c2, rfl, hOx⟩, hbb⟩
      have hE2 := Pin.Aside.mk (OwnE.ents hOx).1
      have hc2 := (OwnE.ents hOx).2.1
      have hn2 : n2 ≤ 10 := by rw [← hE2.out.len]; exact AY.out.len
      clear hOx
      have hkk : Keep (fun _ => False) w6 w7 := Keep.of_below hbb fun _ q _ => q
      replace xb := hkk.cell xb id
      replace xt := hkk.cell xt id
      replace xs := hkk.cell xs id
      replace yb := hkk.cell yb id
      replace yt := hkk.cell yt id
      replace ys := hkk.cell ys id
      replace hE0 := Pin.Aside.mk (hE0.out.keep' hkk)
      replace hE1 := Pin.Aside.mk (hE1.out.keep' hkk)
      replace hb := hb.trans (hbb.mono (by first | exact hb.size | (rw [← hB]; exact hb.size)))
      clear hkk hbb
      have hka := (Keep.refl (fun _ => False) w7).alloc (.cells #[.int .u64 0, .int .u64 0, .slice p2 n2 c2] 27)
      obtain ⟨zb, zt, zs⟩ := LgCells.new w7 27 ⟨0, 0, Y⟩ p2 n2 c2
      try dsimp only at zb zt zs
      replace xb := hka.cell xb id
      replace xt := hka.cell xt id
      replace xs := hka.cell xs id
      replace yb := hka.cell yb id
      replace yt := hka.cell yt id
      replace ys := hka.cell ys id
      replace hE0 := Pin.Aside.mk (hE0.out.keep' hka)
      replace hE1 := Pin.Aside.mk (hE1.out.keep' hka)
      replace hE2 := Pin.Aside.mk (hE2.out.keep' hka)
      replace hb := hb.trans (hka.below (by first | exact hb.size | (rw [← hB]; exact hb.size)) fun _ q => q.elim)
      clear hka
      go_upto_region 11 with fail
      generalize World.alloc w7 _ = w8 at *
      generalize w7.heap.size = BZ at *
      obtain ⟨hT1, hT2, hT3⟩ := agree_take AX.out.seq AX.out.rises AS.out.seq AS.out.rises (by have := AX.out.len; omega) (by have := AS.out.len; omega) AX.out.low AS.out.high m (by rw [HTl.out]; exact hmn)
      have K1 := Pin.Aside.mk (fun W hW hM => lg_take ⟨0, 0, X⟩ AX.out.ok 0 0 (by omega) (by omega) (T.take m) (fun e he => AS.out.ok e (List.mem_of_mem_take he)) p1 p0 n1 c1 m c0 (by omega) hc1 (by omega) (by omega) W hW hM)
      rw [hT1] at K1
      dsimp only at K1
      obtain ⟨fm, hfm⟩ : ∃ f : Int, (if m = 0 then 0 else 1) = f := ⟨_, rfl⟩
      rw [hfm] at K1
      have HFm := Pin.Aside.mk hfm
      clear hfm
      have SQBP := Pin.Aside.mk hT2
      have SRBP := Pin.Aside.mk hT3
      clear hT1 hT2 hT3
      have k1 : ∀ s' : KW (fun _ => False) w8, s'.w.cell? ⟨BX, 2, none⟩ = some (.slice p0 n0 c0) := fun s' => s'.keep.cell xs id
      have k2 : ∀ s' : KW (fun _ => False) w8, s'.w.cell? ⟨BY, 0, none⟩ = some (.int .u64 0) := fun s' => s'.keep.cell yb id
      have k3 : ∀ s' : KW (fun _ => False) w8, s'.w.cell? ⟨BY, 1, none⟩ = some (.int .u64 0) := fun s' => s'.keep.cell yt id
      have k4 : ∀ s' : KW (fun _ => False) w8, s'.w.cell? ⟨BY, 2, none⟩ = some (.slice p1 n1 c1) := fun s' => s'.keep.cell ys id
      go_cut [16, 17, 18] (fun v1 v2 v3 wx => v2 = .int .u64 fm ∧ v3 = .bool true ∧ Below w8.heap.size w8 wx ∧ ∃ (BP : Nat) (p4 : Option Addr) (n4 c4 : Nat), v1 = .pointer (some ⟨BP, 0, none⟩) ∧ LgCells wx BP (agTaken X T m) p4 n4 c4 ∧ EntsAt wx p4 n4 (agTaken X T m).l ∧ n4 ≤ c4)
      case first =>
        refine wp_region_stay (S := fun w' => ∃ s' : KW (fun _ => False) w8, w' = s'.w) 11 (by kernel_rfl) (by simp) (by kernel_rfl) (by kernel_rfl) ⟨⟨w8.drew, (Keep.refl _ w8).drew⟩, rfl⟩ ?_
        simp only [List.take_succ_cons, List.take_zero]
        refine wpStay_quietS 10 _ _ (by kernel_rfl) ?_
        simp only [List.take_succ_cons, List.take_zero, List.drop_succ_cons, List.drop_zero]
        repeat (go_big_quiet_step (fail))
        refine wpQuiet_nil ?_
        refine wpStay_call (.slice p0 m c0) (by rfl) (fun w' hw' => ?_) ?_
        · have hgm : (0 : Int) ≤ (m : Int) := by omega
          have hmc : m ≤ c0 := by omega
          rcases hForm.out with ⟨hp, hn, hc⟩ | ⟨g0, hp⟩
          · subst hp hn hc
            have hm0 : m = 0 := by omega
            subst hm0
            unfold Oper.quietAt
            go_simp
          · subst hp
            unfold Oper.quietAt
            go_simp
        refine wpStay_nil ?_
        refine wpAnyH_two 11 16 (by kernel_rfl) rfl rfl (fun K' hK' => ?_) (fun K' hK' => ?_)
        · go_simp
          refine (K1.out _ (hE1.out.keep' (Keep.refl _ w8).drew) ((hE0.out.take m hmn).keep' (Keep.refl _ w8).drew)).mono ?_
          rintro x w9 ⟨⟨p4, n4, c4, rfl, hc4, hE4⟩, hbb⟩
          replace hbb : Below w8.heap.size w8 w9 := (below_drew (Below.refl w8.heap.size w8)).trans hbb
          have hk9 : Keep (fun _ => False) w8 w9 := Keep.of_below hbb fun _ q _ => q
          refine hK'.out _ _ ⟨⟨w9, hk9⟩, rfl⟩ (fun _ => ?_)
          clear hK' K' K1 k1 k2 k3 k4
          refine wpAnyH_more (g := 4) 12 4 (by simp) (by kernel_rfl) (by kernel_rfl) ⟨⟨w9, hk9⟩, rfl⟩ ?_
          simp only [List.take_succ_cons, List.take_zero, List.drop_succ_cons, List.drop_zero]
          refine wpStay_quietS 4 _ _ (by kernel_rfl) ?_
          simp only [List.take_succ_cons, List.take_zero, List.drop_succ_cons, List.drop_zero]
          repeat (go_big_quiet_step (fail))
          refine wpQuiet_nil ?_
          refine wpStay_nil ?_
          have hkA := hk9.alloc (.cells #[.int .u64 0, .int .u64 0, .slice none 0 0] 27)
          refine wpAnyH_one 16 (by kernel_rfl) rfl (fun K' hK' => ?_)
          go_simp
          refine hK'.out _ _ ⟨⟨_, hkA⟩, rfl⟩ (fun _ => ?_)
          clear hK' K'
          refine wpAnyH_one 17 (by kernel_rfl) rfl (fun K' hK' => ?_)
          go_simp
          have hk10 := hk9.alloc (.cells #[.int .u64 (agTaken X T m).base, .int .u64 (agTaken X T m).bt, .slice p4 n4 c4] 27)
          refine hK'.out _ _ ⟨⟨_, hk10⟩, rfl⟩ (fun _ => ?_)
          clear hK' K'
          have hLP := LgCells.new w9 27 (agTaken X T m) p4 n4 c4
          have hE5 := hE4.keep' ((Keep.refl (fun _ => False) w9).alloc (.cells #[.int .u64 (agTaken X T m).base, .int .u64 (agTaken X T m).bt, .slice p4 n4 c4] 27))
          have hbA := hk10.below (Nat.le_refl _) fun _ q => q.elim
          generalize w9.heap.size = BP at *
          generalize w9.alloc (.cells #[.int .u64 (agTaken X T m).base, .int .u64 (agTaken X T m).bt, .slice p4 n4 c4] 27) = w10 at *
          refine wpAnyH_more (g := 0) 18 2 (by simp) (by kernel_rfl) (by kernel_rfl) ⟨⟨w10, hk10⟩, rfl⟩ ?_
          simp only [List.take_succ_cons, List.take_zero, List.drop_succ_cons, List.drop_zero]
          refine wpStay_quietS 2 _ _ (by kernel_rfl) ?_
          simp only [List.take_succ_cons, List.take_zero, List.drop_succ_cons, List.drop_zero]
          repeat (go_big_quiet_step (fail))
          refine wpQuiet_nil ?_
          refine wpStay_nil ?_
          refine wpAnyH_done (by kernel_rfl) (NoPanic.normal ?_) _
          go_wp2_with fail
          go_meet
          exact ⟨rfl, rfl, hbA, BP, p4, n4, c4, rfl, hLP, hE5, hc4⟩
        · go_simp
          have hka := ((Keep.refl (fun _ => False) w8).alloc (.cells #[.int .u64 0, .int .u64 0, .slice none 0 0] 27)).drew
          refine hK'.out _ _ ⟨⟨_, hka⟩, rfl⟩ (fun _ => ?_)
          clear hK' K'
          have z0 : ((w8.alloc (.cells #[.int .u64 0, .int .u64 0, .slice none 0 0] 27)).drew).cell? ⟨w8.heap.size, 0, none⟩ = some (.int .u64 0) := by simp
          have z1 : ((w8.alloc (.cells #[.int .u64 0, .int .u64 0, .slice none 0 0] 27)).drew).cell? ⟨w8.heap.size, 1, none⟩ = some (.int .u64 0) := by simp
          have z2 : ((w8.alloc (.cells #[.int .u64 0, .int .u64 0, .slice none 0 0] 27)).drew).cell? ⟨w8.heap.size, 2, none⟩ = some (.slice none 0 0) := by simp
          have zf : ∀ j, ((w8.alloc (.cells #[.int .u64 0, .int .u64 0, .slice none 0 0] 27)).drew).frozen? ⟨w8.heap.size, j, none⟩ = false := by intro j; simp
          have hba := hka.below (Nat.le_refl _) fun _ q => q.elim
          have hzn : ∀ k, 3 ≤ k → ((w8.alloc (.cells #[.int .u64 0, .int .u64 0, .slice none 0 0] 27)).drew).cell? ⟨w8.heap.size, k, none⟩ = none := by
            intro k hk
            obtain ⟨j, rfl⟩ : ∃ j, k = j + 3 := ⟨k - 3, by omega⟩
            simp
          have hzl : w8.heap.size < ((w8.alloc (.cells #[.int .u64 0, .int .u64 0, .slice none 0 0] 27)).drew).heap.size := by simp
          generalize ((w8.alloc (.cells #[.int .u64 0, .int .u64 0, .slice none 0 0] 27)).drew) = wz at *
          refine wpAnyH_one 11 (by kernel_rfl) rfl (fun K' hK' => ?_)
          go_simp
          refine (K1.out _ (hE1.out.keep' hka) ((hE0.out.take m hmn).keep' hka)).mono ?_
          rintro x w9 ⟨⟨p4, n4, c4, rfl, hc4, hE4⟩, hbb⟩
          have hkz : Keep (fun _ => False) wz w9 := Keep.of_below hbb fun _ q _ => q
          have HZ9 : Pin.Aside (∀ k, 3 ≤ k → w9.cell? ⟨w8.heap.size, k, none⟩ = none) := Pin.Aside.mk (fun k hk => by rw [Keep.cell_eq hkz hzl id]; exact hzn k hk)
          have hk9 := hka.trans hkz
          have y0 := hkz.cell z0 id
          have y1 := hkz.cell z1 id
          have y2 := hkz.cell z2 id
          have yf : ∀ j, w9.frozen? ⟨w8.heap.size, j, none⟩ = false := fun j => (hkz.frozen_at (q := ⟨w8.heap.size, j, none⟩) z0 rfl id).trans (zf j)
          have yf0 := yf 0
          have yf1 := yf 1
          have yf2 := yf 2
          replace hbb := hba.trans (hbb.mono hba.size)
          refine hK'.out _ _ ⟨⟨w9, hk9⟩, rfl⟩ (fun _ => ?_)
          clear hK' K' K1 k1 k2 k3 k4 z0 z1 z2 zf hkz hka hzn hzl
          refine wpAnyH_more (g := 3) 12 4 (by simp) (by kernel_rfl) (by kernel_rfl) ⟨⟨w9, hk9⟩, rfl⟩ ?_
          simp only [List.take_succ_cons, List.take_zero, List.drop_succ_cons, List.drop_zero]
          refine wpStay_quietS 4 _ _ (by kernel_rfl) ?_
          simp only [List.take_succ_cons, List.take_zero, List.drop_succ_cons, List.drop_zero]
          repeat (go_big_quiet_step (fail))
          refine wpQuiet_nil ?_
          refine wpStay_nil ?_
          refine wpAnyH_one 17 (by kernel_rfl) rfl (fun K' hK' => ?_)
          go_simp
          have hk4 := ((((Keep.refl (fun b => b = w8.heap.size) w9).setCell (p := ⟨w8.heap.size, 0, none⟩) (.inl rfl) (.int .u64 (agTaken X T m).base)).setCell (p := ⟨w8.heap.size, 1, none⟩) (.inl rfl) (.int .u64 (agTaken X T m).bt)).setCell (p := ⟨w8.heap.size, 2, none⟩) (.inl rfl) (.slice p4 n4 c4))
          have hbA := hbb.trans (hk4.below (B := w8.heap.size) hbb.size fun q h => by rw [h]; exact Nat.le_refl _)
          have hk10 : Keep (fun _ => False) w8 _ := Keep.of_below hbA fun _ q _ => q
          have hLP : LgCells (((w9.setCell ⟨w8.heap.size, 0, none⟩ (.int .u64 (agTaken X T m).base)).setCell ⟨w8.heap.size, 1, none⟩ (.int .u64 (agTaken X T m).bt)).setCell ⟨w8.heap.size, 2, none⟩ (.slice p4 n4 c4)) w8.heap.size (agTaken X T m) p4 n4 c4 := by
            constructor <;> simp [go_sem, y0, y1, y2]
          have hE5 := EntsAt.keep3 hE4 hk4 HZ9.out
          refine hK'.out _ _ ⟨⟨_, hk10⟩, rfl⟩ (fun _ => ?_)
          clear hK' K'
          generalize (((w9.setCell ⟨w8.heap.size, 0, none⟩ (.int .u64 (agTaken X T m).base)).setCell ⟨w8.heap.size, 1, none⟩ (.int .u64 (agTaken X T m).bt)).setCell ⟨w8.heap.size, 2, none⟩ (.slice p4 n4 c4)) = w10 at *
          generalize w8.heap.size = BP at *
          refine wpAnyH_more (g := 0) 18 2 (by simp) (by kernel_rfl) (by kernel_rfl) ⟨⟨w10, hk10⟩, rfl⟩ ?_
          simp only [List.take_succ_cons, List.take_zero, List.drop_succ_cons, List.drop_zero]
          refine wpStay_quietS 2 _ _ (by kernel_rfl) ?_
          simp only [List.take_succ_cons, List.take_zero, List.drop_succ_cons, List.drop_zero]
          repeat (go_big_quiet_step (fail))
          refine wpQuiet_nil ?_
          refine wpStay_nil ?_
          refine wpAnyH_done (by kernel_rfl) (NoPanic.normal ?_) _
          go_wp2_with fail
          go_meet
          exact ⟨rfl, rfl, hbA, BP, p4, n4, c4, rfl, hLP, hE5, hc4⟩
      case rest =>
        obtain ⟨rfl, rfl, hbb, BP, p4, n4, c4, rfl, ⟨pb, pt, ps⟩, hEt, hccBP⟩ := hcut
        obtain ⟨wP, hwc⟩ : ∃ w9, w9 = wc := ⟨_, rfl⟩
        subst hwc
        have hEBP := Pin.Aside.mk hEt
        clear hEt K1 k1 k2 k3 k4
        have hkk : Keep (fun _ => False) w8 wP := Keep.of_below hbb fun _ q _ => q
        replace xb := hkk.cell xb id
        replace xt := hkk.cell xt id
        replace xs := hkk.cell xs id
        replace yb := hkk.cell yb id
        replace yt := hkk.cell yt id
        replace ys := hkk.cell ys id
        replace zb := hkk.cell zb id
        replace zt := hkk.cell zt id
        replace zs := hkk.cell zs id
        replace hE0 := Pin.Aside.mk (hE0.out.keep' hkk)
        replace hE1 := Pin.Aside.mk (hE1.out.keep' hkk)
        replace hE2 := Pin.Aside.mk (hE2.out.keep' hkk)
        replace hb := hb.trans (hbb.mono (by first | exact hb.size | (rw [← hB]; exact hb.size)))
        clear hkk hbb
        go_upto_region 12 with fail
        obtain ⟨hT1, hT2, hT3⟩ := agree_take AY.out.seq AY.out.rises AS.out.seq AS.out.rises (by have := AY.out.len; omega) (by have := AS.out.len; omega) AY.out.low AS.out.high n (by rw [HTl.out]; exact hnn)
        have K1 := Pin.Aside.mk (fun W hW hM => lg_take ⟨0, 0, Y⟩ AY.out.ok 0 0 (by omega) (by omega) (T.take n) (fun e he => AS.out.ok e (List.mem_of_mem_take he)) p2 p0 n2 c2 n c0 (by omega) hc2 (by omega) (by omega) W hW hM)
        rw [hT1] at K1
        dsimp only at K1
        obtain ⟨fn, hfn⟩ : ∃ f : Int, (if n = 0 then 0 else 1) = f := ⟨_, rfl⟩
        rw [hfn] at K1
        have HFn := Pin.Aside.mk hfn
        clear hfn
        have SQBQ := Pin.Aside.mk hT2
        have SRBQ := Pin.Aside.mk hT3
        clear hT1 hT2 hT3
        have k1 : ∀ s' : KW (fun _ => False) wP, s'.w.cell? ⟨BX, 2, none⟩ = some (.slice p0 n0 c0) := fun s' => s'.keep.cell xs id
        have k2 : ∀ s' : KW (fun _ => False) wP, s'.w.cell? ⟨BZ, 0, none⟩ = some (.int .u64 0) := fun s' => s'.keep.cell zb id
        have k3 : ∀ s' : KW (fun _ => False) wP, s'.w.cell? ⟨BZ, 1, none⟩ = some (.int .u64 0) := fun s' => s'.keep.cell zt id
        have k4 : ∀ s' : KW (fun _ => False) wP, s'.w.cell? ⟨BZ, 2, none⟩ = some (.slice p2 n2 c2) := fun s' => s'.keep.cell zs id
        go_cut [19, 20, 21] (fun v1 v2 v3 wx => v2 = .int .u64 fn ∧ v3 = .bool true ∧ Below wP.heap.size wP wx ∧ ∃ (BQ : Nat) (p6 : Option Addr) (n6 c6 : Nat), v1 = .pointer (some ⟨BQ, 0, none⟩) ∧ LgCells wx BQ (agTaken Y T n) p6 n6 c6 ∧ EntsAt wx p6 n6 (agTaken Y T n).l ∧ n6 ≤ c6)
        case first =>
          refine wp_region_stay (S := fun w' => ∃ s' : KW (fun _ => False) wP, w' = s'.w) 11 (by kernel_rfl) (by simp) (by kernel_rfl) (by kernel_rfl) ⟨⟨wP.drew, (Keep.refl _ wP).drew⟩, rfl⟩ ?_
          simp only [List.take_succ_cons, List.take_zero]
          refine wpStay_quietS 10 _ _ (by kernel_rfl) ?_
          simp only [List.take_succ_cons, List.take_zero, List.drop_succ_cons, List.drop_zero]
          repeat (go_big_quiet_step (fail))
          refine wpQuiet_nil ?_
          refine wpStay_call (.slice p0 n c0) (by rfl) (fun w' hw' => ?_) ?_
          · have hgm : (0 : Int) ≤ (n : Int) := by omega
            have hmc : n ≤ c0 := by omega
            rcases hForm.out with ⟨hp, hn, hc⟩ | ⟨g0, hp⟩
            · subst hp hn hc
              have hm0 : n = 0 := by omega
              subst hm0
              unfold Oper.quietAt
              go_simp
            · subst hp
              unfold Oper.quietAt
              go_simp
          refine wpStay_nil ?_
          refine wpAnyH_two 11 16 (by kernel_rfl) rfl rfl (fun K' hK' => ?_) (fun K' hK' => ?_)
          · go_simp
            refine (K1.out _ (hE2.out.keep' (Keep.refl _ wP).drew) ((hE0.out.take n hnn).keep' (Keep.refl _ wP).drew)).mono ?_
            rintro x w9 ⟨⟨p6, n6, c6, rfl, hc6, hE4⟩, hbb⟩
            replace hbb : Below wP.heap.size wP w9 := (below_drew (Below.refl wP.heap.size wP)).trans hbb
            have hk9 : Keep (fun _ => False) wP w9 := Keep.of_below hbb fun _ q _ => q
            refine hK'.out _ _ ⟨⟨w9, hk9⟩, rfl⟩ (fun _ => ?_)
            clear hK' K' K1 k1 k2 k3 k4
            refine wpAnyH_more (g := 4) 12 4 (by simp) (by kernel_rfl) (by kernel_rfl) ⟨⟨w9, hk9⟩, rfl⟩ ?_
            simp only [List.take_succ_cons, List.take_zero, List.drop_succ_cons, List.drop_zero]
            refine wpStay_quietS 4 _ _ (by kernel_rfl) ?_
            simp only [List.take_succ_cons, List.take_zero, List.drop_succ_cons, List.drop_zero]
            repeat (go_big_quiet_step (fail))
            refine wpQuiet_nil ?_
            refine wpStay_nil ?_
            have hkA := hk9.alloc (.cells #[.int .u64 0, .int .u64 0, .slice none 0 0] 27)
            refine wpAnyH_one 16 (by kernel_rfl) rfl (fun K' hK' => ?_)
            go_simp
            refine hK'.out _ _ ⟨⟨_, hkA⟩, rfl⟩ (fun _ => ?_)
            clear hK' K'
            refine wpAnyH_one 17 (by kernel_rfl) rfl (fun K' hK' => ?_)
            go_simp
            have hk10 := hk9.alloc (.cells #[.int .u64 (agTaken Y T n).base, .int .u64 (agTaken Y T n).bt, .slice p6 n6 c6] 27)
            refine hK'.out _ _ ⟨⟨_, hk10⟩, rfl⟩ (fun _ => ?_)
            clear hK' K'
            have hLP := LgCells.new w9 27 (agTaken Y T n) p6 n6 c6
            have hE5 := hE4.keep' ((Keep.refl (fun _ => False) w9).alloc (.cells #[.int .u64 (agTaken Y T n).base, .int .u64 (agTaken Y T n).bt, .slice p6 n6 c6] 27))
            have hbA := hk10.below (Nat.le_refl _) fun _ q => q.elim
            generalize w9.heap.size = BQ at *
            generalize w9.alloc (.cells #[.int .u64 (agTaken Y T n).base, .int .u64 (agTaken Y T n).bt, .slice p6 n6 c6] 27) = w10 at *
            refine wpAnyH_more (g := 0) 18 2 (by simp) (by kernel_rfl) (by kernel_rfl) ⟨⟨w10, hk10⟩, rfl⟩ ?_
            simp only [List.take_succ_cons, List.take_zero, List.drop_succ_cons, List.drop_zero]
            refine wpStay_quietS 2 _ _ (by kernel_rfl) ?_
            simp only [List.take_succ_cons, List.take_zero, List.drop_succ_cons, List.drop_zero]
            repeat (go_big_quiet_step (fail))
            refine wpQuiet_nil ?_
            refine wpStay_nil ?_
            refine wpAnyH_done (by kernel_rfl) (NoPanic.normal ?_) _
            go_wp2_with fail
            go_meet
            exact ⟨rfl, rfl, hbA, BQ, p6, n6, c6, rfl, hLP, hE5, hc6⟩
          · go_simp
            have hka := ((Keep.refl (fun _ => False) wP).alloc (.cells #[.int .u64 0, .int .u64 0, .slice none 0 0] 27)).drew
            refine hK'.out _ _ ⟨⟨_, hka⟩, rfl⟩ (fun _ => ?_)
            clear hK' K'
            have z0 : ((wP.alloc (.cells #[.int .u64 0, .int .u64 0, .slice none 0 0] 27)).drew).cell? ⟨wP.heap.size, 0, none⟩ = some (.int .u64 0) := by simp
            have z1 : ((wP.alloc (.cells #[.int .u64 0, .int .u64 0, .slice none 0 0] 27)).drew).cell? ⟨wP.heap.size, 1, none⟩ = some (.int .u64 0) := by simp
            have z2 : ((wP.alloc (.cells #[.int .u64 0, .int .u64 0, .slice none 0 0] 27)).drew).cell? ⟨wP.heap.size, 2, none⟩ = some (.slice none 0 0) := by simp
            have zf : ∀ j, ((wP.alloc (.cells #[.int .u64 0, .int .u64 0, .slice none 0 0] 27)).drew).frozen? ⟨wP.heap.size, j, none⟩ = false := by intro j; simp
            have hba := hka.below (Nat.le_refl _) fun _ q => q.elim
            have hzn : ∀ k, 3 ≤ k → ((wP.alloc (.cells #[.int .u64 0, .int .u64 0, .slice none 0 0] 27)).drew).cell? ⟨wP.heap.size, k, none⟩ = none := by
              intro k hk
              obtain ⟨j, rfl⟩ : ∃ j, k = j + 3 := ⟨k - 3, by omega⟩
              simp
            have hzl : wP.heap.size < ((wP.alloc (.cells #[.int .u64 0, .int .u64 0, .slice none 0 0] 27)).drew).heap.size := by simp
            generalize ((wP.alloc (.cells #[.int .u64 0, .int .u64 0, .slice none 0 0] 27)).drew) = wz at *
            refine wpAnyH_one 11 (by kernel_rfl) rfl (fun K' hK' => ?_)
            go_simp
            refine (K1.out _ (hE2.out.keep' hka) ((hE0.out.take n hnn).keep' hka)).mono ?_
            rintro x w9 ⟨⟨p6, n6, c6, rfl, hc6, hE4⟩, hbb⟩
            have hkz : Keep (fun _ => False) wz w9 := Keep.of_below hbb fun _ q _ => q
            have HZ9 : Pin.Aside (∀ k, 3 ≤ k → w9.cell? ⟨wP.heap.size, k, none⟩ = none) := Pin.Aside.mk (fun k hk => by rw [Keep.cell_eq hkz hzl id]; exact hzn k hk)
            have hk9 := hka.trans hkz
            have y0 := hkz.cell z0 id
            have y1 := hkz.cell z1 id
            have y2 := hkz.cell z2 id
            have yf : ∀ j, w9.frozen? ⟨wP.heap.size, j, none⟩ = false := fun j => (hkz.frozen_at (q := ⟨wP.heap.size, j, none⟩) z0 rfl id).trans (zf j)
            have yf0 := yf 0
            have yf1 := yf 1
            have yf2 := yf 2
            replace hbb := hba.trans (hbb.mono hba.size)
            refine hK'.out _ _ ⟨⟨w9, hk9⟩, rfl⟩ (fun _ => ?_)
            clear hK' K' K1 k1 k2 k3 k4 z0 z1 z2 zf hkz hka hzn hzl
            refine wpAnyH_more (g := 3) 12 4 (by simp) (by kernel_rfl) (by kernel_rfl) ⟨⟨w9, hk9⟩, rfl⟩ ?_
            simp only [List.take_succ_cons, List.take_zero, List.drop_succ_cons, List.drop_zero]
            refine wpStay_quietS 4 _ _ (by kernel_rfl) ?_
            simp only [List.take_succ_cons, List.take_zero, List.drop_succ_cons, List.drop_zero]
            repeat (go_big_quiet_step (fail))
            refine wpQuiet_nil ?_
            refine wpStay_nil ?_
            refine wpAnyH_one 17 (by kernel_rfl) rfl (fun K' hK' => ?_)
            go_simp
            have hk4 := ((((Keep.refl (fun b => b = wP.heap.size) w9).setCell (p := ⟨wP.heap.size, 0, none⟩) (.inl rfl) (.int .u64 (agTaken Y T n).base)).setCell (p := ⟨wP.heap.size, 1, none⟩) (.inl rfl) (.int .u64 (agTaken Y T n).bt)).setCell (p := ⟨wP.heap.size, 2, none⟩) (.inl rfl) (.slice p6 n6 c6))
            have hbA := hbb.trans (hk4.below (B := wP.heap.size) hbb.size fun q h => by rw [h]; exact Nat.le_refl _)
            have hk10 : Keep (fun _ => False) wP _ := Keep.of_below hbA fun _ q _ => q
            have hLP : LgCells (((w9.setCell ⟨wP.heap.size, 0, none⟩ (.int .u64 (agTaken Y T n).base)).setCell ⟨wP.heap.size, 1, none⟩ (.int .u64 (agTaken Y T n).bt)).setCell ⟨wP.heap.size, 2, none⟩ (.slice p6 n6 c6)) wP.heap.size (agTaken Y T n) p6 n6 c6 := by
              constructor <;> simp [go_sem, y0, y1, y2]
            have hE5 := EntsAt.keep3 hE4 hk4 HZ9.out
            refine hK'.out _ _ ⟨⟨_, hk10⟩, rfl⟩ (fun _ => ?_)
            clear hK' K'
            generalize (((w9.setCell ⟨wP.heap.size, 0, none⟩ (.int .u64 (agTaken Y T n).base)).setCell ⟨wP.heap.size, 1, none⟩ (.int .u64 (agTaken Y T n).bt)).setCell ⟨wP.heap.size, 2, none⟩ (.slice p6 n6 c6)) = w10 at *
            generalize wP.heap.size = BQ at *
            refine wpAnyH_more (g := 0) 18 2 (by simp) (by kernel_rfl) (by kernel_rfl) ⟨⟨w10, hk10⟩, rfl⟩ ?_
            simp only [List.take_succ_cons, List.take_zero, List.drop_succ_cons, List.drop_zero]
            refine wpStay_quietS 2 _ _ (by kernel_rfl) ?_
            simp only [List.take_succ_cons, List.take_zero, List.drop_succ_cons, List.drop_zero]
            repeat (go_big_quiet_step (fail))
            refine wpQuiet_nil ?_
            refine wpStay_nil ?_
            refine wpAnyH_done (by kernel_rfl) (NoPanic.normal ?_) _
            go_wp2_with fail
            go_meet
            exact ⟨rfl, rfl, hbA, BQ, p6, n6, c6, rfl, hLP, hE5, hc6⟩
        case rest =>
          obtain ⟨rfl, rfl, hbb, BQ, p6, n6, c6, rfl, ⟨qb, qt, qs⟩, hEt, hccBQ⟩ := hcut
          obtain ⟨wQ, hwc⟩ : ∃ w9, w9 = wc := ⟨_, rfl⟩
          subst hwc
          have hEBQ := Pin.Aside.mk hEt
          clear hEt K1 k1 k2 k3 k4
          have hkk : Keep (fun _ => False) wP wQ := Keep.of_below hbb fun _ q _ => q
          replace xb := hkk.cell xb id
          replace xt := hkk.cell xt id
          replace xs := hkk.cell xs id
          replace yb := hkk.cell yb id
          replace yt := hkk.cell yt id
          replace ys := hkk.cell ys id
          replace zb := hkk.cell zb id
          replace zt := hkk.cell zt id
          replace zs := hkk.cell zs id
          replace pb := hkk.cell pb id
          replace pt := hkk.cell pt id
          replace ps := hkk.cell ps id
          replace hE0 := Pin.Aside.mk (hE0.out.keep' hkk)
          replace hE1 := Pin.Aside.mk (hE1.out.keep' hkk)
          replace hE2 := Pin.Aside.mk (hE2.out.keep' hkk)
          replace hEBP := Pin.Aside.mk (hEBP.out.keep' hkk)
          replace hb := hb.trans (hbb.mono (by first | exact hb.size | (rw [← hB]; exact hb.size)))
          clear hkk hbb
          go_upto_region 15 with fail
          clear yb yt ys zb zt zs hE1 hE2
          obtain ⟨k, hk⟩ : ∃ k : Nat, k = min m n := ⟨_, rfl⟩
          have hmin1 : (if (n : Int) < (m : Int) then (n : Int) else (m : Int)) = (k : Int) := by split <;> omega
          have hmin2 : min (m : Int) (n : Int) = (k : Int) := by omega
          have hkm : k ≤ m := by omega
          have hkn : k ≤ n := by omega
          have hk50 : k ≤ 1000 := by omega
          clear hk
          refine wp_region_quiet_lit (by kernel_rfl) (by kernel_rfl) ?_
          repeat (go_big_quiet_step (fail))
          refine wpQuiet_nil ?_
          intro wR hw'
          have hkk : Keep (fun _ => False) wQ wR := by obtain ⟨nq, rfl⟩ := hw'; exact (Keep.refl _ _).drewN _
          clear hw' hmin1 hmin2
          replace xb := hkk.cell xb id
          replace xt := hkk.cell xt id
          replace xs := hkk.cell xs id
          replace pb := hkk.cell pb id
          replace pt := hkk.cell pt id
          replace ps := hkk.cell ps id
          replace qb := hkk.cell qb id
          replace qt := hkk.cell qt id
          replace qs := hkk.cell qs id
          replace hE0 := Pin.Aside.mk (hE0.out.keep' hkk)
          replace hEBP := Pin.Aside.mk (hEBP.out.keep' hkk)
          replace hEBQ := Pin.Aside.mk (hEBQ.out.keep' hkk)
          replace hb := hb.trans (hkk.below (by first | exact hb.size | (rw [← hB]; exact hb.size)) fun _ q => q.elim)
          clear hkk
          go_upto_region 16 with fail
          have hp4 : n4 ≤ 10 := by rw [← hEBP.out.len]; exact agTaken_len m AX.out.len AS.out.len
          have hp6 : n6 ≤ 10 := by rw [← hEBQ.out.len]; exact agTaken_len n AY.out.len AS.out.len
          have P1 := Pin.Aside.mk (fun W hW => lg_part (agTaken X T m) (agTaken_ok AX.out.ok AS.out.ok m) 1 k p4 n4 c4 (by omega) W hW)
          rw [agTaken_part SQBP.out k hkm] at P1
          have P2 := Pin.Aside.mk (fun W hW => lg_part (agTaken Y T n) (agTaken_ok AY.out.ok AS.out.ok n) 1 k p6 n6 c6 (by omega) W hW)
          rw [agTaken_part SQBQ.out k hkn] at P2
          have hTk : Pin.Aside ((T.take k).length = k) := Pin.Aside.mk (by rw [List.length_take, HTl.out]; omega)
          go_cut [23] (fun v wx => v = .bool true ∧ Below wR.heap.size wR wx)
          case first =>
            have k1 : ∀ s' : KW (fun _ => False) wR, s'.w.cell? ⟨BP, 0, none⟩ = some (.int .u64 (agTaken X T m).base) := fun s' => s'.keep.cell pb id
            have k2 : ∀ s' : KW (fun _ => False) wR, s'.w.cell? ⟨BP, 1, none⟩ = some (.int .u64 (agTaken X T m).bt) := fun s' => s'.keep.cell pt id
            have k3 : ∀ s' : KW (fun _ => False) wR, s'.w.cell? ⟨BP, 2, none⟩ = some (.slice p4 n4 c4) := fun s' => s'.keep.cell ps id
            have k4 : ∀ s' : KW (fun _ => False) wR, s'.w.cell? ⟨BQ, 0, none⟩ = some (.int .u64 (agTaken Y T n).base) := fun s' => s'.keep.cell qb id
            have k5 : ∀ s' : KW (fun _ => False) wR, s'.w.cell? ⟨BQ, 1, none⟩ = some (.int .u64 (agTaken Y T n).bt) := fun s' => s'.keep.cell qt id
            have k6 : ∀ s' : KW (fun _ => False) wR, s'.w.cell? ⟨BQ, 2, none⟩ = some (.slice p6 n6 c6) := fun s' => s'.keep.cell qs id
            refine wp_region_stay (S := fun w' => ∃ s' : KW (fun _ => False) wR, w' = s'.w) 2 (by kernel_rfl) (by simp) (by kernel_rfl) (by kernel_rfl) ⟨⟨wR.drew, (Keep.refl _ wR).drew⟩, rfl⟩ ?_
            simp only [List.take_succ_cons, List.take_zero]
            refine wpStay_quietS 2 _ _ (by kernel_rfl) ?_
            simp only [List.take_succ_cons, List.take_zero, List.drop_succ_cons, List.drop_zero]
            repeat (go_big_quiet_step (fail))
            refine wpQuiet_nil ?_
            refine wpStay_nil ?_
            refine wpAnyH_more (g := 4) 3 2 (by simp) (by kernel_rfl) (by kernel_rfl) ⟨⟨wR.drew, (Keep.refl _ wR).drew⟩, rfl⟩ ?_
            simp only [List.take_succ_cons, List.take_zero, List.drop_succ_cons, List.drop_zero]
            refine wpStay_quietS 2 _ _ (by kernel_rfl) ?_
            simp only [List.take_succ_cons, List.take_zero, List.drop_succ_cons, List.drop_zero]
            repeat (go_big_quiet_step (fail))
            refine wpQuiet_nil ?_
            refine wpStay_nil ?_
            clear k1 k2 k3 k4 k5 k6
            refine wpAnyH_one 2 (by kernel_rfl) rfl (fun K' hK' => ?_)
            go_simp
            refine (P1.out _ (hEBP.out.keep' (Keep.refl _ wR).drew)).mono ?_
            rintro x wS ⟨⟨vwS, rfl, hv⟩, hbb⟩
            obtain ⟨pS, cS, rfl, hewS, _, hcwS⟩ := OwnE.open hv
            rw [hTk.out] at hewS hcwS ⊢
            clear hv
            have hkS : Keep (fun _ => False) wR wS := ((Keep.refl _ wR).drew).trans (Keep.of_below hbb fun _ q _ => q)
            clear hbb
            refine hK'.out _ _ ⟨⟨wS, hkS⟩, rfl⟩ (fun _ => ?_)
            clear hK' K'
            refine wpAnyH_one 5 (by kernel_rfl) rfl (fun K' hK' => ?_)
            go_simp
            refine (P2.out _ (hEBQ.out.keep' hkS)).mono ?_
            rintro x wT ⟨⟨vwT, rfl, hv⟩, hbb⟩
            obtain ⟨pT, cT, rfl, hewT, _, hcwT⟩ := OwnE.open hv
            rw [hTk.out] at hewT hcwT ⊢
            clear hv
            have hkST : Keep (fun _ => False) wS wT := Keep.of_below hbb fun _ q _ => q
            have hkT := hkS.trans hkST
            clear hbb
            refine hK'.out _ _ ⟨⟨wT, hkT⟩, rfl⟩ (fun _ => ?_)
            clear hK' K'
            replace hewS := hewS.keep' hkST
            clear hcwS hcwT hkm hkn hp4 hp6 hmn hnn hm hn hkST
            refine wpAnyH_one 6 (by kernel_rfl) rfl (fun K' hK' => ?_)
            have HewS := Pin.Aside.mk hewS
            have HewT := Pin.Aside.mk hewT
            clear hewS hewT
            rw [if_pos (by rfl)]
            clear hE0 hb hkS hc0 hn10 hi hlt hi2 hForm hc1 hn1 hc2 hn2 hccBP hccBQ hm0 hn0
            simp (maxSteps := 2000000) [go_sem]
            refine (mk_entries (T.take k) _ _ k _ _ hk50 wT HewS.out HewT.out).mono ?_
            rintro x wU ⟨rfl, hbb⟩
            have hkU := hkT.trans (Keep.of_below (S := fun _ => False) hbb fun _ q _ => q)
            refine hK'.out _ _ ⟨⟨wU, hkU⟩, rfl⟩ (fun _ => ?_)
            clear hK' K'
            refine wpAnyH_one 7 (by kernel_rfl) rfl (fun K' hK' => ?_)
            go_simp
            refine hK'.out _ _ ⟨⟨wU, hkU⟩, rfl⟩ (fun _ => ?_)
            clear hK' K'
            refine wpAnyH_done (by kernel_rfl) (NoPanic.normal ?_) _
            go_wp2_with fail
            go_meet
            exact ⟨rfl, hkU.below (Nat.le_refl _) fun _ q => q.elim⟩
          case rest =>
            obtain ⟨rfl, hbb⟩ := hcut
            obtain ⟨wV, hwc⟩ : ∃ w9, w9 = wc := ⟨_, rfl⟩
            subst hwc
            clear P1 P2
            have hkk : Keep (fun _ => False) wR wV := Keep.of_below hbb fun _ q _ => q
            clear hbb
            replace xb := hkk.cell xb id
            replace xt := hkk.cell xt id
            replace xs := hkk.cell xs id
            replace pb := hkk.cell pb id
            replace pt := hkk.cell pt id
            replace ps := hkk.cell ps id
            replace qb := hkk.cell qb id
            replace qt := hkk.cell qt id
            replace qs := hkk.cell qs id
            replace hE0 := Pin.Aside.mk (hE0.out.keep' hkk)
            replace hEBP := Pin.Aside.mk (hEBP.out.keep' hkk)
            replace hEBQ := Pin.Aside.mk (hEBQ.out.keep' hkk)
            replace hb := hb.trans (hkk.below (by first | exact hb.size | (rw [← hB]; exact hb.size)) fun _ q => q.elim)
            clear hkk
            obtain ⟨F, f, hF1, hF2, hF3⟩ := agree_full AX.out.seq AX.out.rises AS.out.seq AS.out.rises (by have := AX.out.len; omega) (by have := AS.out.len; omega) AX.out.low AS.out.high m (by rw [HTl.out]; exact hmn)
            have K1 := Pin.Aside.mk (fun W hW hM => lg_take (agTaken X T m) (agTaken_ok AX.out.ok AS.out.ok m) 0 0 (by omega) (by omega) T AS.out.ok p4 p0 n4 c4 n0 c0 (by omega) hccBP (by omega) (by omega) W hW hM)
            rw [hF1] at K1
            dsimp only at K1
            have HF2 := Pin.Aside.mk hF2
            have HF3 := Pin.Aside.mk hF3
            clear hF1 hF2 hF3
            go_wp2_with fail
            refine (K1.out _ hEBP.out hE0.out).mono ?_
            rintro x wX ⟨⟨p7, n7, c7, rfl, hc7, hE7⟩, hbb⟩
            have hkk : Keep (fun _ => False) wV wX := Keep.of_below hbb fun _ q _ => q
            have hE8 := Pin.Aside.mk hE7
            clear hbb hE7 hEBP hEBQ pb pt ps qb qt qs K1
            replace xb := hkk.cell xb id
            replace xt := hkk.cell xt id
            replace xs := hkk.cell xs id
            replace hE0 := Pin.Aside.mk (hE0.out.keep' hkk)
            replace hb := hb.trans (hkk.below (by first | exact hb.size | (rw [← hB]; exact hb.size)) fun _ q => q.elim)
            clear hkk
            have hka := (Keep.refl (fun _ => False) wX).alloc (.cells #[.int .u64 F.base, .int .u64 F.bt, .slice p7 n7 c7] 27)
            obtain ⟨fb, ft, fs⟩ := LgCells.new wX 27 F p7 n7 c7
            replace xs := hka.cell xs id
            replace hE0 := Pin.Aside.mk (hE0.out.keep' hka)
            replace hE8 := Pin.Aside.mk (hE8.out.keep' hka)
            replace hb := hb.trans (hka.below (by first | exact hb.size | (rw [← hB]; exact hb.size)) fun _ q => q.elim)
            clear hka xb xt
            go_upto_region 18 with fail
            generalize World.alloc wX _ = wY at *
            generalize wX.heap.size = BF at *
            have hn7 : F.l.length = n7 := hE8.out.len
            have HEN : Pin.Aside (∃ bb : Bool, (bb = false → n0 = 0) ∧ Calls Try.prog 23 #[.slice p7 n7 c7, .slice p0 n0 c0] wY fun x w' => x = .returned (.bool bb) ∧ Below wY.heap.size wY w') := by
              refine Pin.Aside.mk ?_
              rcases HF3.out with h0 | h0
              · have hn0' : n0 = 0 := by rw [← HTl.out]; exact h0
                subst hn0'
                refine ⟨decide (n7 = 0), fun _ => rfl, mk_entries_nil F.l p7 p0 n7 c7 c0 (by have := HF2.out; omega) wY hE8.out⟩
              · have h1 := hE8.out
                rw [h0] at h1
                have h2 : n7 = n0 := by rw [← h1.len, HTl.out]
                subst h2
                exact ⟨true, fun q => (by cases q), mk_entries T p7 p0 n7 c7 c0 (by omega) wY h1 hE0.out⟩
            clear HF3 HF2 hn7
            obtain ⟨bb, hbb0, hcl⟩ := HEN.out
            clear HEN
            go_wp2_with fail
            refine hcl.mono ?_
            rintro x wZ ⟨rfl, hbb⟩
            have hkk : Keep (fun _ => False) wY wZ := Keep.of_below hbb fun _ q _ => q
            replace xs := hkk.cell xs id
            replace hb := hb.trans (hbb.mono (by first | exact hb.size | (rw [← hB]; exact hb.size)))
            clear hkk hbb hcl fb ft fs
            have hff := HFm.out
            cases bb with
            | true =>
              clear hbb0
              by_cases hm0' : m = 0
              · subst hm0'
                have hf0 : fm = 0 := by rw [← hff]; rfl
                clear hff
                subst hf0
                go_wp2_with fail
                go_ret
                exact ⟨rfl, by first | exact hb | (rw [hB]; exact hb)⟩
              · have hf0 : fm = 1 := by rw [← hff, if_neg hm0']
                have hm1 : ((m : Int) == 0) = false := by rw [beq_eq_false_iff_ne]; omega
                clear hff
                subst hf0
                go_wp2_with fail
                go_ret
                exact ⟨rfl, by first | exact hb | (rw [hB]; exact hb)⟩
            | false =>
              have hn0' := hbb0 rfl
              clear hbb0
              have hm0' : m = 0 := by omega
              have hne : ((n0 : Int) == 0) = true := by rw [beq_iff_eq]; omega
              have hf0 : fm = 0 := by rw [← hff, if_pos hm0']
              have hm1 : ((m : Int) == 0) = true := by rw [beq_iff_eq]; omega
              clear hff
              subst hf0
              clear hmn hm0' hnn hn hn0'
              go_wp2_with fail
              go_ret
              exact ⟨rfl, by first | exact hb | (rw [hB]; exact hb)⟩
end Go.Proofs.Ythlmigbimeldbaa
