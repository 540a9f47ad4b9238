/- RlogTaken: the walk. -/
import Derived.Test.YthlmigbimeldbaaRlogTakenM
import Derived.Test.YthlmigbimeldbaaRlogDropsM
import Derived.Test.YthlmigbimeldbaaRsP
import Derived.Test.YthlmigbimeldbaaEnQ
import Derived.Test.YthlmigbimeldbaaRsE
import Derived.Test.YthlmigbimeldbaaRegS
set_option maxRecDepth 16000
namespace Go.Proofs.Ythlmigbimeldbaa
open Go.RowKit Go.Pin
set_option linter.unusedVariables false
set_option linter.unusedSimpArgs false
set_option maxHeartbeats 3200000 in
theorem rlogTaken_walk (a0 : Option Addr) (len0 cap0 : Nat) (a1 : Option Addr) (len1 cap1 : Nat) (base term a' : Int) (w : World) (H0 : isSlice madePs w (.slice a0 len0 cap0)) (H1 : isSlice madePs w (.slice a1 len1 cap1)) (hb0 : 0 ≤ base ∧ base ≤ 18446744073709551615) (ht0 : 0 ≤ term ∧ term ≤ 18446744073709551615) (ha0 : 0 ≤ a' ∧ a' ≤ 255) :
    Calls Try.prog 4 #[.slice a0 len0 cap0, .slice a1 len1 cap1, .int .u64 base, .int .u64 term, .int .u8 a'] w fun e w' => e = .returned (.bool true) ∧ Below w.heap.size w w' := by
  obtain ⟨M1, hM1⟩ := mades_of_slice H1
  have HM1 := Pin.Aside.mk hM1
  clear hM1 H1
  obtain ⟨M0, hM0⟩ := mades_of_slice H0
  have G0 := Pin.Aside.mk (fun W hW => mk_rising M0 base term hb0 ht0 10 (by omega) a0 len0 cap0 W hW)
  have HM0 := Pin.Aside.mk hM0
  have N0 := Pin.Aside.mk (lgRising_neat M0 base term hb0.1 ht0.1)
  have OK0 := Pin.Aside.mk (lgRising_ok M0 base term hb0.1 ht0.1 hM0.ok)
  have R0 := Pin.Aside.mk (lgRising_rises M0 base term hb0.1 ht0.1 hM0.ok)
  generalize lgRising M0 base term 10 = X at *
  clear H0 hM0
  have hb := Below.refl w.heap.size w
  have hB0 : w.heap.size = w.heap.size := rfl
  have He := Pin.Aside.mk (mk_examples w)
  generalize hB : w.heap.size = B at hb hB0 He ⊢
  clear hB0
  go_enter Try.func4, Try.ntmps4
  go_wp2_with fail
  refine He.out.mono ?_
  rintro x w1 ⟨rfl, hbb⟩
  replace hb := hb.trans hbb
  clear hbb He
  go_wp2_with fail
  refine (G0.out w1 (HM0.out.below (by rw [hB]; exact hb))).mono ?_
  rintro x w2 ⟨⟨p0, n0, c0, rfl, hOw⟩, hbb⟩
  replace hb := hb.trans (hbb.mono (by first | exact hb.size | (rw [← hB]; exact hb.size)))
  have hE0 := Pin.Aside.mk (OwnE.ents hOw).1
  have hc0 := (OwnE.ents hOw).2.1
  have hn0 : n0 ≤ 10 := by rw [← hE0.out.len]; exact N0.out.len
  have hO0 := Pin.Aside.mk hOw
  clear hbb hOw
  have hka := (Keep.refl (fun _ => False) w2).alloc (.cells #[.int .u64 X.base, .int .u64 X.bt, .slice p0 n0 c0] 27)
  obtain ⟨xb, xt, xs⟩ := LgCells.new w2 27 X p0 n0 c0
  replace hb := hb.trans (hka.below (by first | exact hb.size | (rw [← hB]; exact hb.size)) fun _ q => q.elim)
  replace hE0 := Pin.Aside.mk (hE0.out.keep' hka)
  clear hka
  go_upto_region 5 with fail
  generalize World.alloc w2 _ = w3 at *
  generalize w2.heap.size = BX at *
  have hxb := N0.out.base
  have hlenX : X.l.length = n0 := hE0.out.len
  obtain ⟨k, hk, hkn⟩ : ∃ k : Nat, a' % ((n0 : Int) + 1) = (k : Int) ∧ k ≤ n0 := by
    have h1 := Int.emod_nonneg a' (show ((n0 : Int) + 1) ≠ 0 by omega)
    have h2 := Int.emod_lt_of_pos a' (show (0 : Int) < (n0 : Int) + 1 by omega)
    generalize a' % ((n0 : Int) + 1) = z at h1 h2 ⊢
    exact ⟨z.toNat, by omega, by omega⟩
  have hkt : a'.tmod ((n0 : Int) + 1) = (k : Int) := by rw [Int.tmod_eq_emod_of_nonneg ha0.1]; exact hk
  obtain ⟨t, hT, ht1, ht2, ht3⟩ := N0.out.term_k k (by omega)
  have K1 := Pin.Aside.mk (fun W hW => lg_term X (X.base + k) p0 n0 c0 (by omega) W hW)
  rw [hT] at K1
  dsimp only [Option.isSome, Option.getD] at K1
  have hw1 : IntKind.u64.wrap (X.base + (k : Int)) = X.base + k := by rw [IntKind.wrap_u64]; omega
  have hMk := HM1.out.ok
  have N1 := Pin.Aside.mk (lgRising_neat M1 0 t (by omega) ht1)
  have R1 := Pin.Aside.mk (lgRising_rises M1 0 t (by omega) ht1 hMk)
  have OK1 := Pin.Aside.mk (lgRising_ok M1 0 t (by omega) ht1 hMk)
  have G1 := Pin.Aside.mk (fun W hW => mk_rising M1 0 t (by omega) (by omega) 10 (by omega) a1 len1 cap1 W hW)
  generalize lgRising M1 0 t 10 = Z at *
  have HT3 := Pin.Aside.mk ht3
  have HLX := Pin.Aside.mk hlenX
  clear hT ht3 hMk hlenX
  dsimp only [Lg.val] at *
  go_wp2_with fail
  refine (K1.out _ hE0.out).mono ?_
  rintro x w4 ⟨rfl, hbb⟩
  have hkk : Keep (fun _ => False) w3 w4 := Keep.of_below hbb fun _ q _ => q
  replace xb := hkk.cell xb id
  replace xt := hkk.cell xt id
  replace xs := hkk.cell xs id
  replace hb := hb.trans (hbb.mono (by first | exact hb.size | (rw [← hB]; exact hb.size)))
  replace hE0 := Pin.Aside.mk (hE0.out.below hbb)
  clear hbb hkk
  go_wp2_with fail
  refine (G1.out w4 (HM1.out.below (by rw [hB]; exact hb))).mono ?_
  rintro x w5 ⟨⟨p1, n1, c1, rfl, hOz⟩, hbb⟩
  have hE1 := Pin.Aside.mk (OwnE.ents hOz).1
  have hn1 : n1 ≤ 10 := by rw [← hE1.out.len]; exact N1.out.len
  have hn1l : Z.l.length = n1 := hE1.out.len
  have hkk : Keep (fun _ => False) w4 w5 := Keep.of_below hbb fun _ q _ => q
  replace xb := hkk.cell xb id
  replace xt := hkk.cell xt id
  replace xs := hkk.cell xs id
  replace hb := hb.trans (hbb.mono (by first | exact hb.size | (rw [← hB]; exact hb.size)))
  replace hE0 := Pin.Aside.mk (hE0.out.below hbb)
  clear hbb hkk
  clear hOz
  have hka := (Keep.refl (fun _ => False) w5).alloc (.cells #[.int .u64 Z.base, .int .u64 Z.bt, .slice p1 n1 c1] 27)
  obtain ⟨zb, zt, zs⟩ := LgCells.new w5 27 Z p1 n1 c1
  replace xb := hka.cell xb id
  replace xt := hka.cell xt id
  replace xs := hka.cell xs id
  replace hb := hb.trans (hka.below (by first | exact hb.size | (rw [← hB]; exact hb.size)) fun _ q => q.elim)
  replace hE0 := Pin.Aside.mk (hE0.out.keep' hka)
  replace hE1 := Pin.Aside.mk (hE1.out.keep' hka)
  clear hka
  go_upto_region 9 with fail
  generalize World.alloc w5 _ = w6 at *
  generalize w5.heap.size = BZ at *
  go_wp2_with (at_builtin; refine wpList_plain rfl fun _ hK => wp_en_append _ _ rfl w6.heap.size (Nat.le_refl _) (.slice none 0 0) [] Z.l p1 n1 c1 rfl rfl (ownE_nil _ _ _) hE1.out (by simp) (by omega) fun v w7 ho hg => hK _ _ ?_)
  have hb7 : Below w6.heap.size w6 w7 := (Below.refl w6.heap.size w6).grown hg (Nat.le_refl _) (fun q hq => by cases hq)
  obtain ⟨pv, cv, rfl, hz0, hz1, hcv⟩ := OwnE.open ho
  rw [List.nil_append, hn1l] at ho ⊢
  rw [List.nil_append, hn1l] at hcv
  clear hz0 hz1 hg
  have HB7 := Pin.Aside.mk hb7
  have HV := Pin.Aside.mk ho
  have XC := Pin.Aside.mk (And.intro xb (And.intro xt xs))
  have HB6 := Pin.Aside.mk hb
  have hBXl := World.block_lt_of_cell? _ _ xb
  dsimp only at hBXl
  clear hb7 ho zb zt zs xb xt xs hb
  generalize hP : X.base + (k : Int) = P at *
  have hP0 : 0 ≤ P ∧ P ≤ 200 := by omega
  go_wp2_with fail
  go_loopw [19] (fun x wr => ∃ i : Nat, i ≤ n1 ∧ x = .int .i64 i ∧ Pin.Aside (Below w6.heap.size w6 wr) ∧ Pin.Aside (OwnE wr w6.heap.size 32 (.slice pv n1 cv) ((Z.l.take i).mapIdx (tkPut P t) ++ Z.l.drop i))) (fun x _ => n1 - (intOf x).toNat)
  case atStart => exact ⟨0, by omega, rfl, HB7, HV⟩
  case round =>
    clear HB7 HV
    obtain ⟨i, hi, rfl, HB7, HV⟩ := hrel
    by_cases hlt : i < n1
    · obtain ⟨e, he⟩ : ∃ x, Z.l[i]? = some x := ⟨Z.l[i]'(by omega), List.getElem?_eq_getElem (by omega)⟩
      have het := N1.out.term e (List.mem_of_getElem? he)
      obtain ⟨q1, q2⟩ := mapIdx_step (tkPut P t) Z.l i e he
      generalize (Z.l.take i).mapIdx (tkPut P t) ++ Z.l.drop i = Y at *
      obtain ⟨g, o, rfl, hEn⟩ := (OwnE.ents HV.out).1.at' i e q1
      have ho : o = 0 := ownE_zero HV.out
      subst ho
      have hgB := (OwnE.ents HV.out).2.2 g 0 rfl
      have hf1 := ownE_frozen HV.out (i * 11 + 1)
      have V1 := ownE_set HV.out i e { e with index := P + i + 1 } 1 (.int .u64 (P + i + 1)) q1 (by omega) rfl
      have c1 := hEn.c1
      simp only [Nat.zero_add] at c1
      have hw2 : IntKind.u64.wrap (P + (i : Int)) = P + i := by rw [IntKind.wrap_u64]; omega
      have hw3 : IntKind.u64.wrap (P + (i : Int) + 1) = P + i + 1 := by rw [IntKind.wrap_u64]; omega
      have hw4 : IntKind.u64.wrap (t + e.term) = t + e.term := by rw [IntKind.wrap_u64]; omega
      have hk0 : (0 : Int) ≤ (i : Int) := by omega
      have hk1 : (i : Int) < (n1 : Int) := by omega
      have hq1 : (Y.set i { e with index := P + i + 1 })[i]? = some { e with index := P + i + 1 } := by
        rw [List.getElem?_set]; simp [(List.getElem?_eq_some_iff.1 q1).1]
      have hB8 := Pin.Aside.mk (HB7.out.setCell (p := ⟨g, i * 11 + 1, none⟩) hgB (.int .u64 (P + i + 1)))
      have HV1 := Pin.Aside.mk V1
      have HQ2 := Pin.Aside.mk q2
      have HQ1 := Pin.Aside.mk hq1
      clear V1 hEn he q1 q2 hq1 HV HB7
      go_upto_region 14 with fail
      generalize World.setCell wr _ _ = w8 at *
      clear c1 hf1
      obtain ⟨g', o', hgo, hEn⟩ := (OwnE.ents HV1.out).1.at' i _ HQ1.out
      simp only [Option.some.injEq, Addr.mk.injEq] at hgo
      obtain ⟨rfl, rfl, _⟩ := hgo
      have c0' := hEn.c0
      dsimp only at c0'
      simp only [Nat.zero_add] at c0'
      have hf0 := ownE_frozen HV1.out (i * 11)
      have V2 := ownE_set HV1.out i _ (tkPut P t i e) 0 (.int .u64 (t + e.term)) HQ1.out (by omega) rfl
      rw [List.set_set, HQ2.out, Nat.add_zero] at V2
      have hB9 := Pin.Aside.mk (hB8.out.setCell (p := ⟨g, i * 11, none⟩) hgB (.int .u64 (t + e.term)))
      have HV2 := Pin.Aside.mk V2
      clear V2 hEn HV1 hB8 hw2 hw3
      obtain ⟨he1, he2⟩ := het
      go_wp2_with fail
      go_roundw
      case rel => exact ⟨i + 1, by omega, by go_num, hB9, HV2⟩
      case measure => simp [intOf]; omega
    · have hi2 : i = n1 := by omega
      have hfin : (Z.l.take i).mapIdx (tkPut P t) ++ Z.l.drop i = Z.l.mapIdx (tkPut P t) := by rw [List.take_of_length_le (by omega), List.drop_of_length_le (by omega), List.append_nil]
      rw [hfin] at HV
      have hkr : Keep (fun _ => False) w6 wr := Keep.of_below HB7.out fun _ q _ => q
      obtain ⟨xb, xt, xs⟩ := XC.out
      replace xb := hkr.cell xb id
      replace xt := hkr.cell xt id
      replace xs := hkr.cell xs id
      replace hE0 := Pin.Aside.mk (hE0.out.keep' hkr)
      have hb := HB6.out.trans (HB7.out.mono (by first | exact HB6.out.size | (rw [← hB]; exact HB6.out.size)))
      have hEm := Pin.Aside.mk (OwnE.ents HV.out).1
      have hseq := N0.out.seq
      have htw := take_twice hseq R0.out k (by rw [HLX.out]; exact hkn) (Z.l.mapIdx (tkPut P t)) (by rw [List.length_mapIdx]; omega) (by rw [HLX.out]; omega) (fun j e he => by
        obtain ⟨x, hx, rfl⟩ := tk_get he
        show P + j + 1 = _
        rw [← hP]) (by rw [← HT3.out, hP]; exact tk_rises N1.out R1.out P t hP0.1 ht1) (by rw [hP]; omega)
      have hmok := tk_ok N1.out OK1.out P t (by omega) (by omega)
      have htok := take_ok OK0.out (X.base + k) (lgBefore X.bt X.l k) (Z.l.mapIdx (tkPut P t)) hmok
      rw [← HT3.out, hP] at htw htok
      obtain ⟨la, f, ha1, ha2, ha3, ha4, ha5, ha6, ha7, ha8, ha9⟩ := htw
      rw [ha1] at htok
      dsimp only at htok
      have T1 := Pin.Aside.mk (lg_take X OK0.out P t (by omega) (by omega) (Z.l.mapIdx (tkPut P t)) hmok p0 pv n0 c0 n1 cv (by omega) hc0 (by omega) hcv wr hE0.out hEm.out)
      rw [ha1] at T1
      have T2 := Pin.Aside.mk (fun p n c hn hc W hW hM => lg_take la htok P t (by omega) (by omega) (Z.l.mapIdx (tkPut P t)) hmok p pv n c n1 cv hn hc (by omega) hcv W hW hM)
      rw [ha9] at T2
      have T3 := Pin.Aside.mk (fun p n c hn W hW => lg_right la htok p n c hn W hW)
      rw [ha2.right ha3] at T3
      have HA7 := Pin.Aside.mk ha7
      have HA8 := Pin.Aside.mk ha8
      clear hkr hseq hfin ha1 ha2 ha3 ha6 ha7 ha8 ha9 htok hmok HB7
      dsimp only at T1 T2 T3
      go_wp2_with fail
      refine T1.out.mono ?_
      rintro x v1 ⟨⟨pa, na, ca, rfl, hca, hEa0⟩, hbb⟩
      have hEa := Pin.Aside.mk hEa0
      have hna : la.l.length = na := hEa0.len
      have hkk : Keep (fun _ => False) wr v1 := Keep.of_below hbb fun _ q _ => q
      replace xb := hkk.cell xb id
      replace xt := hkk.cell xt id
      replace xs := hkk.cell xs id
      replace hb := hb.trans (hbb.mono (by first | exact hb.size | (rw [← hB]; exact hb.size)))
      replace hE0 := Pin.Aside.mk (hE0.out.below hbb)
      replace hEm := Pin.Aside.mk (hEm.out.below hbb)
      clear hbb hkk
      clear hEa0 T1
      have hka := (Keep.refl (fun _ => False) v1).alloc (.cells #[.int .u64 la.base, .int .u64 la.bt, .slice pa na ca] 27)
      obtain ⟨ab, at1, as1⟩ := LgCells.new v1 27 la pa na ca
      replace xb := hka.cell xb id
      replace xt := hka.cell xt id
      replace xs := hka.cell xs id
      replace hb := hb.trans (hka.below (by first | exact hb.size | (rw [← hB]; exact hb.size)) fun _ q => q.elim)
      replace hE0 := Pin.Aside.mk (hE0.out.keep' hka)
      replace hEm := Pin.Aside.mk (hEm.out.keep' hka)
      replace hEa := Pin.Aside.mk (hEa.out.keep' hka)
      clear hka
      go_upto_region 16 with fail
      generalize World.alloc v1 _ = v2 at *
      generalize v1.heap.size = BA at *
      go_wp2_with fail
      refine (T2.out pa na ca (by omega) hca _ hEa.out hEm.out).mono ?_
      rintro x v3 ⟨⟨pb, nb, cb, rfl, hcb, hEb0⟩, hbb⟩
      have hEb := Pin.Aside.mk hEb0
      have hnb : nb = na := by rw [← hEb0.len]; exact hna
      have hkk : Keep (fun _ => False) v2 v3 := Keep.of_below hbb fun _ q _ => q
      replace xb := hkk.cell xb id
      replace xt := hkk.cell xt id
      replace xs := hkk.cell xs id
      replace ab := hkk.cell ab id
      replace at1 := hkk.cell at1 id
      replace as1 := hkk.cell as1 id
      replace hb := hb.trans (hbb.mono (by first | exact hb.size | (rw [← hB]; exact hb.size)))
      replace hE0 := Pin.Aside.mk (hE0.out.below hbb)
      replace hEm := Pin.Aside.mk (hEm.out.below hbb)
      replace hEa := Pin.Aside.mk (hEa.out.below hbb)
      clear hbb hkk
      subst hnb
      clear hEb0 T2
      have hka := (Keep.refl (fun _ => False) v3).alloc (.cells #[.int .u64 la.base, .int .u64 la.bt, .slice pb nb cb] 27)
      obtain ⟨bb, bt1, bs1⟩ := LgCells.new v3 27 la pb nb cb
      replace xb := hka.cell xb id
      replace xt := hka.cell xt id
      replace xs := hka.cell xs id
      replace ab := hka.cell ab id
      replace at1 := hka.cell at1 id
      replace as1 := hka.cell as1 id
      replace hb := hb.trans (hka.below (by first | exact hb.size | (rw [← hB]; exact hb.size)) fun _ q => q.elim)
      replace hE0 := Pin.Aside.mk (hE0.out.keep' hka)
      replace hEm := Pin.Aside.mk (hEm.out.keep' hka)
      replace hEa := Pin.Aside.mk (hEa.out.keep' hka)
      replace hEb := Pin.Aside.mk (hEb.out.keep' hka)
      clear hka
      go_upto_region 17 with fail
      generalize World.alloc v3 _ = v4 at *
      generalize v3.heap.size = BB at *
      go_wp2_with fail
      refine (T3.out pa nb ca (by omega) _ hEa.out).mono ?_
      rintro x v5 ⟨rfl, hbb⟩
      have hkk : Keep (fun _ => False) v4 v5 := Keep.of_below hbb fun _ q _ => q
      replace xb := hkk.cell xb id
      replace xt := hkk.cell xt id
      replace xs := hkk.cell xs id
      replace ab := hkk.cell ab id
      replace at1 := hkk.cell at1 id
      replace as1 := hkk.cell as1 id
      replace bb := hkk.cell bb id
      replace bt1 := hkk.cell bt1 id
      replace bs1 := hkk.cell bs1 id
      replace hb := hb.trans (hbb.mono (by first | exact hb.size | (rw [← hB]; exact hb.size)))
      replace hE0 := Pin.Aside.mk (hE0.out.below hbb)
      replace hEm := Pin.Aside.mk (hEm.out.below hbb)
      replace hEa := Pin.Aside.mk (hEa.out.below hbb)
      replace hEb := Pin.Aside.mk (hEb.out.below hbb)
      clear hbb hkk
      clear T3
      go_wp2_with fail
      have XS := Pin.Aside.mk (And.intro as1 (And.intro xs bs1))
      clear xb xt xs ab at1 bb bt1 bs1
      have hna50 : nb ≤ 50 := by omega
      clear as1
      go_loopw [26] (fun x wr => ∃ i : Nat, i ≤ n1 ∧ x = .int .i64 i ∧ Pin.Aside (Below v5.heap.size v5 wr)) (fun x _ => n1 - (intOf x).toNat)
      case atStart => exact ⟨0, by omega, rfl, Pin.Aside.mk (Below.refl _ _)⟩
      case round =>
        obtain ⟨i, hi, rfl, HW⟩ := hrel
        by_cases hlt : i < n1
        · have hkr : Keep (fun _ => False) v5 wr := Keep.of_below HW.out fun _ q _ => q
          have as1 := hkr.cell XS.out.1 id
          obtain ⟨e, he⟩ : ∃ x, (Z.l.mapIdx (tkPut P t))[i]? = some x := ⟨_, List.getElem?_eq_getElem (by rw [hEm.out.len]; exact hlt)⟩
          have h8 := HA8.out i e he
          obtain ⟨y, hy, hyt⟩ := Option.map_eq_some_iff.1 h8
          have hki : k + i < nb := by rw [← hna]; exact (List.getElem?_eq_some_iff.1 hy).1
          obtain ⟨Ay, oy, rfl, hYE⟩ := hEa.out.at' _ y hy
          obtain ⟨Ae, oe, rfl, hEE⟩ := hEm.out.at' _ e he
          obtain ⟨c0, c1, c2, c3, c4, c5, c6, c7, c8, c9, c10⟩ := hYE.keep hkr id
          obtain ⟨d0, d1, d2, d3, d4, d5, d6, d7, d8, d9, d10⟩ := hEE.keep hkr id
          have hw1 : IntKind.i64.wrap ((k : Int) + (i : Int)) = (k : Int) + i := IntWalk.i64_in _ (by omega)
          have hw2 : ((k : Int) + (i : Int)).toNat = k + i := by omega
          have hw3 : (0 : Int) ≤ (k : Int) + i := by omega
          have hw4 : (k : Int) + (i : Int) < (nb : Int) := by omega
          have hw5 : IntKind.i64.wrap ((nb : Int) - (k : Int)) = (nb : Int) - k := IntWalk.i64_in _ (by omega)
          have hw6 : decide ((nb : Int) - (k : Int) ≤ (i : Int)) = false := decide_eq_false (by omega)
          have hk0 : (0 : Int) ≤ (i : Int) := by omega
          have hk1 : (i : Int) < (n1 : Int) := by omega
          clear h8 hkr hYE hEE he hy hki
          obtain ⟨Bq, hBq⟩ := run_neq_en y e
          dsimp only [En.cells] at hBq
          rw [hyt] at hBq
          go_wp2_with fail
          cases Bq with
          | false =>
            refine wp_region_quiet_lit (by kernel_rfl) (by kernel_rfl) ?_
            repeat (go_big_quiet_step (fail))
            refine wpQuiet_nil ?_
            intro _ hw'
            obtain ⟨nq, hw''⟩ := hw'
            subst hw''
            clear c0 c1 c2 c3 c4 c5 c6 c7 c8 c9 c10 d0 d1 d2 d3 d4 d5 d6 d7 d8 d9 d10 as1 hBq
            go_wp2_with fail
            go_roundw
            case rel => exact ⟨i + 1, by omega, by go_num, Pin.Aside.mk (below_drewN HW.out _)⟩
            case measure => simp [intOf]; omega
          | true =>
            refine wp_region_quiet_lit (by kernel_rfl) (by kernel_rfl) ?_
            repeat (go_big_quiet_step (fail))
            refine wpQuiet_nil ?_
            intro _ hw'
            obtain ⟨nq, hw''⟩ := hw'
            subst hw''
            clear c0 c1 c2 c3 c4 c5 c6 c7 c8 c9 c10 d0 d1 d2 d3 d4 d5 d6 d7 d8 d9 d10 as1 hBq
            go_wp2_with fail
            go_roundw
            case rel => exact ⟨i + 1, by omega, by go_num, Pin.Aside.mk (below_drewN HW.out _)⟩
            case measure => simp [intOf]; omega
        · have hi2 : i = n1 := by omega
          go_wp2_with fail
          clear hlt hi hi2
          generalize wr = w10 at *
          go_loopw [27] (fun x wr => ∃ i : Nat, i ≤ k ∧ x = .int .i64 i ∧ Pin.Aside (Below v5.heap.size v5 wr)) (fun x _ => k - (intOf x).toNat)
          case atStart => exact ⟨0, by omega, rfl, HW⟩
          case round =>
            clear HW
            obtain ⟨i, hi, rfl, HW⟩ := hrel
            have hkr : Keep (fun _ => False) v5 wr := Keep.of_below HW.out fun _ q _ => q
            have as1 := hkr.cell XS.out.1 id
            have xs := hkr.cell XS.out.2.1 id
            have bs1 := hkr.cell XS.out.2.2 id
            by_cases hlt : i < k
            · have hin : i < n0 := by omega
              obtain ⟨e, he⟩ : ∃ x, X.l[i]? = some x := ⟨_, List.getElem?_eq_getElem (by rw [HLX.out]; exact hin)⟩
              have he2 := HA7.out i hlt
              rw [he] at he2
              have hinb : i < nb := by rw [← hna]; exact (List.getElem?_eq_some_iff.1 he2).1
              obtain ⟨Ay, oy, rfl, hYE⟩ := hEa.out.at' _ e he2
              obtain ⟨Ae, oe, rfl, hEE⟩ := hE0.out.at' _ e he
              obtain ⟨c0', c1', c2', c3', c4', c5', c6', c7', c8', c9', c10'⟩ := hYE.keep hkr id
              obtain ⟨d0, d1, d2, d3, d4, d5, d6, d7, d8, d9, d10⟩ := hEE.keep hkr id
              have hk0 : (0 : Int) ≤ (i : Int) := by omega
              have hk1 : (i : Int) < (n0 : Int) := by omega
              have hk2 : (i : Int) < (nb : Int) := by omega
              have hk3 : (i : Int) < (k : Int) := by omega
              clear he he2 hYE hEE hkr
              go_wp2_with fail
              go_quiet (fail)
              go_wp2_with fail
              go_roundw
              case rel => exact ⟨i + 1, by omega, by go_num, Pin.Aside.mk (below_drewN HW.out _)⟩
              case measure => simp [intOf]; omega
            · have hi2 : i = k := by omega
              have hb' := hb.trans (HW.out.mono (by first | exact hb.size | (rw [← hB]; exact hb.size)))
              have KE := Pin.Aside.mk (mk_entries la.l pa pb nb ca cb (by omega) wr (hEa.out.keep' hkr) (hEb.out.keep' hkr))
              clear hkr xs
              go_wp2_with fail
              refine KE.out.mono ?_
              rintro x w11 ⟨rfl, hbb⟩
              have hb2 := hb'.trans (hbb.mono (by first | exact hb'.size | (rw [← hB]; exact hb'.size)))
              clear hbb KE as1 bs1
              rcases ha5 with hf | ⟨hf1, hf2⟩
              · subst hf
                go_wp2_with fail
                go_ret
                exact ⟨rfl, by first | exact hb2 | (rw [hB]; exact hb2)⟩
              · have hf3 : (f == 0) = false := by rw [beq_eq_false_iff_ne]; omega
                go_wp2_with fail
                go_ret
                exact ⟨rfl, by first | exact hb2 | (rw [hB]; exact hb2)⟩
end Go.Proofs.Ythlmigbimeldbaa
