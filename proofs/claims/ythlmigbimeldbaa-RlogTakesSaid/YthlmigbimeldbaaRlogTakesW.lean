/- RlogTakes: the walk. -/
import Derived.Test.YthlmigbimeldbaaRrT
import Derived.Test.YthlmigbimeldbaaRlogTakenM
import Derived.Test.YthlmigbimeldbaaRlogDropsW
set_option maxRecDepth 16000
namespace Go.Pin
open Go.RowKit
set_option linter.unusedVariables false
set_option linter.unusedSimpArgs false
theorem Lg.term_in {g : Lg} (h : g.ok) (i : Int) : 0 ≤ (g.term i).getD 0 ∧ (g.term i).getD 0 ≤ 18446744073709551615 := by
  unfold Lg.term
  split
  · exact h.bt
  · cases hf : g.l.find? (fun e => decide (e.index = i)) with
    | none => simp
    | some e => exact (h.l e (List.mem_of_find?_eq_some hf)).term
theorem En.ok_term {e : En} (h : e.ok) (t : Int) (ht : 0 ≤ t ∧ t ≤ 18446744073709551615) : ({ e with term := t } : En).ok :=
  ⟨ht, h.index, h.kind, h.client, h.seq, h.block, h.many, h.node, h.level, h.data, h.old⟩
theorem lgTake_len (g : Lg) (i t : Int) (more : List En) : (g.take i t more).1.l.length ≤ g.l.length + more.length := by
  unfold Lg.take
  split
  · simp
  · split
    · simp
    · dsimp only
      split
      · simp only [List.length_append, List.length_take, List.length_drop]; omega
      · simp
theorem set_ok {L : List En} (h : ∀ e ∈ L, e.ok) (k : Nat) (e : En) (he : e.ok) : ∀ x ∈ L.set k e, x.ok := fun x hx => by
  rcases List.mem_or_eq_of_mem_set hx with q | q
  · exact h x q
  · rw [q]; exact he
end Go.Pin
namespace Go.Proofs.Ythlmigbimeldbaa
open Go.RowKit Go.Pin
set_option linter.unusedVariables false
set_option linter.unusedSimpArgs false
set_option maxHeartbeats 3200000 in
theorem mk_ref (g : Lg) (p : Option Addr) (n c : Nat) (w : World) :
    Calls Try.prog 20 #[g.val p n c] w fun x w' => x = .returned (g.val p n c) ∧ Below w.heap.size w w' := by
  have hk := (Keep.refl (fun _ => False) w).alloc (.cells #[.int .u64 g.base, .int .u64 g.bt, .slice p n c] 27)
  obtain ⟨cb, ct, cs⟩ := LgCells.new w 27 g p n c
  have hk2 := (Keep.refl (fun _ => False) (w.alloc (.cells #[.int .u64 g.base, .int .u64 g.bt, .slice p n c] 27))).alloc (.cells #[.int .u64 0, .int .u64 0, .slice none 0 0] 35)
  have hb := (hk.trans hk2).below (Nat.le_refl _) fun _ q => q.elim
  have hr0 : ((w.alloc (.cells #[.int .u64 g.base, .int .u64 g.bt, .slice p n c] 27)).alloc (.cells #[.int .u64 0, .int .u64 0, .slice none 0 0] 35)).cell? ⟨w.heap.size + 1, 0, none⟩ = some (.int .u64 0) := by simp
  have hr1 : ((w.alloc (.cells #[.int .u64 g.base, .int .u64 g.bt, .slice p n c] 27)).alloc (.cells #[.int .u64 0, .int .u64 0, .slice none 0 0] 35)).cell? ⟨w.heap.size + 1, 1, none⟩ = some (.int .u64 0) := by simp
  have hr2 : ((w.alloc (.cells #[.int .u64 g.base, .int .u64 g.bt, .slice p n c] 27)).alloc (.cells #[.int .u64 0, .int .u64 0, .slice none 0 0] 35)).cell? ⟨w.heap.size + 1, 2, none⟩ = some (.slice none 0 0) := by simp
  have hf0 : ∀ j, ((w.alloc (.cells #[.int .u64 g.base, .int .u64 g.bt, .slice p n c] 27)).alloc (.cells #[.int .u64 0, .int .u64 0, .slice none 0 0] 35)).frozen? ⟨w.heap.size + 1, j, none⟩ = false := by intro j; simp
  replace cb := hk2.cell cb id
  replace ct := hk2.cell ct id
  replace cs := hk2.cell cs id
  clear hk hk2
  obtain ⟨base, bt, L⟩ := g
  dsimp only [Lg.val] at *
  go_enter Try.func20, Try.ntmps20
  go_upto_region 1 with fail
  generalize World.alloc (World.alloc _ _) _ = wa at *
  generalize hB : w.heap.size = B at *
  have hfa := hf0 0
  have hfb := hf0 1
  have hfc := hf0 2
  have hk4 := ((((Keep.refl (fun b => b = B + 1) wa).setCell (p := ⟨B + 1, 0, none⟩) (.inl rfl) (.int .u64 base)).setCell (p := ⟨B + 1, 1, none⟩) (.inl rfl) (.int .u64 bt)).setCell (p := ⟨B + 1, 2, none⟩) (.inl rfl) (.slice p n c))
  have HB := Pin.Aside.mk (hb.trans (hk4.below (by first | exact hb.size | (rw [← hB]; exact hb.size)) fun q h => by rw [h]; omega))
  clear hk4 hb hf0
  go_wp2_with fail
  refine bodyPost_ret (v := .agg #[.int .u64 base, .int .u64 bt, .slice p n c]) (by simp [results, Try.results20, go_sem, *]) rfl ?_
  exact ⟨rfl, by first | exact HB.out | (rw [hB]; exact HB.out)⟩
set_option maxHeartbeats 3200000 in
theorem mk_same (g : Lg) (p p2 : Option Addr) (n n2 c c2 : Nat) (hn2 : n ≤ 1000) (w : World) (h1 : EntsAt w p n g.l) (h2 : EntsAt w p2 n2 g.l) :
    Calls Try.prog 21 #[g.val p n c, g.val p2 n2 c2] w fun x w' => x = .returned (.bool true) ∧ Below w.heap.size w w' := by
  have hnn : n2 = n := by rw [← h2.len, h1.len]
  subst hnn
  have hk := (Keep.refl (fun _ => False) w).alloc (.cells #[.int .u64 g.base, .int .u64 g.bt, .slice p n2 c] 27)
  obtain ⟨cb, ct, cs⟩ := LgCells.new w 27 g p n2 c
  have hk2 := (Keep.refl (fun _ => False) (w.alloc (.cells #[.int .u64 g.base, .int .u64 g.bt, .slice p n2 c] 27))).alloc (.cells #[.int .u64 g.base, .int .u64 g.bt, .slice p2 n2 c2] 35)
  obtain ⟨db, dt, ds⟩ := LgCells.new (w.alloc (.cells #[.int .u64 g.base, .int .u64 g.bt, .slice p n2 c] 27)) 35 g p2 n2 c2
  have hsz : (w.alloc (.cells #[.int .u64 g.base, .int .u64 g.bt, .slice p n2 c] 27)).heap.size = w.heap.size + 1 := by simp
  rw [hsz] at db dt ds
  have hkA := hk.trans hk2
  have hb := hkA.below (Nat.le_refl _) fun _ q => q.elim
  have Hc := Pin.Aside.mk (mk_entries g.l p p2 n2 c c2 hn2 _ (h1.keep' hkA) (h2.keep' hkA))
  replace cb := hk2.cell cb id
  replace ct := hk2.cell ct id
  replace cs := hk2.cell cs id
  clear hk hk2 hkA hsz h1 h2
  obtain ⟨base, bt, L⟩ := g
  dsimp only [Lg.val] at *
  go_enter Try.func21, Try.ntmps21
  go_upto_region 1 with fail
  generalize World.alloc (World.alloc _ _) _ = wa at *
  generalize hB : w.heap.size = B at *
  go_wp2_with fail
  refine Hc.out.mono ?_
  rintro x w1 ⟨rfl, hbb⟩
  replace hb := hb.trans (hbb.mono (by first | exact hb.size | (rw [← hB]; exact hb.size)))
  go_wp2_with fail
  go_ret
  exact ⟨rfl, by first | exact hb | (rw [hB]; exact hb)⟩
set_option maxHeartbeats 6400000 in
theorem rlogTakes_walk (a0 : Option Addr) (len0 cap0 : Nat) (a1 : Option Addr) (len1 cap1 : Nat) (base term prev wi : Int) (near raw : Bool) (w : World) (H0 : isSlice madePs w (.slice a0 len0 cap0)) (H1 : isSlice madePs w (.slice a1 len1 cap1)) (hb0 : 0 ≤ base ∧ base ≤ 18446744073709551615) (ht0 : 0 ≤ term ∧ term ≤ 18446744073709551615) (hp0 : 0 ≤ prev ∧ prev ≤ 18446744073709551615) (hi0 : 0 ≤ wi ∧ wi ≤ 18446744073709551615) :
    Calls Try.prog 3 #[.slice a0 len0 cap0, .slice a1 len1 cap1, .int .u64 base, .int .u64 term, .int .u64 prev, .int .u64 wi, .bool near, .bool raw] w fun e w' => e = .returned (.bool true) ∧ Below w.heap.size w w' := by
  obtain ⟨M1, hM1⟩ := mades_of_slice H1
  have HM1 := Pin.Aside.mk hM1
  obtain ⟨bz, hbz, hbz1⟩ : ∃ bz : Int, IntKind.u64.wrap (base + prev % 4) = bz ∧ (0 ≤ bz ∧ bz ≤ 18446744073709551615) := ⟨_, rfl, by rw [IntKind.wrap_u64]; omega⟩
  have N1 := Pin.Aside.mk (lgRising_neat M1 bz term hbz1.1 ht0.1)
  have OK1 := Pin.Aside.mk (lgRising_ok M1 bz term hbz1.1 ht0.1 hM1.ok)
  have G1 := Pin.Aside.mk (fun W hW => mk_rising M1 bz term hbz1 ht0 10 (by omega) a1 len1 cap1 W hW)
  generalize lgRising M1 bz term 10 = Z at *
  clear hM1 H1
  obtain ⟨M0, hM0⟩ := mades_of_slice H0
  have G0 := Pin.Aside.mk (fun W hW => mk_rising M0 base term hb0 ht0 10 (by omega) a0 len0 cap0 W hW)
  have HM0 := Pin.Aside.mk hM0
  have N0 := Pin.Aside.mk (lgRising_neat M0 base term hb0.1 ht0.1)
  have OK0 := Pin.Aside.mk (lgRising_ok M0 base term hb0.1 ht0.1 hM0.ok)
  generalize lgRising M0 base term 10 = X at *
  clear H0 hM0
  have hb := Below.refl w.heap.size w
  have hB0 : w.heap.size = w.heap.size := rfl
  have He := Pin.Aside.mk (mk_examples w)
  generalize hB : w.heap.size = B at hb hB0 He ⊢
  clear hB0
  go_enter Try.func3, Try.ntmps3
  go_wp2_with fail
  refine He.out.mono ?_
  rintro x w1 ⟨rfl, hbb⟩
  replace hb := hb.trans hbb
  clear hbb He
  go_wp2_with fail
  refine (G0.out w1 (HM0.out.below (by rw [hB]; exact hb))).mono ?_
  rintro x w2 ⟨⟨p0, n0, c0, rfl, hOw⟩, hbb⟩
  replace hb := hb.trans (hbb.mono (by first | exact hb.size | (rw [← hB]; exact hb.size)))
  have hE0 := Pin.Aside.mk (OwnE.ents hOw).1
  have hc0 := (OwnE.ents hOw).2.1
  have hn0 : n0 ≤ 10 := by rw [← hE0.out.len]; exact N0.out.len
  have hO0 := Pin.Aside.mk hOw
  clear hbb hOw
  have hka := (Keep.refl (fun _ => False) w2).alloc (.cells #[.int .u64 X.base, .int .u64 X.bt, .slice p0 n0 c0] 27)
  obtain ⟨xb, xt, xs⟩ := LgCells.new w2 27 X p0 n0 c0
  replace hb := hb.trans (hka.below (by first | exact hb.size | (rw [← hB]; exact hb.size)) fun _ q => q.elim)
  replace hE0 := Pin.Aside.mk (hE0.out.keep' hka)
  clear hka
  go_upto_region 5 with fail
  generalize World.alloc w2 _ = w3 at *
  generalize w2.heap.size = BX at *
  have hxb := N0.out.base
  clear hO0
  have hlenX : X.l.length = n0 := hE0.out.len
  have KT := Pin.Aside.mk (fun (i : Int) W hW => lg_term X i p0 n0 c0 (by omega) W hW)
  have HTI := Pin.Aside.mk (fun i => Lg.term_in OK0.out i)
  have HLX := Pin.Aside.mk hlenX
  clear hlenX hxb
  dsimp only [Lg.val] at *
  go_wp2_with fail
  refine (G1.out w3 (HM1.out.below (by rw [hB]; exact hb))).mono ?_
  rintro x w5 ⟨⟨p1, n1, c1, rfl, hOz⟩, hbb⟩
  have hE1 := Pin.Aside.mk (OwnE.ents hOz).1
  have hn1 : n1 ≤ 10 := by rw [← hE1.out.len]; exact N1.out.len
  have HLZ : Pin.Aside (Z.l.length = n1) := Pin.Aside.mk hE1.out.len
  clear hOz
  have hkk : Keep (fun _ => False) w3 w5 := Keep.of_below hbb fun _ q _ => q
  replace xb := hkk.cell xb id
  replace xt := hkk.cell xt id
  replace xs := hkk.cell xs id
  replace hE0 := Pin.Aside.mk (hE0.out.keep' hkk)
  replace hb := hb.trans (hbb.mono (by first | exact hb.size | (rw [← hB]; exact hb.size)))
  clear hkk hbb
  have hka := (Keep.refl (fun _ => False) w5).alloc (.cells #[.int .u64 Z.base, .int .u64 Z.bt, .slice p1 n1 c1] 27)
  obtain ⟨zb, zt, zs⟩ := LgCells.new w5 27 Z p1 n1 c1
  replace xb := hka.cell xb id
  replace xt := hka.cell xt id
  replace xs := hka.cell xs id
  replace hE0 := Pin.Aside.mk (hE0.out.keep' hka)
  replace hE1 := Pin.Aside.mk (hE1.out.keep' hka)
  replace hb := hb.trans (hka.below (by first | exact hb.size | (rw [← hB]; exact hb.size)) fun _ q => q.elim)
  clear hka
  go_upto_if 51 with fail
  generalize World.alloc w5 _ = w6 at *
  generalize w5.heap.size = BZ at *
  have hZb := OK1.out.base
  have hZt := OK1.out.bt
  go_cut [20, 21] (fun v1 v2 wx => ∃ at1 t1 : Int, v1 = .int .u64 at1 ∧ v2 = .int .u64 t1 ∧ (0 ≤ at1 ∧ at1 ≤ 18446744073709551615) ∧ (0 ≤ t1 ∧ t1 ≤ 18446744073709551615) ∧ Below w6.heap.size w6 wx)
  case first =>
    cases near with
    | false =>
      go_wp2_with fail
      go_meet
      exact ⟨prev, wi, rfl, rfl, hp0, hi0, Below.refl _ _⟩
    | true =>
      have K1 := Pin.Aside.mk (KT.out Z.base w6 hE0.out)
      have ht1 := HTI.out Z.base
      obtain ⟨tu, htu⟩ : ∃ tu, (X.term Z.base).getD 0 = tu := ⟨_, rfl⟩
      obtain ⟨tk, htk⟩ : ∃ tk, (X.term Z.base).isSome = tk := ⟨_, rfl⟩
      rw [htu] at ht1 K1
      rw [htk] at K1
      clear htu htk
      go_wp2_with fail
      refine K1.out.mono ?_
      rintro x w7 ⟨rfl, hbb⟩
      cases tk with
      | false =>
        go_wp2_with fail
        go_meet
        exact ⟨Z.base, Z.bt, rfl, rfl, hZb, hZt, hbb⟩
      | true =>
        by_cases q : 0 < wi % 4
        · go_wp2_with fail
          go_meet
          exact ⟨Z.base, tu, rfl, rfl, hZb, ht1, hbb⟩
        · go_wp2_with fail
          go_meet
          exact ⟨Z.base, Z.bt, rfl, rfl, hZb, hZt, hbb⟩
  case rest =>
    obtain ⟨at1, t1, rfl, rfl, hat, htt, hbb⟩ := hcut
    obtain ⟨w7, hwc⟩ : ∃ w9, w9 = wc := ⟨_, rfl⟩
    subst hwc
    clear hZb hZt
    have hkk : Keep (fun _ => False) w6 w7 := Keep.of_below hbb fun _ q _ => q
    replace xb := hkk.cell xb id
    replace xt := hkk.cell xt id
    replace xs := hkk.cell xs id
    replace zb := hkk.cell zb id
    replace zt := hkk.cell zt id
    replace zs := hkk.cell zs id
    replace hE0 := Pin.Aside.mk (hE0.out.keep' hkk)
    replace hE1 := Pin.Aside.mk (hE1.out.keep' hkk)
    replace hb := hb.trans (hbb.mono (by first | exact hb.size | (rw [← hB]; exact hb.size)))
    clear hkk hbb
    go_upto_region 14 with fail
    go_wp2_with (at_builtin; refine wpList_plain rfl fun _ hK => wp_en_append _ _ rfl w7.heap.size (Nat.le_refl _) (.slice none 0 0) [] Z.l p1 n1 c1 rfl rfl (ownE_nil _ _ _) hE1.out (by simp) (by omega) fun v w8 ho hg => hK _ _ ?_)
    have hb7 : Below w7.heap.size w7 w8 := (Below.refl w7.heap.size w7).grown hg (Nat.le_refl _) (fun q hq => by cases hq)
    obtain ⟨pv, cv, rfl, hz0, hz1, hcv⟩ := OwnE.open ho
    rw [List.nil_append, HLZ.out] at ho ⊢
    rw [List.nil_append, HLZ.out] at hcv
    clear hz0 hz1 hg
    have HB7 := Pin.Aside.mk hb7
    have HV := Pin.Aside.mk ho
    have XC := Pin.Aside.mk (And.intro xb (And.intro xt xs))
    have HB6 := Pin.Aside.mk hb
    have HXB := Pin.Aside.mk (World.block_lt_of_cell? _ _ xb)
    have HZO := Pin.Aside.mk OK1.out.l
    clear hb7 ho zb zt zs xb xt xs hb
    go_upto_region 15 with fail
    go_wp2_with fail
    go_loopw [25] (fun x wr => ∃ (i : Nat) (Y : List En), i ≤ n1 ∧ x = .int .i64 i ∧ Pin.Aside (Y.length = n1 ∧ ∀ e ∈ Y, e.ok) ∧ Pin.Aside (Below w7.heap.size w7 wr) ∧ Pin.Aside (OwnE wr w7.heap.size 32 (.slice pv n1 cv) Y)) (fun x _ => n1 - (intOf x).toNat)
    case atStart => exact ⟨0, Z.l, by omega, rfl, Pin.Aside.mk ⟨HLZ.out, HZO.out⟩, HB7, HV⟩
    case round =>
      clear HB7 HV
      obtain ⟨i, Y, hi, rfl, HY, HB7, HV⟩ := hrel
      by_cases hgo : i < n1 ∧ 0 < wi % 3
      · obtain ⟨hlt, h3⟩ := hgo
        obtain ⟨e, he⟩ : ∃ x, Y[i]? = some x := ⟨Y[i]'(by have := HY.out.1; omega), List.getElem?_eq_getElem (by have := HY.out.1; omega)⟩
        have heo := HY.out.2 e (List.mem_of_getElem? he)
        obtain ⟨g, o, rfl, hEn⟩ := (OwnE.ents HV.out).1.at' i e he
        have ho : o = 0 := ownE_zero HV.out
        subst ho
        have hgB := (OwnE.ents HV.out).2.2 g 0 rfl
        have hkr : Keep (fun _ => False) w7 wr := Keep.of_below HB7.out fun _ q _ => q
        obtain ⟨xb, xt, xs⟩ := XC.out
        replace xb := hkr.cell xb id
        replace xt := hkr.cell xt id
        replace xs := hkr.cell xs id
        have hEr := Pin.Aside.mk (hE0.out.keep' hkr)
        have c1' := hEn.c1
        have c0' := hEn.c0
        simp only [Nat.zero_add] at c1' c0'
        have hk0 : (0 : Int) ≤ (i : Int) := by omega
        have hk1 : (i : Int) < (n1 : Int) := by omega
        have KI := Pin.Aside.mk (fun s' : KW (fun _ => False) wr => KT.out e.index s'.w (hEr.out.keep' s'.keep))
        have htI := HTI.out e.index
        obtain ⟨tu, htu⟩ : ∃ tu, (X.term e.index).getD 0 = tu := ⟨_, rfl⟩
        obtain ⟨tk, htk⟩ : ∃ tk, (X.term e.index).isSome = tk := ⟨_, rfl⟩
        rw [htu] at htI KI
        rw [htk] at KI
        have hfz := Pin.Aside.mk (ownE_frozen HV.out (i * 11))
        have HE := Pin.Aside.mk he
        have HEO := Pin.Aside.mk heo
        clear htu htk hEn heo he hkr
        go_upto_region 18 with fail
        have k0 : ∀ s' : KW (fun _ => False) wr, s'.w.cell? ⟨BX, 0, none⟩ = some (.int .u64 X.base) := fun s' => s'.keep.cell xb id
        have k1 : ∀ s' : KW (fun _ => False) wr, s'.w.cell? ⟨BX, 1, none⟩ = some (.int .u64 X.bt) := fun s' => s'.keep.cell xt id
        have k2 : ∀ s' : KW (fun _ => False) wr, s'.w.cell? ⟨BX, 2, none⟩ = some (.slice p0 n0 c0) := fun s' => s'.keep.cell xs id
        have k3 : ∀ s' : KW (fun _ => False) wr, s'.w.cell? ⟨g, i * 11 + 1, none⟩ = some (.int .u64 e.index) := fun s' => s'.keep.cell c1' id
        refine wp_region_keep (fun _ => False) (by kernel_rfl) (by kernel_rfl) ?_
        repeat (go_big_quiet_step ((with_reducible exact KW.calls (KI.out _))))
        refine wpQuiet_nil ?_
        intro s4
        have hks := s4.keep
        have hfr : s4.w.frozen? ⟨g, i * 11, none⟩ = false := (hks.frozen_at (q := ⟨g, i * 11, none⟩) c0' rfl id).trans hfz.out
        have d0 := hks.cell c0' id
        have HB8 := Pin.Aside.mk (HB7.out.trans (hks.below HB7.out.size fun _ q => q.elim))
        have HV8 := Pin.Aside.mk (ownE_keep HV.out hks fun _ _ q => q)
        clear k0 k1 k2 k3 KI hfz c0' c1' xb xt xs hks HB7 HV hEr
        generalize s4.w = w9 at *
        cases tk with
        | false =>
          clear hfr d0
          go_wp2_with fail
          go_roundw
          case rel => exact ⟨i + 1, Y, by omega, by go_num, HY, HB8, HV8⟩
          case measure => simp [intOf]; omega
        | true =>
          by_cases h4 : (i : Int) < prev % 8
          · have V1 := Pin.Aside.mk (ownE_set HV8.out i e { e with term := tu } 0 (.int .u64 tu) HE.out (by omega) rfl)
            rw [Nat.add_zero] at V1
            have HB9 := Pin.Aside.mk (HB8.out.setCell (p := ⟨g, i * 11, none⟩) hgB (.int .u64 tu))
            have HY2 := Pin.Aside.mk (And.intro (show (Y.set i { e with term := tu }).length = n1 by rw [List.length_set]; exact HY.out.1) (set_ok HY.out.2 i _ (En.ok_term HEO.out tu htI)))
            clear HV8 HB8 HY
            go_wp2_with fail
            go_roundw
            case rel => exact ⟨i + 1, _, by omega, by go_num, HY2, HB9, V1⟩
            case measure => simp [intOf]; omega
          · clear hfr d0
            go_wp2_with fail
            go_roundw
            case rel => exact ⟨i + 1, Y, by omega, by go_num, HY, HB8, HV8⟩
            case measure => simp [intOf]; omega
      · have HE00 := hE0
        by_cases hlt : i < n1
        · have h3 : ¬ 0 < wi % 3 := fun q => hgo ⟨hlt, q⟩
          clear hgo
          have hkr : Keep (fun _ => False) w7 wr := Keep.of_below HB7.out fun _ q _ => q
          obtain ⟨xb, xt, xs⟩ := XC.out
          replace xb := hkr.cell xb id
          replace xt := hkr.cell xt id
          replace xs := hkr.cell xs id
          replace hE0 := Pin.Aside.mk (hE0.out.keep' hkr)
          have hb := HB6.out.trans (HB7.out.mono (by first | exact HB6.out.size | (rw [← hB]; exact HB6.out.size)))
          clear hkr hE1
          go_upto_region 21 with fail
          go_cut [111] (fun v wx => (∃ bq : Bool, v = .bool bq ∧ (bq = true → 0 < n1)) ∧ wx = wr)
          case first =>
            cases raw with
            | false =>
              go_wp2_with fail
              go_meet
              exact ⟨⟨false, rfl, fun q => by cases q⟩, rfl⟩
            | true =>
              by_cases hn : 0 < n1
              · have hn' : (0 : Int) < (n1 : Int) := by omega
                go_wp2_with fail
                go_meet
                exact ⟨⟨true, rfl, fun _ => hn⟩, rfl⟩
              · have hn' : decide ((0 : Int) < (n1 : Int)) = false := by rw [decide_eq_false_iff_not]; omega
                go_wp2_with fail
                go_meet
                exact ⟨⟨false, rfl, fun q => by cases q⟩, rfl⟩
          case rest =>
            obtain ⟨⟨bq, rfl, hbq⟩, rfl⟩ := hcut
            go_upto_if 111 with fail
            go_cut [] (fun wx => Pin.Aside (∃ Y : List En, (Y.length = n1 ∧ ∀ e ∈ Y, e.ok) ∧ Below w7.heap.size w7 wx ∧ OwnE wx w7.heap.size 32 (.slice pv n1 cv) Y))
            case first =>
              cases bq with
              | false =>
                go_wp2_with fail
                go_meet
                exact Pin.Aside.mk ⟨Y, HY.out, HB7.out, HV.out⟩
              | true =>
                have hn := hbq rfl
                obtain ⟨e, he⟩ : ∃ x, Y[0]? = some x := ⟨Y[0]'(by have := HY.out.1; omega), List.getElem?_eq_getElem (by have := HY.out.1; omega)⟩
                have heo := HY.out.2 e (List.mem_of_getElem? he)
                obtain ⟨g, o, rfl, hEn⟩ := (OwnE.ents HV.out).1.at' 0 e he
                have ho : o = 0 := ownE_zero HV.out
                subst ho
                have hgB := (OwnE.ents HV.out).2.2 g 0 rfl
                have c0' := hEn.c0
                simp only [Nat.zero_add, Nat.zero_mul] at c0'
                have hfz := ownE_frozen HV.out 0
                have V1 := ownE_set HV.out 0 e { e with term := wi } 0 (.int .u64 wi) he (by omega) rfl
                rw [Nat.add_zero, Nat.zero_mul] at V1
                have HB9 := Pin.Aside.mk (HB7.out.setCell (p := ⟨g, 0, none⟩) hgB (.int .u64 wi))
                have HY2 := Pin.Aside.mk (And.intro (show (Y.set 0 { e with term := wi }).length = n1 by rw [List.length_set]; exact HY.out.1) (set_ok HY.out.2 0 _ (En.ok_term heo wi hi0)))
                have V2 := Pin.Aside.mk V1
                have hn' : (0 : Int) < (n1 : Int) := by omega
                clear V1 hEn heo he hbq hn HV
                go_wp2_with fail
                go_meet
                exact Pin.Aside.mk ⟨_, HY2.out, HB9.out, V2.out⟩
            case rest =>
              obtain ⟨Y2, ⟨hY1, hY2⟩, hB2, hV2⟩ := hcut.out
              obtain ⟨w8', hwc⟩ : ∃ w9, w9 = wc := ⟨_, rfl⟩
              subst hwc
              have hkr : Keep (fun _ => False) w7 w8' := Keep.of_below hB2 fun _ q _ => q
              obtain ⟨xb, xt, xs⟩ := XC.out
              replace xb := hkr.cell xb id
              replace xt := hkr.cell xt id
              replace xs := hkr.cell xs id
              replace hE0 := Pin.Aside.mk (HE00.out.keep' hkr)
              have hb := HB6.out.trans (hB2.mono (by first | exact HB6.out.size | (rw [← hB]; exact HB6.out.size)))
              have hEm := Pin.Aside.mk (OwnE.ents hV2).1
              have T1 := Pin.Aside.mk (fun W hW hM => lg_take X OK0.out at1 t1 hat htt Y2 hY2 p0 pv n0 c0 n1 cv (by omega) hc0 (by omega) hcv W hW hM)
              have T2 := Pin.Aside.mk (fun W hW hM => r16_take X OK0.out at1 t1 hat htt Y2 hY2 p0 pv n0 c0 n1 cv (by omega) (by omega) hcv W hW hM)
              obtain ⟨⟨R, f, ok2⟩, hR⟩ : ∃ r, X.take at1 t1 Y2 = r := ⟨_, rfl⟩
              have HRL : Pin.Aside (R.l.length ≤ 30) := Pin.Aside.mk (by
                have h1 := lgTake_len X at1 t1 Y2
                rw [hR] at h1
                dsimp only at h1
                have h2 := HLX.out
                omega)
              rw [hR] at T1 T2
              dsimp only at T1 T2
              clear hR hcut hB2 hV2 hkr HB7 HV HY hY1 hY2 hbq
              have T3 := Pin.Aside.mk (fun W => mk_ref X p0 n0 c0 W)
              dsimp only [Lg.val] at T3
              go_wp2_with fail
              refine (T1.out _ hE0.out hEm.out).mono ?_
              rintro x y1 ⟨⟨pa, na, ca, rfl, hca, hEa0⟩, hbb⟩
              have hEa := Pin.Aside.mk hEa0
              clear hEa0 T1 hca
              have hkk : Keep (fun _ => False) w8' y1 := Keep.of_below hbb fun _ q _ => q
              replace xb := hkk.cell xb id
              replace xt := hkk.cell xt id
              replace xs := hkk.cell xs id
              replace hE0 := Pin.Aside.mk (hE0.out.keep' hkk)
              replace hEm := Pin.Aside.mk (hEm.out.keep' hkk)
              replace hb := hb.trans (hbb.mono (by first | exact hb.size | (rw [← hB]; exact hb.size)))
              clear hkk hbb
              have hka := (Keep.refl (fun _ => False) y1).alloc (.cells #[.int .u64 R.base, .int .u64 R.bt, .slice pa na ca] 27)
              obtain ⟨ab, at', as'⟩ := LgCells.new y1 27 R pa na ca
              replace xb := hka.cell xb id
              replace xt := hka.cell xt id
              replace xs := hka.cell xs id
              replace hE0 := Pin.Aside.mk (hE0.out.keep' hka)
              replace hEm := Pin.Aside.mk (hEm.out.keep' hka)
              replace hEa := Pin.Aside.mk (hEa.out.keep' hka)
              replace hb := hb.trans (hka.below (by first | exact hb.size | (rw [← hB]; exact hb.size)) fun _ q => q.elim)
              clear hka
              go_upto_region 24 with fail
              generalize World.alloc y1 _ = y2 at *
              generalize y1.heap.size = BA at *
              go_wp2_with fail
              refine (T3.out y2).mono ?_
              rintro x y3 ⟨rfl, hbb⟩
              have hkk : Keep (fun _ => False) y2 y3 := Keep.of_below hbb fun _ q _ => q
              replace ab := hkk.cell ab id
              replace at' := hkk.cell at' id
              replace as' := hkk.cell as' id
              replace hE0 := Pin.Aside.mk (hE0.out.keep' hkk)
              replace hEm := Pin.Aside.mk (hEm.out.keep' hkk)
              replace hEa := Pin.Aside.mk (hEa.out.keep' hkk)
              replace hb := hb.trans (hbb.mono (by first | exact hb.size | (rw [← hB]; exact hb.size)))
              clear hkk hbb
              clear xb xt xs T3
              go_wp2_with fail
              refine (T2.out y3 hE0.out hEm.out).mono ?_
              rintro x y4 ⟨⟨pb, nb, cb, rfl, hEb0⟩, hbb⟩
              have hEb := Pin.Aside.mk hEb0
              clear hEb0 T2
              have hkk : Keep (fun _ => False) y3 y4 := Keep.of_below hbb fun _ q _ => q
              replace ab := hkk.cell ab id
              replace at' := hkk.cell at' id
              replace as' := hkk.cell as' id
              replace hEa := Pin.Aside.mk (hEa.out.keep' hkk)
              replace hb := hb.trans (hbb.mono (by first | exact hb.size | (rw [← hB]; exact hb.size)))
              clear hkk hbb
              have hka := (Keep.refl (fun _ => False) y4).alloc (.cells #[.int .u64 R.base, .int .u64 R.bt, .slice pb nb cb] 35)
              obtain ⟨bb', bt', bs'⟩ := LgCells.new y4 35 R pb nb cb
              replace ab := hka.cell ab id
              replace at' := hka.cell at' id
              replace as' := hka.cell as' id
              replace hEa := Pin.Aside.mk (hEa.out.keep' hka)
              replace hEb := Pin.Aside.mk (hEb.out.keep' hka)
              replace hb := hb.trans (hka.below (by first | exact hb.size | (rw [← hB]; exact hb.size)) fun _ q => q.elim)
              clear hka hE0 hEm
              go_upto_region 25 with fail
              generalize World.alloc y4 _ = y5 at *
              generalize y4.heap.size = BB at *
              have T4 := Pin.Aside.mk (mk_same R pa pb na nb ca cb (by have := HRL.out; have := hEa.out.len; omega) y5 hEa.out hEb.out)
              dsimp only [Lg.val] at T4
              go_wp2_with fail
              refine T4.out.mono ?_
              rintro x y6 ⟨rfl, hbb⟩
              replace hb := hb.trans (hbb.mono (by first | exact hb.size | (rw [← hB]; exact hb.size)))
              clear hbb T4 ab at' as' bb' bt' bs'
              go_wp2_with fail
              go_ret
              exact ⟨rfl, by first | exact hb | (rw [hB]; exact hb)⟩
        · have hi2 : i = n1 := by omega
          clear hgo
          have hkr : Keep (fun _ => False) w7 wr := Keep.of_below HB7.out fun _ q _ => q
          obtain ⟨xb, xt, xs⟩ := XC.out
          replace xb := hkr.cell xb id
          replace xt := hkr.cell xt id
          replace xs := hkr.cell xs id
          replace hE0 := Pin.Aside.mk (hE0.out.keep' hkr)
          have hb := HB6.out.trans (HB7.out.mono (by first | exact HB6.out.size | (rw [← hB]; exact HB6.out.size)))
          clear hkr hE1
          go_upto_region 21 with fail
          go_cut [111] (fun v wx => (∃ bq : Bool, v = .bool bq ∧ (bq = true → 0 < n1)) ∧ wx = wr)
          case first =>
            cases raw with
            | false =>
              go_wp2_with fail
              go_meet
              exact ⟨⟨false, rfl, fun q => by cases q⟩, rfl⟩
            | true =>
              by_cases hn : 0 < n1
              · have hn' : (0 : Int) < (n1 : Int) := by omega
                go_wp2_with fail
                go_meet
                exact ⟨⟨true, rfl, fun _ => hn⟩, rfl⟩
              · have hn' : decide ((0 : Int) < (n1 : Int)) = false := by rw [decide_eq_false_iff_not]; omega
                go_wp2_with fail
                go_meet
                exact ⟨⟨false, rfl, fun q => by cases q⟩, rfl⟩
          case rest =>
            obtain ⟨⟨bq, rfl, hbq⟩, rfl⟩ := hcut
            go_upto_if 111 with fail
            go_cut [] (fun wx => Pin.Aside (∃ Y : List En, (Y.length = n1 ∧ ∀ e ∈ Y, e.ok) ∧ Below w7.heap.size w7 wx ∧ OwnE wx w7.heap.size 32 (.slice pv n1 cv) Y))
            case first =>
              cases bq with
              | false =>
                go_wp2_with fail
                go_meet
                exact Pin.Aside.mk ⟨Y, HY.out, HB7.out, HV.out⟩
              | true =>
                have hn := hbq rfl
                obtain ⟨e, he⟩ : ∃ x, Y[0]? = some x := ⟨Y[0]'(by have := HY.out.1; omega), List.getElem?_eq_getElem (by have := HY.out.1; omega)⟩
                have heo := HY.out.2 e (List.mem_of_getElem? he)
                obtain ⟨g, o, rfl, hEn⟩ := (OwnE.ents HV.out).1.at' 0 e he
                have ho : o = 0 := ownE_zero HV.out
                subst ho
                have hgB := (OwnE.ents HV.out).2.2 g 0 rfl
                have c0' := hEn.c0
                simp only [Nat.zero_add, Nat.zero_mul] at c0'
                have hfz := ownE_frozen HV.out 0
                have V1 := ownE_set HV.out 0 e { e with term := wi } 0 (.int .u64 wi) he (by omega) rfl
                rw [Nat.add_zero, Nat.zero_mul] at V1
                have HB9 := Pin.Aside.mk (HB7.out.setCell (p := ⟨g, 0, none⟩) hgB (.int .u64 wi))
                have HY2 := Pin.Aside.mk (And.intro (show (Y.set 0 { e with term := wi }).length = n1 by rw [List.length_set]; exact HY.out.1) (set_ok HY.out.2 0 _ (En.ok_term heo wi hi0)))
                have V2 := Pin.Aside.mk V1
                have hn' : (0 : Int) < (n1 : Int) := by omega
                clear V1 hEn heo he hbq hn HV
                go_wp2_with fail
                go_meet
                exact Pin.Aside.mk ⟨_, HY2.out, HB9.out, V2.out⟩
            case rest =>
              obtain ⟨Y2, ⟨hY1, hY2⟩, hB2, hV2⟩ := hcut.out
              obtain ⟨w8', hwc⟩ : ∃ w9, w9 = wc := ⟨_, rfl⟩
              subst hwc
              have hkr : Keep (fun _ => False) w7 w8' := Keep.of_below hB2 fun _ q _ => q
              obtain ⟨xb, xt, xs⟩ := XC.out
              replace xb := hkr.cell xb id
              replace xt := hkr.cell xt id
              replace xs := hkr.cell xs id
              replace hE0 := Pin.Aside.mk (HE00.out.keep' hkr)
              have hb := HB6.out.trans (hB2.mono (by first | exact HB6.out.size | (rw [← hB]; exact HB6.out.size)))
              have hEm := Pin.Aside.mk (OwnE.ents hV2).1
              have T1 := Pin.Aside.mk (fun W hW hM => lg_take X OK0.out at1 t1 hat htt Y2 hY2 p0 pv n0 c0 n1 cv (by omega) hc0 (by omega) hcv W hW hM)
              have T2 := Pin.Aside.mk (fun W hW hM => r16_take X OK0.out at1 t1 hat htt Y2 hY2 p0 pv n0 c0 n1 cv (by omega) (by omega) hcv W hW hM)
              obtain ⟨⟨R, f, ok2⟩, hR⟩ : ∃ r, X.take at1 t1 Y2 = r := ⟨_, rfl⟩
              have HRL : Pin.Aside (R.l.length ≤ 30) := Pin.Aside.mk (by
                have h1 := lgTake_len X at1 t1 Y2
                rw [hR] at h1
                dsimp only at h1
                have h2 := HLX.out
                omega)
              rw [hR] at T1 T2
              dsimp only at T1 T2
              clear hR hcut hB2 hV2 hkr HB7 HV HY hY1 hY2 hbq
              have T3 := Pin.Aside.mk (fun W => mk_ref X p0 n0 c0 W)
              dsimp only [Lg.val] at T3
              go_wp2_with fail
              refine (T1.out _ hE0.out hEm.out).mono ?_
              rintro x y1 ⟨⟨pa, na, ca, rfl, hca, hEa0⟩, hbb⟩
              have hEa := Pin.Aside.mk hEa0
              clear hEa0 T1 hca
              have hkk : Keep (fun _ => False) w8' y1 := Keep.of_below hbb fun _ q _ => q
              replace xb := hkk.cell xb id
              replace xt := hkk.cell xt id
              replace xs := hkk.cell xs id
              replace hE0 := Pin.Aside.mk (hE0.out.keep' hkk)
              replace hEm := Pin.Aside.mk (hEm.out.keep' hkk)
              replace hb := hb.trans (hbb.mono (by first | exact hb.size | (rw [← hB]; exact hb.size)))
              clear hkk hbb
              have hka := (Keep.refl (fun _ => False) y1).alloc (.cells #[.int .u64 R.base, .int .u64 R.bt, .slice pa na ca] 27)
              obtain ⟨ab, at', as'⟩ := LgCells.new y1 27 R pa na ca
              replace xb := hka.cell xb id
              replace xt := hka.cell xt id
              replace xs := hka.cell xs id
              replace hE0 := Pin.Aside.mk (hE0.out.keep' hka)
              replace hEm := Pin.Aside.mk (hEm.out.keep' hka)
              replace hEa := Pin.Aside.mk (hEa.out.keep' hka)
              replace hb := hb.trans (hka.below (by first | exact hb.size | (rw [← hB]; exact hb.size)) fun _ q => q.elim)
              clear hka
              go_upto_region 24 with fail
              generalize World.alloc y1 _ = y2 at *
              generalize y1.heap.size = BA at *
              go_wp2_with fail
              refine (T3.out y2).mono ?_
              rintro x y3 ⟨rfl, hbb⟩
              have hkk : Keep (fun _ => False) y2 y3 := Keep.of_below hbb fun _ q _ => q
              replace ab := hkk.cell ab id
              replace at' := hkk.cell at' id
              replace as' := hkk.cell as' id
              replace hE0 := Pin.Aside.mk (hE0.out.keep' hkk)
              replace hEm := Pin.Aside.mk (hEm.out.keep' hkk)
              replace hEa := Pin.Aside.mk (hEa.out.keep' hkk)
              replace hb := hb.trans (hbb.mono (by first | exact hb.size | (rw [← hB]; exact hb.size)))
              clear hkk hbb
              clear xb xt xs T3
              go_wp2_with fail
              refine (T2.out y3 hE0.out hEm.out).mono ?_
              rintro x y4 ⟨⟨pb, nb, cb, rfl, hEb0⟩, hbb⟩
              have hEb := Pin.Aside.mk hEb0
              clear hEb0 T2
              have hkk : Keep (fun _ => False) y3 y4 := Keep.of_below hbb fun _ q _ => q
              replace ab := hkk.cell ab id
              replace at' := hkk.cell at' id
              replace as' := hkk.cell as' id
              replace hEa := Pin.Aside.mk (hEa.out.keep' hkk)
              replace hb := hb.trans (hbb.mono (by first | exact hb.size | (rw [← hB]; exact hb.size)))
              clear hkk hbb
              have hka := (Keep.refl (fun _ => False) y4).alloc (.cells #[.int .u64 R.base, .int .u64 R.bt, .slice pb nb cb] 35)
              obtain ⟨bb', bt', bs'⟩ := LgCells.new y4 35 R pb nb cb
              replace ab := hka.cell ab id
              replace at' := hka.cell at' id
              replace as' := hka.cell as' id
              replace hEa := Pin.Aside.mk (hEa.out.keep' hka)
              replace hEb := Pin.Aside.mk (hEb.out.keep' hka)
              replace hb := hb.trans (hka.below (by first | exact hb.size | (rw [← hB]; exact hb.size)) fun _ q => q.elim)
              clear hka hE0 hEm
              go_upto_region 25 with fail
              generalize World.alloc y4 _ = y5 at *
              generalize y4.heap.size = BB at *
              have T4 := Pin.Aside.mk (mk_same R pa pb na nb ca cb (by have := HRL.out; have := hEa.out.len; omega) y5 hEa.out hEb.out)
              dsimp only [Lg.val] at T4
              go_wp2_with fail
              refine T4.out.mono ?_
              rintro x y6 ⟨rfl, hbb⟩
              replace hb := hb.trans (hbb.mono (by first | exact hb.size | (rw [← hB]; exact hb.size)))
              clear hbb T4 ab at' as' bb' bt' bs'
              go_wp2_with fail
              go_ret
              exact ⟨rfl, by first | exact hb | (rw [hB]; exact hb)⟩
end Go.Proofs.Ythlmigbimeldbaa
