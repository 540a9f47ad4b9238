/- rlog: Part, Drop, Hint. -/
import Derived.Test.YthlmigbimeldbaaLgO
set_option maxRecDepth 16000
namespace Go.Proofs.Ythlmigbimeldbaa
open Go.RowKit Go.Pin
set_option linter.unusedVariables false
set_option linter.unusedSimpArgs false
theorem en_info : (Try.prog.info? 32).map (fun i => (i.zero, i.size, i.bytes)) = some (some En.zero.val, 11, 104) := by kernel_rfl
theorem lgStep_len (b i m : Int) (out : List En) (e : En) : (lgStep b i m out e).length ≤ out.length + 1 := by unfold lgStep; split <;> simp
theorem lgPart_le (b i m : Int) : ∀ (L out : List En), (L.foldl (lgStep b i m) out).length ≤ out.length + L.length
  | [], out => by simp
  | e :: L, out => by
    have := lgPart_le b i m L (lgStep b i m out e)
    have := lgStep_len b i m out e
    simp only [List.foldl_cons, List.length_cons]; omega
set_option maxHeartbeats 1600000 in
theorem lg_part (g : Lg) (ho : g.ok) (i m : Int) (p : Option Addr) (n c : Nat) (hn2 : n ≤ 1000) (w : World) (hL : EntsAt w p n g.l) :
    Calls Try.prog 27 #[g.val p n c, .int .u64 i, .int .i64 m] w fun x w' => (∃ v, x = .returned v ∧ OwnE w' w.heap.size 32 v (g.part i m)) ∧ Below w.heap.size w w' := by
  have hk := (Keep.refl (fun _ => False) w).alloc (.cells #[.int .u64 g.base, .int .u64 g.bt, .slice p n c] 27)
  have hb := hk.below (Nat.le_refl _) fun _ q => q.elim
  obtain ⟨cb, ct, cs⟩ := LgCells.new w 27 g p n c
  obtain ⟨i0, hi, hz0, hzs, hzb⟩ := info_parts en_info
  have HL := Pin.Aside.mk hL
  have hn := hL.len
  clear hL hk ct ho
  unfold Lg.part
  obtain ⟨base, bt, L⟩ := g
  dsimp only [Lg.val] at *
  go_enter Try.func27, Try.ntmps27
  go_upto_region 1 with fail
  generalize World.alloc _ _ = wa at *
  have hB0 : w.heap.size = w.heap.size := rfl
  generalize hB : w.heap.size = B at hb cb cs hB0 ⊢
  clear hB0
  go_wp2_with fail
  clear cs
  go_loopw [6, 12] (fun v x wr => ∃ k : Nat, k ≤ n ∧ x = .int .i64 k ∧ Below B w wr ∧ wr.cell? ⟨B, 0, none⟩ = some (.int .u64 base) ∧ Pin.Aside (OwnE wr (B + 1) 32 v ((L.take k).foldl (lgStep base i m) []))) (fun _ x _ => n - (intOf x).toNat)
  case atStart => exact ⟨0, by omega, rfl, hb, cb, Pin.Aside.mk (ownE_nil _ _ _)⟩
  case round =>
    clear hb cb
    obtain ⟨k, hk, rfl, hb, cb, HO⟩ := hrel
    by_cases hlt : k < n
    · obtain ⟨e, he⟩ : ∃ x, L[k]? = some x := ⟨L[k], List.getElem?_eq_getElem (by omega)⟩
      obtain ⟨A, o, rfl, hE⟩ := HL.out.at' k e he
      replace hE := hE.keep (Keep.of_below (S := fun _ => False) hb fun _ q _ => by rw [← hB]; exact q) id
      have hke := (Keep.refl (fun _ => False) wr).alloc (.cells e.cells 32)
      have hE2 := EnAt.new wr 32 e
      have cb3 := hke.cell cb id
      have HO2 := Pin.Aside.mk (ownE_keep HO.out hke fun _ _ => id)
      have hbe := hb.trans (hke.below (by rw [← hB]; exact hb.size) fun _ q => q.elim)
      have hstep : (L.take (k + 1)).foldl (lgStep base i m) [] = lgStep base i m ((L.take k).foldl (lgStep base i m) []) e := by
        rw [List.take_add_one, he, List.foldl_append]; rfl
      have Hstep := Pin.Aside.mk hstep
      have hlen : ((L.take k).foldl (lgStep base i m) []).length ≤ k := by
        have := lgPart_le base i m (L.take k) []
        simp at this; omega
      have hk0 : (0 : Int) ≤ (k : Int) := by omega
      have hk1 : (k : Int) < (n : Int) := by omega
      have HE2 := Pin.Aside.mk hE2
      obtain ⟨pv, cv, rfl, hEv, hpv, hpc⟩ := OwnE.open HO.out
      clear hEv hpv hpc
      obtain ⟨c0, c1, c2, c3, c4, c5, c6, c7, c8, c9, c10⟩ := hE
      clear he hE2 hke HO hstep
      generalize ((L.take k).foldl (lgStep base i m) []) = X at *
      go_upto_region 4 with fail
      clear c0 c1 c2 c3 c4 c5 c6 c7 c8 c9 c10 cb hb
      generalize hwe : World.alloc wr _ = we at *
      generalize hE3 : wr.heap.size = E at *
      clear hwe
      obtain ⟨c0, c1, c2, c3, c4, c5, c6, c7, c8, c9, c10⟩ := HE2.out
      simp only [Nat.zero_add] at c0 c1 c2 c3 c4 c5 c6 c7 c8 c9 c10
      by_cases h1 : base < i
      · by_cases h2 : i ≤ e.index
        · by_cases h3 : (X.length : Int) < m
          · have Hs2 := Pin.Aside.mk (show lgStep base i m X e = X ++ [e] from if_pos ⟨h1, h2, h3⟩)
            go_upto_region 5 with fail
            have hBl := World.block_lt_of_cell? _ _ cb3
            dsimp only at hBl
            have hnew : (we.alloc (.cells e.cells 32)).heap[we.heap.size]? = some (.cells e.cells 32) := Go.heap_alloc_new we _
            have hka := (Keep.refl (fun _ => False) we).alloc (.cells e.cells 32)
            have hown := ownE_keep HO2.out hka fun _ _ => id
            have hsz := hbe.size
            go_wp2_with (at_builtin; refine wpList_append_lies _ rfl _ _ _ rfl (B + 1) 32 i0 _ 11 104 Try.underlying25 hi hz0 hzs hzb rfl (by omega) _ X.length (enCells X) rfl hown ⟨we.heap.size, 0, none⟩ 1 1 e.cells.toList rfl rfl (World.news_of_block (cs := e.cells) (t := 32) (fr := (0, 0)) hnew) (by simp [Value.oneCell']) (by omega) (by unfold maxLen; omega) (by omega) (by simp; omega) _ rfl ?_)
            intro g cap w4 hown4 hgrow hat hlt4
            have hb4 := (hbe.trans (hka.below (by omega) fun _ q => q.elim)).grown hgrow (by simp; omega) (fun k hk => by have := (hown.lt k hk).1; omega)
            have cb4 := (hgrow.cell_far ⟨B, 0, none⟩ (by simp; omega) (fun q => by have := (hown.lt B q.symm).1; omega)).trans (hka.cell cb3 id)
            clear c0 c1 c2 c3 c4 c5 c6 c7 c8 c9 c10 hown hgrow hnew hka hat hlt4 hbe cb3
            go_wp2_with fail
            go_roundw
            case rel => exact ⟨k + 1, by omega, by go_num, hb4, cb4, Pin.Aside.mk (by rw [Hstep.out, Hs2.out]; exact ownE_snoc hown4)⟩
            case measure => simp [intOf]; omega
          · have Hs2 := Pin.Aside.mk (show lgStep base i m X e = X from if_neg fun q => h3 q.2.2)
            go_wp2_with fail
            go_roundw
            case rel => exact ⟨k + 1, by omega, by go_num, hbe, cb3, Pin.Aside.mk (by rw [Hstep.out, Hs2.out]; exact HO2.out)⟩
            case measure => simp [intOf]; omega
        · have Hs2 := Pin.Aside.mk (show lgStep base i m X e = X from if_neg fun q => h2 q.2.1)
          go_wp2_with fail
          go_roundw
          case rel => exact ⟨k + 1, by omega, by go_num, hbe, cb3, Pin.Aside.mk (by rw [Hstep.out, Hs2.out]; exact HO2.out)⟩
          case measure => simp [intOf]; omega
      · have Hs2 := Pin.Aside.mk (show lgStep base i m X e = X from if_neg fun q => h1 q.1)
        go_wp2_with fail
        go_roundw
        case rel => exact ⟨k + 1, by omega, by go_num, hbe, cb3, Pin.Aside.mk (by rw [Hstep.out, Hs2.out]; exact HO2.out)⟩
        case measure => simp [intOf]; omega
    · have hk2 : k = n := by omega
      subst hk2
      rw [List.take_of_length_le (by omega)] at HO
      go_wp2_with fail
      go_ret
      exact ⟨⟨_, rfl, by rw [hB]; exact ownE_le HO.out (by omega)⟩, by rw [hB]; exact hb⟩
/-- What Drop answers. -/
def lgDropped (g : Lg) (i : Int) : Lg × Bool := match g.term i with | some t => (⟨i, t, g.part ((i + 1) % 18446744073709551616) g.l.length⟩, true) | none => (g, false)
set_option maxHeartbeats 1600000 in
theorem lg_drop (g : Lg) (ho : g.ok) (i : Int) (hi0 : 0 ≤ i ∧ i ≤ 18446744073709551615) (p : Option Addr) (n c : Nat) (hn2 : n ≤ 1000) (w : World) (hL : EntsAt w p n g.l) :
    Calls Try.prog 28 #[g.val p n c, .int .u64 i] w fun x w' => (∃ p' n' c', x = .returned (.tuple #[(lgDropped g i).1.val p' n' c', .bool (lgDropped g i).2]) ∧ EntsAt w' p' n' (lgDropped g i).1.l) ∧ Below w.heap.size w w' := by
  have hk := (Keep.refl (fun _ => False) w).alloc (.cells #[.int .u64 g.base, .int .u64 g.bt, .slice p n c] 27)
  obtain ⟨cb, ct, cs⟩ := LgCells.new w 27 g p n c
  have hk2 := (Keep.refl (fun _ => False) (w.alloc (.cells #[.int .u64 g.base, .int .u64 g.bt, .slice p n c] 27))).alloc (.cells #[.int .u64 0, .int .u64 0, .slice none 0 0] 27)
  have hk3 := hk.trans hk2
  have hb := hk3.below (Nat.le_refl _) fun _ q => q.elim
  have hr0 : ((w.alloc (.cells #[.int .u64 g.base, .int .u64 g.bt, .slice p n c] 27)).alloc (.cells #[.int .u64 0, .int .u64 0, .slice none 0 0] 27)).cell? ⟨w.heap.size + 1, 0, none⟩ = some (.int .u64 0) := by simp
  have hr1 : ((w.alloc (.cells #[.int .u64 g.base, .int .u64 g.bt, .slice p n c] 27)).alloc (.cells #[.int .u64 0, .int .u64 0, .slice none 0 0] 27)).cell? ⟨w.heap.size + 1, 1, none⟩ = some (.int .u64 0) := by simp
  have hr2 : ((w.alloc (.cells #[.int .u64 g.base, .int .u64 g.bt, .slice p n c] 27)).alloc (.cells #[.int .u64 0, .int .u64 0, .slice none 0 0] 27)).cell? ⟨w.heap.size + 1, 2, none⟩ = some (.slice none 0 0) := by simp
  have hf0 : ∀ j, ((w.alloc (.cells #[.int .u64 g.base, .int .u64 g.bt, .slice p n c] 27)).alloc (.cells #[.int .u64 0, .int .u64 0, .slice none 0 0] 27)).frozen? ⟨w.heap.size + 1, j, none⟩ = false := by intro j; simp
  replace cb := hk2.cell cb id
  replace ct := hk2.cell ct id
  replace cs := hk2.cell cs id
  have hL2 := hL.keep' hk3
  have Hc := Pin.Aside.mk (lg_term g i p n c hn2 _ hL2)
  have HL := Pin.Aside.mk hL
  clear hk hk2 hk3 hL hL2
  cases hT : g.term i with
  | none =>
    rw [hT] at Hc
    have HD := Pin.Aside.mk (show lgDropped g i = (g, false) by unfold lgDropped; rw [hT])
    clear hT ho
    dsimp only [Option.isSome, Option.getD] at Hc
    obtain ⟨base, bt, L⟩ := g
    dsimp only [Lg.val] at *
    go_enter Try.func28, Try.ntmps28
    go_upto_region 1 with fail
    generalize World.alloc (World.alloc _ _) _ = wa at *
    generalize hB : w.heap.size = B at *
    go_wp2_with fail
    refine Hc.out.mono ?_
    rintro x w1 ⟨rfl, hbb⟩
    have hkk : Keep (fun _ => False) wa w1 := Keep.of_below hbb fun _ q _ => q
    replace cb := hkk.cell cb id
    replace ct := hkk.cell ct id
    replace cs := hkk.cell cs id
    have hfr : ∀ j, w1.frozen? ⟨B + 1, j, none⟩ = false := fun j => (hkk.frozen_at (q := ⟨B + 1, j, none⟩) hr0 rfl id).trans (hf0 j)
    replace hr0 := hkk.cell hr0 id
    replace hr1 := hkk.cell hr1 id
    replace hr2 := hkk.cell hr2 id
    have hk4 := ((((Keep.refl (fun b => b = B + 1) w1).setCell (p := ⟨B + 1, 0, none⟩) (.inl rfl) (.int .u64 base)).setCell (p := ⟨B + 1, 1, none⟩) (.inl rfl) (.int .u64 bt)).setCell (p := ⟨B + 1, 2, none⟩) (.inl rfl) (.slice p n c))
    replace hb := hb.trans (hbb.mono (by first | exact hb.size | (rw [← hB]; exact hb.size)))
    have hbx := hb.trans (hk4.below (by first | exact hb.size | (rw [← hB]; exact hb.size)) fun q h => by rw [h]; omega)
    have HB := Pin.Aside.mk hbx
    have HK4 := Pin.Aside.mk hk4
    clear hbx hk4
    have hfa := hfr 0
    have hfb := hfr 1
    have hfc := hfr 2
    clear hbb Hc hkk hf0 hb hfr
    go_wp2_with fail
    refine bodyPost_ret (v := .tuple #[.agg #[.int .u64 base, .int .u64 bt, .slice p n c], .bool false]) (by simp [results, Try.results28, go_sem, *]) rfl ?_
    refine ⟨⟨p, n, c, by rw [HD.out], ?_⟩, by first | exact HB.out | (rw [hB]; exact HB.out)⟩
    rw [HD.out]
    exact HL.out.below (by first | exact HB.out | (rw [hB]; exact HB.out))
  | some t =>
    rw [hT] at Hc
    have HD := Pin.Aside.mk (show lgDropped g i = (⟨i, t, g.part ((i + 1) % 18446744073709551616) g.l.length⟩, true) by unfold lgDropped; rw [hT])
    have Hp := Pin.Aside.mk (fun W hW => lg_part g ho ((i + 1) % 18446744073709551616) g.l.length p n c hn2 W hW)
    have hn := HL.out.len
    have hwr : IntKind.u64.wrap (i + 1) = (i + 1) % 18446744073709551616 := by rw [IntKind.wrap_u64]
    rw [← hwr, hn] at Hp
    rw [← hwr, hn] at HD
    clear hT ho hwr hn
    generalize hX : g.part (IntKind.u64.wrap (i + 1)) n = X at *
    clear hX
    dsimp only [Option.isSome, Option.getD] at Hc
    obtain ⟨base, bt, L⟩ := g
    dsimp only [Lg.val] at *
    go_enter Try.func28, Try.ntmps28
    go_upto_region 1 with fail
    generalize World.alloc (World.alloc _ _) _ = wa at *
    have hB0 : w.heap.size = w.heap.size := rfl
    generalize hB : w.heap.size = B at hb cb ct cs hr0 hr1 hr2 hf0 hB0 ⊢
    clear hB0
    go_wp2_with fail
    refine Hc.out.mono ?_
    rintro x w1 ⟨rfl, hbb⟩
    have hkk : Keep (fun _ => False) wa w1 := Keep.of_below hbb fun _ q _ => q
    replace cb := hkk.cell cb id
    replace ct := hkk.cell ct id
    replace cs := hkk.cell cs id
    have hfr : ∀ j, w1.frozen? ⟨B + 1, j, none⟩ = false := fun j => (hkk.frozen_at (q := ⟨B + 1, j, none⟩) hr0 rfl id).trans (hf0 j)
    replace hr0 := hkk.cell hr0 id
    replace hr1 := hkk.cell hr1 id
    replace hr2 := hkk.cell hr2 id
    replace hb := hb.trans (hbb.mono (by first | exact hb.size | (rw [← hB]; exact hb.size)))
    have Hq := Pin.Aside.mk (Hp.out w1 (HL.out.below (by rw [hB]; exact hb)))
    have HF := Pin.Aside.mk hfr
    clear hbb Hc hkk hf0 hfr Hp
    go_wp2_with fail
    refine Hq.out.mono ?_
    rintro x w2 ⟨⟨v, rfl, hv⟩, hbb⟩
    obtain ⟨p', c', rfl, hE, hA, _⟩ := OwnE.open hv
    have hkk : Keep (fun _ => False) w1 w2 := Keep.of_below hbb fun _ q _ => q
    have hfa : w2.frozen? ⟨B + 1, 0, none⟩ = false := (hkk.frozen_at (q := ⟨B + 1, 0, none⟩) hr0 rfl id).trans (HF.out 0)
    have hfb : w2.frozen? ⟨B + 1, 1, none⟩ = false := (hkk.frozen_at (q := ⟨B + 1, 1, none⟩) hr0 rfl id).trans (HF.out 1)
    have hfc : w2.frozen? ⟨B + 1, 2, none⟩ = false := (hkk.frozen_at (q := ⟨B + 1, 2, none⟩) hr0 rfl id).trans (HF.out 2)
    have hlt1 := World.block_lt_of_cell? _ _ hr0
    dsimp only at hlt1
    replace hr0 := hkk.cell hr0 id
    replace hr1 := hkk.cell hr1 id
    replace hr2 := hkk.cell hr2 id
    replace hb := hb.trans (hbb.mono (by first | exact hb.size | (rw [← hB]; exact hb.size)))
    have hk4 := ((((Keep.refl (fun b => b = B + 1) w2).setCell (p := ⟨B + 1, 0, none⟩) (.inl rfl) (.int .u64 i)).setCell (p := ⟨B + 1, 1, none⟩) (.inl rfl) (.int .u64 t)).setCell (p := ⟨B + 1, 2, none⟩) (.inl rfl) (.slice p' X.length c'))
    have HB := Pin.Aside.mk (hb.trans (hk4.below (by first | exact hb.size | (rw [← hB]; exact hb.size)) fun q h => by rw [h]; omega))
    have HE := Pin.Aside.mk (hE.keep hk4 (fun A o q => by rintro rfl; have := (hA _ _ q).1; omega))
    clear hbb Hq hkk hk4 hb hE hA hv cb ct cs hlt1
    go_wp2_with fail
    refine bodyPost_ret (v := .tuple #[.agg #[.int .u64 i, .int .u64 t, .slice p' X.length c'], .bool true]) (by simp [results, Try.results28, go_sem, *]) rfl ?_
    refine ⟨⟨p', X.length, c', by rw [HD.out], ?_⟩, by first | exact HB.out | (rw [hB]; exact HB.out)⟩
    rw [HD.out]
    exact HE.out
theorem lgIdx_term {g : Lg} {i t : Int} (h : g.term i = some t) (hi : i ≠ g.base) : ∃ (k : Nat) (e : En), lgIdx (fun e => decide (e.term = t)) g.l = k ∧ g.l[k]? = some e ∧ g.l.find? (fun e => decide (e.term = t)) = some e := by
  unfold Lg.term at h
  rw [if_neg hi] at h
  cases hf : g.l.find? (fun e => decide (e.index = i)) with
  | none => rw [hf] at h; cases h
  | some x =>
    rw [hf] at h
    have hx : x.term = t := by simpa using h
    have hm := List.mem_of_find?_eq_some hf
    rcases lgIdx_cases (fun e => decide (e.term = t)) g.l with ⟨h1, h2⟩ | ⟨k, e, h1, h2, h3, _⟩
    · rw [List.find?_eq_none] at h2
      exact absurd (by simpa using hx) (h2 x hm)
    · exact ⟨k, e, h1, h2, h3⟩
set_option maxHeartbeats 1600000 in
theorem lg_hint (g : Lg) (ho : g.ok) (i : Int) (hi0 : 0 ≤ i ∧ i ≤ 18446744073709551615) (p : Option Addr) (n c : Nat) (hn2 : n ≤ 1000) (w : World) (hL : EntsAt w p n g.l) :
    Calls Try.prog 26 #[g.val p n c, .int .u64 i] w fun x w' => x = .returned (.int .u64 (g.hint i)) ∧ Below w.heap.size w w' := by
  have hk := (Keep.refl (fun _ => False) w).alloc (.cells #[.int .u64 g.base, .int .u64 g.bt, .slice p n c] 27)
  have hb := hk.below (Nat.le_refl _) fun _ q => q.elim
  obtain ⟨cb, ct, cs⟩ := LgCells.new w 27 g p n c
  have Hl := Pin.Aside.mk (lg_last g p n c hn2 _ (hL.keep' hk))
  have Ht := Pin.Aside.mk (fun W hW => lg_term g i p n c hn2 W hW)
  have HL := Pin.Aside.mk hL
  clear hk hL
  have HH := Pin.Aside.mk (show g.hint i = g.hint i from rfl)
  by_cases h1 : g.last.1 < i
  · have HR := Pin.Aside.mk (show g.hint i = g.last.1 by unfold Lg.hint; rw [if_pos h1])
    generalize g.last.1 = a at *
    obtain ⟨base, bt, L⟩ := g
    dsimp only [Lg.val] at *
    go_enter Try.func26, Try.ntmps26
    go_upto_region 1 with fail
    generalize World.alloc _ _ = wa at *
    generalize hB : w.heap.size = B at *
    go_wp2_with fail
    refine Hl.out.mono ?_
    rintro x w1 ⟨rfl, hbb⟩
    replace hb := hb.trans (hbb.mono (by first | exact hb.size | (rw [← hB]; exact hb.size)))
    clear hbb Hl Ht cb ct cs
    go_wp2_with fail
    go_ret
    exact ⟨by rw [HR.out]; rfl, by first | exact hb | (rw [hB]; exact hb)⟩
  · clear HH
    obtain ⟨a, ha⟩ : ∃ a, g.last.1 = a := ⟨_, rfl⟩
    obtain ⟨a2, ha2⟩ : ∃ a, g.last.2 = a := ⟨_, rfl⟩
    rw [ha, ha2] at Hl
    rw [ha] at h1
    by_cases h2 : i ≤ g.base
    · have HR := Pin.Aside.mk (show g.hint i = g.base by
        unfold Lg.hint; rw [ha, if_neg h1]
        cases g.term i with
        | none => rfl
        | some t => simp [h2])
      clear ha ha2
      obtain ⟨T, hT⟩ : ∃ T, (g.term i).getD 0 = T := ⟨_, rfl⟩
      obtain ⟨O, hO⟩ : ∃ O, (g.term i).isSome = O := ⟨_, rfl⟩
      rw [hT, hO] at Ht
      clear hT hO
      obtain ⟨base, bt, L⟩ := g
      dsimp only [Lg.val] at *
      go_enter Try.func26, Try.ntmps26
      go_upto_region 1 with fail
      generalize World.alloc _ _ = wa at *
      have hB0 : w.heap.size = w.heap.size := rfl
      generalize hB : w.heap.size = B at hb cb ct cs hB0 ⊢
      clear hB0
      go_wp2_with fail
      refine Hl.out.mono ?_
      rintro x w1 ⟨rfl, hbb⟩
      have hkk : Keep (fun _ => False) wa w1 := Keep.of_below hbb fun _ q _ => q
      replace cb := hkk.cell cb id
      replace cs := hkk.cell cs id
      replace ct := hkk.cell ct id
      replace hb := hb.trans (hbb.mono (by first | exact hb.size | (rw [← hB]; exact hb.size)))
      have Ht2 := Pin.Aside.mk (Ht.out w1 (HL.out.below (by first | exact hb | (rw [hB]; exact hb))))
      clear hbb Hl hkk Ht
      go_wp2_with fail
      refine Ht2.out.mono ?_
      rintro x w2 ⟨rfl, hbb⟩
      have hkk : Keep (fun _ => False) w1 w2 := Keep.of_below hbb fun _ q _ => q
      replace cb := hkk.cell cb id
      replace cs := hkk.cell cs id
      replace ct := hkk.cell ct id
      replace hb := hb.trans (hbb.mono (by first | exact hb.size | (rw [← hB]; exact hb.size)))
      have hka := (Keep.refl (fun _ => False) w2).alloc (.cells #[.int .u64 T] 23)
      replace cb := hka.cell cb id
      replace cs := hka.cell cs id
      replace ct := hka.cell ct id
      have cT : (w2.alloc (.cells #[.int .u64 T] 23)).cell? ⟨w2.heap.size, 0, none⟩ = some (.int .u64 T) := World.cell?_alloc_new w2 _ _ 0
      replace hb := hb.trans (hka.below (by first | exact hb.size | (rw [← hB]; exact hb.size)) fun _ q => q.elim)
      clear hbb Ht2 hkk hka
      go_upto_region 5 with fail
      generalize World.alloc _ _ = w3 at *
      generalize w2.heap.size = E at *
      go_wp2_with fail
      go_ret
      exact ⟨by rw [HR.out]; rfl, by first | exact hb | (rw [hB]; exact hb)⟩
    · cases hT : g.term i with
      | none =>
        have HR := Pin.Aside.mk (show g.hint i = g.base by unfold Lg.hint; rw [ha, if_neg h1, hT])
        rw [hT] at Ht
        dsimp only [Option.isSome, Option.getD] at Ht
        clear ha ha2 hT
        obtain ⟨T, hT0⟩ : ∃ T : Int, (0 : Int) = T := ⟨_, rfl⟩
        rw [hT0] at Ht
        clear hT0
        obtain ⟨base, bt, L⟩ := g
        dsimp only [Lg.val] at *
        go_enter Try.func26, Try.ntmps26
        go_upto_region 1 with fail
        generalize World.alloc _ _ = wa at *
        have hB0 : w.heap.size = w.heap.size := rfl
        generalize hB : w.heap.size = B at hb cb ct cs hB0 ⊢
        clear hB0
        go_wp2_with fail
        refine Hl.out.mono ?_
        rintro x w1 ⟨rfl, hbb⟩
        have hkk : Keep (fun _ => False) wa w1 := Keep.of_below hbb fun _ q _ => q
        replace cb := hkk.cell cb id
        replace cs := hkk.cell cs id
        replace ct := hkk.cell ct id
        replace hb := hb.trans (hbb.mono (by first | exact hb.size | (rw [← hB]; exact hb.size)))
        have Ht2 := Pin.Aside.mk (Ht.out w1 (HL.out.below (by first | exact hb | (rw [hB]; exact hb))))
        clear hbb Hl hkk Ht
        go_wp2_with fail
        refine Ht2.out.mono ?_
        rintro x w2 ⟨rfl, hbb⟩
        have hkk : Keep (fun _ => False) w1 w2 := Keep.of_below hbb fun _ q _ => q
        replace cb := hkk.cell cb id
        replace cs := hkk.cell cs id
        replace ct := hkk.cell ct id
        replace hb := hb.trans (hbb.mono (by first | exact hb.size | (rw [← hB]; exact hb.size)))
        have hka := (Keep.refl (fun _ => False) w2).alloc (.cells #[.int .u64 T] 23)
        replace cb := hka.cell cb id
        replace cs := hka.cell cs id
        replace ct := hka.cell ct id
        have cT : (w2.alloc (.cells #[.int .u64 T] 23)).cell? ⟨w2.heap.size, 0, none⟩ = some (.int .u64 T) := World.cell?_alloc_new w2 _ _ 0
        replace hb := hb.trans (hka.below (by first | exact hb.size | (rw [← hB]; exact hb.size)) fun _ q => q.elim)
        clear hbb Ht2 hkk hka
        go_upto_region 5 with fail
        generalize World.alloc _ _ = w3 at *
        generalize w2.heap.size = E at *
        go_wp2_with fail
        go_ret
        exact ⟨by rw [HR.out]; rfl, by first | exact hb | (rw [hB]; exact hb)⟩
      | some T =>
        obtain ⟨k, e, q1, q2, q3⟩ := lgIdx_term hT (by omega)
        have HR := Pin.Aside.mk (show g.hint i = max (IntKind.u64.wrap (e.index - 1)) g.base by unfold Lg.hint; rw [ha, if_neg h1, hT]; dsimp only; rw [if_neg h2, q3, IntKind.wrap_u64])
        have Hx := Pin.Aside.mk (fun M W hW hM => lg_idxHint (fun e => decide (e.term = T)) M p n c g.l hn2 W hW (fun e _ W' hW' => lg_hint1 e T M W' ((Keep.of_below (S := fun _ => False) hW' fun _ q _ => q).cell hM id)))
        rw [q1] at Hx
        obtain ⟨A, o, rfl, hE⟩ := HL.out.at' k e q2
        have HE := Pin.Aside.mk hE
        have hkn : k < n := by rw [← HL.out.len]; exact (List.getElem?_eq_some_iff.1 q2).1
        have hk0 : (0 : Int) ≤ (k : Int) := by omega
        have hk1 : (k : Int) < (n : Int) := by omega
        rw [hT] at Ht
        dsimp only [Option.isSome, Option.getD] at Ht
        clear ha ha2 hT q1 q2 q3 hE
        obtain ⟨base, bt, L⟩ := g
        dsimp only [Lg.val] at *
        go_enter Try.func26, Try.ntmps26
        go_upto_region 1 with fail
        generalize World.alloc _ _ = wa at *
        have hB0 : w.heap.size = w.heap.size := rfl
        generalize hB : w.heap.size = B at hb cb ct cs hB0 ⊢
        clear hB0
        go_wp2_with fail
        refine Hl.out.mono ?_
        rintro x w1 ⟨rfl, hbb⟩
        have hkk : Keep (fun _ => False) wa w1 := Keep.of_below hbb fun _ q _ => q
        replace cb := hkk.cell cb id
        replace cs := hkk.cell cs id
        replace ct := hkk.cell ct id
        replace hb := hb.trans (hbb.mono (by first | exact hb.size | (rw [← hB]; exact hb.size)))
        have Ht2 := Pin.Aside.mk (Ht.out w1 (HL.out.below (by first | exact hb | (rw [hB]; exact hb))))
        clear hbb Hl hkk Ht
        go_wp2_with fail
        refine Ht2.out.mono ?_
        rintro x w2 ⟨rfl, hbb⟩
        have hkk : Keep (fun _ => False) w1 w2 := Keep.of_below hbb fun _ q _ => q
        replace cb := hkk.cell cb id
        replace cs := hkk.cell cs id
        replace ct := hkk.cell ct id
        replace hb := hb.trans (hbb.mono (by first | exact hb.size | (rw [← hB]; exact hb.size)))
        have hka := (Keep.refl (fun _ => False) w2).alloc (.cells #[.int .u64 T] 23)
        replace cb := hka.cell cb id
        replace cs := hka.cell cs id
        replace ct := hka.cell ct id
        have cT : (w2.alloc (.cells #[.int .u64 T] 23)).cell? ⟨w2.heap.size, 0, none⟩ = some (.int .u64 T) := World.cell?_alloc_new w2 _ _ 0
        replace hb := hb.trans (hka.below (by first | exact hb.size | (rw [← hB]; exact hb.size)) fun _ q => q.elim)
        clear hbb Ht2 hkk hka
        go_upto_region 5 with fail
        generalize World.alloc _ _ = w3 at *
        generalize w2.heap.size = E at *
        have Hx2 := Pin.Aside.mk (Hx.out E w3 (HL.out.below (by first | exact hb | (rw [hB]; exact hb))) cT)
        clear Hx
        go_wp2_with fail
        refine Hx2.out.mono ?_
        rintro x w4 ⟨rfl, hbb⟩
        have hkk : Keep (fun _ => False) w3 w4 := Keep.of_below hbb fun _ q _ => q
        replace cb := hkk.cell cb id
        replace cs := hkk.cell cs id
        replace hb := hb.trans (hbb.mono (by first | exact hb.size | (rw [← hB]; exact hb.size)))
        have c1 := (HE.out.keep (Keep.of_below (S := fun _ => False) hb fun _ q _ => by first | exact q | (rw [← hB]; exact q)) id).c1
        clear hbb hkk Hx2 ct cT
        go_wp2_with fail
        go_quiet (fail)
        go_wp2_with fail
        go_ret
        exact ⟨by rw [HR.out]; rfl, by first | exact below_drewN hb _ | (rw [hB]; exact below_drewN hb _)⟩
end Go.Proofs.Ythlmigbimeldbaa
