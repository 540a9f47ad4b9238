/- pintlelaw16: rising. -/
import Derived.Test.YthlmigbimeldbaaRsX
set_option maxRecDepth 16000
namespace Go.Pin
open Go.RowKit
set_option linter.unusedVariables false
set_option linter.unusedSimpArgs false
theorem ownE_zero {w : World} {N T : Nat} {g o n c : Nat} {L : List En} (h : OwnE w N T (.slice (some ⟨g, o, none⟩) n c) L) : o = 0 := by
  rcases h.2 with ⟨q, _⟩ | ⟨g', cap, cur, hv, _⟩
  · cases q
  · simp only [Value.slice.injEq, Option.some.injEq, Addr.mk.injEq] at hv
    exact hv.1.2.1
theorem enPut_same (e : En) (c : UInt8) (o : En) : (enPut e c o).term = o.term ∧ (enPut e c o).index = o.index ∧ (enPut e c o).kind = o.kind := by
  unfold enPut
  repeat' split
  all_goals exact ⟨rfl, rfl, rfl⟩
theorem enPuts_same (e : En) : ∀ (l : List UInt8) (o : En), (l.foldl (fun o c => enPut e c o) o).term = o.term ∧ (l.foldl (fun o c => enPut e c o) o).index = o.index ∧ (l.foldl (fun o c => enPut e c o) o).kind = o.kind
  | [], o => ⟨rfl, rfl, rfl⟩
  | c :: l, o => by
    obtain ⟨h1, h2, h3⟩ := enPuts_same e l (enPut e c o)
    obtain ⟨g1, g2, g3⟩ := enPut_same e c o
    exact ⟨h1.trans g1, h2.trans g2, h3.trans g3⟩
theorem En.own_same (e : En) : e.own.term = e.term % 1000 + 1 ∧ e.own.index = e.index % 1000 + 1 ∧ e.own.kind = enKind e.kind := enPuts_same e _ (enStart e)
theorem lgLogged_mem {base : Int} {M : List (En × Bool)} {e : En} (h : e ∈ lgLogged base M) : 1 ≤ e.term ∧ e.term ≤ 1000 := by
  unfold lgLogged at h
  rw [List.mem_mapIdx] at h
  obtain ⟨i, hi, rfl⟩ := h
  have := (En.own_same M[i].1).1
  show 1 ≤ M[i].1.own.term ∧ M[i].1.own.term ≤ 1000
  omega
end Go.Pin
namespace Go.Proofs.Ythlmigbimeldbaa
open Go.RowKit Go.Pin
set_option linter.unusedVariables false
set_option linter.unusedSimpArgs false
set_option maxHeartbeats 3200000 in
theorem mk_rising (M : List (En × Bool)) (base term : Int) (hb0 : 0 ≤ base ∧ base ≤ 18446744073709551615) (ht0 : 0 ≤ term ∧ term ≤ 18446744073709551615) (most : Nat) (hmost : most ≤ 100) (p : Option Addr) (n c : Nat) (w : World) (hM : MadesAt w p n M) :
    Calls Try.prog 16 #[.slice p n c, .int .u64 base, .int .u64 term, .int .i64 most] w fun x w' => (∃ p' n' c', x = .returned ((lgRising M base term most).val p' n' c') ∧ OwnE w' (w.heap.size + 2) 32 (.slice p' n' c') (lgRising M base term most).l) ∧ Below w.heap.size w w' := by
  have hka := (Keep.refl (fun _ => False) w).alloc (.cells #[.int .u64 0, .int .u64 0, .slice none 0 0] 27)
  have hkb := (Keep.refl (fun _ => False) (w.alloc (.cells #[.int .u64 0, .int .u64 0, .slice none 0 0] 27))).alloc (.cells #[.int .u64 (base % 100), .int .u64 (term % 3), .slice none 0 0] 27)
  have hr0 : ((w.alloc (.cells #[.int .u64 0, .int .u64 0, .slice none 0 0] 27)).alloc (.cells #[.int .u64 (base % 100), .int .u64 (term % 3), .slice none 0 0] 27)).cell? ⟨w.heap.size, 0, none⟩ = some (.int .u64 0) := by simp
  have hr1 : ((w.alloc (.cells #[.int .u64 0, .int .u64 0, .slice none 0 0] 27)).alloc (.cells #[.int .u64 (base % 100), .int .u64 (term % 3), .slice none 0 0] 27)).cell? ⟨w.heap.size, 1, none⟩ = some (.int .u64 0) := by simp
  have hr2 : ((w.alloc (.cells #[.int .u64 0, .int .u64 0, .slice none 0 0] 27)).alloc (.cells #[.int .u64 (base % 100), .int .u64 (term % 3), .slice none 0 0] 27)).cell? ⟨w.heap.size, 2, none⟩ = some (.slice none 0 0) := by simp
  have hrf : ∀ j, ((w.alloc (.cells #[.int .u64 0, .int .u64 0, .slice none 0 0] 27)).alloc (.cells #[.int .u64 (base % 100), .int .u64 (term % 3), .slice none 0 0] 27)).frozen? ⟨w.heap.size, j, none⟩ = false := by intro j; simp
  have ho0 : ((w.alloc (.cells #[.int .u64 0, .int .u64 0, .slice none 0 0] 27)).alloc (.cells #[.int .u64 (base % 100), .int .u64 (term % 3), .slice none 0 0] 27)).cell? ⟨w.heap.size + 1, 0, none⟩ = some (.int .u64 (base % 100)) := by simp
  have ho1 : ((w.alloc (.cells #[.int .u64 0, .int .u64 0, .slice none 0 0] 27)).alloc (.cells #[.int .u64 (base % 100), .int .u64 (term % 3), .slice none 0 0] 27)).cell? ⟨w.heap.size + 1, 1, none⟩ = some (.int .u64 (term % 3)) := by simp
  have ho2 : ((w.alloc (.cells #[.int .u64 0, .int .u64 0, .slice none 0 0] 27)).alloc (.cells #[.int .u64 (base % 100), .int .u64 (term % 3), .slice none 0 0] 27)).cell? ⟨w.heap.size + 1, 2, none⟩ = some (.slice none 0 0) := by simp
  have hof : ∀ j, ((w.alloc (.cells #[.int .u64 0, .int .u64 0, .slice none 0 0] 27)).alloc (.cells #[.int .u64 (base % 100), .int .u64 (term % 3), .slice none 0 0] 27)).frozen? ⟨w.heap.size + 1, j, none⟩ = false := by intro j; simp
  have hb := (hka.trans hkb).below (Nat.le_refl _) fun _ q => q.elim
  have hsz : ((w.alloc (.cells #[.int .u64 0, .int .u64 0, .slice none 0 0] 27)).alloc (.cells #[.int .u64 (base % 100), .int .u64 (term % 3), .slice none 0 0] 27)).heap.size = w.heap.size + 2 := by simp
  have HM := Pin.Aside.mk (hM.below hb)
  have Hl := Pin.Aside.mk (mk_logged (base % 100) (by omega) most hmost M p n c _ (hM.below hb))
  rw [hsz] at Hl
  have HLen : Pin.Aside ((lgLogged (base % 100) (M.take most)).length ≤ most) := Pin.Aside.mk (by rw [lgLogged_len, List.length_take]; omega)
  have HT : Pin.Aside (∀ e ∈ lgLogged (base % 100) (M.take most), 1 ≤ e.term ∧ e.term ≤ 1000) := Pin.Aside.mk fun e he => lgLogged_mem he
  have HG := Pin.Aside.mk (show lgRising M base term most = ⟨base % 100, term % 3, lgRise (max (term % 3) 1) (lgLogged (base % 100) (M.take most))⟩ from rfl)
  generalize lgLogged (base % 100) (M.take most) = L at *
  have hz1 : base % 100 = base % 100 := rfl
  have hZ := Pin.Aside.mk hsz
  clear hka hkb hM hsz hz1
  have HRF := Pin.Aside.mk (And.intro hrf hof)
  clear hrf hof
  go_enter Try.func16, Try.ntmps16
  go_upto_region 2 with fail
  generalize World.alloc (World.alloc _ _) _ = wa at *
  have hB0 : w.heap.size = w.heap.size := rfl
  generalize hB : w.heap.size = B at hb hr0 hr1 hr2 ho0 ho1 ho2 HRF Hl hZ hB0 ⊢
  clear hB0
  go_wp2_with fail
  refine Hl.out.mono ?_
  rintro x w1 ⟨⟨v, rfl, hv⟩, hbb⟩
  replace hbb : Below wa.heap.size wa w1 := by rw [hZ.out]; exact hbb
  have hkk : Keep (fun _ => False) wa w1 := Keep.of_below hbb fun _ q _ => q
  have hb1 := hb.trans (hbb.mono (by first | exact hb.size | (rw [← hB]; exact hb.size)))
  have hrf : ∀ j, w1.frozen? ⟨B, j, none⟩ = false := fun j => (hkk.frozen_at (q := ⟨B, j, none⟩) hr0 rfl id).trans (HRF.out.1 j)
  have hof : w1.frozen? ⟨B + 1, 2, none⟩ = false := (hkk.frozen_at (q := ⟨B + 1, 2, none⟩) ho0 rfl id).trans (HRF.out.2 2)
  replace hr0 := hkk.cell hr0 id
  replace hr1 := hkk.cell hr1 id
  replace hr2 := hkk.cell hr2 id
  replace ho0 := hkk.cell ho0 id
  replace ho1 := hkk.cell ho1 id
  replace ho2 := hkk.cell ho2 id
  obtain ⟨p', c', rfl, hEv, hAv, hcv⟩ := OwnE.open hv
  have hks := (Keep.refl (fun b => b = B + 1) w1).setCell (p := ⟨B + 1, 2, none⟩) (.inl rfl) (.slice p' L.length c')
  have hb2 := hb1.trans (hks.below (by first | exact hb1.size | (rw [← hB]; exact hb1.size)) fun q h => by rw [h]; omega)
  have hv2 := Pin.Aside.mk (ownE_keep hv hks fun g hg q => by have := (hv.lt g hg).1; omega)
  have hr0' := hks.cell hr0 (by simp)
  have hr1' := hks.cell hr1 (by simp)
  have hr2' := hks.cell hr2 (by simp)
  have hrf' : ∀ j, (w1.setCell ⟨B + 1, 2, none⟩ (.slice p' L.length c')).frozen? ⟨B, j, none⟩ = false := fun j => (hks.frozen_at (q := ⟨B, j, none⟩) hr0 rfl (by simp)).trans (hrf j)
  have RES := Pin.Aside.mk (And.intro hr0' (And.intro hr1' (And.intro hr2' hrf')))
  have ho0' : (w1.setCell ⟨B + 1, 2, none⟩ (.slice p' L.length c')).cell? ⟨B + 1, 0, none⟩ = some (.int .u64 (base % 100)) := by simp [go_sem, ho0]
  have ho1' : (w1.setCell ⟨B + 1, 2, none⟩ (.slice p' L.length c')).cell? ⟨B + 1, 1, none⟩ = some (.int .u64 (term % 3)) := by simp [go_sem, ho1]
  have ho2' : (w1.setCell ⟨B + 1, 2, none⟩ (.slice p' L.length c')).cell? ⟨B + 1, 2, none⟩ = some (.slice p' L.length c') := World.cell?_setCell_same _ _ _ ho2
  clear hkk hbb hb hb1 hks hr0 hr1 hr2 hr0' hr1' hr2' hrf' hrf hEv hAv hv HRF Hl
  go_upto_region 3 with fail
  clear ho0 ho1 ho2 hof
  generalize World.setCell w1 _ _ = w2 at *
  obtain ⟨T0, hT0⟩ : ∃ T0 : Int, max (term % 3) 1 = T0 := ⟨_, rfl⟩
  have hTb : 1 ≤ T0 ∧ T0 ≤ 2 := by omega
  rw [hT0] at HG
  go_wp2_with fail
  clear hT0
  go_loopw [10, 11] (fun tv x wr => ∃ k : Nat, k ≤ L.length ∧ x = .int .i64 k ∧ tv = .int .u64 (lgTop T0 (L.take k)) ∧ Below B w wr ∧ wr.cell? ⟨B + 1, 0, none⟩ = some (.int .u64 (base % 100)) ∧ wr.cell? ⟨B + 1, 1, none⟩ = some (.int .u64 (term % 3)) ∧ wr.cell? ⟨B + 1, 2, none⟩ = some (.slice p' L.length c') ∧ Pin.Aside (wr.cell? ⟨B, 0, none⟩ = some (.int .u64 0) ∧ wr.cell? ⟨B, 1, none⟩ = some (.int .u64 0) ∧ wr.cell? ⟨B, 2, none⟩ = some (.slice none 0 0) ∧ ∀ j, wr.frozen? ⟨B, j, none⟩ = false) ∧ Pin.Aside (OwnE wr (B + 2) 32 (.slice p' L.length c') (lgRise T0 (L.take k) ++ L.drop k))) (fun _ x _ => L.length - (intOf x).toNat)
  case atStart => exact ⟨0, by omega, rfl, rfl, hb2, ho0', ho1', ho2', RES, hv2⟩
  case round =>
    clear hb2 ho0' ho1' ho2' RES hv2
    obtain ⟨k, hk, rfl, rfl, hb, ho0, ho1, ho2, RES, HV⟩ := hrel
    by_cases hlt : k < L.length
    · obtain ⟨e, he⟩ : ∃ x, L[k]? = some x := ⟨L[k], List.getElem?_eq_getElem hlt⟩
      obtain ⟨q1, q2⟩ := rise_step L k e T0 he
      have q3 := lgTop_snoc L k e T0 he
      have q4 := lgTop_le (L.take k) T0
      have q5 := HT.out e (List.mem_of_getElem? he)
      have q6 : (L.take k).length ≤ 100 := by rw [List.length_take]; have := HLen.out; omega
      obtain ⟨hEx, _, hAx⟩ := OwnE.ents HV.out
      obtain ⟨g, o, rfl, hEn⟩ := hEx.at' k e q1
      have ho : o = 0 := ownE_zero HV.out
      subst ho
      have hgB := hAx g 0 rfl
      have c0 := hEn.c0
      simp only [Nat.zero_add] at c0
      obtain ⟨tk, htk⟩ : ∃ tk, lgTop T0 (L.take k) = tk := ⟨_, rfl⟩
      rw [htk] at q2 q3 q4
      have hw : IntKind.u64.wrap (tk + e.term % 3 / 2) = tk + e.term % 3 / 2 := by rw [IntKind.wrap_u64]; omega
      have hfz := ownE_frozen HV.out (k * 11)
      have HV2 := ownE_set HV.out k e { e with term := tk + e.term % 3 / 2 } 0 (.int .u64 (tk + e.term % 3 / 2)) q1 (by omega) rfl
      rw [q2, Nat.add_zero] at HV2
      have hks := (Keep.refl (fun b => b = g) wr).setCell (p := ⟨g, k * 11, none⟩) (.inl rfl) (.int .u64 (tk + e.term % 3 / 2))
      have ho0' := Pin.Aside.mk (hks.cell ho0 (by intro q; dsimp only at q; omega))
      have ho1' := Pin.Aside.mk (hks.cell ho1 (by intro q; dsimp only at q; omega))
      have ho2' := Pin.Aside.mk (hks.cell ho2 (by intro q; dsimp only at q; omega))
      have RES' := Pin.Aside.mk (And.intro (hks.cell RES.out.1 (by intro q; dsimp only at q; omega)) (And.intro (hks.cell RES.out.2.1 (by intro q; dsimp only at q; omega)) (And.intro (hks.cell RES.out.2.2.1 (by intro q; dsimp only at q; omega)) (fun j => (hks.frozen_at (q := ⟨B, j, none⟩) RES.out.1 rfl (by intro q; dsimp only at q; omega)).trans (RES.out.2.2.2 j)))))
      have hb' := Pin.Aside.mk (hb.trans (hks.below (by first | exact hb.size | (rw [← hB]; exact hb.size)) fun q h => by rw [h]; omega))
      have HV3 := Pin.Aside.mk HV2
      have Q3 := Pin.Aside.mk q3
      have hk0 : (0 : Int) ≤ (k : Int) := by omega
      have hk1 : (k : Int) < (L.length : Int) := by omega
      obtain ⟨q41, q42⟩ := q4
      obtain ⟨q51, q52⟩ := q5
      have hq53 : (0 : Int) ≤ e.term := by omega
      clear hks HV2 q1 q2 q3 he hEn hEx hAx hb RES HV q6 q41 q42
      have hL100 : L.length ≤ 100 := by have := HLen.out; omega
      rw [htk]
      go_wp2_with fail
      go_roundw
      case rel => exact ⟨k + 1, by omega, by go_num, by rw [Q3.out], hb'.out, ho0'.out, ho1'.out, ho2'.out, RES', HV3⟩
      case measure => simp [intOf]; omega
    · have hk2 : k = L.length := by omega
      have hfin : lgRise T0 (L.take k) ++ L.drop k = lgRise T0 L := by rw [List.take_of_length_le (by omega), List.drop_of_length_le (by omega), List.append_nil]
      rw [hfin] at HV
      obtain ⟨hr0, hr1, hr2, hrf⟩ := RES.out
      have hfa := hrf 0
      have hfb := hrf 1
      have hfc := hrf 2
      have hk4 := ((((Keep.refl (fun b => b = B) wr).setCell (p := ⟨B, 0, none⟩) (.inl rfl) (.int .u64 (base % 100))).setCell (p := ⟨B, 1, none⟩) (.inl rfl) (.int .u64 (term % 3))).setCell (p := ⟨B, 2, none⟩) (.inl rfl) (.slice p' L.length c'))
      have HB := Pin.Aside.mk (hb.trans (hk4.below (by first | exact hb.size | (rw [← hB]; exact hb.size)) fun q h => by rw [h]; exact Nat.le_refl _))
      have HO := Pin.Aside.mk (ownE_keep HV.out hk4 fun g hg q => by have := (HV.out.lt g hg).1; omega)
      clear hk4 hb hrf HV RES
      go_wp2_with fail
      refine bodyPost_ret (v := .agg #[.int .u64 (base % 100), .int .u64 (term % 3), .slice p' L.length c']) (by simp [results, Try.results16, go_sem, *]) rfl ?_
      rw [HG.out]
      exact ⟨⟨p', L.length, c', rfl, by first | exact HO.out | (rw [hB]; exact HO.out)⟩, by first | exact HB.out | (rw [hB]; exact HB.out)⟩
end Go.Proofs.Ythlmigbimeldbaa
