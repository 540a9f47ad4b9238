/- second: what a field's closure takes. -/
import Derived.Test.YthlmigbimeldbaaSecT
import Derived.Test.YthlmigbimeldbaaRegS
set_option maxRecDepth 16000
namespace Go.Pin
open Go.RowKit
set_option linter.unusedVariables false
set_option linter.unusedSimpArgs false
theorem takeF_int {tag : Nat} (ht : tag ≤ 9) (h : tagInt tag = true) (e : En) (r : Rd) : takeF tag e r = (e.setN tag (IntKind.i64.wrap r.var.1), if r.var.1 = 0 ∨ 9223372036854775808 ≤ r.var.1 then Rd.fail else r.var.2) := by
  unfold takeF tagVal; simp [ht, h]
theorem takeF_u64 {tag : Nat} (ht : tag ≤ 9) (h : tagInt tag = false) (e : En) (r : Rd) : takeF tag e r = (e.setN tag r.var.1, if r.var.1 = 0 then Rd.fail else r.var.2) := by
  unfold takeF tagVal; simp [ht, h]
abbrev RA (R A : Nat) : Nat → Prop := fun k => k = R ∨ k = A
end Go.Pin
namespace Go.Proofs.Ythlmigbimeldbaa
open Go.RowKit Go.Pin
set_option linter.unusedVariables false
set_option linter.unusedSimpArgs false
set_option maxHeartbeats 1600000 in
theorem sec_take_int (tag i : Nat) (hi : i < 11) (ht : tag ≤ 9) (hti : tagInt tag = true) (hc : ∀ (e : En) (v : Int), (e.setN tag v).cells.toList = e.cells.toList.set i (.int .i64 v)) (R P A : Nat) (r : Rd) (e : En) (w : World) (hr : RdAt w R r) (hs : r.s.size ≤ 1152921504606846976) (hp : w.cell? ⟨P, 0, none⟩ = some (.pointer (some ⟨A, i, none⟩))) (hE : EnW w A e) (hRA : R ≠ A) (hPR : P ≠ R) (hPA : P ≠ A) :
    Calls Try.prog 104 #[.pointer (some ⟨R, 0, none⟩), .pointer (some ⟨P, 0, none⟩)] w fun x w' => x = .returned (.tuple #[]) ∧ RdAt w' R (takeF tag e r).2 ∧ EnW w' A (takeF tag e r).1 ∧ Keep (RA R A) w w' := by
  have HV := Pin.Aside.mk (rd_var R r w hr hs)
  have hlt := Rd.var_lt r
  have HT := Pin.Aside.mk (takeF_int ht hti e r)
  generalize r.var.1 = v at *
  generalize r.var.2 = r1 at *
  have HE := Pin.Aside.mk hE
  have HP := Pin.Aside.mk hp
  have HC := Pin.Aside.mk hc
  clear hr hE hp hc hs
  go_enter Try.func104, Try.ntmps104
  go_wp2_with fail
  refine HV.out.mono ?_
  rintro x w1 ⟨rfl, hr1, hk1⟩
  have HR := Pin.Aside.mk hr1
  have HK := Pin.Aside.mk (hk1.mono (T := RA R A) fun _ q => .inl q)
  replace HE := Pin.Aside.mk (HE.out.keep hk1 (fun q => hRA q.symm))
  have hp1 := hk1.cell HP.out (by exact hPR)
  clear hk1 hr1 HV HP
  obtain ⟨u, hu⟩ : ∃ u, w1.cell? ⟨A, i, none⟩ = some u := by
    have hlen : e.cells.toList.length = 11 := rfl
    obtain ⟨u, hu⟩ : ∃ u, e.cells.toList[i]? = some u := ⟨_, List.getElem?_eq_getElem (by omega)⟩
    have := HE.out.en.cell i hi u hu
    rw [Nat.zero_add] at this
    exact ⟨u, this⟩
  have hfi := HE.out.fr i
  have hways : v = 0 ∨ (0 < v ∧ v < 9223372036854775808) ∨ 9223372036854775808 ≤ v := by omega
  rcases hways with h | h | h
  · subst h
    replace HT : Pin.Aside (takeF tag e r = (e.setN tag 0, Rd.fail)) := Pin.Aside.mk (by rw [HT.out, if_pos (.inl rfl)]; rfl)
    have hks := (Keep.refl (fun k => k = A) w1).setCell (p := ⟨A, i, none⟩) (.inl rfl) (.int .i64 0)
    have HE2 := Pin.Aside.mk (HE.out.set (e' := e.setN tag 0) i hi (.int .i64 0) (HC.out e 0))
    have hp2 := hks.cell hp1 (by exact hPA)
    have hc2 : (w1.setCell ⟨A, i, none⟩ (.int .i64 0)).cell? ⟨A, i, none⟩ = some (.int .i64 0) := World.cell?_setCell_same _ _ _ hu
    have HR2 := Pin.Aside.mk (HR.out.keep hks (by exact hRA))
    have HK2 := Pin.Aside.mk (HK.out.trans (hks.mono (T := RA R A) fun _ q => .inr q))
    clear hks HR HK HE HC
    go_upto_region 2 with fail
    generalize w1.setCell ⟨A, i, none⟩ (.int .i64 0) = w2 at *
    clear hp1 hu hfi
    go_wp2_with fail
    refine (rd_fail R _ _ HR2.out).mono ?_
    rintro x w3 ⟨rfl, hr3, hk3⟩
    have HR3 := Pin.Aside.mk hr3
    have HE3 := Pin.Aside.mk (HE2.out.keep hk3 (fun q => hRA q.symm))
    have HK3 := Pin.Aside.mk (HK2.out.trans (hk3.mono (T := RA R A) fun _ q => .inl q))
    clear hr3 hk3
    go_wp2_with fail
    go_end0
    rw [HT.out]
    exact ⟨rfl, HR3.out, HE3.out, HK3.out⟩
  · obtain ⟨V, hV⟩ : ∃ V : Int, (v : Int) = V := ⟨_, rfl⟩
    have hw1 : IntKind.i64.wrap V = V := by rw [IntKind.wrap_i64]; omega
    have hw2 : IntKind.u64.wrap V = V := by rw [IntKind.wrap_u64]; omega
    replace HT : Pin.Aside (takeF tag e r = (e.setN tag V, r1)) := Pin.Aside.mk (by
      rw [HT.out, hV, hw1, if_neg (by omega)])
    rw [hV]
    have hV1 : 0 < V := by omega
    have hV0 : (V == 0) = false := by rw [beq_eq_false_iff_ne]; omega
    clear hV h hlt
    have hks := (Keep.refl (fun k => k = A) w1).setCell (p := ⟨A, i, none⟩) (.inl rfl) (.int .i64 V)
    have HE2 := Pin.Aside.mk (HE.out.set (e' := e.setN tag V) i hi (.int .i64 V) (HC.out e V))
    have hp2 := hks.cell hp1 (by exact hPA)
    have hc2 : (w1.setCell ⟨A, i, none⟩ (.int .i64 V)).cell? ⟨A, i, none⟩ = some (.int .i64 V) := World.cell?_setCell_same _ _ _ hu
    have HR2 := Pin.Aside.mk (HR.out.keep hks (by exact hRA))
    have HK2 := Pin.Aside.mk (HK.out.trans (hks.mono (T := RA R A) fun _ q => .inr q))
    clear hks HR HK HE HC
    go_upto_region 2 with fail
    generalize w1.setCell ⟨A, i, none⟩ (.int .i64 V) = w2 at *
    clear hp1 hu hfi
    go_wp2_with fail
    go_end0
    rw [HT.out]
    exact ⟨rfl, HR2.out, HE2.out, HK2.out⟩
  · obtain ⟨W, hW⟩ : ∃ W : Int, (v : Int) = W := ⟨_, rfl⟩
    obtain ⟨V, hV⟩ : ∃ V : Int, W - 18446744073709551616 = V := ⟨_, rfl⟩
    have hw1 : IntKind.i64.wrap W = V := by rw [IntKind.wrap_i64]; omega
    have hw2 : IntKind.u64.wrap V = W := by rw [IntKind.wrap_u64]; omega
    replace HT : Pin.Aside (takeF tag e r = (e.setN tag V, Rd.fail)) := Pin.Aside.mk (by
      rw [HT.out, hW, hw1, if_pos (.inr h)])
    rw [hW]
    have hV1 : V < 0 := by omega
    have hW0 : (W == 0) = false := by rw [beq_eq_false_iff_ne]; omega
    clear hV hW h hlt
    have hks := (Keep.refl (fun k => k = A) w1).setCell (p := ⟨A, i, none⟩) (.inl rfl) (.int .i64 V)
    have HE2 := Pin.Aside.mk (HE.out.set (e' := e.setN tag V) i hi (.int .i64 V) (HC.out e V))
    have hp2 := hks.cell hp1 (by exact hPA)
    have hc2 : (w1.setCell ⟨A, i, none⟩ (.int .i64 V)).cell? ⟨A, i, none⟩ = some (.int .i64 V) := World.cell?_setCell_same _ _ _ hu
    have HR2 := Pin.Aside.mk (HR.out.keep hks (by exact hRA))
    have HK2 := Pin.Aside.mk (HK.out.trans (hks.mono (T := RA R A) fun _ q => .inr q))
    clear hks HR HK HE HC
    go_upto_region 2 with fail
    generalize w1.setCell ⟨A, i, none⟩ (.int .i64 V) = w2 at *
    clear hp1 hu hfi
    go_wp2_with fail
    refine (rd_fail R _ _ HR2.out).mono ?_
    rintro x w3 ⟨rfl, hr3, hk3⟩
    have HR3 := Pin.Aside.mk hr3
    have HE3 := Pin.Aside.mk (HE2.out.keep hk3 (fun q => hRA q.symm))
    have HK3 := Pin.Aside.mk (HK2.out.trans (hk3.mono (T := RA R A) fun _ q => .inl q))
    clear hr3 hk3
    go_wp2_with fail
    go_end0
    rw [HT.out]
    exact ⟨rfl, HR3.out, HE3.out, HK3.out⟩
set_option maxHeartbeats 1600000 in
theorem sec_take_u64 (tag i : Nat) (hi : i < 11) (ht : tag ≤ 9) (hti : tagInt tag = false) (hc : ∀ (e : En) (v : Int), (e.setN tag v).cells.toList = e.cells.toList.set i (.int .u64 v)) (R P A : Nat) (r : Rd) (e : En) (w : World) (hr : RdAt w R r) (hs : r.s.size ≤ 1152921504606846976) (hp : w.cell? ⟨P, 0, none⟩ = some (.pointer (some ⟨A, i, none⟩))) (hE : EnW w A e) (hRA : R ≠ A) (hPR : P ≠ R) (hPA : P ≠ A) :
    Calls Try.prog 106 #[.pointer (some ⟨R, 0, none⟩), .pointer (some ⟨P, 0, none⟩)] w fun x w' => x = .returned (.tuple #[]) ∧ RdAt w' R (takeF tag e r).2 ∧ EnW w' A (takeF tag e r).1 ∧ Keep (RA R A) w w' := by
  have HV := Pin.Aside.mk (rd_var R r w hr hs)
  have hlt := Rd.var_lt r
  have HT := Pin.Aside.mk (takeF_u64 ht hti e r)
  generalize r.var.1 = v at *
  generalize r.var.2 = r1 at *
  have HE := Pin.Aside.mk hE
  have HP := Pin.Aside.mk hp
  have HC := Pin.Aside.mk hc
  clear hr hE hp hc hs
  go_enter Try.func106, Try.ntmps106
  go_wp2_with fail
  refine HV.out.mono ?_
  rintro x w1 ⟨rfl, hr1, hk1⟩
  have HR := Pin.Aside.mk hr1
  have HK := Pin.Aside.mk (hk1.mono (T := RA R A) fun _ q => .inl q)
  replace HE := Pin.Aside.mk (HE.out.keep hk1 (fun q => hRA q.symm))
  have hp1 := hk1.cell HP.out (by exact hPR)
  clear hk1 hr1 HV HP
  obtain ⟨u, hu⟩ : ∃ u, w1.cell? ⟨A, i, none⟩ = some u := by
    have hlen : e.cells.toList.length = 11 := rfl
    obtain ⟨u, hu⟩ : ∃ u, e.cells.toList[i]? = some u := ⟨_, List.getElem?_eq_getElem (by omega)⟩
    have := HE.out.en.cell i hi u hu
    rw [Nat.zero_add] at this
    exact ⟨u, this⟩
  have hfi := HE.out.fr i
  have hways : v = 0 ∨ 0 < v := by omega
  rcases hways with h | h
  · subst h
    replace HT : Pin.Aside (takeF tag e r = (e.setN tag 0, Rd.fail)) := Pin.Aside.mk (by rw [HT.out, if_pos rfl]; rfl)
    have hks := (Keep.refl (fun k => k = A) w1).setCell (p := ⟨A, i, none⟩) (.inl rfl) (.int .u64 0)
    have HE2 := Pin.Aside.mk (HE.out.set (e' := e.setN tag 0) i hi (.int .u64 0) (HC.out e 0))
    have hp2 := hks.cell hp1 (by exact hPA)
    have hc2 : (w1.setCell ⟨A, i, none⟩ (.int .u64 0)).cell? ⟨A, i, none⟩ = some (.int .u64 0) := World.cell?_setCell_same _ _ _ hu
    have HR2 := Pin.Aside.mk (HR.out.keep hks (by exact hRA))
    have HK2 := Pin.Aside.mk (HK.out.trans (hks.mono (T := RA R A) fun _ q => .inr q))
    clear hks HR HK HE HC
    go_upto_region 2 with fail
    generalize w1.setCell ⟨A, i, none⟩ (.int .u64 0) = w2 at *
    clear hp1 hu hfi
    go_wp2_with fail
    refine (rd_fail R _ _ HR2.out).mono ?_
    rintro x w3 ⟨rfl, hr3, hk3⟩
    have HR3 := Pin.Aside.mk hr3
    have HE3 := Pin.Aside.mk (HE2.out.keep hk3 (fun q => hRA q.symm))
    have HK3 := Pin.Aside.mk (HK2.out.trans (hk3.mono (T := RA R A) fun _ q => .inl q))
    clear hr3 hk3
    go_wp2_with fail
    go_end0
    rw [HT.out]
    exact ⟨rfl, HR3.out, HE3.out, HK3.out⟩
  · obtain ⟨V, hV⟩ : ∃ V : Int, (v : Int) = V := ⟨_, rfl⟩
    replace HT : Pin.Aside (takeF tag e r = (e.setN tag V, r1)) := Pin.Aside.mk (by
      rw [HT.out, hV, if_neg (by omega)])
    rw [hV]
    have hV1 : 0 < V := by omega
    have hV2 : ¬ V < 0 := by omega
    have hV0 : (V == 0) = false := by rw [beq_eq_false_iff_ne]; omega
    clear hV h hlt
    have hks := (Keep.refl (fun k => k = A) w1).setCell (p := ⟨A, i, none⟩) (.inl rfl) (.int .u64 V)
    have HE2 := Pin.Aside.mk (HE.out.set (e' := e.setN tag V) i hi (.int .u64 V) (HC.out e V))
    have hp2 := hks.cell hp1 (by exact hPA)
    have hc2 : (w1.setCell ⟨A, i, none⟩ (.int .u64 V)).cell? ⟨A, i, none⟩ = some (.int .u64 V) := World.cell?_setCell_same _ _ _ hu
    have HR2 := Pin.Aside.mk (HR.out.keep hks (by exact hRA))
    have HK2 := Pin.Aside.mk (HK.out.trans (hks.mono (T := RA R A) fun _ q => .inr q))
    clear hks HR HK HE HC
    go_upto_region 2 with fail
    generalize w1.setCell ⟨A, i, none⟩ (.int .u64 V) = w2 at *
    clear hp1 hu hfi
    go_wp2_with fail
    go_end0
    rw [HT.out]
    exact ⟨rfl, HR2.out, HE2.out, HK2.out⟩
set_option maxHeartbeats 1600000 in
theorem sec_take_text (tag i : Nat) (hi : i < 11) (ht : ¬ tag ≤ 9) (hc : ∀ (e : En) (v : ByteArray), (e.setT tag v).cells.toList = e.cells.toList.set i (.string v)) (R P A : Nat) (r : Rd) (e : En) (w : World) (hr : RdAt w R r) (hs : r.s.size ≤ 1152921504606846976) (hp : w.cell? ⟨P, 0, none⟩ = some (.pointer (some ⟨A, i, none⟩))) (hE : EnW w A e) (hRA : R ≠ A) (hPR : P ≠ R) (hPA : P ≠ A) :
    Calls Try.prog 109 #[.pointer (some ⟨R, 0, none⟩), .pointer (some ⟨P, 0, none⟩)] w fun x w' => x = .returned (.tuple #[]) ∧ RdAt w' R (takeF tag e r).2 ∧ EnW w' A (takeF tag e r).1 ∧ Keep (RA R A) w w' := by
  have HV := Pin.Aside.mk (fun W hW => rd_text R r W hW hs)
  have HT : Pin.Aside (takeF tag e r = (e.setT tag r.text.1, if r.text.1 = ⟨#[]⟩ then Rd.fail else r.text.2)) := Pin.Aside.mk (by unfold takeF; rw [if_neg ht])
  generalize r.text.1 = v at *
  generalize r.text.2 = r1 at *
  have HE := Pin.Aside.mk hE
  have HP := Pin.Aside.mk hp
  have HC := Pin.Aside.mk hc
  have HR := Pin.Aside.mk hr
  have hmf := run_makeFunc Try.prog
  clear hr hE hp hc hs
  go_enter Try.func109, Try.ntmps109
  go_upto_region 1 with fail
  have k0 : ∀ s' : KW (RA R A) w, s'.w.cell? ⟨P, 0, none⟩ = some (.pointer (some ⟨A, i, none⟩)) := fun s' => s'.keep.cell HP.out (by rintro (q | q) <;> (dsimp only at q; omega))
  refine wp_region_stay (S := fun w' => ∃ s' : KW (RA R A) w, w' = s'.w) 2 (by kernel_rfl) (by simp) (by kernel_rfl) (by kernel_rfl) ⟨⟨w.drew, (Keep.refl _ w).drew⟩, rfl⟩ ?_
  simp only [List.take_succ_cons, List.take_zero]
  refine wpStay_quietS 2 _ _ (by kernel_rfl) ?_
  simp only [List.take_succ_cons, List.take_zero, List.drop_succ_cons, List.drop_zero]
  repeat (go_big_quiet_step (fail))
  refine wpQuiet_nil ?_
  refine wpStay_nil ?_
  clear k0
  refine wpAnyH_one 2 (by kernel_rfl) rfl (fun K' hK' => ?_)
  go_simp
  refine (HV.out _ (HR.out.keep ((Keep.refl (fun _ => False) w).drew) id)).mono ?_
  rintro x w1 ⟨rfl, hr1, hk1⟩
  have hk : Keep (RA R A) w w1 := ((Keep.refl (RA R A) w).drew).trans (hk1.mono fun _ q => .inl q)
  have hk1' : Keep (fun k => k = R) w w1 := ((Keep.refl (fun k => k = R) w).drew).trans hk1
  have HR1 := Pin.Aside.mk hr1
  replace HE := Pin.Aside.mk (HE.out.keep hk1' (fun q => hRA q.symm))
  have hp1 := hk1'.cell HP.out (by exact hPR)
  clear hk1 hr1 hk1' HR HP HV
  obtain ⟨u, hu⟩ : ∃ u, w1.cell? ⟨A, i, none⟩ = some u := by
    have hlen : e.cells.toList.length = 11 := rfl
    obtain ⟨u, hu⟩ : ∃ u, e.cells.toList[i]? = some u := ⟨_, List.getElem?_eq_getElem (by omega)⟩
    have := HE.out.en.cell i hi u hu
    rw [Nat.zero_add] at this
    exact ⟨u, this⟩
  have hfi := HE.out.fr i
  refine hK'.out _ _ ⟨⟨w1, hk⟩, rfl⟩ (fun _ => ?_)
  clear hK' K'
  refine wpAnyH_more (g := 1) 3 1 (by simp) (by kernel_rfl) (by kernel_rfl) ⟨⟨w1, hk⟩, rfl⟩ ?_
  simp only [List.take_succ_cons, List.take_zero, List.drop_succ_cons, List.drop_zero]
  refine wpStay_call (.pointer (some ⟨A, i, none⟩)) (by rfl) (fun w' hw' => by unfold Oper.quietAt; go_simp) ?_
  go_simp
  refine wpStay_nil ?_
  have hks := (Keep.refl (fun k => k = A) w1).setCell (p := ⟨A, i, none⟩) (.inl rfl) (.string v)
  have HE2 := Pin.Aside.mk (HE.out.set (e' := e.setT tag v) i hi (.string v) (HC.out e v))
  have hp2 := hks.cell hp1 (by exact hPA)
  have hc2 : (w1.setCell ⟨A, i, none⟩ (.string v)).cell? ⟨A, i, none⟩ = some (.string v) := World.cell?_setCell_same _ _ _ hu
  have HR2 := Pin.Aside.mk (HR1.out.keep hks (by exact hRA))
  have hk2 := hk.trans (hks.mono (T := RA R A) fun _ q => .inr q)
  refine wpAnyH_one 4 (by kernel_rfl) rfl (fun K' hK' => ?_)
  go_simp
  clear hks HR1 HE HC
  refine hK'.out _ _ ⟨⟨_, hk2⟩, rfl⟩ (fun _ => ?_)
  clear hK' K'
  generalize w1.setCell ⟨A, i, none⟩ (.string v) = w2 at *
  clear hp1 hu hfi hk
  refine wpAnyH_done (by kernel_rfl) (NoPanic.normal ?_) _
  have hse := str_beq
  by_cases hv : v = ⟨#[]⟩
  · subst hv
    replace HT : Pin.Aside (takeF tag e r = (e.setT tag ⟨#[]⟩, Rd.fail)) := Pin.Aside.mk (by rw [HT.out, if_pos rfl])
    go_wp2_with fail
    refine (rd_fail R _ _ HR2.out).mono ?_
    rintro x w3 ⟨rfl, hr3, hk3⟩
    have HR3 := Pin.Aside.mk hr3
    have HE3 := Pin.Aside.mk (HE2.out.keep hk3 (fun q => hRA q.symm))
    have HK3 := Pin.Aside.mk (hk2.trans (hk3.mono (T := RA R A) fun _ q => .inl q))
    clear hr3 hk3 hk2
    go_wp2_with fail
    go_end0
    rw [HT.out]
    exact ⟨rfl, HR3.out, HE3.out, HK3.out⟩
  · replace HT : Pin.Aside (takeF tag e r = (e.setT tag v, r1)) := Pin.Aside.mk (by rw [HT.out, if_neg hv])
    have hv1 : ¬ v.toList = [] := by rw [← List.isEmpty_iff, ← text_eq]; simpa using hv
    have hv2 : v.toList.isEmpty = false := by rw [← text_eq]; exact decide_eq_false hv
    have HK2 := Pin.Aside.mk hk2
    clear hv hk2
    go_wp2_with fail
    go_end0
    rw [HT.out]
    exact ⟨rfl, HR2.out, HE2.out, HK2.out⟩
end Go.Proofs.Ythlmigbimeldbaa
