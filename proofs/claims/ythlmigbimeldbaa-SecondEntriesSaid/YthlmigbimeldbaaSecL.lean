/- second: Get. -/
import Derived.Test.YthlmigbimeldbaaSecJ
set_option maxRecDepth 16000
namespace Go.Pin
open Go.RowKit
set_option linter.unusedVariables false
set_option linter.unusedSimpArgs false
theorem Keep.dropA {R A : Nat} {a b : World} (h : Keep (RA R A) a b) (hA : a.heap.size ≤ A) : Keep (fun k => k = R) a b :=
  ⟨h.os, h.tape, h.output, h.size, fun k hk hn => h.block k hk (by rintro (q | q); exact hn q; omega)⟩
end Go.Pin
namespace Go.Proofs.Ythlmigbimeldbaa
open Go.RowKit Go.Pin
set_option linter.unusedVariables false
set_option linter.unusedSimpArgs false
theorem setN_ok (e : En) (he : e.ok) (tag : Nat) (ht : tag ≤ 9) (v : Nat) (hv : v < 18446744073709551616) : (e.setN tag (tagVal tag v)).ok := by
  have hw : -9223372036854775808 ≤ IntKind.i64.wrap (v : Int) ∧ IntKind.i64.wrap (v : Int) ≤ 9223372036854775807 := by rw [IntKind.wrap_i64]; omega
  have hu : 0 ≤ (v : Int) ∧ (v : Int) ≤ 18446744073709551615 := by omega
  have hways : tag = 0 ∨ tag = 1 ∨ tag = 2 ∨ tag = 3 ∨ tag = 4 ∨ tag = 5 ∨ tag = 6 ∨ tag = 7 ∨ tag = 8 ∨ tag = 9 := by omega
  rcases hways with rfl | rfl | rfl | rfl | rfl | rfl | rfl | rfl | rfl | rfl
  · exact he
  · exact ⟨he.term, he.index, hw, he.client, he.seq, he.block, he.many, he.node, he.level, he.data, he.old⟩
  · exact ⟨hu, he.index, he.kind, he.client, he.seq, he.block, he.many, he.node, he.level, he.data, he.old⟩
  · exact ⟨he.term, hu, he.kind, he.client, he.seq, he.block, he.many, he.node, he.level, he.data, he.old⟩
  · exact ⟨he.term, he.index, he.kind, hu, he.seq, he.block, he.many, he.node, he.level, he.data, he.old⟩
  · exact ⟨he.term, he.index, he.kind, he.client, hu, he.block, he.many, he.node, he.level, he.data, he.old⟩
  · exact ⟨he.term, he.index, he.kind, he.client, he.seq, hu, he.many, he.node, he.level, he.data, he.old⟩
  · exact ⟨he.term, he.index, he.kind, he.client, he.seq, he.block, hu, he.node, he.level, he.data, he.old⟩
  · exact ⟨he.term, he.index, he.kind, he.client, he.seq, he.block, he.many, hw, he.level, he.data, he.old⟩
  · exact ⟨he.term, he.index, he.kind, he.client, he.seq, he.block, he.many, he.node, hw, he.data, he.old⟩
theorem setT_ok (e : En) (he : e.ok) (tag : Nat) (s : ByteArray) (hs : s.size ≤ 9223372036854775807) : (e.setT tag s).ok := by
  unfold En.setT
  split
  · exact ⟨he.term, he.index, he.kind, he.client, he.seq, he.block, he.many, he.node, he.level, hs, he.old⟩
  · exact ⟨he.term, he.index, he.kind, he.client, he.seq, he.block, he.many, he.node, he.level, he.data, hs⟩
theorem text_fst_le (r : Rd) (hs : r.s.size ≤ 1152921504606846976) : r.text.1.size ≤ 1152921504606846976 := by
  unfold Rd.text
  split
  · exact Nat.zero_le _
  · unfold Rd.bytes
    split
    · exact Nat.zero_le _
    · dsimp only
      rw [ByteArray.size_extract]
      have := Rd.var_le r
      omega
theorem takeF_ok (tag : Nat) (e : En) (he : e.ok) (r : Rd) (hs : r.s.size ≤ 1152921504606846976) : (takeF tag e r).1.ok := by
  unfold takeF
  split
  · exact setN_ok e he tag (by assumption) _ (Rd.var_lt r)
  · exact setT_ok e he tag _ (by have := text_fst_le r hs; omega)
theorem getF_ok : ∀ (f last : Nat) (e : En) (r : Rd), e.ok → r.s.size ≤ 1152921504606846976 → (getF f last e r).1.ok
  | 0, _, _, _, he, _ => he
  | f + 1, last, e, r, he, hs => by
    unfold getF
    have hv := Rd.var_le r
    split
    · exact he
    · split
      · exact he
      · exact getF_ok f _ _ _ (takeF_ok _ e he _ (by omega)) (by have := takeF_le r.var.1 e r.var.2; omega)
theorem zero_ok : En.zero.ok := ⟨⟨by decide, by decide⟩, ⟨by decide, by decide⟩, ⟨by decide, by decide⟩, ⟨by decide, by decide⟩, ⟨by decide, by decide⟩, ⟨by decide, by decide⟩, ⟨by decide, by decide⟩, ⟨by decide, by decide⟩, ⟨by decide, by decide⟩, by decide, by decide⟩
set_option maxHeartbeats 3200000 in
theorem sec_Get (R : Nat) (r0 : Rd) (w : World) (hR : RdAt w R r0) (hs0 : r0.s.size ≤ 1152921504606846976) :
    Calls Try.prog 36 #[.pointer (some ⟨R, 0, none⟩)] w fun x w' => x = .returned (.agg (secGet r0).1.cells) ∧ RdAt w' R (secGet r0).2 ∧ Keep (fun k => k = R) w w' := by
  have hRl := hR.lt
  have hk0 := (Keep.refl (fun _ => False) w).alloc (.cells En.zero.cells 32)
  have HE := Pin.Aside.mk (EnW.new w 32 En.zero)
  have HR := Pin.Aside.mk (hR.keep hk0 id)
  have HK : Pin.Aside (Keep (fun k => k = R) w (w.alloc (.cells En.zero.cells 32))) := Pin.Aside.mk (hk0.mono fun _ q => q.elim)
  clear hk0 hR
  have hok := getF_ok 12 0 En.zero r0 zero_ok hs0
  have HGet : Pin.Aside (secGet r0 = if (getF 12 0 En.zero r0).2.bad = false ∧ (getF 12 0 En.zero r0).1.right = true then ((getF 12 0 En.zero r0).1, (getF 12 0 En.zero r0).2) else (En.zero, Rd.fail)) := Pin.Aside.mk rfl
  have HF := Pin.Aside.mk (fun F A P w => sec_get F A R P r0 En.zero w)
  obtain ⟨e9, he9⟩ : ∃ x, (getF 12 0 En.zero r0).1 = x := ⟨_, rfl⟩
  obtain ⟨r9, hr9⟩ : ∃ x, (getF 12 0 En.zero r0).2 = x := ⟨_, rfl⟩
  rw [he9, hr9] at HGet HF
  rw [he9] at hok
  clear he9 hr9
  have HOk := Pin.Aside.mk (fun W => en_right e9 hok W)
  clear hok
  unfold En.cells at HOk
  unfold En.zero En.cells at HE HR HK
  dsimp only at HE HR HK
  go_enter Try.func36, Try.ntmps36
  go_upto_region 1 with fail
  generalize w.alloc (.cells #[.int .u64 0, .int .u64 0, .int .i64 0, .int .u64 0, .int .u64 0, .int .u64 0, .int .u64 0, .int .i64 0, .int .i64 0, .string ⟨#[]⟩, .string ⟨#[]⟩] 32) = w1 at *
  obtain ⟨A, hA⟩ : ∃ A, w.heap.size = A := ⟨_, rfl⟩
  rw [hA] at HE hRl
  try rw [hA]
  have HA := Pin.Aside.mk hA
  clear hA
  have hA1 : A < w1.heap.size := HE.out.lt
  go_wp2_with fail
  refine (sec_fields A _).mono ?_
  rintro x w2 ⟨F, P, rfl, hF, hP, hS, hb2⟩
  have hk2 : Keep (fun _ => False) w1 w2 := Keep.of_below hb2 fun _ q _ => q
  replace HE := Pin.Aside.mk (HE.out.keep hk2 id)
  replace HR := Pin.Aside.mk (HR.out.keep hk2 id)
  replace HK := Pin.Aside.mk (HK.out.trans (hk2.mono fun _ q => q.elim))
  have HC := Pin.Aside.mk (HF.out F A P w2 hS HE.out HR.out hs0 (by omega) (fun j hj => by have := hP j hj; omega) (by omega))
  clear hF hP hS hb2 hk2 HF HE HR
  go_wp2_with fail
  refine HC.out.mono ?_
  rintro x w3 ⟨rfl, hr3, he3, hk3⟩
  have HR := Pin.Aside.mk hr3
  have HE := Pin.Aside.mk he3
  have HK3 : Pin.Aside (Keep (RA R A) w w3) := Pin.Aside.mk ((HK.out.mono fun _ q => .inl q).trans hk3)
  clear hr3 he3 hk3 HC HK
  go_wp2_with fail
  refine (rd_ok R _ _ HR.out).mono ?_
  rintro x w4 ⟨rfl, rfl⟩
  obtain ⟨c0, c1, c2, c3, c4, c5, c6, c7, c8, c9, c10⟩ := HE.out.cells
  have hfr := HE.out.fr
  have f0 := hfr 0
  have f1 := hfr 1
  have f2 := hfr 2
  have f3 := hfr 3
  have f4 := hfr 4
  have f5 := hfr 5
  have f6 := hfr 6
  have f7 := hfr 7
  have f8 := hfr 8
  have f9 := hfr 9
  have f10 := hfr 10
  clear hfr
  by_cases hbad : r9.bad = true
  · have HG : Pin.Aside (secGet r0 = (En.zero, Rd.fail)) := Pin.Aside.mk (by rw [HGet.out, if_neg]; rintro ⟨q, _⟩; rw [hbad] at q; cases q)
    rw [hbad]
    go_wp2_with fail
    refine (rd_fail R _ _ HR.out).mono ?_
    rintro x w5 ⟨rfl, hr5, hk5⟩
    have hAR : A ≠ R := by omega
    replace c0 := hk5.cell c0 (by exact hAR)
    have hz := HE.out.keep hk5 (by exact hAR)
    obtain ⟨d0, d1, d2, d3, d4, d5, d6, d7, d8, d9, d10⟩ := hz.cells
    have hfr := hz.fr
    clear f0 f1 f2 f3 f4 f5 f6 f7 f8 f9 f10 c0 c1 c2 c3 c4 c5 c6 c7 c8 c9 c10
    have f0 := hfr 0
    have f1 := hfr 1
    have f2 := hfr 2
    have f3 := hfr 3
    have f4 := hfr 4
    have f5 := hfr 5
    have f6 := hfr 6
    have f7 := hfr 7
    have f8 := hfr 8
    have f9 := hfr 9
    have f10 := hfr 10
    have HK5 := Pin.Aside.mk (HK3.out.trans (hk5.mono (T := RA R A) fun _ q => .inl q))
    have HR5 := Pin.Aside.mk hr5
    clear hfr hz hk5 hr5
    go_wp2_with fail
    rw [HG.out]
    have hk6 := (((((((((((HK5.out.setCell (p := ⟨A, 0, none⟩) (.inl (.inr rfl)) (.int .u64 0)).setCell (p := ⟨A, 1, none⟩) (.inl (.inr rfl)) (.int .u64 0)).setCell (p := ⟨A, 2, none⟩) (.inl (.inr rfl)) (.int .i64 0)).setCell (p := ⟨A, 3, none⟩) (.inl (.inr rfl)) (.int .u64 0)).setCell (p := ⟨A, 4, none⟩) (.inl (.inr rfl)) (.int .u64 0)).setCell (p := ⟨A, 5, none⟩) (.inl (.inr rfl)) (.int .u64 0)).setCell (p := ⟨A, 6, none⟩) (.inl (.inr rfl)) (.int .u64 0)).setCell (p := ⟨A, 7, none⟩) (.inl (.inr rfl)) (.int .i64 0)).setCell (p := ⟨A, 8, none⟩) (.inl (.inr rfl)) (.int .i64 0)).setCell (p := ⟨A, 9, none⟩) (.inl (.inr rfl)) (.string ⟨#[]⟩)).setCell (p := ⟨A, 10, none⟩) (.inl (.inr rfl)) (.string ⟨#[]⟩))
    refine bodyPost_ret (v := .agg #[.int .u64 0, .int .u64 0, .int .i64 0, .int .u64 0, .int .u64 0, .int .u64 0, .int .u64 0, .int .i64 0, .int .i64 0, .string ⟨#[]⟩, .string ⟨#[]⟩]) (by simp [results, Try.results36, go_sem, d0, d1, d2, d3, d4, d5, d6, d7, d8, d9, d10]) rfl ⟨rfl, ?_, hk6.dropA (by rw [HA.out]; exact Nat.le_refl _)⟩
    exact HR5.out.keep (S := fun k => k = A) (((((((((((((Keep.refl (fun k => k = A) w5).setCell (p := ⟨A, 0, none⟩) (.inl rfl) (.int .u64 0)).setCell (p := ⟨A, 1, none⟩) (.inl rfl) (.int .u64 0)).setCell (p := ⟨A, 2, none⟩) (.inl rfl) (.int .i64 0)).setCell (p := ⟨A, 3, none⟩) (.inl rfl) (.int .u64 0)).setCell (p := ⟨A, 4, none⟩) (.inl rfl) (.int .u64 0)).setCell (p := ⟨A, 5, none⟩) (.inl rfl) (.int .u64 0)).setCell (p := ⟨A, 6, none⟩) (.inl rfl) (.int .u64 0)).setCell (p := ⟨A, 7, none⟩) (.inl rfl) (.int .i64 0)).setCell (p := ⟨A, 8, none⟩) (.inl rfl) (.int .i64 0)).setCell (p := ⟨A, 9, none⟩) (.inl rfl) (.string ⟨#[]⟩)).setCell (p := ⟨A, 10, none⟩) (.inl rfl) (.string ⟨#[]⟩))) (fun q => hAR q.symm)
  · have hbf : r9.bad = false := by simpa using hbad
    clear hbad
    rw [hbf]
    by_cases hri : e9.right = true
    · have HG : Pin.Aside (secGet r0 = (e9, r9)) := Pin.Aside.mk (by rw [HGet.out, if_pos ⟨hbf, hri⟩])
      rw [hri] at HOk
      clear hri hbf
      go_wp2_with fail
      refine (HOk.out _).mono ?_
      rintro x w5 ⟨rfl, hb5⟩
      have hkk : Keep (fun _ => False) _ w5 := Keep.of_below hb5 fun _ q _ => q
      have hz := HE.out.keep hkk id
      obtain ⟨d0, d1, d2, d3, d4, d5, d6, d7, d8, d9, d10⟩ := hz.cells
      have hfr := hz.fr
      clear f0 f1 f2 f3 f4 f5 f6 f7 f8 f9 f10 c0 c1 c2 c3 c4 c5 c6 c7 c8 c9 c10
      have f0 := hfr 0
      have f1 := hfr 1
      have f2 := hfr 2
      have f3 := hfr 3
      have f4 := hfr 4
      have f5 := hfr 5
      have f6 := hfr 6
      have f7 := hfr 7
      have f8 := hfr 8
      have f9 := hfr 9
      have f10 := hfr 10
      have HK5 := Pin.Aside.mk (HK3.out.trans (hkk.mono (T := RA R A) fun _ q => q.elim))
      have HR5 := Pin.Aside.mk (HR.out.keep hkk id)
      clear hfr hz hkk hb5
      go_wp2_with fail
      rw [HG.out]
      have hk6 := (((((((((((HK5.out.setCell (p := ⟨A, 0, none⟩) (.inl (.inr rfl)) (.int .u64 e9.term)).setCell (p := ⟨A, 1, none⟩) (.inl (.inr rfl)) (.int .u64 e9.index)).setCell (p := ⟨A, 2, none⟩) (.inl (.inr rfl)) (.int .i64 e9.kind)).setCell (p := ⟨A, 3, none⟩) (.inl (.inr rfl)) (.int .u64 e9.client)).setCell (p := ⟨A, 4, none⟩) (.inl (.inr rfl)) (.int .u64 e9.seq)).setCell (p := ⟨A, 5, none⟩) (.inl (.inr rfl)) (.int .u64 e9.block)).setCell (p := ⟨A, 6, none⟩) (.inl (.inr rfl)) (.int .u64 e9.many)).setCell (p := ⟨A, 7, none⟩) (.inl (.inr rfl)) (.int .i64 e9.node)).setCell (p := ⟨A, 8, none⟩) (.inl (.inr rfl)) (.int .i64 e9.level)).setCell (p := ⟨A, 9, none⟩) (.inl (.inr rfl)) (.string e9.data)).setCell (p := ⟨A, 10, none⟩) (.inl (.inr rfl)) (.string e9.old))
      have hAR : A ≠ R := by omega
      refine bodyPost_ret (v := .agg #[.int .u64 e9.term, .int .u64 e9.index, .int .i64 e9.kind, .int .u64 e9.client, .int .u64 e9.seq, .int .u64 e9.block, .int .u64 e9.many, .int .i64 e9.node, .int .i64 e9.level, .string e9.data, .string e9.old]) (by simp [results, Try.results36, go_sem, d0, d1, d2, d3, d4, d5, d6, d7, d8, d9, d10]) rfl ⟨rfl, ?_, hk6.dropA (by rw [HA.out]; exact Nat.le_refl _)⟩
      exact HR5.out.keep (S := fun k => k = A) (((((((((((((Keep.refl (fun k => k = A) w5).setCell (p := ⟨A, 0, none⟩) (.inl rfl) (.int .u64 e9.term)).setCell (p := ⟨A, 1, none⟩) (.inl rfl) (.int .u64 e9.index)).setCell (p := ⟨A, 2, none⟩) (.inl rfl) (.int .i64 e9.kind)).setCell (p := ⟨A, 3, none⟩) (.inl rfl) (.int .u64 e9.client)).setCell (p := ⟨A, 4, none⟩) (.inl rfl) (.int .u64 e9.seq)).setCell (p := ⟨A, 5, none⟩) (.inl rfl) (.int .u64 e9.block)).setCell (p := ⟨A, 6, none⟩) (.inl rfl) (.int .u64 e9.many)).setCell (p := ⟨A, 7, none⟩) (.inl rfl) (.int .i64 e9.node)).setCell (p := ⟨A, 8, none⟩) (.inl rfl) (.int .i64 e9.level)).setCell (p := ⟨A, 9, none⟩) (.inl rfl) (.string e9.data)).setCell (p := ⟨A, 10, none⟩) (.inl rfl) (.string e9.old))) (fun q => hAR q.symm)
    · have hrf : e9.right = false := by simpa using hri
      have HG : Pin.Aside (secGet r0 = (En.zero, Rd.fail)) := Pin.Aside.mk (by rw [HGet.out, if_neg]; rintro ⟨_, q⟩; exact hri q)
      rw [hrf] at HOk
      clear hri hbf hrf
      go_wp2_with fail
      refine (HOk.out _).mono ?_
      rintro x w5 ⟨rfl, hb5⟩
      have hkk : Keep (fun _ => False) _ w5 := Keep.of_below hb5 fun _ q _ => q
      replace HE := Pin.Aside.mk (HE.out.keep hkk id)
      replace HK3 := Pin.Aside.mk (HK3.out.trans (hkk.mono (T := RA R A) fun _ q => q.elim))
      replace HR := Pin.Aside.mk (HR.out.keep hkk id)
      clear hkk hb5 f0 f1 f2 f3 f4 f5 f6 f7 f8 f9 f10 c0 c1 c2 c3 c4 c5 c6 c7 c8 c9 c10
      go_wp2_with fail
      refine (rd_fail R _ _ HR.out).mono ?_
      rintro x w6 ⟨rfl, hr6, hk6⟩
      have hAR : A ≠ R := by omega
      have hz := HE.out.keep hk6 (by exact hAR)
      obtain ⟨d0, d1, d2, d3, d4, d5, d6, d7, d8, d9, d10⟩ := hz.cells
      have hfr := hz.fr
      have f0 := hfr 0
      have f1 := hfr 1
      have f2 := hfr 2
      have f3 := hfr 3
      have f4 := hfr 4
      have f5 := hfr 5
      have f6 := hfr 6
      have f7 := hfr 7
      have f8 := hfr 8
      have f9 := hfr 9
      have f10 := hfr 10
      have HK5 := Pin.Aside.mk (HK3.out.trans (hk6.mono (T := RA R A) fun _ q => .inl q))
      have HR5 := Pin.Aside.mk hr6
      clear hfr hz hk6 hr6
      go_wp2_with fail
      rw [HG.out]
      have hk6 := (((((((((((HK5.out.setCell (p := ⟨A, 0, none⟩) (.inl (.inr rfl)) (.int .u64 0)).setCell (p := ⟨A, 1, none⟩) (.inl (.inr rfl)) (.int .u64 0)).setCell (p := ⟨A, 2, none⟩) (.inl (.inr rfl)) (.int .i64 0)).setCell (p := ⟨A, 3, none⟩) (.inl (.inr rfl)) (.int .u64 0)).setCell (p := ⟨A, 4, none⟩) (.inl (.inr rfl)) (.int .u64 0)).setCell (p := ⟨A, 5, none⟩) (.inl (.inr rfl)) (.int .u64 0)).setCell (p := ⟨A, 6, none⟩) (.inl (.inr rfl)) (.int .u64 0)).setCell (p := ⟨A, 7, none⟩) (.inl (.inr rfl)) (.int .i64 0)).setCell (p := ⟨A, 8, none⟩) (.inl (.inr rfl)) (.int .i64 0)).setCell (p := ⟨A, 9, none⟩) (.inl (.inr rfl)) (.string ⟨#[]⟩)).setCell (p := ⟨A, 10, none⟩) (.inl (.inr rfl)) (.string ⟨#[]⟩))
      refine bodyPost_ret (v := .agg #[.int .u64 0, .int .u64 0, .int .i64 0, .int .u64 0, .int .u64 0, .int .u64 0, .int .u64 0, .int .i64 0, .int .i64 0, .string ⟨#[]⟩, .string ⟨#[]⟩]) (by simp [results, Try.results36, go_sem, d0, d1, d2, d3, d4, d5, d6, d7, d8, d9, d10]) rfl ⟨rfl, ?_, hk6.dropA (by rw [HA.out]; exact Nat.le_refl _)⟩
      exact HR5.out.keep (S := fun k => k = A) (((((((((((((Keep.refl (fun k => k = A) w6).setCell (p := ⟨A, 0, none⟩) (.inl rfl) (.int .u64 0)).setCell (p := ⟨A, 1, none⟩) (.inl rfl) (.int .u64 0)).setCell (p := ⟨A, 2, none⟩) (.inl rfl) (.int .i64 0)).setCell (p := ⟨A, 3, none⟩) (.inl rfl) (.int .u64 0)).setCell (p := ⟨A, 4, none⟩) (.inl rfl) (.int .u64 0)).setCell (p := ⟨A, 5, none⟩) (.inl rfl) (.int .u64 0)).setCell (p := ⟨A, 6, none⟩) (.inl rfl) (.int .u64 0)).setCell (p := ⟨A, 7, none⟩) (.inl rfl) (.int .i64 0)).setCell (p := ⟨A, 8, none⟩) (.inl rfl) (.int .i64 0)).setCell (p := ⟨A, 9, none⟩) (.inl rfl) (.string ⟨#[]⟩)).setCell (p := ⟨A, 10, none⟩) (.inl rfl) (.string ⟨#[]⟩))) (fun q => hAR q.symm)
end Go.Proofs.Ythlmigbimeldbaa
