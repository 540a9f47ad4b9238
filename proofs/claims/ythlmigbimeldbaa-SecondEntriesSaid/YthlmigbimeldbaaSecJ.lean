/- second: get of an entry's fields, Get. -/
import Derived.Test.YthlmigbimeldbaaSecH
set_option maxRecDepth 16000
namespace Go.Pin
open Go.RowKit
set_option linter.unusedVariables false
set_option linter.unusedSimpArgs false
/-- The loop, a tag read. -/
def secGo (f last tag : Nat) (e : En) (r : Rd) : En × Rd :=
  if tag = 0 then (e, r) else if tag ≤ last ∨ 11 < tag then (e, Rd.fail) else getF f tag (takeF tag e r).1 (takeF tag e r).2
theorem getF_succ (f last : Nat) (e : En) (r : Rd) : getF (f + 1) last e r = secGo f last r.var.1 e r.var.2 := rfl
theorem Rd.text_le' (r : Rd) : r.text.2.s.size ≤ r.s.size := by
  unfold Rd.text
  split
  · exact Nat.zero_le _
  · exact Nat.le_trans (Rd.bytes_le _ _) (Rd.var_le r)
theorem takeF_le (tag : Nat) (e : En) (r : Rd) : (takeF tag e r).2.s.size ≤ r.s.size := by
  unfold takeF
  split
  · dsimp only
    split
    · exact Nat.zero_le _
    · exact Rd.var_le r
  · dsimp only
    split
    · exact Nat.zero_le _
    · exact Rd.text_le' r
end Go.Pin
namespace Go.Proofs.Ythlmigbimeldbaa
open Go.RowKit Go.Pin
set_option linter.unusedVariables false
set_option linter.unusedSimpArgs false
set_option maxHeartbeats 6400000 in
theorem sec_get (F A R : Nat) (P : Nat → Nat) (r0 : Rd) (e0 : En) (w : World) (hS : SecAt w F A P) (hE : EnW w A e0) (hR : RdAt w R r0) (hs0 : r0.s.size ≤ 1152921504606846976) (hRA : R ≠ A) (hP : ∀ j, j < 11 → P j ≠ R ∧ P j ≠ A) (hF : F ≠ R ∧ F ≠ A) :
    Calls Try.prog 66 #[.pointer (some ⟨R, 0, none⟩), .slice (some ⟨F, 0, none⟩) 11 11] w fun x w' => x = .returned (.tuple #[]) ∧ RdAt w' R (getF 12 0 e0 r0).2 ∧ EnW w' A (getF 12 0 e0 r0).1 ∧ Keep (RA R A) w w' := by
  have HV := Pin.Aside.mk (rd_var R r0 w hR hs0)
  have HG : Pin.Aside (getF 12 0 e0 r0 = secGo 11 0 r0.var.1 e0 r0.var.2) := Pin.Aside.mk (getF_succ 11 0 e0 r0)
  have hle := Rd.var_le r0
  have hlt := Rd.var_lt r0
  have HS := Pin.Aside.mk hS
  have HE := Pin.Aside.mk hE
  have HPn := Pin.Aside.mk hP
  have HFn := Pin.Aside.mk hF
  clear hS hE hR hP hF
  obtain ⟨E9, R9, hER⟩ : ∃ E9 R9, getF 12 0 e0 r0 = (E9, R9) := ⟨_, _, rfl⟩
  rw [hER] at HG ⊢
  clear hER
  obtain ⟨t0, ht0⟩ : ∃ t : Nat, r0.var.1 = t := ⟨_, rfl⟩
  obtain ⟨q0, hq0⟩ : ∃ q : Rd, r0.var.2 = q := ⟨_, rfl⟩
  rw [ht0] at HV HG hlt
  rw [hq0] at HV HG hle
  clear ht0 hq0
  go_enter Try.func66, Try.ntmps66
  go_wp2_with fail
  refine HV.out.mono ?_
  rintro x w1 ⟨rfl, hr1, hk1⟩
  have HR1 := Pin.Aside.mk hr1
  have HE1 := Pin.Aside.mk (HE.out.keep hk1 (fun q => hRA q.symm))
  have HK1 := Pin.Aside.mk (hk1.mono (T := RA R A) fun _ q => .inl q)
  clear hr1 hk1 HV HE
  go_wp2_with fail
  go_loopw [4, 5] (fun x4 x5 wr => ∃ (f last tag : Nat) (li ti : Int) (e : En) (r : Rd), x4 = .int .u64 li ∧ x5 = .int .u64 ti ∧ li = last ∧ ti = tag ∧ last ≤ 11 ∧ 11 ≤ f + last ∧ tag < 18446744073709551616 ∧ r.s.size ≤ 1152921504606846976 ∧ Pin.Aside (RdAt wr R r) ∧ Pin.Aside (EnW wr A e) ∧ Pin.Aside (Keep (RA R A) w wr) ∧ Pin.Aside ((E9, R9) = secGo f last tag e r)) (fun x4 _ _ => 12 - (intOf x4).toNat)
  case atStart => exact ⟨11, 0, t0, 0, t0, e0, q0, rfl, rfl, rfl, rfl, by omega, by omega, hlt, by omega, HR1, HE1, HK1, HG⟩
  case round =>
    clear HR1 HE1 HK1 HG hlt hle
    obtain ⟨f, last, tag, li, ti, e, r, rfl, rfl, hli, hti, hl11, hf11, htl, hrs, HR, HE, HK, HG⟩ := hrel
    rename_i wr
    by_cases h0 : tag = 0
    · subst h0
      obtain rfl : ti = 0 := by omega
      replace HG : Pin.Aside ((E9, R9) = (e, r)) := HG
      clear hti hli hf11
      go_wp2_with fail
      go_end0
      obtain ⟨g1, g2⟩ := Prod.mk.inj HG.out
      rw [g1, g2]
      exact ⟨rfl, HR.out, HE.out, HK.out⟩
    have hti0 : 0 < ti := by omega
    have hbad : ∀ (q : tag ≤ last ∨ 11 < tag), (E9, R9) = (e, Rd.fail) := fun q => by rw [HG.out]; unfold secGo; rw [if_neg h0, if_pos q]
    have HBad := Pin.Aside.mk hbad
    clear hbad
    by_cases h1 : tag ≤ last
    · have hc : ti ≤ li := by omega
      have HG2 := Pin.Aside.mk (HBad.out (.inl h1))
      clear hti hli h0 h1 hf11 htl
      go_wp2_with fail
      refine (rd_fail R _ _ HR.out).mono ?_
      rintro x w2 ⟨rfl, hr2, hk2⟩
      have HR2 := Pin.Aside.mk hr2
      have HE2 := Pin.Aside.mk (HE.out.keep hk2 (fun q => hRA q.symm))
      have HK2 := Pin.Aside.mk (HK.out.trans (hk2.mono (T := RA R A) fun _ q => .inl q))
      clear hr2 hk2
      go_wp2_with fail
      (try simp only [Exit.inBlock, Exit.then]); refine bodyPost_ret (results_none rfl _ _ _) rfl ?_
      obtain ⟨g1, g2⟩ := Prod.mk.inj HG2.out
      rw [g1, g2]
      exact ⟨rfl, HR2.out, HE2.out, HK2.out⟩
    have hc1 : ¬ ti ≤ li := by omega
    by_cases h2 : 11 < tag
    · have hc : 11 < ti := by omega
      have HG2 := Pin.Aside.mk (HBad.out (.inr h2))
      clear hti hli h0 h1 h2 hf11 htl
      go_wp2_with fail
      refine (rd_fail R _ _ HR.out).mono ?_
      rintro x w2 ⟨rfl, hr2, hk2⟩
      have HR2 := Pin.Aside.mk hr2
      have HE2 := Pin.Aside.mk (HE.out.keep hk2 (fun q => hRA q.symm))
      have HK2 := Pin.Aside.mk (HK.out.trans (hk2.mono (T := RA R A) fun _ q => .inl q))
      clear hr2 hk2
      go_wp2_with fail
      (try simp only [Exit.inBlock, Exit.then]); refine bodyPost_ret (results_none rfl _ _ _) rfl ?_
      obtain ⟨g1, g2⟩ := Prod.mk.inj HG2.out
      rw [g1, g2]
      exact ⟨rfl, HR2.out, HE2.out, HK2.out⟩
    have hc2 : ¬ 11 < ti := by omega
    obtain ⟨f', rfl⟩ : ∃ f', f = f' + 1 := ⟨f - 1, by omega⟩
    have HG3 : Pin.Aside ((E9, R9) = secGo f' tag (takeF tag e r).2.var.1 (takeF tag e r).1 (takeF tag e r).2.var.2) := Pin.Aside.mk (by
      rw [HG.out]
      conv => lhs; unfold secGo
      rw [if_neg h0, if_neg (by omega)]
      exact getF_succ _ _ _ _)
    have hS' := HS.out.keep HK.out (by rintro (q | q); exact HFn.out.1 q; exact HFn.out.2 q) (fun j hj => by rintro (q | q); exact (HPn.out j hj).1 q; exact (HPn.out j hj).2 q)
    have hts := takeF_le tag e r
    have hlast : last < tag := by omega
    clear HG HBad
    have hways : tag = 1 ∨ tag = 2 ∨ tag = 3 ∨ tag = 4 ∨ tag = 5 ∨ tag = 6 ∨ tag = 7 ∨ tag = 8 ∨ tag = 9 ∨ tag = 10 ∨ tag = 11 := by omega
    rcases hways with rfl | rfl | rfl | rfl | rfl | rfl | rfl | rfl | rfl | rfl | rfl
    · obtain rfl : ti = 1 := by omega
      have ca : wr.cell? ⟨F, 1, none⟩ = some (.func (.func 104) #[] #[.pointer (some ⟨P 0, 0, none⟩)]) := hS'.row 1 (by decide)
      have hbx := hS'.box 0 (by decide)
      have CC := Pin.Aside.mk (sec_take_int 1 2 (by decide) (by decide) (by rfl) (fun _ _ => rfl) R (P 0) A r e wr HR.out hrs hbx HE.out hRA (HPn.out 0 (by decide)).1 (HPn.out 0 (by decide)).2)
      have hlti : li < 1 := by omega
      have hfn : 11 ≤ f' + 1 := by omega
      clear hS' hbx hti hli h0 h1 h2 hf11 htl hlast hti0
      obtain ⟨e2, he2⟩ : ∃ x, (takeF 1 e r).1 = x := ⟨_, rfl⟩
      obtain ⟨r2, hr2⟩ : ∃ x, (takeF 1 e r).2 = x := ⟨_, rfl⟩
      rw [he2] at CC HG3
      rw [hr2] at CC HG3 hts
      clear he2 hr2 HE HR
      go_wp2_with fail
      refine CC.out.mono ?_
      rintro x w2 ⟨rfl, hr2, he2, hk2⟩
      have HV := Pin.Aside.mk (rd_var R r2 w2 hr2 (by omega))
      have HE2 := Pin.Aside.mk he2
      have HK2 := Pin.Aside.mk (HK.out.trans hk2)
      clear hr2 he2 hk2 ca CC HK
      have hle2 := Rd.var_le r2
      have hlt2 := Rd.var_lt r2
      obtain ⟨t2, ht2⟩ : ∃ t : Nat, r2.var.1 = t := ⟨_, rfl⟩
      obtain ⟨q2, hq2⟩ : ∃ q : Rd, r2.var.2 = q := ⟨_, rfl⟩
      rw [ht2] at HV HG3 hlt2
      rw [hq2] at HV HG3 hle2
      clear ht2 hq2
      go_wp2_with fail
      refine HV.out.mono ?_
      rintro x w3 ⟨rfl, hr3, hk3⟩
      have HR3 := Pin.Aside.mk hr3
      have HE3 := Pin.Aside.mk (HE2.out.keep hk3 (fun q => hRA q.symm))
      have HK3 := Pin.Aside.mk (HK2.out.trans (hk3.mono (T := RA R A) fun _ q => .inl q))
      clear hr3 hk3 HV HE2 HK2
      go_wp2_with fail
      go_roundw
      case rel => exact ⟨f', 1, t2, 1, t2, e2, q2, rfl, rfl, rfl, rfl, by decide, hfn, hlt2, by omega, HR3, HE3, HK3, HG3⟩
      case measure => simp [intOf]; omega
    · obtain rfl : ti = 2 := by omega
      have ca : wr.cell? ⟨F, 3, none⟩ = some (.func (.func 106) #[] #[.pointer (some ⟨P 1, 0, none⟩)]) := hS'.row 3 (by decide)
      have hbx := hS'.box 1 (by decide)
      have CC := Pin.Aside.mk (sec_take_u64 2 0 (by decide) (by decide) (by rfl) (fun _ _ => rfl) R (P 1) A r e wr HR.out hrs hbx HE.out hRA (HPn.out 1 (by decide)).1 (HPn.out 1 (by decide)).2)
      have hlti : li < 2 := by omega
      have hfn : 11 ≤ f' + 2 := by omega
      clear hS' hbx hti hli h0 h1 h2 hf11 htl hlast hti0
      obtain ⟨e2, he2⟩ : ∃ x, (takeF 2 e r).1 = x := ⟨_, rfl⟩
      obtain ⟨r2, hr2⟩ : ∃ x, (takeF 2 e r).2 = x := ⟨_, rfl⟩
      rw [he2] at CC HG3
      rw [hr2] at CC HG3 hts
      clear he2 hr2 HE HR
      go_wp2_with fail
      refine CC.out.mono ?_
      rintro x w2 ⟨rfl, hr2, he2, hk2⟩
      have HV := Pin.Aside.mk (rd_var R r2 w2 hr2 (by omega))
      have HE2 := Pin.Aside.mk he2
      have HK2 := Pin.Aside.mk (HK.out.trans hk2)
      clear hr2 he2 hk2 ca CC HK
      have hle2 := Rd.var_le r2
      have hlt2 := Rd.var_lt r2
      obtain ⟨t2, ht2⟩ : ∃ t : Nat, r2.var.1 = t := ⟨_, rfl⟩
      obtain ⟨q2, hq2⟩ : ∃ q : Rd, r2.var.2 = q := ⟨_, rfl⟩
      rw [ht2] at HV HG3 hlt2
      rw [hq2] at HV HG3 hle2
      clear ht2 hq2
      go_wp2_with fail
      refine HV.out.mono ?_
      rintro x w3 ⟨rfl, hr3, hk3⟩
      have HR3 := Pin.Aside.mk hr3
      have HE3 := Pin.Aside.mk (HE2.out.keep hk3 (fun q => hRA q.symm))
      have HK3 := Pin.Aside.mk (HK2.out.trans (hk3.mono (T := RA R A) fun _ q => .inl q))
      clear hr3 hk3 HV HE2 HK2
      go_wp2_with fail
      go_roundw
      case rel => exact ⟨f', 2, t2, 2, t2, e2, q2, rfl, rfl, rfl, rfl, by decide, hfn, hlt2, by omega, HR3, HE3, HK3, HG3⟩
      case measure => simp [intOf]; omega
    · obtain rfl : ti = 3 := by omega
      have ca : wr.cell? ⟨F, 5, none⟩ = some (.func (.func 106) #[] #[.pointer (some ⟨P 2, 0, none⟩)]) := hS'.row 5 (by decide)
      have hbx := hS'.box 2 (by decide)
      have CC := Pin.Aside.mk (sec_take_u64 3 1 (by decide) (by decide) (by rfl) (fun _ _ => rfl) R (P 2) A r e wr HR.out hrs hbx HE.out hRA (HPn.out 2 (by decide)).1 (HPn.out 2 (by decide)).2)
      have hlti : li < 3 := by omega
      have hfn : 11 ≤ f' + 3 := by omega
      clear hS' hbx hti hli h0 h1 h2 hf11 htl hlast hti0
      obtain ⟨e2, he2⟩ : ∃ x, (takeF 3 e r).1 = x := ⟨_, rfl⟩
      obtain ⟨r2, hr2⟩ : ∃ x, (takeF 3 e r).2 = x := ⟨_, rfl⟩
      rw [he2] at CC HG3
      rw [hr2] at CC HG3 hts
      clear he2 hr2 HE HR
      go_wp2_with fail
      refine CC.out.mono ?_
      rintro x w2 ⟨rfl, hr2, he2, hk2⟩
      have HV := Pin.Aside.mk (rd_var R r2 w2 hr2 (by omega))
      have HE2 := Pin.Aside.mk he2
      have HK2 := Pin.Aside.mk (HK.out.trans hk2)
      clear hr2 he2 hk2 ca CC HK
      have hle2 := Rd.var_le r2
      have hlt2 := Rd.var_lt r2
      obtain ⟨t2, ht2⟩ : ∃ t : Nat, r2.var.1 = t := ⟨_, rfl⟩
      obtain ⟨q2, hq2⟩ : ∃ q : Rd, r2.var.2 = q := ⟨_, rfl⟩
      rw [ht2] at HV HG3 hlt2
      rw [hq2] at HV HG3 hle2
      clear ht2 hq2
      go_wp2_with fail
      refine HV.out.mono ?_
      rintro x w3 ⟨rfl, hr3, hk3⟩
      have HR3 := Pin.Aside.mk hr3
      have HE3 := Pin.Aside.mk (HE2.out.keep hk3 (fun q => hRA q.symm))
      have HK3 := Pin.Aside.mk (HK2.out.trans (hk3.mono (T := RA R A) fun _ q => .inl q))
      clear hr3 hk3 HV HE2 HK2
      go_wp2_with fail
      go_roundw
      case rel => exact ⟨f', 3, t2, 3, t2, e2, q2, rfl, rfl, rfl, rfl, by decide, hfn, hlt2, by omega, HR3, HE3, HK3, HG3⟩
      case measure => simp [intOf]; omega
    · obtain rfl : ti = 4 := by omega
      have ca : wr.cell? ⟨F, 7, none⟩ = some (.func (.func 106) #[] #[.pointer (some ⟨P 3, 0, none⟩)]) := hS'.row 7 (by decide)
      have hbx := hS'.box 3 (by decide)
      have CC := Pin.Aside.mk (sec_take_u64 4 3 (by decide) (by decide) (by rfl) (fun _ _ => rfl) R (P 3) A r e wr HR.out hrs hbx HE.out hRA (HPn.out 3 (by decide)).1 (HPn.out 3 (by decide)).2)
      have hlti : li < 4 := by omega
      have hfn : 11 ≤ f' + 4 := by omega
      clear hS' hbx hti hli h0 h1 h2 hf11 htl hlast hti0
      obtain ⟨e2, he2⟩ : ∃ x, (takeF 4 e r).1 = x := ⟨_, rfl⟩
      obtain ⟨r2, hr2⟩ : ∃ x, (takeF 4 e r).2 = x := ⟨_, rfl⟩
      rw [he2] at CC HG3
      rw [hr2] at CC HG3 hts
      clear he2 hr2 HE HR
      go_wp2_with fail
      refine CC.out.mono ?_
      rintro x w2 ⟨rfl, hr2, he2, hk2⟩
      have HV := Pin.Aside.mk (rd_var R r2 w2 hr2 (by omega))
      have HE2 := Pin.Aside.mk he2
      have HK2 := Pin.Aside.mk (HK.out.trans hk2)
      clear hr2 he2 hk2 ca CC HK
      have hle2 := Rd.var_le r2
      have hlt2 := Rd.var_lt r2
      obtain ⟨t2, ht2⟩ : ∃ t : Nat, r2.var.1 = t := ⟨_, rfl⟩
      obtain ⟨q2, hq2⟩ : ∃ q : Rd, r2.var.2 = q := ⟨_, rfl⟩
      rw [ht2] at HV HG3 hlt2
      rw [hq2] at HV HG3 hle2
      clear ht2 hq2
      go_wp2_with fail
      refine HV.out.mono ?_
      rintro x w3 ⟨rfl, hr3, hk3⟩
      have HR3 := Pin.Aside.mk hr3
      have HE3 := Pin.Aside.mk (HE2.out.keep hk3 (fun q => hRA q.symm))
      have HK3 := Pin.Aside.mk (HK2.out.trans (hk3.mono (T := RA R A) fun _ q => .inl q))
      clear hr3 hk3 HV HE2 HK2
      go_wp2_with fail
      go_roundw
      case rel => exact ⟨f', 4, t2, 4, t2, e2, q2, rfl, rfl, rfl, rfl, by decide, hfn, hlt2, by omega, HR3, HE3, HK3, HG3⟩
      case measure => simp [intOf]; omega
    · obtain rfl : ti = 5 := by omega
      have ca : wr.cell? ⟨F, 9, none⟩ = some (.func (.func 106) #[] #[.pointer (some ⟨P 4, 0, none⟩)]) := hS'.row 9 (by decide)
      have hbx := hS'.box 4 (by decide)
      have CC := Pin.Aside.mk (sec_take_u64 5 4 (by decide) (by decide) (by rfl) (fun _ _ => rfl) R (P 4) A r e wr HR.out hrs hbx HE.out hRA (HPn.out 4 (by decide)).1 (HPn.out 4 (by decide)).2)
      have hlti : li < 5 := by omega
      have hfn : 11 ≤ f' + 5 := by omega
      clear hS' hbx hti hli h0 h1 h2 hf11 htl hlast hti0
      obtain ⟨e2, he2⟩ : ∃ x, (takeF 5 e r).1 = x := ⟨_, rfl⟩
      obtain ⟨r2, hr2⟩ : ∃ x, (takeF 5 e r).2 = x := ⟨_, rfl⟩
      rw [he2] at CC HG3
      rw [hr2] at CC HG3 hts
      clear he2 hr2 HE HR
      go_wp2_with fail
      refine CC.out.mono ?_
      rintro x w2 ⟨rfl, hr2, he2, hk2⟩
      have HV := Pin.Aside.mk (rd_var R r2 w2 hr2 (by omega))
      have HE2 := Pin.Aside.mk he2
      have HK2 := Pin.Aside.mk (HK.out.trans hk2)
      clear hr2 he2 hk2 ca CC HK
      have hle2 := Rd.var_le r2
      have hlt2 := Rd.var_lt r2
      obtain ⟨t2, ht2⟩ : ∃ t : Nat, r2.var.1 = t := ⟨_, rfl⟩
      obtain ⟨q2, hq2⟩ : ∃ q : Rd, r2.var.2 = q := ⟨_, rfl⟩
      rw [ht2] at HV HG3 hlt2
      rw [hq2] at HV HG3 hle2
      clear ht2 hq2
      go_wp2_with fail
      refine HV.out.mono ?_
      rintro x w3 ⟨rfl, hr3, hk3⟩
      have HR3 := Pin.Aside.mk hr3
      have HE3 := Pin.Aside.mk (HE2.out.keep hk3 (fun q => hRA q.symm))
      have HK3 := Pin.Aside.mk (HK2.out.trans (hk3.mono (T := RA R A) fun _ q => .inl q))
      clear hr3 hk3 HV HE2 HK2
      go_wp2_with fail
      go_roundw
      case rel => exact ⟨f', 5, t2, 5, t2, e2, q2, rfl, rfl, rfl, rfl, by decide, hfn, hlt2, by omega, HR3, HE3, HK3, HG3⟩
      case measure => simp [intOf]; omega
    · obtain rfl : ti = 6 := by omega
      have ca : wr.cell? ⟨F, 11, none⟩ = some (.func (.func 106) #[] #[.pointer (some ⟨P 5, 0, none⟩)]) := hS'.row 11 (by decide)
      have hbx := hS'.box 5 (by decide)
      have CC := Pin.Aside.mk (sec_take_u64 6 5 (by decide) (by decide) (by rfl) (fun _ _ => rfl) R (P 5) A r e wr HR.out hrs hbx HE.out hRA (HPn.out 5 (by decide)).1 (HPn.out 5 (by decide)).2)
      have hlti : li < 6 := by omega
      have hfn : 11 ≤ f' + 6 := by omega
      clear hS' hbx hti hli h0 h1 h2 hf11 htl hlast hti0
      obtain ⟨e2, he2⟩ : ∃ x, (takeF 6 e r).1 = x := ⟨_, rfl⟩
      obtain ⟨r2, hr2⟩ : ∃ x, (takeF 6 e r).2 = x := ⟨_, rfl⟩
      rw [he2] at CC HG3
      rw [hr2] at CC HG3 hts
      clear he2 hr2 HE HR
      go_wp2_with fail
      refine CC.out.mono ?_
      rintro x w2 ⟨rfl, hr2, he2, hk2⟩
      have HV := Pin.Aside.mk (rd_var R r2 w2 hr2 (by omega))
      have HE2 := Pin.Aside.mk he2
      have HK2 := Pin.Aside.mk (HK.out.trans hk2)
      clear hr2 he2 hk2 ca CC HK
      have hle2 := Rd.var_le r2
      have hlt2 := Rd.var_lt r2
      obtain ⟨t2, ht2⟩ : ∃ t : Nat, r2.var.1 = t := ⟨_, rfl⟩
      obtain ⟨q2, hq2⟩ : ∃ q : Rd, r2.var.2 = q := ⟨_, rfl⟩
      rw [ht2] at HV HG3 hlt2
      rw [hq2] at HV HG3 hle2
      clear ht2 hq2
      go_wp2_with fail
      refine HV.out.mono ?_
      rintro x w3 ⟨rfl, hr3, hk3⟩
      have HR3 := Pin.Aside.mk hr3
      have HE3 := Pin.Aside.mk (HE2.out.keep hk3 (fun q => hRA q.symm))
      have HK3 := Pin.Aside.mk (HK2.out.trans (hk3.mono (T := RA R A) fun _ q => .inl q))
      clear hr3 hk3 HV HE2 HK2
      go_wp2_with fail
      go_roundw
      case rel => exact ⟨f', 6, t2, 6, t2, e2, q2, rfl, rfl, rfl, rfl, by decide, hfn, hlt2, by omega, HR3, HE3, HK3, HG3⟩
      case measure => simp [intOf]; omega
    · obtain rfl : ti = 7 := by omega
      have ca : wr.cell? ⟨F, 13, none⟩ = some (.func (.func 106) #[] #[.pointer (some ⟨P 6, 0, none⟩)]) := hS'.row 13 (by decide)
      have hbx := hS'.box 6 (by decide)
      have CC := Pin.Aside.mk (sec_take_u64 7 6 (by decide) (by decide) (by rfl) (fun _ _ => rfl) R (P 6) A r e wr HR.out hrs hbx HE.out hRA (HPn.out 6 (by decide)).1 (HPn.out 6 (by decide)).2)
      have hlti : li < 7 := by omega
      have hfn : 11 ≤ f' + 7 := by omega
      clear hS' hbx hti hli h0 h1 h2 hf11 htl hlast hti0
      obtain ⟨e2, he2⟩ : ∃ x, (takeF 7 e r).1 = x := ⟨_, rfl⟩
      obtain ⟨r2, hr2⟩ : ∃ x, (takeF 7 e r).2 = x := ⟨_, rfl⟩
      rw [he2] at CC HG3
      rw [hr2] at CC HG3 hts
      clear he2 hr2 HE HR
      go_wp2_with fail
      refine CC.out.mono ?_
      rintro x w2 ⟨rfl, hr2, he2, hk2⟩
      have HV := Pin.Aside.mk (rd_var R r2 w2 hr2 (by omega))
      have HE2 := Pin.Aside.mk he2
      have HK2 := Pin.Aside.mk (HK.out.trans hk2)
      clear hr2 he2 hk2 ca CC HK
      have hle2 := Rd.var_le r2
      have hlt2 := Rd.var_lt r2
      obtain ⟨t2, ht2⟩ : ∃ t : Nat, r2.var.1 = t := ⟨_, rfl⟩
      obtain ⟨q2, hq2⟩ : ∃ q : Rd, r2.var.2 = q := ⟨_, rfl⟩
      rw [ht2] at HV HG3 hlt2
      rw [hq2] at HV HG3 hle2
      clear ht2 hq2
      go_wp2_with fail
      refine HV.out.mono ?_
      rintro x w3 ⟨rfl, hr3, hk3⟩
      have HR3 := Pin.Aside.mk hr3
      have HE3 := Pin.Aside.mk (HE2.out.keep hk3 (fun q => hRA q.symm))
      have HK3 := Pin.Aside.mk (HK2.out.trans (hk3.mono (T := RA R A) fun _ q => .inl q))
      clear hr3 hk3 HV HE2 HK2
      go_wp2_with fail
      go_roundw
      case rel => exact ⟨f', 7, t2, 7, t2, e2, q2, rfl, rfl, rfl, rfl, by decide, hfn, hlt2, by omega, HR3, HE3, HK3, HG3⟩
      case measure => simp [intOf]; omega
    · obtain rfl : ti = 8 := by omega
      have ca : wr.cell? ⟨F, 15, none⟩ = some (.func (.func 104) #[] #[.pointer (some ⟨P 7, 0, none⟩)]) := hS'.row 15 (by decide)
      have hbx := hS'.box 7 (by decide)
      have CC := Pin.Aside.mk (sec_take_int 8 7 (by decide) (by decide) (by rfl) (fun _ _ => rfl) R (P 7) A r e wr HR.out hrs hbx HE.out hRA (HPn.out 7 (by decide)).1 (HPn.out 7 (by decide)).2)
      have hlti : li < 8 := by omega
      have hfn : 11 ≤ f' + 8 := by omega
      clear hS' hbx hti hli h0 h1 h2 hf11 htl hlast hti0
      obtain ⟨e2, he2⟩ : ∃ x, (takeF 8 e r).1 = x := ⟨_, rfl⟩
      obtain ⟨r2, hr2⟩ : ∃ x, (takeF 8 e r).2 = x := ⟨_, rfl⟩
      rw [he2] at CC HG3
      rw [hr2] at CC HG3 hts
      clear he2 hr2 HE HR
      go_wp2_with fail
      refine CC.out.mono ?_
      rintro x w2 ⟨rfl, hr2, he2, hk2⟩
      have HV := Pin.Aside.mk (rd_var R r2 w2 hr2 (by omega))
      have HE2 := Pin.Aside.mk he2
      have HK2 := Pin.Aside.mk (HK.out.trans hk2)
      clear hr2 he2 hk2 ca CC HK
      have hle2 := Rd.var_le r2
      have hlt2 := Rd.var_lt r2
      obtain ⟨t2, ht2⟩ : ∃ t : Nat, r2.var.1 = t := ⟨_, rfl⟩
      obtain ⟨q2, hq2⟩ : ∃ q : Rd, r2.var.2 = q := ⟨_, rfl⟩
      rw [ht2] at HV HG3 hlt2
      rw [hq2] at HV HG3 hle2
      clear ht2 hq2
      go_wp2_with fail
      refine HV.out.mono ?_
      rintro x w3 ⟨rfl, hr3, hk3⟩
      have HR3 := Pin.Aside.mk hr3
      have HE3 := Pin.Aside.mk (HE2.out.keep hk3 (fun q => hRA q.symm))
      have HK3 := Pin.Aside.mk (HK2.out.trans (hk3.mono (T := RA R A) fun _ q => .inl q))
      clear hr3 hk3 HV HE2 HK2
      go_wp2_with fail
      go_roundw
      case rel => exact ⟨f', 8, t2, 8, t2, e2, q2, rfl, rfl, rfl, rfl, by decide, hfn, hlt2, by omega, HR3, HE3, HK3, HG3⟩
      case measure => simp [intOf]; omega
    · obtain rfl : ti = 9 := by omega
      have ca : wr.cell? ⟨F, 17, none⟩ = some (.func (.func 104) #[] #[.pointer (some ⟨P 8, 0, none⟩)]) := hS'.row 17 (by decide)
      have hbx := hS'.box 8 (by decide)
      have CC := Pin.Aside.mk (sec_take_int 9 8 (by decide) (by decide) (by rfl) (fun _ _ => rfl) R (P 8) A r e wr HR.out hrs hbx HE.out hRA (HPn.out 8 (by decide)).1 (HPn.out 8 (by decide)).2)
      have hlti : li < 9 := by omega
      have hfn : 11 ≤ f' + 9 := by omega
      clear hS' hbx hti hli h0 h1 h2 hf11 htl hlast hti0
      obtain ⟨e2, he2⟩ : ∃ x, (takeF 9 e r).1 = x := ⟨_, rfl⟩
      obtain ⟨r2, hr2⟩ : ∃ x, (takeF 9 e r).2 = x := ⟨_, rfl⟩
      rw [he2] at CC HG3
      rw [hr2] at CC HG3 hts
      clear he2 hr2 HE HR
      go_wp2_with fail
      refine CC.out.mono ?_
      rintro x w2 ⟨rfl, hr2, he2, hk2⟩
      have HV := Pin.Aside.mk (rd_var R r2 w2 hr2 (by omega))
      have HE2 := Pin.Aside.mk he2
      have HK2 := Pin.Aside.mk (HK.out.trans hk2)
      clear hr2 he2 hk2 ca CC HK
      have hle2 := Rd.var_le r2
      have hlt2 := Rd.var_lt r2
      obtain ⟨t2, ht2⟩ : ∃ t : Nat, r2.var.1 = t := ⟨_, rfl⟩
      obtain ⟨q2, hq2⟩ : ∃ q : Rd, r2.var.2 = q := ⟨_, rfl⟩
      rw [ht2] at HV HG3 hlt2
      rw [hq2] at HV HG3 hle2
      clear ht2 hq2
      go_wp2_with fail
      refine HV.out.mono ?_
      rintro x w3 ⟨rfl, hr3, hk3⟩
      have HR3 := Pin.Aside.mk hr3
      have HE3 := Pin.Aside.mk (HE2.out.keep hk3 (fun q => hRA q.symm))
      have HK3 := Pin.Aside.mk (HK2.out.trans (hk3.mono (T := RA R A) fun _ q => .inl q))
      clear hr3 hk3 HV HE2 HK2
      go_wp2_with fail
      go_roundw
      case rel => exact ⟨f', 9, t2, 9, t2, e2, q2, rfl, rfl, rfl, rfl, by decide, hfn, hlt2, by omega, HR3, HE3, HK3, HG3⟩
      case measure => simp [intOf]; omega
    · obtain rfl : ti = 10 := by omega
      have ca : wr.cell? ⟨F, 19, none⟩ = some (.func (.func 109) #[] #[.pointer (some ⟨P 9, 0, none⟩)]) := hS'.row 19 (by decide)
      have hbx := hS'.box 9 (by decide)
      have CC := Pin.Aside.mk (sec_take_text 10 9 (by decide) (by decide) (fun _ _ => rfl) R (P 9) A r e wr HR.out hrs hbx HE.out hRA (HPn.out 9 (by decide)).1 (HPn.out 9 (by decide)).2)
      have hlti : li < 10 := by omega
      have hfn : 11 ≤ f' + 10 := by omega
      clear hS' hbx hti hli h0 h1 h2 hf11 htl hlast hti0
      obtain ⟨e2, he2⟩ : ∃ x, (takeF 10 e r).1 = x := ⟨_, rfl⟩
      obtain ⟨r2, hr2⟩ : ∃ x, (takeF 10 e r).2 = x := ⟨_, rfl⟩
      rw [he2] at CC HG3
      rw [hr2] at CC HG3 hts
      clear he2 hr2 HE HR
      go_wp2_with fail
      refine CC.out.mono ?_
      rintro x w2 ⟨rfl, hr2, he2, hk2⟩
      have HV := Pin.Aside.mk (rd_var R r2 w2 hr2 (by omega))
      have HE2 := Pin.Aside.mk he2
      have HK2 := Pin.Aside.mk (HK.out.trans hk2)
      clear hr2 he2 hk2 ca CC HK
      have hle2 := Rd.var_le r2
      have hlt2 := Rd.var_lt r2
      obtain ⟨t2, ht2⟩ : ∃ t : Nat, r2.var.1 = t := ⟨_, rfl⟩
      obtain ⟨q2, hq2⟩ : ∃ q : Rd, r2.var.2 = q := ⟨_, rfl⟩
      rw [ht2] at HV HG3 hlt2
      rw [hq2] at HV HG3 hle2
      clear ht2 hq2
      go_wp2_with fail
      refine HV.out.mono ?_
      rintro x w3 ⟨rfl, hr3, hk3⟩
      have HR3 := Pin.Aside.mk hr3
      have HE3 := Pin.Aside.mk (HE2.out.keep hk3 (fun q => hRA q.symm))
      have HK3 := Pin.Aside.mk (HK2.out.trans (hk3.mono (T := RA R A) fun _ q => .inl q))
      clear hr3 hk3 HV HE2 HK2
      go_wp2_with fail
      go_roundw
      case rel => exact ⟨f', 10, t2, 10, t2, e2, q2, rfl, rfl, rfl, rfl, by decide, hfn, hlt2, by omega, HR3, HE3, HK3, HG3⟩
      case measure => simp [intOf]; omega
    · obtain rfl : ti = 11 := by omega
      have ca : wr.cell? ⟨F, 21, none⟩ = some (.func (.func 109) #[] #[.pointer (some ⟨P 10, 0, none⟩)]) := hS'.row 21 (by decide)
      have hbx := hS'.box 10 (by decide)
      have CC := Pin.Aside.mk (sec_take_text 11 10 (by decide) (by decide) (fun _ _ => rfl) R (P 10) A r e wr HR.out hrs hbx HE.out hRA (HPn.out 10 (by decide)).1 (HPn.out 10 (by decide)).2)
      have hlti : li < 11 := by omega
      have hfn : 11 ≤ f' + 11 := by omega
      clear hS' hbx hti hli h0 h1 h2 hf11 htl hlast hti0
      obtain ⟨e2, he2⟩ : ∃ x, (takeF 11 e r).1 = x := ⟨_, rfl⟩
      obtain ⟨r2, hr2⟩ : ∃ x, (takeF 11 e r).2 = x := ⟨_, rfl⟩
      rw [he2] at CC HG3
      rw [hr2] at CC HG3 hts
      clear he2 hr2 HE HR
      go_wp2_with fail
      refine CC.out.mono ?_
      rintro x w2 ⟨rfl, hr2, he2, hk2⟩
      have HV := Pin.Aside.mk (rd_var R r2 w2 hr2 (by omega))
      have HE2 := Pin.Aside.mk he2
      have HK2 := Pin.Aside.mk (HK.out.trans hk2)
      clear hr2 he2 hk2 ca CC HK
      have hle2 := Rd.var_le r2
      have hlt2 := Rd.var_lt r2
      obtain ⟨t2, ht2⟩ : ∃ t : Nat, r2.var.1 = t := ⟨_, rfl⟩
      obtain ⟨q2, hq2⟩ : ∃ q : Rd, r2.var.2 = q := ⟨_, rfl⟩
      rw [ht2] at HV HG3 hlt2
      rw [hq2] at HV HG3 hle2
      clear ht2 hq2
      go_wp2_with fail
      refine HV.out.mono ?_
      rintro x w3 ⟨rfl, hr3, hk3⟩
      have HR3 := Pin.Aside.mk hr3
      have HE3 := Pin.Aside.mk (HE2.out.keep hk3 (fun q => hRA q.symm))
      have HK3 := Pin.Aside.mk (HK2.out.trans (hk3.mono (T := RA R A) fun _ q => .inl q))
      clear hr3 hk3 HV HE2 HK2
      go_wp2_with fail
      go_roundw
      case rel => exact ⟨f', 11, t2, 11, t2, e2, q2, rfl, rfl, rfl, rfl, by decide, hfn, hlt2, by omega, HR3, HE3, HK3, HG3⟩
      case measure => simp [intOf]; omega
end Go.Proofs.Ythlmigbimeldbaa
