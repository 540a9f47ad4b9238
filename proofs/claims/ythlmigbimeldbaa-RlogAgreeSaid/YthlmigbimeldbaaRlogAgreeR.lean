/- RlogAgree: the row of the statement, out of its walk. -/
import Derived.Test.YthlmigbimeldbaaRows
import Derived.Test.YthlmigbimeldbaaRlogAgreeW
import Derived.ProofKit
import Derived.OpenShut
import Derived.ShutString
import Derived.ChangeOld
import Derived.SizedLaws
import Derived.Below
import Derived.Test.YthlmigbimeldbaaOpens
namespace Go.Proofs.Ythlmigbimeldbaa.rlogAgree
open Go.ChangeShapes Go.WideShapes Go.ChangeAt Go.RowKit Go.Pin
open Go.ChangeMaps (open_string shut_string)
set_option linter.unusedVariables false
set_option linter.unusedSimpArgs false

theorem own : ownKnob Try.prog.godebug = none := by kernel_rfl
theorem laidOut : laidOutB Try.prog = true := by kernel_rfl

set_option maxRecDepth 100000 in
theorem lifted (os : Os) (started : os.Started) (H : Type) (enc : TypeId × Value → H) :
    ReturnsInHanded {} Try.checked os 7 .any (Rows.rlogAgreeSpec.pre6 enc Try.prog Try.f7 Rows.rlogAgreeRow.domain false) (Rows.rlogAgreeSpec.post enc Try.prog Try.f7 false true false false) := by
  refine returnsInHanded_of_change_sized (C := Try.checked) own started (by kernel_rfl) Try.func7
    (ChangeSpec.witness6 (enc := enc) (C := Try.checked) false ⟨#[], #[.slice none 0 0, .slice none 0 0, .slice none 0 0, .int .u8 0, .int .u8 0], []⟩ 8 (by kernel_rfl) (by kernel_rfl) (by kernel_rfl) (by kernel_rfl)) ?_
  intro W base args ds gs before hval0 hW hcnd hsz0 _
  have hval : ∀ (j : Nat) t v, Try.f7.params[j]? = some t → args[j]? = some v → Value.okWide Try.prog W .any base t v := hval0
  have hsz : (DataW.weightsEach Try.prog (Try.f7.params.toList ++ Rows.rlogAgreeSpec.plain.varTypes Try.prog) (ds ++ gs)).all (· ≤ reachBytes) = true := hsz0
  have hW' := hW
  obtain ⟨p, q, hA0, hV, rfl, hfz, hnd⟩ := hW
  have hA : DataW.TrodAll enc Try.prog W 0 (fun _ => true) true Try.f7.params.toList args.toList ds p := hA0
  rw [Try.params7] at hA hval hsz
  obtain ⟨v0, vs0, d0, ds0, p0, q0, hargs, rfl, rfl, h0, r0⟩ := trodAll_cons hA
  obtain ⟨v1, vs1, d1, ds1, p1, q1, rfl, rfl, rfl, h1, r1⟩ := trodAll_cons r0
  obtain ⟨v2, vs2, d2, ds2, p2, q2, rfl, rfl, rfl, h2, r2⟩ := trodAll_cons r1
  obtain ⟨v3, vs3, d3, ds3, p3, q3, rfl, rfl, rfl, h3, r3⟩ := trodAll_cons r2
  obtain ⟨v4, vs4, d4, ds4, p4, q4, rfl, rfl, rfl, h4, r4⟩ := trodAll_cons r3
  obtain ⟨rfl, rfl, rfl⟩ := trodAll_nil r4
  obtain rfl : args = #[v0, v1, v2, v3, v4] := by cases args; simp_all
  obtain ⟨rfl, rfl⟩ := trodVars_none hV
  have k0 := h0
  have lt0 : ∀ x ∈ p0, x.block < W.heap.size := by obtain ⟨m, hm⟩ := k0; exact DataW.trod_lt m _ _ _ hm
  have k1 := h1
  have lt1 : ∀ x ∈ p1, x.block < W.heap.size := by obtain ⟨m, hm⟩ := k1; exact DataW.trod_lt m _ _ _ hm
  have k2 := h2
  have lt2 : ∀ x ∈ p2, x.block < W.heap.size := by obtain ⟨m, hm⟩ := k2; exact DataW.trod_lt m _ _ _ hm
  have k3 := h3
  have lt3 : ∀ x ∈ p3, x.block < W.heap.size := by obtain ⟨m, hm⟩ := k3; exact DataW.trod_lt m _ _ _ hm
  have k4 := h4
  have lt4 : ∀ x ∈ p4, x.block < W.heap.size := by obtain ⟨m, hm⟩ := k4; exact DataW.trod_lt m _ _ _ hm
  obtain ⟨a0, len0, cap0, rfl⟩ := okWide_slice Try.underlying22 (hval 0 22 v0 rfl rfl)
  have w0 : isSlice [isInt .u64, isInt .u64, isInt .i64, isInt .u64, isInt .u64, isInt .u64, isInt .u64, isInt .i64, isInt .i64, isStr, isStr, isBool] W (.slice a0 len0 cap0) := Opens.arg (t := 22) (OpensC.slice (ps := [isInt .u64, isInt .u64, isInt .i64, isInt .u64, isInt .u64, isInt .u64, isInt .u64, isInt .i64, isInt .i64, isStr, isStr, isBool]) Try.underlying22 (by kernel_rfl) (by decide) (OpensC.struct (pss := [[isInt .u64, isInt .u64, isInt .i64, isInt .u64, isInt .u64, isInt .u64, isInt .u64, isInt .i64, isInt .i64, isStr, isStr], [isBool]]) Try.underlying118 (by kernel_rfl) ⟨by kernel_rfl, fun j f qs hf hq => by
        match j, hf, hq with
        | 0, hf, hq => cases hf; cases hq; exact ⟨by kernel_rfl, by kernel_rfl, OpensC.struct (pss := [[isInt .u64], [isInt .u64], [isInt .i64], [isInt .u64], [isInt .u64], [isInt .u64], [isInt .u64], [isInt .i64], [isInt .i64], [isStr], [isStr]]) Try.underlying32 (by kernel_rfl) ⟨by kernel_rfl, fun j f qs hf hq => by
          match j, hf, hq with
          | 0, hf, hq => cases hf; cases hq; exact ⟨by kernel_rfl, by kernel_rfl, OpensC.one (Opens.int Try.underlying23)⟩
          | 1, hf, hq => cases hf; cases hq; exact ⟨by kernel_rfl, by kernel_rfl, OpensC.one (Opens.int Try.underlying23)⟩
          | 2, hf, hq => cases hf; cases hq; exact ⟨by kernel_rfl, by kernel_rfl, OpensC.one (Opens.int Try.underlying3)⟩
          | 3, hf, hq => cases hf; cases hq; exact ⟨by kernel_rfl, by kernel_rfl, OpensC.one (Opens.int Try.underlying23)⟩
          | 4, hf, hq => cases hf; cases hq; exact ⟨by kernel_rfl, by kernel_rfl, OpensC.one (Opens.int Try.underlying23)⟩
          | 5, hf, hq => cases hf; cases hq; exact ⟨by kernel_rfl, by kernel_rfl, OpensC.one (Opens.int Try.underlying23)⟩
          | 6, hf, hq => cases hf; cases hq; exact ⟨by kernel_rfl, by kernel_rfl, OpensC.one (Opens.int Try.underlying23)⟩
          | 7, hf, hq => cases hf; cases hq; exact ⟨by kernel_rfl, by kernel_rfl, OpensC.one (Opens.int Try.underlying3)⟩
          | 8, hf, hq => cases hf; cases hq; exact ⟨by kernel_rfl, by kernel_rfl, OpensC.one (Opens.int Try.underlying3)⟩
          | 9, hf, hq => cases hf; cases hq; exact ⟨by kernel_rfl, by kernel_rfl, OpensC.one (Opens.str Try.underlying9)⟩
          | 10, hf, hq => cases hf; cases hq; exact ⟨by kernel_rfl, by kernel_rfl, OpensC.one (Opens.str Try.underlying9)⟩
          | j + 11, hf, hq => simp at hq⟩⟩
        | 1, hf, hq => cases hf; cases hq; exact ⟨by kernel_rfl, by kernel_rfl, OpensC.one (Opens.bool Try.underlying4)⟩
        | j + 2, hf, hq => simp at hq⟩)) h0 rfl (fun n hn => by have := List.all_eq_true.1 hsz n (DataW.weights_mem_each (j := 0) (t := 22) rfl rfl n hn); simpa using this)
  obtain ⟨a1, len1, cap1, rfl⟩ := okWide_slice Try.underlying22 (hval 1 22 v1 rfl rfl)
  have w1 : isSlice [isInt .u64, isInt .u64, isInt .i64, isInt .u64, isInt .u64, isInt .u64, isInt .u64, isInt .i64, isInt .i64, isStr, isStr, isBool] W (.slice a1 len1 cap1) := Opens.arg (t := 22) (OpensC.slice (ps := [isInt .u64, isInt .u64, isInt .i64, isInt .u64, isInt .u64, isInt .u64, isInt .u64, isInt .i64, isInt .i64, isStr, isStr, isBool]) Try.underlying22 (by kernel_rfl) (by decide) (OpensC.struct (pss := [[isInt .u64, isInt .u64, isInt .i64, isInt .u64, isInt .u64, isInt .u64, isInt .u64, isInt .i64, isInt .i64, isStr, isStr], [isBool]]) Try.underlying118 (by kernel_rfl) ⟨by kernel_rfl, fun j f qs hf hq => by
        match j, hf, hq with
        | 0, hf, hq => cases hf; cases hq; exact ⟨by kernel_rfl, by kernel_rfl, OpensC.struct (pss := [[isInt .u64], [isInt .u64], [isInt .i64], [isInt .u64], [isInt .u64], [isInt .u64], [isInt .u64], [isInt .i64], [isInt .i64], [isStr], [isStr]]) Try.underlying32 (by kernel_rfl) ⟨by kernel_rfl, fun j f qs hf hq => by
          match j, hf, hq with
          | 0, hf, hq => cases hf; cases hq; exact ⟨by kernel_rfl, by kernel_rfl, OpensC.one (Opens.int Try.underlying23)⟩
          | 1, hf, hq => cases hf; cases hq; exact ⟨by kernel_rfl, by kernel_rfl, OpensC.one (Opens.int Try.underlying23)⟩
          | 2, hf, hq => cases hf; cases hq; exact ⟨by kernel_rfl, by kernel_rfl, OpensC.one (Opens.int Try.underlying3)⟩
          | 3, hf, hq => cases hf; cases hq; exact ⟨by kernel_rfl, by kernel_rfl, OpensC.one (Opens.int Try.underlying23)⟩
          | 4, hf, hq => cases hf; cases hq; exact ⟨by kernel_rfl, by kernel_rfl, OpensC.one (Opens.int Try.underlying23)⟩
          | 5, hf, hq => cases hf; cases hq; exact ⟨by kernel_rfl, by kernel_rfl, OpensC.one (Opens.int Try.underlying23)⟩
          | 6, hf, hq => cases hf; cases hq; exact ⟨by kernel_rfl, by kernel_rfl, OpensC.one (Opens.int Try.underlying23)⟩
          | 7, hf, hq => cases hf; cases hq; exact ⟨by kernel_rfl, by kernel_rfl, OpensC.one (Opens.int Try.underlying3)⟩
          | 8, hf, hq => cases hf; cases hq; exact ⟨by kernel_rfl, by kernel_rfl, OpensC.one (Opens.int Try.underlying3)⟩
          | 9, hf, hq => cases hf; cases hq; exact ⟨by kernel_rfl, by kernel_rfl, OpensC.one (Opens.str Try.underlying9)⟩
          | 10, hf, hq => cases hf; cases hq; exact ⟨by kernel_rfl, by kernel_rfl, OpensC.one (Opens.str Try.underlying9)⟩
          | j + 11, hf, hq => simp at hq⟩⟩
        | 1, hf, hq => cases hf; cases hq; exact ⟨by kernel_rfl, by kernel_rfl, OpensC.one (Opens.bool Try.underlying4)⟩
        | j + 2, hf, hq => simp at hq⟩)) h1 rfl (fun n hn => by have := List.all_eq_true.1 hsz n (DataW.weights_mem_each (j := 1) (t := 22) rfl rfl n hn); simpa using this)
  obtain ⟨a2, len2, cap2, rfl⟩ := okWide_slice Try.underlying22 (hval 2 22 v2 rfl rfl)
  have w2 : isSlice [isInt .u64, isInt .u64, isInt .i64, isInt .u64, isInt .u64, isInt .u64, isInt .u64, isInt .i64, isInt .i64, isStr, isStr, isBool] W (.slice a2 len2 cap2) := Opens.arg (t := 22) (OpensC.slice (ps := [isInt .u64, isInt .u64, isInt .i64, isInt .u64, isInt .u64, isInt .u64, isInt .u64, isInt .i64, isInt .i64, isStr, isStr, isBool]) Try.underlying22 (by kernel_rfl) (by decide) (OpensC.struct (pss := [[isInt .u64, isInt .u64, isInt .i64, isInt .u64, isInt .u64, isInt .u64, isInt .u64, isInt .i64, isInt .i64, isStr, isStr], [isBool]]) Try.underlying118 (by kernel_rfl) ⟨by kernel_rfl, fun j f qs hf hq => by
        match j, hf, hq with
        | 0, hf, hq => cases hf; cases hq; exact ⟨by kernel_rfl, by kernel_rfl, OpensC.struct (pss := [[isInt .u64], [isInt .u64], [isInt .i64], [isInt .u64], [isInt .u64], [isInt .u64], [isInt .u64], [isInt .i64], [isInt .i64], [isStr], [isStr]]) Try.underlying32 (by kernel_rfl) ⟨by kernel_rfl, fun j f qs hf hq => by
          match j, hf, hq with
          | 0, hf, hq => cases hf; cases hq; exact ⟨by kernel_rfl, by kernel_rfl, OpensC.one (Opens.int Try.underlying23)⟩
          | 1, hf, hq => cases hf; cases hq; exact ⟨by kernel_rfl, by kernel_rfl, OpensC.one (Opens.int Try.underlying23)⟩
          | 2, hf, hq => cases hf; cases hq; exact ⟨by kernel_rfl, by kernel_rfl, OpensC.one (Opens.int Try.underlying3)⟩
          | 3, hf, hq => cases hf; cases hq; exact ⟨by kernel_rfl, by kernel_rfl, OpensC.one (Opens.int Try.underlying23)⟩
          | 4, hf, hq => cases hf; cases hq; exact ⟨by kernel_rfl, by kernel_rfl, OpensC.one (Opens.int Try.underlying23)⟩
          | 5, hf, hq => cases hf; cases hq; exact ⟨by kernel_rfl, by kernel_rfl, OpensC.one (Opens.int Try.underlying23)⟩
          | 6, hf, hq => cases hf; cases hq; exact ⟨by kernel_rfl, by kernel_rfl, OpensC.one (Opens.int Try.underlying23)⟩
          | 7, hf, hq => cases hf; cases hq; exact ⟨by kernel_rfl, by kernel_rfl, OpensC.one (Opens.int Try.underlying3)⟩
          | 8, hf, hq => cases hf; cases hq; exact ⟨by kernel_rfl, by kernel_rfl, OpensC.one (Opens.int Try.underlying3)⟩
          | 9, hf, hq => cases hf; cases hq; exact ⟨by kernel_rfl, by kernel_rfl, OpensC.one (Opens.str Try.underlying9)⟩
          | 10, hf, hq => cases hf; cases hq; exact ⟨by kernel_rfl, by kernel_rfl, OpensC.one (Opens.str Try.underlying9)⟩
          | j + 11, hf, hq => simp at hq⟩⟩
        | 1, hf, hq => cases hf; cases hq; exact ⟨by kernel_rfl, by kernel_rfl, OpensC.one (Opens.bool Try.underlying4)⟩
        | j + 2, hf, hq => simp at hq⟩)) h2 rfl (fun n hn => by have := List.all_eq_true.1 hsz n (DataW.weights_mem_each (j := 2) (t := 22) rfl rfl n hn); simpa using this)
  obtain ⟨a3, rfl, rfl, rfl, w3⟩ := open_int Try.underlying5 (hval 3 5 v3 rfl rfl) h3
  obtain ⟨a4, rfl, rfl, rfl, w4⟩ := open_int Try.underlying5 (hval 4 5 v4 rfl rfl) h4
  clear hA0 hval0
  refine (rlogAgree_walk a0 len0 cap0 a1 len1 cap1 a2 len2 cap2 a3 a4 W w0 w1 w2 (bounds_u8 w3) (bounds_u8 w4)).mono fun e W' ⟨he, bel⟩ => ?_
  subst he
  exact ⟨_, rfl, _, _, _, [], _, [], hW', trodAll_mk1 (shut_bool Try.underlying4 _), (trodAll_cons_mk (Below.trod laidOut (by kernel_rfl) (of_decide_eq_true (by kernel_rfl)) k0 bel lt0) (trodAll_cons_mk (Below.trod laidOut (by kernel_rfl) (of_decide_eq_true (by kernel_rfl)) k1 bel lt1) (trodAll_cons_mk (Below.trod laidOut (by kernel_rfl) (of_decide_eq_true (by kernel_rfl)) k2 bel lt2) (trodAll_cons_mk (Below.trod laidOut (by kernel_rfl) (of_decide_eq_true (by kernel_rfl)) k3 bel lt3) (trodAll_cons_mk (Below.trod laidOut (by kernel_rfl) (of_decide_eq_true (by kernel_rfl)) k4 bel lt4) trodAll_mk0))))), rfl, bel.frame _, fun h => by cases h⟩

theorem over : Rows.rlogAgreeRow.holds Try.pinned (OpenSpec.ofChange Rows.rlogAgreeSpec) :=
  OpenClaim.holds_of_wide 7 Try.f7 rfl rfl rfl rfl rfl rfl rfl ⟨rfl, rfl, rfl, rfl, rfl⟩ rfl rfl rfl rfl rfl (by kernel_rfl) Try.func7 (by kernel_rfl)
    (of_decide_eq_true (by kernel_rfl)) (by unfold Func.isWrapper; first | (rw [if_pos (by decide +kernel)]; kernel_rfl) | (rw [if_neg (by decide +kernel)]; exact ⟨rfl, rfl⟩))
    (fun os started H enc _ => lifted os started H enc)

theorem proved : Rows.RlogAgreeSaid := over
#print axioms proved
end Go.Proofs.Ythlmigbimeldbaa.rlogAgree
