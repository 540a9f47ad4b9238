/- SecondShort: the row of the statement, out of its walk. -/
import Derived.Test.YthlmigbimeldbaaRows
import Derived.Test.YthlmigbimeldbaaSecondShortW
import Derived.ProofKit
import Derived.OpenShut
import Derived.ShutString
import Derived.ChangeOld
import Derived.SizedLaws
import Derived.Below
import Derived.Test.YthlmigbimeldbaaOpens
namespace Go.Proofs.Ythlmigbimeldbaa.secondShort
open Go.ChangeShapes Go.WideShapes Go.ChangeAt Go.RowKit Go.Pin
open Go.ChangeMaps (open_string shut_string)
set_option linter.unusedVariables false
set_option linter.unusedSimpArgs false

theorem own : ownKnob Try.prog.godebug = none := by kernel_rfl
theorem laidOut : laidOutB Try.prog = true := by kernel_rfl

set_option maxRecDepth 100000 in
theorem lifted (os : Os) (started : os.Started) (H : Type) (enc : TypeId × Value → H) :
    ReturnsInHanded {} Try.checked os 13 .any (Rows.secondShortSpec.pre6 enc Try.prog Try.f13 Rows.secondShortRow.domain false) (Rows.secondShortSpec.post enc Try.prog Try.f13 false true false false) := by
  refine returnsInHanded_of_change_sized (C := Try.checked) own started (by kernel_rfl) Try.func13
    (ChangeSpec.witness6 (enc := enc) (C := Try.checked) false ⟨#[], #[.agg #[.int .u64 0, .int .u64 0, .int .i64 0, .int .u64 0, .int .u64 0, .int .u64 0, .int .u64 0, .int .i64 0, .int .i64 0, .string ByteArray.empty, .string ByteArray.empty, .bool false], .int .u16 0], []⟩ 8 (by kernel_rfl) (by kernel_rfl) (by kernel_rfl) (by kernel_rfl)) ?_
  intro W base args ds gs before hval0 hW hcnd hsz0 _
  have hval : ∀ (j : Nat) t v, Try.f13.params[j]? = some t → args[j]? = some v → Value.okWide Try.prog W .any base t v := hval0
  have hsz : (DataW.weightsEach Try.prog (Try.f13.params.toList ++ Rows.secondShortSpec.plain.varTypes Try.prog) (ds ++ gs)).all (· ≤ reachBytes) = true := hsz0
  have hW' := hW
  obtain ⟨p, q, hA0, hV, rfl, hfz, hnd⟩ := hW
  have hA : DataW.TrodAll enc Try.prog W 0 (fun _ => true) true Try.f13.params.toList args.toList ds p := hA0
  rw [Try.params13] at hA hval hsz
  obtain ⟨v0, vs0, d0, ds0, p0, q0, hargs, rfl, rfl, h0, r0⟩ := trodAll_cons hA
  obtain ⟨v1, vs1, d1, ds1, p1, q1, rfl, rfl, rfl, h1, r1⟩ := trodAll_cons r0
  obtain ⟨rfl, rfl, rfl⟩ := trodAll_nil r1
  obtain rfl : args = #[v0, v1] := by cases args; simp_all
  obtain ⟨rfl, rfl⟩ := trodVars_none hV
  have k0 := h0
  have lt0 : ∀ x ∈ p0, x.block < W.heap.size := by obtain ⟨m, hm⟩ := k0; exact DataW.trod_lt m _ _ _ hm
  have k1 := h1
  have lt1 : ∀ x ∈ p1, x.block < W.heap.size := by obtain ⟨m, hm⟩ := k1; exact DataW.trod_lt m _ _ _ hm
  have o0 : OpensC Try.prog 56 [isInt .u64, isInt .u64, isInt .i64, isInt .u64, isInt .u64, isInt .u64, isInt .u64, isInt .i64, isInt .i64, isStr, isStr, isBool] := OpensC.struct (pss := [[isInt .u64, isInt .u64, isInt .i64, isInt .u64, isInt .u64, isInt .u64, isInt .u64, isInt .i64, isInt .i64, isStr, isStr], [isBool]]) Try.underlying56 (by kernel_rfl) ⟨by kernel_rfl, fun j f qs hf hq => by
        match j, hf, hq with
        | 0, hf, hq => cases hf; cases hq; exact ⟨by kernel_rfl, by kernel_rfl, OpensC.struct (pss := [[isInt .u64], [isInt .u64], [isInt .i64], [isInt .u64], [isInt .u64], [isInt .u64], [isInt .u64], [isInt .i64], [isInt .i64], [isStr], [isStr]]) Try.underlying32 (by kernel_rfl) ⟨by kernel_rfl, fun j f qs hf hq => by
          match j, hf, hq with
          | 0, hf, hq => cases hf; cases hq; exact ⟨by kernel_rfl, by kernel_rfl, OpensC.one (Opens.int Try.underlying23)⟩
          | 1, hf, hq => cases hf; cases hq; exact ⟨by kernel_rfl, by kernel_rfl, OpensC.one (Opens.int Try.underlying23)⟩
          | 2, hf, hq => cases hf; cases hq; exact ⟨by kernel_rfl, by kernel_rfl, OpensC.one (Opens.int Try.underlying3)⟩
          | 3, hf, hq => cases hf; cases hq; exact ⟨by kernel_rfl, by kernel_rfl, OpensC.one (Opens.int Try.underlying23)⟩
          | 4, hf, hq => cases hf; cases hq; exact ⟨by kernel_rfl, by kernel_rfl, OpensC.one (Opens.int Try.underlying23)⟩
          | 5, hf, hq => cases hf; cases hq; exact ⟨by kernel_rfl, by kernel_rfl, OpensC.one (Opens.int Try.underlying23)⟩
          | 6, hf, hq => cases hf; cases hq; exact ⟨by kernel_rfl, by kernel_rfl, OpensC.one (Opens.int Try.underlying23)⟩
          | 7, hf, hq => cases hf; cases hq; exact ⟨by kernel_rfl, by kernel_rfl, OpensC.one (Opens.int Try.underlying3)⟩
          | 8, hf, hq => cases hf; cases hq; exact ⟨by kernel_rfl, by kernel_rfl, OpensC.one (Opens.int Try.underlying3)⟩
          | 9, hf, hq => cases hf; cases hq; exact ⟨by kernel_rfl, by kernel_rfl, OpensC.one (Opens.str Try.underlying9)⟩
          | 10, hf, hq => cases hf; cases hq; exact ⟨by kernel_rfl, by kernel_rfl, OpensC.one (Opens.str Try.underlying9)⟩
          | j + 11, hf, hq => simp at hq⟩⟩
        | 1, hf, hq => cases hf; cases hq; exact ⟨by kernel_rfl, by kernel_rfl, OpensC.one (Opens.bool Try.underlying4)⟩
        | j + 2, hf, hq => simp at hq⟩
  obtain ⟨cs0, rfl, u0⟩ := OpensC.arg o0 Try.underlying56 (hval 0 56 v0 rfl rfl) h0 (fun n hn => by have := List.all_eq_true.1 hsz n (DataW.weights_mem_each (j := 0) (t := 56) rfl rfl n hn); simpa using this)
  obtain ⟨_, _, rfl, ⟨a0_0, rfl, ww0_0⟩, u0⟩ := u0
  obtain ⟨_, _, rfl, ⟨a0_1, rfl, ww0_1⟩, u0⟩ := u0
  obtain ⟨_, _, rfl, ⟨a0_2, rfl, ww0_2⟩, u0⟩ := u0
  obtain ⟨_, _, rfl, ⟨a0_3, rfl, ww0_3⟩, u0⟩ := u0
  obtain ⟨_, _, rfl, ⟨a0_4, rfl, ww0_4⟩, u0⟩ := u0
  obtain ⟨_, _, rfl, ⟨a0_5, rfl, ww0_5⟩, u0⟩ := u0
  obtain ⟨_, _, rfl, ⟨a0_6, rfl, ww0_6⟩, u0⟩ := u0
  obtain ⟨_, _, rfl, ⟨a0_7, rfl, ww0_7⟩, u0⟩ := u0
  obtain ⟨_, _, rfl, ⟨a0_8, rfl, ww0_8⟩, u0⟩ := u0
  obtain ⟨_, _, rfl, ⟨a0_9, rfl, ww0_9⟩, u0⟩ := u0
  obtain ⟨_, _, rfl, ⟨a0_10, rfl, ww0_10⟩, u0⟩ := u0
  obtain ⟨_, _, rfl, ⟨a0_11, rfl⟩, u0⟩ := u0
  obtain rfl := u0
  obtain ⟨a1, rfl, rfl, rfl, w1⟩ := open_int Try.underlying77 (hval 1 77 v1 rfl rfl) h1
  clear hA0 hval0
  refine (secondShort_walk a0_0 a0_1 a0_2 a0_3 a0_4 a0_5 a0_6 a0_7 a0_8 a0_9 a0_10 a0_11 a1 (bounds_u64 ww0_0) (bounds_u64 ww0_1) (bounds_i64 ww0_2) (bounds_u64 ww0_3) (bounds_u64 ww0_4) (bounds_u64 ww0_5) (bounds_u64 ww0_6) (bounds_i64 ww0_7) (bounds_i64 ww0_8) ww0_9 ww0_10 (bounds_u16 w1) W).mono fun e W' ⟨he, bel⟩ => ?_
  subst he
  exact ⟨_, rfl, _, _, _, [], _, [], hW', trodAll_mk1 (shut_bool Try.underlying4 _), (trodAll_cons_mk (Below.trod laidOut (by kernel_rfl) (of_decide_eq_true (by kernel_rfl)) k0 bel lt0) (trodAll_cons_mk (Below.trod laidOut (by kernel_rfl) (of_decide_eq_true (by kernel_rfl)) k1 bel lt1) trodAll_mk0)), rfl, bel.frame _, fun h => by cases h⟩

theorem over : Rows.secondShortRow.holds Try.pinned (OpenSpec.ofChange Rows.secondShortSpec) :=
  OpenClaim.holds_of_wide 13 Try.f13 rfl rfl rfl rfl rfl rfl rfl ⟨rfl, rfl, rfl, rfl, rfl⟩ rfl rfl rfl rfl rfl (by kernel_rfl) Try.func13 (by kernel_rfl)
    (of_decide_eq_true (by kernel_rfl)) (by unfold Func.isWrapper; first | (rw [if_pos (by decide +kernel)]; kernel_rfl) | (rw [if_neg (by decide +kernel)]; exact ⟨rfl, rfl⟩))
    (fun os started H enc _ => lifted os started H enc)

theorem proved : Rows.SecondShortSaid := over
#print axioms proved
end Go.Proofs.Ythlmigbimeldbaa.secondShort
