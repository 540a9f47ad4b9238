/- SlotsRight: the row of the statement, out of its walk. -/
import Derived.Test.YtpfkpaombiikcaaRows
import Derived.Test.YtpfkpaombiikcaaSlotsRightW
import Derived.ProofKit
import Derived.OpenShut
import Derived.ShutString
import Derived.ChangeOld
import Derived.SizedLaws
import Derived.Below
import Derived.Test.YtpfkpaombiikcaaOpens
namespace Go.Proofs.Ytpfkpaombiikcaa.slotsRight
open Go.ChangeShapes Go.WideShapes Go.ChangeAt Go.RowKit Go.Pin
open Go.ChangeMaps (open_string shut_string)
set_option linter.unusedVariables false
set_option linter.unusedSimpArgs false

theorem own : ownKnob Try.prog.godebug = none := by kernel_rfl
theorem laidOut : laidOutB Try.prog = true := by kernel_rfl

set_option maxRecDepth 100000 in
theorem lifted (os : Os) (started : os.Started) (H : Type) (enc : TypeId × Value → H) :
    ReturnsInHanded {} Try.checked os 3 .any (Rows.slotsRightSpec.pre6 enc Try.prog Try.f3 Rows.slotsRightRow.domain false) (Rows.slotsRightSpec.post enc Try.prog Try.f3 false true false false) := by
  refine returnsInHanded_of_change_sized (C := Try.checked) own started (by kernel_rfl) Try.func3
    (ChangeSpec.witness6 (enc := enc) (C := Try.checked) false ⟨#[], #[.agg #[.int .i64 0, .int .i64 0, .int .i64 0, .int .i64 0, .int .i64 0, .int .i64 0, .int .i64 0]], []⟩ 8 (by kernel_rfl) (by kernel_rfl) (by kernel_rfl) (by kernel_rfl)) ?_
  intro W base args ds gs before hval0 hW hcnd hsz0 _
  have hval : ∀ (j : Nat) t v, Try.f3.params[j]? = some t → args[j]? = some v → Value.okWide Try.prog W .any base t v := hval0
  have hsz : (DataW.weightsEach Try.prog (Try.f3.params.toList ++ Rows.slotsRightSpec.plain.varTypes Try.prog) (ds ++ gs)).all (· ≤ reachBytes) = true := hsz0
  have hW' := hW
  obtain ⟨p, q, hA0, hV, rfl, hfz, hnd⟩ := hW
  have hA : DataW.TrodAll enc Try.prog W 0 (fun _ => true) true Try.f3.params.toList args.toList ds p := hA0
  rw [Try.params3] at hA hval hsz
  obtain ⟨v0, vs0, d0, ds0, p0, q0, hargs, rfl, rfl, h0, r0⟩ := trodAll_cons hA
  obtain ⟨rfl, rfl, rfl⟩ := trodAll_nil r0
  obtain rfl : args = #[v0] := by cases args; simp_all
  obtain ⟨rfl, rfl⟩ := trodVars_none hV
  have k0 := h0
  have lt0 : ∀ x ∈ p0, x.block < W.heap.size := by obtain ⟨m, hm⟩ := k0; exact DataW.trod_lt m _ _ _ hm
  have o0 : OpensC Try.prog 23 [isInt .i64, isInt .i64, isInt .i64, isInt .i64, isInt .i64, isInt .i64, isInt .i64] := OpensC.struct (pss := [[isInt .i64], [isInt .i64], [isInt .i64], [isInt .i64], [isInt .i64], [isInt .i64], [isInt .i64]]) Try.underlying23 (by kernel_rfl) ⟨by kernel_rfl, fun j f qs hf hq => by
        match j, hf, hq with
        | 0, hf, hq => cases hf; cases hq; exact ⟨by kernel_rfl, by kernel_rfl, OpensC.one (Opens.int Try.underlying3)⟩
        | 1, hf, hq => cases hf; cases hq; exact ⟨by kernel_rfl, by kernel_rfl, OpensC.one (Opens.int Try.underlying3)⟩
        | 2, hf, hq => cases hf; cases hq; exact ⟨by kernel_rfl, by kernel_rfl, OpensC.one (Opens.int Try.underlying3)⟩
        | 3, hf, hq => cases hf; cases hq; exact ⟨by kernel_rfl, by kernel_rfl, OpensC.one (Opens.int Try.underlying3)⟩
        | 4, hf, hq => cases hf; cases hq; exact ⟨by kernel_rfl, by kernel_rfl, OpensC.one (Opens.int Try.underlying3)⟩
        | 5, hf, hq => cases hf; cases hq; exact ⟨by kernel_rfl, by kernel_rfl, OpensC.one (Opens.int Try.underlying3)⟩
        | 6, hf, hq => cases hf; cases hq; exact ⟨by kernel_rfl, by kernel_rfl, OpensC.one (Opens.int Try.underlying3)⟩
        | j + 7, hf, hq => simp at hq⟩
  obtain ⟨cs0, rfl, u0⟩ := OpensC.arg o0 Try.underlying23 (hval 0 23 v0 rfl rfl) h0 (fun n hn => by have := List.all_eq_true.1 hsz n (DataW.weights_mem_each (j := 0) (t := 23) rfl rfl n hn); simpa using this)
  obtain ⟨_, _, rfl, ⟨a0_0, rfl, ww0_0⟩, u0⟩ := u0
  obtain ⟨_, _, rfl, ⟨a0_1, rfl, ww0_1⟩, u0⟩ := u0
  obtain ⟨_, _, rfl, ⟨a0_2, rfl, ww0_2⟩, u0⟩ := u0
  obtain ⟨_, _, rfl, ⟨a0_3, rfl, ww0_3⟩, u0⟩ := u0
  obtain ⟨_, _, rfl, ⟨a0_4, rfl, ww0_4⟩, u0⟩ := u0
  obtain ⟨_, _, rfl, ⟨a0_5, rfl, ww0_5⟩, u0⟩ := u0
  obtain ⟨_, _, rfl, ⟨a0_6, rfl, ww0_6⟩, u0⟩ := u0
  obtain rfl := u0
  clear hA0 hval0
  refine (slotsRight_walk a0_0 a0_1 a0_2 a0_3 a0_4 a0_5 a0_6 (bounds_i64 ww0_0) (bounds_i64 ww0_1) (bounds_i64 ww0_2) (bounds_i64 ww0_3) (bounds_i64 ww0_4) (bounds_i64 ww0_5) (bounds_i64 ww0_6) W).mono fun e W' ⟨he, bel⟩ => ?_
  subst he
  exact ⟨_, rfl, _, _, _, [], _, [], hW', trodAll_mk1 (shut_bool Try.underlying4 _), (trodAll_cons_mk (Below.trod laidOut (by kernel_rfl) (of_decide_eq_true (by kernel_rfl)) k0 bel lt0) trodAll_mk0), rfl, bel.frame _, fun h => by cases h⟩

theorem over : Rows.slotsRightRow.holds Try.pinned (OpenSpec.ofChange Rows.slotsRightSpec) :=
  OpenClaim.holds_of_wide 3 Try.f3 rfl rfl rfl rfl rfl rfl rfl ⟨rfl, rfl, rfl, rfl, rfl⟩ rfl rfl rfl rfl rfl (by kernel_rfl) Try.func3 (by kernel_rfl)
    (of_decide_eq_true (by kernel_rfl)) (by unfold Func.isWrapper; first | (rw [if_pos (by decide +kernel)]; kernel_rfl) | (rw [if_neg (by decide +kernel)]; exact ⟨rfl, rfl⟩))
    (fun os started H enc _ => lifted os started H enc)

theorem proved : Rows.SlotsRightSaid := over
#print axioms proved
end Go.Proofs.Ytpfkpaombiikcaa.slotsRight
