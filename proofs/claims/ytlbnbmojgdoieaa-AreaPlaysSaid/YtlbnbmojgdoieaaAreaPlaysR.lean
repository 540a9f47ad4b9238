/- AreaPlays: the row of the statement, out of its walk. -/
import Derived.Test.YtlbnbmojgdoieaaRows
import Derived.Test.YtlbnbmojgdoieaaAreaPlaysW
import Derived.ProofKit
import Derived.OpenShut
import Derived.ShutString
import Derived.ChangeOld
import Derived.SizedLaws
import Derived.Below
import Derived.Test.YtlbnbmojgdoieaaOpens
namespace Go.Proofs.Ytlbnbmojgdoieaa.areaPlays
open Go.ChangeShapes Go.WideShapes Go.ChangeAt Go.RowKit Go.Pin
open Go.ChangeMaps (open_string shut_string)
set_option linter.unusedVariables false
set_option linter.unusedSimpArgs false

theorem own : ownKnob Try.prog.godebug = none := by kernel_rfl
theorem laidOut : laidOutB Try.prog = true := by kernel_rfl

set_option maxRecDepth 100000 in
theorem lifted (os : Os) (started : os.Started) (H : Type) (enc : TypeId × Value → H) :
    ReturnsInHanded {} Try.checked os 13 .any (Rows.areaPlaysSpec.pre6 enc Try.prog Try.f13 Rows.areaPlaysRow.domain false) (Rows.areaPlaysSpec.post enc Try.prog Try.f13 false true false false) := by
  refine returnsInHanded_of_change_sized (C := Try.checked) own started (by kernel_rfl) Try.func13
    (ChangeSpec.witness6 (enc := enc) (C := Try.checked) false ⟨#[], #[.agg #[.int .i64 0, .int .i64 0, .int .i64 0], .agg #[.int .i64 0, .int .i64 0, .int .i64 0], .bool false, .agg #[.int .u64 0, .int .u64 0, .string ByteArray.empty], .agg #[.int .u64 0, .int .u64 0, .string ByteArray.empty], .int .i64 0, .slice none 0 0], []⟩ 8 (by kernel_rfl) (by kernel_rfl) (by kernel_rfl) (by kernel_rfl)) ?_
  intro W base args ds gs before hval0 hW hcnd hsz0 _
  have hval : ∀ (j : Nat) t v, Try.f13.params[j]? = some t → args[j]? = some v → Value.okWide Try.prog W .any base t v := hval0
  have hsz : (DataW.weightsEach Try.prog (Try.f13.params.toList ++ Rows.areaPlaysSpec.plain.varTypes Try.prog) (ds ++ gs)).all (· ≤ reachBytes) = true := hsz0
  have hW' := hW
  obtain ⟨p, q, hA0, hV, rfl, hfz, hnd⟩ := hW
  have hA : DataW.TrodAll enc Try.prog W 0 (fun _ => true) true Try.f13.params.toList args.toList ds p := hA0
  rw [Try.params13] at hA hval hsz
  obtain ⟨v0, vs0, d0, ds0, p0, q0, hargs, rfl, rfl, h0, r0⟩ := trodAll_cons hA
  obtain ⟨v1, vs1, d1, ds1, p1, q1, rfl, rfl, rfl, h1, r1⟩ := trodAll_cons r0
  obtain ⟨v2, vs2, d2, ds2, p2, q2, rfl, rfl, rfl, h2, r2⟩ := trodAll_cons r1
  obtain ⟨v3, vs3, d3, ds3, p3, q3, rfl, rfl, rfl, h3, r3⟩ := trodAll_cons r2
  obtain ⟨v4, vs4, d4, ds4, p4, q4, rfl, rfl, rfl, h4, r4⟩ := trodAll_cons r3
  obtain ⟨v5, vs5, d5, ds5, p5, q5, rfl, rfl, rfl, h5, r5⟩ := trodAll_cons r4
  obtain ⟨v6, vs6, d6, ds6, p6, q6, rfl, rfl, rfl, h6, r6⟩ := trodAll_cons r5
  obtain ⟨rfl, rfl, rfl⟩ := trodAll_nil r6
  obtain rfl : args = #[v0, v1, v2, v3, v4, v5, v6] := by cases args; simp_all
  obtain ⟨rfl, rfl⟩ := trodVars_none hV
  have k0 := h0
  have lt0 : ∀ x ∈ p0, x.block < W.heap.size := by obtain ⟨m, hm⟩ := k0; exact DataW.trod_lt m _ _ _ hm
  have k1 := h1
  have lt1 : ∀ x ∈ p1, x.block < W.heap.size := by obtain ⟨m, hm⟩ := k1; exact DataW.trod_lt m _ _ _ hm
  have k2 := h2
  have lt2 : ∀ x ∈ p2, x.block < W.heap.size := by obtain ⟨m, hm⟩ := k2; exact DataW.trod_lt m _ _ _ hm
  have k3 := h3
  have lt3 : ∀ x ∈ p3, x.block < W.heap.size := by obtain ⟨m, hm⟩ := k3; exact DataW.trod_lt m _ _ _ hm
  have k4 := h4
  have lt4 : ∀ x ∈ p4, x.block < W.heap.size := by obtain ⟨m, hm⟩ := k4; exact DataW.trod_lt m _ _ _ hm
  have k5 := h5
  have lt5 : ∀ x ∈ p5, x.block < W.heap.size := by obtain ⟨m, hm⟩ := k5; exact DataW.trod_lt m _ _ _ hm
  have k6 := h6
  have lt6 : ∀ x ∈ p6, x.block < W.heap.size := by obtain ⟨m, hm⟩ := k6; exact DataW.trod_lt m _ _ _ hm
  have o0 : OpensC Try.prog 82 [isInt .i64, isInt .i64, isInt .i64] := OpensC.struct (pss := [[isInt .i64], [isInt .i64], [isInt .i64]]) Try.underlying82 (by kernel_rfl) ⟨by kernel_rfl, fun j f qs hf hq => by
        match j, hf, hq with
        | 0, hf, hq => cases hf; cases hq; exact ⟨by kernel_rfl, by kernel_rfl, OpensC.one (Opens.int Try.underlying3)⟩
        | 1, hf, hq => cases hf; cases hq; exact ⟨by kernel_rfl, by kernel_rfl, OpensC.one (Opens.int Try.underlying3)⟩
        | 2, hf, hq => cases hf; cases hq; exact ⟨by kernel_rfl, by kernel_rfl, OpensC.one (Opens.int Try.underlying3)⟩
        | j + 3, hf, hq => simp at hq⟩
  obtain ⟨cs0, rfl, u0⟩ := OpensC.arg o0 Try.underlying82 (hval 0 82 v0 rfl rfl) h0 (fun n hn => by have := List.all_eq_true.1 hsz n (DataW.weights_mem_each (j := 0) (t := 82) rfl rfl n hn); simpa using this)
  obtain ⟨_, _, rfl, ⟨a0_0, rfl, ww0_0⟩, u0⟩ := u0
  obtain ⟨_, _, rfl, ⟨a0_1, rfl, ww0_1⟩, u0⟩ := u0
  obtain ⟨_, _, rfl, ⟨a0_2, rfl, ww0_2⟩, u0⟩ := u0
  obtain rfl := u0
  have o1 : OpensC Try.prog 82 [isInt .i64, isInt .i64, isInt .i64] := OpensC.struct (pss := [[isInt .i64], [isInt .i64], [isInt .i64]]) Try.underlying82 (by kernel_rfl) ⟨by kernel_rfl, fun j f qs hf hq => by
        match j, hf, hq with
        | 0, hf, hq => cases hf; cases hq; exact ⟨by kernel_rfl, by kernel_rfl, OpensC.one (Opens.int Try.underlying3)⟩
        | 1, hf, hq => cases hf; cases hq; exact ⟨by kernel_rfl, by kernel_rfl, OpensC.one (Opens.int Try.underlying3)⟩
        | 2, hf, hq => cases hf; cases hq; exact ⟨by kernel_rfl, by kernel_rfl, OpensC.one (Opens.int Try.underlying3)⟩
        | j + 3, hf, hq => simp at hq⟩
  obtain ⟨cs1, rfl, u1⟩ := OpensC.arg o1 Try.underlying82 (hval 1 82 v1 rfl rfl) h1 (fun n hn => by have := List.all_eq_true.1 hsz n (DataW.weights_mem_each (j := 1) (t := 82) rfl rfl n hn); simpa using this)
  obtain ⟨_, _, rfl, ⟨a1_0, rfl, ww1_0⟩, u1⟩ := u1
  obtain ⟨_, _, rfl, ⟨a1_1, rfl, ww1_1⟩, u1⟩ := u1
  obtain ⟨_, _, rfl, ⟨a1_2, rfl, ww1_2⟩, u1⟩ := u1
  obtain rfl := u1
  obtain ⟨a2, rfl, rfl, rfl⟩ := open_bool Try.underlying4 (hval 2 4 v2 rfl rfl) h2
  have o3 : OpensC Try.prog 61 [isInt .u64, isInt .u64, isStr] := OpensC.struct (pss := [[isInt .u64], [isInt .u64], [isStr]]) Try.underlying61 (by kernel_rfl) ⟨by kernel_rfl, fun j f qs hf hq => by
        match j, hf, hq with
        | 0, hf, hq => cases hf; cases hq; exact ⟨by kernel_rfl, by kernel_rfl, OpensC.one (Opens.int Try.underlying59)⟩
        | 1, hf, hq => cases hf; cases hq; exact ⟨by kernel_rfl, by kernel_rfl, OpensC.one (Opens.int Try.underlying59)⟩
        | 2, hf, hq => cases hf; cases hq; exact ⟨by kernel_rfl, by kernel_rfl, OpensC.one (Opens.str Try.underlying9)⟩
        | j + 3, hf, hq => simp at hq⟩
  obtain ⟨cs3, rfl, u3⟩ := OpensC.arg o3 Try.underlying61 (hval 3 61 v3 rfl rfl) h3 (fun n hn => by have := List.all_eq_true.1 hsz n (DataW.weights_mem_each (j := 3) (t := 61) rfl rfl n hn); simpa using this)
  obtain ⟨_, _, rfl, ⟨a3_0, rfl, ww3_0⟩, u3⟩ := u3
  obtain ⟨_, _, rfl, ⟨a3_1, rfl, ww3_1⟩, u3⟩ := u3
  obtain ⟨_, _, rfl, ⟨a3_2, rfl, ww3_2⟩, u3⟩ := u3
  obtain rfl := u3
  have o4 : OpensC Try.prog 61 [isInt .u64, isInt .u64, isStr] := OpensC.struct (pss := [[isInt .u64], [isInt .u64], [isStr]]) Try.underlying61 (by kernel_rfl) ⟨by kernel_rfl, fun j f qs hf hq => by
        match j, hf, hq with
        | 0, hf, hq => cases hf; cases hq; exact ⟨by kernel_rfl, by kernel_rfl, OpensC.one (Opens.int Try.underlying59)⟩
        | 1, hf, hq => cases hf; cases hq; exact ⟨by kernel_rfl, by kernel_rfl, OpensC.one (Opens.int Try.underlying59)⟩
        | 2, hf, hq => cases hf; cases hq; exact ⟨by kernel_rfl, by kernel_rfl, OpensC.one (Opens.str Try.underlying9)⟩
        | j + 3, hf, hq => simp at hq⟩
  obtain ⟨cs4, rfl, u4⟩ := OpensC.arg o4 Try.underlying61 (hval 4 61 v4 rfl rfl) h4 (fun n hn => by have := List.all_eq_true.1 hsz n (DataW.weights_mem_each (j := 4) (t := 61) rfl rfl n hn); simpa using this)
  obtain ⟨_, _, rfl, ⟨a4_0, rfl, ww4_0⟩, u4⟩ := u4
  obtain ⟨_, _, rfl, ⟨a4_1, rfl, ww4_1⟩, u4⟩ := u4
  obtain ⟨_, _, rfl, ⟨a4_2, rfl, ww4_2⟩, u4⟩ := u4
  obtain rfl := u4
  obtain ⟨a5, rfl, rfl, rfl, w5⟩ := open_int Try.underlying3 (hval 5 3 v5 rfl rfl) h5
  obtain ⟨a6, len6, cap6, rfl⟩ := okWide_slice Try.underlying30 (hval 6 30 v6 rfl rfl)
  have w6 : isSlice [isInt .i64] W (.slice a6 len6 cap6) := Opens.arg (t := 30) (OpensC.slice (ps := [isInt .i64]) Try.underlying30 (by kernel_rfl) (by decide) (OpensC.one (Opens.int Try.underlying3))) h6 rfl (fun n hn => by have := List.all_eq_true.1 hsz n (DataW.weights_mem_each (j := 6) (t := 30) rfl rfl n hn); simpa using this)
  clear hA0 hval0
  refine (areaPlays_walk a0_0 a0_1 a0_2 a1_0 a1_1 a1_2 a2 a3_0 a3_1 a3_2 a4_0 a4_1 a4_2 a5 a6 len6 cap6 W (bounds_i64 ww0_0) (bounds_i64 ww0_1) (bounds_i64 ww0_2) (bounds_i64 ww1_0) (bounds_i64 ww1_1) (bounds_i64 ww1_2) (bounds_u64 ww3_0) (bounds_u64 ww3_1) ww3_2 (bounds_u64 ww4_0) (bounds_u64 ww4_1) ww4_2 (bounds_i64 w5) w6).mono fun e W' ⟨he, bel⟩ => ?_
  subst he
  exact ⟨_, rfl, _, _, _, [], _, [], hW', trodAll_mk1 (shut_bool Try.underlying4 _), (trodAll_cons_mk (Below.trod laidOut (by kernel_rfl) (of_decide_eq_true (by kernel_rfl)) k0 bel lt0) (trodAll_cons_mk (Below.trod laidOut (by kernel_rfl) (of_decide_eq_true (by kernel_rfl)) k1 bel lt1) (trodAll_cons_mk (Below.trod laidOut (by kernel_rfl) (of_decide_eq_true (by kernel_rfl)) k2 bel lt2) (trodAll_cons_mk (Below.trod laidOut (by kernel_rfl) (of_decide_eq_true (by kernel_rfl)) k3 bel lt3) (trodAll_cons_mk (Below.trod laidOut (by kernel_rfl) (of_decide_eq_true (by kernel_rfl)) k4 bel lt4) (trodAll_cons_mk (Below.trod laidOut (by kernel_rfl) (of_decide_eq_true (by kernel_rfl)) k5 bel lt5) (trodAll_cons_mk (Below.trod laidOut (by kernel_rfl) (of_decide_eq_true (by kernel_rfl)) k6 bel lt6) trodAll_mk0))))))), rfl, bel.frame _, fun h => by cases h⟩

theorem over : Rows.areaPlaysRow.holds Try.pinned (OpenSpec.ofChange Rows.areaPlaysSpec) :=
  OpenClaim.holds_of_wide 13 Try.f13 rfl rfl rfl rfl rfl rfl rfl ⟨rfl, rfl, rfl, rfl, rfl⟩ rfl rfl rfl rfl rfl (by kernel_rfl) Try.func13 (by kernel_rfl)
    (of_decide_eq_true (by kernel_rfl)) (by unfold Func.isWrapper; first | (rw [if_pos (by decide +kernel)]; kernel_rfl) | (rw [if_neg (by decide +kernel)]; exact ⟨rfl, rfl⟩))
    (fun os started H enc _ => lifted os started H enc)

theorem proved : Rows.AreaPlaysSaid := over
#print axioms proved
end Go.Proofs.Ytlbnbmojgdoieaa.areaPlays
