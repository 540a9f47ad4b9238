/- VdiskOnce: the row of the statement, out of its walk. -/
import Derived.Test.YtpebpcmppcpkdaaDoorRows
import Derived.Test.YtpebpcmppcpkdaaDoorVdiskOnceW
import Derived.Test.YtpebpcmppcpkdaaDoorTie
import Derived.Test.YtpebpcmppcpkdaaDoorCards
import Derived.ProofKit
import Derived.LaidMore
import Derived.Lay
import Derived.SevenTiedAt
import Derived.Stop.Joined
import Derived.OpenShut
import Derived.ShutString
import Derived.ChangeOld
import Derived.SizedLaws
import Derived.Below
import Derived.Test.YtpebpcmppcpkdaaDoorOpens
namespace Go.Proofs.YtpebpcmppcpkdaaDoor.vdiskOnce
open Go.ChangeShapes Go.WideShapes Go.ChangeAt Go.RowKit Go.Pin
open Go.ChangeMaps (open_string shut_string)
set_option linter.unusedVariables false
set_option linter.unusedSimpArgs false

theorem own : ownKnob Tryd.prog.godebug = none := by kernel_rfl
theorem laidOut : laidOutB Tryd.prog = true := by kernel_rfl

set_option maxRecDepth 100000 in
theorem lifted (os : Os) (started : os.Started) (H : Type) (enc : TypeId × Value → H) :
    ReturnsInHanded {} Tryd.checked os 8 .any (fun w args => (Rows.vdiskOnceSpec.pre enc Tryd.prog Tryd.f8 Rows.vdiskOnceRow.domain false w args ∧ laidMetH Tryd.prog Rows.vdiskOnceRow.laid w) ∧ sizedMet enc Tryd.prog Tryd.f8 (OpenSpec.ofChange Rows.vdiskOnceSpec) false w args) (Rows.vdiskOnceSpec.post enc Tryd.prog Tryd.f8 false true false false) := by
  refine returnsInHanded_of_change_and (C := Tryd.checked) (X := fun w _ => laidMetH Tryd.prog Rows.vdiskOnceRow.laid w) (fun _ _ _ hh h => h.of_heap hh) own started (by kernel_rfl) Tryd.func8
    (ChangeSpec.witness_shaped (enc := enc) (C := Tryd.checked) (os := os) (X := fun w _ => laidMetH Tryd.prog Rows.vdiskOnceRow.laid w) false (World.laidAll Tryd.prog os Rows.vdiskOnceRow.laid) #[.agg #[.int .u64 0, .int .u64 0, .int .i64 0, .int .u64 0, .int .u64 0, .int .u64 0, .int .u64 0, .int .i64 0, .int .i64 0, .string ByteArray.empty, .string ByteArray.empty, .bool false], .string ByteArray.empty, .string ByteArray.empty] 8 (World.laidAll_os _ _ _)
      (World.shaped_of_ZipB (by kernel_rfl) (by kernel_rfl)) (by kernel_rfl) (by kernel_rfl) (by kernel_rfl)
      (by rw [MakeChecks.laidMetH_plain _ _ _ (by kernel_rfl)]; exact laidMet_laidAll _ (by kernel_rfl) (by kernel_rfl))) ?_
  intro W base args ds gs before hval0 hW hcnd hsz0 _ _
  have hval : ∀ (j : Nat) t v, Tryd.f8.params[j]? = some t → args[j]? = some v → Value.okWide Tryd.prog W .any base t v := hval0
  have hsz : (DataW.weightsEach Tryd.prog (Tryd.f8.params.toList ++ Rows.vdiskOnceSpec.plain.varTypes Tryd.prog) (ds ++ gs)).all (· ≤ reachBytes) = true := hsz0
  have hW' := hW
  obtain ⟨p, q, hA0, hV, rfl, hfz, hnd⟩ := hW
  have hA : DataW.TrodAll enc Tryd.prog W 0 (fun _ => true) true Tryd.f8.params.toList args.toList ds p := hA0
  rw [Tryd.params8] at hA hval hsz
  obtain ⟨v0, vs0, d0, ds0, p0, q0, hargs, rfl, rfl, h0, r0⟩ := trodAll_cons hA
  obtain ⟨v1, vs1, d1, ds1, p1, q1, rfl, rfl, rfl, h1, r1⟩ := trodAll_cons r0
  obtain ⟨v2, vs2, d2, ds2, p2, q2, rfl, rfl, rfl, h2, r2⟩ := trodAll_cons r1
  obtain ⟨rfl, rfl, rfl⟩ := trodAll_nil r2
  obtain rfl : args = #[v0, v1, v2] := by cases args; simp_all
  obtain ⟨rfl, rfl⟩ := trodVars_none hV
  have k0 := h0
  have lt0 : ∀ x ∈ p0, x.block < W.heap.size := by obtain ⟨m, hm⟩ := k0; exact DataW.trod_lt m _ _ _ hm
  have k1 := h1
  have lt1 : ∀ x ∈ p1, x.block < W.heap.size := by obtain ⟨m, hm⟩ := k1; exact DataW.trod_lt m _ _ _ hm
  have k2 := h2
  have lt2 : ∀ x ∈ p2, x.block < W.heap.size := by obtain ⟨m, hm⟩ := k2; exact DataW.trod_lt m _ _ _ hm
  have o0 : OpensC Tryd.prog 48 [isInt .u64, isInt .u64, isInt .i64, isInt .u64, isInt .u64, isInt .u64, isInt .u64, isInt .i64, isInt .i64, isStr, isStr, isBool] := OpensC.struct (pss := [[isInt .u64, isInt .u64, isInt .i64, isInt .u64, isInt .u64, isInt .u64, isInt .u64, isInt .i64, isInt .i64, isStr, isStr], [isBool]]) Tryd.underlying48 (by kernel_rfl) ⟨by kernel_rfl, fun j f qs hf hq => by
        match j, hf, hq with
        | 0, hf, hq => cases hf; cases hq; exact ⟨by kernel_rfl, by kernel_rfl, OpensC.struct (pss := [[isInt .u64], [isInt .u64], [isInt .i64], [isInt .u64], [isInt .u64], [isInt .u64], [isInt .u64], [isInt .i64], [isInt .i64], [isStr], [isStr]]) Tryd.underlying31 (by kernel_rfl) ⟨by kernel_rfl, fun j f qs hf hq => by
          match j, hf, hq with
          | 0, hf, hq => cases hf; cases hq; exact ⟨by kernel_rfl, by kernel_rfl, OpensC.one (Opens.int Tryd.underlying25)⟩
          | 1, hf, hq => cases hf; cases hq; exact ⟨by kernel_rfl, by kernel_rfl, OpensC.one (Opens.int Tryd.underlying25)⟩
          | 2, hf, hq => cases hf; cases hq; exact ⟨by kernel_rfl, by kernel_rfl, OpensC.one (Opens.int Tryd.underlying3)⟩
          | 3, hf, hq => cases hf; cases hq; exact ⟨by kernel_rfl, by kernel_rfl, OpensC.one (Opens.int Tryd.underlying25)⟩
          | 4, hf, hq => cases hf; cases hq; exact ⟨by kernel_rfl, by kernel_rfl, OpensC.one (Opens.int Tryd.underlying25)⟩
          | 5, hf, hq => cases hf; cases hq; exact ⟨by kernel_rfl, by kernel_rfl, OpensC.one (Opens.int Tryd.underlying25)⟩
          | 6, hf, hq => cases hf; cases hq; exact ⟨by kernel_rfl, by kernel_rfl, OpensC.one (Opens.int Tryd.underlying25)⟩
          | 7, hf, hq => cases hf; cases hq; exact ⟨by kernel_rfl, by kernel_rfl, OpensC.one (Opens.int Tryd.underlying3)⟩
          | 8, hf, hq => cases hf; cases hq; exact ⟨by kernel_rfl, by kernel_rfl, OpensC.one (Opens.int Tryd.underlying3)⟩
          | 9, hf, hq => cases hf; cases hq; exact ⟨by kernel_rfl, by kernel_rfl, OpensC.one (Opens.str Tryd.underlying9)⟩
          | 10, hf, hq => cases hf; cases hq; exact ⟨by kernel_rfl, by kernel_rfl, OpensC.one (Opens.str Tryd.underlying9)⟩
          | j + 11, hf, hq => simp at hq⟩⟩
        | 1, hf, hq => cases hf; cases hq; exact ⟨by kernel_rfl, by kernel_rfl, OpensC.one (Opens.bool Tryd.underlying4)⟩
        | j + 2, hf, hq => simp at hq⟩
  obtain ⟨cs0, rfl, u0⟩ := OpensC.arg o0 Tryd.underlying48 (hval 0 48 v0 rfl rfl) h0 (fun n hn => by have := List.all_eq_true.1 hsz n (DataW.weights_mem_each (j := 0) (t := 48) rfl rfl n hn); simpa using this)
  obtain ⟨_, _, rfl, ⟨a0_0, rfl, ww0_0⟩, u0⟩ := u0
  obtain ⟨_, _, rfl, ⟨a0_1, rfl, ww0_1⟩, u0⟩ := u0
  obtain ⟨_, _, rfl, ⟨a0_2, rfl, ww0_2⟩, u0⟩ := u0
  obtain ⟨_, _, rfl, ⟨a0_3, rfl, ww0_3⟩, u0⟩ := u0
  obtain ⟨_, _, rfl, ⟨a0_4, rfl, ww0_4⟩, u0⟩ := u0
  obtain ⟨_, _, rfl, ⟨a0_5, rfl, ww0_5⟩, u0⟩ := u0
  obtain ⟨_, _, rfl, ⟨a0_6, rfl, ww0_6⟩, u0⟩ := u0
  obtain ⟨_, _, rfl, ⟨a0_7, rfl, ww0_7⟩, u0⟩ := u0
  obtain ⟨_, _, rfl, ⟨a0_8, rfl, ww0_8⟩, u0⟩ := u0
  obtain ⟨_, _, rfl, ⟨a0_9, rfl, ww0_9⟩, u0⟩ := u0
  obtain ⟨_, _, rfl, ⟨a0_10, rfl, ww0_10⟩, u0⟩ := u0
  obtain ⟨_, _, rfl, ⟨a0_11, rfl⟩, u0⟩ := u0
  obtain rfl := u0
  obtain ⟨a1, rfl, rfl, rfl, w1⟩ := open_string Tryd.underlying9 (hval 1 9 v1 rfl rfl) h1
  have z1 : a1.size ≤ 140737488351232 := by have := sized_string hsz (j := 1) (t := 9) (bytes := a1.data.toList) rfl rfl; simpa [reachBytes] using this
  obtain ⟨a2, rfl, rfl, rfl, w2⟩ := open_string Tryd.underlying9 (hval 2 9 v2 rfl rfl) h2
  have z2 : a2.size ≤ 140737488351232 := by have := sized_string hsz (j := 2) (t := 9) (bytes := a2.data.toList) rfl rfl; simpa [reachBytes] using this
  clear hA0 hval0
  refine (vdiskOnce_walk a0_0 a0_1 a0_2 a0_3 a0_4 a0_5 a0_6 a0_7 a0_8 a0_9 a0_10 a0_11 a1 a2 (bounds_u64 ww0_0) (bounds_u64 ww0_1) (bounds_i64 ww0_2) (bounds_u64 ww0_3) (bounds_u64 ww0_4) (bounds_u64 ww0_5) (bounds_u64 ww0_6) (bounds_i64 ww0_7) (bounds_i64 ww0_8) ww0_9 ww0_10 z1 z2 W).mono fun e W' ⟨he, bel⟩ => ?_
  subst he
  exact ⟨_, rfl, _, _, _, [], _, [], hW', trodAll_mk1 (shut_bool Tryd.underlying4 _), (trodAll_cons_mk (Below.trod laidOut (by kernel_rfl) (of_decide_eq_true (by kernel_rfl)) k0 bel lt0) (trodAll_cons_mk (Below.trod laidOut (by kernel_rfl) (of_decide_eq_true (by kernel_rfl)) k1 bel lt1) (trodAll_cons_mk (Below.trod laidOut (by kernel_rfl) (of_decide_eq_true (by kernel_rfl)) k2 bel lt2) trodAll_mk0))), rfl, bel.frame _, fun h => by cases h⟩

theorem over : Rows.vdiskOnceRow.holds Tryd.pinned (OpenSpec.ofChange Rows.vdiskOnceSpec) :=
  OpenClaim.holds_of_wide 8 Tryd.f8 rfl rfl rfl rfl rfl rfl rfl ⟨rfl, rfl, rfl, rfl, rfl⟩ rfl rfl rfl rfl rfl (by kernel_rfl) Tryd.func8 (by kernel_rfl)
    (of_decide_eq_true (by kernel_rfl)) (by unfold Func.isWrapper; first | (rw [if_pos (by decide +kernel)]; kernel_rfl) | (rw [if_neg (by decide +kernel)]; exact ⟨rfl, rfl⟩))
    (fun os started H enc _ => lifted os started H enc)

theorem proved : Rows.VdiskOnceCardSaid :=
  Claim7.holds_tied_plain_at .later [] [.data, .pinned] true _ false over (fun _ h => by cases h) (by kernel_rfl) (fun _ h => by cases h) vdiskOnce_row_tie rfl ⟨rfl, rfl⟩ (by kernel_rfl) rfl
    (fun f fn hf hfn => by
      obtain rfl : f = 8 := Option.some.inj ((show Tryd.prog.funcNamed "pintle/pintlelaw15.VdiskOnce" = some 8 by kernel_rfl).symm.trans hf) |>.symm
      obtain rfl : fn = Tryd.f8 := (Option.some.inj (Tryd.func8.symm.trans hfn)).symm
      exact ⟨by kernel_rfl, fun j t ht => by
        rw [Tryd.params8] at ht
        have hm : t ∈ [48, 9, 9] := by simpa using Array.mem_of_getElem? ht
        have hall : ([48, 9, 9].all fun u => !Tryd.prog.wantsStandIn u) = true := by kernel_rfl
        exact (show Tryd.prog.wantsStandIn t = false by simpa using List.all_eq_true.1 hall t hm)⟩)
    (by kernel_rfl)
#print axioms proved
end Go.Proofs.YtpebpcmppcpkdaaDoor.vdiskOnce
