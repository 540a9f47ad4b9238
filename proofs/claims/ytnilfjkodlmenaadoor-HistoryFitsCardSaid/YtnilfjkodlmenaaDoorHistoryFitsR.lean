/- HistoryFits: the row of the statement, out of its walk. -/
import Derived.Test.YtnilfjkodlmenaaDoorRows
import Derived.Test.YtnilfjkodlmenaaDoorHistoryFitsW
import Derived.Test.YtnilfjkodlmenaaDoorTie
import Derived.Test.YtnilfjkodlmenaaDoorCards
import Derived.ProofKit
import Derived.LaidMore
import Derived.Lay
import Derived.SevenTiedAt
import Derived.Stop.Joined
import Derived.OpenShut
import Derived.ShutString
import Derived.ChangeOld
import Derived.SizedLaws
import Derived.Below
import Derived.Test.YtnilfjkodlmenaaDoorOpens
namespace Go.Proofs.YtnilfjkodlmenaaDoor.historyFits
open Go.ChangeShapes Go.WideShapes Go.ChangeAt Go.RowKit Go.Pin
open Go.ChangeMaps (open_string shut_string)
set_option linter.unusedVariables false
set_option linter.unusedSimpArgs false

theorem own : ownKnob Tryd.prog.godebug = none := by kernel_rfl
theorem laidOut : laidOutB Tryd.prog = true := by kernel_rfl

theorem tab_of (W : World) (h : laidMetH Tryd.prog Rows.historyFitsRow.laid W) : HTab W := by
  rw [MakeChecks.laidMetH_plain _ _ _ (by kernel_rfl)] at h
  have e : (Rows.laid_internal_strconv_uint64pow10 : DataW Unit) = Lib.tabData .u64 Lib.pow10Tab := by kernel_rfl
  have h1 : laidMet Tryd.prog (("math/bits.deBruijn32tab", Rows.laid_math_bits_deBruijn32tab) :: ("math/bits.deBruijn64tab", Rows.laid_math_bits_deBruijn64tab) :: ("internal/strconv.uint64pow10", Rows.laid_internal_strconv_uint64pow10) :: []) W := h
  rw [e] at h1
  have h2 := h1.tail.tail
  obtain ⟨g, hg⟩ : ∃ g, Tryd.prog.globalNamed "internal/strconv.uint64pow10" = some g := Option.isSome_iff_exists.1 (by kernel_rfl)
  have ht : ((Tryd.prog.globalNamed "internal/strconv.uint64pow10").bind fun g => (Tryd.prog.globals[g]?).map (·.type)) = some 122 := by kernel_rfl
  rw [hg] at ht
  exact Lib.tabIs_of_head (n := 20) hg ht Tryd.underlying122 Tryd.underlying26 (by kernel_rfl) (by kernel_rfl) h2

set_option maxRecDepth 100000 in
theorem lifted (os : Os) (started : os.Started) (H : Type) (enc : TypeId × Value → H) :
    ReturnsInHanded {} Tryd.checked os 8 .any (fun w args => (Rows.historyFitsSpec.pre enc Tryd.prog Tryd.f8 Rows.historyFitsRow.domain false w args ∧ laidMetH Tryd.prog Rows.historyFitsRow.laid w) ∧ sizedMet enc Tryd.prog Tryd.f8 (OpenSpec.ofChange Rows.historyFitsSpec) false w args) (Rows.historyFitsSpec.post enc Tryd.prog Tryd.f8 false true false false) := by
  refine returnsInHanded_of_change_and (C := Tryd.checked) (X := fun w _ => laidMetH Tryd.prog Rows.historyFitsRow.laid w) (fun _ _ _ hh h => h.of_heap hh) own started (by kernel_rfl) Tryd.func8
    (ChangeSpec.witness_shaped (enc := enc) (C := Tryd.checked) (os := os) (X := fun w _ => laidMetH Tryd.prog Rows.historyFitsRow.laid w) false (World.laidAll Tryd.prog os Rows.historyFitsRow.laid) #[.slice none 0 0] 8 (World.laidAll_os _ _ _)
      (World.shaped_of_ZipB (by kernel_rfl) (by kernel_rfl)) (by kernel_rfl) (by kernel_rfl) (by kernel_rfl)
      (by rw [MakeChecks.laidMetH_plain _ _ _ (by kernel_rfl)]; exact laidMet_laidAll _ (by kernel_rfl) (by kernel_rfl))) ?_
  intro W base args ds gs before hval0 hW hcnd hsz0 hX _
  have hval : ∀ (j : Nat) t v, Tryd.f8.params[j]? = some t → args[j]? = some v → Value.okWide Tryd.prog W .any base t v := hval0
  have hsz : (DataW.weightsEach Tryd.prog (Tryd.f8.params.toList ++ Rows.historyFitsSpec.plain.varTypes Tryd.prog) (ds ++ gs)).all (· ≤ reachBytes) = true := hsz0
  have hW' := hW
  obtain ⟨p, q, hA0, hV, rfl, hfz, hnd⟩ := hW
  have hA : DataW.TrodAll enc Tryd.prog W 0 (fun _ => true) true Tryd.f8.params.toList args.toList ds p := hA0
  rw [Tryd.params8] at hA hval hsz
  obtain ⟨v0, vs0, d0, ds0, p0, q0, hargs, rfl, rfl, h0, r0⟩ := trodAll_cons hA
  obtain ⟨rfl, rfl, rfl⟩ := trodAll_nil r0
  obtain rfl : args = #[v0] := by cases args; simp_all
  obtain ⟨rfl, rfl⟩ := trodVars_none hV
  have k0 := h0
  have lt0 : ∀ x ∈ p0, x.block < W.heap.size := by obtain ⟨m, hm⟩ := k0; exact DataW.trod_lt m _ _ _ hm
  obtain ⟨a0, len0, cap0, rfl⟩ := okWide_slice Tryd.underlying22 (hval 0 22 v0 rfl rfl)
  have w0 : isSlice [isInt .u64, isInt .u64, isInt .i64, isInt .u64, isInt .u64, isInt .u64, isInt .u64, isInt .i64, isInt .i64, isStr, isStr, isInt .u64, isInt .u64, isInt .i64, isStr, isInt .u8, isInt .u8, isInt .u8, isInt .u8, isInt .u8, isInt .u8, isInt .u8, isInt .u8] W (.slice a0 len0 cap0) := Opens.arg (t := 22) (OpensC.slice (ps := [isInt .u64, isInt .u64, isInt .i64, isInt .u64, isInt .u64, isInt .u64, isInt .u64, isInt .i64, isInt .i64, isStr, isStr, isInt .u64, isInt .u64, isInt .i64, isStr, isInt .u8, isInt .u8, isInt .u8, isInt .u8, isInt .u8, isInt .u8, isInt .u8, isInt .u8]) Tryd.underlying22 (by kernel_rfl) (by decide) (OpensC.struct (pss := [[isInt .u64, isInt .u64, isInt .i64, isInt .u64, isInt .u64, isInt .u64, isInt .u64, isInt .i64, isInt .i64, isStr, isStr, isInt .u64, isInt .u64, isInt .i64, isStr], [isInt .u8], [isInt .u8], [isInt .u8], [isInt .u8], [isInt .u8], [isInt .u8], [isInt .u8], [isInt .u8]]) Tryd.underlying35 (by kernel_rfl) ⟨by kernel_rfl, fun j f qs hf hq => by
        match j, hf, hq with
        | 0, hf, hq => cases hf; cases hq; exact ⟨by kernel_rfl, by kernel_rfl, OpensC.struct (pss := [[isInt .u64, isInt .u64, isInt .i64, isInt .u64, isInt .u64, isInt .u64, isInt .u64, isInt .i64, isInt .i64, isStr, isStr], [isInt .u64], [isInt .u64], [isInt .i64, isStr]]) Tryd.underlying33 (by kernel_rfl) ⟨by kernel_rfl, fun j f qs hf hq => by
          match j, hf, hq with
          | 0, hf, hq => cases hf; cases hq; exact ⟨by kernel_rfl, by kernel_rfl, OpensC.struct (pss := [[isInt .u64], [isInt .u64], [isInt .i64], [isInt .u64], [isInt .u64], [isInt .u64], [isInt .u64], [isInt .i64], [isInt .i64], [isStr], [isStr]]) Tryd.underlying28 (by kernel_rfl) ⟨by kernel_rfl, fun j f qs hf hq => by
            match j, hf, hq with
            | 0, hf, hq => cases hf; cases hq; exact ⟨by kernel_rfl, by kernel_rfl, OpensC.one (Opens.int Tryd.underlying26)⟩
            | 1, hf, hq => cases hf; cases hq; exact ⟨by kernel_rfl, by kernel_rfl, OpensC.one (Opens.int Tryd.underlying26)⟩
            | 2, hf, hq => cases hf; cases hq; exact ⟨by kernel_rfl, by kernel_rfl, OpensC.one (Opens.int Tryd.underlying3)⟩
            | 3, hf, hq => cases hf; cases hq; exact ⟨by kernel_rfl, by kernel_rfl, OpensC.one (Opens.int Tryd.underlying26)⟩
            | 4, hf, hq => cases hf; cases hq; exact ⟨by kernel_rfl, by kernel_rfl, OpensC.one (Opens.int Tryd.underlying26)⟩
            | 5, hf, hq => cases hf; cases hq; exact ⟨by kernel_rfl, by kernel_rfl, OpensC.one (Opens.int Tryd.underlying26)⟩
            | 6, hf, hq => cases hf; cases hq; exact ⟨by kernel_rfl, by kernel_rfl, OpensC.one (Opens.int Tryd.underlying26)⟩
            | 7, hf, hq => cases hf; cases hq; exact ⟨by kernel_rfl, by kernel_rfl, OpensC.one (Opens.int Tryd.underlying3)⟩
            | 8, hf, hq => cases hf; cases hq; exact ⟨by kernel_rfl, by kernel_rfl, OpensC.one (Opens.int Tryd.underlying3)⟩
            | 9, hf, hq => cases hf; cases hq; exact ⟨by kernel_rfl, by kernel_rfl, OpensC.one (Opens.str Tryd.underlying9)⟩
            | 10, hf, hq => cases hf; cases hq; exact ⟨by kernel_rfl, by kernel_rfl, OpensC.one (Opens.str Tryd.underlying9)⟩
            | j + 11, hf, hq => simp at hq⟩⟩
          | 1, hf, hq => cases hf; cases hq; exact ⟨by kernel_rfl, by kernel_rfl, OpensC.one (Opens.int Tryd.underlying26)⟩
          | 2, hf, hq => cases hf; cases hq; exact ⟨by kernel_rfl, by kernel_rfl, OpensC.one (Opens.int Tryd.underlying26)⟩
          | 3, hf, hq => cases hf; cases hq; exact ⟨by kernel_rfl, by kernel_rfl, OpensC.struct (pss := [[isInt .i64], [isStr]]) Tryd.underlying31 (by kernel_rfl) ⟨by kernel_rfl, fun j f qs hf hq => by
            match j, hf, hq with
            | 0, hf, hq => cases hf; cases hq; exact ⟨by kernel_rfl, by kernel_rfl, OpensC.one (Opens.int Tryd.underlying29)⟩
            | 1, hf, hq => cases hf; cases hq; exact ⟨by kernel_rfl, by kernel_rfl, OpensC.one (Opens.str Tryd.underlying9)⟩
            | j + 2, hf, hq => simp at hq⟩⟩
          | j + 4, hf, hq => simp at hq⟩⟩
        | 1, hf, hq => cases hf; cases hq; exact ⟨by kernel_rfl, by kernel_rfl, OpensC.one (Opens.int Tryd.underlying5)⟩
        | 2, hf, hq => cases hf; cases hq; exact ⟨by kernel_rfl, by kernel_rfl, OpensC.one (Opens.int Tryd.underlying5)⟩
        | 3, hf, hq => cases hf; cases hq; exact ⟨by kernel_rfl, by kernel_rfl, OpensC.one (Opens.int Tryd.underlying5)⟩
        | 4, hf, hq => cases hf; cases hq; exact ⟨by kernel_rfl, by kernel_rfl, OpensC.one (Opens.int Tryd.underlying5)⟩
        | 5, hf, hq => cases hf; cases hq; exact ⟨by kernel_rfl, by kernel_rfl, OpensC.one (Opens.int Tryd.underlying5)⟩
        | 6, hf, hq => cases hf; cases hq; exact ⟨by kernel_rfl, by kernel_rfl, OpensC.one (Opens.int Tryd.underlying5)⟩
        | 7, hf, hq => cases hf; cases hq; exact ⟨by kernel_rfl, by kernel_rfl, OpensC.one (Opens.int Tryd.underlying5)⟩
        | 8, hf, hq => cases hf; cases hq; exact ⟨by kernel_rfl, by kernel_rfl, OpensC.one (Opens.int Tryd.underlying5)⟩
        | j + 9, hf, hq => simp at hq⟩)) h0 rfl (fun n hn => by have := List.all_eq_true.1 hsz n (DataW.weights_mem_each (j := 0) (t := 22) rfl rfl n hn); simpa using this)
  clear hA0 hval0
  refine (historyFits_walk a0 len0 cap0 W w0 (tab_of W hX)).mono fun e W' ⟨he, bel⟩ => ?_
  subst he
  exact ⟨_, rfl, _, _, _, [], _, [], hW', trodAll_mk1 (shut_bool Tryd.underlying4 _), (trodAll_cons_mk (Below.trod laidOut (by kernel_rfl) (of_decide_eq_true (by kernel_rfl)) k0 bel lt0) trodAll_mk0), rfl, bel.frame _, fun h => by cases h⟩

theorem over : Rows.historyFitsRow.holds Tryd.pinned (OpenSpec.ofChange Rows.historyFitsSpec) :=
  OpenClaim.holds_of_wide 8 Tryd.f8 rfl rfl rfl rfl rfl rfl rfl ⟨rfl, rfl, rfl, rfl, rfl⟩ rfl rfl rfl rfl rfl (by kernel_rfl) Tryd.func8 (by kernel_rfl)
    (of_decide_eq_true (by kernel_rfl)) (by unfold Func.isWrapper; first | (rw [if_pos (by decide +kernel)]; kernel_rfl) | (rw [if_neg (by decide +kernel)]; exact ⟨rfl, rfl⟩))
    (fun os started H enc _ => lifted os started H enc)

theorem proved : Rows.HistoryFitsCardSaid :=
  Claim7.holds_tied_plain_at .later [] [.data, .data, .data] true _ false over (fun _ h => by cases h) (by kernel_rfl) (fun _ h => by cases h) historyFits_row_tie rfl ⟨rfl, rfl⟩ (by kernel_rfl) rfl
    (fun f fn hf hfn => by
      obtain rfl : f = 8 := Option.some.inj ((show Tryd.prog.funcNamed "pintle/pintlelaw21.HistoryFits" = some 8 by kernel_rfl).symm.trans hf) |>.symm
      obtain rfl : fn = Tryd.f8 := (Option.some.inj (Tryd.func8.symm.trans hfn)).symm
      exact ⟨by kernel_rfl, fun j t ht => by
        rw [Tryd.params8] at ht
        have hm : t ∈ [22] := by simpa using Array.mem_of_getElem? ht
        have hall : ([22].all fun u => !Tryd.prog.wantsStandIn u) = true := by kernel_rfl
        exact (show Tryd.prog.wantsStandIn t = false by simpa using List.all_eq_true.1 hall t hm)⟩)
    (by kernel_rfl)
#print axioms proved
end Go.Proofs.YtnilfjkodlmenaaDoor.historyFits
