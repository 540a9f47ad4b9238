/- history: Right. -/
import Derived.Test.YtnilfjkodlmenaaDoorHiP
import Derived.Test.YtnilfjkodlmenaaDoorHiO
import Derived.BigQuiet
set_option maxRecDepth 16000
namespace Go.Pin
open Go.RowKit
set_option linter.unusedVariables false
set_option linter.unusedSimpArgs false
/-- Where the first one stands that is q, or -1. -/
def hIdx (q : HOp → Bool) (L : List HOp) : Int := match L.findIdx? q with | some k => (k : Int) | none => -1
theorem hIdx_at {q : HOp → Bool} {L : List HOp} {k : Nat} {e : HOp} (he : L[k]? = some e) (hq : q e = true) (ha : ∀ j x, j < k → L[j]? = some x → q x = false) : hIdx q L = k := by
  have hk := (List.getElem?_eq_some_iff.1 he)
  have : L.findIdx? q = some k := by
    rw [List.findIdx?_eq_some_iff_getElem]
    refine ⟨hk.1, by rw [hk.2]; exact hq, fun j hj => ?_⟩
    have hjl : j < L.length := Nat.lt_trans hj hk.1
    have := ha j (L[j]'hjl) hj (List.getElem?_eq_getElem hjl)
    simp [this]
  unfold hIdx; rw [this]
theorem hIdx_none {q : HOp → Bool} {L : List HOp} (ha : ∀ (j : Nat) x, L[j]? = some x → q x = false) : hIdx q L = -1 := by
  have : L.findIdx? q = none := by
    rw [List.findIdx?_eq_none_iff]
    intro x hx
    obtain ⟨j, hj⟩ := List.getElem?_of_mem hx
    exact ha j x hj
  unfold hIdx; rw [this]
theorem hIdx_any (q : HOp → Bool) (L : List HOp) : decide (0 ≤ hIdx q L) = L.any q := by
  unfold hIdx
  cases h : L.findIdx? q with
  | none =>
    rw [List.findIdx?_eq_none_iff] at h
    have : L.any q = false := by rw [List.any_eq_false]; intro x hx; rw [h x hx]; exact Bool.false_ne_true
    rw [this]; rfl
  | some k =>
    rw [List.findIdx?_eq_some_iff_getElem] at h
    obtain ⟨hk, hq, _⟩ := h
    have : L.any q = true := List.any_eq_true.2 ⟨_, List.getElem_mem hk, hq⟩
    rw [this]
    exact decide_eq_true (show (0 : Int) ≤ (k : Int) by omega)
theorem all_not (q : HOp → Bool) (L : List HOp) : (L.all fun o => !q o) = !L.any q := by
  induction L with
  | nil => rfl
  | cons x l ih => rw [List.all_cons, List.any_cons, ih, Bool.not_or]
end Go.Pin
namespace Go.Proofs.YtnilfjkodlmenaaDoor
open Go.RowKit Go.Pin
set_option linter.unusedVariables false
set_option linter.unusedSimpArgs false
set_option maxHeartbeats 1600000 in
theorem hi_bad (x : HOp) (hx : x.ok) (w : World) :
    Calls Tryd.prog 27 #[.agg x.cells] w fun e w' => e = .returned (.bool (hBad x)) ∧ Below w.heap.size w w' := by
  have hk := (Keep.refl (fun _ => False) w).alloc (.cells x.cells 33)
  have hb := hk.below (Nat.le_refl _) fun _ q => q.elim
  have hE := HOpAt.new w 33 x
  obtain ⟨c0, c1, c2, c3, c4, c5, c6, c7, c8, c9, c10, c11, c12, c13, c14⟩ := hE.cells
  simp only [Nat.zero_add] at c2 c9 c10 c11 c12
  have HK := Pin.Aside.mk (fun W => hi_known x.e.kind W)
  have HR : Pin.Aside (hBad x = (!hKnown x.e.kind || decide (64 < x.e.data.size) || decide (64 < x.e.old.size) || (decide (x.stop ≠ 0) && decide (x.stop ≤ x.start)))) := Pin.Aside.mk rfl
  obtain ⟨kn, hkn⟩ : ∃ b, hKnown x.e.kind = b := ⟨_, rfl⟩
  rw [hkn] at HK HR
  clear hk hE c0 c1 c3 c4 c5 c6 c7 c8 c13 c14 hkn
  unfold HOp.cells at *
  go_enter Tryd.func27, Tryd.ntmps27
  go_upto_region 1 with fail
  generalize w.alloc _ = wa at *
  obtain ⟨B, hB⟩ : ∃ B, w.heap.size = B := ⟨_, rfl⟩
  rw [hB] at hb c2 c9 c10 c11 c12
  try rw [hB]
  go_wp2_with fail
  refine (HK.out _).mono ?_
  rintro u w2 ⟨rfl, hb2⟩
  have hk2 : Keep (fun _ => False) wa w2 := Keep.of_below hb2 fun _ q _ => q
  have HB := Pin.Aside.mk (show Below w.heap.size w w2 by rw [hB]; exact hb.trans (hb2.mono (by rw [← hB]; rw [← hB] at hb; exact hb.size)))
  replace c9 := hk2.cell c9 id
  replace c10 := hk2.cell c10 id
  replace c11 := hk2.cell c11 id
  replace c12 := hk2.cell c12 id
  clear hk2 hb2 hb c2
  cases kn with
  | false =>
    go_wp2_with fail
    go_ret
    exact ⟨by rw [HR.out]; rfl, HB.out⟩
  | true =>
    by_cases hd : 64 < x.e.data.size
    · have hd1 : (64 : Int) < (x.e.data.size : Int) := by omega
      go_wp2_with fail
      go_ret
      exact ⟨by rw [HR.out, decide_eq_true hd]; rfl, HB.out⟩
    · have hd1 : ¬ (64 : Int) < (x.e.data.size : Int) := by omega
      by_cases ho : 64 < x.e.old.size
      · have ho1 : (64 : Int) < (x.e.old.size : Int) := by omega
        go_wp2_with fail
        go_ret
        exact ⟨by rw [HR.out, decide_eq_true ho, decide_eq_false hd]; rfl, HB.out⟩
      · have ho1 : ¬ (64 : Int) < (x.e.old.size : Int) := by omega
        have HD1 := Pin.Aside.mk hd1
        have HO1 := Pin.Aside.mk ho1
        by_cases hz : x.stop = 0
        · have hz1 : (x.stop != 0) = false := by simp [hz]
          have HZ := Pin.Aside.mk hz
          clear hz
          go_wp2_with fail
          go_ret
          exact ⟨by show Ending.returned (.bool (decide ((64 : Int) < (x.e.data.size : Int)) || decide ((64 : Int) < (x.e.old.size : Int)))) = _; rw [HR.out, decide_eq_false ho, decide_eq_false hd, decide_eq_false (Int.not_lt.2 HD1.out), decide_eq_false (Int.not_lt.2 HO1.out), decide_eq_false (show ¬ x.stop ≠ 0 from fun q => q HZ.out)]; rfl, HB.out⟩
        · have hz1 : (x.stop != 0) = true := by simp [hz]
          have HZ := Pin.Aside.mk hz
          clear hz
          by_cases hs : x.stop ≤ x.start
          · go_wp2_with fail
            go_ret
            exact ⟨by rw [HR.out, decide_eq_false ho, decide_eq_false hd, decide_eq_true HZ.out, decide_eq_true hs]; rfl, HB.out⟩
          · have HS := Pin.Aside.mk hs
            go_wp2_with fail
            go_ret
            exact ⟨by show Ending.returned (.bool (decide ((64 : Int) < (x.e.data.size : Int)) || decide ((64 : Int) < (x.e.old.size : Int)) || decide (x.stop ≤ x.start))) = _; rw [HR.out, decide_eq_false ho, decide_eq_false hd, decide_eq_false (Int.not_lt.2 HD1.out), decide_eq_false (Int.not_lt.2 HO1.out), decide_eq_true HZ.out, decide_eq_false (Int.not_le.2 HS.out)]; rfl, HB.out⟩
set_option maxHeartbeats 1600000 in
theorem hi_idx (a : Option Addr) (c : Nat) (L : List HOp) (hn2 : L.length ≤ 1000) (hok : ∀ x ∈ L, x.ok) (w : World) (hO : OpsAt w a L) :
    Calls Tryd.prog 42 #[.slice a L.length c, .func (.func 27) #[] #[]] w fun x w' => x = .returned (.int .i64 (hIdx hBad L)) ∧ Below w.heap.size w w' := by
  have HO := Pin.Aside.mk hO
  have HK := Pin.Aside.mk hok
  clear hO hok
  obtain ⟨n, hn⟩ : ∃ n, L.length = n := ⟨_, rfl⟩
  have HN := Pin.Aside.mk hn
  rw [hn] at hn2 ⊢
  clear hn
  go_enter Tryd.func42, Tryd.ntmps42
  go_wp2_with fail
  go_loopw [8] (fun x wr => ∃ k : Nat, k ≤ n ∧ x = .int .i64 k ∧ Pin.Aside (Below w.heap.size w wr) ∧ Pin.Aside (∀ j x, j < k → L[j]? = some x → hBad x = false)) (fun x _ => n - (intOf x).toNat)
  case atStart => exact ⟨0, by omega, rfl, Pin.Aside.mk (Below.refl _ _), Pin.Aside.mk fun j x hj => by omega⟩
  case round =>
    obtain ⟨k, hk, rfl, HB, HA⟩ := hrel
    rename_i wr
    by_cases hlt : k < n
    · obtain ⟨x, hx⟩ : ∃ x, L[k]? = some x := ⟨L[k]'(by rw [HN.out]; exact hlt), List.getElem?_eq_getElem _⟩
      have Hc := Pin.Aside.mk (hi_bad x (HK.out x (List.mem_of_getElem? hx)) wr)
      obtain ⟨A, o, ha, hA⟩ := HO.out.at' k x hx
      have hkk : Keep (fun _ => False) w wr := Keep.of_below HB.out fun _ q _ => q
      replace hA := hA.keep hkk id
      obtain ⟨c0, c1, c2, c3, c4, c5, c6, c7, c8, c9, c10, c11, c12, c13, c14⟩ := hA.cells
      subst ha
      have hk0 : (0 : Int) ≤ (k : Int) := by omega
      have hk1 : (k : Int) < (n : Int) := by omega
      have HX := Pin.Aside.mk hx
      obtain ⟨b, hb⟩ : ∃ b, hBad x = b := ⟨_, rfl⟩
      rw [hb] at Hc
      have HBd := Pin.Aside.mk hb
      unfold HOp.cells at Hc
      clear hx hA hkk hb
      cases b with
      | true =>
        go_wp2_with fail
        refine Hc.out.mono ?_
        rintro u w1 ⟨rfl, hbb⟩
        have HB1 := Pin.Aside.mk (HB.out.trans (hbb.mono HB.out.size))
        clear hbb c0 c1 c2 c3 c4 c5 c6 c7 c8 c9 c10 c11 c12 c13 c14
        go_wp2_with fail
        go_ret
        exact ⟨by rw [hIdx_at HX.out HBd.out HA.out]; rfl, HB1.out⟩
      | false =>
        go_wp2_with fail
        refine Hc.out.mono ?_
        rintro u w1 ⟨rfl, hbb⟩
        have HB1 := Pin.Aside.mk (HB.out.trans (hbb.mono HB.out.size))
        clear hbb c0 c1 c2 c3 c4 c5 c6 c7 c8 c9 c10 c11 c12 c13 c14
        go_wp2_with fail
        go_roundw
        case rel => exact ⟨k + 1, by omega, by go_num, HB1, Pin.Aside.mk fun j y hj hy => by
          by_cases hjk : j < k
          · exact HA.out j y hjk hy
          · obtain rfl : j = k := by omega
            rw [HX.out] at hy
            cases hy
            exact HBd.out⟩
        case measure => simp [intOf]; omega
    · obtain rfl : k = n := by omega
      have HZ := Pin.Aside.mk (hIdx_none (q := hBad) (L := L) fun j x hx => HA.out j x (by rw [← HN.out]; exact (List.getElem?_eq_some_iff.1 hx).1) hx)
      go_wp2_with fail
      go_ret
      exact ⟨by rw [HZ.out]; rfl, HB.out⟩
set_option maxHeartbeats 1600000 in
theorem hi_contains (a : Option Addr) (c : Nat) (L : List HOp) (hn2 : L.length ≤ 1000) (hok : ∀ x ∈ L, x.ok) (w : World) (hO : OpsAt w a L) :
    Calls Tryd.prog 26 #[.slice a L.length c, .func (.func 27) #[] #[]] w fun x w' => x = .returned (.bool (L.any hBad)) ∧ Below w.heap.size w w' := by
  have HC := Pin.Aside.mk (hi_idx a c L hn2 hok w hO)
  rw [← hIdx_any]
  generalize hIdx hBad L = i at *
  clear hO
  go_enter Tryd.func26, Tryd.ntmps26
  go_wp2_with fail
  refine HC.out.mono ?_
  rintro u w1 ⟨rfl, hb⟩
  go_wp2_with fail
  go_ret
  exact ⟨rfl, hb⟩
set_option maxHeartbeats 1600000 in
theorem hi_right (a : Option Addr) (c : Nat) (L : List HOp) (hn2 : L.length ≤ 1000) (hok : ∀ x ∈ L, x.ok) (w : World) (hO : OpsAt w a L) :
    Calls Tryd.prog 15 #[.slice a L.length c] w fun x w' => x = .returned (.bool (hRight L)) ∧ Below w.heap.size w w' := by
  have HC := Pin.Aside.mk (hi_contains a c L hn2 hok w hO)
  have HR : Pin.Aside (hRight L = (decide (L.length ≤ 10) && !L.any hBad)) := Pin.Aside.mk (by unfold hRight; rw [all_not])
  obtain ⟨b, hb⟩ : ∃ b, L.any hBad = b := ⟨_, rfl⟩
  rw [hb] at HC HR
  obtain ⟨n, hn⟩ : ∃ n, L.length = n := ⟨_, rfl⟩
  rw [hn] at HC HR hn2 ⊢
  clear hO hb hn
  by_cases h : n ≤ 10
  · have h1 : (n : Int) ≤ 10 := by omega
    have h2 : decide ((n : Int) ≤ 10) = true := decide_eq_true h1
    go_enter Tryd.func15, Tryd.ntmps15
    go_wp2_with fail
    refine HC.out.mono ?_
    rintro u w1 ⟨rfl, hb⟩
    go_wp2_with fail
    go_ret
    exact ⟨by rw [HR.out, decide_eq_true h]; rfl, hb⟩
  · have h1 : ¬ (n : Int) ≤ 10 := by omega
    have h2 : decide ((n : Int) ≤ 10) = false := decide_eq_false h1
    go_enter Tryd.func15, Tryd.ntmps15
    go_wp2_with fail
    go_ret
    exact ⟨by rw [HR.out, decide_eq_false h]; rfl, Below.refl _ _⟩
end Go.Proofs.YtnilfjkodlmenaaDoor
