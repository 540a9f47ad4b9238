/- rlog: slices.IndexFunc over entries. -/
import Derived.Test.YthlmigbimeldbaaLgM
set_option maxRecDepth 16000
namespace Go.Pin
open Go.RowKit
set_option linter.unusedVariables false
set_option linter.unusedSimpArgs false
theorem lgIdx_at {q : En → Bool} {L : List En} {k : Nat} {e : En} (he : L[k]? = some e) (hq : q e = true) (ha : ∀ j x, j < k → L[j]? = some x → q x = false) : lgIdx q L = k := by
  have hk := (List.getElem?_eq_some_iff.1 he)
  have : L.findIdx? q = some k := by
    rw [List.findIdx?_eq_some_iff_getElem]
    refine ⟨hk.1, by rw [hk.2]; exact hq, fun j hj => ?_⟩
    have hjl : j < L.length := Nat.lt_trans hj hk.1
    have := ha j (L[j]'hjl) hj (List.getElem?_eq_getElem hjl)
    simp [this]
  unfold lgIdx; rw [this]
theorem lgIdx_none {q : En → Bool} {L : List En} (ha : ∀ (j : Nat) x, L[j]? = some x → q x = false) : lgIdx q L = -1 := by
  have : L.findIdx? q = none := by
    rw [List.findIdx?_eq_none_iff]
    intro x hx
    obtain ⟨j, hj⟩ := List.getElem?_of_mem hx
    exact ha j x hj
  unfold lgIdx; rw [this]
end Go.Pin
namespace Go.Proofs.Ythlmigbimeldbaa
open Go.RowKit Go.Pin
set_option linter.unusedVariables false
set_option linter.unusedSimpArgs false
theorem lg_find1 (e : En) (t : Int) (M : Nat) (w : World) (hM : w.cell? ⟨M, 0, none⟩ = some (.int .u64 t)) :
    Calls Try.prog 78 #[.agg e.cells, .pointer (some ⟨M, 0, none⟩)] w fun x w' => x = .returned (.bool (decide (e.index = t))) ∧ Below w.heap.size w w' := by
  have hk := (Keep.refl (fun _ => False) w).alloc (.cells e.cells 32)
  have hb := hk.below (Nat.le_refl _) fun _ q => q.elim
  have hE := EnAt.new w 32 e
  have hM2 := hk.cell hM id
  have HR : decide (e.index = t) = (e.index == t) := by by_cases h : e.index = t <;> simp [h]
  rw [HR]
  clear HR hk hM
  obtain ⟨term, index, kind, client, seq, block, many, node, level, data, old⟩ := e
  dsimp only [En.cells] at *
  go_enter Try.func78, Try.ntmps78
  go_upto_region 1 with fail
  generalize w.alloc _ = wa at *
  generalize hB : w.heap.size = B at *
  have c := hE.c1
  dsimp only at c
  try simp only [Nat.zero_add] at c
  clear hE
  go_wp2_with fail
  go_ret
  exact ⟨rfl, by first | exact hb | (rw [hB]; exact hb)⟩
theorem lg_hint1 (e : En) (t : Int) (M : Nat) (w : World) (hM : w.cell? ⟨M, 0, none⟩ = some (.int .u64 t)) :
    Calls Try.prog 59 #[.agg e.cells, .pointer (some ⟨M, 0, none⟩)] w fun x w' => x = .returned (.bool (decide (e.term = t))) ∧ Below w.heap.size w w' := by
  have hk := (Keep.refl (fun _ => False) w).alloc (.cells e.cells 32)
  have hb := hk.below (Nat.le_refl _) fun _ q => q.elim
  have hE := EnAt.new w 32 e
  have hM2 := hk.cell hM id
  have HR : decide (e.term = t) = (e.term == t) := by by_cases h : e.term = t <;> simp [h]
  rw [HR]
  clear HR hk hM
  obtain ⟨term, index, kind, client, seq, block, many, node, level, data, old⟩ := e
  dsimp only [En.cells] at *
  go_enter Try.func59, Try.ntmps59
  go_upto_region 1 with fail
  generalize w.alloc _ = wa at *
  generalize hB : w.heap.size = B at *
  have c := hE.c0
  dsimp only at c
  try simp only [Nat.zero_add] at c
  clear hE
  go_wp2_with fail
  go_ret
  exact ⟨rfl, by first | exact hb | (rw [hB]; exact hb)⟩
set_option maxHeartbeats 1600000 in
theorem lg_idxFind (q : En → Bool) (M : Nat) (p : Option Addr) (n c : Nat) (L : List En) (hn2 : n ≤ 1000) (w : World) (hL : EntsAt w p n L)
    (Hq : ∀ e ∈ L, ∀ W, Below w.heap.size w W → Calls Try.prog 78 #[.agg e.cells, .pointer (some ⟨M, 0, none⟩)] W fun x W' => x = .returned (.bool (q e)) ∧ Below W.heap.size W W') :
    Calls Try.prog 51 #[.slice p n c, .func (.func 78) #[] #[.pointer (some ⟨M, 0, none⟩)]] w fun x w' => x = .returned (.int .i64 (lgIdx q L)) ∧ Below w.heap.size w w' := by
  have hn := hL.len
  have hb := Below.refl w.heap.size w
  have HL := Pin.Aside.mk hL
  have HQ := Pin.Aside.mk Hq
  clear hL Hq
  go_enter Try.func51, Try.ntmps51
  go_wp2_with fail
  go_loopw [8] (fun x wr => ∃ k : Nat, k ≤ n ∧ x = .int .i64 k ∧ Below w.heap.size w wr ∧ Pin.Aside (∀ j x, j < k → L[j]? = some x → q x = false)) (fun x _ => n - (intOf x).toNat)
  case atStart => exact ⟨0, by omega, rfl, hb, Pin.Aside.mk fun j x hj => by omega⟩
  case round =>
    clear hb
    obtain ⟨k, hk, rfl, hb, HA⟩ := hrel
    have hkw : Keep (fun _ => False) w wr := Keep.of_below hb fun _ hk _ => hk
    by_cases hlt : k < n
    · obtain ⟨e, he⟩ : ∃ x, L[k]? = some x := ⟨L[k], List.getElem?_eq_getElem (by omega)⟩
      have Hc := Pin.Aside.mk (HQ.out e (List.mem_of_getElem? he) wr hb)
      obtain ⟨A, o, rfl, hE⟩ := HL.out.at' k e he
      obtain ⟨c0, c1, c2, c3, c4, c5, c6, c7, c8, c9, c10⟩ := hE.keep hkw id
      clear hE hkw
      have Hx := Pin.Aside.mk he
      have hk0 : (0 : Int) ≤ (k : Int) := by omega
      have hk1 : (k : Int) < (n : Int) := by omega
      obtain ⟨B, hB⟩ : ∃ B, q e = B := ⟨_, rfl⟩
      rw [hB] at Hc
      have HB := Pin.Aside.mk hB
      clear hB he
      cases B with
      | true =>
        go_wp2_with fail
        refine (Hc.out).mono ?_
        rintro x w1 ⟨rfl, hbb⟩
        replace hb := hb.trans (hbb.mono hb.size)
        clear hbb c0 c1 c2 c3 c4 c5 c6 c7 c8 c9 c10
        go_wp2_with fail
        go_ret
        refine ⟨?_, hb⟩
        rw [lgIdx_at Hx.out HB.out HA.out]; rfl
      | false =>
        go_wp2_with fail
        refine (Hc.out).mono ?_
        rintro x w1 ⟨rfl, hbb⟩
        replace hb := hb.trans (hbb.mono hb.size)
        clear hbb c0 c1 c2 c3 c4 c5 c6 c7 c8 c9 c10
        go_wp2_with fail
        go_roundw
        case rel =>
          refine ⟨k + 1, by omega, by simp, hb, Pin.Aside.mk fun j x hj hx => ?_⟩
          by_cases q : j = k
          · subst q
            have := Hx.out.symm.trans hx
            cases this
            exact HB.out
          · exact HA.out j x (by omega) hx
        case measure => simp [intOf]; omega
    · have hk2 : k = n := by omega
      go_wp2_with fail
      go_ret
      refine ⟨?_, hb⟩
      rw [lgIdx_none (fun j x hx => HA.out j x (by have := (List.getElem?_eq_some_iff.1 hx).1; omega) hx)]; rfl
set_option maxHeartbeats 1600000 in
theorem lg_idxHint (q : En → Bool) (M : Nat) (p : Option Addr) (n c : Nat) (L : List En) (hn2 : n ≤ 1000) (w : World) (hL : EntsAt w p n L)
    (Hq : ∀ e ∈ L, ∀ W, Below w.heap.size w W → Calls Try.prog 59 #[.agg e.cells, .pointer (some ⟨M, 0, none⟩)] W fun x W' => x = .returned (.bool (q e)) ∧ Below W.heap.size W W') :
    Calls Try.prog 51 #[.slice p n c, .func (.func 59) #[] #[.pointer (some ⟨M, 0, none⟩)]] w fun x w' => x = .returned (.int .i64 (lgIdx q L)) ∧ Below w.heap.size w w' := by
  have hn := hL.len
  have hb := Below.refl w.heap.size w
  have HL := Pin.Aside.mk hL
  have HQ := Pin.Aside.mk Hq
  clear hL Hq
  go_enter Try.func51, Try.ntmps51
  go_wp2_with fail
  go_loopw [8] (fun x wr => ∃ k : Nat, k ≤ n ∧ x = .int .i64 k ∧ Below w.heap.size w wr ∧ Pin.Aside (∀ j x, j < k → L[j]? = some x → q x = false)) (fun x _ => n - (intOf x).toNat)
  case atStart => exact ⟨0, by omega, rfl, hb, Pin.Aside.mk fun j x hj => by omega⟩
  case round =>
    clear hb
    obtain ⟨k, hk, rfl, hb, HA⟩ := hrel
    have hkw : Keep (fun _ => False) w wr := Keep.of_below hb fun _ hk _ => hk
    by_cases hlt : k < n
    · obtain ⟨e, he⟩ : ∃ x, L[k]? = some x := ⟨L[k], List.getElem?_eq_getElem (by omega)⟩
      have Hc := Pin.Aside.mk (HQ.out e (List.mem_of_getElem? he) wr hb)
      obtain ⟨A, o, rfl, hE⟩ := HL.out.at' k e he
      obtain ⟨c0, c1, c2, c3, c4, c5, c6, c7, c8, c9, c10⟩ := hE.keep hkw id
      clear hE hkw
      have Hx := Pin.Aside.mk he
      have hk0 : (0 : Int) ≤ (k : Int) := by omega
      have hk1 : (k : Int) < (n : Int) := by omega
      obtain ⟨B, hB⟩ : ∃ B, q e = B := ⟨_, rfl⟩
      rw [hB] at Hc
      have HB := Pin.Aside.mk hB
      clear hB he
      cases B with
      | true =>
        go_wp2_with fail
        refine (Hc.out).mono ?_
        rintro x w1 ⟨rfl, hbb⟩
        replace hb := hb.trans (hbb.mono hb.size)
        clear hbb c0 c1 c2 c3 c4 c5 c6 c7 c8 c9 c10
        go_wp2_with fail
        go_ret
        refine ⟨?_, hb⟩
        rw [lgIdx_at Hx.out HB.out HA.out]; rfl
      | false =>
        go_wp2_with fail
        refine (Hc.out).mono ?_
        rintro x w1 ⟨rfl, hbb⟩
        replace hb := hb.trans (hbb.mono hb.size)
        clear hbb c0 c1 c2 c3 c4 c5 c6 c7 c8 c9 c10
        go_wp2_with fail
        go_roundw
        case rel =>
          refine ⟨k + 1, by omega, by simp, hb, Pin.Aside.mk fun j x hj hx => ?_⟩
          by_cases q : j = k
          · subst q
            have := Hx.out.symm.trans hx
            cases this
            exact HB.out
          · exact HA.out j x (by omega) hx
        case measure => simp [intOf]; omega
    · have hk2 : k = n := by omega
      go_wp2_with fail
      go_ret
      refine ⟨?_, hb⟩
      rw [lgIdx_none (fun j x hx => HA.out j x (by have := (List.getElem?_eq_some_iff.1 hx).1; omega) hx)]; rfl
end Go.Proofs.Ythlmigbimeldbaa
