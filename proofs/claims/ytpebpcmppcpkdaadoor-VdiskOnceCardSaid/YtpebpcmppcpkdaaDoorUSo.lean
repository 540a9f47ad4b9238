/- slices.Sort of whole numbers of 64 bits: cmp.Less, the insertion sort. -/
import Derived.Test.YtpebpcmppcpkdaaDoorProg
import Derived.Test.YtpebpcmppcpkdaaDoorBytes
import Derived.Sort.Row
import Derived.Sort.LotA
import Derived.CellFam
set_option maxRecDepth 16000
namespace Go.Pin
open Go.RowKit
set_option linter.unusedVariables false
set_option linter.unusedSimpArgs false
/-- A row of numbers that may be written. -/
structure URow (w : World) (Q o : Nat) (d : Array Int) : Prop where
  h : Sort.Holds (Value.int .u64) w Q o d
  ty : ∃ cs fr, w.heap[Q]? = some (.cells cs 25 fr)
theorem row_setCell {w : World} {Q : Nat} {T : TypeId} (h : ∃ cs fr, w.heap[Q]? = some (.cells cs T fr)) (p : Addr) (v : Value) : ∃ cs fr, (w.setCell p v).heap[Q]? = some (.cells cs T fr) := by
  obtain ⟨cs, fr, h⟩ := h
  by_cases q : Q = p.block
  · unfold World.setCell
    simp only [Array.getElem?_modify]
    rw [if_pos q.symm, h]
    exact ⟨_, _, rfl⟩
  · exact ⟨cs, fr, by rw [Below.heap_setCell _ _ _ _ q]; exact h⟩
theorem URow.keep {S : Nat → Prop} {a w : World} {Q o : Nat} {d : Array Int} (h : URow a Q o d) (hk : Keep S a w) (hn : ¬ S Q) : URow w Q o d := by
  obtain ⟨cs, fr, h0⟩ := h.ty
  have hQ : Q < a.heap.size := (Array.getElem?_eq_some_iff.1 h0).1
  exact ⟨fun j hj => by
    obtain ⟨h1, h2⟩ := h.h j hj
    exact ⟨hk.cell h1 hn, by rw [hk.frozen (p := ⟨Q, o + j, none⟩) hQ hn]; exact h2⟩, cs, fr, by rw [hk.block Q hQ hn]; exact h0⟩
theorem URow.drewN {a : World} {Q o : Nat} {d : Array Int} (h : URow a Q o d) (n : Nat) : URow (a.drewN n) Q o d := h.keep ((Keep.refl (fun _ => False) a).drewN n) id
theorem URow.swp {w : World} {Q o : Nat} {d : Array Int} (h : URow w Q o d) (i j : Nat) (hi : i < d.size) (hj : j < d.size) :
    URow ((w.setCell ⟨Q, o + i, none⟩ (.int .u64 d[j]!)).setCell ⟨Q, o + j, none⟩ (.int .u64 d[i]!)) Q o (Sort.swp d i j) := by
  refine ⟨fun t ht => ?_, row_setCell (row_setCell h.ty _ _) _ _⟩
  rw [Sort.swp_size] at ht
  rw [Sort.swp_get d hi hj]
  obtain ⟨h1, h2⟩ := h.h t ht
  obtain ⟨hi1, _⟩ := h.h i hi
  obtain ⟨hj1, _⟩ := h.h j hj
  refine ⟨?_, by rw [World.frozen?_setCell, World.frozen?_setCell]; exact h2⟩
  by_cases e1 : t = j
  · subst e1
    rw [if_pos rfl]
    by_cases e2 : i = t
    · subst e2; exact World.cell?_setCell_same _ _ _ (World.cell?_setCell_same _ _ _ hi1)
    · exact World.cell?_setCell_same _ _ _ (by rw [World.cell?_setCell_other _ _ _ _ (by simp <;> omega)]; exact h1)
  · rw [if_neg e1, World.cell?_setCell_other _ _ _ _ (by simp <;> omega)]
    by_cases e2 : t = i
    · subst e2; rw [if_pos rfl]; exact World.cell?_setCell_same _ _ _ h1
    · rw [if_neg e2, World.cell?_setCell_other _ _ _ _ (by simp <;> omega)]; exact h1
theorem Keep.swp {a : World} {Q : Nat} (b : World) (h : Keep (fun k => k = Q) a b) (i j : Nat) (x y : Value) : Keep (fun k => k = Q) a ((b.setCell ⟨Q, i, none⟩ x).setCell ⟨Q, j, none⟩ y) :=
  (h.setCell (p := ⟨Q, i, none⟩) (.inl rfl) x).setCell (p := ⟨Q, j, none⟩) (.inl rfl) y
section
variable {α : Type} [Inhabited α] (lt : α → α → Bool)
theorem ins_go (a j : Nat) (d : Array α) (hj : a < j) (hl : lt d[j]! d[j - 1]! = true) : Sort.insInner lt a j d = Sort.insInner lt a (j - 1) (Sort.swp d j (j - 1)) := by
  obtain ⟨k, rfl⟩ : ∃ k, j = k + 1 := ⟨j - 1, by omega⟩
  simp only [Nat.add_sub_cancel] at hl ⊢
  rw [Sort.insInner]
  simp [hj, hl]
theorem ins_stop (a j : Nat) (d : Array α) (h : j ≤ a ∨ lt d[j]! d[j - 1]! = false) : Sort.insInner lt a j d = d := by
  cases j with
  | zero => rfl
  | succ k =>
    simp only [Nat.add_sub_cancel] at h
    rw [Sort.insInner, if_neg]
    rcases h with h | h
    · simp; omega
    · simp [h]
end
end Go.Pin
namespace Go.Proofs.YtpebpcmppcpkdaaDoor
open Go.RowKit Go.Pin
set_option linter.unusedVariables false
set_option linter.unusedSimpArgs false
theorem u_isNaN (x : Int) (w : World) : Calls Tryd.prog 96 #[.int .u64 x] w fun e w' => e = .returned (.bool false) ∧ w' = w := by
  go_enter Tryd.func96, Tryd.ntmps96
  go_wp2
  go_ret
  exact ⟨by simp, rfl⟩
theorem u_less (x y : Int) (w : World) : Calls Tryd.prog 81 #[.int .u64 x, .int .u64 y] w fun e w' => e = .returned (.bool (Sort.ltInt x y)) ∧ w' = w := by
  go_enter Tryd.func81, Tryd.ntmps81
  go_wp2_with (go_at_call 96; refine (u_isNaN _ _).mono ?_; rintro e w' ⟨rfl, rfl⟩)
  go_ret
  exact ⟨rfl, rfl⟩
set_option maxHeartbeats 3200000 in
/-- The insertion sort of a part of a row. -/
theorem u_insertion (Q o cap a b : Nat) (d : Array Int) (w : World) (hH : URow w Q o d) (hab : a ≤ b) (hb : b ≤ d.size) (hsz : d.size < 4611686018427387904) :
    Calls Tryd.prog 75 #[.slice (some ⟨Q, o, none⟩) d.size cap, .int .i64 a, .int .i64 b] w fun e w' => e = .returned (.tuple #[]) ∧ Keep (fun k => k = Q) w w' ∧ URow w' Q o (Sort.insertionSort Sort.ltInt d a b) := by
  have HH := Pin.Aside.mk hH
  clear hH
  go_enter Tryd.func75, Tryd.ntmps75
  go_wp2_with fail
  go_loopw [6] (fun vi wr => ∃ (i : Nat) (dk : Array Int), vi = .int .i64 i ∧ a < i ∧ i ≤ b + 1 ∧ Pin.Aside (dk.size = d.size) ∧ Pin.Aside (Keep (fun k => k = Q) w wr) ∧ Pin.Aside (URow wr Q o dk) ∧ Pin.Aside (Sort.insOuter Sort.ltInt a b i dk = Sort.insOuter Sort.ltInt a b (a + 1) d)) (fun vi _ => b + 1 - (intOf vi).toNat)
  case atStart => exact ⟨a + 1, d, by go_num, by omega, by omega, Pin.Aside.mk rfl, Pin.Aside.mk (Keep.refl _ _), HH, Pin.Aside.mk rfl⟩
  case round =>
    obtain ⟨i, dk, rfl, hai, hib, HS, HK, HR, HO⟩ := hrel
    rename_i wi
    by_cases hlt : i < b
    · have HO2 : Pin.Aside (Sort.insOuter Sort.ltInt a b (i + 1) (Sort.insInner Sort.ltInt a i dk) = Sort.insOuter Sort.ltInt a b (a + 1) d) := Pin.Aside.mk (by rw [← HO.out]; conv => rhs; rw [Sort.insOuter, if_pos hlt])
      clear HO
      go_wp2_with fail
      go_loopw [7] (fun vj wr2 => ∃ (j : Nat) (dj : Array Int), vj = .int .i64 j ∧ a ≤ j ∧ j ≤ i ∧ Pin.Aside (dj.size = d.size) ∧ Pin.Aside (Keep (fun k => k = Q) w wr2) ∧ Pin.Aside (URow wr2 Q o dj) ∧ Pin.Aside (Sort.insInner Sort.ltInt a j dj = Sort.insInner Sort.ltInt a i dk)) (fun vj _ => (intOf vj).toNat)
      case atStart => exact ⟨i, dk, rfl, by omega, Nat.le_refl _, HS, HK, HR, Pin.Aside.mk rfl⟩
      case round =>
        clear HS HK HR
        obtain ⟨j, dj, rfl, haj, hji, HS, HK, HR, HI⟩ := hrel
        rename_i wj
        by_cases hja : a < j
        · obtain ⟨x, hx⟩ : ∃ x, dj[j]! = x := ⟨_, rfl⟩
          obtain ⟨y, hy⟩ : ∃ y, dj[j - 1]! = y := ⟨_, rfl⟩
          have hcx := (HR.out.h j (by rw [HS.out]; omega)).1
          have hcy := (HR.out.h (j - 1) (by rw [HS.out]; omega)).1
          have hfx := (HR.out.h j (by rw [HS.out]; omega)).2
          have hfy := (HR.out.h (j - 1) (by rw [HS.out]; omega)).2
          rw [hx] at hcx
          rw [hy] at hcy
          have HX := Pin.Aside.mk hx
          have HY := Pin.Aside.mk hy
          clear hx hy
          have hj1 : IntKind.i64.wrap ((j : Int) - 1) = ((j - 1 : Nat) : Int) := by rw [IntKind.wrap_i64]; omega
          have hj2 : (0 : Int) ≤ (j : Int) - 1 := by omega
          have hj3 : ((j : Int) - 1).toNat = j - 1 := by omega
          have hjs : j < d.size := by omega
          have hjs2 : j - 1 < d.size := by omega
          have hjs3 : (j : Int) - 1 < (d.size : Int) := by omega
          cases hl : Sort.ltInt x y with
          | true =>
            go_wp2_with fail
            go_quiet ((go_at_call 81; exact Calls.quiet_of_same (u_less _ _ _)))
            go_wp2_with fail
            have hk1 := (Keep.refl (fun k => k = Q) wr).drewN nq
            go_region
            all_goals go_wp2_with fail
            have hk2 := (Keep.refl (fun k => k = Q) wr).drewN (nq + 1)
            have hr2 := (HR.out.drewN (nq + 1)).swp j (j - 1) (by rw [HS.out]; exact hjs) (by rw [HS.out]; exact hjs2)
            rw [HX.out, HY.out] at hr2
            go_roundw
            case rel => exact ⟨j - 1, Sort.swp dj j (j - 1), rfl, by omega, by omega, Pin.Aside.mk (by rw [Sort.swp_size]; exact HS.out), Pin.Aside.mk (Keep.swp _ (HK.out.trans hk2) _ _ _ _), Pin.Aside.mk hr2, Pin.Aside.mk (by rw [← HI.out, ← ins_go _ a j dj hja (by rw [HX.out, HY.out]; exact hl)])⟩
            case measure => simp [intOf]; omega
          | false =>
            go_wp2_with fail
            go_quiet ((go_at_call 81; exact Calls.quiet_of_same (u_less _ _ _)))
            go_wp2_with fail
            have hk1 := (Keep.refl (fun k => k = Q) wr).drewN nq
            go_roundw
            case rel => exact ⟨i + 1, dj, by go_num, by omega, by omega, HS, Pin.Aside.mk (HK.out.trans hk1), Pin.Aside.mk (HR.out.drewN nq), by rw [ins_stop _ _ _ _ (.inr (by rw [HX.out, HY.out]; exact hl))] at HI; rw [HI.out]; exact HO2⟩
            case measure => simp [intOf]; omega
        · go_wp2_with fail
          go_quiet ((go_at_call 81; exact Calls.quiet_of_same (u_less _ _ _)))
          go_wp2_with fail
          have hk1 := (Keep.refl (fun k => k = Q) wr).drewN nq
          go_roundw
          case rel => exact ⟨i + 1, dj, by go_num, by omega, by omega, HS, Pin.Aside.mk (HK.out.trans hk1), Pin.Aside.mk (HR.out.drewN nq), by rw [ins_stop _ _ _ _ (.inl (by omega))] at HI; rw [HI.out]; exact HO2⟩
          case measure => simp [intOf]; omega
    · go_wp2_with fail
      go_end0
      refine ⟨rfl, HK.out, ?_⟩
      unfold Sort.insertionSort
      rw [← HO.out]
      rw [Sort.insOuter, if_neg hlt]
      exact HR.out
set_option maxHeartbeats 1600000 in
/-- pdqsort of few numbers. -/
theorem u_pdq_few (Q o cap : Nat) (d : Array Int) (lim : Int) (w : World) (hH : URow w Q o d) (hb : d.size ≤ 12) :
    Calls Tryd.prog 63 #[.slice (some ⟨Q, o, none⟩) d.size cap, .int .i64 0, .int .i64 d.size, .int .i64 lim] w fun e w' => e = .returned (.tuple #[]) ∧ Keep (fun k => k = Q) w w' ∧ URow w' Q o (Sort.insertionSort Sort.ltInt d 0 d.size) := by
  have HI := Pin.Aside.mk (u_insertion Q o cap 0 d.size d w hH (by omega) (Nat.le_refl _) (by omega))
  clear hH
  go_enter Tryd.func63, Tryd.ntmps63
  go_wp2_with fail
  refine wp_loop_rounds 1 ?_
  rw [rounds_succ]
  go_wp2_with fail
  refine HI.out.mono ?_
  rintro e w1 ⟨rfl, hk, hr⟩
  have HR := Pin.Aside.mk hr
  clear hr
  go_wp2_with fail
  (try simp only [Exit.inBlock, Exit.then]); refine bodyPost_ret (results_none rfl _ _ _) rfl ?_
  exact ⟨rfl, hk, HR.out⟩
end Go.Proofs.YtpebpcmppcpkdaaDoor
