/- history: the law's raw op, walked. -/
import Derived.Test.YtnilfjkodlmenaaDoorHiG
import Derived.Test.YtnilfjkodlmenaaDoorHiC
import Derived.Test.YtnilfjkodlmenaaDoorHiF
import Derived.Deep.MidRow
set_option maxRecDepth 16000
namespace Go.Pin
open Go.RowKit
set_option linter.unusedVariables false
set_option linter.unusedSimpArgs false
/-- A box of cells of the call's own. -/
structure BxAt (w : World) (E : Nat) (cs : List Value) : Prop where
  row : ∀ i v, cs[i]? = some v → w.cell? ⟨E, i, none⟩ = some v
  fr : ∀ i, w.frozen? ⟨E, i, none⟩ = false
  ne : 0 < cs.length
theorem BxAt.cell {w : World} {E : Nat} {cs : List Value} (h : BxAt w E cs) (i : Nat) (v : Value) (hv : cs[i]? = some v) : w.cell? ⟨E, i, none⟩ = some v := h.row i v hv
theorem BxAt.lt {w : World} {E : Nat} {cs : List Value} (h : BxAt w E cs) : E < w.heap.size := World.block_lt_of_cell? _ _ (h.row 0 _ (List.getElem?_eq_getElem h.ne))
theorem BxAt.new (w : World) (T : TypeId) (cs : List Value) (n : Nat) (hn : w.heap.size = n) (h : 0 < cs.length) : BxAt (w.alloc (.cells cs.toArray T)) n cs := by
  subst hn
  refine ⟨fun i v hv => ?_, fun i => by simp, h⟩
  rw [cell_of_row _ _ _ _ _ _ (Go.heap_alloc_new w _), List.getElem?_toArray]
  exact hv
theorem BxAt.keep {S : Nat → Prop} {a w : World} {E : Nat} {cs : List Value} (h : BxAt a E cs) (hk : Keep S a w) (hn : ¬ S E) : BxAt w E cs :=
  ⟨fun i v hv => hk.cell (h.row i v hv) hn, fun i => (hk.frozen_at (q := ⟨E, i, none⟩) (h.row 0 _ (List.getElem?_eq_getElem h.ne)) rfl hn).trans (h.fr i), h.ne⟩
theorem BxAt.set {w : World} {E : Nat} {cs : List Value} (h : BxAt w E cs) (i : Nat) (hi : i < cs.length) (v : Value) : BxAt (w.setCell ⟨E, i, none⟩ v) E (cs.set i v) := by
  refine ⟨fun j u hu => ?_, fun j => by rw [World.frozen?_setCell]; exact h.fr j, by rw [List.length_set]; exact h.ne⟩
  rw [List.getElem?_set] at hu
  by_cases hij : i = j
  · subst hij
    rw [if_pos rfl, if_pos hi] at hu
    cases hu
    exact World.cell?_setCell_same _ _ _ (h.cell i _ (List.getElem?_eq_getElem hi))
  · rw [if_neg hij] at hu
    rw [World.cell?_setCell_other _ _ _ _ (by simp <;> omega)]
    exact h.row j u hu
theorem rkind_at (k : Int) (q : Int) (hq : k % 7 = q) (h0 : 0 ≤ q) (h7 : q < 7) : ([.int .i64 1, .int .i64 1, .int .i64 2, .int .i64 3, .int .i64 11, .int .i64 100, .int .i64 100] : List Value)[q.toNat]? = some (.int .i64 (rkind k)) := by
  have : q = 0 ∨ q = 1 ∨ q = 2 ∨ q = 3 ∨ q = 4 ∨ q = 5 ∨ q = 6 := by omega
  unfold rkind
  rw [hq]
  rcases this with rfl | rfl | rfl | rfl | rfl | rfl | rfl <;> rfl
theorem rtext_at (k : Int) (q : Int) (hq : k % 3 = q) (h0 : 0 ≤ q) (h3 : q < 3) : ([.string ⟨#[]⟩, .string ⟨#[97]⟩, .string ⟨#[98]⟩] : List Value)[q.toNat]? = some (.string (rtext k)) := by
  have : q = 0 ∨ q = 1 ∨ q = 2 := by omega
  unfold rtext
  rw [hq]
  rcases this with rfl | rfl | rfl <;> rfl
end Go.Pin
namespace Go.Proofs.YtnilfjkodlmenaaDoor
open Go.RowKit Go.Pin
set_option linter.unusedVariables false
set_option linter.unusedSimpArgs false
set_option maxHeartbeats 6400000 in
theorem raw_op (r : HRaw) (hr : r.ok) (w : World) :
    Calls Tryd.prog 17 #[.agg r.cells] w fun x w' => x = .returned (.agg (rawOp r).cells) ∧ Below w.heap.size w w' := by
  have hk := ((Keep.refl (fun _ => False) w).alloc (.cells r.cells 35)).alloc (.cells #[.int .u64 0, .int .u64 0, .int .i64 0, .int .u64 0, .int .u64 0, .int .u64 0, .int .u64 0, .int .i64 0, .int .i64 0, .string ⟨#[]⟩, .string ⟨#[]⟩, .int .u64 0, .int .u64 0, .int .i64 0, .string ⟨#[]⟩] 33)
  obtain ⟨R, hR⟩ : ∃ R, w.heap.size = R := ⟨_, rfl⟩
  have hR1 : (w.alloc (.cells r.cells 35)).heap.size = R + 1 := by rw [← hR]; simp
  have hkz := (Keep.refl (fun _ => False) (w.alloc (.cells r.cells 35))).alloc (.cells #[.int .u64 0, .int .u64 0, .int .i64 0, .int .u64 0, .int .u64 0, .int .u64 0, .int .u64 0, .int .i64 0, .int .i64 0, .string ⟨#[]⟩, .string ⟨#[]⟩, .int .u64 0, .int .u64 0, .int .i64 0, .string ⟨#[]⟩] 33)
  have hP0 := BxAt.new w 35 r.cells.toList R hR (by show 0 < (23 : Nat); decide)
  have hP : BxAt ((w.alloc (.cells r.cells 35)).alloc (.cells #[.int .u64 0, .int .u64 0, .int .i64 0, .int .u64 0, .int .u64 0, .int .u64 0, .int .u64 0, .int .i64 0, .int .i64 0, .string ⟨#[]⟩, .string ⟨#[]⟩, .int .u64 0, .int .u64 0, .int .i64 0, .string ⟨#[]⟩] 33)) R r.cells.toList := BxAt.keep (S := fun _ => False) hP0 hkz id
  clear hkz
  have hZ : BxAt ((w.alloc (.cells r.cells 35)).alloc (.cells #[.int .u64 0, .int .u64 0, .int .i64 0, .int .u64 0, .int .u64 0, .int .u64 0, .int .u64 0, .int .i64 0, .int .i64 0, .string ⟨#[]⟩, .string ⟨#[]⟩, .int .u64 0, .int .u64 0, .int .i64 0, .string ⟨#[]⟩] 33)) (R + 1) [.int .u64 0, .int .u64 0, .int .i64 0, .int .u64 0, .int .u64 0, .int .u64 0, .int .u64 0, .int .i64 0, .int .i64 0, .string ⟨#[]⟩, .string ⟨#[]⟩, .int .u64 0, .int .u64 0, .int .i64 0, .string ⟨#[]⟩] := BxAt.new (w.alloc (.cells r.cells 35)) 33 [.int .u64 0, .int .u64 0, .int .i64 0, .int .u64 0, .int .u64 0, .int .u64 0, .int .u64 0, .int .i64 0, .int .i64 0, .string ⟨#[]⟩, .string ⟨#[]⟩, .int .u64 0, .int .u64 0, .int .i64 0, .string ⟨#[]⟩] (R + 1) hR1 (by show 0 < (15 : Nat); decide)
  have hRs : ((w.alloc (.cells r.cells 35)).alloc (.cells #[.int .u64 0, .int .u64 0, .int .i64 0, .int .u64 0, .int .u64 0, .int .u64 0, .int .u64 0, .int .i64 0, .int .i64 0, .string ⟨#[]⟩, .string ⟨#[]⟩, .int .u64 0, .int .u64 0, .int .i64 0, .string ⟨#[]⟩] 33)).heap.size = R + 2 := by simp [hR]
  obtain ⟨q7, hq7, hq70, hq71⟩ : ∃ q : Int, r.kind % 7 = q ∧ 0 ≤ q ∧ q < 7 := ⟨_, rfl, by omega, by omega⟩
  have tq7 : Int.tmod r.kind 7 = q7 := by rw [Int.tmod_eq_emod_of_nonneg hr.kind.1]; exact hq7
  obtain ⟨b3, hb3, hb30, hb31⟩ : ∃ q : Int, r.block % 3 = q ∧ 0 ≤ q ∧ q < 3 := ⟨_, rfl, by omega, by omega⟩
  have tb3 : Int.tmod r.block 3 = b3 := by rw [Int.tmod_eq_emod_of_nonneg hr.block.1]; exact hb3
  obtain ⟨m4, hm4, hm40, hm41⟩ : ∃ q : Int, r.many % 4 = q ∧ 0 ≤ q ∧ q < 4 := ⟨_, rfl, by omega, by omega⟩
  have tm4 : Int.tmod r.many 4 = m4 := by rw [Int.tmod_eq_emod_of_nonneg hr.many.1]; exact hm4
  obtain ⟨d3, hd3, hd30, hd31⟩ : ∃ q : Int, r.data % 3 = q ∧ 0 ≤ q ∧ q < 3 := ⟨_, rfl, by omega, by omega⟩
  have td3 : Int.tmod r.data 3 = d3 := by rw [Int.tmod_eq_emod_of_nonneg hr.data.1]; exact hd3
  obtain ⟨e3, he3, he30, he31⟩ : ∃ q : Int, r.old % 3 = q ∧ 0 ≤ q ∧ q < 3 := ⟨_, rfl, by omega, by omega⟩
  have te3 : Int.tmod r.old 3 = e3 := by rw [Int.tmod_eq_emod_of_nonneg hr.old.1]; exact he3
  obtain ⟨s12, hs12, hs120, hs121⟩ : ∃ q : Int, r.start % 12 = q ∧ 0 ≤ q ∧ q < 12 := ⟨_, rfl, by omega, by omega⟩
  have ts12 : Int.tmod r.start 12 = s12 := by rw [Int.tmod_eq_emod_of_nonneg hr.start.1]; exact hs12
  obtain ⟨l8, hl8, hl80, hl81⟩ : ∃ q : Int, r.long % 8 = q ∧ 0 ≤ q ∧ q < 8 := ⟨_, rfl, by omega, by omega⟩
  have tl8 : Int.tmod r.long 8 = l8 := by rw [Int.tmod_eq_emod_of_nonneg hr.long.1]; exact hl8
  have ub3 : IntKind.u64.wrap b3 = b3 := by rw [IntKind.wrap_u64]; omega
  have um4 : IntKind.u64.wrap m4 = m4 := by rw [IntKind.wrap_u64]; omega
  have us12 : IntKind.u64.wrap s12 = s12 := by rw [IntKind.wrap_u64]; omega
  have ul8 : IntKind.u64.wrap l8 = l8 := by rw [IntKind.wrap_u64]; omega
  have hK := rkind_at r.kind q7 hq7 hq70 hq71
  have hD := rtext_at r.data d3 hd3 hd30 hd31
  have hO := rtext_at r.old e3 he3 he30 he31
  have HOut : Pin.Aside (rawOp r = ⟨⟨0, 0, rkind r.kind, 0, 0, b3, m4, 0, 0, rtext r.data, rtext r.old⟩, s12, if 0 < l8 then s12 + l8 else 0, 0, ⟨#[]⟩⟩) := Pin.Aside.mk (by unfold rawOp rstop; rw [hb3, hm4, hs12, hl8])
  obtain ⟨K, hKq⟩ : ∃ K, rkind r.kind = K := ⟨_, rfl⟩
  obtain ⟨D, hDq⟩ : ∃ D, rtext r.data = D := ⟨_, rfl⟩
  obtain ⟨O, hOq⟩ : ∃ O, rtext r.old = O := ⟨_, rfl⟩
  rw [hKq] at hK HOut
  rw [hDq] at hD HOut
  rw [hOq] at hO HOut
  have HK := Pin.Aside.mk hK
  have HD := Pin.Aside.mk hD
  have HO := Pin.Aside.mk hO
  clear hKq hDq hOq hK hD hO hq7 hb3 hm4 hd3 he3 hs12 hl8 hR1
  have HP := Pin.Aside.mk hP
  have HZ := Pin.Aside.mk hZ
  clear hP hZ hr
  go_enter Tryd.func17, Tryd.ntmps17
  go_upto_region 1 with fail
  generalize (w.alloc (.cells r.cells 35)).alloc (.cells #[.int .u64 0, .int .u64 0, .int .i64 0, .int .u64 0, .int .u64 0, .int .u64 0, .int .u64 0, .int .i64 0, .int .i64 0, .string ⟨#[]⟩, .string ⟨#[]⟩, .int .u64 0, .int .u64 0, .int .i64 0, .string ⟨#[]⟩] 33) = w1 at *
  have HB := Pin.Aside.mk (hk.below (Nat.le_refl w.heap.size) fun _ q => q.elim)
  clear hk
  have HR := Pin.Aside.mk hR
  try rw [hR]
  clear hR
  have HRs := Pin.Aside.mk hRs
  clear hRs
  go_cut [3] (fun v wx => ∃ E, v = .pointer (some ⟨E, 0, none⟩) ∧ Pin.Aside (BxAt wx E [.int .u64 0, .int .u64 0, .int .i64 K, .int .u64 0, .int .u64 0, .int .u64 0, .int .u64 0, .int .i64 0, .int .i64 0, .string ⟨#[]⟩, .string ⟨#[]⟩]) ∧ Pin.Aside (R + 2 ≤ E) ∧ Pin.Aside (BxAt wx R r.cells.toList) ∧ Pin.Aside (BxAt wx (R + 1) [.int .u64 0, .int .u64 0, .int .i64 0, .int .u64 0, .int .u64 0, .int .u64 0, .int .u64 0, .int .i64 0, .int .i64 0, .string ⟨#[]⟩, .string ⟨#[]⟩, .int .u64 0, .int .u64 0, .int .i64 0, .string ⟨#[]⟩]) ∧ Pin.Aside (Below w.heap.size w wx))
  case first =>
    have hq7 : q7 = 0 ∨ q7 = 1 ∨ q7 = 2 ∨ q7 = 3 ∨ q7 = 4 ∨ q7 = 5 ∨ q7 = 6 := by omega
    have p15 := HP.out.cell 15 (.int .u8 r.kind) rfl
    have hk7 := (Keep.refl (fun _ => False) w1).alloc (.cells #[.int .i64 1, .int .i64 1, .int .i64 2, .int .i64 3, .int .i64 11, .int .i64 100, .int .i64 100] 3)
    have HK7 := Pin.Aside.mk hk7
    clear hk7
    rcases hq7 with rfl | rfl | rfl | rfl | rfl | rfl | rfl
    · have h1 : some (Value.int .i64 1) = some (.int .i64 K) := HK.out
      injection h1 with h1
      injection h1 with _ h1
      subst h1
      have hE1 : (w1.alloc (.cells #[.int .i64 1, .int .i64 1, .int .i64 2, .int .i64 3, .int .i64 11, .int .i64 100, .int .i64 100] 3)).heap.size = R + 2 + 1 := by rw [World.size_alloc', HRs.out]
      have HE := Pin.Aside.mk (BxAt.new (w1.alloc (.cells #[.int .i64 1, .int .i64 1, .int .i64 2, .int .i64 3, .int .i64 11, .int .i64 100, .int .i64 100] 3)) 28 [.int .u64 0, .int .u64 0, .int .i64 1, .int .u64 0, .int .u64 0, .int .u64 0, .int .u64 0, .int .i64 0, .int .i64 0, .string ⟨#[]⟩, .string ⟨#[]⟩] (R + 2 + 1) hE1 (by show 0 < (11 : Nat); decide))
      clear hE1
      have hRs := HRs.out
      go_wp2_with fail
      go_meet
      have hk2 := HK7.out.trans ((Keep.refl (fun _ => False) (w1.alloc (.cells #[.int .i64 1, .int .i64 1, .int .i64 2, .int .i64 3, .int .i64 11, .int .i64 100, .int .i64 100] 3))).alloc (.cells #[.int .u64 0, .int .u64 0, .int .i64 1, .int .u64 0, .int .u64 0, .int .u64 0, .int .u64 0, .int .i64 0, .int .i64 0, .string ⟨#[]⟩, .string ⟨#[]⟩] 28))
      exact ⟨R + 2 + 1, rfl, HE, Pin.Aside.mk (by omega), Pin.Aside.mk (HP.out.keep hk2 id), Pin.Aside.mk (HZ.out.keep hk2 id), Pin.Aside.mk (HB.out.trans (hk2.below HB.out.size fun _ q => q.elim))⟩
    · have h1 : some (Value.int .i64 1) = some (.int .i64 K) := HK.out
      injection h1 with h1
      injection h1 with _ h1
      subst h1
      have hE1 : (w1.alloc (.cells #[.int .i64 1, .int .i64 1, .int .i64 2, .int .i64 3, .int .i64 11, .int .i64 100, .int .i64 100] 3)).heap.size = R + 2 + 1 := by rw [World.size_alloc', HRs.out]
      have HE := Pin.Aside.mk (BxAt.new (w1.alloc (.cells #[.int .i64 1, .int .i64 1, .int .i64 2, .int .i64 3, .int .i64 11, .int .i64 100, .int .i64 100] 3)) 28 [.int .u64 0, .int .u64 0, .int .i64 1, .int .u64 0, .int .u64 0, .int .u64 0, .int .u64 0, .int .i64 0, .int .i64 0, .string ⟨#[]⟩, .string ⟨#[]⟩] (R + 2 + 1) hE1 (by show 0 < (11 : Nat); decide))
      clear hE1
      have hRs := HRs.out
      go_wp2_with fail
      go_meet
      have hk2 := HK7.out.trans ((Keep.refl (fun _ => False) (w1.alloc (.cells #[.int .i64 1, .int .i64 1, .int .i64 2, .int .i64 3, .int .i64 11, .int .i64 100, .int .i64 100] 3))).alloc (.cells #[.int .u64 0, .int .u64 0, .int .i64 1, .int .u64 0, .int .u64 0, .int .u64 0, .int .u64 0, .int .i64 0, .int .i64 0, .string ⟨#[]⟩, .string ⟨#[]⟩] 28))
      exact ⟨R + 2 + 1, rfl, HE, Pin.Aside.mk (by omega), Pin.Aside.mk (HP.out.keep hk2 id), Pin.Aside.mk (HZ.out.keep hk2 id), Pin.Aside.mk (HB.out.trans (hk2.below HB.out.size fun _ q => q.elim))⟩
    · have h1 : some (Value.int .i64 2) = some (.int .i64 K) := HK.out
      injection h1 with h1
      injection h1 with _ h1
      subst h1
      have hE1 : (w1.alloc (.cells #[.int .i64 1, .int .i64 1, .int .i64 2, .int .i64 3, .int .i64 11, .int .i64 100, .int .i64 100] 3)).heap.size = R + 2 + 1 := by rw [World.size_alloc', HRs.out]
      have HE := Pin.Aside.mk (BxAt.new (w1.alloc (.cells #[.int .i64 1, .int .i64 1, .int .i64 2, .int .i64 3, .int .i64 11, .int .i64 100, .int .i64 100] 3)) 28 [.int .u64 0, .int .u64 0, .int .i64 2, .int .u64 0, .int .u64 0, .int .u64 0, .int .u64 0, .int .i64 0, .int .i64 0, .string ⟨#[]⟩, .string ⟨#[]⟩] (R + 2 + 1) hE1 (by show 0 < (11 : Nat); decide))
      clear hE1
      have hRs := HRs.out
      go_wp2_with fail
      go_meet
      have hk2 := HK7.out.trans ((Keep.refl (fun _ => False) (w1.alloc (.cells #[.int .i64 1, .int .i64 1, .int .i64 2, .int .i64 3, .int .i64 11, .int .i64 100, .int .i64 100] 3))).alloc (.cells #[.int .u64 0, .int .u64 0, .int .i64 2, .int .u64 0, .int .u64 0, .int .u64 0, .int .u64 0, .int .i64 0, .int .i64 0, .string ⟨#[]⟩, .string ⟨#[]⟩] 28))
      exact ⟨R + 2 + 1, rfl, HE, Pin.Aside.mk (by omega), Pin.Aside.mk (HP.out.keep hk2 id), Pin.Aside.mk (HZ.out.keep hk2 id), Pin.Aside.mk (HB.out.trans (hk2.below HB.out.size fun _ q => q.elim))⟩
    · have h1 : some (Value.int .i64 3) = some (.int .i64 K) := HK.out
      injection h1 with h1
      injection h1 with _ h1
      subst h1
      have hE1 : (w1.alloc (.cells #[.int .i64 1, .int .i64 1, .int .i64 2, .int .i64 3, .int .i64 11, .int .i64 100, .int .i64 100] 3)).heap.size = R + 2 + 1 := by rw [World.size_alloc', HRs.out]
      have HE := Pin.Aside.mk (BxAt.new (w1.alloc (.cells #[.int .i64 1, .int .i64 1, .int .i64 2, .int .i64 3, .int .i64 11, .int .i64 100, .int .i64 100] 3)) 28 [.int .u64 0, .int .u64 0, .int .i64 3, .int .u64 0, .int .u64 0, .int .u64 0, .int .u64 0, .int .i64 0, .int .i64 0, .string ⟨#[]⟩, .string ⟨#[]⟩] (R + 2 + 1) hE1 (by show 0 < (11 : Nat); decide))
      clear hE1
      have hRs := HRs.out
      go_wp2_with fail
      go_meet
      have hk2 := HK7.out.trans ((Keep.refl (fun _ => False) (w1.alloc (.cells #[.int .i64 1, .int .i64 1, .int .i64 2, .int .i64 3, .int .i64 11, .int .i64 100, .int .i64 100] 3))).alloc (.cells #[.int .u64 0, .int .u64 0, .int .i64 3, .int .u64 0, .int .u64 0, .int .u64 0, .int .u64 0, .int .i64 0, .int .i64 0, .string ⟨#[]⟩, .string ⟨#[]⟩] 28))
      exact ⟨R + 2 + 1, rfl, HE, Pin.Aside.mk (by omega), Pin.Aside.mk (HP.out.keep hk2 id), Pin.Aside.mk (HZ.out.keep hk2 id), Pin.Aside.mk (HB.out.trans (hk2.below HB.out.size fun _ q => q.elim))⟩
    · have h1 : some (Value.int .i64 11) = some (.int .i64 K) := HK.out
      injection h1 with h1
      injection h1 with _ h1
      subst h1
      have hE1 : (w1.alloc (.cells #[.int .i64 1, .int .i64 1, .int .i64 2, .int .i64 3, .int .i64 11, .int .i64 100, .int .i64 100] 3)).heap.size = R + 2 + 1 := by rw [World.size_alloc', HRs.out]
      have HE := Pin.Aside.mk (BxAt.new (w1.alloc (.cells #[.int .i64 1, .int .i64 1, .int .i64 2, .int .i64 3, .int .i64 11, .int .i64 100, .int .i64 100] 3)) 28 [.int .u64 0, .int .u64 0, .int .i64 11, .int .u64 0, .int .u64 0, .int .u64 0, .int .u64 0, .int .i64 0, .int .i64 0, .string ⟨#[]⟩, .string ⟨#[]⟩] (R + 2 + 1) hE1 (by show 0 < (11 : Nat); decide))
      clear hE1
      have hRs := HRs.out
      go_wp2_with fail
      go_meet
      have hk2 := HK7.out.trans ((Keep.refl (fun _ => False) (w1.alloc (.cells #[.int .i64 1, .int .i64 1, .int .i64 2, .int .i64 3, .int .i64 11, .int .i64 100, .int .i64 100] 3))).alloc (.cells #[.int .u64 0, .int .u64 0, .int .i64 11, .int .u64 0, .int .u64 0, .int .u64 0, .int .u64 0, .int .i64 0, .int .i64 0, .string ⟨#[]⟩, .string ⟨#[]⟩] 28))
      exact ⟨R + 2 + 1, rfl, HE, Pin.Aside.mk (by omega), Pin.Aside.mk (HP.out.keep hk2 id), Pin.Aside.mk (HZ.out.keep hk2 id), Pin.Aside.mk (HB.out.trans (hk2.below HB.out.size fun _ q => q.elim))⟩
    · have h1 : some (Value.int .i64 100) = some (.int .i64 K) := HK.out
      injection h1 with h1
      injection h1 with _ h1
      subst h1
      have hE1 : (w1.alloc (.cells #[.int .i64 1, .int .i64 1, .int .i64 2, .int .i64 3, .int .i64 11, .int .i64 100, .int .i64 100] 3)).heap.size = R + 2 + 1 := by rw [World.size_alloc', HRs.out]
      have HE := Pin.Aside.mk (BxAt.new (w1.alloc (.cells #[.int .i64 1, .int .i64 1, .int .i64 2, .int .i64 3, .int .i64 11, .int .i64 100, .int .i64 100] 3)) 28 [.int .u64 0, .int .u64 0, .int .i64 100, .int .u64 0, .int .u64 0, .int .u64 0, .int .u64 0, .int .i64 0, .int .i64 0, .string ⟨#[]⟩, .string ⟨#[]⟩] (R + 2 + 1) hE1 (by show 0 < (11 : Nat); decide))
      clear hE1
      have hRs := HRs.out
      go_wp2_with fail
      go_meet
      have hk2 := HK7.out.trans ((Keep.refl (fun _ => False) (w1.alloc (.cells #[.int .i64 1, .int .i64 1, .int .i64 2, .int .i64 3, .int .i64 11, .int .i64 100, .int .i64 100] 3))).alloc (.cells #[.int .u64 0, .int .u64 0, .int .i64 100, .int .u64 0, .int .u64 0, .int .u64 0, .int .u64 0, .int .i64 0, .int .i64 0, .string ⟨#[]⟩, .string ⟨#[]⟩] 28))
      exact ⟨R + 2 + 1, rfl, HE, Pin.Aside.mk (by omega), Pin.Aside.mk (HP.out.keep hk2 id), Pin.Aside.mk (HZ.out.keep hk2 id), Pin.Aside.mk (HB.out.trans (hk2.below HB.out.size fun _ q => q.elim))⟩
    · have h1 : some (Value.int .i64 100) = some (.int .i64 K) := HK.out
      injection h1 with h1
      injection h1 with _ h1
      subst h1
      have hE1 : (w1.alloc (.cells #[.int .i64 1, .int .i64 1, .int .i64 2, .int .i64 3, .int .i64 11, .int .i64 100, .int .i64 100] 3)).heap.size = R + 2 + 1 := by rw [World.size_alloc', HRs.out]
      have HE := Pin.Aside.mk (BxAt.new (w1.alloc (.cells #[.int .i64 1, .int .i64 1, .int .i64 2, .int .i64 3, .int .i64 11, .int .i64 100, .int .i64 100] 3)) 28 [.int .u64 0, .int .u64 0, .int .i64 100, .int .u64 0, .int .u64 0, .int .u64 0, .int .u64 0, .int .i64 0, .int .i64 0, .string ⟨#[]⟩, .string ⟨#[]⟩] (R + 2 + 1) hE1 (by show 0 < (11 : Nat); decide))
      clear hE1
      have hRs := HRs.out
      go_wp2_with fail
      go_meet
      have hk2 := HK7.out.trans ((Keep.refl (fun _ => False) (w1.alloc (.cells #[.int .i64 1, .int .i64 1, .int .i64 2, .int .i64 3, .int .i64 11, .int .i64 100, .int .i64 100] 3))).alloc (.cells #[.int .u64 0, .int .u64 0, .int .i64 100, .int .u64 0, .int .u64 0, .int .u64 0, .int .u64 0, .int .i64 0, .int .i64 0, .string ⟨#[]⟩, .string ⟨#[]⟩] 28))
      exact ⟨R + 2 + 1, rfl, HE, Pin.Aside.mk (by omega), Pin.Aside.mk (HP.out.keep hk2 id), Pin.Aside.mk (HZ.out.keep hk2 id), Pin.Aside.mk (HB.out.trans (hk2.below HB.out.size fun _ q => q.elim))⟩
  case rest =>
    clear HP HZ HB HRs HK tq7 hq70 hq71
    obtain ⟨E, rfl, HE, hRE, HP, HZ, HB⟩ := hcut
    have HUR : Pin.Aside (w.heap.size ≤ R) := Pin.Aside.mk (Nat.le_of_eq HR.out)
    have c5 := HE.out.cell 5 (.int .u64 0) rfl
    have f5 := HE.out.fr 5
    have p16 := HP.out.cell 16 (.int .u8 r.block) rfl
    have hks := (Keep.refl (fun j => j = E) wc).setCell (p := ⟨E, 5, none⟩) (.inl rfl) (.int .u64 b3)
    replace HE : Pin.Aside (BxAt (wc.setCell ⟨E, 5, none⟩ (.int .u64 b3)) E [.int .u64 0, .int .u64 0, .int .i64 K, .int .u64 0, .int .u64 0, .int .u64 b3, .int .u64 0, .int .i64 0, .int .i64 0, .string ⟨#[]⟩, .string ⟨#[]⟩]) := Pin.Aside.mk (HE.out.set 5 (by show 5 < (11 : Nat); decide) (.int .u64 b3))
    replace HP := Pin.Aside.mk (HP.out.keep hks (by have := hRE.out; show ¬ R = E; omega))
    replace HZ := Pin.Aside.mk (HZ.out.keep hks (by have := hRE.out; show ¬ R + 1 = E; omega))
    replace HB := Pin.Aside.mk (HB.out.trans (hks.below HB.out.size (by have := hRE.out; have := HUR.out; rintro j rfl; omega)))
    clear hks
    go_upto_region 3 with fail
    clear c5 f5 p16
    generalize wc.setCell ⟨E, 5, none⟩ (.int .u64 b3) = w3 at *
    have c6 := HE.out.cell 6 (.int .u64 0) rfl
    have f6 := HE.out.fr 6
    have p17 := HP.out.cell 17 (.int .u8 r.many) rfl
    have hks := (Keep.refl (fun j => j = E) w3).setCell (p := ⟨E, 6, none⟩) (.inl rfl) (.int .u64 m4)
    replace HE : Pin.Aside (BxAt (w3.setCell ⟨E, 6, none⟩ (.int .u64 m4)) E [.int .u64 0, .int .u64 0, .int .i64 K, .int .u64 0, .int .u64 0, .int .u64 b3, .int .u64 m4, .int .i64 0, .int .i64 0, .string ⟨#[]⟩, .string ⟨#[]⟩]) := Pin.Aside.mk (HE.out.set 6 (by show 6 < (11 : Nat); decide) (.int .u64 m4))
    replace HP := Pin.Aside.mk (HP.out.keep hks (by have := hRE.out; show ¬ R = E; omega))
    replace HZ := Pin.Aside.mk (HZ.out.keep hks (by have := hRE.out; show ¬ R + 1 = E; omega))
    replace HB := Pin.Aside.mk (HB.out.trans (hks.below HB.out.size (by have := hRE.out; have := HUR.out; rintro j rfl; omega)))
    clear hks
    go_upto_region 4 with fail
    clear c6 f6 p17
    generalize w3.setCell ⟨E, 6, none⟩ (.int .u64 m4) = w4 at *
    go_cut [27] (fun v wx => Pin.Aside (BxAt wx E [.int .u64 0, .int .u64 0, .int .i64 K, .int .u64 0, .int .u64 0, .int .u64 b3, .int .u64 m4, .int .i64 0, .int .i64 0, .string D, .string ⟨#[]⟩]) ∧ Pin.Aside (BxAt wx R r.cells.toList) ∧ Pin.Aside (BxAt wx (R + 1) [.int .u64 0, .int .u64 0, .int .i64 0, .int .u64 0, .int .u64 0, .int .u64 0, .int .u64 0, .int .i64 0, .int .i64 0, .string ⟨#[]⟩, .string ⟨#[]⟩, .int .u64 0, .int .u64 0, .int .i64 0, .string ⟨#[]⟩]) ∧ Pin.Aside (Below w.heap.size w wx))
    case first =>
      have hq3 : d3 = 0 ∨ d3 = 1 ∨ d3 = 2 := by omega
      have hk3 := (Keep.refl (fun _ => False) w4).alloc (.cells #[.string ⟨#[]⟩, .string ⟨#[97]⟩, .string ⟨#[98]⟩] 9)
      have c9 := hk3.cell (HE.out.cell 9 (.string ⟨#[]⟩) rfl) id
      have p18 := hk3.cell (HP.out.cell 18 (.int .u8 r.data) rfl) id
      have f9 := (BxAt.keep (S := fun _ => False) HE.out hk3 id).fr 9
      have HE3 := Pin.Aside.mk (BxAt.keep (S := fun _ => False) HE.out hk3 id)
      have HP3 := Pin.Aside.mk (BxAt.keep (S := fun _ => False) HP.out hk3 id)
      have HZ3 := Pin.Aside.mk (BxAt.keep (S := fun _ => False) HZ.out hk3 id)
      have HB3 := Pin.Aside.mk (HB.out.trans (hk3.below HB.out.size fun _ q => q.elim))
      clear hk3
      rcases hq3 with rfl | rfl | rfl
      · have h1 : some (Value.string ⟨#[]⟩) = some (.string D) := HD.out
        injection h1 with h1
        injection h1 with h1
        subst h1
        go_wp2_with fail
        go_meet
        have hks := (Keep.refl (fun j => j = E) (w4.alloc (.cells #[.string ⟨#[]⟩, .string ⟨#[97]⟩, .string ⟨#[98]⟩] 9))).setCell (p := ⟨E, 9, none⟩) (.inl rfl) (.string ⟨#[]⟩)
        exact ⟨Pin.Aside.mk (HE3.out.set 9 (by show 9 < (11 : Nat); decide) (.string ⟨#[]⟩)), Pin.Aside.mk (HP3.out.keep hks (by have := hRE.out; show ¬ R = E; omega)), Pin.Aside.mk (HZ3.out.keep hks (by have := hRE.out; show ¬ R + 1 = E; omega)), Pin.Aside.mk (HB3.out.trans (hks.below HB3.out.size (by have := hRE.out; have := HUR.out; rintro j rfl; omega)))⟩
      · have h1 : some (Value.string ⟨#[97]⟩) = some (.string D) := HD.out
        injection h1 with h1
        injection h1 with h1
        subst h1
        go_wp2_with fail
        go_meet
        have hks := (Keep.refl (fun j => j = E) (w4.alloc (.cells #[.string ⟨#[]⟩, .string ⟨#[97]⟩, .string ⟨#[98]⟩] 9))).setCell (p := ⟨E, 9, none⟩) (.inl rfl) (.string ⟨#[97]⟩)
        exact ⟨Pin.Aside.mk (HE3.out.set 9 (by show 9 < (11 : Nat); decide) (.string ⟨#[97]⟩)), Pin.Aside.mk (HP3.out.keep hks (by have := hRE.out; show ¬ R = E; omega)), Pin.Aside.mk (HZ3.out.keep hks (by have := hRE.out; show ¬ R + 1 = E; omega)), Pin.Aside.mk (HB3.out.trans (hks.below HB3.out.size (by have := hRE.out; have := HUR.out; rintro j rfl; omega)))⟩
      · have h1 : some (Value.string ⟨#[98]⟩) = some (.string D) := HD.out
        injection h1 with h1
        injection h1 with h1
        subst h1
        go_wp2_with fail
        go_meet
        have hks := (Keep.refl (fun j => j = E) (w4.alloc (.cells #[.string ⟨#[]⟩, .string ⟨#[97]⟩, .string ⟨#[98]⟩] 9))).setCell (p := ⟨E, 9, none⟩) (.inl rfl) (.string ⟨#[98]⟩)
        exact ⟨Pin.Aside.mk (HE3.out.set 9 (by show 9 < (11 : Nat); decide) (.string ⟨#[98]⟩)), Pin.Aside.mk (HP3.out.keep hks (by have := hRE.out; show ¬ R = E; omega)), Pin.Aside.mk (HZ3.out.keep hks (by have := hRE.out; show ¬ R + 1 = E; omega)), Pin.Aside.mk (HB3.out.trans (hks.below HB3.out.size (by have := hRE.out; have := HUR.out; rintro j rfl; omega)))⟩
    case rest =>
      clear HE HP HZ HB HD
      obtain ⟨HE, HP, HZ, HB⟩ := hcut
      rename World => w5
      go_upto_region 5 with fail
      go_cut [34] (fun v wx => Pin.Aside (BxAt wx E [.int .u64 0, .int .u64 0, .int .i64 K, .int .u64 0, .int .u64 0, .int .u64 b3, .int .u64 m4, .int .i64 0, .int .i64 0, .string D, .string O]) ∧ Pin.Aside (BxAt wx R r.cells.toList) ∧ Pin.Aside (BxAt wx (R + 1) [.int .u64 0, .int .u64 0, .int .i64 0, .int .u64 0, .int .u64 0, .int .u64 0, .int .u64 0, .int .i64 0, .int .i64 0, .string ⟨#[]⟩, .string ⟨#[]⟩, .int .u64 0, .int .u64 0, .int .i64 0, .string ⟨#[]⟩]) ∧ Pin.Aside (Below w.heap.size w wx))
      case first =>
        have hq3 : e3 = 0 ∨ e3 = 1 ∨ e3 = 2 := by omega
        have hk3 := (Keep.refl (fun _ => False) w5).alloc (.cells #[.string ⟨#[]⟩, .string ⟨#[97]⟩, .string ⟨#[98]⟩] 9)
        have c10 := hk3.cell (HE.out.cell 10 (.string ⟨#[]⟩) rfl) id
        have p19 := hk3.cell (HP.out.cell 19 (.int .u8 r.old) rfl) id
        have f10 := (BxAt.keep (S := fun _ => False) HE.out hk3 id).fr 10
        have HE3 := Pin.Aside.mk (BxAt.keep (S := fun _ => False) HE.out hk3 id)
        have HP3 := Pin.Aside.mk (BxAt.keep (S := fun _ => False) HP.out hk3 id)
        have HZ3 := Pin.Aside.mk (BxAt.keep (S := fun _ => False) HZ.out hk3 id)
        have HB3 := Pin.Aside.mk (HB.out.trans (hk3.below HB.out.size fun _ q => q.elim))
        clear hk3
        rcases hq3 with rfl | rfl | rfl
        · have h1 : some (Value.string ⟨#[]⟩) = some (.string O) := HO.out
          injection h1 with h1
          injection h1 with h1
          subst h1
          go_wp2_with fail
          go_meet
          have hks := (Keep.refl (fun j => j = E) (w5.alloc (.cells #[.string ⟨#[]⟩, .string ⟨#[97]⟩, .string ⟨#[98]⟩] 9))).setCell (p := ⟨E, 10, none⟩) (.inl rfl) (.string ⟨#[]⟩)
          exact ⟨Pin.Aside.mk (HE3.out.set 10 (by show 10 < (11 : Nat); decide) (.string ⟨#[]⟩)), Pin.Aside.mk (HP3.out.keep hks (by have := hRE.out; show ¬ R = E; omega)), Pin.Aside.mk (HZ3.out.keep hks (by have := hRE.out; show ¬ R + 1 = E; omega)), Pin.Aside.mk (HB3.out.trans (hks.below HB3.out.size (by have := hRE.out; have := HUR.out; rintro j rfl; omega)))⟩
        · have h1 : some (Value.string ⟨#[97]⟩) = some (.string O) := HO.out
          injection h1 with h1
          injection h1 with h1
          subst h1
          go_wp2_with fail
          go_meet
          have hks := (Keep.refl (fun j => j = E) (w5.alloc (.cells #[.string ⟨#[]⟩, .string ⟨#[97]⟩, .string ⟨#[98]⟩] 9))).setCell (p := ⟨E, 10, none⟩) (.inl rfl) (.string ⟨#[97]⟩)
          exact ⟨Pin.Aside.mk (HE3.out.set 10 (by show 10 < (11 : Nat); decide) (.string ⟨#[97]⟩)), Pin.Aside.mk (HP3.out.keep hks (by have := hRE.out; show ¬ R = E; omega)), Pin.Aside.mk (HZ3.out.keep hks (by have := hRE.out; show ¬ R + 1 = E; omega)), Pin.Aside.mk (HB3.out.trans (hks.below HB3.out.size (by have := hRE.out; have := HUR.out; rintro j rfl; omega)))⟩
        · have h1 : some (Value.string ⟨#[98]⟩) = some (.string O) := HO.out
          injection h1 with h1
          injection h1 with h1
          subst h1
          go_wp2_with fail
          go_meet
          have hks := (Keep.refl (fun j => j = E) (w5.alloc (.cells #[.string ⟨#[]⟩, .string ⟨#[97]⟩, .string ⟨#[98]⟩] 9))).setCell (p := ⟨E, 10, none⟩) (.inl rfl) (.string ⟨#[98]⟩)
          exact ⟨Pin.Aside.mk (HE3.out.set 10 (by show 10 < (11 : Nat); decide) (.string ⟨#[98]⟩)), Pin.Aside.mk (HP3.out.keep hks (by have := hRE.out; show ¬ R = E; omega)), Pin.Aside.mk (HZ3.out.keep hks (by have := hRE.out; show ¬ R + 1 = E; omega)), Pin.Aside.mk (HB3.out.trans (hks.below HB3.out.size (by have := hRE.out; have := HUR.out; rintro j rfl; omega)))⟩
      case rest =>
        clear HE HP HZ HB HO
        obtain ⟨HE, HP, HZ, HB⟩ := hcut
        rename World => w6
        go_upto_region 6 with fail
        have c0 := HE.out.cell 0 (.int .u64 0) rfl
        have c1 := HE.out.cell 1 (.int .u64 0) rfl
        have c2 := HE.out.cell 2 (.int .i64 K) rfl
        have c3 := HE.out.cell 3 (.int .u64 0) rfl
        have c4 := HE.out.cell 4 (.int .u64 0) rfl
        have c5 := HE.out.cell 5 (.int .u64 b3) rfl
        have c6 := HE.out.cell 6 (.int .u64 m4) rfl
        have c7 := HE.out.cell 7 (.int .i64 0) rfl
        have c8 := HE.out.cell 8 (.int .i64 0) rfl
        have c9 := HE.out.cell 9 (.string D) rfl
        have c10 := HE.out.cell 10 (.string O) rfl
        
        have p20 := HP.out.cell 20 (.int .u8 r.start) rfl
        have hO : BxAt (w6.alloc (.cells #[.int .u64 0, .int .u64 0, .int .i64 K, .int .u64 0, .int .u64 0, .int .u64 b3, .int .u64 m4, .int .i64 0, .int .i64 0, .string D, .string O, .int .u64 s12, .int .u64 0, .int .i64 0, .string ⟨#[]⟩] 33)) w6.heap.size [.int .u64 0, .int .u64 0, .int .i64 K, .int .u64 0, .int .u64 0, .int .u64 b3, .int .u64 m4, .int .i64 0, .int .i64 0, .string D, .string O, .int .u64 s12, .int .u64 0, .int .i64 0, .string ⟨#[]⟩] := BxAt.new w6 33 [.int .u64 0, .int .u64 0, .int .i64 K, .int .u64 0, .int .u64 0, .int .u64 b3, .int .u64 m4, .int .i64 0, .int .i64 0, .string D, .string O, .int .u64 s12, .int .u64 0, .int .i64 0, .string ⟨#[]⟩] _ rfl (by show 0 < (15 : Nat); decide)
        have hk7 := (Keep.refl (fun _ => False) w6).alloc (.cells #[.int .u64 0, .int .u64 0, .int .i64 K, .int .u64 0, .int .u64 0, .int .u64 b3, .int .u64 m4, .int .i64 0, .int .i64 0, .string D, .string O, .int .u64 s12, .int .u64 0, .int .i64 0, .string ⟨#[]⟩] 33)
        have HP7 := Pin.Aside.mk (BxAt.keep (S := fun _ => False) HP.out hk7 id)
        have HZ7 := Pin.Aside.mk (BxAt.keep (S := fun _ => False) HZ.out hk7 id)
        have HB7 := Pin.Aside.mk (HB.out.trans (hk7.below HB.out.size fun _ q => q.elim))
        have hOZ : R + 1 < w6.heap.size := HZ.out.lt
        have HO := Pin.Aside.mk hO
        clear hk7 hO
        go_upto_region 7 with fail
        clear c0 c1 c2 c3 c4 c5 c6 c7 c8 c9 c10 p20 HE HP HZ HB
        generalize w6.alloc (.cells #[.int .u64 0, .int .u64 0, .int .i64 K, .int .u64 0, .int .u64 0, .int .u64 b3, .int .u64 m4, .int .i64 0, .int .i64 0, .string D, .string O, .int .u64 s12, .int .u64 0, .int .i64 0, .string ⟨#[]⟩] 33) = w7 at *
        generalize w6.heap.size = Q at *
        have p21 := HP7.out.cell 21 (.int .u8 r.long) rfl
        by_cases hl : 0 < l8
        · have hadd : IntKind.u64.wrap (s12 + l8) = s12 + l8 := by rw [IntKind.wrap_u64]; omega
          have c11 := HO.out.cell 11 (.int .u64 s12) rfl
          have c12 := HO.out.cell 12 (.int .u64 0) rfl
          have f12 := HO.out.fr 12
          have hks := (Keep.refl (fun j => j = Q) w7).setCell (p := ⟨Q, 12, none⟩) (.inl rfl) (.int .u64 (s12 + l8))
          have HO8 : Pin.Aside (BxAt (w7.setCell ⟨Q, 12, none⟩ (.int .u64 (s12 + l8))) Q [.int .u64 0, .int .u64 0, .int .i64 K, .int .u64 0, .int .u64 0, .int .u64 b3, .int .u64 m4, .int .i64 0, .int .i64 0, .string D, .string O, .int .u64 s12, .int .u64 (s12 + l8), .int .i64 0, .string ⟨#[]⟩]) := Pin.Aside.mk (HO.out.set 12 (by show 12 < (15 : Nat); decide) (.int .u64 (s12 + l8)))
          have HZ8 := Pin.Aside.mk (HZ7.out.keep hks (by show ¬ R + 1 = Q; omega))
          have HB8 := Pin.Aside.mk (HB7.out.trans (hks.below HB7.out.size (by have := HUR.out; rintro j rfl; omega)))
          clear hks
          go_upto_region 9 with fail
          clear c11 c12 f12 p21 HO HZ7 HB7 HP7
          generalize w7.setCell ⟨Q, 12, none⟩ (.int .u64 (s12 + l8)) = w8 at *
          have c0 := HO8.out.cell 0 (.int .u64 0) rfl
          have c1 := HO8.out.cell 1 (.int .u64 0) rfl
          have c2 := HO8.out.cell 2 (.int .i64 K) rfl
          have c3 := HO8.out.cell 3 (.int .u64 0) rfl
          have c4 := HO8.out.cell 4 (.int .u64 0) rfl
          have c5 := HO8.out.cell 5 (.int .u64 b3) rfl
          have c6 := HO8.out.cell 6 (.int .u64 m4) rfl
          have c7 := HO8.out.cell 7 (.int .i64 0) rfl
          have c8 := HO8.out.cell 8 (.int .i64 0) rfl
          have c9 := HO8.out.cell 9 (.string D) rfl
          have c10 := HO8.out.cell 10 (.string O) rfl
          have c11 := HO8.out.cell 11 (.int .u64 s12) rfl
          have c12 := HO8.out.cell 12 (.int .u64 (s12 + l8)) rfl
          have c13 := HO8.out.cell 13 (.int .i64 0) rfl
          have c14 := HO8.out.cell 14 (.string ⟨#[]⟩) rfl
          have z0 := HZ8.out.cell 0 (.int .u64 0) rfl
          have z1 := HZ8.out.cell 1 (.int .u64 0) rfl
          have z2 := HZ8.out.cell 2 (.int .i64 0) rfl
          have z3 := HZ8.out.cell 3 (.int .u64 0) rfl
          have z4 := HZ8.out.cell 4 (.int .u64 0) rfl
          have z5 := HZ8.out.cell 5 (.int .u64 0) rfl
          have z6 := HZ8.out.cell 6 (.int .u64 0) rfl
          have z7 := HZ8.out.cell 7 (.int .i64 0) rfl
          have z8 := HZ8.out.cell 8 (.int .i64 0) rfl
          have z9 := HZ8.out.cell 9 (.string ⟨#[]⟩) rfl
          have z10 := HZ8.out.cell 10 (.string ⟨#[]⟩) rfl
          have z11 := HZ8.out.cell 11 (.int .u64 0) rfl
          have z12 := HZ8.out.cell 12 (.int .u64 0) rfl
          have z13 := HZ8.out.cell 13 (.int .i64 0) rfl
          have z14 := HZ8.out.cell 14 (.string ⟨#[]⟩) rfl
          have fz0 := HZ8.out.fr 0
          have fz1 := HZ8.out.fr 1
          have fz2 := HZ8.out.fr 2
          have fz3 := HZ8.out.fr 3
          have fz4 := HZ8.out.fr 4
          have fz5 := HZ8.out.fr 5
          have fz6 := HZ8.out.fr 6
          have fz7 := HZ8.out.fr 7
          have fz8 := HZ8.out.fr 8
          have fz9 := HZ8.out.fr 9
          have fz10 := HZ8.out.fr 10
          have fz11 := HZ8.out.fr 11
          have fz12 := HZ8.out.fr 12
          have fz13 := HZ8.out.fr 13
          have fz14 := HZ8.out.fr 14
          
          go_wp2_with fail
          have hkz := ((((((((((((((((Keep.refl (fun j => j = R + 1) w8).setCell (p := ⟨R + 1, 0, none⟩) (.inl rfl) (.int .u64 0)).setCell (p := ⟨R + 1, 1, none⟩) (.inl rfl) (.int .u64 0)).setCell (p := ⟨R + 1, 2, none⟩) (.inl rfl) (.int .i64 K)).setCell (p := ⟨R + 1, 3, none⟩) (.inl rfl) (.int .u64 0)).setCell (p := ⟨R + 1, 4, none⟩) (.inl rfl) (.int .u64 0)).setCell (p := ⟨R + 1, 5, none⟩) (.inl rfl) (.int .u64 b3)).setCell (p := ⟨R + 1, 6, none⟩) (.inl rfl) (.int .u64 m4)).setCell (p := ⟨R + 1, 7, none⟩) (.inl rfl) (.int .i64 0)).setCell (p := ⟨R + 1, 8, none⟩) (.inl rfl) (.int .i64 0)).setCell (p := ⟨R + 1, 9, none⟩) (.inl rfl) (.string D)).setCell (p := ⟨R + 1, 10, none⟩) (.inl rfl) (.string O)).setCell (p := ⟨R + 1, 11, none⟩) (.inl rfl) (.int .u64 s12)).setCell (p := ⟨R + 1, 12, none⟩) (.inl rfl) (.int .u64 (s12 + l8))).setCell (p := ⟨R + 1, 13, none⟩) (.inl rfl) (.int .i64 0)).setCell (p := ⟨R + 1, 14, none⟩) (.inl rfl) (.string ⟨#[]⟩))
          clear c0 fz0 c1 fz1 c2 fz2 c3 fz3 c4 fz4 c5 fz5 c6 fz6 c7 fz7 c8 fz8 c9 fz9 c10 fz10 c11 fz11 c12 fz12 c13 fz13 c14 fz14
          refine bodyPost_ret (v := .agg #[.int .u64 0, .int .u64 0, .int .i64 K, .int .u64 0, .int .u64 0, .int .u64 b3, .int .u64 m4, .int .i64 0, .int .i64 0, .string D, .string O, .int .u64 s12, .int .u64 (s12 + l8), .int .i64 0, .string ⟨#[]⟩]) (by simp [results, Tryd.results17, go_sem, z0, z1, z2, z3, z4, z5, z6, z7, z8, z9, z10, z11, z12, z13, z14]) rfl ?_
          exact ⟨by rw [HOut.out, if_pos hl], HB8.out.trans (hkz.below HB8.out.size (by have := HUR.out; rintro j rfl; omega))⟩
        · have HO8 := HO
          have HZ8 := HZ7
          have HB8 := HB7
          clear HO HZ7 HB7
          go_upto_region 9 with fail
          clear p21 HP7
          have c0 := HO8.out.cell 0 (.int .u64 0) rfl
          have c1 := HO8.out.cell 1 (.int .u64 0) rfl
          have c2 := HO8.out.cell 2 (.int .i64 K) rfl
          have c3 := HO8.out.cell 3 (.int .u64 0) rfl
          have c4 := HO8.out.cell 4 (.int .u64 0) rfl
          have c5 := HO8.out.cell 5 (.int .u64 b3) rfl
          have c6 := HO8.out.cell 6 (.int .u64 m4) rfl
          have c7 := HO8.out.cell 7 (.int .i64 0) rfl
          have c8 := HO8.out.cell 8 (.int .i64 0) rfl
          have c9 := HO8.out.cell 9 (.string D) rfl
          have c10 := HO8.out.cell 10 (.string O) rfl
          have c11 := HO8.out.cell 11 (.int .u64 s12) rfl
          have c12 := HO8.out.cell 12 (.int .u64 0) rfl
          have c13 := HO8.out.cell 13 (.int .i64 0) rfl
          have c14 := HO8.out.cell 14 (.string ⟨#[]⟩) rfl
          have z0 := HZ8.out.cell 0 (.int .u64 0) rfl
          have z1 := HZ8.out.cell 1 (.int .u64 0) rfl
          have z2 := HZ8.out.cell 2 (.int .i64 0) rfl
          have z3 := HZ8.out.cell 3 (.int .u64 0) rfl
          have z4 := HZ8.out.cell 4 (.int .u64 0) rfl
          have z5 := HZ8.out.cell 5 (.int .u64 0) rfl
          have z6 := HZ8.out.cell 6 (.int .u64 0) rfl
          have z7 := HZ8.out.cell 7 (.int .i64 0) rfl
          have z8 := HZ8.out.cell 8 (.int .i64 0) rfl
          have z9 := HZ8.out.cell 9 (.string ⟨#[]⟩) rfl
          have z10 := HZ8.out.cell 10 (.string ⟨#[]⟩) rfl
          have z11 := HZ8.out.cell 11 (.int .u64 0) rfl
          have z12 := HZ8.out.cell 12 (.int .u64 0) rfl
          have z13 := HZ8.out.cell 13 (.int .i64 0) rfl
          have z14 := HZ8.out.cell 14 (.string ⟨#[]⟩) rfl
          have fz0 := HZ8.out.fr 0
          have fz1 := HZ8.out.fr 1
          have fz2 := HZ8.out.fr 2
          have fz3 := HZ8.out.fr 3
          have fz4 := HZ8.out.fr 4
          have fz5 := HZ8.out.fr 5
          have fz6 := HZ8.out.fr 6
          have fz7 := HZ8.out.fr 7
          have fz8 := HZ8.out.fr 8
          have fz9 := HZ8.out.fr 9
          have fz10 := HZ8.out.fr 10
          have fz11 := HZ8.out.fr 11
          have fz12 := HZ8.out.fr 12
          have fz13 := HZ8.out.fr 13
          have fz14 := HZ8.out.fr 14
          
          go_wp2_with fail
          have hkz := ((((((((((((((((Keep.refl (fun j => j = R + 1) w7).setCell (p := ⟨R + 1, 0, none⟩) (.inl rfl) (.int .u64 0)).setCell (p := ⟨R + 1, 1, none⟩) (.inl rfl) (.int .u64 0)).setCell (p := ⟨R + 1, 2, none⟩) (.inl rfl) (.int .i64 K)).setCell (p := ⟨R + 1, 3, none⟩) (.inl rfl) (.int .u64 0)).setCell (p := ⟨R + 1, 4, none⟩) (.inl rfl) (.int .u64 0)).setCell (p := ⟨R + 1, 5, none⟩) (.inl rfl) (.int .u64 b3)).setCell (p := ⟨R + 1, 6, none⟩) (.inl rfl) (.int .u64 m4)).setCell (p := ⟨R + 1, 7, none⟩) (.inl rfl) (.int .i64 0)).setCell (p := ⟨R + 1, 8, none⟩) (.inl rfl) (.int .i64 0)).setCell (p := ⟨R + 1, 9, none⟩) (.inl rfl) (.string D)).setCell (p := ⟨R + 1, 10, none⟩) (.inl rfl) (.string O)).setCell (p := ⟨R + 1, 11, none⟩) (.inl rfl) (.int .u64 s12)).setCell (p := ⟨R + 1, 12, none⟩) (.inl rfl) (.int .u64 0)).setCell (p := ⟨R + 1, 13, none⟩) (.inl rfl) (.int .i64 0)).setCell (p := ⟨R + 1, 14, none⟩) (.inl rfl) (.string ⟨#[]⟩))
          clear c0 fz0 c1 fz1 c2 fz2 c3 fz3 c4 fz4 c5 fz5 c6 fz6 c7 fz7 c8 fz8 c9 fz9 c10 fz10 c11 fz11 c12 fz12 c13 fz13 c14 fz14
          refine bodyPost_ret (v := .agg #[.int .u64 0, .int .u64 0, .int .i64 K, .int .u64 0, .int .u64 0, .int .u64 b3, .int .u64 m4, .int .i64 0, .int .i64 0, .string D, .string O, .int .u64 s12, .int .u64 0, .int .i64 0, .string ⟨#[]⟩]) (by simp [results, Tryd.results17, go_sem, z0, z1, z2, z3, z4, z5, z6, z7, z8, z9, z10, z11, z12, z13, z14]) rfl ?_
          exact ⟨by rw [HOut.out, if_neg (Int.not_lt.2 hl)], HB8.out.trans (hkz.below HB8.out.size (by have := HUR.out; rintro j rfl; omega))⟩
end Go.Proofs.YtnilfjkodlmenaaDoor
