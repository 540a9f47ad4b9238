/- history: blocks in a slice; wrong, set. -/
import Derived.Test.YtnilfjkodlmenaaDoorHiQ
import Derived.Laws.OwnMore
set_option maxRecDepth 16000
namespace Go.Pin
open Go.RowKit
set_option linter.unusedVariables false
set_option linter.unusedSimpArgs false
theorem Keep.frozen_at {S : Nat → Prop} {a b : World} (h : Keep S a b) {p q : Addr} {v : Value} (hc : a.cell? p = some v) (hq : q.block = p.block) (hn : ¬ S q.block) : b.frozen? q = a.frozen? q :=
  h.frozen (by rw [hq]; exact World.block_lt_of_cell? _ _ hc) hn
/-- Blocks in a slice. -/
structure BlkAt (w : World) (v : Value) (B : List ByteArray) : Prop where
  of : (v = .slice none 0 0 ∧ B = []) ∨ ∃ b o c, v = .slice (some ⟨b, o, none⟩) B.length c ∧ B.length ≤ c ∧ b < w.heap.size ∧ ∀ j x, B[j]? = some x → w.cell? ⟨b, o + j, none⟩ = some (.string x)
theorem BlkAt.keep {a w : World} {v : Value} {B : List ByteArray} (h : BlkAt a v B) (hq : Keep (fun _ => False) a w) : BlkAt w v B := by
  rcases h.of with q | ⟨b, o, c, h1, h2, h3, h4⟩
  · exact ⟨.inl q⟩
  · exact ⟨.inr ⟨b, o, c, h1, h2, Nat.lt_of_lt_of_le h3 hq.size, fun j x hx => hq.cell (h4 j x hx) id⟩⟩
theorem BlkAt.below {a w : World} {v : Value} {B : List ByteArray} (h : BlkAt a v B) (hk : Below a.heap.size a w) : BlkAt w v B := h.keep (Keep.of_below hk fun _ q _ => q)
/-- What set answers. -/
def SetMade (B : List ByteArray) (w : World) (e : Ending) (w' : World) : Prop := ∃ v, e = .returned (.tuple #[v, .agg #[.int .i64 0, .string ⟨#[]⟩]]) ∧ BlkAt w' v B ∧ (∀ p n c, v = .slice p n c → ∀ b o, p = some ⟨b, o, none⟩ → w.heap.size ≤ b) ∧ Below w.heap.size w w'
end Go.Pin
namespace Go.Proofs.YtnilfjkodlmenaaDoor
open Go.RowKit Go.Pin
set_option linter.unusedVariables false
set_option linter.unusedSimpArgs false
set_option maxHeartbeats 800000 in
theorem hi_wrong (v : Value) (e : Int) (w : World) (hv : ∃ a n c, v = .slice a n c) :
    Calls Tryd.prog 31 #[v, .int .i64 e] w fun x w' => x = .returned (.tuple #[v, .agg #[.int .i64 e, .string ⟨#[]⟩]]) ∧ Below w.heap.size w w' := by
  obtain ⟨a, n, c, rfl⟩ := hv
  have hk0 := (Keep.refl (fun _ => False) w).alloc (.cells #[.int .i64 0, .string ⟨#[]⟩] 31)
  have hb := hk0.below (Nat.le_refl w.heap.size) fun _ q => q.elim
  have c0 : (w.alloc (.cells #[.int .i64 0, .string ⟨#[]⟩] 31)).cell? ⟨w.heap.size, 0, none⟩ = some (.int .i64 0) := by simp
  have c1 : (w.alloc (.cells #[.int .i64 0, .string ⟨#[]⟩] 31)).cell? ⟨w.heap.size, 1, none⟩ = some (.string ⟨#[]⟩) := by simp
  have f0 : (w.alloc (.cells #[.int .i64 0, .string ⟨#[]⟩] 31)).frozen? ⟨w.heap.size, 0, none⟩ = false := by simp
  have f1 : (w.alloc (.cells #[.int .i64 0, .string ⟨#[]⟩] 31)).frozen? ⟨w.heap.size, 1, none⟩ = false := by simp
  clear hk0
  go_enter Tryd.func31, Tryd.ntmps31
  go_upto_region 1 with fail
  generalize w.alloc (.cells #[.int .i64 0, .string ⟨#[]⟩] 31) = w1 at *
  obtain ⟨U, hU⟩ : ∃ U, w.heap.size = U := ⟨_, rfl⟩
  rw [hU] at hb c0 c1 f0 f1
  try rw [hU]
  have HU := Pin.Aside.mk hU
  clear hU
  go_wp2_with fail
  refine bodyPost_ret (v := .tuple #[.slice a n c, .agg #[.int .i64 e, .string ⟨#[]⟩]]) (by simp [results, Tryd.results31, go_sem, c0, c1]) rfl ⟨rfl, ?_⟩
  rw [HU.out]
  exact (hb.setCell (p := ⟨U, 0, none⟩) (Nat.le_refl _) _).setCell (p := ⟨U, 1, none⟩) (Nat.le_refl _) _
set_option maxHeartbeats 1600000 in
theorem hi_set (B : List ByteArray) (hB : B.length ≤ 128) (i : Nat) (hi : i < B.length) (s : ByteArray) (hs : s.size ≤ 64) (v : Value) (w : World) (hV : BlkAt w v B) :
    Calls Tryd.prog 34 #[v, .int .u64 (i : Int), .string s] w (SetMade (B.set i (hWhole s)) w) := by
  rcases hV.of with ⟨_, q⟩ | ⟨bk, o, c, rfl, hc, hbk, hcell⟩
  · rw [q] at hi; exact absurd hi (Nat.not_lt_zero _)
  have hk0 := (Keep.refl (fun _ => False) w).alloc (.cells #[.int .i64 0, .string ⟨#[]⟩] 31)
  have hb := hk0.below (Nat.le_refl w.heap.size) fun _ q => q.elim
  have HC := Pin.Aside.mk (fun j x hx => hk0.cell (hcell j x hx) id)
  have c0 : (w.alloc (.cells #[.int .i64 0, .string ⟨#[]⟩] 31)).cell? ⟨w.heap.size, 0, none⟩ = some (.int .i64 0) := by simp
  have c1 : (w.alloc (.cells #[.int .i64 0, .string ⟨#[]⟩] 31)).cell? ⟨w.heap.size, 1, none⟩ = some (.string ⟨#[]⟩) := by simp
  have f0 : (w.alloc (.cells #[.int .i64 0, .string ⟨#[]⟩] 31)).frozen? ⟨w.heap.size, 0, none⟩ = false := by simp
  have f1 : (w.alloc (.cells #[.int .i64 0, .string ⟨#[]⟩] 31)).frozen? ⟨w.heap.size, 1, none⟩ = false := by simp
  clear hk0 hcell hV
  have hlen : B.length = B.length := rfl
  obtain ⟨n, hn⟩ : ∃ n, B.length = n := ⟨_, rfl⟩
  have HN := Pin.Aside.mk hn
  rw [hn] at hi hB hc ⊢
  clear hlen hn
  have hi0 : (0 : Int) ≤ (i : Int) := by omega
  have hi1 : (i : Int) < (n : Int) := by omega
  have HW := Pin.Aside.mk (fun W => hi_whole s hs W)
  obtain ⟨t, ht⟩ : ∃ t, hWhole s = t := ⟨_, rfl⟩
  rw [ht] at HW ⊢
  clear ht
  go_enter Tryd.func34, Tryd.ntmps34
  go_upto_region 1 with fail
  generalize w.alloc (.cells #[.int .i64 0, .string ⟨#[]⟩] 31) = w1 at *
  obtain ⟨U, hU⟩ : ∃ U, w.heap.size = U := ⟨_, rfl⟩
  rw [hU] at hb c0 c1 f0 f1
  try rw [hU]
  have HU := Pin.Aside.mk hU
  clear hU
  have hUl : U < w1.heap.size := World.block_lt_of_cell? _ _ c0
  have HCl := Pin.Aside.mk (YtnilfjkodlmenaaDoorSh.slices_Clone_string bk o n c B w1 (by rw [HN.out]; exact Nat.le_refl _) (by omega) (fun j hj => HC.out j _ (by rw [List.getD, List.getElem?_eq_getElem hj]; rfl)))
  clear HC
  go_wp2_with fail
  refine HCl.out.mono ?_
  rintro x w2 ⟨v', rfl, hown, hne, hb2⟩
  obtain ⟨g, cap, rfl⟩ : ∃ g cap, v' = .slice (some ⟨g, 0, none⟩) n cap := by
    rcases hown.2 with ⟨q, q2⟩ | ⟨g, cap, cur, q, _⟩
    · omega
    · exact ⟨g, cap, q⟩
  have hgl : w1.heap.size ≤ g ∧ g < w2.heap.size ∧ n ≤ cap := by
    rcases hown.2 with ⟨q, q2⟩ | ⟨g', cap', cur, q, q1, q2, q3, _⟩
    · omega
    · injection q with q4 q5 q6
      injection q4 with q4
      injection q4 with q4
      subst q4 q6
      exact ⟨q1, (Array.getElem?_eq_some_iff.1 q2).1, q3⟩
  have hca : ∀ j x, B[j]? = some x → w2.cell? ⟨g, j, none⟩ = some (.string x) := fun j x hx => by
    have hj : j < B.length := (List.getElem?_eq_some_iff.1 hx).1
    rw [hown.cellAt j (by rw [HN.out] at hj; omega), List.getElem?_map, List.getElem?_take, if_pos (by rw [HN.out] at hj; exact hj), hx]
    rfl
  have hfa := hown.frozenAt i
  have hk2 : Keep (fun _ => False) w1 w2 := Keep.of_below hb2 fun _ q _ => q
  replace c0 := hk2.cell c0 id
  replace c1 := hk2.cell c1 id
  have g0 : w2.frozen? ⟨U, 0, none⟩ = false := (hk2.frozen (p := ⟨U, 0, none⟩) hUl id).trans f0
  have g1 : w2.frozen? ⟨U, 1, none⟩ = false := (hk2.frozen (p := ⟨U, 1, none⟩) hUl id).trans f1
  have hU2 : U < g := by omega
  replace hb := hb.trans (hb2.mono (by omega))
  clear f0 f1 hk2 hb2 hne hown HCl
  go_upto_region 2 with fail
  have HCA := Pin.Aside.mk hca
  have hBi : B[i]? = some (B[i]'(by rw [HN.out]; exact hi)) := List.getElem?_eq_getElem _
  have hci := hca i _ hBi
  clear hca hBi
  go_wp2_with fail
  refine (HW.out _).mono ?_
  rintro x w3 ⟨rfl, hb3⟩
  have hk3 : Keep (fun _ => False) w2 w3 := Keep.of_below hb3 fun _ q _ => q
  have hf3 : w3.frozen? ⟨g, i, none⟩ = false := (hk3.frozen_at (q := ⟨g, i, none⟩) hci rfl id).trans hfa
  have h03 : w3.frozen? ⟨U, 0, none⟩ = false := (hk3.frozen_at (q := ⟨U, 0, none⟩) c0 rfl id).trans g0
  have h13 : w3.frozen? ⟨U, 1, none⟩ = false := (hk3.frozen_at (q := ⟨U, 1, none⟩) c1 rfl id).trans g1
  replace c0 := hk3.cell c0 id
  replace c1 := hk3.cell c1 id
  replace hci := hk3.cell hci id
  have HCA3 := Pin.Aside.mk (fun j x hx => hk3.cell (HCA.out j x hx) id)
  replace hb := hb.trans (hb3.mono (by have := hb.size; have := HU.out; omega))
  have hg3 : g < w3.heap.size := Nat.lt_of_lt_of_le hgl.2.1 hk3.size
  clear hk3 hb3 hfa g0 g1 HCA HW
  have hks := (Keep.refl (fun k => k = g) w3).setCell (p := ⟨g, i, none⟩) (.inl rfl) (.string t)
  replace c0 := hks.cell c0 (by show ¬ U = g; omega)
  replace c1 := hks.cell c1 (by show ¬ U = g; omega)
  have k0 : (w3.setCell ⟨g, i, none⟩ (.string t)).frozen? ⟨U, 0, none⟩ = false := by rw [World.frozen?_setCell]; exact h03
  have k1 : (w3.setCell ⟨g, i, none⟩ (.string t)).frozen? ⟨U, 1, none⟩ = false := by rw [World.frozen?_setCell]; exact h13
  have HS : Pin.Aside (∀ j x, (B.set i t)[j]? = some x → (w3.setCell ⟨g, i, none⟩ (.string t)).cell? ⟨g, 0 + j, none⟩ = some (.string x)) := Pin.Aside.mk (by
    intro j x hx
    rw [Nat.zero_add]
    rw [List.getElem?_set] at hx
    by_cases hj : i = j
    · subst hj
      rw [if_pos rfl, if_pos (by rw [HN.out]; exact hi)] at hx
      cases hx
      exact World.cell?_setCell_same _ _ _ hci
    · rw [if_neg hj] at hx
      rw [World.cell?_setCell_other _ _ _ _ (by simp <;> omega)]
      exact HCA3.out j x hx)
  replace hb := hb.trans (hks.below (B := U) (by have := hb.size; have := HU.out; omega) (by rintro k rfl; omega))
  have hg4 : g < (w3.setCell ⟨g, i, none⟩ (.string t)).heap.size := Nat.lt_of_lt_of_le hg3 hks.size
  clear hks
  go_upto_region 3 with fail
  clear hci hf3 h03 h13 HCA3
  generalize w3.setCell ⟨g, i, none⟩ (.string t) = w4 at *
  go_wp2_with fail
  have hkz := ((Keep.refl (fun k => k = U) w4).setCell (p := ⟨U, 0, none⟩) (.inl rfl) (.int .i64 0)).setCell (p := ⟨U, 1, none⟩) (.inl rfl) (.string ⟨#[]⟩)
  refine bodyPost_ret (v := .tuple #[.slice (some ⟨g, 0, none⟩) n cap, .agg #[.int .i64 0, .string ⟨#[]⟩]]) (by simp [results, Tryd.results34, go_sem, c0, c1]) rfl ?_
  refine ⟨_, rfl, ⟨.inr ⟨g, 0, cap, by rw [List.length_set, HN.out], by rw [List.length_set, HN.out]; omega, Nat.lt_of_lt_of_le hg4 hkz.size, fun j x hx => hkz.cell (HS.out j x hx) (by show ¬ g = U; omega)⟩⟩, fun p n c q b o q2 => by injection q with q; rw [q2] at q; injection q with q; injection q with q; have := HU.out; omega, ?_⟩
  rw [HU.out]
  exact hb.trans (hkz.below (B := U) (by have := hb.size; have := HU.out; omega) (by rintro k rfl; exact Nat.le_refl _))
end Go.Proofs.YtnilfjkodlmenaaDoor
