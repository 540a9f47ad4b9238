import Derived.Test.YtpfkpaombiikcaaGreatDoorRfX
import Derived.BigRegion
/- What the document's device computes: New. -/
set_option maxRecDepth 16000
namespace Go.Pin
open Go.RowKit
set_option linter.unusedVariables false
set_option linter.unusedSimpArgs false
def three {α : Type} (a b c : α) : Nat → α := fun i => if i = 0 then a else if i = 1 then b else c
/-- Block b's first three cells hold rows of their own; what lies in each. -/
structure Grow (w : World) (b : Nat) (e : Nat → TypeId) (x : Nat → Value) (k : Nat → Nat) (v : Nat → Value) : Prop where
  cell : ∀ i, i < 3 → w.cell? ⟨b, i, none⟩ = some (v i)
  c3 : w.cell? ⟨b, 3, none⟩ = some (.int .i64 (-1))
  c4 : w.cell? ⟨b, 4, none⟩ = some (.bool false)
  fr : ∀ i, i < 5 → w.frozen? ⟨b, i, none⟩ = false
  own : ∀ i, i < 3 → w.ownsRow (b + 1) (e i) 1 (v i) (k i) (List.replicate (k i) (x i))
  apart : ∀ i j g, i < 3 → j < 3 → i ≠ j → (v i).ownBlock = some g → (v j).ownBlock ≠ some g
theorem Grow.lt {w : World} {b : Nat} {e : Nat → TypeId} {x : Nat → Value} {k : Nat → Nat} {v : Nat → Value} (h : Grow w b e x k v) : b < w.heap.size := World.block_lt_of_cell? (a := ⟨b, 3, none⟩) _ h.c3
theorem Grow.keep {a w : World} {b : Nat} {e : Nat → TypeId} {x : Nat → Value} {k : Nat → Nat} {v : Nat → Value} (h : Grow a b e x k v) (hk : Keep (fun _ => False) a w) : Grow w b e x k v :=
  ⟨fun i hi => hk.cell (h.cell i hi) id, hk.cell h.c3 id, hk.cell h.c4 id, fun i hi => by rw [hk.frozen (p := ⟨b, i, none⟩) h.lt id]; exact h.fr i hi,
    fun i hi => owns_keep (h.own i hi) hk fun _ _ => id, h.apart⟩
theorem own_far {w : World} {b e n : Nat} {v : Value} {xs : List Value} (h : w.ownsRow (b + 1) e 1 v n xs) : v.ownBlock ≠ some b := by
  rcases h.2 with ⟨rfl, _⟩ | ⟨g, cap, cur, rfl, hb, _⟩
  · simp [Value.ownBlock]
  · simp only [Value.ownBlock]
    intro q
    have : g = b := by simpa using q
    omega
theorem Grow.step {a w : World} {b : Nat} {e : Nat → TypeId} {x : Nat → Value} {k k' : Nat → Nat} {v v' : Nat → Value} (h : Grow a b e x k v) (i : Nat) (hi : i < 3) (hk' : k' i = k i + 1) (ho : ∀ j, j < 3 → j ≠ i → k' j = k j ∧ v' j = v j)
    {g c : Nat} (hv : v' i = .slice (some ⟨g, 0, none⟩) (k i + 1) c) (hown : w.ownsRow (b + 1) (e i) 1 (.slice (some ⟨g, 0, none⟩) (k i + 1) c) (k i + 1) (List.replicate (k i) (x i) ++ [x i])) (hg : a.grownBy w (v i).ownBlock) (hat : (v i).ownBlock = some g ∨ g = a.heap.size) :
    Grow (w.setCell ⟨b, i, none⟩ (.slice (some ⟨g, 0, none⟩) (k i + 1) c)) b e x k' v' := by
  have hkg := keep_of_grown hg
  have nb : ¬ (v i).ownBlock = some b := own_far (h.own i hi)
  have hks : Keep (fun j => j = b) w (w.setCell ⟨b, i, none⟩ (.slice (some ⟨g, 0, none⟩) (k i + 1) c)) := (Keep.refl (fun j => j = b) w).setCell (p := ⟨b, i, none⟩) (.inl rfl) _
  have far : ∀ j g', j < 3 → j ≠ i → (v j).ownBlock = some g' → g' ≠ g := by
    intro j g' hj hne hgj q
    subst q
    rcases hat with q | q
    · exact h.apart j i g' hj hi hne hgj q
    · have := ((h.own j hj).lt _ hgj).2; omega
  refine ⟨fun j hj => ?_, ?_, ?_, fun j hj => ?_, fun j hj => ?_, fun j1 j2 g' h1 h2 hne q1 q2 => ?_⟩
  · by_cases q : j = i
    · subst q
      rw [hv]
      exact World.cell?_setCell_same _ _ _ (hkg.cell (h.cell j hj) nb)
    · rw [World.cell?_setCell_other _ _ _ _ (fun r => q (congrArg Addr.off r).symm), (ho j hj q).2]
      exact hkg.cell (h.cell j hj) nb
  · rw [World.cell?_setCell_other _ _ _ _ (fun r => by have := congrArg Addr.off r; dsimp at this; omega)]; exact hkg.cell h.c3 nb
  · rw [World.cell?_setCell_other _ _ _ _ (fun r => by have := congrArg Addr.off r; dsimp at this; omega)]; exact hkg.cell h.c4 nb
  · rw [World.frozen?_setCell, hkg.frozen (p := ⟨b, j, none⟩) h.lt nb]; exact h.fr j hj
  · by_cases q : j = i
    · subst q
      rw [hv, hk', List.replicate_succ']
      exact owns_keep hown hks fun g' hg' q => by subst q; exact own_far hown hg'
    · rw [(ho j hj q).1, (ho j hj q).2]
      refine owns_keep (owns_keep (h.own j hj) hkg fun g' hg' r => ?_) hks fun g' hg' r => by subst r; exact own_far (h.own j hj) hg'
      exact h.apart j i g' hj hi q hg' r
  · by_cases r1 : j1 = i
    · subst r1
      rw [hv] at q1
      have e1 : g = g' := by simpa [Value.ownBlock] using q1
      rw [(ho j2 h2 (Ne.symm hne)).2] at q2
      exact far j2 g' h2 (Ne.symm hne) q2 e1.symm
    · rw [(ho j1 h1 r1).2] at q1
      by_cases r2 : j2 = i
      · subst r2
        rw [hv] at q2
        have e1 : g = g' := by simpa [Value.ownBlock] using q2
        exact far j1 g' h1 r1 q1 e1.symm
      · rw [(ho j2 h2 r2).2] at q2
        exact h.apart j1 j2 g' h1 h2 hne q1 q2
theorem Grow.ref {w : World} {b n : Nat} {e : Nat → TypeId} {x : Nat → Value} {v : Nat → Value} (h : Grow w b e x (three n n n) v) (hx0 : x 0 = .string secZ) (hx1 : x 1 = .string secZ) (hx2 : x 2 = .bool false) (h1 : 1 ≤ n) (h2 : n ≤ 4096) :
    ∃ N O V, RefAt w b N O V (dnew n) ∧ b < N ∧ b < O ∧ b < V := by
  obtain ⟨N, c0, e0, p0, q0, b0, l0, f0⟩ := RowAt.of_owns (h.own 0 (by omega)) (by show 0 < n; omega)
  obtain ⟨O, c1, e1, p1, q1, b1, l1, f1⟩ := RowAt.of_owns (h.own 1 (by omega)) (by show 0 < n; omega)
  obtain ⟨V, c2, e2, p2, q2, b2, l2, f2⟩ := RowAt.of_owns (h.own 2 (by omega)) (by show 0 < n; omega)
  have a01 := h.apart 0 1 N (by omega) (by omega) (by omega) (by rw [e0]; rfl)
  have a02 := h.apart 0 2 N (by omega) (by omega) (by omega) (by rw [e0]; rfl)
  have a12 := h.apart 1 2 O (by omega) (by omega) (by omega) (by rw [e1]; rfl)
  rw [e1] at a01
  rw [e2] at a02 a12
  have r0 := h.cell 0 (by omega)
  have r1 := h.cell 1 (by omega)
  have r2 := h.cell 2 (by omega)
  rw [e0] at r0
  rw [e1] at r1
  rw [e2] at r2
  have hn : (dnew n).n = n := dnew_n n
  have s0 : ∀ i, i < n → (dnew n).s i = secZ := fun i hi => by unfold dnew Dv.s; simp [List.getD, hi]
  have s1 : ∀ i, i < n → (dnew n).o i = secZ := fun i hi => by unfold dnew Dv.o; simp [List.getD, hi]
  have s2 : ∀ i, i < n → (dnew n).w i = false := fun i hi => by unfold dnew Dv.w; simp [List.getD, hi]
  refine ⟨N, O, V, ⟨dnew_ok n h1 h2, ⟨c0, by rw [hn]; exact p0, q0, by rw [hn]; exact r0⟩, ⟨c1, by rw [hn]; exact p1, q1, by rw [hn]; exact r1⟩, ⟨c2, by rw [hn]; exact p2, q2, by rw [hn]; exact r2⟩, h.c3, h.c4, h.fr, ?_, ?_, ?_, by omega, by omega, by omega,
    fun q => a01 (by rw [q]; rfl), fun q => a02 (by rw [q]; rfl), fun q => a12 (by rw [q]; rfl)⟩, by omega, by omega, by omega⟩
  · rw [hn]; exact f0 _ fun i hi => by rw [hx0, s0 i hi]; show (List.replicate n _)[i]? = _; rw [List.getElem?_replicate]; exact if_pos hi
  · rw [hn]; exact f1 _ fun i hi => by rw [hx1, s1 i hi]; show (List.replicate n _)[i]? = _; rw [List.getElem?_replicate]; exact if_pos hi
  · rw [hn]; exact f2 _ fun i hi => by rw [hx2, s2 i hi]; show (List.replicate n _)[i]? = _; rw [List.getElem?_replicate]; exact if_pos hi
end Go.Pin
namespace Go.Proofs.YtpfkpaombiikcaaGreatDoor
open Go.RowKit Go.Pin
set_option linter.unusedVariables false
set_option linter.unusedSimpArgs false
theorem str_info : (Tryz.prog.info? 9).map (fun i => (i.zero, i.size, i.bytes)) = some (some (.string ⟨#[]⟩), 1, 16) := by kernel_rfl
theorem bool_info : (Tryz.prog.info? 4).map (fun i => (i.zero, i.size, i.bytes)) = some (some (.bool false), 1, 1) := by kernel_rfl
theorem ref_new_bad (n : Int) (hn : n < 1 ∨ 4096 < n) (w : World) :
    Calls Tryz.prog 6 #[.int .i64 n] w fun e w' => e = .returned (.pointer none) ∧ w' = w := by
  rcases hn with h | h
  · go_enter Tryz.func6, Tryz.ntmps6
    go_wp2_with fail
    go_ret
    exact ⟨rfl, rfl⟩
  · have h0 : ¬ n < 1 := by omega
    go_enter Tryz.func6, Tryz.ntmps6
    go_wp2_with fail
    go_ret
    exact ⟨rfl, rfl⟩
theorem grown_held {w w' : World} {r : Option Nat} {p : Addr} {v : Value} (hg : w.grownBy w' r) (h : w.cell? p = some v ∧ w.frozen? p = false) (hn : ¬ r = some p.block) : w'.cell? p = some v ∧ w'.frozen? p = false :=
  ⟨(keep_of_grown hg).cell h.1 hn, by rw [(keep_of_grown hg).frozen (World.block_lt_of_cell? _ _ h.1) hn]; exact h.2⟩
theorem held_keep {S : Nat → Prop} {w w' : World} {p : Addr} {v : Value} (hg : Keep S w w') (h : w.cell? p = some v ∧ w.frozen? p = false) (hn : ¬ S p.block) : w'.cell? p = some v ∧ w'.frozen? p = false :=
  ⟨hg.cell h.1 hn, by rw [hg.frozen (World.block_lt_of_cell? _ _ h.1) hn]; exact h.2⟩
set_option maxHeartbeats 1600000 in
theorem ref_new (n : Nat) (h1 : 1 ≤ n) (h2 : n ≤ 4096) (w : World) :
    Calls Tryz.prog 6 #[.int .i64 (n : Int)] w fun e w' => ∃ b N O V, e = .returned (.pointer (some ⟨b, 0, none⟩)) ∧ w.heap.size ≤ b ∧ w.heap.size ≤ N ∧ w.heap.size ≤ O ∧ w.heap.size ≤ V ∧ RefAt w' b N O V (dnew n) ∧ Below w.heap.size w w' := by
  have g0 : ¬ ((n : Int) < 1) := by omega
  have g1 : ¬ ((4096 : Int) < (n : Int)) := by omega
  have hzz : zeros 64 = secZ := rfl
  obtain ⟨i0, hi0, hz0, hzs0, hzb0⟩ := info_parts str_info
  obtain ⟨i1, hi1, hz1, hzs1, hzb1⟩ := info_parts bool_info
  generalize hZ : secZ = Z at *
  have HZ := Aside.mk hZ
  clear hZ
  go_enter Tryz.func6, Tryz.ntmps6
  go_wp2_with fail
  go_loopw [4] (fun i wr => ∃ (k : Nat) (v0 v1 v2 : Value), k ≤ n ∧ i = .int .i64 k ∧ Grow wr w.heap.size (three 9 9 4) (three (.string Z) (.string Z) (.bool false)) (three k k k) (three v0 v1 v2) ∧ Below w.heap.size w wr) (fun i _ => n - (intOf i).toNat)
  case atStart =>
    refine ⟨0, .slice none 0 0, .slice none 0 0, .slice none 0 0, by omega, rfl, ⟨fun i hi => ?_, ?_, ?_, fun i hi => ?_, fun i hi => ⟨?_, .inl ⟨?_, ?_⟩⟩, fun i j g hi hj hne h1 h2 => ?_⟩, (Below.refl _ _).alloc (Nat.le_refl _) _⟩
    · rw [World.cell?_alloc_at _ _ _ _ rfl]
      rcases (show i = 0 ∨ i = 1 ∨ i = 2 by omega) with rfl | rfl | rfl <;> rfl
    · rw [World.cell?_alloc_at _ _ _ _ rfl]; rfl
    · rw [World.cell?_alloc_at _ _ _ _ rfl]; rfl
    · exact World.frozen?_alloc_at _ _ _ _ rfl
    · rcases (show i = 0 ∨ i = 1 ∨ i = 2 by omega) with rfl | rfl | rfl <;> rfl
    · rcases (show i = 0 ∨ i = 1 ∨ i = 2 by omega) with rfl | rfl | rfl <;> rfl
    · rcases (show i = 0 ∨ i = 1 ∨ i = 2 by omega) with rfl | rfl | rfl <;> rfl
    · rcases (show i = 0 ∨ i = 1 ∨ i = 2 by omega) with rfl | rfl | rfl <;> simp [three, Value.ownBlock] at h1
  case round =>
    obtain ⟨k, v0, v1, v2, hk, rfl, hG, hb⟩ := hrel
    by_cases hlt : k < n
    · have hltb := hG.lt
      have nb0 : ¬ v0.ownBlock = some w.heap.size := own_far (hG.own 0 (by omega))
      have r0 : wr.cell? ⟨w.heap.size, 0, none⟩ = some v0 := hG.cell 0 (by omega)
      have f0 := hG.fr 0 (by omega)
      have ho0 : wr.ownsRow (w.heap.size + 1) 9 1 v0 k (List.replicate k (.string Z)) := hG.own 0 (by omega)
      have hmk : ∀ W : World, (Instr.makeSlice 69 (.int .i64 64) (.int .i64 64)).run Tryz.prog W = .ok (.slice (some ⟨W.heap.size, 0, none⟩) 64 64) (W.alloc (.cells (Array.replicate 64 (.int .u8 0)) 5)) := fun W => make_u8 W 64 (by omega)
      have hcv : ∀ W : World, (convert 69 9 (.slice (some ⟨W.heap.size, 0, none⟩) 64 64)).run Tryz.prog (W.alloc (.cells (Array.replicate 64 (.int .u8 0)) 5)).drew = .ok (.string (zeros 64)) (W.alloc (.cells (Array.replicate 64 (.int .u8 0)) 5)).drew := fun W => conv_zeros_drew W 64
      rw [hzz] at hcv
      have hnew : (((wr.alloc (.cells (Array.replicate 64 (Value.int .u8 0)) 5)).alloc (.cells #[.string Z] 9)).drew).heap[wr.heap.size + 1]? = some (.cells #[.string Z] 9) := by
        have := Go.heap_alloc_new (wr.alloc (.cells (Array.replicate 64 (Value.int .u8 0)) 5)) (.cells #[.string Z] 9)
        rw [World.size_alloc] at this; exact this
      have HG := Aside.mk hG
      have Hzz := Aside.mk hzz
      generalize hM : Array.replicate 64 (Value.int .u8 0) = M at *
      clear hG hM hzz
      go_upto_region 7 with fail
      go_cut [] from 13 to 53 (fun wx => ∃ g cap : Nat, Grow wx w.heap.size (three 9 9 4) (three (.string Z) (.string Z) (.bool false)) (three (k+1) k k) (three (.slice (some ⟨g, 0, none⟩) (k + 1) cap) v1 v2) ∧ Below w.heap.size w wx)
      case first =>
        go_region_law ((refine step_append_lies _ (by rfl) _ _ _ (by rfl) (w.heap.size + 1) 9 i0 _ 1 16 Tryz.underlying65 hi0 hz0 hzs0 hzb0 rfl (by omega) v0 k (List.replicate k (.string Z)) (by rfl) (owns_keep ho0 (((Keep.refl (fun _ => False) wr).alloc _).alloc _).drew (fun _ _ => id)) ⟨wr.heap.size + 1, 0, none⟩ 1 1 [.string Z] (by rfl) (by rfl) (World.news_of_block (cs := #[.string Z]) (t := 9) (fr := (0, 0)) hnew) (by simp [Value.oneCell']) (by omega) (by unfold maxLen; omega) (by omega) (by simp; omega) (wr.heap.size + 2) (by simp) ?_; intro g cap w1 hown1 hgrow hat hltg; obtain ⟨t0, u0⟩ := grown_held hgrow (held_keep ((((Keep.refl (fun _ => False) wr).alloc _).alloc _).drew) ⟨r0, f0⟩ id) nb0))
        all_goals
          go_wp2_with fail
          go_meet
          have hka := (((Keep.refl (fun _ => False) wr).alloc (.cells M 5)).alloc (.cells #[.string Z] 9)).drew
          refine ⟨g, cap, Grow.step (g := g) (c := cap) (k' := three (k+1) k k) (v' := three (.slice (some ⟨g, 0, none⟩) (k + 1) cap) v1 v2) (HG.out.keep hka) 0 (by omega) rfl (fun j hj3 hj => ?_) rfl hown1 hgrow ?_, ?_⟩
          · rcases (show j = 1 ∨ j = 2 by omega) with rfl | rfl <;> exact ⟨rfl, rfl⟩
          · rcases hat with q | q
            · exact .inl q
            · refine .inr ?_
              show g = ((wr.alloc _).alloc _).heap.size
              rw [q]; simp
          · have hb1 := hb.trans (hka.below hb.size fun _ h => h.elim)
            have hb2 := hb1.grown hgrow hb1.size (fun g' hg' => Nat.le_of_lt (ho0.lt g' hg').1)
            exact hb2.setCell (p := ⟨w.heap.size, 0, none⟩) (Nat.le_refl _) _
      case rest =>
        clear r0 f0 ho0 hmk hcv hnew HG hb nb0 hltb
        obtain ⟨g0, cap0, hG, hb⟩ := hcut
        have hltb := hG.lt
        have nb1 : ¬ v1.ownBlock = some w.heap.size := own_far (hG.own 1 (by omega))
        have r0 : wc.cell? ⟨w.heap.size, 0, none⟩ = some (.slice (some ⟨g0, 0, none⟩) (k + 1) cap0) := hG.cell 0 (by omega)
        have r1 : wc.cell? ⟨w.heap.size, 1, none⟩ = some v1 := hG.cell 1 (by omega)
        have f1 := hG.fr 1 (by omega)
        have ho0 : wc.ownsRow (w.heap.size + 1) 9 1 (.slice (some ⟨g0, 0, none⟩) (k + 1) cap0) (k + 1) (List.replicate (k + 1) (.string Z)) := hG.own 0 (by omega)
        have ho1 : wc.ownsRow (w.heap.size + 1) 9 1 v1 k (List.replicate k (.string Z)) := hG.own 1 (by omega)
        have rk : wc.cell? ⟨g0, k, none⟩ = some (.string Z) := by
          have := ho0.cells (g := g0) rfl k (.string Z) (by rw [List.getElem?_replicate]; exact if_pos (by omega))
          rw [Addr.add_mid, Nat.zero_add] at this; exact this
        have hk0 : (0 : Int) ≤ (k : Int) := by omega
        have hk1 : (k : Int) < (k : Int) + 1 := by omega
        have hnew : ((wc.alloc (.cells #[.string Z] 9)).drew).heap[wc.heap.size]? = some (.cells #[.string Z] 9) := Go.heap_alloc_new wc (.cells #[.string Z] 9)
        have HG := Aside.mk hG
        clear hG
        go_upto_region 8 with fail
        go_cut [] from 13 to 53 (fun wx => ∃ g cap : Nat, Grow wx w.heap.size (three 9 9 4) (three (.string Z) (.string Z) (.bool false)) (three (k+1) (k+1) k) (three (.slice (some ⟨g0, 0, none⟩) (k + 1) cap0) (.slice (some ⟨g, 0, none⟩) (k + 1) cap) v2) ∧ Below w.heap.size w wx)
        case first =>
          go_region_law ((refine step_append_lies _ (by rfl) _ _ _ (by rfl) (w.heap.size + 1) 9 i0 _ 1 16 Tryz.underlying65 hi0 hz0 hzs0 hzb0 rfl (by omega) v1 k (List.replicate k (.string Z)) (by rfl) (owns_keep ho1 ((Keep.refl (fun _ => False) wc).alloc _).drew (fun _ _ => id)) ⟨wc.heap.size, 0, none⟩ 1 1 [.string Z] (by rfl) (by rfl) (World.news_of_block (cs := #[.string Z]) (t := 9) (fr := (0, 0)) hnew) (by simp [Value.oneCell']) (by omega) (by unfold maxLen; omega) (by omega) (by simp; omega) (wc.heap.size + 1) (by simp) ?_; intro g cap w1 hown1 hgrow hat hltg; obtain ⟨t0, u0⟩ := grown_held hgrow (held_keep (((Keep.refl (fun _ => False) wc).alloc _).drew) ⟨r1, f1⟩ id) nb1))
          all_goals
            go_wp2_with fail
            go_meet
            have hka := ((Keep.refl (fun _ => False) wc).alloc (.cells #[.string Z] 9)).drew
            refine ⟨g, cap, Grow.step (g := g) (c := cap) (k' := three (k+1) (k+1) k) (v' := three (.slice (some ⟨g0, 0, none⟩) (k + 1) cap0) (.slice (some ⟨g, 0, none⟩) (k + 1) cap) v2) (HG.out.keep hka) 1 (by omega) rfl (fun j hj3 hj => ?_) rfl hown1 hgrow ?_, ?_⟩
            · rcases (show j = 0 ∨ j = 2 by omega) with rfl | rfl <;> exact ⟨rfl, rfl⟩
            · rcases hat with q | q
              · exact .inl q
              · refine .inr ?_
                show g = (wc.alloc _).heap.size
                rw [q]; simp
            · have hb1 := hb.trans (hka.below hb.size fun _ h => h.elim)
              have hb2 := hb1.grown hgrow hb1.size (fun g' hg' => Nat.le_of_lt (ho1.lt g' hg').1)
              exact hb2.setCell (p := ⟨w.heap.size, 1, none⟩) (Nat.le_refl _) _
        case rest =>
          clear r0 r1 f1 ho0 ho1 rk hk0 hk1 hnew HG hb nb1 hltb
          obtain ⟨g1, cap1, hG, hb⟩ := hcut
          have hltb := hG.lt
          have nb2 : ¬ v2.ownBlock = some w.heap.size := own_far (hG.own 2 (by omega))
          have r2 : wc.cell? ⟨w.heap.size, 2, none⟩ = some v2 := hG.cell 2 (by omega)
          have f2 := hG.fr 2 (by omega)
          have ho2 : wc.ownsRow (w.heap.size + 1) 4 1 v2 k (List.replicate k (.bool false)) := hG.own 2 (by omega)
          have hnew : ((wc.alloc (.cells #[.bool false] 4))).heap[wc.heap.size]? = some (.cells #[.bool false] 4) := Go.heap_alloc_new wc (.cells #[.bool false] 4)
          have HG := Aside.mk hG
          clear hG
          go_wp2_with (at_builtin; refine wpList_append_lies _ rfl _ _ _ rfl (w.heap.size + 1) 4 i1 _ 1 1 Tryz.underlying66 hi1 hz1 hzs1 hzb1 rfl (by omega) v2 k (List.replicate k (.bool false)) rfl (owns_keep ho2 ((Keep.refl (fun _ => False) wc).alloc _) (fun _ _ => id)) ⟨wc.heap.size, 0, none⟩ 1 1 [.bool false] rfl rfl (World.news_of_block (cs := #[.bool false]) (t := 4) (fr := (0, 0)) hnew) (by simp [Value.oneCell']) (by omega) (by unfold maxLen; omega) (by omega) (by simp; omega) (wc.heap.size + 1) (by simp) ?_)
          intro g cap w1 hown1 hgrow hat hltg
          obtain ⟨t0, u0⟩ := grown_held hgrow (held_keep ((Keep.refl (fun _ => False) wc).alloc _) ⟨r2, f2⟩ id) nb2
          clear r2 f2 hnew
          go_wp2_with fail
          go_roundw
          case rel =>
            have hka := ((Keep.refl (fun _ => False) wc).alloc (.cells #[.bool false] 4))
            refine ⟨k + 1, .slice (some ⟨g0, 0, none⟩) (k + 1) cap0, .slice (some ⟨g1, 0, none⟩) (k + 1) cap1, .slice (some ⟨g, 0, none⟩) (k + 1) cap, by omega, by go_num, Grow.step (g := g) (c := cap) (k' := three (k+1) (k+1) (k+1)) (v' := three (.slice (some ⟨g0, 0, none⟩) (k + 1) cap0) (.slice (some ⟨g1, 0, none⟩) (k + 1) cap1) (.slice (some ⟨g, 0, none⟩) (k + 1) cap)) (HG.out.keep hka) 2 (by omega) rfl (fun j hj3 hj => ?_) rfl hown1 hgrow ?_, ?_⟩
            · rcases (show j = 0 ∨ j = 1 by omega) with rfl | rfl <;> exact ⟨rfl, rfl⟩
            · rcases hat with q | q
              · exact .inl q
              · refine .inr ?_
                show g = (wc.alloc _).heap.size
                rw [q]; simp
            · have hb1 := hb.trans (hka.below hb.size fun _ h => h.elim)
              have hb2 := hb1.grown hgrow hb1.size (fun g' hg' => Nat.le_of_lt (ho2.lt g' hg').1)
              exact hb2.setCell (p := ⟨w.heap.size, 2, none⟩) (Nat.le_refl _) _
          case measure => simp [intOf]; omega
    · obtain rfl : k = n := by omega
      have hx := hG.ref (by show Value.string Z = _; rw [HZ.out]) (by show Value.string Z = _; rw [HZ.out]) rfl h1 h2
      obtain ⟨N, O, V, hR, p1, p2, p3⟩ := hx
      have HR := Aside.mk hR
      clear hR hG
      go_wp2_with fail
      go_ret
      exact ⟨_, N, O, V, rfl, Nat.le_refl _, by omega, by omega, by omega, HR.out, hb⟩
end Go.Proofs.YtpfkpaombiikcaaGreatDoor
