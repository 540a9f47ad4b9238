/- vdisk.keys: a map's keys, rising. -/
import Derived.Test.YtpebpcmppcpkdaaDoorUSort
import Derived.Test.YtpebpcmppcpkdaaDoorVdY
import Derived.OwnWalk
set_option maxRecDepth 16000
namespace Go.Pin
open Go.RowKit
set_option linter.unusedVariables false
set_option linter.unusedSimpArgs false
/-- From the head of block g on lie the numbers zs. -/
def U64At (w : World) (g : Nat) (zs : List Int) : Prop := (∀ j, j < zs.length → w.cell? ⟨g, j, none⟩ = some (.int .u64 (zs.getD j 0))) ∧ ∃ cs fr, w.heap[g]? = some (.cells cs 25 fr)
theorem U64At.block {a w : World} {g : Nat} {zs : List Int} (h : U64At a g zs) (hb : w.heap[g]? = a.heap[g]?) : U64At w g zs := by
  obtain ⟨h1, cs, fr, h2⟩ := h
  exact ⟨fun j hj => by rw [← h1 j hj]; exact World.cell?_of_block (w := a) (a := ⟨g, j, none⟩) hb, cs, fr, by rw [hb]; exact h2⟩
theorem U64At.lt {a : World} {g : Nat} {zs : List Int} (h : U64At a g zs) : g < a.heap.size := by
  obtain ⟨_, cs, fr, h2⟩ := h
  exact (Array.getElem?_eq_some_iff.1 h2).1
theorem U64At.keep {S : Nat → Prop} {a w : World} {g : Nat} {zs : List Int} (h : U64At a g zs) (hk : Keep S a w) (hn : ¬ S g) : U64At w g zs := h.block (hk.block g h.lt hn)
theorem keep_of_grown {w w' : World} {r : Option Nat} (h : w.grownBy w' r) : Keep (fun k => r = some k) w w' := ⟨h.os, h.tape, h.output, h.size, fun k hk hn => h.block k hk fun e => hn e.symm⟩
theorem owns_ne_iter {w : World} {base : Nat} {e : TypeId} {sz n : Nat} {v : Value} {xs : List Value} (h : w.ownsRow base e sz v n xs) {r m : Nat} {kk : IntKind} {L left : List Ent} (hr : RangeAt w r m kk L left) : ¬ v.ownBlock = some r ∧ ¬ v.ownBlock = some m := by
  obtain ⟨es, clock, seen, since, c0, h1, h2, _⟩ := hr
  rcases h.2 with ⟨rfl, _⟩ | ⟨g, cap, cur, rfl, hb, hgg, _⟩
  · simp [Value.ownBlock]
  · constructor
    · intro q
      have : g = r := by simpa [Value.ownBlock] using q
      subst this; rw [hgg] at h1; cases h1
    · intro q
      have : g = m := by simpa [Value.ownBlock] using q
      subst this; rw [hgg] at h2; cases h2
theorem owns_form {w : World} {base : Nat} {e : TypeId} {n : Nat} {v : Value} {xs : List Value} (h : w.ownsRow base e 1 v n xs) :
    ∃ a c, v = .slice a n c ∧ (0 < n → ∃ g cur, a = some ⟨g, 0, none⟩ ∧ base ≤ g ∧ w.heap[g]? = some (.cells cur e (0, 0)) ∧ ∀ j u, xs[j]? = some u → w.cell? ⟨g, j, none⟩ = some u) := by
  rcases h.2 with ⟨hv, hn⟩ | ⟨g, cap, cur, hv, hb, hgg, _⟩
  · exact ⟨none, 0, by rw [hv, hn], fun q => by omega⟩
  · refine ⟨some ⟨g, 0, none⟩, cap, hv, fun _ => ⟨g, cur, rfl, hb, hgg, fun j u hu => ?_⟩⟩
    subst hv
    have := h.cells (g := g) rfl j u hu
    rw [Addr.add_mid, Nat.zero_add] at this; exact this
theorem perm_left {left : List Ent} {k : Int} {v : Value} (hn : (left.map (·.1)).Nodup) (hm : (k, v) ∈ left) : List.Perm (left.map (·.1)) (k :: (left.filter fun p => decide (p.1 ≠ k)).map (·.1)) := by
  induction left with
  | nil => cases hm
  | cons p left ih =>
    rw [List.map_cons, List.nodup_cons] at hn
    rcases List.mem_cons.1 hm with h | h
    · subst h
      have : (left.filter fun q => decide (q.1 ≠ k)) = left := List.filter_eq_self.2 fun q hq => by
        simpa using fun e => hn.1 (List.mem_map.2 ⟨q, hq, e⟩)
      rw [List.filter_cons_of_neg (by simp), this]
      exact List.Perm.refl _
    · have hne : p.1 ≠ k := fun e => hn.1 (List.mem_map.2 ⟨(k, v), h, e.symm⟩)
      rw [List.filter_cons_of_pos (by simpa using hne), List.map_cons, List.map_cons]
      exact (List.Perm.cons _ (ih hn.2 h)).trans (List.Perm.swap _ _ _)
theorem sub_nodup {left : List Ent} {k : Int} (hn : (left.map (·.1)).Nodup) : ((left.filter fun p => decide (p.1 ≠ k)).map (·.1)).Nodup :=
  hn.sublist (List.Sublist.map _ List.filter_sublist)
end Go.Pin
namespace Go.Proofs.YtpebpcmppcpkdaaDoor
open Go.RowKit Go.Pin
set_option linter.unusedVariables false
set_option linter.unusedSimpArgs false
theorem u64_info : (Tryd.prog.info? 25).map (fun i => (i.zero, i.size, i.bytes)) = some (some (.int .u64 0), 1, 8) := by kernel_rfl
set_option maxHeartbeats 1600000 in
theorem vd_keys_b (m : Nat) (L : List Ent) (w : World) (h : MapAt w m .u64 L) (hL : L.length ≤ 12) :
    Calls Tryd.prog 34 #[.map (some m)] w fun e w' => ∃ (a : Option Addr) (c : Nat), e = .returned (.slice a L.length c) ∧ (0 < L.length → ∃ g, a = some ⟨g, 0, none⟩ ∧ w.heap.size ≤ g ∧ U64At w' g (usort (L.map (·.1)))) ∧ Below w.heap.size w w' := by
  have hlen := run_map_len (P := Tryd.prog) h Tryd.underlying61 3
  have hnd := h.nodup
  obtain ⟨i0, hi, hz0, hzs, hzb⟩ := info_parts u64_info
  obtain ⟨w1, hmk, ho1, hg1⟩ := run_make_own (P := Tryd.prog) w w.heap.size 41 25 i0 (.int .u64 0) 1 Tryd.underlying41 hi hz0 hzs .i64 .i64 L.length (by rw [hzb]; omega) (by unfold maxLen; omega) (Nat.le_refl _)
  have hk1 : Keep (fun _ => False) w w1 := (keep_of_grown hg1).mono fun _ q => by cases q
  obtain ⟨w2, hr, hR, hkr, hz1⟩ := run_map_range (P := Tryd.prog) (h.keep hk1 id) Tryd.underlying61
  have ho2 : w2.ownsRow w.heap.size 25 1 (.slice (some ⟨w.heap.size, 0, none⟩) 0 L.length) 0 [] := ho1.kept (row := none) ⟨hkr.os, hkr.tape, hkr.output, hkr.size, fun k h1 _ => hkr.block k h1 id⟩ (.inr (by simp [Value.ownBlock]))
  have hb2 : Below w.heap.size w w2 := (hk1.trans hkr).below (Nat.le_refl _) fun _ h => h.elim
  have Hnd := Aside.mk hnd
  clear hnd ho1 hg1 h hz1
  go_enter Tryd.func34, Tryd.ntmps34
  go_wp2_with fail
  clear hlen hmk hr
  have Hkr := Aside.mk hkr
  have hsz := hb2.size
  have hRB : w.heap.size ≤ w1.heap.size := hk1.size
  clear hkr hk1
  generalize w1.heap.size = R at *
  go_loopg [3] L.length (fun g v wr => ∃ left xs, g = left.length ∧ (∀ p ∈ left, p ∈ L) ∧ (left.map (·.1)).Nodup ∧ List.Perm (xs ++ left.map (·.1)) (L.map (·.1)) ∧ RangeAt wr R m .u64 L left ∧ wr.ownsRow w.heap.size 25 1 v xs.length (xs.map (Value.int .u64)) ∧ Below w.heap.size w wr)
  case atStart => exact ⟨L, [], rfl, fun _ h => h, Hnd.out, by rw [List.nil_append], hR, ho2, hb2⟩
  case round =>
    clear hR ho2 hb2
    obtain ⟨left, xs, hg, hsub, hln, hxp, hRr, hown, hbl⟩ := hrel
    have hxl : xs.length + left.length = L.length := by have := hxp.length_eq; rw [List.length_append, List.length_map, List.length_map] at this; exact this
    have Hxp := Aside.mk hxp
    have Hln := Aside.mk hln
    clear hxp hln
    rcases run_map_next (P := Tryd.prog) hRr 0 with ⟨hl, hrun⟩ | ⟨k, v, w3, hmem, hmemL, hrun, hR2, hlt2, hk2, hz2, hent⟩
    · subst hl
      have hperm : List.Perm xs (L.map (·.1)) := by
        have := Hxp.out
        rw [List.map_nil, List.append_nil] at this
        exact this
      have hxw : xs.length = L.length := by simpa using hxl
      have Hso := Aside.mk (usort_congr hperm)
      clear hperm hxl hg
      obtain ⟨ao, cap, rfl, hpos⟩ := owns_form hown
      by_cases h0 : L.length = 0
      · obtain rfl : xs = [] := List.eq_nil_of_length_eq_zero (by omega)
        have H0 := Aside.mk h0
        clear h0 hxw hpos hown
        go_wp2_with fail
        refine (u_sort_none ao cap _).mono ?_
        rintro e w' ⟨rfl, rfl⟩
        go_wp2_with fail
        go_ret
        exact ⟨ao, cap, by rw [H0.out]; rfl, fun q => absurd H0.out (by omega), hbl⟩
      · obtain ⟨g, cur, rfl, hgB, hgg, hcs⟩ := hpos (by omega)
        have hgl : g < wr.heap.size := (Array.getElem?_eq_some_iff.1 hgg).1
        have hH : URow wr g 0 xs.toArray := ⟨fun j hj => by
          have hj' : j < xs.length := by simpa using hj
          refine ⟨?_, ?_⟩
          · rw [Nat.zero_add]
            refine hcs j _ ?_
            rw [List.getElem?_map, List.getElem?_eq_getElem hj']
            simp [hj']
          · exact Lib.frozen_of_heap hgg _, _, _, hgg⟩
        have hcon := Aside.mk (u_sort g 0 cap xs wr hH (by omega))
        rw [Hso.out] at hcon
        have Hxw := Aside.mk hxw
        clear hcs hgg hxw hown hpos hH
        go_wp2_with fail
        refine hcon.out.mono ?_
        rintro e w5 ⟨rfl, hks, hrow⟩
        clear hcon
        have hint : U64At w5 g (usort (L.map (·.1))) := ⟨fun j hj => by
          have h1 := (hrow.h j (by simpa using hj)).1
          rw [Nat.zero_add] at h1
          rw [h1]
          simp [List.getD, hj], hrow.ty⟩
        clear hrow
        go_wp2_with fail
        go_ret
        exact ⟨some ⟨g, 0, none⟩, cap, by rw [← Hxw.out]; rfl, fun _ => ⟨g, rfl, hgB, hint⟩, hbl.trans (hks.below (Nat.le_trans hgB (Nat.le_of_lt hgl)) fun k q => by rw [q]; exact hgB)⟩
    · obtain ⟨hnr, hnm⟩ := owns_ne_iter hown hRr
      have hpl := perm_left Hln.out hmem
      have hfl : left.length = (left.filter fun p => decide (p.1 ≠ k)).length + 1 := by have := hpl.length_eq; rw [List.length_cons, List.length_map, List.length_map] at this; omega
      have hsn := sub_nodup (k := k) Hln.out
      have hown2 : w3.ownsRow w.heap.size 25 1 _ xs.length (xs.map (Value.int .u64)) := hown.kept (row := some R) ⟨hk2.os, hk2.tape, hk2.output, hk2.size, fun j h1 h2 => hk2.block j h1 fun q => h2 (by rw [q])⟩ (.inr hnr)
      have hb3 : Below w.heap.size w w3 := hbl.trans (hk2.below hbl.size fun k q => by rw [q]; exact hRB)
      have hsz3 : w.heap.size ≤ w3.heap.size := hb3.size
      have Hpl := Aside.mk hpl
      have Hsn := Aside.mk hsn
      have Hfl := Aside.mk hfl
      clear hpl hsn hfl hown hRr hz2
      go_wp2_with (at_builtin; refine wpList_append_own _ rfl _ _ 41 rfl w.heap.size 25 i0 (.int .u64 0) 1 8 Tryd.underlying41 hi hz0 hzs hzb rfl (by decide) _ _ _ rfl (hown2.alloc _) ⟨w3.heap.size, 0, none⟩ 1 1 [.int .u64 k] rfl rfl ?c1 ?c2 ?c3 ?c4 ?c5 ?_)
      case c2 => rfl
      case c3 => unfold maxLen; omega
      case c4 => omega
      case c5 => omega
      intro v' w4 hown4 hgrow _
      have hR3 := hR2.keep ((Keep.refl (fun _ => False) w3).alloc (.cells #[.int .u64 k] 25)) id id
      have hR4 := hR3.keep (keep_of_grown hgrow) hnr hnm
      have hb4 := (hb3.alloc hsz3 (.cells #[.int .u64 k] 25)).grown hgrow (by simp; omega) (fun k hk => (hown2.lt k hk).1)
      clear hown2 hR2 hR3 hgrow hb3 hrun hent
      go_wp2_with fail
      go_roundg (left.filter fun p => decide (p.1 ≠ k)).length
      case rel =>
        refine ⟨left.filter fun p => decide (p.1 ≠ k), xs ++ [k], rfl, fun p hp => hsub p (List.mem_filter.1 hp).1, Hsn.out, ?_, hR4, ?_, hb4⟩
        · rw [List.append_assoc]
          exact (List.Perm.append_left xs Hpl.out.symm).trans Hxp.out
        · rw [List.length_append, List.map_append]; exact hown4
      case measure => have := Hfl.out; omega
set_option maxHeartbeats 1600000 in
theorem vd_keys_s (m : Nat) (L : List Ent) (w : World) (h : MapAt w m .u64 L) (hL : L.length ≤ 12) :
    Calls Tryd.prog 36 #[.map (some m)] w fun e w' => ∃ (a : Option Addr) (c : Nat), e = .returned (.slice a L.length c) ∧ (0 < L.length → ∃ g, a = some ⟨g, 0, none⟩ ∧ w.heap.size ≤ g ∧ U64At w' g (usort (L.map (·.1)))) ∧ Below w.heap.size w w' := by
  have hlen := run_map_len (P := Tryd.prog) h Tryd.underlying62 3
  have hnd := h.nodup
  obtain ⟨i0, hi, hz0, hzs, hzb⟩ := info_parts u64_info
  obtain ⟨w1, hmk, ho1, hg1⟩ := run_make_own (P := Tryd.prog) w w.heap.size 41 25 i0 (.int .u64 0) 1 Tryd.underlying41 hi hz0 hzs .i64 .i64 L.length (by rw [hzb]; omega) (by unfold maxLen; omega) (Nat.le_refl _)
  have hk1 : Keep (fun _ => False) w w1 := (keep_of_grown hg1).mono fun _ q => by cases q
  obtain ⟨w2, hr, hR, hkr, hz1⟩ := run_map_range (P := Tryd.prog) (h.keep hk1 id) Tryd.underlying62
  have ho2 : w2.ownsRow w.heap.size 25 1 (.slice (some ⟨w.heap.size, 0, none⟩) 0 L.length) 0 [] := ho1.kept (row := none) ⟨hkr.os, hkr.tape, hkr.output, hkr.size, fun k h1 _ => hkr.block k h1 id⟩ (.inr (by simp [Value.ownBlock]))
  have hb2 : Below w.heap.size w w2 := (hk1.trans hkr).below (Nat.le_refl _) fun _ h => h.elim
  have Hnd := Aside.mk hnd
  clear hnd ho1 hg1 h hz1
  go_enter Tryd.func36, Tryd.ntmps36
  go_wp2_with fail
  clear hlen hmk hr
  have Hkr := Aside.mk hkr
  have hsz := hb2.size
  have hRB : w.heap.size ≤ w1.heap.size := hk1.size
  clear hkr hk1
  generalize w1.heap.size = R at *
  go_loopg [3] L.length (fun g v wr => ∃ left xs, g = left.length ∧ (∀ p ∈ left, p ∈ L) ∧ (left.map (·.1)).Nodup ∧ List.Perm (xs ++ left.map (·.1)) (L.map (·.1)) ∧ RangeAt wr R m .u64 L left ∧ wr.ownsRow w.heap.size 25 1 v xs.length (xs.map (Value.int .u64)) ∧ Below w.heap.size w wr)
  case atStart => exact ⟨L, [], rfl, fun _ h => h, Hnd.out, by rw [List.nil_append], hR, ho2, hb2⟩
  case round =>
    clear hR ho2 hb2
    obtain ⟨left, xs, hg, hsub, hln, hxp, hRr, hown, hbl⟩ := hrel
    have hxl : xs.length + left.length = L.length := by have := hxp.length_eq; rw [List.length_append, List.length_map, List.length_map] at this; exact this
    have Hxp := Aside.mk hxp
    have Hln := Aside.mk hln
    clear hxp hln
    rcases run_map_next (P := Tryd.prog) hRr 0 with ⟨hl, hrun⟩ | ⟨k, v, w3, hmem, hmemL, hrun, hR2, hlt2, hk2, hz2, hent⟩
    · subst hl
      have hperm : List.Perm xs (L.map (·.1)) := by
        have := Hxp.out
        rw [List.map_nil, List.append_nil] at this
        exact this
      have hxw : xs.length = L.length := by simpa using hxl
      have Hso := Aside.mk (usort_congr hperm)
      clear hperm hxl hg
      obtain ⟨ao, cap, rfl, hpos⟩ := owns_form hown
      by_cases h0 : L.length = 0
      · obtain rfl : xs = [] := List.eq_nil_of_length_eq_zero (by omega)
        have H0 := Aside.mk h0
        clear h0 hxw hpos hown
        go_wp2_with fail
        refine (u_sort_none ao cap _).mono ?_
        rintro e w' ⟨rfl, rfl⟩
        go_wp2_with fail
        go_ret
        exact ⟨ao, cap, by rw [H0.out]; rfl, fun q => absurd H0.out (by omega), hbl⟩
      · obtain ⟨g, cur, rfl, hgB, hgg, hcs⟩ := hpos (by omega)
        have hgl : g < wr.heap.size := (Array.getElem?_eq_some_iff.1 hgg).1
        have hH : URow wr g 0 xs.toArray := ⟨fun j hj => by
          have hj' : j < xs.length := by simpa using hj
          refine ⟨?_, ?_⟩
          · rw [Nat.zero_add]
            refine hcs j _ ?_
            rw [List.getElem?_map, List.getElem?_eq_getElem hj']
            simp [hj']
          · exact Lib.frozen_of_heap hgg _, _, _, hgg⟩
        have hcon := Aside.mk (u_sort g 0 cap xs wr hH (by omega))
        rw [Hso.out] at hcon
        have Hxw := Aside.mk hxw
        clear hcs hgg hxw hown hpos hH
        go_wp2_with fail
        refine hcon.out.mono ?_
        rintro e w5 ⟨rfl, hks, hrow⟩
        clear hcon
        have hint : U64At w5 g (usort (L.map (·.1))) := ⟨fun j hj => by
          have h1 := (hrow.h j (by simpa using hj)).1
          rw [Nat.zero_add] at h1
          rw [h1]
          simp [List.getD, hj], hrow.ty⟩
        clear hrow
        go_wp2_with fail
        go_ret
        exact ⟨some ⟨g, 0, none⟩, cap, by rw [← Hxw.out]; rfl, fun _ => ⟨g, rfl, hgB, hint⟩, hbl.trans (hks.below (Nat.le_trans hgB (Nat.le_of_lt hgl)) fun k q => by rw [q]; exact hgB)⟩
    · obtain ⟨hnr, hnm⟩ := owns_ne_iter hown hRr
      have hpl := perm_left Hln.out hmem
      have hfl : left.length = (left.filter fun p => decide (p.1 ≠ k)).length + 1 := by have := hpl.length_eq; rw [List.length_cons, List.length_map, List.length_map] at this; omega
      have hsn := sub_nodup (k := k) Hln.out
      have hown2 : w3.ownsRow w.heap.size 25 1 _ xs.length (xs.map (Value.int .u64)) := hown.kept (row := some R) ⟨hk2.os, hk2.tape, hk2.output, hk2.size, fun j h1 h2 => hk2.block j h1 fun q => h2 (by rw [q])⟩ (.inr hnr)
      have hb3 : Below w.heap.size w w3 := hbl.trans (hk2.below hbl.size fun k q => by rw [q]; exact hRB)
      have hsz3 : w.heap.size ≤ w3.heap.size := hb3.size
      have Hpl := Aside.mk hpl
      have Hsn := Aside.mk hsn
      have Hfl := Aside.mk hfl
      clear hpl hsn hfl hown hRr hz2
      go_wp2_with (at_builtin; refine wpList_append_own _ rfl _ _ 41 rfl w.heap.size 25 i0 (.int .u64 0) 1 8 Tryd.underlying41 hi hz0 hzs hzb rfl (by decide) _ _ _ rfl (hown2.alloc _) ⟨w3.heap.size, 0, none⟩ 1 1 [.int .u64 k] rfl rfl ?c1 ?c2 ?c3 ?c4 ?c5 ?_)
      case c2 => rfl
      case c3 => unfold maxLen; omega
      case c4 => omega
      case c5 => omega
      intro v' w4 hown4 hgrow _
      have hR3 := hR2.keep ((Keep.refl (fun _ => False) w3).alloc (.cells #[.int .u64 k] 25)) id id
      have hR4 := hR3.keep (keep_of_grown hgrow) hnr hnm
      have hb4 := (hb3.alloc hsz3 (.cells #[.int .u64 k] 25)).grown hgrow (by simp; omega) (fun k hk => (hown2.lt k hk).1)
      clear hown2 hR2 hR3 hgrow hb3 hrun hent
      go_wp2_with fail
      go_roundg (left.filter fun p => decide (p.1 ≠ k)).length
      case rel =>
        refine ⟨left.filter fun p => decide (p.1 ≠ k), xs ++ [k], rfl, fun p hp => hsub p (List.mem_filter.1 hp).1, Hsn.out, ?_, hR4, ?_, hb4⟩
        · rw [List.append_assoc]
          exact (List.Perm.append_left xs Hpl.out.symm).trans Hxp.out
        · rw [List.length_append, List.map_append]; exact hown4
      case measure => have := Hfl.out; omega
end Go.Proofs.YtpebpcmppcpkdaaDoor
