/- What device.Device's Waiting computes. -/
import Derived.Test.YtlbnbmojgdoieaaDevF
import Derived.Test.YtlbnbmojgdoieaaSort
set_option maxRecDepth 16000
namespace Go.Pin
open Go.RowKit
set_option linter.unusedVariables false
set_option linter.unusedSimpArgs false
/-- From place o of block g on lie the numbers zs. -/
def IntsAt (w : World) (g o : Nat) (zs : List Int) : Prop := ∀ j, j < zs.length → w.cell? ⟨g, o + j, none⟩ = some (.int .i64 (zs.getD j 0))
theorem IntsAt.keep {S : Nat → Prop} {a w : World} {g o : Nat} {zs : List Int} (h : IntsAt a g o zs) (hk : Keep S a w) (hn : ¬ S g) : IntsAt w g o zs := fun j hj => hk.cell (h j hj) hn
theorem keep_of_grown {w w' : World} {r : Option Nat} (h : w.grownBy w' r) : Keep (fun k => r = some k) w w' := ⟨h.os, h.tape, h.output, h.size, fun k hk hn => h.block k hk fun e => hn e.symm⟩
theorem owns_ne_iter {w : World} {base : Nat} {e : TypeId} {sz n : Nat} {v : Value} {xs : List Value} (h : w.ownsRow base e sz v n xs) {r m : Nat} {kk : IntKind} {L left : List Ent} (hr : RangeAt w r m kk L left) : ¬ v.ownBlock = some r ∧ ¬ v.ownBlock = some m := by
  obtain ⟨es, clock, seen, since, c0, h1, h2, _⟩ := hr
  rcases h.2 with ⟨rfl, _⟩ | ⟨g, cap, cur, rfl, hb, hgg, _⟩
  · simp [Value.ownBlock]
  · constructor
    · intro q
      have : g = r := by simpa [Value.ownBlock] using q
      subst this; rw [hgg] at h1; cases h1
    · intro q
      have : g = m := by simpa [Value.ownBlock] using q
      subst this; rw [hgg] at h2; cases h2
theorem owns_form {w : World} {base : Nat} {e : TypeId} {n : Nat} {v : Value} {xs : List Value} (h : w.ownsRow base e 1 v n xs) :
    ∃ a c, v = .slice a n c ∧ (0 < n → ∃ g cur, a = some ⟨g, 0, none⟩ ∧ base ≤ g ∧ w.heap[g]? = some (.cells cur e (0, 0)) ∧ ∀ j u, xs[j]? = some u → w.cell? ⟨g, j, none⟩ = some u) := by
  rcases h.2 with ⟨hv, hn⟩ | ⟨g, cap, cur, hv, hb, hgg, _⟩
  · exact ⟨none, 0, by rw [hv, hn], fun q => by omega⟩
  · refine ⟨some ⟨g, 0, none⟩, cap, hv, fun _ => ⟨g, cur, rfl, hb, hgg, fun j u hu => ?_⟩⟩
    subst hv
    have := h.cells (g := g) rfl j u hu
    rw [Addr.add_mid, Nat.zero_add] at this; exact this
theorem keep_sorted {α : Type} [Inhabited α] (enc : α → Value) (w : World) (g o n : Nat) (os : Array Obj) (d : Array α) : Keep (fun k => k = g) w (Sort.grow (Sort.putRow enc (Sort.ahead w n) g o d) os) := by
  refine ⟨rfl, rfl, rfl, by rw [Sort.size_grow, Sort.size_putRow]; exact Nat.le_add_right _ _, fun k hk hn => ?_⟩
  rw [Sort.heap_grow_old _ _ (by rw [Sort.size_putRow]; exact hk)]
  show (Sort.mapBlock (Sort.ahead w n) g _).heap[k]? = _
  unfold Sort.mapBlock
  simp only [Array.getElem?_modify]
  rw [if_neg (fun e => hn e.symm)]; rfl
/-- The places that wait, as numbers. -/
def dwaitI (d : Dv) : List Int := (dwaiting d).map fun (i : Nat) => (i : Int)
theorem perm_left {left : List Ent} {k : Int} {v : Value} (hn : (left.map (·.1)).Nodup) (hm : (k, v) ∈ left) : List.Perm (left.map (·.1)) (k :: (left.filter fun p => decide (p.1 ≠ k)).map (·.1)) := by
  induction left with
  | nil => cases hm
  | cons p left ih =>
    rw [List.map_cons, List.nodup_cons] at hn
    rcases List.mem_cons.1 hm with h | h
    · subst h
      have : (left.filter fun q => decide (q.1 ≠ k)) = left := List.filter_eq_self.2 fun q hq => by
        simpa using fun e => hn.1 (List.mem_map.2 ⟨q, hq, e⟩)
      rw [List.filter_cons_of_neg (by simp), this]
      exact List.Perm.refl _
    · have hne : p.1 ≠ k := fun e => hn.1 (List.mem_map.2 ⟨(k, v), h, e.symm⟩)
      rw [List.filter_cons_of_pos (by simpa using hne), List.map_cons, List.map_cons]
      exact (List.Perm.cons _ (ih hn.2 h)).trans (List.Perm.swap _ _ _)
theorem sub_nodup {left : List Ent} {k : Int} (hn : (left.map (·.1)).Nodup) : ((left.filter fun p => decide (p.1 ≠ k)).map (·.1)).Nodup :=
  hn.sublist (List.Sublist.map _ List.filter_sublist)
theorem dwaitI_sorted (d : Dv) : (dwaitI d).Pairwise (· < ·) := by
  unfold dwaitI dwaiting
  rw [List.pairwise_map]
  have : ((List.range d.n).filter d.w).Pairwise (· < ·) := List.Pairwise.filter _ List.pairwise_lt_range
  exact this.imp fun h => by omega
theorem keys_perm {d : Dv} (hok : d.ok) {L : List Ent} (hn : (L.map (·.1)).Nodup) (hL : ∀ k : Int, mget L k = d.waits k) : List.Perm (L.map (·.1)) (dwaitI d) := by
  rw [List.perm_ext_iff_of_nodup hn ((dwaitI_sorted d).imp fun h => by omega)]
  intro k
  unfold dwaitI dwaiting
  simp only [List.mem_map, List.mem_filter, List.mem_range]
  constructor
  · rintro ⟨⟨k', v⟩, hm, rfl⟩
    obtain ⟨j, hj, hjn, hw, _⟩ := waits_some hok (by rw [← hL]; exact mget_mem L _ _ hn hm)
    exact ⟨j, ⟨hjn, hw⟩, hj.symm⟩
  · rintro ⟨j, ⟨hjn, hw⟩, rfl⟩
    have : mget L (j : Int) = some (secVal (d.s j)) := by rw [hL]; unfold Dv.waits; rw [if_pos ⟨by omega, by simpa using hw⟩]; simp
    exact ⟨_, mget_in L _ _ this, rfl⟩
theorem sorted_waits (d : Dv) (xs : List Int) (h : List.Perm xs (dwaitI d)) : xs.mergeSort (fun x y => decide (x ≤ y)) = dwaitI d := by
  have hp := (List.mergeSort_perm xs fun x y => decide (x ≤ y)).trans h
  have h1 := List.pairwise_mergeSort (le := fun x y : Int => decide (x ≤ y)) (fun a b c h1 h2 => by simp at *; omega) (fun a b => by simp; omega) xs
  refine List.Perm.eq_of_pairwise (le := fun x y : Int => x ≤ y) (fun a b _ _ h1 h2 => by omega) ?_ ?_ hp
  · exact h1.imp fun h => by simpa using h
  · exact (dwaitI_sorted d).imp fun h => by omega
theorem dwait_len (d : Dv) : (dwaitI d).length = (dwaiting d).length := by unfold dwaitI; rw [List.length_map]
theorem dwaiting_le (d : Dv) : (dwaiting d).length ≤ d.n := by
  unfold dwaiting
  exact Nat.le_trans (List.length_filter_le _ _) (by rw [List.length_range]; exact Nat.le_refl _)
end Go.Pin
namespace Go.Proofs.Ytlbnbmojgdoieaa
open Go.RowKit Go.Pin
set_option linter.unusedVariables false
set_option linter.unusedSimpArgs false
theorem int_info : (Try.prog.info? 3).map (fun i => (i.zero, i.size, i.bytes)) = some (some (.int .i64 0), 1, 8) := by kernel_rfl
set_option maxHeartbeats 1600000 in
theorem dev_waiting (b f m : Nat) (d : Dv) (w : World) (h : DevAt w b f m d) :
    Calls Try.prog 19 #[.pointer (some ⟨b, 0, none⟩)] w fun e w' => ∃ (a : Option Addr) (c : Nat), e = .returned (.slice a (dwaiting d).length c) ∧ (0 < (dwaiting d).length → ∃ g, a = some ⟨g, 0, none⟩ ∧ w.heap.size ≤ g ∧ IntsAt w' g 0 (dwaitI d)) ∧ Below w.heap.size w w' := by
  have c1 := h.c1
  obtain ⟨L, hL1, hL2⟩ := h.mp
  have hlen := run_map_len (P := Try.prog) hL1 Try.underlying90 3
  have hnd := hL1.nodup
  have hperm := keys_perm h.ok hnd hL2
  have hll : L.length = (dwaiting d).length := by have := hperm.length_eq; rw [dwait_len, List.length_map] at this; exact this
  have hle := dwaiting_le d
  have hn := h.ok.n2
  obtain ⟨i0, hi, hz0, hzs, hzb⟩ := info_parts int_info
  obtain ⟨w1, hmk, ho1, hg1⟩ := run_make_own (P := Try.prog) w w.heap.size 30 3 i0 (.int .i64 0) 1 Try.underlying30 hi hz0 hzs .i64 .i64 (dwaiting d).length (by rw [hzb]; omega) (by unfold maxLen; omega) (Nat.le_refl _)
  have hk1 : Keep (fun _ => False) w w1 := (keep_of_grown hg1).mono fun _ q => by cases q
  have c1' := hk1.cell c1 id
  obtain ⟨w2, hr, hR, hkr, hz1⟩ := run_map_range (P := Try.prog) (hL1.keep hk1 id) Try.underlying90
  rw [hll] at hlen
  have ho2 : w2.ownsRow w.heap.size 3 1 (.slice (some ⟨w.heap.size, 0, none⟩) 0 (dwaiting d).length) 0 [] := ho1.kept (row := none) ⟨hkr.os, hkr.tape, hkr.output, hkr.size, fun k h1 _ => hkr.block k h1 id⟩ (.inr (by simp [Value.ownBlock]))
  have hb2 : Below w.heap.size w w2 := (hk1.trans hkr).below (Nat.le_refl _) fun _ h => h.elim
  have Hll := Aside.mk hll
  have Hok := Aside.mk h.ok
  have HL2 := Aside.mk hL2
  have Hperm := Aside.mk hperm
  have Hnd := Aside.mk hnd
  clear hll hL2 hperm hnd ho1 hg1 h hz1
  go_enter Try.func19, Try.ntmps19
  go_wp2_with fail
  clear hlen hmk hr hL1 c1 c1'
  have Hkr := Aside.mk hkr
  have hsz := hb2.size
  have hRB : w.heap.size ≤ w1.heap.size := hk1.size
  clear hkr hk1
  generalize w1.heap.size = R at *
  go_loopg [3] L.length (fun g v wr => ∃ left xs, g = left.length ∧ (∀ p ∈ left, p ∈ L) ∧ (left.map (·.1)).Nodup ∧ List.Perm (xs ++ left.map (·.1)) (L.map (·.1)) ∧ RangeAt wr R m .i64 L left ∧ wr.ownsRow w.heap.size 3 1 v xs.length (xs.map (Value.int .i64)) ∧ Below w.heap.size w wr)
  case atStart => exact ⟨L, [], rfl, fun _ h => h, Hnd.out, by rw [List.nil_append], hR, ho2, hb2⟩
  case round =>
    clear hR ho2 hb2
    obtain ⟨left, xs, hg, hsub, hln, hxp, hRr, hown, hbl⟩ := hrel
    have hxl : xs.length + left.length = L.length := by have := hxp.length_eq; rw [List.length_append, List.length_map, List.length_map] at this; exact this
    have Hxp := Aside.mk hxp
    have Hln := Aside.mk hln
    have hxs : xs.length ≤ 4096 := by have := Hll.out; omega
    clear hxp hln
    rcases run_map_next (P := Try.prog) hRr 0 with ⟨hl, hrun⟩ | ⟨k, v, w3, hmem, hmemL, hrun, hR2, hlt2, hk2, hz2, hent⟩
    · subst hl
      have hperm : List.Perm xs (dwaitI d) := by
        have := Hxp.out
        rw [List.map_nil, List.append_nil] at this
        exact this.trans Hperm.out
      have hxw : xs.length = (dwaiting d).length := by rw [← dwait_len]; exact hperm.length_eq
      have Hso := Aside.mk (sorted_waits d xs hperm)
      clear hperm hxl hg
      obtain ⟨ao, cap, rfl, hpos⟩ := owns_form hown
      by_cases h0 : (dwaiting d).length = 0
      · obtain rfl : xs = [] := List.eq_nil_of_length_eq_zero (by omega)
        have H0 := Aside.mk h0
        clear h0 hxw hpos hown
        go_wp2_with fail
        refine (YtlbnbmojgdoieaaSh.slices_Sort_int_none ao cap _).mono ?_
        rintro e w' ⟨rfl, rfl⟩
        go_wp2_with fail
        go_ret
        exact ⟨ao, cap, by rw [H0.out]; rfl, fun q => absurd H0.out (by omega), hbl⟩
      · obtain ⟨g, cur, rfl, hgB, hgg, hcs⟩ := hpos (by omega)
        have hgl : g < wr.heap.size := (Array.getElem?_eq_some_iff.1 hgg).1
        have hH : Sort.Holds (Value.int .i64) wr g 0 xs.toArray := fun j hj => by
          have hj' : j < xs.length := by simpa using hj
          refine ⟨?_, ?_⟩
          · rw [Nat.zero_add]
            refine hcs j _ ?_
            rw [List.getElem?_map, List.getElem?_eq_getElem hj']
            simp [hj']
          · exact Lib.frozen_of_heap hgg _
        have hcon := YtlbnbmojgdoieaaSh.slices_Sort_int g 0 cap xs wr hH hgl (by omega)
        rw [Hso.out] at hcon
        have Hxw := Aside.mk hxw
        clear hcs hgg hxw hown hpos
        go_wp2_with fail
        refine hcon.mono ?_
        rintro e w' ⟨rfl, n, os, rfl⟩
        clear hcon
        have hks := keep_sorted (Value.int .i64) wr g 0 n os (dwaitI d).toArray
        have hint : IntsAt (Sort.grow (Sort.putRow (Value.int .i64) (Sort.ahead wr n) g 0 (dwaitI d).toArray) os) g 0 (dwaitI d) := fun j hj => by
          have hsz : (dwaitI d).toArray.size = xs.toArray.size := by simp only [List.size_toArray]; rw [Hxw.out, dwait_len]
          rw [Sort.cell?_grow _ _ _ (by rw [Sort.size_putRow]; exact hgl), Sort.cell?_putRow _ _ _ _ _ _ (Sort.holds_ahead _ _ n _ _ _ hH) hsz j (by simpa using hj)]
          simp [List.getD, hj]
        generalize Sort.grow (Sort.putRow (Value.int .i64) (Sort.ahead wr n) g 0 (dwaitI d).toArray) os = w5 at *
        go_wp2_with fail
        go_ret
        exact ⟨some ⟨g, 0, none⟩, cap, by rw [← Hxw.out]; rfl, fun _ => ⟨g, rfl, hgB, hint⟩, hbl.trans (hks.below (Nat.le_trans hgB (Nat.le_of_lt hgl)) fun k q => by rw [q]; exact hgB)⟩
    · obtain ⟨hnr, hnm⟩ := owns_ne_iter hown hRr
      have hpl := perm_left Hln.out hmem
      have hfl : left.length = (left.filter fun p => decide (p.1 ≠ k)).length + 1 := by have := hpl.length_eq; rw [List.length_cons, List.length_map, List.length_map] at this; omega
      have hsn := sub_nodup (k := k) Hln.out
      have hown2 : w3.ownsRow w.heap.size 3 1 _ xs.length (xs.map (Value.int .i64)) := hown.kept (row := some R) ⟨hk2.os, hk2.tape, hk2.output, hk2.size, fun j h1 h2 => hk2.block j h1 fun q => h2 (by rw [q])⟩ (.inr hnr)
      obtain ⟨j, rfl, hjn, _, _⟩ := waits_some Hok.out (by rw [← HL2.out]; exact mget_mem L _ _ Hnd.out hmemL)
      have hb3 : Below w.heap.size w w3 := hbl.trans (hk2.below hbl.size fun k q => by rw [q]; exact hRB)
      have hsz3 : w.heap.size ≤ w3.heap.size := hb3.size
      have Hpl := Aside.mk hpl
      have Hsn := Aside.mk hsn
      have Hfl := Aside.mk hfl
      clear hpl hsn hfl hown hRr hz2
      go_wp2_with (at_builtin; refine wpList_append_own _ rfl _ _ 30 rfl w.heap.size 3 i0 (.int .i64 0) 1 8 Try.underlying30 hi hz0 hzs hzb rfl (by decide) _ _ _ rfl (hown2.alloc _) ⟨w3.heap.size, 0, none⟩ 1 1 [.int .i64 (j : Int)] rfl rfl ?c1 ?c2 ?c3 ?c4 ?c5 ?_)
      case c2 => rfl
      case c3 => unfold maxLen; omega
      case c4 => omega
      case c5 => omega
      intro v' w4 hown4 hgrow _
      have hR3 := hR2.keep ((Keep.refl (fun _ => False) w3).alloc (.cells #[.int .i64 (j : Int)] 3)) id id
      have hR4 := hR3.keep (keep_of_grown hgrow) hnr hnm
      have hb4 := (hb3.alloc hsz3 (.cells #[.int .i64 (j : Int)] 3)).grown hgrow (by simp; omega) (fun k hk => (hown2.lt k hk).1)
      clear hown2 hR2 hR3 hgrow hb3 hrun hent
      go_wp2_with fail
      go_roundg (left.filter fun p => decide (p.1 ≠ (j : Int))).length
      case rel =>
        refine ⟨left.filter fun p => decide (p.1 ≠ (j : Int)), xs ++ [(j : Int)], rfl, fun p hp => hsub p (List.mem_filter.1 hp).1, Hsn.out, ?_, hR4, ?_, hb4⟩
        · rw [List.append_assoc]
          exact (List.Perm.append_left xs Hpl.out.symm).trans Hxp.out
        · rw [List.length_append, List.map_append]; exact hown4
      case measure => have := Hfl.out; omega
end Go.Proofs.Ytlbnbmojgdoieaa
