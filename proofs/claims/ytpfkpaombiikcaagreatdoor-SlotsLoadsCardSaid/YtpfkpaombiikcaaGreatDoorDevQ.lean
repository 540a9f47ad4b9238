import Derived.Test.YtpfkpaombiikcaaGreatDoorDevF
import Derived.Test.YtpfkpaombiikcaaGreatDoorSort
/- What device.Device's Waiting computes. -/
set_option maxRecDepth 16000
namespace Go.Pin
open Go.RowKit
set_option linter.unusedVariables false
set_option linter.unusedSimpArgs false
/-- From place o of block g on lie the numbers zs. -/
def IntsAt (w : World) (g o : Nat) (zs : List Int) : Prop := ∀ j, j < zs.length → w.cell? ⟨g, o + j, none⟩ = some (.int .i64 (zs.getD j 0))
theorem IntsAt.keep {S : Nat → Prop} {a w : World} {g o : Nat} {zs : List Int} (h : IntsAt a g o zs) (hk : Keep S a w) (hn : ¬ S g) : IntsAt w g o zs := fun j hj => hk.cell (h j hj) hn
theorem keep_of_grown {w w' : World} {r : Option Nat} (h : w.grownBy w' r) : Keep (fun k => r = some k) w w' := ⟨h.os, h.tape, h.output, h.size, fun k hk hn => h.block k hk fun e => hn e.symm⟩
theorem owns_ne_iter {w : World} {base : Nat} {e : TypeId} {sz n : Nat} {v : Value} {xs : List Value} (h : w.ownsRow base e sz v n xs) {r m : Nat} {kk : IntKind} {L left : List Ent} (hr : RangeAt w r m kk L left) : ¬ v.ownBlock = some r ∧ ¬ v.ownBlock = some m := by
  obtain ⟨es, clock, seen, since, c0, h1, h2, _⟩ := hr
  rcases h.2 with ⟨rfl, _⟩ | ⟨g, cap, cur, rfl, hb, hgg, _⟩
  · simp [Value.ownBlock]
  · constructor
    · intro q
      have : g = r := by simpa [Value.ownBlock] using q
      subst this; rw [hgg] at h1; cases h1
    · intro q
      have : g = m := by simpa [Value.ownBlock] using q
      subst this; rw [hgg] at h2; cases h2
theorem owns_form {w : World} {base : Nat} {e : TypeId} {n : Nat} {v : Value} {xs : List Value} (h : w.ownsRow base e 1 v n xs) :
    ∃ a c, v = .slice a n c ∧ (0 < n → ∃ g cur, a = some ⟨g, 0, none⟩ ∧ base ≤ g ∧ w.heap[g]? = some (.cells cur e (0, 0)) ∧ ∀ j u, xs[j]? = some u → w.cell? ⟨g, j, none⟩ = some u) := by
  rcases h.2 with ⟨hv, hn⟩ | ⟨g, cap, cur, hv, hb, hgg, _⟩
  · exact ⟨none, 0, by rw [hv, hn], fun q => by omega⟩
  · refine ⟨some ⟨g, 0, none⟩, cap, hv, fun _ => ⟨g, cur, rfl, hb, hgg, fun j u hu => ?_⟩⟩
    subst hv
    have := h.cells (g := g) rfl j u hu
    rw [Addr.add_mid, Nat.zero_add] at this; exact this
theorem keep_sorted {α : Type} [Inhabited α] (enc : α → Value) (w : World) (g o n : Nat) (os : Array Obj) (d : Array α) : Keep (fun k => k = g) w (Sort.grow (Sort.putRow enc (Sort.ahead w n) g o d) os) := by
  refine ⟨rfl, rfl, rfl, by rw [Sort.size_grow, Sort.size_putRow]; exact Nat.le_add_right _ _, fun k hk hn => ?_⟩
  rw [Sort.heap_grow_old _ _ (by rw [Sort.size_putRow]; exact hk)]
  show (Sort.mapBlock (Sort.ahead w n) g _).heap[k]? = _
  unfold Sort.mapBlock
  simp only [Array.getElem?_modify]
  rw [if_neg (fun e => hn e.symm)]; rfl
/-- The places that wait, as numbers. -/
def dwaitI (d : Dv) : List Int := (dwaiting d).map fun (i : Nat) => (i : Int)
theorem perm_left {left : List Ent} {k : Int} {v : Value} (hn : (left.map (·.1)).Nodup) (hm : (k, v) ∈ left) : List.Perm (left.map (·.1)) (k :: (left.filter fun p => decide (p.1 ≠ k)).map (·.1)) := by
  induction left with
  | nil => cases hm
  | cons p left ih =>
    rw [List.map_cons, List.nodup_cons] at hn
    rcases List.mem_cons.1 hm with h | h
    · subst h
      have : (left.filter fun q => decide (q.1 ≠ k)) = left := List.filter_eq_self.2 fun q hq => by
        simpa using fun e => hn.1 (List.mem_map.2 ⟨q, hq, e⟩)
      rw [List.filter_cons_of_neg (by simp), this]
      exact List.Perm.refl _
    · have hne : p.1 ≠ k := fun e => hn.1 (List.mem_map.2 ⟨(k, v), h, e.symm⟩)
      rw [List.filter_cons_of_pos (by simpa using hne), List.map_cons, List.map_cons]
      exact (List.Perm.cons _ (ih hn.2 h)).trans (List.Perm.swap _ _ _)
theorem sub_nodup {left : List Ent} {k : Int} (hn : (left.map (·.1)).Nodup) : ((left.filter fun p => decide (p.1 ≠ k)).map (·.1)).Nodup :=
  hn.sublist (List.Sublist.map _ List.filter_sublist)
theorem dwaitI_sorted (d : Dv) : (dwaitI d).Pairwise (· < ·) := by
  unfold dwaitI dwaiting
  rw [List.pairwise_map]
  have : ((List.range d.n).filter d.w).Pairwise (· < ·) := List.Pairwise.filter _ List.pairwise_lt_range
  exact this.imp fun h => by omega
theorem keys_perm {d : Dv} (hok : d.ok) {L : List Ent} (hn : (L.map (·.1)).Nodup) (hL : ∀ k : Int, mget L k = d.waits k) : List.Perm (L.map (·.1)) (dwaitI d) := by
  rw [List.perm_ext_iff_of_nodup hn ((dwaitI_sorted d).imp fun h => by omega)]
  intro k
  unfold dwaitI dwaiting
  simp only [List.mem_map, List.mem_filter, List.mem_range]
  constructor
  · rintro ⟨⟨k', v⟩, hm, rfl⟩
    obtain ⟨j, hj, hjn, hw, _⟩ := waits_some hok (by rw [← hL]; exact mget_mem L _ _ hn hm)
    exact ⟨j, ⟨hjn, hw⟩, hj.symm⟩
  · rintro ⟨j, ⟨hjn, hw⟩, rfl⟩
    have : mget L (j : Int) = some (secVal (d.s j)) := by rw [hL]; unfold Dv.waits; rw [if_pos ⟨by omega, by simpa using hw⟩]; simp
    exact ⟨_, mget_in L _ _ this, rfl⟩
theorem sorted_waits (d : Dv) (xs : List Int) (h : List.Perm xs (dwaitI d)) : xs.mergeSort (fun x y => decide (x ≤ y)) = dwaitI d := by
  have hp := (List.mergeSort_perm xs fun x y => decide (x ≤ y)).trans h
  have h1 := List.pairwise_mergeSort (le := fun x y : Int => decide (x ≤ y)) (fun a b c h1 h2 => by simp at *; omega) (fun a b => by simp; omega) xs
  refine List.Perm.eq_of_pairwise (le := fun x y : Int => x ≤ y) (fun a b _ _ h1 h2 => by omega) ?_ ?_ hp
  · exact h1.imp fun h => by simpa using h
  · exact (dwaitI_sorted d).imp fun h => by omega
theorem dwait_len (d : Dv) : (dwaitI d).length = (dwaiting d).length := by unfold dwaitI; rw [List.length_map]
theorem dwaiting_le (d : Dv) : (dwaiting d).length ≤ d.n := by
  unfold dwaiting
  exact Nat.le_trans (List.length_filter_le _ _) (by rw [List.length_range]; exact Nat.le_refl _)
end Go.Pin
namespace Go.Proofs.YtpfkpaombiikcaaGreatDoor
open Go.RowKit Go.Pin
set_option linter.unusedVariables false
set_option linter.unusedSimpArgs false
theorem int_info : (Tryz.prog.info? 3).map (fun i => (i.zero, i.size, i.bytes)) = some (some (.int .i64 0), 1, 8) := by kernel_rfl
end Go.Proofs.YtpfkpaombiikcaaGreatDoor
