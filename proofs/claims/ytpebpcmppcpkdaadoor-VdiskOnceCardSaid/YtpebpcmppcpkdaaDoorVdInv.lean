/- vdisk: what a disk keeps to, whatever is applied. -/
import Derived.Test.YtpebpcmppcpkdaaDoorVdPut
set_option maxRecDepth 16000
namespace Go.Pin
open Go.RowKit
set_option linter.unusedVariables false
set_option linter.unusedSimpArgs false
section
variable {α : Type}
theorem mem_aset {L : List (Int × α)} {k : Int} {v : α} {p : Int × α} (h : p ∈ aset L k v) : p = (k, v) ∨ p ∈ L := by
  unfold aset at h
  split at h
  · obtain ⟨q, hq, rfl⟩ := List.mem_map.1 h
    split
    · exact .inl rfl
    · exact .inr hq
  · rcases List.mem_append.1 h with h | h
    · exact .inr h
    · exact .inl (by simpa using h)
theorem aset_len (L : List (Int × α)) (k : Int) (v : α) : (aset L k v).length ≤ L.length + 1 := by
  unfold aset
  split
  · rw [List.length_map]; omega
  · rw [List.length_append]; simp
theorem aset_len_eq (L : List (Int × α)) (k : Int) (v : α) (h : k ∈ L.map (·.1)) : (aset L k v).length = L.length := by
  unfold aset
  rw [if_pos h, List.length_map]
theorem aget_mem {L : List (Int × α)} {k : Int} {v : α} (h : aget L k = some v) : (k, v) ∈ L := by
  unfold aget at h
  obtain ⟨p, hp, rfl⟩ := Option.map_eq_some_iff.1 h
  have h2 := List.find?_some hp
  simp only [decide_eq_true_eq] at h2
  rw [← h2]; exact List.mem_of_find?_eq_some hp
theorem aget_key {L : List (Int × α)} {k : Int} {v : α} (h : aget L k = some v) : k ∈ L.map (·.1) := List.mem_map.2 ⟨_, aget_mem h, rfl⟩
end
/-- What every disk keeps to. -/
structure Vd.base (D : Vd) : Prop where
  ok : D.ok
  kb : ∀ p ∈ D.blocks, 0 ≤ p.1 ∧ p.1 ≤ 18446744073709551615
  ko : ∀ p ∈ D.opens, 0 ≤ p.1 ∧ p.1 ≤ 18446744073709551615
  so : ∀ p ∈ D.opens, 0 ≤ p.2.e ∧ p.2.e ≤ 100 ∧ p.2.data.size ≤ 64
def Res.okR (r : Res) : Prop := 0 ≤ r.e ∧ r.e ≤ 100 ∧ r.data.size ≤ 64
theorem okR_0 (e : Int) (h : 0 ≤ e ∧ e ≤ 100) : Res.okR ⟨e, ⟨#[]⟩⟩ := ⟨h.1, h.2, Nat.zero_le _⟩
theorem setB_base {D : Vd} (kb : ∀ p ∈ D.blocks, 0 ≤ p.1 ∧ p.1 ≤ 18446744073709551615) (k : Int) (s : ByteArray) (hk : 0 ≤ k ∧ k ≤ 18446744073709551615) : ∀ p ∈ (D.setB k s).blocks, 0 ≤ p.1 ∧ p.1 ≤ 18446744073709551615 := by
  intro p hp
  unfold Vd.setB at hp
  split at hp
  · exact kb p (List.mem_filter.1 hp).1
  · rcases mem_aset hp with rfl | h
    · exact hk
    · exact kb p h
theorem setB_len (D : Vd) (k : Int) (s : ByteArray) : (D.setB k s).blocks.length ≤ D.blocks.length + 1 := by
  unfold Vd.setB
  split
  · exact Nat.le_trans (List.length_filter_le _ _) (by omega)
  · exact aset_len _ _ _
theorem setB_op (D : Vd) (k : Int) (s : ByteArray) : (D.setB k s).opens = D.opens := by
  unfold Vd.setB; split <;> rfl
end Go.Pin
namespace Go.Proofs.YtpebpcmppcpkdaaDoor
open Go.RowKit Go.Pin
set_option linter.unusedVariables false
set_option linter.unusedSimpArgs false
theorem does_facts (D : Vd) (hD : D.ok) (kb : ∀ p ∈ D.blocks, 0 ≤ p.1 ∧ p.1 ≤ 18446744073709551615) (e : En) (ho : e.ok) :
    (∀ p ∈ (D.does e).1.blocks, 0 ≤ p.1 ∧ p.1 ≤ 18446744073709551615) ∧ (D.does e).1.opens = D.opens ∧ (D.does e).1.blocks.length ≤ D.blocks.length + 1 ∧ (D.does e).2.okR := by
  have hw : ∀ x : En, x.ok → (∀ p ∈ (D.write x).1.blocks, 0 ≤ p.1 ∧ p.1 ≤ 18446744073709551615) ∧ (D.write x).1.opens = D.opens ∧ (D.write x).1.blocks.length ≤ D.blocks.length + 1 ∧ (D.write x).2.okR := fun x hx => by
    unfold Vd.write
    split
    · exact ⟨setB_base kb _ _ hx.block, setB_op _ _ _, setB_len _ _ _, okR_0 0 (by decide)⟩
    · exact ⟨kb, rfl, Nat.le_succ _, okR_0 5 (by decide)⟩
  unfold Vd.does
  split
  · exact hw e ho
  · split
    · unfold Vd.trim
      split
      · exact ⟨fun p hp => kb p (List.mem_filter.1 hp).1, rfl, Nat.le_trans (List.length_filter_le _ _) (by omega), okR_0 0 (by decide)⟩
      · exact ⟨kb, rfl, Nat.le_succ _, okR_0 5 (by decide)⟩
    · split
      · unfold Vd.resize
        split
        · exact ⟨kb, rfl, Nat.le_succ _, okR_0 5 (by decide)⟩
        · exact ⟨fun p hp => kb p (List.mem_filter.1 hp).1, rfl, Nat.le_trans (List.length_filter_le _ _) (by omega), okR_0 0 (by decide)⟩
      · unfold Vd.swap
        split
        · exact ⟨kb, rfl, Nat.le_succ _, by show (0 : Int) ≤ 11; decide, by show (11 : Int) ≤ 100; decide, by show (wholeB _).size ≤ 64; rw [wholeB_size _ (hD.blk _)]; exact Nat.le_refl _⟩
        · exact hw e ho
theorem Vd.base.apply {D : Vd} (h : D.base) (e : En) (ho : e.ok) : (D.apply e).1.base ∧ (D.apply e).2.okR ∧ (D.apply e).1.blocks.length ≤ D.blocks.length + 1 ∧ (D.apply e).1.opens.length ≤ D.opens.length + 1 ∧ (∀ s, aget D.opens e.client = some s → (D.apply e).1.opens.length = D.opens.length) := by
  have hok := h.ok.apply e ho
  obtain ⟨d1, d2, d3, d4⟩ := does_facts D h.ok h.kb e ho
  unfold Vd.apply at *
  split
  · exact ⟨h, okR_0 1 (by decide), Nat.le_succ _, Nat.le_succ _, fun _ _ => rfl⟩
  · split
    · exact ⟨h, okR_0 0 (by decide), Nat.le_succ _, Nat.le_succ _, fun _ _ => rfl⟩
    · split
      · unfold Vd.begin
        cases q : aget D.opens e.client with
        | some s => exact ⟨h, okR_0 0 (by decide), Nat.le_succ _, Nat.le_succ _, fun _ _ => rfl⟩
        | none =>
          dsimp only
          split
          · exact ⟨h, okR_0 3 (by decide), Nat.le_succ _, Nat.le_succ _, fun _ q2 => by cases q2⟩
          · refine ⟨⟨h.ok.opens _ _ ⟨by decide, by decide⟩, h.kb, fun p hp => ?_, fun p hp => ?_⟩, okR_0 0 (by decide), Nat.le_succ _, aset_len _ _ _, fun _ q2 => by cases q2⟩
            · rcases mem_aset hp with rfl | hp
              · exact ⟨ho.client.1, ho.client.2⟩
              · exact h.ko p hp
            · rcases mem_aset hp with rfl | hp
              · exact ⟨Int.le_refl 0, show (0 : Int) ≤ 100 by decide, Nat.zero_le _⟩
              · exact h.so p hp
      · cases q : aget D.opens e.client with
        | none => exact ⟨h, okR_0 12 (by decide), Nat.le_succ _, Nat.le_succ _, fun _ q2 => by cases q2⟩
        | some s =>
          have hs := h.so _ (aget_mem q)
          dsimp only
          split
          · exact ⟨h, okR_0 12 (by decide), Nat.le_succ _, Nat.le_succ _, fun _ _ => rfl⟩
          · split
            · rename_i h1 h2 h3 h4 h5
              have hL : (aset (D.does e).1.opens e.client ⟨e.seq, (D.does e).2.e, (D.does e).2.data⟩).length = D.opens.length := by
                rw [d2]; exact aset_len_eq _ _ _ (aget_key q)
              refine ⟨⟨?_, d1, fun p hp => ?_, fun p hp => ?_⟩, d4, d3, by dsimp only; rw [hL]; omega, fun _ _ => hL⟩
              · rw [if_neg h1, if_neg h2, if_neg h3, q] at hok
                dsimp only at hok
                rw [if_neg h4, if_pos h5] at hok
                exact hok
              · dsimp only at hp
                rcases mem_aset hp with rfl | hp
                · exact ⟨ho.client.1, ho.client.2⟩
                · rw [d2] at hp; exact h.ko p hp
              · dsimp only at hp
                rcases mem_aset hp with rfl | hp
                · exact d4
                · rw [d2] at hp; exact h.so p hp
            · exact ⟨h, hs, Nat.le_succ _, Nat.le_succ _, fun _ _ => rfl⟩
theorem Vd.base.fit {D : Vd} (h : D.base) (hb : D.blocks.length ≤ 12) (hn : D.opens.length ≤ 12) : Vd.fit D := ⟨h.ok, h.kb, h.ko, h.so, hb, hn⟩
end Go.Proofs.YtpebpcmppcpkdaaDoor
