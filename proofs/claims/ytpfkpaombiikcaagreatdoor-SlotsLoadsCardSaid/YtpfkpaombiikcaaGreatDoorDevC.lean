import Derived.Test.YtpfkpaombiikcaaGreatDoorDevN
import Derived.Test.YtpfkpaombiikcaaGreatDoorDevI
import Derived.Test.YtpfkpaombiikcaaGreatDoorDevQ
import Derived.Test.YtpfkpaombiikcaaGreatDoorIdx
/- What slices.Clone of sectors and device.Device's After compute. -/
set_option maxRecDepth 16000
namespace Go.Pin
open Go.RowKit
set_option linter.unusedVariables false
set_option linter.unusedSimpArgs false
/-- n sectors, one behind the other, as cells. -/
def rowCells (o : Nat → ByteArray) (n : Nat) : List Value := (List.range (n * 64)).map fun j => Value.int .u8 (((o (j / 64)).data.toList.getD (j % 64) 0).toNat : Int)
theorem rowCells_len (o : Nat → ByteArray) (n : Nat) : (rowCells o n).length = n * 64 := by unfold rowCells; rw [List.length_map, List.length_range]
theorem rowCells_at (o : Nat → ByteArray) (n j : Nat) (hj : j < n * 64) : (rowCells o n)[j]? = some (Value.int .u8 (((o (j / 64)).data.toList.getD (j % 64) 0).toNat : Int)) := by
  unfold rowCells
  rw [List.getElem?_map, List.getElem?_range hj]; rfl
theorem rowCells_one (o : Nat → ByteArray) (n : Nat) : ∀ u ∈ rowCells o n, u.oneCell' = true := by
  intro u hu
  unfold rowCells at hu
  obtain ⟨x, _, rfl⟩ := List.mem_map.1 hu
  rfl
theorem sec_of_cells {w : World} {g : Nat} {s : ByteArray} (i : Nat) (hz : s.size = 64) (h : ∀ r, r < 64 → w.cell? ⟨g, i * 64 + r, none⟩ = some (.int .u8 ((s.data.toList.getD r 0).toNat : Int))) (hf : ∀ j, w.frozen? ⟨g, j, none⟩ = false) : SecAt w g (i * 64) s := by
  refine ⟨hz, fun j v hv => ?_, fun j hj => hf _⟩
  have hj : j < (secCells s).length := (List.getElem?_eq_some_iff.1 hv).1
  rw [secCells_length, hz] at hj
  rw [h j hj, ← hv]
  have hl : j < s.data.toList.length := by rw [show s.data.toList.length = 64 from hz]; exact hj
  unfold secCells
  rw [List.getElem?_map, List.getElem?_eq_getElem hl]
  simp only [List.getD, List.getElem?_eq_getElem hl, Option.map_some, Option.getD_some]
/-- Sectors that a call has laid down anew. -/
def ClonedTo (o : Nat → ByteArray) (n B : Nat) (w : World) (e : Ending) (w' : World) : Prop :=
  ∃ g c : Nat, e = .returned (.slice (some ⟨g, 0, none⟩) n c) ∧ n ≤ c ∧ c ≤ 9223372036854775807 ∧ B ≤ g ∧ g < w'.heap.size ∧ (∀ i, i < n → SecAt w' g (i * 64) (o i)) ∧ Below B w w'
/-- What is left of sector i behind a crash. -/
def aft (d : Dv) (lost : List Int) (i : Nat) : ByteArray := if d.w i = true ∧ (i : Int) ∈ lost then d.o i else d.s i
def Aftering (w : World) (f : Nat) (d : Dv) (lost : List Int) (left : List Ent) : Prop := ∀ i, i < d.n → SecAt w f (i * 64) (if (i : Int) ∈ left.map (·.1) then d.o i else aft d lost i)
theorem Aftering.start {w : World} {f : Nat} {d : Dv} (hok : d.ok) (lost : List Int) {L : List Ent} (hL : ∀ k : Int, mget L k = d.waits k) (h : ∀ i, i < d.n → SecAt w f (i * 64) (d.o i)) : Aftering w f d lost L := by
  intro i hi
  have h1 := h i hi
  split
  · exact h1
  · rename_i hne
    have hw : d.w i = false := waits_none (by rw [← hL]; exact mget_none L _ hne)
    unfold aft
    rw [if_neg (by rw [hw]; rintro ⟨q, _⟩; cases q), hok.same i hw]
    exact h1
theorem Aftering.keep {S : Nat → Prop} {a w : World} {f : Nat} {d : Dv} {lost : List Int} {left : List Ent} (h : Aftering a f d lost left) (hk : Keep S a w) (hn : ¬ S f) : Aftering w f d lost left := fun i hi => (h i hi).keep hk hn
theorem left_iff {left : List Ent} {i j : Nat} (hij : i ≠ j) : ((i : Int) ∈ (left.filter fun p => decide (p.1 ≠ (j : Int))).map (·.1)) ↔ (i : Int) ∈ left.map (·.1) := by
  simp only [List.mem_map, List.mem_filter]
  constructor
  · rintro ⟨p, ⟨hp, _⟩, e⟩; exact ⟨p, hp, e⟩
  · rintro ⟨p, hp, e⟩; exact ⟨p, ⟨hp, by rw [e]; simp; omega⟩, e⟩
theorem Aftering.skip {w : World} {f : Nat} {d : Dv} {lost : List Int} {left : List Ent} (h : Aftering w f d lost left) (j : Nat) (hj : (j : Int) ∈ left.map (·.1)) (hw : d.w j = true) (hl : (j : Int) ∈ lost) : Aftering w f d lost (left.filter fun p => decide (p.1 ≠ (j : Int))) := by
  intro i hi
  by_cases hij : i = j
  · subst hij
    have h1 := h i hi
    rw [if_pos hj] at h1
    rw [if_neg (by simp)]
    unfold aft
    rw [if_pos ⟨hw, hl⟩]; exact h1
  · simp only [left_iff hij]
    exact h i hi
theorem Aftering.step {w : World} {f : Nat} {d : Dv} {lost : List Int} {left : List Ent} (h : Aftering w f d lost left) (hok : d.ok) (j : Nat) (hl : (j : Int) ∉ lost) : Aftering (w.setSec f (j * 64) (d.s j)) f d lost (left.filter fun p => decide (p.1 ≠ (j : Int))) := by
  intro i hi
  by_cases hij : i = j
  · subst hij
    rw [if_neg (by simp)]
    unfold aft
    rw [if_neg (by rintro ⟨_, q⟩; exact hl q)]
    exact (h i hi).set _ (hok.z2 i)
  · simp only [left_iff hij]
    exact (h i hi).set_other _ (hok.z2 j) (.inr (by omega))
theorem dafter_n (d : Dv) (lost : List Int) : (dafter d lost).n = d.n := by
  show (dafter d lost).old.length = _
  simp [dafter]
theorem dafter_o (d : Dv) (lost : List Int) (i : Nat) (hi : i < d.n) : (dafter d lost).o i = aft d lost i := by
  unfold Dv.o dafter aft
  simp [List.getD, hi]
theorem dafter_s (d : Dv) (lost : List Int) (i : Nat) : (dafter d lost).s i = (dafter d lost).o i := rfl
theorem dafter_w (d : Dv) (lost : List Int) (i : Nat) : (dafter d lost).w i = false := getD_rep _ _ _
theorem dafter_ok {d : Dv} (h : d.ok) (lost : List Int) : (dafter d lost).ok := by
  have hn := dafter_n d lost
  have hz : ∀ i, ((dafter d lost).o i).size = 64 := fun i => by
    by_cases hi : i < d.n
    · rw [dafter_o d lost i hi]
      unfold aft
      split
      · exact h.z1 i
      · exact h.z2 i
    · unfold Dv.o
      have : (dafter d lost).old.length ≤ i := by have : (dafter d lost).n ≤ i := by rw [hn]; omega
                                                  exact this
      rw [List.getD, List.getElem?_eq_none this]; rfl
  exact ⟨by rw [hn]; exact h.n1, by rw [hn]; exact h.n2, by rw [hn]; simp [dafter], by rw [hn]; simp [dafter], hz, hz, fun _ _ => rfl, by simp [dafter], by simp [dafter]⟩
/-- The new device's blocks, once all is laid down. -/
theorem DevAt.afterwards {w : World} {bo g M cg : Nat} {d : Dv} (hok : d.ok) (lost : List Int) (h0 : w.cell? ⟨bo, 0, none⟩ = some (.slice (some ⟨g, 0, none⟩) d.n cg)) (hc1 : d.n ≤ cg) (hc2 : cg ≤ 9223372036854775807) (h1 : w.cell? ⟨bo, 1, none⟩ = some (.map (some M))) (h2 : w.cell? ⟨bo, 2, none⟩ = some (.int .i64 (-1))) (h3 : w.cell? ⟨bo, 3, none⟩ = some (.bool false))
    (hf : ∀ i, i < 4 → w.frozen? ⟨bo, i, none⟩ = false) (hM : MapAt w M .i64 []) (hs : Aftering w g d lost []) (e1 : bo ≠ g) (e2 : bo ≠ M) (e3 : g ≠ M) : DevAt w bo g M (dafter d lost) := by
  have hn := dafter_n d lost
  refine ⟨dafter_ok hok lost, ⟨cg, by rw [hn]; exact hc1, hc2, by rw [hn]; exact h0⟩, h1, h2, h3, hf, ⟨[], hM, fun k => ?_⟩, fun i hi => ?_, e1, e2, e3⟩
  · have : (dafter d lost).waits k = none := by unfold Dv.waits; rw [dafter_w]; simp
    rw [this]; rfl
  · rw [hn] at hi
    have h1 := hs i hi
    rw [if_neg (by simp)] at h1
    rw [dafter_o d lost i hi]; exact h1
end Go.Pin
namespace Go.Proofs.YtpfkpaombiikcaaGreatDoor
open Go.RowKit Go.Pin
set_option linter.unusedVariables false
set_option linter.unusedSimpArgs false
/-- The numbers that a slice holds. -/
def SlI (w : World) (a : Option Addr) (zs : List Int) : Prop := 0 < zs.length → ∃ b o, a = some ⟨b, o, none⟩ ∧ ∀ i, i < zs.length → w.cell? ⟨b, o + i, none⟩ = some (.int .i64 (zs.getD i 0))
theorem SlI.below {w w' : World} {a : Option Addr} {zs : List Int} (h : SlI w a zs) (hk : Below w.heap.size w w') : SlI w' a zs := fun hp => by
  obtain ⟨b, o, ha, hc⟩ := h hp
  exact ⟨b, o, ha, fun i hi => (Keep.of_below (S := fun _ => False) hk fun _ hk _ => hk).cell (hc i hi) id⟩
/-- A device behind a crash, in blocks of its own. -/
def AfterTo (d : Dv) (lost : List Int) (B : Nat) (w : World) (e : Ending) (w' : World) : Prop :=
  ∃ b f m : Nat, e = .returned (.pointer (some ⟨b, 0, none⟩)) ∧ B ≤ b ∧ B ≤ f ∧ B ≤ m ∧ DevAt w' b f m (dafter d lost) ∧ Below B w w'
end Go.Proofs.YtpfkpaombiikcaaGreatDoor
