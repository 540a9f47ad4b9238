/- vdisk: a disk as plain words. -/
import Derived.Test.YtpebpcmppcpkdaaDoorMapD
import Derived.Test.YtpebpcmppcpkdaaDoorEnX
import Derived.Lib.TrimByte
import Derived.Test.YtpebpcmppcpkdaaDoorSuS
set_option maxRecDepth 16000
namespace Go.Pin
open Go.RowKit
set_option linter.unusedVariables false
set_option linter.unusedSimpArgs false
/-- What a client did last. -/
structure Ses where
  seq : Int
  e : Int
  data : ByteArray
/-- What is told. -/
structure Res where
  e : Int
  data : ByteArray
abbrev Ses.val (s : Ses) : Value := .agg #[.int .u64 s.seq, .int .i64 s.e, .string s.data]
abbrev Res.val (s : Res) : Value := .agg #[.int .i64 s.e, .string s.data]
def noText : ByteArray := ⟨#[]⟩
def Ses.zero : Ses := ⟨0, 0, ⟨#[]⟩⟩
structure Vd where
  many : Int
  blocks : List (Int × ByteArray)
  opens : List (Int × Ses)
section
variable {α : Type}
def aget (L : List (Int × α)) (k : Int) : Option α := (L.find? fun p => decide (p.1 = k)).map (·.2)
def aset (L : List (Int × α)) (k : Int) (v : α) : List (Int × α) := if k ∈ L.map (·.1) then L.map (fun p => if p.1 = k then (k, v) else p) else L ++ [(k, v)]
def adel (L : List (Int × α)) (k : Int) : List (Int × α) := L.filter fun p => decide (p.1 ≠ k)
def entsOf (f : α → Value) (L : List (Int × α)) : List Ent := L.map fun p => (p.1, f p.2)
theorem entsOf_keys (f : α → Value) (L : List (Int × α)) : (entsOf f L).map (·.1) = L.map (·.1) := by
  unfold entsOf; rw [List.map_map]; rfl
theorem mget_ents (f : α → Value) (k : Int) : ∀ L : List (Int × α), mget (entsOf f L) k = (aget L k).map f
  | [] => rfl
  | p :: L => by
    have ih := mget_ents f k L
    unfold mget aget entsOf at *
    rw [List.map_cons, List.find?_cons, List.find?_cons]
    by_cases h : p.1 = k
    · simp [h]
    · simp only [h, decide_false]
      exact ih
theorem mset_ents (f : α → Value) (L : List (Int × α)) (k : Int) (v : α) : mset (entsOf f L) k (f v) = entsOf f (aset L k v) := by
  unfold mset aset
  rw [entsOf_keys]
  split
  · unfold entsOf
    rw [List.map_map, List.map_map]
    apply List.map_congr_left
    intro p _
    by_cases h : p.1 = k
    · simp [h]
    · simp [h]
  · unfold entsOf; simp
theorem filter_ents (f : α → Value) (L : List (Int × α)) (q : Int → Bool) : (entsOf f L).filter (fun p => q p.1) = entsOf f (L.filter fun p => q p.1) := by
  unfold entsOf; rw [List.filter_map]; rfl
theorem del_ents (f : α → Value) (L : List (Int × α)) (k : Int) : (entsOf f L).filter (fun p => decide (p.1 ≠ k)) = entsOf f (adel L k) := filter_ents f L fun i => decide (i ≠ k)
theorem aget_set (L : List (Int × α)) (k j : Int) (v : α) : aget (aset L k v) j = if j = k then some v else aget L j := by
  unfold aset
  split
  · rename_i hk
    induction L with
    | nil => simp at hk
    | cons p L ih =>
      unfold aget at *
      rw [List.map_cons, List.find?_cons, List.find?_cons]
      by_cases h : p.1 = k
      · rw [if_pos h]
        by_cases hj : j = k
        · subst hj; simp
        · rw [if_neg hj]
          have h1 : ¬ k = j := fun q => hj q.symm
          have h2 : ¬ p.1 = j := fun q => hj (by rw [← q, h])
          simp only [h1, h2, decide_false]
          by_cases hm : k ∈ L.map (·.1)
          · have := ih hm; rw [if_neg hj] at this; exact this
          · have e : (L.map fun p => if p.1 = k then (k, v) else p) = L := by
              conv => rhs; rw [← List.map_id L]
              apply List.map_congr_left
              intro q hq
              rw [if_neg (fun e => hm (List.mem_map.2 ⟨q, hq, e⟩))]; rfl
            rw [e]
      · rw [if_neg h]
        have hm : k ∈ L.map (·.1) := by
          rw [List.map_cons, List.mem_cons] at hk
          rcases hk with q | q
          · exact absurd q.symm h
          · exact q
        by_cases hp : p.1 = j
        · have hj : ¬ j = k := fun q => h (by rw [hp, q])
          simp [hp, hj]
        · simp only [hp, decide_false]
          exact ih hm
  · rename_i hk
    unfold aget
    rw [List.find?_append]
    by_cases hj : j = k
    · subst hj
      have : (L.find? fun p => decide (p.1 = j)) = none := by
        rw [List.find?_eq_none]
        intro p hp
        simp only [decide_eq_true_eq]
        intro q
        exact hk (List.mem_map.2 ⟨p, hp, q⟩)
      rw [this]; simp
    · rw [if_neg hj]
      cases hq : L.find? fun p => decide (p.1 = j) with
      | some x => simp
      | none => simp [Ne.symm hj]
theorem aget_filter (L : List (Int × α)) (q : Int → Bool) (j : Int) : aget (L.filter fun p => q p.1) j = if q j = true then aget L j else none := by
  unfold aget
  rw [List.find?_filter]
  by_cases hq : q j = true
  · rw [if_pos hq]
    congr 2
    funext p
    by_cases h : p.1 = j
    · simp [h, hq]
    · simp [h]
  · rw [if_neg hq]
    have : (L.find? fun a => decide (q a.1 = true ∧ decide (a.1 = j) = true)) = none := by
      rw [List.find?_eq_none]
      intro p _
      simp only [decide_eq_true_eq, not_and]
      intro h1 h2
      rw [h2] at h1; exact hq h1
    rw [this]; rfl
theorem aget_del (L : List (Int × α)) (k j : Int) : aget (adel L k) j = if j = k then none else aget L j := by
  unfold adel
  rw [aget_filter L (fun i => decide (i ≠ k)) j]
  by_cases h : j = k
  · simp [h]
  · simp [h]
end
/-- A text without the 0 at its end. -/
def bareB (s : ByteArray) : ByteArray := ⟨(Lib.trimRightB s.data.toList 0).toArray⟩
/-- A block's bytes. -/
def wholeB (s : ByteArray) : ByteArray := s ++ ⟨(Lib.repeatL [0] (64 - s.size)).toArray⟩
def Vd.blk (D : Vd) (k : Int) : ByteArray := (aget D.blocks k).getD ⟨#[]⟩
def Vd.bounds (D : Vd) (block many : Int) : Bool := decide (block ≤ D.many) && decide (many ≤ D.many - block)
def Vd.setB (D : Vd) (k : Int) (s : ByteArray) : Vd := if bareB s = ⟨#[]⟩ then { D with blocks := adel D.blocks k } else { D with blocks := aset D.blocks k (bareB s) }
def Vd.write (D : Vd) (e : En) : Vd × Res := if D.bounds e.block 1 = true then (D.setB e.block e.data, ⟨0, ⟨#[]⟩⟩) else (D, ⟨5, ⟨#[]⟩⟩)
def Vd.trimTo (D : Vd) (block : Int) (n : Nat) : Vd := { D with blocks := D.blocks.filter fun p => !(decide (block ≤ p.1) && decide (p.1 < block + n)) }
def Vd.trim (D : Vd) (e : En) : Vd × Res := if D.bounds e.block e.many = true then (D.trimTo e.block e.many.toNat, ⟨0, ⟨#[]⟩⟩) else (D, ⟨5, ⟨#[]⟩⟩)
def Vd.resize (D : Vd) (e : En) : Vd × Res := if 128 < e.many then (D, ⟨5, ⟨#[]⟩⟩) else ({ D with many := e.many, blocks := D.blocks.filter fun p => decide (p.1 < e.many) }, ⟨0, ⟨#[]⟩⟩)
def Vd.swap (D : Vd) (e : En) : Vd × Res := if D.bounds e.block 1 = true ∧ D.blk e.block ≠ bareB e.old then (D, ⟨11, wholeB (D.blk e.block)⟩) else D.write e
def Vd.begin (D : Vd) (c : Int) : Vd × Res :=
  match aget D.opens c with
  | some _ => (D, ⟨0, ⟨#[]⟩⟩)
  | none => if D.opens.length = 64 then (D, ⟨3, ⟨#[]⟩⟩) else ({ D with opens := aset D.opens c Ses.zero }, ⟨0, ⟨#[]⟩⟩)
def Vd.does (D : Vd) (e : En) : Vd × Res := if e.kind = 1 then D.write e else if e.kind = 2 then D.trim e else if e.kind = 3 then D.resize e else D.swap e
def Vd.apply (D : Vd) (e : En) : Vd × Res :=
  if e.right = false then (D, ⟨1, ⟨#[]⟩⟩) else if e.client = 0 then (D, ⟨0, ⟨#[]⟩⟩) else if e.kind = 4 then D.begin e.client else
  match aget D.opens e.client with
  | none => (D, ⟨12, ⟨#[]⟩⟩)
  | some s => if e.seq = 0 ∨ e.seq < s.seq then (D, ⟨12, ⟨#[]⟩⟩) else if s.seq < e.seq then ({ (D.does e).1 with opens := aset (D.does e).1.opens e.client ⟨e.seq, (D.does e).2.e, (D.does e).2.data⟩ }, (D.does e).2) else (D, ⟨s.e, s.data⟩)
/-- A disk in memory: its cells at b, its maps. -/
structure VdAt (w : World) (b mb mo : Nat) (D : Vd) : Prop where
  c0 : w.cell? ⟨b, 0, none⟩ = some (.int .u64 D.many)
  c1 : w.cell? ⟨b, 1, none⟩ = some (.map (some mb))
  c2 : w.cell? ⟨b, 2, none⟩ = some (.map (some mo))
  fr : ∀ j, w.frozen? ⟨b, j, none⟩ = false
  bm : MapAt w mb .u64 (entsOf .string D.blocks)
  om : MapAt w mo .u64 (entsOf Ses.val D.opens)
  n1 : mb ≠ mo
  n2 : mb ≠ b
  n3 : mo ≠ b
abbrev VK (b mb mo : Nat) : Nat → Prop := fun k => k = b ∨ k = mb ∨ k = mo
theorem VdAt.keep {S : Nat → Prop} {a w : World} {b mb mo : Nat} {D : Vd} (h : VdAt a b mb mo D) (hk : Keep S a w) (h1 : ¬ S b) (h2 : ¬ S mb) (h3 : ¬ S mo) : VdAt w b mb mo D :=
  ⟨hk.cell h.c0 h1, hk.cell h.c1 h1, hk.cell h.c2 h1, fun j => by rw [hk.frozen (p := ⟨b, j, none⟩) (show b < a.heap.size from World.block_lt_of_cell? _ _ h.c0) h1]; exact h.fr j, h.bm.keep hk h2, h.om.keep hk h3, h.n1, h.n2, h.n3⟩
theorem VdAt.keep' {a w : World} {b mb mo : Nat} {D : Vd} (h : VdAt a b mb mo D) (hk : Keep (fun _ => False) a w) : VdAt w b mb mo D := h.keep hk id id id
theorem VdAt.blocks {a w : World} {b mb mo : Nat} {D : Vd} {L : List (Int × ByteArray)} (h : VdAt a b mb mo D) (hk : Keep (fun k => k = mb) a w) (hm : MapAt w mb .u64 (entsOf .string L)) : VdAt w b mb mo { D with blocks := L } :=
  have hb : ¬ b = mb := fun q => h.n2 q.symm
  ⟨hk.cell h.c0 hb, hk.cell h.c1 hb, hk.cell h.c2 hb, fun j => by rw [hk.frozen (p := ⟨b, j, none⟩) (show b < a.heap.size from World.block_lt_of_cell? _ _ h.c0) hb]; exact h.fr j, hm, h.om.keep hk (fun q => h.n1 q.symm), h.n1, h.n2, h.n3⟩
theorem VdAt.opens {a w : World} {b mb mo : Nat} {D : Vd} {L : List (Int × Ses)} (h : VdAt a b mb mo D) (hk : Keep (fun k => k = mo) a w) (hm : MapAt w mo .u64 (entsOf Ses.val L)) : VdAt w b mb mo { D with opens := L } :=
  have hb : ¬ b = mo := fun q => h.n3 q.symm
  ⟨hk.cell h.c0 hb, hk.cell h.c1 hb, hk.cell h.c2 hb, fun j => by rw [hk.frozen (p := ⟨b, j, none⟩) (show b < a.heap.size from World.block_lt_of_cell? _ _ h.c0) hb]; exact h.fr j, h.bm.keep hk h.n1, hm, h.n1, h.n2, h.n3⟩
theorem VdAt.lt {w : World} {b mb mo : Nat} {D : Vd} (h : VdAt w b mb mo D) : b < w.heap.size ∧ mb < w.heap.size ∧ mo < w.heap.size := ⟨World.block_lt_of_cell? _ _ h.c0, h.bm.lt, h.om.lt⟩
end Go.Pin
