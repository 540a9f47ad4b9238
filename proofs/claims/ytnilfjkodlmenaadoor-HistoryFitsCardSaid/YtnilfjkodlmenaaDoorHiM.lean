/- history in words. -/
import Derived.Test.YtnilfjkodlmenaaDoorEnM
set_option maxRecDepth 16000
namespace Go.Pin
set_option linter.unusedVariables false
set_option linter.unusedSimpArgs false
/-- What a client asked, when, and what it was told. -/
structure HOp where
  e : En
  start : Int
  stop : Int
  re : Int
  rd : ByteArray
structure HOp.ok (o : HOp) : Prop where
  kind : -9223372036854775808 ≤ o.e.kind ∧ o.e.kind ≤ 9223372036854775807
  block : 0 ≤ o.e.block ∧ o.e.block ≤ 18446744073709551615
  many : 0 ≤ o.e.many ∧ o.e.many ≤ 18446744073709551615
  data : o.e.data.size ≤ 9223372036854775807
  old : o.e.old.size ≤ 9223372036854775807
  start : 0 ≤ o.start ∧ o.start ≤ 18446744073709551615
  stop : 0 ≤ o.stop ∧ o.stop ≤ 18446744073709551615
  re : -9223372036854775808 ≤ o.re ∧ o.re ≤ 9223372036854775807
  rd : o.rd.size ≤ 9223372036854775807
def hKnown (k : Int) : Bool := decide (k = 1 ∨ k = 2 ∨ k = 3 ∨ k = 11 ∨ k = 100)
def hWhole (s : ByteArray) : ByteArray := ⟨(s.data.toList ++ List.replicate (64 - s.size) 0).toArray⟩
def hBounds (n : Nat) (e : En) (many : Int) : Bool := decide (e.block ≤ n) && decide (many ≤ n - e.block)
def hJoin (B : List ByteArray) : ByteArray := B.foldr (· ++ ·) ⟨#[]⟩
def hdo (B : List ByteArray) (o : HOp) : List ByteArray × Int × ByteArray :=
  if hKnown o.e.kind = false ∨ 64 < o.e.data.size ∨ 64 < o.e.old.size then (B, 1, ⟨#[]⟩)
  else if ((o.e.kind = 1 ∨ o.e.kind = 11) ∧ hBounds B.length o.e 1 = false) ∨ ((o.e.kind = 2 ∨ o.e.kind = 100) ∧ hBounds B.length o.e o.e.many = false) ∨ (o.e.kind = 3 ∧ 128 < o.e.many) then (B, 5, ⟨#[]⟩)
  else if o.e.kind = 100 then (B, 0, hJoin ((B.drop o.e.block.toNat).take o.e.many.toNat))
  else if o.e.kind = 2 then (B.mapIdx (fun i x => if o.e.block.toNat ≤ i ∧ i < o.e.block.toNat + o.e.many.toNat then hWhole ⟨#[]⟩ else x), 0, ⟨#[]⟩)
  else if o.e.kind = 3 then (B.take o.e.many.toNat ++ List.replicate (o.e.many.toNat - B.length) (hWhole ⟨#[]⟩), 0, ⟨#[]⟩)
  else if o.e.kind = 11 ∧ B.getD o.e.block.toNat ⟨#[]⟩ ≠ hWhole o.e.old then (B, 11, B.getD o.e.block.toNat ⟨#[]⟩)
  else (B.set o.e.block.toNat (hWhole o.e.data), 0, ⟨#[]⟩)
/-- None that was answered is left. -/
def hOver (L : List HOp) (done : Nat) : Bool := (List.range L.length).all fun k => decide ((L.getD k ⟨En.zero, 0, 0, 0, ⟨#[]⟩⟩).stop = 0) || done.testBit k
def hAt (L : List HOp) (k : Nat) : HOp := L.getD k ⟨En.zero, 0, 0, 0, ⟨#[]⟩⟩
/-- May one be done ahead of all others that are left? -/
def hMay (L : List HOp) (done at' : Nat) : Bool :=
  ((List.range L.length).all fun k => decide (k = at') || decide ((hAt L k).stop = 0) || done.testBit k || decide ((hAt L at').start < (hAt L k).stop)) && !done.testBit at'
def hTold (B : List ByteArray) (o : HOp) : Bool := decide (o.stop = 0) || decide ((hdo B o).2 = (o.re, o.rd))
/-- The first order, f steps at most. -/
def hs (L : List HOp) : Nat → Nat → List ByteArray → Option (List Nat)
  | f, done, B => if hOver L done = true then some [] else
    match f with
    | 0 => none
    | f + 1 => (List.range L.length).findSome? fun k => if hMay L done k && hTold B (hAt L k) then (hs L f (done ||| 1 <<< k) (hdo B (hAt L k)).1).map (k :: ·) else none
/-! ### What is found is an order -/
def hFits (L : List HOp) : Nat → List ByteArray → List Nat → Prop
  | done, _, [] => hOver L done = true
  | done, B, k :: r => k < L.length ∧ hMay L done k = true ∧ hTold B (hAt L k) = true ∧ hFits L (done ||| 1 <<< k) (hdo B (hAt L k)).1 r
theorem hs_eq (L : List HOp) (f done : Nat) (B : List ByteArray) : hs L f done B = if hOver L done = true then some [] else
    match f with
    | 0 => none
    | f + 1 => (List.range L.length).findSome? fun k => if hMay L done k && hTold B (hAt L k) then (hs L f (done ||| 1 <<< k) (hdo B (hAt L k)).1).map (k :: ·) else none := by
  cases f <;> rfl
theorem hs_fits (L : List HOp) : ∀ (f done : Nat) (B : List ByteArray) (r : List Nat), hs L f done B = some r → hFits L done B r
  | f, done, B, r, h => by
    rw [hs_eq] at h
    by_cases ho : hOver L done = true
    · rw [if_pos ho] at h
      injection h with h
      subst h
      exact ho
    · rw [if_neg ho] at h
      cases f with
      | zero => cases h
      | succ f =>
        dsimp only at h
        obtain ⟨k, hk, hv⟩ := List.exists_of_findSome?_eq_some h
        split at hv
        · rename_i hc
          rw [Bool.and_eq_true] at hc
          obtain ⟨r', hr', rfl⟩ := Option.map_eq_some_iff.1 hv
          exact ⟨List.mem_range.1 hk, hc.1, hc.2, hs_fits L f _ _ _ hr'⟩
        · cases hv
end Go.Pin
