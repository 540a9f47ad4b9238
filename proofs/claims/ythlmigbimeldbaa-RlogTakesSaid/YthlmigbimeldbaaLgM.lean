/- rlog: logs as plain words; entries that lie one behind the other. -/
import Derived.Test.YthlmigbimeldbaaEnX
set_option maxRecDepth 16000
namespace Go.Pin
open Go.RowKit
set_option linter.unusedVariables false
set_option linter.unusedSimpArgs false
structure Lg where
  base : Int
  bt : Int
  l : List En
/-- A slice's entries. -/
structure EntsAt (w : World) (p : Option Addr) (n : Nat) (L : List En) : Prop where
  len : L.length = n
  at' : ∀ j e, L[j]? = some e → ∃ A o, p = some ⟨A, o, none⟩ ∧ EnAt w A (o + j * 11) e
theorem EntsAt.keep {S : Nat → Prop} {a w : World} {p : Option Addr} {n : Nat} {L : List En} (h : EntsAt a p n L) (hk : Keep S a w) (hn : ∀ A o, p = some ⟨A, o, none⟩ → ¬ S A) : EntsAt w p n L :=
  ⟨h.len, fun j e he => by obtain ⟨A, o, q, hE⟩ := h.at' j e he; exact ⟨A, o, q, hE.keep hk (hn A o q)⟩⟩
theorem EntsAt.keep' {a w : World} {p : Option Addr} {n : Nat} {L : List En} (h : EntsAt a p n L) (hk : Keep (fun _ => False) a w) : EntsAt w p n L := h.keep hk fun _ _ _ => id
theorem EntsAt.below {a w : World} {p : Option Addr} {n : Nat} {L : List En} (h : EntsAt a p n L) (hk : Below a.heap.size a w) : EntsAt w p n L := h.keep' (Keep.of_below hk fun _ q _ => q)
theorem EntsAt.nil (w : World) (p : Option Addr) : EntsAt w p 0 [] := ⟨rfl, fun j e h => by simp at h⟩
def lgIdx (p : En → Bool) (L : List En) : Int := match L.findIdx? p with | some k => k | none => -1
def Lg.last (g : Lg) : Int × Int := match g.l.getLast? with | some e => (e.index, e.term) | none => (g.base, g.bt)
def Lg.term (g : Lg) (i : Int) : Option Int := if i = g.base then some g.bt else (g.l.find? fun e => decide (e.index = i)).map (·.term)
def Lg.newer (g : Lg) (i t : Int) : Bool := decide (g.last.2 < t) || (decide (t = g.last.2) && decide (g.last.1 ≤ i))
def Lg.same (g : Lg) (i t : Int) : Bool := decide (g.term i = some t)
/-- Entries that follow one another behind a place. -/
def lgChain (base term : Int) : List En → Nat → Bool
  | [], _ => true
  | e :: L, k => e.right && decide (e.index = (base + k + 1) % 18446744073709551616) && decide (term ≤ e.term) && lgChain base e.term L (k + 1)
def Lg.right (g : Lg) : Bool := lgChain g.base g.bt g.l 0 && decide (g.base < 4611686018427387904)
/-- One entry more of a part. -/
def lgStep (base i m : Int) (out : List En) (e : En) : List En := if base < i ∧ i ≤ e.index ∧ (out.length : Int) < m then out ++ [e] else out
def Lg.part (g : Lg) (i m : Int) : List En := g.l.foldl (lgStep g.base i m) []
def Lg.drop (g : Lg) (i : Int) : Option Lg := (g.term i).map fun t => ⟨i, t, g.part ((i + 1) % 18446744073709551616) g.l.length⟩
def Lg.hint (g : Lg) (prev : Int) : Int :=
  if g.last.1 < prev then g.last.1 else
  match g.term prev with
  | none => g.base
  | some t => if prev ≤ g.base then g.base else match g.l.find? fun e => decide (e.term = t) with | some e => max ((e.index - 1) % 18446744073709551616) g.base | none => g.base
def lgMiss (g : Lg) (e : En) : Bool := decide (g.base < e.index) && !g.same e.index e.term
def Lg.take (g : Lg) (prev term : Int) (more : List En) : Lg × Int × Bool :=
  if g.right = false ∨ (Lg.mk prev term more).right = false ∨ (g.base ≤ prev ∧ g.same prev term = false) then (g, 0, false)
  else match more.findIdx? (lgMiss g) with
    | none => (g, 0, true)
    | some k =>
      let from' := (more.getD k En.zero).index
      let keep := min ((from' - g.base - 1).toNat) g.l.length
      let out : Lg := ⟨g.base, g.bt, g.l.take keep ++ more.drop k⟩
      if out.right = true then (out, from', true) else (g, 0, false)
end Go.Pin
