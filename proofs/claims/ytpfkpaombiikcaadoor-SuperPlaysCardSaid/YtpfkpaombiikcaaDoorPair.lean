/- A device beside the document's; numbers that came in. -/
import Derived.Test.YtpfkpaombiikcaaDoorDevE
import Derived.Test.YtpfkpaombiikcaaDoorRfA
import Derived.Test.YtpfkpaombiikcaaDoorOpens
set_option maxRecDepth 16000
namespace Go.Pin
open Go.RowKit
set_option linter.unusedVariables false
set_option linter.unusedSimpArgs false
/-- A device and the document's, both the device D, apart and above B. -/
structure Pair (w : World) (B b f m r N O V : Nat) (D : Dv) : Prop where
  dev : DevAt w b f m D
  ref : RefAt w r N O V D
  apart : ∀ k, devS b f m k → ¬ refS r N O V k
  low1 : ∀ k, devS b f m k → B ≤ k
  low2 : ∀ k, refS r N O V k → B ≤ k
theorem Pair.below {a w : World} {B b f m r N O V : Nat} {D : Dv} (h : Pair a B b f m r N O V D) (hk : Below a.heap.size a w) : Pair w B b f m r N O V D := ⟨h.dev.below hk, h.ref.below hk, h.apart, h.low1, h.low2⟩
theorem dev_off {a w : World} {b f m : Nat} {D : Dv} (h : DevAt a b f m D) {S : Nat → Prop} (hk : Keep S a w) (ha : ∀ k, devS b f m k → ¬ S k) : DevAt w b f m D := h.keep hk ⟨ha b (.inl rfl), ha f (.inr (.inl rfl)), ha m (.inr (.inr rfl))⟩
theorem ref_off {a w : World} {r N O V : Nat} {D : Dv} (h : RefAt a r N O V D) {S : Nat → Prop} (hk : Keep S a w) (ha : ∀ k, refS r N O V k → ¬ S k) : RefAt w r N O V D :=
  h.keep hk ⟨ha r (.inl rfl), ha N (.inr (.inl rfl)), ha O (.inr (.inr (.inl rfl))), ha V (.inr (.inr (.inr rfl)))⟩
theorem Pair.lt1 {w : World} {B b f m r N O V : Nat} {D : Dv} (h : Pair w B b f m r N O V D) {k : Nat} (hk : devS b f m k) : k < w.heap.size := by
  have := h.dev.lt
  rcases hk with rfl | rfl | rfl
  · exact this.1
  · exact this.2.1
  · exact this.2.2
theorem Pair.lt2 {w : World} {B b f m r N O V : Nat} {D : Dv} (h : Pair w B b f m r N O V D) {k : Nat} (hk : refS r N O V k) : k < w.heap.size := by
  have := h.ref.lt
  rcases hk with rfl | rfl | rfl | rfl
  · exact this.1
  · exact this.2.1
  · exact this.2.2.1
  · exact this.2.2.2
theorem dimg_size {d : Dv} (h : d.ok) : (dimage d).size = d.n * 64 := by
  show (dimgL d d.n).toArray.size = _
  rw [List.size_toArray, dimgL_len h]
/-- First the device has turned, then the document's. -/
theorem Pair.step {w0 w1 w2 : World} {B b f m r N O V : Nat} {D D1 : Dv} (h : Pair w0 B b f m r N O V D) (h1 : DevAt w1 b f m D1) (k1 : Keep (devS b f m) w0 w1) (h2 : RefAt w2 r N O V D1) (k2 : Keep (refS r N O V) w1 w2) : Pair w2 B b f m r N O V D1 :=
  ⟨dev_off h1 k2 h.apart, h2, h.apart, h.low1, h.low2⟩
theorem below_keep {B : Nat} {a b c : World} {S : Nat → Prop} (h : Below B a b) (hB : B ≤ b.heap.size) (k : Keep S b c) (hs : ∀ k, S k → B ≤ k) : Below B a c := h.trans (k.below hB hs)
end Go.Pin
namespace Go.Proofs.YtpfkpaombiikcaaDoor
open Go.RowKit Go.Pin
set_option linter.unusedVariables false
set_option linter.unusedSimpArgs false
/-- A slice of whole numbers that came in holds some numbers. -/
theorem slI_of_open {w : World} {a : Option Addr} {len cap : Nat} (h : isSlice [isInt .i64] w (.slice a len cap)) : ∃ L : List Int, L.length = len ∧ len ≤ 9223372036854775807 ∧ SlI w a L := by
  obtain ⟨a', len', cap', he, h1, h2, hc⟩ := h
  cases he
  have hall : ∀ i, i < len → ∃ z : Int, ∀ b o, a = some ⟨b, o, none⟩ → w.cell? ⟨b, o + i, none⟩ = some (.int .i64 z) := by
    intro i hi
    obtain ⟨b, o, rfl, hcc⟩ := hc (by omega)
    obtain ⟨x, hx, z, rfl, _⟩ := hcc i hi 0 _ rfl
    refine ⟨z, fun b' o' e => ?_⟩
    cases e
    simpa using hx
  refine ⟨(List.range len).map fun i => if hi : i < len then (hall i hi).choose else 0, by simp, by omega, fun hp => ?_⟩
  have hl : 0 < len := by simpa using hp
  obtain ⟨b, o, rfl, hcc⟩ := hc hl
  refine ⟨b, o, rfl, fun i hi => ?_⟩
  have hi' : i < len := by simpa using hi
  have := (hall i hi').choose_spec b o rfl
  rw [this]
  simp [List.getD, hi']
end Go.Proofs.YtpfkpaombiikcaaDoor
