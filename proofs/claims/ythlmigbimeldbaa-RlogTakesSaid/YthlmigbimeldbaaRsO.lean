/- Opening a slice of parts. -/
import Derived.Test.YthlmigbimeldbaaRsW
import Derived.Test.YthlmigbimeldbaaOpens
import Derived.OpenShut
set_option maxRecDepth 16000
namespace Go.Pin
open Go.RowKit
set_option linter.unusedVariables false
set_option linter.unusedSimpArgs false
abbrev madePs : List Pred := [isInt .u64, isInt .u64, isInt .i64, isInt .u64, isInt .u64, isInt .u64, isInt .u64, isInt .i64, isInt .i64, isStr, isStr, isBool]
theorem mades_of_slice {W : World} {a : Option Addr} {len cap : Nat} (h : isSlice madePs W (.slice a len cap)) : ∃ M, MadesAt W a len M := by
  obtain ⟨a', len', cap', q, h1, h2, h3⟩ := h
  simp only [Value.slice.injEq] at q
  obtain ⟨rfl, rfl, rfl⟩ := q
  have key : ∀ i, i < len → ∃ x : En × Bool, x.1.ok ∧ ∃ A o, a = some ⟨A, o, none⟩ ∧ EnAt W A (o + i * 12) x.1 ∧ W.cell? ⟨A, o + i * 12 + 11, none⟩ = some (.bool x.2) := by
    intro i hi
    obtain ⟨A, o, rfl, hc⟩ := h3 (by omega)
    have g := hc i hi
    obtain ⟨_, e0, n0, rfl, w0⟩ := g 0 _ rfl
    obtain ⟨_, e1, n1, rfl, w1⟩ := g 1 _ rfl
    obtain ⟨_, e2, n2, rfl, w2⟩ := g 2 _ rfl
    obtain ⟨_, e3, n3, rfl, w3⟩ := g 3 _ rfl
    obtain ⟨_, e4, n4, rfl, w4⟩ := g 4 _ rfl
    obtain ⟨_, e5, n5, rfl, w5⟩ := g 5 _ rfl
    obtain ⟨_, e6, n6, rfl, w6⟩ := g 6 _ rfl
    obtain ⟨_, e7, n7, rfl, w7⟩ := g 7 _ rfl
    obtain ⟨_, e8, n8, rfl, w8⟩ := g 8 _ rfl
    obtain ⟨_, e9, s9, rfl, w9⟩ := g 9 _ rfl
    obtain ⟨_, e10, s10, rfl, w10⟩ := g 10 _ rfl
    obtain ⟨_, e11, b11, rfl⟩ := g 11 _ rfl
    exact ⟨(⟨n0, n1, n2, n3, n4, n5, n6, n7, n8, s9, s10⟩, b11), ⟨Go.bounds_u64 w0, Go.bounds_u64 w1, Go.bounds_i64 w2, Go.bounds_u64 w3, Go.bounds_u64 w4, Go.bounds_u64 w5, Go.bounds_u64 w6, Go.bounds_i64 w7, Go.bounds_i64 w8, by dsimp only; omega, by dsimp only; omega⟩, A, o, rfl, ⟨e0, e1, e2, e3, e4, e5, e6, e7, e8, e9, e10⟩, e11⟩
  have key2 : ∀ i : Fin len, ∃ x : En × Bool, x.1.ok ∧ ∃ A o, a = some ⟨A, o, none⟩ ∧ EnAt W A (o + i.1 * 12) x.1 ∧ W.cell? ⟨A, o + i.1 * 12 + 11, none⟩ = some (.bool x.2) := fun i => key i.1 i.2
  refine ⟨List.ofFn fun i => Classical.choose (key2 i), by simp, fun x hx => ?_, fun j x hx => ?_⟩
  · rw [List.mem_ofFn] at hx
    obtain ⟨i, rfl⟩ := hx
    exact (Classical.choose_spec (key2 i)).1
  · have hj : j < len := by have := (List.getElem?_eq_some_iff.1 hx).1; simpa using this
    rw [List.getElem?_ofFn] at hx
    simp only [hj, ↓reduceDIte, Option.some.injEq] at hx
    subst hx
    exact (Classical.choose_spec (key2 ⟨j, hj⟩)).2
end Go.Pin
