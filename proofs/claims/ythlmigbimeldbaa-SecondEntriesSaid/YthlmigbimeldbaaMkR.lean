/- What is made is right. -/
import Derived.Test.YthlmigbimeldbaaMkM
set_option maxRecDepth 16000
namespace Go.Pin
open Go.RowKit
set_option linter.unusedVariables false
set_option linter.unusedSimpArgs false
theorem cut64_le (s : ByteArray) : (cut64 s).size ≤ 64 := by
  unfold cut64; rw [ByteArray.size_extract]; omega
set_option maxHeartbeats 1600000 in
theorem En.own_right (e : En) (he : e.ok) (i t : Int) (hi : 0 < i) (ht : 0 < t) : ({ e.own with index := i, term := t } : En).right = true := by
  have hk := enKind_in e.kind
  have h1 : 0 < e.client % 5 + 1 := by have := he.client; omega
  have h2 : e.block % 9 < 4294967296 := by omega
  have h3 : e.many % 9 < 4294967296 := by omega
  have h4 : 1 ≤ e.node % 18446744073709551616 % 7 + 1 ∧ e.node % 18446744073709551616 % 7 + 1 ≤ 7 := by omega
  have h5 : e.level % 18446744073709551616 % 2 + 1 = 1 ∨ e.level % 18446744073709551616 % 2 + 1 = 2 := by omega
  have h6 := cut64_le e.data
  have h7 := cut64_le e.old
  generalize hC : e.client % 5 + 1 = C at *
  generalize hB : e.block % 9 = B at *
  generalize hM : e.many % 9 = M at *
  generalize hN : e.node % 18446744073709551616 % 7 + 1 = N at *
  generalize hL : e.level % 18446744073709551616 % 2 + 1 = L at *
  generalize hD : cut64 e.data = D at *
  generalize hO : cut64 e.old = O at *
  have hc : enKind e.kind = 0 ∨ enKind e.kind = 1 ∨ enKind e.kind = 2 ∨ enKind e.kind = 3 ∨ enKind e.kind = 4 ∨ enKind e.kind = 5 ∨ enKind e.kind = 6 ∨ enKind e.kind = 7 ∨ enKind e.kind = 8 ∨ enKind e.kind = 9 ∨ enKind e.kind = 10 ∨ enKind e.kind = 11 := by omega
  unfold En.own enStart
  rcases hc with q | q | q | q | q | q | q | q | q | q | q | q <;> rw [q] <;> simp [enF, enPut, En.right, enFit, enHas, En.zero, hC, hB, hM, hN, hL, hD, hO, hi, ht, h1, h2, h3, h4, h5, h6, h7]
  all_goals omega
end Go.Pin
