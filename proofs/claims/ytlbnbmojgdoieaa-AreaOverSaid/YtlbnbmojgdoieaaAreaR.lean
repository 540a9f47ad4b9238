/- Package area: room, and the law's own helpers. -/
import Derived.Test.YtlbnbmojgdoieaaAreaW
set_option maxRecDepth 16000
namespace Go.Pin
open Go.RowKit
set_option linter.unusedVariables false
def aroom (v m : Int) (s : Snap) : Bool := (aput v s).2 && decide ((((aput v s).1.size : Int) + 63) / 64 ≤ m)
theorem aput_size (v : Int) (s : Snap) : (aput v s).1.size ≤ 16384 + 46 := by
  unfold aput
  split
  · exact Nat.zero_le _
  · have h1 := fpack_size v (aheadS v s.i.toNat s.t.toNat ++ s.d)
    have h2 := aheadS_size v s.i.toNat s.t.toNat
    rw [ByteArray.size_append] at h1
    omega
end Go.Pin
namespace Go.Proofs.Ytlbnbmojgdoieaa
open Go.RowKit Go.Pin
set_option linter.unusedVariables false
set_option linter.unusedSimpArgs false

set_option maxHeartbeats 800000 in
theorem area_room (v m : Int) (hv : -9223372036854775808 ≤ v ∧ v ≤ 9223372036854775807) (hm : -9223372036854775808 ≤ m ∧ m ≤ 9223372036854775807) (s : Snap) (h : s.ok) (w : World) :
    Calls Try.prog 41 #[.int .i64 v, .int .i64 m, s.val] w fun e w' => e = .returned (.bool (aroom v m s)) ∧ Below w.heap.size w w' := by
  obtain ⟨i, t, d⟩ := s
  have hb := (Below.refl w.heap.size w).alloc (Nat.le_refl _) (Obj.cells #[Value.int .u64 i, Value.int .u64 t, Value.string d] 61)
  have hz := aput_size v ⟨i, t, d⟩
  show Calls Try.prog 41 #[.int .i64 v, .int .i64 m, .agg #[.int .u64 i, .int .u64 t, .string d]] w _
  go_enter Try.func41, Try.ntmps41
  go_wp2_with fail
  refine (area_put v hv ⟨i, t, d⟩ h _).mono ?_
  rintro e w2 ⟨rfl, hb2⟩
  replace hb := hb.trans (hb2.mono (by have := hb.size; omega))
  clear hb2
  have hR : aroom v m ⟨i, t, d⟩ = ((aput v ⟨i, t, d⟩).2 && decide ((((aput v ⟨i, t, d⟩).1.size : Int) + 63) / 64 ≤ m)) := rfl
  have HR := Aside.mk hR
  clear hR
  generalize aput v ⟨i, t, d⟩ = p at *
  obtain ⟨b, ok⟩ := p
  replace hz : b.size ≤ 16384 + 46 := hz
  have e63 : (b.size : Int) + 64 - 1 = b.size + 63 := by omega
  cases ok
  · go_wp2_with fail
    go_ret
    exact ⟨by rw [HR.out]; rfl, hb⟩
  · go_wp2_with fail
    go_ret
    refine ⟨?_, hb⟩
    rw [HR.out]; simp

set_option maxHeartbeats 800000 in
theorem arearef_room (v m : Int) (hv : -9223372036854775808 ≤ v ∧ v ≤ 9223372036854775807) (hm : -9223372036854775808 ≤ m ∧ m ≤ 9223372036854775807) (s : Snap) (h : s.ok) (w : World) :
    Calls Try.prog 42 #[.int .i64 v, .int .i64 m, s.val] w fun e w' => e = .returned (.bool (aroom v m s)) ∧ Below w.heap.size w w' := by
  obtain ⟨i, t, d⟩ := s
  have hb := (Below.refl w.heap.size w).alloc (Nat.le_refl _) (Obj.cells #[Value.int .u64 i, Value.int .u64 t, Value.string d] 66)
  have hz := aput_size v ⟨i, t, d⟩
  show Calls Try.prog 42 #[.int .i64 v, .int .i64 m, .agg #[.int .u64 i, .int .u64 t, .string d]] w _
  go_enter Try.func42, Try.ntmps42
  go_wp2_with fail
  refine (arearef_put v hv ⟨i, t, d⟩ h _).mono ?_
  rintro e w2 ⟨rfl, hb2⟩
  replace hb := hb.trans (hb2.mono (by have := hb.size; omega))
  clear hb2
  have hR : aroom v m ⟨i, t, d⟩ = ((aput v ⟨i, t, d⟩).2 && decide ((((aput v ⟨i, t, d⟩).1.size : Int) + 63) / 64 ≤ m)) := rfl
  have HR := Aside.mk hR
  clear hR
  generalize aput v ⟨i, t, d⟩ = p at *
  obtain ⟨b, ok⟩ := p
  replace hz : b.size ≤ 16384 + 46 := hz
  have e63 : (b.size : Int) + 64 - 1 = b.size + 63 := by omega
  cases ok
  · go_wp2_with fail
    go_ret
    exact ⟨by rw [HR.out]; rfl, hb⟩
  · go_wp2_with fail
    go_ret
    refine ⟨?_, hb⟩
    rw [HR.out]; simp

set_option maxHeartbeats 800000 in
theorem area_ref (s : Snap) (w : World) :
    Calls Try.prog 37 #[s.val] w fun e w' => e = .returned s.val ∧ Below w.heap.size w w' := by
  obtain ⟨i, t, d⟩ := s
  show Calls Try.prog 37 #[.agg #[.int .u64 i, .int .u64 t, .string d]] w fun e w' => e = .returned (.agg #[.int .u64 i, .int .u64 t, .string d]) ∧ Below w.heap.size w w'
  go_enter Try.func37, Try.ntmps37
  go_wp2_with fail
  refine bodyPost_ret (v := .agg #[.int .u64 i, .int .u64 t, .string d]) (by simp [results, Try.results37, go_sem]) rfl ?_
  exact ⟨rfl, ((Below.refl w.heap.size w).alloc (Nat.le_refl _) _).alloc (by simp) _⟩
end Go.Proofs.Ytlbnbmojgdoieaa
