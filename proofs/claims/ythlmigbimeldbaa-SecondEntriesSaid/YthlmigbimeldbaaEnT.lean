/- entry.fit's closure: one field. -/
import Derived.Test.YthlmigbimeldbaaEnW
import Derived.Test.YthlmigbimeldbaaEnS
import Derived.Lib.IndexLaws
import Derived.Lib.Bytealg
set_option maxRecDepth 16000
namespace Go.Proofs.Ythlmigbimeldbaa
open Go.RowKit Go.Pin
set_option linter.unusedVariables false
set_option linter.unusedSimpArgs false
theorem enHas_index (s : ByteArray) (c : UInt8) : decide (0 ≤ Lib.indexByte s.data.toList c) = enHas s c := by
  unfold enHas
  have hg := Lib.indexByte_ge s.data.toList c
  by_cases h : Lib.indexByte s.data.toList c = -1
  · have hn := Lib.indexByte_none h
    rw [h, show decide ((0 : Int) ≤ -1) = false from rfl]
    symm
    rw [Bool.eq_false_iff]
    intro q
    rw [List.contains_iff_mem] at q
    obtain ⟨k, hk⟩ := List.getElem?_of_mem q
    exact hn k hk
  · obtain ⟨o, ho⟩ := Int.eq_ofNat_of_zero_le (show 0 ≤ Lib.indexByte s.data.toList c by omega)
    have hs := (Lib.indexByte_some ho).1
    rw [ho, show decide ((0 : Int) ≤ (o : Int)) = true by simp]
    symm
    rw [List.contains_iff_mem]
    exact List.mem_of_getElem? hs
theorem en_fit1 (s : ByteArray) (c : UInt8) (th ri : Bool) (M : Nat) (w : World) (hM : w.cell? ⟨M, 0, none⟩ = some (.string s)) :
    Calls Try.prog 99 #[.agg #[.string ⟨#[c]⟩, .bool th, .bool ri], .pointer (some ⟨M, 0, none⟩)] w fun e w' => e = .returned (.bool (if decide (0 ≤ Lib.indexByte s.data.toList c) = true then !ri else th)) ∧ Below w.heap.size w w' := by
  have hcon := fun W => YthlmigbimeldbaaSh.strings_Contains_one s c W
  generalize decide (0 ≤ Lib.indexByte s.data.toList c) = B at *
  have Hc := Pin.Aside.mk hcon
  have hb := (Below.refl w.heap.size w).alloc (Nat.le_refl _) (.cells #[.string ⟨#[c]⟩, .bool th, .bool ri] 122)
  have hk := (Keep.refl (fun _ => False) w).alloc (.cells #[.string ⟨#[c]⟩, .bool th, .bool ri] 122)
  have hM2 := hk.cell hM id
  clear hcon hk
  cases B with
  | true =>
    go_enter Try.func99, Try.ntmps99
    go_wp2_with fail
    refine (Hc.out _).mono ?_
    rintro e w1 ⟨rfl, rfl⟩
    go_wp2_with fail
    go_ret
    exact ⟨rfl, hb⟩
  | false =>
    go_enter Try.func99, Try.ntmps99
    go_wp2_with fail
    refine (Hc.out _).mono ?_
    rintro e w1 ⟨rfl, rfl⟩
    go_wp2_with fail
    go_ret
    exact ⟨rfl, hb⟩
end Go.Proofs.Ythlmigbimeldbaa
