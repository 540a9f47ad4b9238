/- pintlelaw16: entries, at lists that are the same. -/
import Derived.Test.YthlmigbimeldbaaLgR
set_option maxRecDepth 16000
namespace Go.Proofs.Ythlmigbimeldbaa
open Go.RowKit Go.Pin
set_option linter.unusedVariables false
set_option linter.unusedSimpArgs false
set_option maxHeartbeats 1600000 in
theorem mk_entries (L : List En) (p p2 : Option Addr) (n c c2 : Nat) (hn2 : n ≤ 1000) (w : World) (h1 : EntsAt w p n L) (h2 : EntsAt w p2 n L) :
    Calls Try.prog 23 #[.slice p n c, .slice p2 n c2] w fun x w' => x = .returned (.bool true) ∧ Below w.heap.size w w' := by
  have hb := Below.refl w.heap.size w
  have H1 := Pin.Aside.mk h1
  have H2 := Pin.Aside.mk h2
  have hn := h1.len
  clear h1 h2
  have hB0 : w.heap.size = w.heap.size := rfl
  generalize hB : w.heap.size = B at hb hB0 ⊢
  clear hB0
  go_enter Try.func23, Try.ntmps23
  go_wp2_with fail
  go_loopw [5] (fun x wr => ∃ k : Nat, k ≤ n ∧ x = .int .i64 k ∧ Below B w wr) (fun x _ => n - (intOf x).toNat)
  case atStart => exact ⟨0, by omega, rfl, hb⟩
  case round =>
    clear hb
    obtain ⟨k, hk, rfl, hb⟩ := hrel
    by_cases hlt : k < n
    · obtain ⟨e, he⟩ : ∃ x, L[k]? = some x := ⟨L[k], List.getElem?_eq_getElem (by omega)⟩
      obtain ⟨A, o, rfl, hE⟩ := H1.out.at' k e he
      obtain ⟨A2, o2, rfl, hE2⟩ := H2.out.at' k e he
      have hq : Keep (fun _ => False) w wr := Keep.of_below (S := fun _ => False) hb fun _ q _ => by rw [← hB]; exact q
      obtain ⟨c0, c1, c2, c3, c4, c5, c6, c7, c8, c9, c10⟩ := hE.keep hq id
      obtain ⟨d0, d1, d2, d3, d4, d5, d6, d7, d8, d9, d10⟩ := hE2.keep hq id
      clear hE hE2 hq he
      have hk0 : (0 : Int) ≤ (k : Int) := by omega
      have hk1 : (k : Int) < (n : Int) := by omega
      go_wp2_with fail
      go_quiet (fail)
      go_wp2_with fail
      go_roundw
      case rel => exact ⟨k + 1, by omega, by go_num, below_drewN hb _⟩
      case measure => simp [intOf]; omega
    · have hk2 : k = n := by omega
      go_wp2_with fail
      go_ret
      exact ⟨rfl, by first | exact hb | (rw [hB]; exact hb)⟩
end Go.Proofs.Ythlmigbimeldbaa
