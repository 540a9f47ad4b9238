/- CrcParts: its walk. -/
import Derived.Test.YtpbjoifdnhjfnaaCrcW
namespace Go.Proofs.Ytpbjoifdnhjfnaa
set_option linter.unusedVariables false
set_option linter.unusedSimpArgs false
open Go.RowKit Go.Pin

set_option maxHeartbeats 400000 in
theorem crcParts_walk (s : ByteArray) (k : Int) (hs : s.size ≤ 140737488351232) (hk : 0 ≤ k ∧ k ≤ 65535) (w : World) :
    Calls Try.prog 6 #[.string s, .int .u16 k] w fun e w' => e = .returned (.bool true) ∧ Below w.heap.size w w' := by
  obtain ⟨kk, hkk⟩ : ∃ kk : Nat, k % ((s.size : Int) + 1) = kk := Int.eq_ofNat_of_zero_le (Int.emod_nonneg _ (by omega))
  have hlt : kk ≤ s.size := by have := Int.emod_lt_of_pos k (show (0 : Int) < s.size + 1 by omega); omega
  have hg := cget_cput s
  have hp := cmore_parts s kk
  have hsz := cput_size s
  have hse := str_beq
  go_enter Try.func6, Try.ntmps6
  go_wp2_with fail
  refine (crc_examples _).mono ?_
  rintro e w1 ⟨rfl, hb1⟩
  go_wp2_with fail
  refine (crc_put _ _ (by omega)).mono ?_
  rintro e w2 ⟨rfl, hb2⟩
  go_wp2_with fail
  refine (crc_get _ _ (by omega)).mono ?_
  rintro e w3 ⟨rfl, hb3⟩
  go_wp2_with fail
  refine wp_region_keep (fun _ => False) (by kernel_rfl) (by kernel_rfl) ?_
  repeat (go_big_quiet_step ((first | (go_at_call 16; exact KW.calls (crc_sum _ _ (by simp [maxLen]; omega))) | (go_at_call 21; exact KW.calls (crc_more _ _ _ (by simp [maxLen]; omega))) | (go_at_call 23; exact KW.calls (crc_put _ _ (by first | omega | (simp; omega)))))))
  refine wpQuiet_nil ?_
  intro s4
  have hb4 := s4.below
  go_wp2_with fail
  go_ret
  exact ⟨rfl, ((hb1.trans (hb2.mono hb1.size)).trans (hb3.mono (Nat.le_trans hb1.size hb2.size))).trans (hb4.mono (Nat.le_trans hb1.size (Nat.le_trans hb2.size hb3.size)))⟩
end Go.Proofs.Ytpbjoifdnhjfnaa
