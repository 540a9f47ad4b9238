/- CrcSums: its walk. -/
import Derived.Test.YtpbjoifdnhjfnaaCrcW
import Derived.Test.YtpbjoifdnhjfnaaCrcL
import Derived.Test.YtpbjoifdnhjfnaaBytes
namespace Go.Proofs.Ytpbjoifdnhjfnaa
set_option linter.unusedVariables false
set_option linter.unusedSimpArgs false
open Go.RowKit Go.Pin

set_option maxHeartbeats 800000 in
theorem crcSums_plain (s : ByteArray) (n : BitVec 32) (a b : Int) (hs : s.size ≤ 140737488351232) (w : World) :
    Calls Try.prog 5 #[.string s, .int .u32 (u32v n), .bool false, .int .i64 a, .int .u8 b] w fun e w' => e = .returned (.bool true) ∧ Below w.heap.size w w' := by
  have hse := str_beq
  have hb := Below.refl w.heap.size w
  go_enter Try.func5, Try.ntmps5
  go_wp2_with (first | (go_at_call 15; refine (crc_examples _).mono ?_; rintro e w' ⟨rfl, hb'⟩; replace hb := Below.next hb hb'; clear hb') | (go_at_call 18; refine (crc_get _ _ (by omega)).mono ?_; rintro e w' ⟨rfl, hb'⟩; replace hb := Below.next hb hb'; clear hb') | (go_at_call 19; refine (crcref_get _ _ (by omega)).mono ?_; rintro e w' ⟨rfl, hb'⟩; replace hb := Below.next hb hb'; clear hb') | (go_at_call 16; refine (crc_sum _ _ (by unfold maxLen; omega)).mono ?_; rintro e w' ⟨rfl, hb'⟩; replace hb := Below.next hb hb'; clear hb') | (go_at_call 20; refine (crcref_sum _ _ (by omega)).mono ?_; rintro e w' ⟨rfl, rfl⟩) | (go_at_call 21; refine (crc_more _ _ _ (by unfold maxLen; omega)).mono ?_; rintro e w' ⟨rfl, hb'⟩; replace hb := Below.next hb hb'; clear hb') | (go_at_call 22; refine (crcref_more _ _ _ (by omega)).mono ?_; rintro e w' ⟨rfl, rfl⟩) | (go_at_call 23; refine (crc_put _ _ (by omega)).mono ?_; rintro e w' ⟨rfl, hb'⟩; replace hb := Below.next hb hb'; clear hb') | (go_at_call 17; refine (crcref_put _ _ (by omega)).mono ?_; rintro e w' ⟨rfl, hb'⟩; replace hb := Below.next hb hb'; clear hb'))
  go_ret
  exact ⟨rfl, hb⟩

set_option maxHeartbeats 800000 in
theorem crcSums_own (s : ByteArray) (n : BitVec 32) (a : Int) (b : UInt8) (hs : s.size ≤ 140737488351232) (ha : 0 ≤ a ∧ a ≤ 9223372036854775807) (w : World) :
    Calls Try.prog 5 #[.string s, .int .u32 (u32v n), .bool true, .int .i64 a, .int .u8 b.toNat] w fun e w' => e = .returned (.bool true) ∧ Below w.heap.size w w' := by
  have hse := str_beq
  have hsz := cput_size s
  have hb := Below.refl w.heap.size w
  have hcv := fun (w : World) => Lib.run_convert_string_bytes (P := Try.prog) w 9 25 5 (cput s) Try.underlying9 Try.underlying25 Try.underlying5
  obtain ⟨k, hkk⟩ : ∃ kk : Nat, a % ((s.size : Int) + 4) = kk := Int.eq_ofNat_of_zero_le (Int.emod_nonneg _ (by omega))
  have hlt : k < s.size + 4 := by have := Int.emod_lt_of_pos a (show (0 : Int) < s.size + 4 by omega); omega
  go_enter Try.func5, Try.ntmps5
  go_wp2_with (first | (go_at_call 15; refine (crc_examples _).mono ?_; rintro e w' ⟨rfl, hb'⟩; replace hb := Below.next hb hb'; clear hb') | (go_at_call 18; refine (crc_get _ _ (by omega)).mono ?_; rintro e w' ⟨rfl, hb'⟩; replace hb := Below.next hb hb'; clear hb') | (go_at_call 19; refine (crcref_get _ _ (by omega)).mono ?_; rintro e w' ⟨rfl, hb'⟩; replace hb := Below.next hb hb'; clear hb') | (go_at_call 16; refine (crc_sum _ _ (by unfold maxLen; omega)).mono ?_; rintro e w' ⟨rfl, hb'⟩; replace hb := Below.next hb hb'; clear hb') | (go_at_call 20; refine (crcref_sum _ _ (by omega)).mono ?_; rintro e w' ⟨rfl, rfl⟩) | (go_at_call 21; refine (crc_more _ _ _ (by unfold maxLen; omega)).mono ?_; rintro e w' ⟨rfl, hb'⟩; replace hb := Below.next hb hb'; clear hb') | (go_at_call 22; refine (crcref_more _ _ _ (by omega)).mono ?_; rintro e w' ⟨rfl, rfl⟩) | (go_at_call 23; refine (crc_put _ _ (by omega)).mono ?_; rintro e w' ⟨rfl, hb'⟩; replace hb := Below.next hb hb'; clear hb') | (go_at_call 17; refine (crcref_put _ _ (by omega)).mono ?_; rintro e w' ⟨rfl, hb'⟩; replace hb := Below.next hb hb'; clear hb'))
  obtain ⟨w1, cap, e1, e2, hz, hbb, hfr, hk⟩ := bytesWorld_open2 w' 5 (cput s)
  rw [hsz] at e2
  rw [e1, e2]
  obtain ⟨c, hcc⟩ : ∃ c : UInt8, (cput s).data.toList.getD k 0 = c := ⟨_, rfl⟩
  have hll : (cput s).data.toList.length = s.size + 4 := hsz
  have hc := hbb k (by omega)
  rw [hcc] at hc
  have hf := hfr k (by omega)
  have hx := bits_xor_byte c b
  obtain ⟨d, hd⟩ : ∃ d, d = c ^^^ b := ⟨_, rfl⟩
  rw [← hd] at hx
  have hset := hbb.set k (by omega) d
  have hbs := hb.size
  replace hb := ((Below.next hb (Keep.isBelow hk)).setCell (p := ⟨w'.heap.size, k, none⟩) hbs (.int .u8 d.toNat)).drew
  obtain ⟨T, hT1, hT2⟩ : ∃ T : ByteArray, T.size = s.size + 4 ∧ ((cput s).data.toList.set k d) = T.data.toList :=
    ⟨⟨((cput s).data.toList.set k d).toArray⟩, by show ((cput s).data.toList.set k d).toArray.size = _; rw [List.size_toArray, List.length_set, hll], by simp⟩
  have hconv : (convert 25 9 (.slice (some ⟨w'.heap.size, 0, none⟩) (s.size + 4) cap)).run Try.prog (w1.setCell ⟨w'.heap.size, k, none⟩ (.int .u8 d.toNat)).drew = .ok (.string T) (w1.setCell ⟨w'.heap.size, k, none⟩ (.int .u8 d.toNat)).drew := by
    have := run_string_bytes (P := Try.prog) (w1.setCell ⟨w'.heap.size, k, none⟩ (.int .u8 d.toNat)).drew 25 9 5 Try.underlying25 Try.underlying5 Try.underlying9 w'.heap.size ((cput s).data.toList.set k d) (s.size + 4) cap
      (by rw [List.length_set, hll]) hset
    rw [this, hT2]
  clear hset hT2 hd hcc hbb hfr hk e1 e2 hcv hll
  go_region
  clear hc hf hx
  go_wp2_with (first | (go_at_call 15; refine (crc_examples _).mono ?_; rintro e w' ⟨rfl, hb'⟩; replace hb := Below.next hb hb'; clear hb') | (go_at_call 18; refine (crc_get _ _ (by omega)).mono ?_; rintro e w' ⟨rfl, hb'⟩; replace hb := Below.next hb hb'; clear hb') | (go_at_call 19; refine (crcref_get _ _ (by omega)).mono ?_; rintro e w' ⟨rfl, hb'⟩; replace hb := Below.next hb hb'; clear hb') | (go_at_call 16; refine (crc_sum _ _ (by unfold maxLen; omega)).mono ?_; rintro e w' ⟨rfl, hb'⟩; replace hb := Below.next hb hb'; clear hb') | (go_at_call 20; refine (crcref_sum _ _ (by omega)).mono ?_; rintro e w' ⟨rfl, rfl⟩) | (go_at_call 21; refine (crc_more _ _ _ (by unfold maxLen; omega)).mono ?_; rintro e w' ⟨rfl, hb'⟩; replace hb := Below.next hb hb'; clear hb') | (go_at_call 22; refine (crcref_more _ _ _ (by omega)).mono ?_; rintro e w' ⟨rfl, rfl⟩) | (go_at_call 23; refine (crc_put _ _ (by omega)).mono ?_; rintro e w' ⟨rfl, hb'⟩; replace hb := Below.next hb hb'; clear hb') | (go_at_call 17; refine (crcref_put _ _ (by omega)).mono ?_; rintro e w' ⟨rfl, hb'⟩; replace hb := Below.next hb hb'; clear hb'))
  go_ret
  exact ⟨rfl, hb⟩

set_option maxHeartbeats 800000 in
theorem crcSums_neg (s : ByteArray) (n : BitVec 32) (a : Int) (b : UInt8) (hs : s.size ≤ 140737488351232) (ha : -9223372036854775808 ≤ a ∧ a < 0) (w : World) :
    Calls Try.prog 5 #[.string s, .int .u32 (u32v n), .bool true, .int .i64 a, .int .u8 b.toNat] w fun e w' => e = .returned (.bool true) ∧ Below w.heap.size w w' := by
  have hse := str_beq
  have hsz := cput_size s
  have hb := Below.refl w.heap.size w
  have hcv := fun (w : World) => Lib.run_convert_string_bytes (P := Try.prog) w 9 25 5 (cput s) Try.underlying9 Try.underlying25 Try.underlying5
  obtain ⟨k, hkk⟩ : ∃ kk : Nat, (-(a + 1)) % ((s.size : Int) + 4) = kk := Int.eq_ofNat_of_zero_le (Int.emod_nonneg _ (by omega))
  have hlt : k < s.size + 4 := by have := Int.emod_lt_of_pos (-(a + 1)) (show (0 : Int) < s.size + 4 by omega); omega
  replace hkk : -((a + 1).tmod ((s.size : Int) + 4)) = (k : Int) := by
    rw [← Int.neg_tmod, Int.tmod_eq_emod_of_nonneg (by omega)]; exact hkk
  go_enter Try.func5, Try.ntmps5
  go_wp2_with (first | (go_at_call 15; refine (crc_examples _).mono ?_; rintro e w' ⟨rfl, hb'⟩; replace hb := Below.next hb hb'; clear hb') | (go_at_call 18; refine (crc_get _ _ (by omega)).mono ?_; rintro e w' ⟨rfl, hb'⟩; replace hb := Below.next hb hb'; clear hb') | (go_at_call 19; refine (crcref_get _ _ (by omega)).mono ?_; rintro e w' ⟨rfl, hb'⟩; replace hb := Below.next hb hb'; clear hb') | (go_at_call 16; refine (crc_sum _ _ (by unfold maxLen; omega)).mono ?_; rintro e w' ⟨rfl, hb'⟩; replace hb := Below.next hb hb'; clear hb') | (go_at_call 20; refine (crcref_sum _ _ (by omega)).mono ?_; rintro e w' ⟨rfl, rfl⟩) | (go_at_call 21; refine (crc_more _ _ _ (by unfold maxLen; omega)).mono ?_; rintro e w' ⟨rfl, hb'⟩; replace hb := Below.next hb hb'; clear hb') | (go_at_call 22; refine (crcref_more _ _ _ (by omega)).mono ?_; rintro e w' ⟨rfl, rfl⟩) | (go_at_call 23; refine (crc_put _ _ (by omega)).mono ?_; rintro e w' ⟨rfl, hb'⟩; replace hb := Below.next hb hb'; clear hb') | (go_at_call 17; refine (crcref_put _ _ (by omega)).mono ?_; rintro e w' ⟨rfl, hb'⟩; replace hb := Below.next hb hb'; clear hb'))
  obtain ⟨w1, cap, e1, e2, hz, hbb, hfr, hk⟩ := bytesWorld_open2 w' 5 (cput s)
  rw [hsz] at e2
  rw [e1, e2]
  obtain ⟨c, hcc⟩ : ∃ c : UInt8, (cput s).data.toList.getD k 0 = c := ⟨_, rfl⟩
  have hll : (cput s).data.toList.length = s.size + 4 := hsz
  have hc := hbb k (by omega)
  rw [hcc] at hc
  have hf := hfr k (by omega)
  have hx := bits_xor_byte c b
  obtain ⟨d, hd⟩ : ∃ d, d = c ^^^ b := ⟨_, rfl⟩
  rw [← hd] at hx
  have hset := hbb.set k (by omega) d
  have hbs := hb.size
  replace hb := ((Below.next hb (Keep.isBelow hk)).setCell (p := ⟨w'.heap.size, k, none⟩) hbs (.int .u8 d.toNat)).drew
  obtain ⟨T, hT1, hT2⟩ : ∃ T : ByteArray, T.size = s.size + 4 ∧ ((cput s).data.toList.set k d) = T.data.toList :=
    ⟨⟨((cput s).data.toList.set k d).toArray⟩, by show ((cput s).data.toList.set k d).toArray.size = _; rw [List.size_toArray, List.length_set, hll], by simp⟩
  have hconv : (convert 25 9 (.slice (some ⟨w'.heap.size, 0, none⟩) (s.size + 4) cap)).run Try.prog (w1.setCell ⟨w'.heap.size, k, none⟩ (.int .u8 d.toNat)).drew = .ok (.string T) (w1.setCell ⟨w'.heap.size, k, none⟩ (.int .u8 d.toNat)).drew := by
    have := run_string_bytes (P := Try.prog) (w1.setCell ⟨w'.heap.size, k, none⟩ (.int .u8 d.toNat)).drew 25 9 5 Try.underlying25 Try.underlying5 Try.underlying9 w'.heap.size ((cput s).data.toList.set k d) (s.size + 4) cap
      (by rw [List.length_set, hll]) hset
    rw [this, hT2]
  clear hset hT2 hd hcc hbb hfr hk e1 e2 hcv hll
  go_region
  clear hc hf hx
  go_wp2_with (first | (go_at_call 15; refine (crc_examples _).mono ?_; rintro e w' ⟨rfl, hb'⟩; replace hb := Below.next hb hb'; clear hb') | (go_at_call 18; refine (crc_get _ _ (by omega)).mono ?_; rintro e w' ⟨rfl, hb'⟩; replace hb := Below.next hb hb'; clear hb') | (go_at_call 19; refine (crcref_get _ _ (by omega)).mono ?_; rintro e w' ⟨rfl, hb'⟩; replace hb := Below.next hb hb'; clear hb') | (go_at_call 16; refine (crc_sum _ _ (by unfold maxLen; omega)).mono ?_; rintro e w' ⟨rfl, hb'⟩; replace hb := Below.next hb hb'; clear hb') | (go_at_call 20; refine (crcref_sum _ _ (by omega)).mono ?_; rintro e w' ⟨rfl, rfl⟩) | (go_at_call 21; refine (crc_more _ _ _ (by unfold maxLen; omega)).mono ?_; rintro e w' ⟨rfl, hb'⟩; replace hb := Below.next hb hb'; clear hb') | (go_at_call 22; refine (crcref_more _ _ _ (by omega)).mono ?_; rintro e w' ⟨rfl, rfl⟩) | (go_at_call 23; refine (crc_put _ _ (by omega)).mono ?_; rintro e w' ⟨rfl, hb'⟩; replace hb := Below.next hb hb'; clear hb') | (go_at_call 17; refine (crcref_put _ _ (by omega)).mono ?_; rintro e w' ⟨rfl, hb'⟩; replace hb := Below.next hb hb'; clear hb'))
  go_ret
  exact ⟨rfl, hb⟩


theorem crcSums_walk (s : ByteArray) (n : Int) (own : Bool) (a b : Int) (hs : s.size ≤ 140737488351232) (hn : 0 ≤ n ∧ n ≤ 4294967295) (ha : -9223372036854775808 ≤ a ∧ a ≤ 9223372036854775807) (hb : 0 ≤ b ∧ b ≤ 255) (w : World) :
    Calls Try.prog 5 #[.string s, .int .u32 n, .bool own, .int .i64 a, .int .u8 b] w fun e w' => e = .returned (.bool true) ∧ Below w.heap.size w w' := by
  obtain ⟨m, rfl⟩ : ∃ m : BitVec 32, n = u32v m := ⟨BitVec.ofNat 32 n.toNat, by unfold u32v; rw [BitVec.toNat_ofNat]; omega⟩
  obtain ⟨c, rfl⟩ : ∃ c : UInt8, b = c.toNat := ⟨UInt8.ofNat b.toNat, by rw [UInt8.toNat_ofNat']; omega⟩
  cases own with
  | false => exact crcSums_plain s m a _ hs w
  | true =>
    by_cases h : a < 0
    · exact crcSums_neg s m a c hs ⟨ha.1, h⟩ w
    · exact crcSums_own s m a c hs ⟨by omega, ha.2⟩ w
end Go.Proofs.Ytpbjoifdnhjfnaa
