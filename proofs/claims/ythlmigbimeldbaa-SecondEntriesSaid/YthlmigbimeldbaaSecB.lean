/- bend: bytes with one of them another one. -/
import Derived.Test.YthlmigbimeldbaaProg
import Derived.Test.YthlmigbimeldbaaBytes
set_option maxRecDepth 16000
namespace Go.Pin
theorem bits_xor_byte6 (a b : UInt8) : bits .xor .u8 (a.toNat : Int) (b.toNat : Int) = ((a ^^^ b).toNat : Int) := by
  have h (a : UInt8) : BitVec.ofInt 8 (a.toNat : Int) = a.toBitVec := by
    apply BitVec.eq_of_toNat_eq
    rw [BitVec.ofInt_natCast, BitVec.toNat_ofNat]; exact Nat.mod_eq_of_lt a.toNat_lt
  show IntKind.u8.wrap ((BitVec.ofInt 8 (a.toNat : Int) ^^^ BitVec.ofInt 8 (b.toNat : Int)).toNat : Int) = _
  rw [h, h, ← UInt8.toBitVec_xor, UInt8.toNat_toBitVec, IntKind.wrap_u8]
  have := (a ^^^ b).toNat_lt
  omega
end Go.Pin
namespace Go.Proofs.Ythlmigbimeldbaa
open Go.RowKit Go.Pin
set_option linter.unusedVariables false
set_option linter.unusedSimpArgs false

set_option maxHeartbeats 1600000 in
theorem bend06 (s : ByteArray) (a : Int) (b : UInt8) (ha : -9223372036854775808 ≤ a ∧ a ≤ 9223372036854775807) (hs : s.size ≤ 1152921504606846976) (w : World) :
    Calls Try.prog 33 #[.string s, .int .i64 a, .int .u8 b.toNat] w fun e w' => (∃ t : ByteArray, t.size = s.size ∧ e = .returned (.string t)) ∧ Below w.heap.size w w' := by
  by_cases h0 : s.size = 0
  · have hs0 : s = ⟨#[]⟩ := by
      apply ByteArray.ext; exact Array.eq_empty_of_size_eq_zero h0
    subst hs0
    go_enter Try.func33, Try.ntmps33
    go_wp2_with fail
    go_ret
    exact ⟨⟨_, rfl, rfl⟩, Below.refl _ _⟩
  · have hemp : s.toList.isEmpty = false := by
      cases hl : s.toList with
      | nil =>
        have h1 := str_beq s ⟨#[]⟩
        rw [hl] at h1
        have h2 : decide (s = ⟨#[]⟩) = true := by rw [← h1, show (⟨#[]⟩ : ByteArray).toList = [] from by decide +kernel]; rfl
        exact absurd (by rw [of_decide_eq_true h2]; rfl) h0
      | cons _ _ => rfl
    have hcv := fun (w : World) => Lib.run_convert_string_bytes (P := Try.prog) w 9 108 5 s Try.underlying9 Try.underlying108 Try.underlying5
    have hb := Below.refl w.heap.size w
    rcases Int.lt_or_le a 0 with hneg | hpos
    · obtain ⟨k, hkk⟩ : ∃ kk : Nat, (-(a + 1)) % (s.size : Int) = kk := Int.eq_ofNat_of_zero_le (Int.emod_nonneg _ (by omega))
      have hlt : k < s.size := by have := Int.emod_lt_of_pos (-(a + 1)) (show (0 : Int) < s.size by omega); omega
      replace hkk : -((a + 1).tmod (s.size : Int)) = (k : Int) := by
        rw [← Int.neg_tmod, Int.tmod_eq_emod_of_nonneg (by omega)]; exact hkk
      go_enter Try.func33, Try.ntmps33
      go_wp2_with fail
      obtain ⟨w1, cap, e1, e2, hz, hbb, hfr, hk⟩ := bytesWorld_open2 w 5 s
      rw [e1, e2]
      obtain ⟨c, hcc⟩ : ∃ c : UInt8, s.data.toList.getD k 0 = c := ⟨_, rfl⟩
      have hll : s.data.toList.length = s.size := rfl
      have hc := hbb k (by omega)
      rw [hcc] at hc
      have hf := hfr k (by omega)
      have hx := bits_xor_byte6 c b
      obtain ⟨d, hd⟩ : ∃ d, d = c ^^^ b := ⟨_, rfl⟩
      rw [← hd] at hx
      have hset := hbb.set k (by omega) d
      have hbs := hb.size
      replace hb := ((Below.next hb (Keep.isBelow hk)).setCell (p := ⟨w.heap.size, k, none⟩) hbs (.int .u8 d.toNat)).drew
      obtain ⟨T, hT1, hT2⟩ : ∃ T : ByteArray, T.size = s.size ∧ (s.data.toList.set k d) = T.data.toList :=
        ⟨⟨(s.data.toList.set k d).toArray⟩, by show (s.data.toList.set k d).toArray.size = _; rw [List.size_toArray, List.length_set, hll], by simp⟩
      have hconv : (convert 108 9 (.slice (some ⟨w.heap.size, 0, none⟩) s.size cap)).run Try.prog (w1.setCell ⟨w.heap.size, k, none⟩ (.int .u8 d.toNat)).drew = .ok (.string T) (w1.setCell ⟨w.heap.size, k, none⟩ (.int .u8 d.toNat)).drew := by
        have := run_string_bytes (P := Try.prog) (w1.setCell ⟨w.heap.size, k, none⟩ (.int .u8 d.toNat)).drew 108 9 5 Try.underlying108 Try.underlying5 Try.underlying9 w.heap.size (s.data.toList.set k d) s.size cap
          (by rw [List.length_set, hll]) hset
        rw [this, hT2]
      clear hset hT2 hd hcc hbb hfr hk e1 e2 hcv hll
      go_region
      clear hc hf hx
      go_wp2_with fail
      go_ret
      exact ⟨⟨T, hT1, rfl⟩, hb⟩
    · obtain ⟨k, hkk⟩ : ∃ kk : Nat, a % (s.size : Int) = kk := Int.eq_ofNat_of_zero_le (Int.emod_nonneg _ (by omega))
      have hlt : k < s.size := by have := Int.emod_lt_of_pos a (show (0 : Int) < s.size by omega); omega
      go_enter Try.func33, Try.ntmps33
      go_wp2_with fail
      obtain ⟨w1, cap, e1, e2, hz, hbb, hfr, hk⟩ := bytesWorld_open2 w 5 s
      rw [e1, e2]
      obtain ⟨c, hcc⟩ : ∃ c : UInt8, s.data.toList.getD k 0 = c := ⟨_, rfl⟩
      have hll : s.data.toList.length = s.size := rfl
      have hc := hbb k (by omega)
      rw [hcc] at hc
      have hf := hfr k (by omega)
      have hx := bits_xor_byte6 c b
      obtain ⟨d, hd⟩ : ∃ d, d = c ^^^ b := ⟨_, rfl⟩
      rw [← hd] at hx
      have hset := hbb.set k (by omega) d
      have hbs := hb.size
      replace hb := ((Below.next hb (Keep.isBelow hk)).setCell (p := ⟨w.heap.size, k, none⟩) hbs (.int .u8 d.toNat)).drew
      obtain ⟨T, hT1, hT2⟩ : ∃ T : ByteArray, T.size = s.size ∧ (s.data.toList.set k d) = T.data.toList :=
        ⟨⟨(s.data.toList.set k d).toArray⟩, by show (s.data.toList.set k d).toArray.size = _; rw [List.size_toArray, List.length_set, hll], by simp⟩
      have hconv : (convert 108 9 (.slice (some ⟨w.heap.size, 0, none⟩) s.size cap)).run Try.prog (w1.setCell ⟨w.heap.size, k, none⟩ (.int .u8 d.toNat)).drew = .ok (.string T) (w1.setCell ⟨w.heap.size, k, none⟩ (.int .u8 d.toNat)).drew := by
        have := run_string_bytes (P := Try.prog) (w1.setCell ⟨w.heap.size, k, none⟩ (.int .u8 d.toNat)).drew 108 9 5 Try.underlying108 Try.underlying5 Try.underlying9 w.heap.size (s.data.toList.set k d) s.size cap
          (by rw [List.length_set, hll]) hset
        rw [this, hT2]
      clear hset hT2 hd hcc hbb hfr hk e1 e2 hcv hll
      go_region
      clear hc hf hx
      go_wp2_with fail
      go_ret
      exact ⟨⟨T, hT1, rfl⟩, hb⟩
end Go.Proofs.Ythlmigbimeldbaa
