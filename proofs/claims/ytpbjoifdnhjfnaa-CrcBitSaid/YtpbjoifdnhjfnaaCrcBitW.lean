/- CrcBit: its walk. -/
import Derived.Test.YtpbjoifdnhjfnaaCrcW
import Derived.Test.YtpbjoifdnhjfnaaCrcB
import Derived.Test.YtpbjoifdnhjfnaaBytes
namespace Go.Proofs.Ytpbjoifdnhjfnaa
set_option linter.unusedVariables false
set_option linter.unusedSimpArgs false
open Go.RowKit Go.Pin

def sameB (D : Nat → UInt8) : Nat → Bool
  | 0 => true
  | j + 1 => sameB D j && decide (D j = 0)
theorem sameB_law (D : Nat → UInt8) (m : Nat) : sameB D m = true ↔ ∀ j, j < m → D j = 0 := by
  induction m with
  | zero => simp [sameB]
  | succ m ih =>
    simp only [sameB, Bool.and_eq_true, decide_eq_true_iff, ih]
    constructor
    · rintro ⟨h1, h2⟩ j hj
      rcases Nat.lt_or_ge j m with h | h
      · exact h1 j h
      · have : j = m := by omega
        rw [this]; exact h2
    · intro h; exact ⟨fun j hj => h j (by omega), h m (by omega)⟩

theorem sameB_yes (D : Nat → UInt8) (j : Nat) (h : sameB D j = true) : (((D j).toNat : Int) == 0) = sameB D (j + 1) := by
  rw [sameB, h, Bool.true_and, Bool.eq_iff_iff]
  simp only [beq_iff_eq, decide_eq_true_iff]
  constructor
  · intro h; apply UInt8.toNat_inj.1; simp; omega
  · intro h; rw [h]; rfl
theorem sameB_no (D : Nat → UInt8) (j : Nat) (h : sameB D j = false) : false = sameB D (j + 1) := by rw [sameB, h]; rfl

set_option maxHeartbeats 800000 in
theorem crcBit_walk (s : ByteArray) (a b : Int) (hs : s.size ≤ 140737488351232) (ha : 0 ≤ a ∧ a ≤ 65535) (hb : 0 ≤ b ∧ b ≤ 4294967295) (w : World) :
    Calls Try.prog 3 #[.string s, .int .u16 a, .int .u32 b] w fun e w' => e = .returned (.bool true) ∧ Below w.heap.size w w' := by
  obtain ⟨m, hm, hm1, hm2⟩ : ∃ m : Nat, (if (199 : Int) < s.size then 199 else (s.size : Int)) = (m : Int) ∧ m ≤ 199 ∧ m ≤ s.size := by
    by_cases h : (199 : Int) < s.size
    · exact ⟨199, if_pos h, by omega, by omega⟩
    · exact ⟨s.size, if_neg h, by omega, by omega⟩
  obtain ⟨t, ht, hsz⟩ : ∃ t : ByteArray, (⟨#[115]⟩ : ByteArray) ++ s.extract 0 m = t ∧ t.size = m + 1 := ⟨_, rfl, by rw [ByteArray.size_append, ByteArray.size_extract]; show 1 + _ = _; omega⟩
  have hcv := fun (w : World) => Lib.run_convert_string_bytes (P := Try.prog) w 9 25 5 t Try.underlying9 Try.underlying25 Try.underlying5
  obtain ⟨k, hkk⟩ : ∃ kk : Nat, a % ((m : Int) + 1) = kk := Int.eq_ofNat_of_zero_le (Int.emod_nonneg _ (by omega))
  have hlt : k < m + 1 := by have := Int.emod_lt_of_pos a (show (0 : Int) < m + 1 by omega); omega
  obtain ⟨D, hD⟩ : ∃ D : Nat → UInt8, ∀ j, D j = UInt8.ofNat (b.toNat / 2 ^ (8 * j)) := ⟨_, fun _ => rfl⟩
  have HD := Aside.mk hD
  clear hD
  go_enter Try.func3, Try.ntmps3
  go_wp2_with fail
  refine (crc_examples _).mono ?_
  rintro e w1 ⟨rfl, hb1⟩
  go_wp2_with fail
  obtain ⟨w2, cap, e1, e2, hz, hbb, hfr, hk⟩ := bytesWorld_open2 w1 5 t
  rw [hsz] at e2
  rw [e1, e2, hkk]
  have hBw := hb1.size
  replace hb1 := Below.next hb1 (Keep.isBelow hk)
  have hL : t.data.toList.length = m + 1 := hsz
  have HL := Aside.mk hL
  clear e1 e2 hcv hm ht hkk hk hL
  obtain ⟨B, hB⟩ : ∃ B, B = w1.heap.size := ⟨_, rfl⟩
  rw [← hB] at hbb hfr hBw ⊢
  clear hB
  go_loopw [10, 11] (fun same i wr => ∃ j : Nat, j ≤ 4 ∧ k + j ≤ m + 1 ∧ i = .int .i64 j ∧ same = .bool (sameB D j) ∧ BytesAt wr B (turned t.data.toList k D j) ∧ (∀ j, j < m + 1 → wr.frozen? ⟨B, j, none⟩ = false) ∧ Below w.heap.size w wr) (fun _ i _ => 4 - (intOf i).toNat)
  case atStart => exact ⟨0, by omega, by omega, rfl, rfl, hbb, fun j hj => hfr j (by omega), hb1⟩
  case round =>
    obtain ⟨j, hj, hkj, rfl, rfl, hbt, hf, hbl⟩ := hrel
    clear hbb hfr
    by_cases h : j < 4 ∧ k + j < m + 1
    · obtain ⟨h1, h2⟩ := h
      have hc := hbt (k + j) (by rw [turned_length, HL.out]; exact h2)
      have hfk := hf (k + j) h2
      have hDj : b / 2 ^ (8 * j) % 256 = ((D j).toNat : Int) := by
        rw [HD.out, UInt8.toNat_ofNat']
        obtain ⟨c, rfl⟩ := Int.eq_ofNat_of_zero_le hb.1
        simp
      obtain ⟨c, hcc⟩ : ∃ c : UInt8, (turned t.data.toList k D j).getD (k + j) 0 = c := ⟨_, rfl⟩
      rw [hcc] at hc
      have hx := bits_xor_byte c (D j)
      obtain ⟨d, hd⟩ : ∃ d, d = c ^^^ D j := ⟨_, rfl⟩
      rw [← hd] at hx
      have Hd := Aside.mk hd
      have Hcc := Aside.mk hcc
      have Hf := Aside.mk hf
      have Hbt := Aside.mk hbt
      clear hd hcc hf hbt
      go_wp2_with fail
      all_goals
        refine ⟨⟨j + 1, by omega, by omega, by go_num, ?_, ?_, fun j hj => by simpa using Hf.out j hj, hbl.setCell hBw _⟩, by simp [intOf]; omega⟩
        · first | exact congrArg Value.bool (sameB_yes D j (by assumption)) | exact congrArg Value.bool (sameB_no D j (Bool.eq_false_iff.2 (by assumption)))
        · have := Hbt.out.set (k + j) (by rw [turned_length, HL.out]; exact h2) d
          rw [turned, Hcc.out, ← Hd.out]; exact this
    · have h' : ¬ j < 4 ∨ ¬ k + j < m + 1 := by omega
      have hlen : (turned t.data.toList k D j).length = m + 1 := by rw [turned_length, HL.out]
      have hcv : (convert 25 9 (.slice (some ⟨B, 0, none⟩) (m + 1) cap)).run Try.prog wr = .ok (.string ⟨(turned t.data.toList k D j).toArray⟩) wr :=
        run_string_bytes wr _ _ _ Try.underlying25 Try.underlying5 Try.underlying9 _ _ _ cap hlen hbt
      have hfin : (u32v (cmore 0#32 (turned t.data.toList k D j)) == u32v (cmore 0#32 t.data.toList)) = sameB D j := by
        rw [Bool.eq_iff_iff, sameB_law, ← burst_law t.data.toList k D j (by rw [HL.out]; exact hkj) hj]
        simp only [beq_iff_eq]
        exact ⟨fun h => by unfold u32v at h; exact BitVec.eq_of_toNat_eq (by omega), fun h => by rw [h]⟩
      have HL2 := Aside.mk hlen
      clear hbt hf hlen
      rcases h' with h' | h'
      all_goals
        go_wp2_with (go_at_call 16; refine (crc_sum _ _ (by first | exact mk_le (by have := HL2.out; unfold maxLen; omega) | (unfold maxLen; omega))).mono ?_; rintro e w' ⟨rfl, hb'⟩; replace hbl := hbl.trans (hb'.mono hbl.size); clear hb')
      all_goals
        go_ret
        exact ⟨rfl, hbl⟩
end Go.Proofs.Ytpbjoifdnhjfnaa
