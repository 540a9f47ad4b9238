/- CrcXor: its walk. -/
import Derived.Test.YtpbjoifdnhjfnaaCrcW
import Derived.Test.YtpbjoifdnhjfnaaCrcL
import Derived.Test.YtpbjoifdnhjfnaaBytes
namespace Go.Proofs.Ytpbjoifdnhjfnaa
set_option linter.unusedVariables false
set_option linter.unusedSimpArgs false
open Go.RowKit Go.Pin

theorem info_u8 : (Try.prog.info? 5).map (fun i => (i.zero, i.size, i.bytes)) = some (some (.int .u8 0), 1, 1) := by kernel_rfl

set_option maxHeartbeats 400000 in
theorem crcXor_walk (s t u : ByteArray) (hs : s.size ≤ 140737488351232) (ht : t.size ≤ 140737488351232) (hu : u.size ≤ 140737488351232) (w : World) :
    Calls Try.prog 4 #[.string s, .string t, .string u] w fun e w' => e = .returned (.bool true) ∧ Below w.heap.size w w' := by
  obtain ⟨i0, hi, hz0, hz1, hz2⟩ := info_parts info_u8
  obtain ⟨m, hm, hm1, hm2⟩ : ∃ m : Nat, (if u.size < t.size then (u.size : Int) else (t.size : Int)) = (m : Int) ∧ m ≤ t.size ∧ m ≤ u.size := by
    by_cases h : u.size < t.size
    · exact ⟨u.size, if_pos h, by omega, by omega⟩
    · exact ⟨t.size, if_neg h, by omega, by omega⟩
  obtain ⟨n, hn, hn1, hn2⟩ : ∃ n : Nat, (if m < s.size then (m : Int) else (s.size : Int)) = (n : Int) ∧ n ≤ m ∧ n ≤ s.size := by
    by_cases h : m < s.size
    · exact ⟨m, if_pos h, by omega, by omega⟩
    · exact ⟨s.size, if_neg h, by omega, by omega⟩
  have hmk := fun (w : World) => run_make_bytes (P := Try.prog) w 25 5 i0 Try.underlying25 hi hz0 hz1 hz2 n (by omega)
  go_enter Try.func4, Try.ntmps4
  go_wp2_with fail
  refine (crc_examples _).mono ?_
  rintro e w1 ⟨rfl, hb1⟩
  go_wp2_with fail
  obtain ⟨X, hl, hat, hx⟩ := xor3_open s t u n hn2 (by omega) (by omega)
  have Hl := Aside.mk hl
  have Hat := Aside.mk hat
  have Hx := Aside.mk hx
  clear hl hat hx hmk hm hn
  go_loopw [10] (fun i wr => ∃ k : Nat, k ≤ n ∧ i = .int .i64 k ∧ BytesAt wr w1.heap.size (X.take k ++ List.replicate (n - k) 0) ∧ (∀ j, wr.frozen? ⟨w1.heap.size, j, none⟩ = false) ∧ Below w1.heap.size w1 wr) (fun i _ => n - (intOf i).toNat)
  case atStart => exact ⟨0, by omega, rfl, by simpa using bytes_made w1 n _, fun j => by simp, (Below.refl _ _).alloc (Nat.le_refl _) _⟩
  case round =>
    obtain ⟨k, hk, rfl, hb, hf, hbl⟩ := hrel
    by_cases hlt : k < n
    · have hc := hb k (by have := Hl.out; simp; omega)
      have hfk := hf k
      have Hb := Aside.mk hb
      have Hf := Aside.mk hf
      clear hb hf
      have h1 : k < s.size := by omega
      have h2 : k < t.size := by omega
      have h3 : k < u.size := by omega
      obtain ⟨a, b, hx1, hx2, hab⟩ : ∃ a b : UInt8, bits BinOp.xor IntKind.u8 ↑s[k].toNat ↑t[k].toNat = a.toNat ∧ bits BinOp.xor IntKind.u8 a.toNat ↑u[k].toNat = b.toNat ∧ X.getD k 0 = b :=
        ⟨_, _, bits_xor_byte _ _, bits_xor_byte _ _, Hat.out k hlt h1 h2 h3⟩
      have Hab := Aside.mk hab
      clear hab
      go_wp2_with fail
      go_region
      go_wp2_with fail
      go_roundw
      case rel =>
        refine ⟨k + 1, by omega, by go_num, ?_, fun j => by simpa using Hf.out j, (hbl.setCell (Nat.le_refl _) _).drew⟩
        rw [← set_step X k n Hl.out hlt, Hab.out]
        exact Hb.out.set k (by have := Hl.out; simp; omega) b
      case measure => simp [intOf]; omega
    · obtain rfl : k = n := by omega
      have hb' : BytesAt wr w1.heap.size X := by rw [Nat.sub_self, List.replicate_zero, List.append_nil, List.take_of_length_le (by have := Hl.out; omega)] at hb; exact hb
      have hcv : ∀ z : KW (fun _ => False) wr, (convert 25 9 (.slice (some ⟨w1.heap.size, 0, none⟩) k k)).run Try.prog z.w = .ok (.string ⟨X.toArray⟩) z.w :=
        fun z => run_string_bytes z.w _ _ _ Try.underlying25 Try.underlying5 Try.underlying9 _ X k k Hl.out (hb'.keep z.keep id)
      have hx := Hx.out.symm
      clear hb hf hb' Hat Hx
      go_wp2_with fail
      refine wp_region_keep (fun _ => False) (by kernel_rfl) (by kernel_rfl) ?_
      repeat (go_big_quiet_step ((go_at_call 16; exact KW.calls (crc_sum _ _ (by first | exact ext_le (by unfold maxLen; omega) | exact mk_le (by have := Hl.out; unfold maxLen; omega))))))
      refine wpQuiet_nil ?_
      intro s4
      have hb4 := s4.below
      go_wp2_with fail
      go_ret
      exact ⟨rfl, ((hb1.trans (hbl.mono hb1.size)).trans (hb4.mono (Nat.le_trans hb1.size hbl.size)))⟩
end Go.Proofs.Ytpbjoifdnhjfnaa
