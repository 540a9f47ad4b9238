/- CrcPut: its walk. -/
import Derived.Test.YtpbjoifdnhjfnaaCrcW
import Derived.Test.YtpbjoifdnhjfnaaCrcB
import Derived.Test.YtpbjoifdnhjfnaaBytes
namespace Go.Pin
set_option linter.unusedVariables false
set_option linter.unusedSimpArgs false

theorem u32be_inj (x y : BitVec 32) (h : u32be x = u32be y) : x = y := by
  unfold u32be at h
  simp only [List.cons.injEq, and_true] at h
  obtain ⟨h1, h2, h3, h4⟩ := h
  have g (a b : Nat) (h : UInt8.ofNat a = UInt8.ofNat b) : a % 256 = b % 256 := by
    have := congrArg UInt8.toNat h
    simpa using this
  have g1 := g _ _ h1
  have g2 := g _ _ h2
  have g3 := g _ _ h3
  have g4 := g _ _ h4
  have hx := x.isLt
  have hy := y.isLt
  apply BitVec.eq_of_toNat_eq
  omega

theorem cput_list (s : ByteArray) : (cput s).data.toList = u32be (cmore 0#32 s.data.toList) ++ s.data.toList := by
  show (u32be (cmore 0#32 s.data.toList) ++ s.data.toList).toArray.toList = _
  simp
theorem u32be_len (x : BitVec 32) : (u32be x).length = 4 := rfl

/-- A byte of what was put, turned: it is got no more. -/
theorem cget_turned (s T : ByteArray) (k : Nat) (b : UInt8) (hb : b ≠ 0) (hk : k < s.size + 4) (hT : T.data.toList = (cput s).data.toList.set k ((cput s).data.toList.getD k 0 ^^^ b)) : cget T = (ByteArray.empty, false) := by
  have hl : (cput s).data.toList.length = s.size + 4 := cput_size s
  have hTl : T.size = s.size + 4 := by
    have : T.data.toList.length = s.size + 4 := by rw [hT, List.length_set, hl]
    exact this
  unfold cget
  rw [if_pos]
  right
  intro hp
  have hsl : s.data.toList.length = s.size := rfl
  -- the text behind the sum
  have hx : (T.extract 4 T.size).data.toList = T.data.toList.drop 4 := by
    rw [ByteArray.data_extract]
    have : T.data.toList.length = T.size := rfl
    simp [List.extract_eq_take_drop]
    exact List.take_of_length_le (by simp [this])
  have hne : (cput s).data.toList.getD k 0 ^^^ b ≠ (cput s).data.toList.getD k 0 := by
    intro h
    have : b = 0 := by
      have h2 := congrArg (fun x => (cput s).data.toList.getD k 0 ^^^ x) h
      simpa [← UInt8.xor_assoc] using h2
    exact hb this
  have hpl : T.data.toList = u32be (cmore 0#32 (T.data.toList.drop 4)) ++ T.data.toList.drop 4 := by
    have := congrArg (fun x : ByteArray => x.data.toList) hp
    rw [cput_list, hx] at this
    exact this.symm
  rcases Nat.lt_or_ge k 4 with h4 | h4
  · have hd : T.data.toList.drop 4 = s.data.toList := by
      rw [hT, List.drop_set_of_lt h4, cput_list, List.drop_left' (u32be_len _)]
    rw [hd] at hpl
    rw [← cput_list] at hpl
    rw [hT] at hpl
    have := congrArg (fun l => l.getD k 0) hpl
    simp only [List.getD, List.getElem?_set, if_pos] at this
    rw [if_pos (by rw [hl]; exact hk)] at this
    exact hne (by simpa [List.getD] using this)
  · have hd : T.data.toList.drop 4 = turned s.data.toList (k - 4) (fun _ => b) 1 := by
      rw [hT, List.drop_set]
      rw [if_neg (by omega), cput_list, List.drop_left' (u32be_len _)]
      simp only [turned, Nat.add_zero]
      congr 2
      rw [List.getD, List.getElem?_append_right (by rw [u32be_len]; exact h4), u32be_len]; rfl
    rw [hd] at hpl
    have h0 : T.data.toList.take 4 = u32be (cmore 0#32 s.data.toList) := by
      rw [hT, List.take_set_of_le h4, cput_list, List.take_left' (u32be_len _)]
    have h1 : T.data.toList.take 4 = u32be (cmore 0#32 (turned s.data.toList (k - 4) (fun _ => b) 1)) := by
      rw [hpl, List.take_left' (u32be_len _)]
    have h2 := u32be_inj _ _ (h1.symm.trans h0)
    exact hb ((burst_law s.data.toList (k - 4) (fun _ => b) 1 (by rw [hsl]; omega) (by omega)).1 h2 0 (by omega))

theorem cget_same (s T : ByteArray) (k : Nat) (hk : k < s.size + 4) (hT : T.data.toList = (cput s).data.toList.set k ((cput s).data.toList.getD k 0 ^^^ 0)) : cget T = (s, true) := by
  have hl : (cput s).data.toList.length = s.size + 4 := cput_size s
  have : T = cput s := by
    apply ByteArray.ext; apply Array.ext'
    rw [hT]
    simp only [UInt8.xor_zero]
    rw [List.getD, List.getElem?_eq_getElem (by rw [hl]; exact hk), Option.getD_some, List.set_getElem_self]
  rw [this, cget_cput]
theorem cget_short (t : ByteArray) (h : t.size < 4) : cget t = (ByteArray.empty, false) := by
  unfold cget; rw [if_pos (.inl h)]
end Go.Pin

namespace Go.Proofs.Ytpbjoifdnhjfnaa
set_option linter.unusedVariables false
set_option linter.unusedSimpArgs false
open Go.RowKit Go.Pin

set_option maxHeartbeats 800000 in
theorem crcPut_core (s : ByteArray) (a c : Int) (b : UInt8) (hs : s.size ≤ 140737488351232) (ha : 0 ≤ a ∧ a ≤ 65535) (hc0 : 0 ≤ c ∧ c ≤ 65535) (w : World) :
    Calls Try.prog 7 #[.string s, .int .u16 a, .int .u8 b.toNat, .int .u16 c] w fun e w' => e = .returned (.bool true) ∧ Below w.heap.size w w' := by
  have hse := str_beq
  obtain ⟨m, hm, hm1, hm2⟩ : ∃ m : Nat, (if (200 : Int) < s.size then 200 else (s.size : Int)) = (m : Int) ∧ m ≤ 200 ∧ m ≤ s.size := by
    by_cases h : (200 : Int) < s.size
    · exact ⟨200, if_pos h, by omega, by omega⟩
    · exact ⟨s.size, if_neg h, by omega, by omega⟩
  obtain ⟨t, ht, htz⟩ : ∃ t : ByteArray, s.extract 0 m = t ∧ t.size = m := ⟨_, rfl, by rw [ByteArray.size_extract]; omega⟩
  have hsz : (cput t).size = m + 4 := by rw [cput_size, htz]
  have hb := Below.refl w.heap.size w
  have hcv := fun (w : World) => Lib.run_convert_string_bytes (P := Try.prog) w 9 25 5 (cput t) Try.underlying9 Try.underlying25 Try.underlying5
  obtain ⟨k, hkk⟩ : ∃ kk : Nat, a % ((m : Int) + 4) = kk := Int.eq_ofNat_of_zero_le (Int.emod_nonneg _ (by omega))
  have hlt : k < m + 4 := by have := Int.emod_lt_of_pos a (show (0 : Int) < m + 4 by omega); omega
  obtain ⟨q, hq⟩ : ∃ q : Nat, c % 4 = q := Int.eq_ofNat_of_zero_le (Int.emod_nonneg _ (by omega))
  have hq4 : q < 4 := by omega
  have hshort := cget_short ((cput t).extract 0 q) (by rw [ByteArray.size_extract]; omega)
  go_enter Try.func7, Try.ntmps7
  go_wp2_with (first | (go_at_call 15; refine (crc_examples _).mono ?_; rintro e w' ⟨rfl, hb'⟩; replace hb := Below.next hb hb'; clear hb') | (go_at_call 23; refine (crc_put _ _ (by omega)).mono ?_; rintro e w' ⟨rfl, hb'⟩; replace hb := Below.next hb hb'; clear hb'))
  obtain ⟨w1, cap, e1, e2, hz, hbb, hfr, hk⟩ := bytesWorld_open2 w' 5 (cput t)
  rw [hsz] at e2
  rw [e1, e2]
  obtain ⟨x, hcc⟩ : ∃ x : UInt8, (cput t).data.toList.getD k 0 = x := ⟨_, rfl⟩
  have hll : (cput t).data.toList.length = m + 4 := hsz
  have hc := hbb k (by omega)
  rw [hcc] at hc
  have hf := hfr k (by omega)
  have hx := bits_xor_byte x b
  obtain ⟨d, hd⟩ : ∃ d, d = x ^^^ b := ⟨_, rfl⟩
  rw [← hd] at hx
  have hset := hbb.set k (by omega) d
  have hbs := hb.size
  replace hb := ((Below.next hb (Keep.isBelow hk)).setCell (p := ⟨w'.heap.size, k, none⟩) hbs (.int .u8 d.toNat)).drew
  obtain ⟨T, hT1, hT2⟩ : ∃ T : ByteArray, T.size = m + 4 ∧ ((cput t).data.toList.set k d) = T.data.toList :=
    ⟨⟨((cput t).data.toList.set k d).toArray⟩, by show ((cput t).data.toList.set k d).toArray.size = _; rw [List.size_toArray, List.length_set, hll], by simp⟩
  have hconv : (convert 25 9 (.slice (some ⟨w'.heap.size, 0, none⟩) (m + 4) cap)).run Try.prog (w1.setCell ⟨w'.heap.size, k, none⟩ (.int .u8 d.toNat)).drew = .ok (.string T) (w1.setCell ⟨w'.heap.size, k, none⟩ (.int .u8 d.toNat)).drew := by
    have := run_string_bytes (P := Try.prog) (w1.setCell ⟨w'.heap.size, k, none⟩ (.int .u8 d.toNat)).drew 25 9 5 Try.underlying25 Try.underlying5 Try.underlying9 w'.heap.size ((cput t).data.toList.set k d) (m + 4) cap
      (by rw [List.length_set, hll]) hset
    rw [this, hT2]
  have hget : (b ≠ 0 → cget T = (ByteArray.empty, false)) ∧ (b = 0 → cget T = (t, true)) := by
    refine ⟨fun h => cget_turned t T k b h (by omega) ?_, fun h => cget_same t T k (by omega) ?_⟩
    · rw [hcc, ← hd]; exact hT2.symm
    · subst h; rw [hcc, ← hd]; exact hT2.symm
  clear hset hT2 hd hcc hbb hfr hk e1 e2 hcv hll
  go_region
  clear hc hf hx
  by_cases h0 : b = 0
  · have hg := hget.2 h0
    subst h0
    clear hget
    go_wp2_with (go_at_call 18; refine (crc_get _ _ (by first | exact ext_le (by omega) | omega)).mono ?_; rintro e w' ⟨rfl, hb'⟩; replace hb := Below.next hb hb'; clear hb')
    go_ret
    exact ⟨rfl, hb⟩
  · have hg := hget.1 h0
    have hb0 : ((b.toNat : Int) == 0) = false := by
      rw [beq_eq_false_iff_ne]
      intro h; apply h0; apply UInt8.toNat_inj.1; simp; omega
    clear hget
    go_wp2_with (go_at_call 18; refine (crc_get _ _ (by first | exact ext_le (by omega) | omega)).mono ?_; rintro e w' ⟨rfl, hb'⟩; replace hb := Below.next hb hb'; clear hb')
    go_ret
    exact ⟨rfl, hb⟩

theorem crcPut_walk (s : ByteArray) (a b c : Int) (hs : s.size ≤ 140737488351232) (ha : 0 ≤ a ∧ a ≤ 65535) (hb : 0 ≤ b ∧ b ≤ 255) (hc : 0 ≤ c ∧ c ≤ 65535) (w : World) :
    Calls Try.prog 7 #[.string s, .int .u16 a, .int .u8 b, .int .u16 c] w fun e w' => e = .returned (.bool true) ∧ Below w.heap.size w w' := by
  obtain ⟨d, rfl⟩ : ∃ d : UInt8, b = d.toNat := ⟨UInt8.ofNat b.toNat, by rw [UInt8.toNat_ofNat']; omega⟩
  exact crcPut_core s a c d hs ha hc w
end Go.Proofs.Ytpbjoifdnhjfnaa
