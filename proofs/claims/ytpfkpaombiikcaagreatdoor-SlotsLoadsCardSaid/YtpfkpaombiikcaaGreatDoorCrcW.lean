import Derived.Test.YtpfkpaombiikcaaGreatDoorProg
import Derived.Test.YtpfkpaombiikcaaGreatDoorBase
import Derived.Test.YtpfkpaombiikcaaGreatDoorZPlain
/- What the functions of package crc compute. -/
set_option maxRecDepth 16000
namespace Go.Proofs.YtpfkpaombiikcaaGreatDoor
set_option linter.unusedVariables false
set_option linter.unusedSimpArgs false
open Go.RowKit Go.Pin

theorem crc_mf : ∀ (fn : Fn) (first cap : Array Value) (w : World), (Instr.makeFunc fn first cap).run Tryz.prog w = .ok (.func fn first cap) w := fun _ _ _ _ => rfl

set_option maxHeartbeats 400000 in
theorem crc_step (b : Nat) (r : BitVec 32) (w : World) (hc : w.cell? ⟨b, 0, none⟩ = some (.int .u32 (u32v r))) (hf : w.frozen? ⟨b, 0, none⟩ = false) :
    Calls Tryz.prog 115 #[.pointer (some ⟨b, 0, none⟩)] w fun e w' => e = .returned (.tuple #[]) ∧ w' = (w.setCell ⟨b, 0, none⟩ (.int .u32 (u32v (cstep r)))).drew := by
  have hn := u32v_range r
  have hl := cstep_law r
  go_enter Tryz.func115, Tryz.ntmps115
  go_region
  go_end0
  exact ⟨rfl, rfl⟩

set_option maxHeartbeats 400000 in
theorem crc_take (b : Nat) (r : BitVec 32) (c : UInt8) (w : World) (hc : w.cell? ⟨b, 0, none⟩ = some (.int .u32 (u32v r))) (hf : w.frozen? ⟨b, 0, none⟩ = false) :
    Calls Tryz.prog 109 #[.pointer (some ⟨b, 0, none⟩), .int .u8 c.toNat] w fun e w' =>
      e = .returned (.tuple #[]) ∧ w'.cell? ⟨b, 0, none⟩ = some (.int .u32 (u32v (ctake r c))) ∧ w'.frozen? ⟨b, 0, none⟩ = false ∧ Keep (fun k => k = b) w w' := by
  have hn := u32v_range r
  have hl := u32v_xor_byte r c
  have hcb : (c.toNat : Int) < 256 := by have := c.toNat_lt; omega
  have hmf := crc_mf
  go_enter Tryz.func109, Tryz.ntmps109
  go_wp2_with fail
  clear hl hn hcb
  go_loopw [14] (fun i wr => ∃ k : Nat, k ≤ 8 ∧ i = .int .i64 k ∧ wr.cell? ⟨b, 0, none⟩ = some (.int .u32 (u32v (csteps k (r ^^^ c.toBitVec.zeroExtend 32)))) ∧ wr.frozen? ⟨b, 0, none⟩ = false ∧ Keep (fun k => k = b) w wr) (fun i _ => 8 - (intOf i).toNat)
  case atStart => exact ⟨0, by omega, rfl, World.cell?_setCell_same _ _ _ hc, by simpa using hf, (Keep.refl (fun k => k = b) w).setCell (p := ⟨b, 0, none⟩) (.inl rfl) _⟩
  case round =>
    obtain ⟨k, hk, rfl, hc1, hf1, hk1⟩ := hrel
    clear hc hf
    by_cases hlt : k < 8
    · go_wp2_with (go_at_call 115; refine (crc_step _ _ _ hc1 hf1).mono ?_; rintro e w' ⟨rfl, rfl⟩)
      go_roundw
      case rel => exact ⟨k + 1, by omega, by go_num, World.cell?_setCell_same _ _ _ hc1, by simpa using hf1, (hk1.setCell (.inl rfl) _).drew⟩
      case measure => simp [intOf]; omega
    · obtain rfl : k = 8 := by omega
      go_wp2
      go_end0
      exact ⟨rfl, hc1, hf1, hk1⟩
set_option maxHeartbeats 400000 in
theorem crc_more (n : BitVec 32) (s : ByteArray) (w : World) (hs : s.size ≤ maxLen) :
    Calls Tryz.prog 96 #[.int .u32 (u32v n), .string s] w fun e w' =>
      e = .returned (.int .u32 (u32v (cmore n s.data.toList))) ∧ Below w.heap.size w w' := by
  have hn := u32v_range n
  unfold maxLen at hs
  have hcv := fun (w : World) => Lib.run_convert_string_bytes (P := Tryz.prog) w 9 69 5 s Tryz.underlying9 Tryz.underlying69 Tryz.underlying5
  have hx := not_u32v n
  have hx2 := not_u32v (crun (~~~ n) s.data.toList)
  go_enter Tryz.func96, Tryz.ntmps96
  go_wp2_with fail
  clear hcv hx hn
  obtain ⟨w1, cap, e1, e2, hz, hb, hk⟩ := bytesWorld_open (w.alloc (Obj.cells #[Value.int IntKind.u32 (u32v (~~~n))] 164)) 5 s
  rw [e1, e2]; clear e1 e2
  simp only [World.size_alloc] at hz hb
  have hc := (hk (fun _ => False)).cell (p := ⟨w.heap.size, 0, none⟩) (v := .int .u32 (u32v (~~~n))) (by simp) id
  have hf := (hk (fun _ => False)).frozen (p := ⟨w.heap.size, 0, none⟩) (by simp) id
  simp at hf
  have hkw := (((Keep.refl (fun _ => False) w).alloc (Obj.cells #[Value.int IntKind.u32 (u32v (~~~n))] 164)).trans (hk _)).below (Nat.le_refl _) (fun _ h => h.elim)
  have hl : s.data.toList.length = s.size := rfl
  clear hk
  go_loopw [13] (fun i wr => ∃ k : Nat, k ≤ s.size ∧ i = .int .i64 k ∧ wr.cell? ⟨w.heap.size, 0, none⟩ = some (.int .u32 (u32v (crun (~~~n) (s.data.toList.take k)))) ∧ wr.frozen? ⟨w.heap.size, 0, none⟩ = false ∧ BytesAt wr (w.heap.size + 1) s.data.toList ∧ Below w.heap.size w wr) (fun i _ => s.size - (intOf i).toNat)
  case atStart => exact ⟨0, by omega, rfl, hc, hf, hb, hkw⟩
  case round =>
    clear hc hf hb hkw
    obtain ⟨k, hk, rfl, hc, hf, hb, hkw⟩ := hrel
    by_cases hlt : k < s.size
    · have hcb := hb k (by simpa using hlt)
      go_wp2_with (go_at_call 109; refine (crc_take _ _ _ _ hc hf).mono ?_; rintro e w' ⟨rfl, hc', hf', hk'⟩)
      go_roundw
      case rel => exact ⟨k + 1, by omega, by go_num, by rw [crun_take _ _ _ (by simpa using hlt)]; simpa [hlt] using hc', hf', hb.keep hk' (by omega), hkw.trans (hk'.below (by have := hkw.size; omega) (by omega))⟩
      case measure => simp [intOf]; omega
    · obtain rfl : k = s.size := by omega
      rw [← hl, List.take_length] at hc
      go_wp2
      go_ret
      exact ⟨rfl, hkw⟩
set_option maxHeartbeats 400000 in
theorem crc_sum (s : ByteArray) (w : World) (hs : s.size ≤ maxLen) :
    Calls Tryz.prog 84 #[.string s] w fun e w' =>
      e = .returned (.int .u32 (u32v (cmore 0#32 s.data.toList))) ∧ Below w.heap.size w w' := by
  go_enter Tryz.func84, Tryz.ntmps84
  go_wp2_with (go_at_call 96; refine (crc_more 0#32 s _ hs).mono ?_; rintro e w' ⟨rfl, hb⟩)
  go_ret
  exact ⟨rfl, hb⟩

set_option maxHeartbeats 400000 in
theorem crc_put (s : ByteArray) (w : World) (hs : s.size ≤ 1152921504606846976) :
    Calls Tryz.prog 61 #[.string s] w fun e w' =>
      e = .returned (.string (cput s)) ∧ Below w.heap.size w w' := by
  have hn := u32v_range (cmore 0#32 s.data.toList)
  have hcv := fun (w : World) => run_convert_new4 (P := Tryz.prog) w 69 9 5 5 Tryz.underlying69 Tryz.underlying5 Tryz.underlying9
  have hsz := strOfNums_size
  have hput := cput_law s
  go_enter Tryz.func61, Tryz.ntmps61
  go_wp2_with (go_at_call 84; refine (crc_sum s _ (by unfold maxLen; omega)).mono ?_; rintro e w' ⟨rfl, hb⟩)
  go_ret
  exact ⟨rfl, hb.alloc hb.size _⟩

set_option maxHeartbeats 400000 in
theorem crc_get (s : ByteArray) (w : World) (hs : s.size ≤ 1152921504606846976) :
    Calls Tryz.prog 94 #[.string s] w fun e w' =>
      e = .returned (.tuple #[.string (cget s).1, .bool (cget s).2]) ∧ Below w.heap.size w w' := by
  by_cases h4 : s.size < 4
  · go_enter Tryz.func94, Tryz.ntmps94
    go_wp2_with fail
    go_ret2
    exact ⟨by rw [cget, if_pos (.inl h4)]; rfl, Below.refl _ _⟩
  · by_cases hp : cput (s.extract 4 s.size) = s
    · have hse := str_beq
      go_enter Tryz.func94, Tryz.ntmps94
      go_wp2_with (go_at_call 61; refine (crc_put _ _ (by simp; omega)).mono ?_; rintro e w' ⟨rfl, hb⟩)
      go_ret2
      exact ⟨by rw [cget, if_neg (by rintro (h | h); exact h4 h; exact h hp)]; rfl, hb⟩
    · have hse := str_beq
      go_enter Tryz.func94, Tryz.ntmps94
      go_wp2_with (go_at_call 61; refine (crc_put _ _ (by simp; omega)).mono ?_; rintro e w' ⟨rfl, hb⟩)
      go_ret2
      exact ⟨by rw [cget, if_pos (.inr hp)]; rfl, hb⟩
set_option maxHeartbeats 400000 in
theorem crcref_more (n : BitVec 32) (s : ByteArray) (w : World) (hs : s.size ≤ 1152921504606846976) :
    Calls Tryz.prog 101 #[.int .u32 (u32v n), .string s] w fun e w' =>
      e = .returned (.int .u32 (u32v (cmore n s.data.toList))) ∧ w' = w := by
  have hn := u32v_range n
  have hx := not_u32v n
  have hx2 := not_u32v (crun (~~~ n) s.data.toList)
  go_enter Tryz.func101, Tryz.ntmps101
  go_wp2_with fail
  clear hx hn
  go_loop [0, 5] (fun r i => ∃ k : Nat, k ≤ s.size ∧ i = .int .i64 k ∧ r = .int .u32 (u32v (crun (~~~n) (s.data.toList.take k)))) (fun _ i => s.size - (intOf i).toNat)
  case atStart => exact ⟨0, by omega, rfl, rfl⟩
  case round =>
    obtain ⟨k, hk, rfl, rfl⟩ := hrel
    by_cases hlt : k < s.size
    · have hcr := crun_take (~~~n) s.data.toList k (by simpa using hlt)
      have H := hcr
      clear hcr
      go_wp2_with fail
      go_loop [0, 6] (fun r i => ∃ j : Nat, j ≤ 8 ∧ i = .int .i64 j ∧ r = .int .u32 (u32v (rbits j (crun (~~~n) (s.data.toList.take k)) s[k]))) (fun _ i => 8 - (intOf i).toNat)
      case atStart => exact ⟨0, by omega, rfl, rfl⟩
      case round =>
        obtain ⟨j, hj, rfl, rfl⟩ := hrel
        have hr := u32v_range (rbits j (crun (~~~n) (s.data.toList.take k)) s[k])
        by_cases hlj : j < 8
        · have ht := rbit_test (rbits j (crun (~~~n) (s.data.toList.take k)) s[k]) s[k] j
          by_cases hb : (rbits j (crun (~~~n) (s.data.toList.take k)) s[k] ^^^ (s[k].toBitVec.zeroExtend 32 >>> j)).getLsbD 0 = true
          · have hv := rbit_yes _ _ hb
            rw [hb] at ht
            clear hb
            go_wp2_with fail
            go_round
            case rel => exact ⟨j + 1, by omega, by go_num, rfl⟩
            case measure => simp [intOf]; omega
          · have hb' := Bool.eq_false_iff.2 hb
            have hv := rbit_no _ _ hb'
            rw [hb'] at ht
            clear hb hb'
            go_wp2_with fail
            go_round
            case rel => exact ⟨j + 1, by omega, by go_num, congrArg (Value.int .u32) hv⟩
            case measure => simp [intOf]; omega
        · obtain rfl : j = 8 := by omega
          go_wp2_with fail
          go_round
          case rel => exact ⟨k + 1, by omega, by go_num, by rw [H]; simp [rbits_take, hlt]; rfl⟩
          case measure => simp [intOf]; omega
    · obtain rfl : k = s.size := by omega
      have hl : s.data.toList.take s.size = s.data.toList := List.take_length
      rw [hl]
      go_wp2_with fail
      go_ret
      exact ⟨rfl, rfl⟩
set_option maxHeartbeats 400000 in
theorem crcref_sum (s : ByteArray) (w : World) (hs : s.size ≤ 1152921504606846976) :
    Calls Tryz.prog 90 #[.string s] w fun e w' =>
      e = .returned (.int .u32 (u32v (cmore 0#32 s.data.toList))) ∧ w' = w := by
  go_enter Tryz.func90, Tryz.ntmps90
  go_wp2_with (go_at_call 101; refine (crcref_more 0#32 s _ hs).mono ?_; rintro e w' ⟨rfl, rfl⟩)
  go_ret
  exact ⟨rfl, rfl⟩

set_option maxHeartbeats 400000 in
theorem crcref_put (s : ByteArray) (w : World) (hs : s.size ≤ 1152921504606846976) :
    Calls Tryz.prog 69 #[.string s] w fun e w' =>
      e = .returned (.string (cput s)) ∧ Below w.heap.size w w' := by
  have hn := u32v_range (cmore 0#32 s.data.toList)
  have hcv := fun (w : World) => run_convert_new4 (P := Tryz.prog) w 69 9 5 5 Tryz.underlying69 Tryz.underlying5 Tryz.underlying9
  have hsz := strOfNums_size
  have hput := cput_law s
  go_enter Tryz.func69, Tryz.ntmps69
  go_wp2_with (go_at_call 90; refine (crcref_sum s _ hs).mono ?_; rintro e w' ⟨rfl, rfl⟩)
  go_ret
  exact ⟨rfl, (Below.refl _ _).alloc (Nat.le_refl _) _⟩

end Go.Proofs.YtpfkpaombiikcaaGreatDoor
