/- What package frame computes, and its reference: packing. -/
import Derived.Test.YtlbnbmojgdoieaaProg
import Derived.Test.YtlbnbmojgdoieaaFrameM
import Derived.Test.YtlbnbmojgdoieaaCrcW
import Derived.Test.YtlbnbmojgdoieaaVarW
set_option maxRecDepth 16000
namespace Go.Pin
open Go.RowKit
set_option linter.unusedVariables false
theorem run_convert_new1 {P : Program} (w : World) (src dst e e' : TypeId) (hs : P.underlying src = some (.slice e)) (he : P.underlying e = some (.int .u8)) (hd : P.underlying dst = some .string) (x0 : Int) (c : Nat) :
    (convert src dst (.slice (some ⟨w.heap.size, 0, none⟩) 1 c)).run P (w.alloc (.cells #[.int .u8 x0] e')) =
      .ok (.string (strOfNums [x0])) (w.alloc (.cells #[.int .u8 x0] e')) := by
  refine run_convert_bytes_arg _ src e hs he w.heap.size 0 1 c [x0] rfl ?_ dst hd
  intro i hi
  rw [Nat.zero_add, World.cell?_alloc_new]
  match i, hi with
  | 0, _ => rfl
theorem one_byte (z : Int) (h0 : 0 ≤ z) (h1 : z ≤ 255) : strOfNums [z] = fixedS z.toNat 1 := by
  unfold strOfNums fixedS
  rw [if_neg (by omega)]
  simp [fixedL]
end Go.Pin
namespace Go.Proofs.Ytlbnbmojgdoieaa
open Go.RowKit Go.Pin
set_option linter.unusedVariables false
set_option linter.unusedSimpArgs false

set_option maxHeartbeats 400000 in
theorem frame_length (v : Int) (n : Nat) (w : World) (hn : n ≤ 1152921504606846976) :
    Calls Try.prog 91 #[.int .i64 v, .int .i64 n] w fun e w' => e = .returned (.string (flen v n)) ∧ Below w.heap.size w w' := by
  obtain ⟨z, hz, hz0, hz1⟩ : ∃ z : Int, (n : Int) = z ∧ 0 ≤ z ∧ z ≤ 1152921504606846976 := ⟨_, rfl, by omega, by omega⟩
  have hzn : n = z.toNat := by omega
  rw [hz, hzn]
  clear hz hzn hn
  by_cases hv : v = 1
  · subst hv
    go_enter Try.func91, Try.ntmps91
    go_wp2_with fail
    refine (var_fixed z 4 hz0 (by omega) (by omega) (by omega) _).mono ?_
    rintro e w1 ⟨rfl, hb⟩
    go_wp2_with fail
    go_ret
    exact ⟨by unfold flen; rw [if_pos rfl]; rfl, hb⟩
  · go_enter Try.func91, Try.ntmps91
    go_wp2_with fail
    refine (var_put z hz0 (by omega) _).mono ?_
    rintro e w1 ⟨rfl, hb⟩
    go_wp2_with fail
    go_ret
    exact ⟨by unfold flen; rw [if_neg hv]; rfl, hb⟩

set_option maxHeartbeats 1600000 in
theorem frame_pack (v : Int) (b : ByteArray) (w : World) (hv : -9223372036854775808 ≤ v ∧ v ≤ 9223372036854775807) (hb : b.size ≤ 1152921504606846976) :
    Calls Try.prog 64 #[.int .i64 v, .string b] w fun e w' => e = .returned (.tuple #[.string (fpack v b).1, .bool (fpack v b).2]) ∧ Below w.heap.size w w' := by
  by_cases h : v < 1 ∨ 2 < v ∨ 1048576 < b.size
  · have e1 : fpack v b = (⟨#[]⟩, false) := by unfold fpack; rw [if_pos h]
    rw [e1]
    clear e1
    rcases Int.lt_or_le v 1 with h1 | h1
    · go_enter Try.func64, Try.ntmps64
      go_wp2_with fail
      go_ret2
      exact ⟨rfl, Below.refl _ _⟩
    · rcases Int.lt_or_le 2 v with h2 | h2
      · go_enter Try.func64, Try.ntmps64
        go_wp2_with fail
        go_ret2
        exact ⟨rfl, Below.refl _ _⟩
      · have h3 : (1048576 : Int) < (b.size : Int) := by omega
        go_enter Try.func64, Try.ntmps64
        go_wp2_with fail
        go_ret2
        exact ⟨rfl, Below.refl _ _⟩
  · have h1 : 1 ≤ v := by omega
    have h2 : v ≤ 2 := by omega
    have h3 : (b.size : Int) ≤ 1048576 := by omega
    have e1 : fpack v b = (fhead v b.size ++ fixedS (csum (fhead v b.size) b).toNat 4 ++ b, true) := by unfold fpack; rw [if_neg h]
    rw [e1]
    clear e1 h
    have hbb := Below.refl w.heap.size w
    go_enter Try.func64, Try.ntmps64
    go_wp2_with fail
    refine (var_fixed (160 + v) 1 (by omega) (by omega) (by omega) (by omega) _).mono ?_
    rintro e w1 ⟨rfl, hb1⟩
    replace hbb := Below.next hbb hb1
    clear hb1
    go_wp2_with fail
    refine (frame_length v b.size _ hb).mono ?_
    rintro e w2 ⟨rfl, hb1⟩
    replace hbb := Below.next hbb hb1
    clear hb1
    have hhs := fhead_size v b.size
    have hf1 := fixedS_size (160 + v).toNat 1
    have hf2 := flen_size v b.size
    have hfh : fixedS (160 + v).toNat 1 ++ flen v b.size = fhead v b.size := rfl
    go_wp2_with fail
    obtain ⟨F, hF, hFs⟩ : ∃ F, fhead v b.size = F ∧ F.size ≤ 18 := ⟨_, rfl, hhs⟩
    rw [hF]
    have HF := Aside.mk hF
    clear hF hfh hhs hf1 hf2
    refine (crc_sum F _ (by unfold maxLen; omega)).mono ?_
    rintro e w3 ⟨rfl, hb1⟩
    replace hbb := Below.next hbb hb1
    clear hb1
    go_wp2_with fail
    refine (crc_more _ b _ (by unfold maxLen; omega)).mono ?_
    rintro e w4 ⟨rfl, hb1⟩
    replace hbb := Below.next hbb hb1
    clear hb1
    obtain ⟨n, hn, hn0, hn1⟩ : ∃ n : Int, u32v (cmore (cmore 0#32 F.data.toList) b.data.toList) = n ∧ 0 ≤ n ∧ n < 4294967296 := ⟨_, rfl, u32v_range _⟩
    rw [hn]
    have Hn := Aside.mk hn
    clear hn
    go_wp2_with fail
    refine (var_fixed n 4 hn0 (by omega) (by omega) (by omega) _).mono ?_
    rintro e w5 ⟨rfl, hb1⟩
    replace hbb := Below.next hbb hb1
    clear hb1
    have hf3 := fixedS_size n.toNat 4
    go_wp2_with fail
    go_ret2
    refine ⟨?_, hbb⟩
    rw [HF.out]
    have : (csum F b).toNat = n.toNat := by rw [← Hn.out]; unfold csum u32v; simp
    rw [this]; rfl

set_option maxHeartbeats 1600000 in
theorem frameref_pack (v : Int) (b : ByteArray) (w : World) (hv : -9223372036854775808 ≤ v ∧ v ≤ 9223372036854775807) (hb : b.size ≤ 1152921504606846976) :
    Calls Try.prog 67 #[.int .i64 v, .string b] w fun e w' => e = .returned (.tuple #[.string (fpack v b).1, .bool (fpack v b).2]) ∧ Below w.heap.size w w' := by
  by_cases h : v < 1 ∨ 2 < v ∨ 1048576 < b.size
  · have e1 : fpack v b = (⟨#[]⟩, false) := by unfold fpack; rw [if_pos h]
    rw [e1]
    clear e1
    by_cases h1 : v = 1 ∨ v = 2
    · have h3 : (1048576 : Int) < (b.size : Int) := by omega
      rcases h1 with rfl | rfl
      · go_enter Try.func67, Try.ntmps67
        go_wp2_with fail
        go_ret2
        exact ⟨rfl, Below.refl _ _⟩
      · go_enter Try.func67, Try.ntmps67
        go_wp2_with fail
        go_ret2
        exact ⟨rfl, Below.refl _ _⟩
    · have n1 : v ≠ 1 := fun q => h1 (.inl q)
      have n2 : v ≠ 2 := fun q => h1 (.inr q)
      clear h h1
      go_enter Try.func67, Try.ntmps67
      go_wp2_with fail
      go_ret2
      exact ⟨rfl, Below.refl _ _⟩
  · have h12 : v = 1 ∨ v = 2 := by omega
    have h3 : (b.size : Int) ≤ 1048576 := by omega
    have e1 : fpack v b = (fhead v b.size ++ fixedS (csum (fhead v b.size) b).toNat 4 ++ b, true) := by unfold fpack; rw [if_neg h]
    rw [e1]
    clear e1 h
    have hbb := Below.refl w.heap.size w
    have hcv := fun (w : World) => run_convert_new1 (P := Try.prog) w 35 9 5 5 Try.underlying35 Try.underlying5 Try.underlying9
    rcases h12 with rfl | rfl
    · go_enter Try.func67, Try.ntmps67
      go_wp2_with fail
      refine (varref_fixed b.size 4 (by omega) (by omega) (by omega) (by omega) _).mono ?_
      rintro e w1 ⟨rfl, hb1⟩
      replace hbb := Below.next hbb hb1
      clear hb1
      have hf1 := fixedS_size b.size 4
      have hob := one_byte 161 (by omega) (by omega)
      have hf2 := fixedS_size 161 1
      go_wp2_with fail
      obtain ⟨F, hF, hFs⟩ : ∃ F, fixedS 161 1 ++ fixedS b.size 4 = F ∧ F.size ≤ 18 := ⟨_, rfl, by rw [ByteArray.size_append]; omega⟩
      rw [hF]
      have HF := Aside.mk hF
      clear hF hf1 hf2 hob
      replace hbb := hbb.alloc (by have := hbb.size; omega) (.cells #[Value.int .u8 161] 5)
      refine (crcref_sum (F ++ b) _ (by rw [ByteArray.size_append]; omega)).mono ?_
      rintro e w3 ⟨rfl, rfl⟩
      obtain ⟨n, hn, hn0, hn1⟩ : ∃ n : Int, u32v (cmore 0#32 (F ++ b).data.toList) = n ∧ 0 ≤ n ∧ n < 4294967296 := ⟨_, rfl, u32v_range _⟩
      rw [hn]
      have Hn := Aside.mk hn
      clear hn
      go_wp2_with fail
      refine (varref_fixed n 4 hn0 (by omega) (by omega) (by omega) _).mono ?_
      rintro e w5 ⟨rfl, hb1⟩
      replace hbb := Below.next hbb hb1
      clear hb1
      have hf3 := fixedS_size n.toNat 4
      go_wp2_with fail
      go_ret2
      refine ⟨?_, hbb⟩
      have hFF : fhead 1 b.size = F := by rw [← HF.out]; rfl
      rw [hFF]
      have : (csum F b).toNat = n.toNat := by
        rw [← Hn.out]; unfold csum u32v; rw [cmore_append, ByteArray.data_append, Array.toList_append]; simp
      rw [this]; rfl
    · go_enter Try.func67, Try.ntmps67
      go_wp2_with fail
      refine (varref_fixed b.size 4 (by omega) (by omega) (by omega) (by omega) _).mono ?_
      rintro e w1 ⟨rfl, hb1⟩
      replace hbb := Below.next hbb hb1
      clear hb1
      go_wp2_with fail
      refine (varref_put b.size (by omega) (by omega) _).mono ?_
      rintro e w2 ⟨rfl, hb1⟩
      replace hbb := Below.next hbb hb1
      clear hb1
      have hf1 := (vputS_size b.size).1
      have hob := one_byte 162 (by omega) (by omega)
      have hf2 := fixedS_size 162 1
      go_wp2_with fail
      obtain ⟨F, hF, hFs⟩ : ∃ F, fixedS 162 1 ++ vputS b.size = F ∧ F.size ≤ 18 := ⟨_, rfl, by rw [ByteArray.size_append]; omega⟩
      rw [hF]
      have HF := Aside.mk hF
      clear hF hf1 hf2 hob
      replace hbb := hbb.alloc (by have := hbb.size; omega) (.cells #[Value.int .u8 162] 5)
      refine (crcref_sum (F ++ b) _ (by rw [ByteArray.size_append]; omega)).mono ?_
      rintro e w3 ⟨rfl, rfl⟩
      obtain ⟨n, hn, hn0, hn1⟩ : ∃ n : Int, u32v (cmore 0#32 (F ++ b).data.toList) = n ∧ 0 ≤ n ∧ n < 4294967296 := ⟨_, rfl, u32v_range _⟩
      rw [hn]
      have Hn := Aside.mk hn
      clear hn
      go_wp2_with fail
      refine (varref_fixed n 4 hn0 (by omega) (by omega) (by omega) _).mono ?_
      rintro e w5 ⟨rfl, hb1⟩
      replace hbb := Below.next hbb hb1
      clear hb1
      have hf3 := fixedS_size n.toNat 4
      go_wp2_with fail
      go_ret2
      refine ⟨?_, hbb⟩
      have hFF : fhead 2 b.size = F := by rw [← HF.out]; rfl
      rw [hFF]
      have : (csum F b).toNat = n.toNat := by
        rw [← Hn.out]; unfold csum u32v; rw [cmore_append, ByteArray.data_append, Array.toList_append]; simp
      rw [this]; rfl
end Go.Proofs.Ytlbnbmojgdoieaa
