/- DeviceOf: its walk. -/
import Derived.Test.YtlbnbmojgdoieaaDevE
import Derived.Test.YtlbnbmojgdoieaaRfO
import Derived.OpenShut
set_option maxRecDepth 16000
namespace Go.Pin
open Go.RowKit
theorem dimage_dofv (s : ByteArray) (n : Nat) (hs : s.size = n * 64) : dimage (dofv s) = s := by
  have hn : (dofv s).n = n := by rw [dofv_n]; omega
  have h : ∀ k, k ≤ n → dimgL (dofv s) k = s.data.toList.take (64 * k) := by
    intro k
    induction k with
    | zero => intro _; simp [dimgL]
    | succ k ih =>
      intro hk
      rw [dimgL_succ, ih (by omega), show (dofv s).s k = (dofv s).o k from rfl, dofv_o s k (by omega)]
      unfold chunk
      simp only [ByteArray.data_extract, Array.toList_extract, List.extract_eq_take_drop]
      rw [show 64 * k + 64 - 64 * k = 64 by omega, show 64 * (k + 1) = 64 * k + 64 by omega, List.take_add]
  apply ByteArray.ext
  apply Array.ext'
  show (dimgL (dofv s) (dofv s).n) = _
  rw [hn, h n (Nat.le_refl _), List.take_of_length_le (by show s.size ≤ _; omega)]
theorem dwait_dofv (s : ByteArray) : (dwaiting (dofv s)).length = 0 := by
  unfold dwaiting
  rw [List.filter_eq_nil_iff.2 (fun i _ => by rw [dofv_w]; simp)]; rfl
end Go.Pin
namespace Go.Proofs.Ytlbnbmojgdoieaa
open Go.RowKit Go.Pin
set_option linter.unusedVariables false
set_option linter.unusedSimpArgs false
theorem make_u8b (w : World) (n : Nat) (hn : n ≤ 4096) : (Instr.makeSlice 35 (.int .i64 (n : Int)) (.int .i64 (n : Int))).run Try.prog w = .ok (.slice (some ⟨w.heap.size, 0, none⟩) n n) (w.alloc (.cells (Array.replicate n (.int .u8 0)) 5)) := by
  have hp : (Try.prog.info? 5).map (fun i => (i.zero, i.size, i.bytes)) = some (some (.int .u8 0), 1, 1) := by kernel_rfl
  obtain ⟨i0, hi, hz0, hz1, hz2⟩ := info_parts hp
  exact run_make_bytes (P := Try.prog) w 35 5 i0 Try.underlying35 hi hz0 hz1 hz2 n (by omega)
/-- What is asked of a text. -/
abbrev OfGood (T : ByteArray) (n : Nat) : Prop := T.size = n * 64 ∧ 1 ≤ n ∧ n ≤ 4096
abbrev OfBad (T : ByteArray) : Prop := T.size % 64 ≠ 0 ∨ T.size / 64 < 1 ∨ 4096 < T.size / 64
set_option maxHeartbeats 3200000 in
theorem deviceOf_fg (s T : ByteArray) (k : Int) (m : Nat) (hm : min (s.size : Int) 600 = (m : Int)) (hm2 : m ≤ 600) (hm3 : m ≤ s.size) (hT : s.extract 0 m = T) (hTz : T.size ≤ 600) (n : Nat) (hg : OfGood T n) (w : World) :
    Calls Try.prog 4 #[.string s, .int .u8 k, .bool false] w fun e w' => e = .returned (.bool true) ∧ Below w.heap.size w w' := by
  have hgs := Aside.mk hg.1
  have hg1 := hg.2.1
  have hg2 := hg.2.2
  have HI := Aside.mk (dimage_dofv T n hg.1)
  have HW := Aside.mk (dwait_dofv T)
  clear hg
  have hb := Below.refl w.heap.size w
  have hse := str_beq
  go_enter Try.func4, Try.ntmps4
  go_wp2_with fail
  with_reducible refine (dev_examples _).mono ?_
  rintro e w1 ⟨rfl, hbb⟩
  replace hb := Below.next hb hbb
  clear hbb
  go_wp2_with fail
  with_reducible refine (dev_of' T n hgs.out hg1 hg2 _).mono ?_
  rintro e w3 ⟨bA, fA, mA, rfl, hbA, hfA, hmA, dA, hbb⟩
  replace hb := Below.next hb hbb
  clear hbb
  go_wp2_with fail
  with_reducible refine (ref_of T n hgs.out hg1 hg2 _).mono ?_
  rintro e w4 ⟨bR, NR, OR, VR, rfl, _, _, _, _, rA, hbb⟩
  replace dA := dA.below hbb
  replace hb := Below.next hb hbb
  clear hbb rA
  go_wp2_with fail
  with_reducible refine (dev_image' bA fA mA _ T HI.out _ dA).mono ?_
  rintro e w5 ⟨rfl, hbb⟩
  replace dA := dA.below hbb
  replace hb := Below.next hb hbb
  clear hbb
  go_wp2_with fail
  with_reducible refine (dev_waiting' bA fA mA _ 0 HW.out _ dA).mono ?_
  rintro e w6 ⟨aw5, cw5, rfl, hbb⟩
  replace hb := Below.next hb hbb
  clear hbb dA
  go_wp2_with fail
  go_ret
  exact ⟨rfl, hb⟩
set_option maxHeartbeats 3200000 in
theorem deviceOf_fb (s T : ByteArray) (k : Int) (m : Nat) (hm : min (s.size : Int) 600 = (m : Int)) (hm2 : m ≤ 600) (hm3 : m ≤ s.size) (hT : s.extract 0 m = T) (hTz : T.size ≤ 600) (hg : OfBad T) (w : World) :
    Calls Try.prog 4 #[.string s, .int .u8 k, .bool false] w fun e w' => e = .returned (.bool true) ∧ Below w.heap.size w w' := by
  have HB := Aside.mk hg
  clear hg
  have hb := Below.refl w.heap.size w
  have hse := str_beq
  go_enter Try.func4, Try.ntmps4
  go_wp2_with fail
  with_reducible refine (dev_examples _).mono ?_
  rintro e w1 ⟨rfl, hbb⟩
  replace hb := Below.next hb hbb
  clear hbb
  go_wp2_with fail
  with_reducible refine (dev_of_no T (by omega) HB.out _).mono ?_
  rintro e w' ⟨rfl, rfl⟩
  go_wp2_with fail
  with_reducible refine (ref_of_no T (by omega) HB.out _).mono ?_
  rintro e w' ⟨rfl, rfl⟩
  go_wp2_with fail
  go_ret
  exact ⟨rfl, hb⟩
set_option maxHeartbeats 3200000 in
theorem deviceOf_tg (s U T : ByteArray) (k : Int) (N : Nat) (hk : 0 ≤ k ∧ k ≤ 255) (m : Nat) (hm : min (s.size : Int) 600 = (m : Int)) (hm2 : m ≤ 600) (hm3 : m ≤ s.size) (hU : s.extract 0 m = U) (hUz : U.size ≤ 600) (hN : 64 * (k % 9) = (N : Int)) (hN2 : N ≤ 512) (hT : (U ++ zeros 600).extract 0 N = T) (hTz : T.size ≤ 600) (n : Nat) (hg : OfGood T n) (w : World) :
    Calls Try.prog 4 #[.string s, .int .u8 k, .bool true] w fun e w' => e = .returned (.bool true) ∧ Below w.heap.size w w' := by
  have hgs := Aside.mk hg.1
  have hg1 := hg.2.1
  have hg2 := hg.2.2
  have HI := Aside.mk (dimage_dofv T n hg.1)
  have HW := Aside.mk (dwait_dofv T)
  clear hg
  have hmk : ∀ W : World, (Instr.makeSlice 35 (.int .i64 600) (.int .i64 600)).run Try.prog W = .ok (.slice (some ⟨W.heap.size, 0, none⟩) 600 600) (W.alloc (.cells (Array.replicate 600 (.int .u8 0)) 5)) := fun W => make_u8b W 600 (by omega)
  have hcv : ∀ W : World, (convert 35 9 (.slice (some ⟨W.heap.size, 0, none⟩) 600 600)).run Try.prog (W.alloc (.cells (Array.replicate 600 (.int .u8 0)) 5)) = .ok (.string (zeros 600)) (W.alloc (.cells (Array.replicate 600 (.int .u8 0)) 5)) := fun W => conv_zeros W 600
  have hzz : (zeros 600).size = 600 := zeros_size 600
  have hK : 0 ≤ k % 9 ∧ k % 9 ≤ 8 := by omega
  obtain ⟨K, hKK⟩ : ∃ K, k % 9 = K := ⟨_, rfl⟩
  rw [hKK] at hN hK
  have hw1 : IntKind.i64.wrap K = K := by rw [IntKind.wrap_i64]; omega
  have hw2 : IntKind.i64.wrap (64 * K) = (N : Int) := by rw [IntKind.wrap_i64]; omega
  have hNz : (N : Int) ≤ (U.size : Int) + 600 := by omega
  generalize zeros 600 = Z at *
  generalize Array.replicate 600 (Value.int .u8 0) = M at *
  clear hN
  have hb := Below.refl w.heap.size w
  have hse := str_beq
  go_enter Try.func4, Try.ntmps4
  go_wp2_with fail
  with_reducible refine (dev_examples _).mono ?_
  rintro e w1 ⟨rfl, hbb⟩
  replace hb := Below.next hb hbb
  clear hbb
  go_wp2_with fail
  replace hb := hb.alloc hb.size (.cells M 5)
  generalize w1.alloc (.cells M 5) = w2 at *
  with_reducible refine (dev_of' T n hgs.out hg1 hg2 _).mono ?_
  rintro e w3 ⟨bA, fA, mA, rfl, hbA, hfA, hmA, dA, hbb⟩
  replace hb := Below.next hb hbb
  clear hbb
  go_wp2_with fail
  with_reducible refine (ref_of T n hgs.out hg1 hg2 _).mono ?_
  rintro e w4 ⟨bR, NR, OR, VR, rfl, _, _, _, _, rA, hbb⟩
  replace dA := dA.below hbb
  replace hb := Below.next hb hbb
  clear hbb rA
  go_wp2_with fail
  with_reducible refine (dev_image' bA fA mA _ T HI.out _ dA).mono ?_
  rintro e w5 ⟨rfl, hbb⟩
  replace dA := dA.below hbb
  replace hb := Below.next hb hbb
  clear hbb
  go_wp2_with fail
  with_reducible refine (dev_waiting' bA fA mA _ 0 HW.out _ dA).mono ?_
  rintro e w6 ⟨aw5, cw5, rfl, hbb⟩
  replace hb := Below.next hb hbb
  clear hbb dA
  go_wp2_with fail
  go_ret
  exact ⟨rfl, hb⟩
set_option maxHeartbeats 3200000 in
theorem deviceOf_tb (s U T : ByteArray) (k : Int) (N : Nat) (hk : 0 ≤ k ∧ k ≤ 255) (m : Nat) (hm : min (s.size : Int) 600 = (m : Int)) (hm2 : m ≤ 600) (hm3 : m ≤ s.size) (hU : s.extract 0 m = U) (hUz : U.size ≤ 600) (hN : 64 * (k % 9) = (N : Int)) (hN2 : N ≤ 512) (hT : (U ++ zeros 600).extract 0 N = T) (hTz : T.size ≤ 600) (hg : OfBad T) (w : World) :
    Calls Try.prog 4 #[.string s, .int .u8 k, .bool true] w fun e w' => e = .returned (.bool true) ∧ Below w.heap.size w w' := by
  have HB := Aside.mk hg
  clear hg
  have hmk : ∀ W : World, (Instr.makeSlice 35 (.int .i64 600) (.int .i64 600)).run Try.prog W = .ok (.slice (some ⟨W.heap.size, 0, none⟩) 600 600) (W.alloc (.cells (Array.replicate 600 (.int .u8 0)) 5)) := fun W => make_u8b W 600 (by omega)
  have hcv : ∀ W : World, (convert 35 9 (.slice (some ⟨W.heap.size, 0, none⟩) 600 600)).run Try.prog (W.alloc (.cells (Array.replicate 600 (.int .u8 0)) 5)) = .ok (.string (zeros 600)) (W.alloc (.cells (Array.replicate 600 (.int .u8 0)) 5)) := fun W => conv_zeros W 600
  have hzz : (zeros 600).size = 600 := zeros_size 600
  have hK : 0 ≤ k % 9 ∧ k % 9 ≤ 8 := by omega
  obtain ⟨K, hKK⟩ : ∃ K, k % 9 = K := ⟨_, rfl⟩
  rw [hKK] at hN hK
  have hw1 : IntKind.i64.wrap K = K := by rw [IntKind.wrap_i64]; omega
  have hw2 : IntKind.i64.wrap (64 * K) = (N : Int) := by rw [IntKind.wrap_i64]; omega
  have hNz : (N : Int) ≤ (U.size : Int) + 600 := by omega
  generalize zeros 600 = Z at *
  generalize Array.replicate 600 (Value.int .u8 0) = M at *
  clear hN
  have hb := Below.refl w.heap.size w
  have hse := str_beq
  go_enter Try.func4, Try.ntmps4
  go_wp2_with fail
  with_reducible refine (dev_examples _).mono ?_
  rintro e w1 ⟨rfl, hbb⟩
  replace hb := Below.next hb hbb
  clear hbb
  go_wp2_with fail
  replace hb := hb.alloc hb.size (.cells M 5)
  generalize w1.alloc (.cells M 5) = w2 at *
  with_reducible refine (dev_of_no T (by omega) HB.out _).mono ?_
  rintro e w' ⟨rfl, rfl⟩
  go_wp2_with fail
  with_reducible refine (ref_of_no T (by omega) HB.out _).mono ?_
  rintro e w' ⟨rfl, rfl⟩
  go_wp2_with fail
  go_ret
  exact ⟨rfl, hb⟩
theorem ofCases (T : ByteArray) (h : T.size ≤ 600) : OfBad T ∨ ∃ n, OfGood T n := by
  by_cases h0 : T.size % 64 ≠ 0 ∨ T.size / 64 < 1 ∨ 4096 < T.size / 64
  · exact .inl h0
  · exact .inr ⟨T.size / 64, by unfold OfGood; omega⟩
theorem deviceOf_walk (s : ByteArray) (k : Int) (x : Bool) (hs : s.size ≤ 140737488351232) (hk : 0 ≤ k ∧ k ≤ 255) (w : World) :
    Calls Try.prog 4 #[.string s, .int .u8 k, .bool x] w fun e w' => e = .returned (.bool true) ∧ Below w.heap.size w w' := by
  obtain ⟨m, hm, hm2, hm3⟩ : ∃ m : Nat, min (s.size : Int) 600 = (m : Int) ∧ m ≤ 600 ∧ m ≤ s.size := ⟨min s.size 600, by omega, by omega, by omega⟩
  obtain ⟨U, hU, hUz⟩ : ∃ U, s.extract 0 m = U ∧ U.size ≤ 600 := ⟨_, rfl, by rw [ByteArray.size_extract]; omega⟩
  cases x with
  | false =>
    rcases ofCases U hUz with h | ⟨n, h⟩
    · exact deviceOf_fb s U k m hm hm2 hm3 hU hUz h w
    · exact deviceOf_fg s U k m hm hm2 hm3 hU hUz n h w
  | true =>
    obtain ⟨N, hN, hN2⟩ : ∃ N : Nat, 64 * (k % 9) = (N : Int) ∧ N ≤ 512 := ⟨(64 * (k % 9)).toNat, by omega, by omega⟩
    obtain ⟨T, hT, hTz⟩ : ∃ T, (U ++ zeros 600).extract 0 N = T ∧ T.size ≤ 600 := ⟨_, rfl, by rw [ByteArray.size_extract]; omega⟩
    rcases ofCases T hTz with h | ⟨n, h⟩
    · exact deviceOf_tb s U T k N hk m hm hm2 hm3 hU hUz hN hN2 hT hTz h w
    · exact deviceOf_tg s U T k N hk m hm hm2 hm3 hU hUz hN hN2 hT hTz n h w
end Go.Proofs.Ytlbnbmojgdoieaa
