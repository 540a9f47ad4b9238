/- DeviceBounds: its walk. -/
import Derived.Test.YtlbnbmojgdoieaaDevE
import Derived.OpenShut
set_option maxRecDepth 16000
namespace Go.Proofs.Ytlbnbmojgdoieaa
open Go.RowKit Go.Pin
set_option linter.unusedVariables false
set_option linter.unusedSimpArgs false

end Go.Proofs.Ytlbnbmojgdoieaa
namespace Go.Pin
open Go.RowKit
theorem dimage_size {d : Dv} (h : d.ok) : (dimage d).size = d.n * 64 := by
  show (dimgL d d.n).toArray.size = _
  rw [List.size_toArray, dimgL_len h]
theorem dwait_none {d : Dv} (h : ∀ i, d.w i = false) : (dwaiting d).length = 0 := by
  unfold dwaiting
  rw [List.filter_eq_nil_iff.2 (fun i _ => by rw [h i]; simp)]; rfl
theorem dwait_one {d : Dv} {k : Nat} (hk : k < d.n) (h : ∀ i, d.w i = if i = k then true else false) : (dwaiting d).length = 1 := by
  unfold dwaiting
  have : (List.range d.n).filter d.w = [k] := by
    have hp : List.Perm ((List.range d.n).filter d.w) [k] := by
      rw [List.perm_ext_iff_of_nodup (List.nodup_range.filter _) (by simp)]
      intro i
      simp only [List.mem_filter, List.mem_range, h, List.mem_singleton]
      constructor
      · rintro ⟨_, q⟩
        by_cases e : i = k
        · exact e
        · rw [if_neg e] at q; cases q
      · rintro rfl; exact ⟨hk, by simp⟩
    exact List.perm_singleton.1 hp
  rw [this]; rfl
end Go.Pin
namespace Go.Proofs.Ytlbnbmojgdoieaa
open Go.RowKit Go.Pin
set_option linter.unusedVariables false
set_option linter.unusedSimpArgs false
set_option maxHeartbeats 3200000 in
theorem deviceBounds_low (n k : Int) (K : Nat) (s : ByteArray) (hn : 0 ≤ n ∧ n ≤ 255) (hK : 1 + n % 40 = (K : Int)) (hs : s.size ≤ 140737488351232) (hk : -9223372036854775808 ≤ k ∧ k ≤ 9223372036854775807) (h : k < 0) (w : World) :
    Calls Try.prog 3 #[.int .u8 n, .int .i64 k, .string s] w fun e w' => e = .returned (.bool true) ∧ Below w.heap.size w w' := by
  obtain ⟨hn0, hn1⟩ := hn
  obtain ⟨hk0, hk1⟩ := hk
  have hK1 : 1 ≤ K := by omega
  have hK2 : K ≤ 40 := by omega
  have nK : (dnew K).n = K := dnew_n K
  have okK := dnew_ok K hK1 (by omega)
  have HIz := Aside.mk (show (dimage (dnew K)).size = K * 64 by rw [dimage_size okK, nK])
  have HN := Aside.mk (show ((dnew K).n : Int) = (K : Int) by rw [nK])
  have HW := Aside.mk (show (dwaiting (dnew K)).length = 0 from dwait_none fun i => getD_rep _ _ _)
  have HR := Aside.mk (show dref (dnew K) k = 5 by unfold dref; rw [if_neg (by simp [dnew]), if_pos (.inl h)])
  have NK := Aside.mk nK
  have OKK := Aside.mk okK
  clear nK okK
  have hb := Below.refl w.heap.size w
  have hse := str_beq
  go_enter Try.func3, Try.ntmps3
  go_wp2_with fail
  with_reducible refine (dev_examples _).mono ?_
  rintro e w1 ⟨rfl, hbb⟩
  replace hb := Below.next hb hbb
  clear hbb
  go_wp2_with fail
  with_reducible refine (dev_new' _ K rfl hK1 (by omega) _).mono ?_
  rintro e w2 ⟨bA, fA, mA, rfl, hbA, hfA, hmA, dA, hbb⟩
  replace hbA := Nat.le_trans hb.size hbA
  replace hfA := Nat.le_trans hb.size hfA
  replace hmA := Nat.le_trans hb.size hmA
  replace hb := Below.next hb hbb
  clear hbb
  clear hK
  go_wp2_with fail
  with_reducible refine (dev_write_err bA fA mA _ k s 5 (dwrite_ref HR.out (by decide)) ⟨hk0, hk1⟩ (by omega) _ dA).mono ?_
  rintro e w3 ⟨rfl, qA, hkk⟩
  replace hb := Below.dev hb hkk hb.size hbA hfA hmA
  clear dA hkk
  have dA := qA
  clear qA
  go_wp2_with fail
  with_reducible refine (dev_read' bA fA mA _ k ⟨hk0, hk1⟩ ⟨#[]⟩ 5 (dread_ref HR.out (by decide)) _ dA).mono ?_
  rintro e w4 ⟨rfl, hbb⟩
  replace dA := dA.below hbb
  replace hb := Below.next hb hbb
  clear hbb
  go_wp2_with fail
  with_reducible refine (dev_waiting' bA fA mA _ 0 HW.out _ dA).mono ?_
  rintro e w5 ⟨aw5, cw5, rfl, hbb⟩
  replace dA := dA.below hbb
  replace hb := Below.next hb hbb
  clear hbb
  go_wp2_with fail
  with_reducible refine (dev_sectors' bA fA mA _ (K : Int) HN.out _ dA).mono ?_
  rintro e w' ⟨rfl, rfl⟩
  obtain ⟨I, hI⟩ : ∃ I, dimage (dnew K) = I := ⟨_, rfl⟩
  have hIz := HIz.out
  rw [hI] at hIz
  have hbI : ((I.size : Int) == 64 * (K : Int)) = true := by rw [beq_iff_eq]; omega
  have HI := Aside.mk hI
  have hIz2 : I.size ≤ 2560 := by omega
  clear hI hIz
  go_wp2_with fail
  with_reducible refine (dev_image' bA fA mA _ I HI.out _ dA).mono ?_
  rintro e w6 ⟨rfl, hbb⟩
  replace dA := dA.below hbb
  replace hb := Below.next hb hbb
  clear hbb
  go_wp2_with fail
  go_ret
  exact ⟨rfl, hb⟩
set_option maxHeartbeats 3200000 in
theorem deviceBounds_high (n k : Int) (K : Nat) (s : ByteArray) (hn : 0 ≤ n ∧ n ≤ 255) (hK : 1 + n % 40 = (K : Int)) (hs : s.size ≤ 140737488351232) (hk : -9223372036854775808 ≤ k ∧ k ≤ 9223372036854775807) (A : Nat) (h : 0 ≤ k) (hA : k % 50 = (A : Int)) (hAK : K ≤ A) (w : World) :
    Calls Try.prog 3 #[.int .u8 n, .int .i64 k, .string s] w fun e w' => e = .returned (.bool true) ∧ Below w.heap.size w w' := by
  obtain ⟨hn0, hn1⟩ := hn
  obtain ⟨hk0, hk1⟩ := hk
  have hK1 : 1 ≤ K := by omega
  have hK2 : K ≤ 40 := by omega
  have nK : (dnew K).n = K := dnew_n K
  have okK := dnew_ok K hK1 (by omega)
  have HIz := Aside.mk (show (dimage (dnew K)).size = K * 64 by rw [dimage_size okK, nK])
  have HN := Aside.mk (show ((dnew K).n : Int) = (K : Int) by rw [nK])
  have HW := Aside.mk (show (dwaiting (dnew K)).length = 0 from dwait_none fun i => getD_rep _ _ _)
  have hA50 : A < 50 := by omega
  have hAKi : (K : Int) ≤ (A : Int) := by omega
  have hdd : decide (A < K) = false := by simpa using hAK
  have HR := Aside.mk (show dref (dnew K) (A : Int) = 5 by unfold dref; rw [if_neg (by simp [dnew]), if_pos (.inr (by rw [nK]; omega))])
  have NK := Aside.mk nK
  have OKK := Aside.mk okK
  clear nK okK
  have hb := Below.refl w.heap.size w
  have hse := str_beq
  go_enter Try.func3, Try.ntmps3
  go_wp2_with fail
  with_reducible refine (dev_examples _).mono ?_
  rintro e w1 ⟨rfl, hbb⟩
  replace hb := Below.next hb hbb
  clear hbb
  go_wp2_with fail
  with_reducible refine (dev_new' _ K rfl hK1 (by omega) _).mono ?_
  rintro e w2 ⟨bA, fA, mA, rfl, hbA, hfA, hmA, dA, hbb⟩
  replace hbA := Nat.le_trans hb.size hbA
  replace hfA := Nat.le_trans hb.size hfA
  replace hmA := Nat.le_trans hb.size hmA
  replace hb := Below.next hb hbb
  clear hbb
  clear hK
  go_wp2_with fail
  with_reducible refine (dev_write_err bA fA mA _ (A : Int) s 5 (dwrite_ref HR.out (by decide)) (by omega) (by omega) _ dA).mono ?_
  rintro e w3 ⟨rfl, qA, hkk⟩
  replace hb := Below.dev hb hkk hb.size hbA hfA hmA
  clear dA hkk
  have dA := qA
  clear qA
  go_wp2_with fail
  with_reducible refine (dev_read' bA fA mA _ (A : Int) (by omega) ⟨#[]⟩ 5 (dread_ref HR.out (by decide)) _ dA).mono ?_
  rintro e w4 ⟨rfl, hbb⟩
  replace dA := dA.below hbb
  replace hb := Below.next hb hbb
  clear hbb
  go_wp2_with fail
  with_reducible refine (dev_waiting' bA fA mA _ 0 HW.out _ dA).mono ?_
  rintro e w5 ⟨aw5, cw5, rfl, hbb⟩
  replace dA := dA.below hbb
  replace hb := Below.next hb hbb
  clear hbb
  go_wp2_with fail
  with_reducible refine (dev_sectors' bA fA mA _ (K : Int) HN.out _ dA).mono ?_
  rintro e w' ⟨rfl, rfl⟩
  obtain ⟨I, hI⟩ : ∃ I, dimage (dnew K) = I := ⟨_, rfl⟩
  have hIz := HIz.out
  rw [hI] at hIz
  have hbI : ((I.size : Int) == 64 * (K : Int)) = true := by rw [beq_iff_eq]; omega
  have HI := Aside.mk hI
  have hIz2 : I.size ≤ 2560 := by omega
  clear hI hIz
  go_wp2_with fail
  with_reducible refine (dev_image' bA fA mA _ I HI.out _ dA).mono ?_
  rintro e w6 ⟨rfl, hbb⟩
  replace dA := dA.below hbb
  replace hb := Below.next hb hbb
  clear hbb
  go_wp2_with fail
  go_ret
  exact ⟨rfl, hb⟩
set_option maxHeartbeats 3200000 in
theorem deviceBounds_long (n k : Int) (K : Nat) (s : ByteArray) (hn : 0 ≤ n ∧ n ≤ 255) (hK : 1 + n % 40 = (K : Int)) (hs : s.size ≤ 140737488351232) (hk : -9223372036854775808 ≤ k ∧ k ≤ 9223372036854775807) (A : Nat) (h : 0 ≤ k) (hA : k % 50 = (A : Int)) (hAK : A < K) (hlong : 64 < s.size) (w : World) :
    Calls Try.prog 3 #[.int .u8 n, .int .i64 k, .string s] w fun e w' => e = .returned (.bool true) ∧ Below w.heap.size w w' := by
  obtain ⟨hn0, hn1⟩ := hn
  obtain ⟨hk0, hk1⟩ := hk
  have hK1 : 1 ≤ K := by omega
  have hK2 : K ≤ 40 := by omega
  have nK : (dnew K).n = K := dnew_n K
  have okK := dnew_ok K hK1 (by omega)
  have HIz := Aside.mk (show (dimage (dnew K)).size = K * 64 by rw [dimage_size okK, nK])
  have HN := Aside.mk (show ((dnew K).n : Int) = (K : Int) by rw [nK])
  have HW := Aside.mk (show (dwaiting (dnew K)).length = 0 from dwait_none fun i => getD_rep _ _ _)
  have hAKi : (A : Int) < (K : Int) := by omega
  have HR := Aside.mk (show dwrite (dnew K) (A : Int) s = (3, dnew K) by unfold dwrite; rw [(live_new K).ref (by rw [nK]; exact hAK), if_neg (by simp), if_pos hlong])
  have NK := Aside.mk nK
  have OKK := Aside.mk okK
  clear nK okK
  have hb := Below.refl w.heap.size w
  have hse := str_beq
  go_enter Try.func3, Try.ntmps3
  go_wp2_with fail
  with_reducible refine (dev_examples _).mono ?_
  rintro e w1 ⟨rfl, hbb⟩
  replace hb := Below.next hb hbb
  clear hbb
  go_wp2_with fail
  with_reducible refine (dev_new' _ K rfl hK1 (by omega) _).mono ?_
  rintro e w2 ⟨bA, fA, mA, rfl, hbA, hfA, hmA, dA, hbb⟩
  replace hbA := Nat.le_trans hb.size hbA
  replace hfA := Nat.le_trans hb.size hfA
  replace hmA := Nat.le_trans hb.size hmA
  replace hb := Below.next hb hbb
  clear hbb
  clear hK
  go_wp2_with fail
  with_reducible refine (dev_write_err bA fA mA _ (A : Int) s 3 HR.out (by omega) (by omega) _ dA).mono ?_
  rintro e w3 ⟨rfl, qA, hkk⟩
  replace hb := Below.dev hb hkk hb.size hbA hfA hmA
  clear dA hkk
  have dA := qA
  clear qA
  go_wp2_with fail
  with_reducible refine (dev_read_ok bA fA mA _ (A : Int) A rfl (by rw [NK.out]; exact hAK) (live_new K) _ dA).mono ?_
  rintro e w4 ⟨rfl, hbb⟩
  replace dA := dA.below hbb
  replace hb := Below.next hb hbb
  clear hbb
  go_wp2_with fail
  with_reducible refine (dev_waiting' bA fA mA _ 0 HW.out _ dA).mono ?_
  rintro e w5 ⟨aw5, cw5, rfl, hbb⟩
  replace dA := dA.below hbb
  replace hb := Below.next hb hbb
  clear hbb
  go_wp2_with fail
  with_reducible refine (dev_sectors' bA fA mA _ (K : Int) HN.out _ dA).mono ?_
  rintro e w' ⟨rfl, rfl⟩
  obtain ⟨I, hI⟩ : ∃ I, dimage (dnew K) = I := ⟨_, rfl⟩
  have hIz := HIz.out
  rw [hI] at hIz
  have hbI : ((I.size : Int) == 64 * (K : Int)) = true := by rw [beq_iff_eq]; omega
  have HI := Aside.mk hI
  have hIz2 : I.size ≤ 2560 := by omega
  clear hI hIz
  go_wp2_with fail
  with_reducible refine (dev_image' bA fA mA _ I HI.out _ dA).mono ?_
  rintro e w6 ⟨rfl, hbb⟩
  replace dA := dA.below hbb
  replace hb := Below.next hb hbb
  clear hbb
  go_wp2_with fail
  go_ret
  exact ⟨rfl, hb⟩
set_option maxHeartbeats 3200000 in
theorem deviceBounds_ok (n k : Int) (K : Nat) (s : ByteArray) (hn : 0 ≤ n ∧ n ≤ 255) (hK : 1 + n % 40 = (K : Int)) (hs : s.size ≤ 140737488351232) (hk : -9223372036854775808 ≤ k ∧ k ≤ 9223372036854775807) (A : Nat) (h : 0 ≤ k) (hA : k % 50 = (A : Int)) (hAK : A < K) (hshort : s.size ≤ 64) (w : World) :
    Calls Try.prog 3 #[.int .u8 n, .int .i64 k, .string s] w fun e w' => e = .returned (.bool true) ∧ Below w.heap.size w w' := by
  obtain ⟨hn0, hn1⟩ := hn
  obtain ⟨hk0, hk1⟩ := hk
  have hK1 : 1 ≤ K := by omega
  have hK2 : K ≤ 40 := by omega
  have nK : (dnew K).n = K := dnew_n K
  have okK := dnew_ok K hK1 (by omega)
  have okD := dset_ok okK (k := A) (by rw [nK]; exact hAK) hshort
  have HIz := Aside.mk (show (dimage (dset A s (dnew K))).size = K * 64 by rw [dimage_size okD, dset_n, nK])
  have HN := Aside.mk (show ((dset A s (dnew K)).n : Int) = (K : Int) by rw [dset_n, nK])
  have HW := Aside.mk (show (dwaiting (dset A s (dnew K))).length = 1 from dwait_one (k := A) (by rw [dset_n, nK]; exact hAK) fun i => by rw [dset_w okK (by rw [nK]; exact hAK)]; by_cases e : i = A; rw [if_pos e, if_pos e]; rw [if_neg e, if_neg e]; exact getD_rep _ _ _)
  have hAKi : (A : Int) < (K : Int) := by omega
  clear okD
  have NK := Aside.mk nK
  have OKK := Aside.mk okK
  clear nK okK
  have hb := Below.refl w.heap.size w
  have hse := str_beq
  go_enter Try.func3, Try.ntmps3
  go_wp2_with fail
  with_reducible refine (dev_examples _).mono ?_
  rintro e w1 ⟨rfl, hbb⟩
  replace hb := Below.next hb hbb
  clear hbb
  go_wp2_with fail
  with_reducible refine (dev_new' _ K rfl hK1 (by omega) _).mono ?_
  rintro e w2 ⟨bA, fA, mA, rfl, hbA, hfA, hmA, dA, hbb⟩
  replace hbA := Nat.le_trans hb.size hbA
  replace hfA := Nat.le_trans hb.size hfA
  replace hmA := Nat.le_trans hb.size hmA
  replace hb := Below.next hb hbb
  clear hbb
  clear hK
  go_wp2_with fail
  with_reducible refine (dev_write_ok bA fA mA _ (A : Int) A rfl (by rw [NK.out]; exact hAK) s hshort (live_new K) _ dA).mono ?_
  rintro e w3 ⟨rfl, qA, hkk⟩
  replace hb := Below.dev hb hkk hb.size hbA hfA hmA
  clear dA hkk
  have dA := qA
  clear qA
  go_wp2_with fail
  with_reducible refine (dev_read_ok bA fA mA _ (A : Int) A rfl (by rw [dset_n, NK.out]; exact hAK) ((live_new K).set _ _) _ dA).mono ?_
  rintro e w4 ⟨rfl, hbb⟩
  replace dA := dA.below hbb
  replace hb := Below.next hb hbb
  clear hbb
  go_wp2_with fail
  with_reducible refine (dev_waiting' bA fA mA _ 1 HW.out _ dA).mono ?_
  rintro e w5 ⟨aw5, cw5, rfl, hbb⟩
  replace dA := dA.below hbb
  replace hb := Below.next hb hbb
  clear hbb
  go_wp2_with fail
  with_reducible refine (dev_sectors' bA fA mA _ (K : Int) HN.out _ dA).mono ?_
  rintro e w' ⟨rfl, rfl⟩
  obtain ⟨I, hI⟩ : ∃ I, dimage (dset A s (dnew K)) = I := ⟨_, rfl⟩
  have hIz := HIz.out
  rw [hI] at hIz
  have hbI : ((I.size : Int) == 64 * (K : Int)) = true := by rw [beq_iff_eq]; omega
  have HI := Aside.mk hI
  have hIz2 : I.size ≤ 2560 := by omega
  clear hI hIz
  go_wp2_with fail
  with_reducible refine (dev_image' bA fA mA _ I HI.out _ dA).mono ?_
  rintro e w6 ⟨rfl, hbb⟩
  replace dA := dA.below hbb
  replace hb := Below.next hb hbb
  clear hbb
  go_wp2_with fail
  go_ret
  exact ⟨rfl, hb⟩

theorem deviceBounds_walk (n k : Int) (s : ByteArray) (hn : 0 ≤ n ∧ n ≤ 255) (hk : -9223372036854775808 ≤ k ∧ k ≤ 9223372036854775807) (hs : s.size ≤ 140737488351232) (w : World) :
    Calls Try.prog 3 #[.int .u8 n, .int .i64 k, .string s] w fun e w' => e = .returned (.bool true) ∧ Below w.heap.size w w' := by
  obtain ⟨K, hK⟩ : ∃ K : Nat, 1 + n % 40 = (K : Int) := Int.eq_ofNat_of_zero_le (by omega)
  by_cases h : k < 0
  · exact deviceBounds_low n k K s hn hK hs hk h w
  · obtain ⟨A, hA⟩ : ∃ A : Nat, k % 50 = (A : Int) := Int.eq_ofNat_of_zero_le (by omega)
    by_cases hAK : A < K
    · by_cases hl : s.size ≤ 64
      · exact deviceBounds_ok n k K s hn hK hs hk A (by omega) hA hAK hl w
      · exact deviceBounds_long n k K s hn hK hs hk A (by omega) hA hAK (by omega) w
    · exact deviceBounds_high n k K s hn hK hs hk A (by omega) hA (by omega) w
end Go.Proofs.Ytlbnbmojgdoieaa
