/- DeviceImage: its walk. -/
import Derived.Test.YtlbnbmojgdoieaaDevE
import Derived.OpenShut
set_option maxRecDepth 16000
namespace Go.Proofs.Ytlbnbmojgdoieaa
open Go.RowKit Go.Pin
set_option linter.unusedVariables false
set_option linter.unusedSimpArgs false

end Go.Proofs.Ytlbnbmojgdoieaa
namespace Go.Pin
open Go.RowKit
theorem chunk0 (a b : ByteArray) (ha : a.size = 64) : chunk (a ++ b) 0 = a := by
  unfold chunk
  apply ByteArray.ext; apply Array.ext'
  have hl : a.data.toList.length = 64 := ha
  simp only [ByteArray.data_extract, ByteArray.data_append, Array.toList_extract, Array.toList_append, List.extract_eq_take_drop, Nat.mul_zero, List.drop_zero, Nat.zero_add, Nat.sub_zero]
  rw [List.take_append_of_le_length (by omega), List.take_of_length_le (by omega)]
theorem chunk1 (a b : ByteArray) (ha : a.size = 64) (hb : b.size = 64) : chunk (a ++ b) 1 = b := by
  unfold chunk
  apply ByteArray.ext; apply Array.ext'
  have hl : a.data.toList.length = 64 := ha
  have hl2 : b.data.toList.length = 64 := hb
  simp only [ByteArray.data_extract, ByteArray.data_append, Array.toList_extract, Array.toList_append, List.extract_eq_take_drop]
  rw [List.drop_append, List.drop_of_length_le (by omega), List.nil_append, hl]
  simp
  exact List.take_of_length_le (by omega)
theorem dimage_two {d : Dv} (hn : d.n = 2) : dimage d = d.s 0 ++ d.s 1 := by
  unfold dimage
  rw [hn, dimgL_succ, dimgL_succ]
  apply ByteArray.ext; apply Array.ext'
  simp [dimgL]
end Go.Pin
namespace Go.Proofs.Ytlbnbmojgdoieaa
open Go.RowKit Go.Pin
set_option linter.unusedVariables false
set_option linter.unusedSimpArgs false
set_option maxHeartbeats 3200000 in
theorem deviceImage_walk (s t u : ByteArray) (hs : s.size ≤ 140737488351232) (ht : t.size ≤ 140737488351232) (hu : u.size ≤ 140737488351232) (w : World) :
    Calls Try.prog 5 #[.string s, .string t, .string u] w fun e w' => e = .returned (.bool true) ∧ Below w.heap.size w w' := by
  obtain ⟨ms, hms, hms1, hms2⟩ : ∃ m : Nat, min (s.size : Int) 64 = (m : Int) ∧ m ≤ 64 ∧ m ≤ s.size := ⟨min s.size 64, by omega, by omega, by omega⟩
  obtain ⟨S, hcS, hzS⟩ : ∃ X, s.extract 0 ms = X ∧ X.size ≤ 64 := ⟨_, rfl, by rw [ByteArray.size_extract]; omega⟩
  obtain ⟨mt, hmt, hmt1, hmt2⟩ : ∃ m : Nat, min (t.size : Int) 64 = (m : Int) ∧ m ≤ 64 ∧ m ≤ t.size := ⟨min t.size 64, by omega, by omega, by omega⟩
  obtain ⟨T, hcT, hzT⟩ : ∃ X, t.extract 0 mt = X ∧ X.size ≤ 64 := ⟨_, rfl, by rw [ByteArray.size_extract]; omega⟩
  obtain ⟨mu, hmu, hmu1, hmu2⟩ : ∃ m : Nat, min (u.size : Int) 64 = (m : Int) ∧ m ≤ 64 ∧ m ≤ u.size := ⟨min u.size 64, by omega, by omega, by omega⟩
  obtain ⟨U, hcU, hzU⟩ : ∃ X, u.extract 0 mu = X ∧ X.size ≤ 64 := ⟨_, rfl, by rw [ByteArray.size_extract]; omega⟩
  have p1 := pad_size S hzS
  have p2 := pad_size T hzT
  have p3 := pad_size U hzU
  have ok2 := dnew_ok 2 (by omega) (by omega)
  have n2 : (dnew 2).n = 2 := dnew_n 2
  obtain ⟨D0, hD0⟩ : ∃ D, dset 0 S (dnew 2) = D := ⟨_, rfl⟩
  have ok3 : D0.ok := by rw [← hD0]; exact dset_ok ok2 (by rw [n2]; omega) hzS
  have nD0 : D0.n = 2 := by rw [← hD0]; exact n2
  obtain ⟨D, hD⟩ : ∃ D, dset 1 T D0 = D := ⟨_, rfl⟩
  have nD : D.n = 2 := by rw [← hD]; exact nD0
  have lD0 : Live D0 := by rw [← hD0]; exact (live_new 2).set _ _
  have lD : Live D := by rw [← hD]; exact lD0.set _ _
  have e0 : D.s 0 = pad S := by rw [← hD, dset_s ok3 (by rw [nD0]; omega), if_neg (by decide), ← hD0, dset_s ok2 (by rw [n2]; omega), if_pos rfl]
  have e1 : D.s 1 = pad T := by rw [← hD, dset_s ok3 (by rw [nD0]; omega), if_pos rfl]
  have hI : dimage D = pad S ++ pad T := by rw [dimage_two nD, e0, e1]
  obtain ⟨I, hIe⟩ : ∃ I, pad S ++ pad T = I := ⟨_, rfl⟩
  have hIz : I.size = 2 * 64 := by rw [← hIe, ByteArray.size_append, p1, p2]
  have okX := dofv_ok I 2 hIz (by omega) (by omega)
  have nX : (dofv I).n = 2 := by rw [dofv_n, hIz]
  obtain ⟨X, hX⟩ : ∃ X, dset 0 U (dofv I) = X := ⟨_, rfl⟩
  have nX1 : X.n = 2 := by rw [← hX]; exact nX
  have f0 : X.s 0 = pad U := by rw [← hX, dset_s okX (by rw [nX]; omega), if_pos rfl]
  have f1 : X.s 1 = pad T := by
    rw [← hX, dset_s okX (by rw [nX]; omega), if_neg (by decide)]
    show (dofv I).o 1 = _
    rw [dofv_o I 1 (by omega), ← hIe]; exact chunk1 _ _ p1 p2
  have hJ : dimage X = pad U ++ pad T := by rw [dimage_two nX1, f0, f1]
  have lX : Live X := by rw [← hX]; exact (live_of I).set _ _
  rw [hIe] at hI
  obtain ⟨J, hJe⟩ : ∃ J, pad U ++ pad T = J := ⟨_, rfl⟩
  rw [hJe] at hJ
  have HD0 := Aside.mk hD0
  have HD := Aside.mk hD
  have HX := Aside.mk hX
  have HI := Aside.mk hI
  have HJ := Aside.mk hJ
  have E0 := Aside.mk e0
  have F0 := Aside.mk f0
  have HIz := Aside.mk hIz
  have N2 := Aside.mk n2
  have ND0 := Aside.mk nD0
  have ND := Aside.mk nD
  have NX := Aside.mk nX
  have NX1 := Aside.mk nX1
  have zJ : J.size ≤ 128 := by rw [← hJe, ByteArray.size_append, p3, p2]; exact Nat.le_refl _
  have p1' := Nat.le_of_eq p1
  have p2' := Nat.le_of_eq p2
  have p3' := Nat.le_of_eq p3
  clear hD0 hD hX hI hJ e0 e1 f0 f1 hIz n2 nD0 nD nX nX1 okX ok2 ok3 p1 p2 p3
  have hb := Below.refl w.heap.size w
  have hse := str_beq
  go_enter Try.func5, Try.ntmps5
  go_wp2_with fail
  with_reducible refine (dev_examples _).mono ?_
  rintro e w1 ⟨rfl, hbb⟩
  replace hb := Below.next hb hbb
  clear hbb
  go_wp2_with fail
  clear hcS hcT hcU hms hmt hmu
  go_wp2_with fail
  with_reducible refine (dev_new' 2 2 rfl (by omega) (by omega) _).mono ?_
  rintro e w2 ⟨bA, fA, mA, rfl, hbA, hfA, hmA, dA, hbb⟩
  replace hbA := Nat.le_trans hb.size hbA
  replace hfA := Nat.le_trans hb.size hfA
  replace hmA := Nat.le_trans hb.size hmA
  replace hb := Below.next hb hbb
  clear hbb
  go_wp2_with fail
  with_reducible refine (dev_write_ok bA fA mA _ 0 0 rfl (by rw [N2.out]; omega) S hzS (live_new 2) _ dA).mono ?_
  rintro e w3 ⟨rfl, qA, hkk⟩
  replace hb := Below.dev hb hkk hb.size hbA hfA hmA
  clear dA hkk
  have dA := qA
  clear qA
  rw [HD0.out] at dA
  go_wp2_with fail
  with_reducible refine (dev_write_ok bA fA mA _ 1 1 rfl (by rw [ND0.out]; omega) T hzT lD0 _ dA).mono ?_
  rintro e w4 ⟨rfl, qA, hkk⟩
  replace hb := Below.dev hb hkk hb.size hbA hfA hmA
  clear dA hkk
  have dA := qA
  clear qA
  rw [HD.out] at dA
  go_wp2_with fail
  with_reducible refine (dev_image' bA fA mA _ I HI.out _ dA).mono ?_
  rintro e w5 ⟨rfl, hbb⟩
  replace dA := dA.below hbb
  replace hb := Below.next hb hbb
  clear hbb
  go_wp2_with fail
  with_reducible refine (dev_of' I 2 HIz.out (by omega) (by omega) _).mono ?_
  rintro e w6 ⟨bB, fB, mB, rfl, hbB, hfB, hmB, dB, hbb⟩
  have apAB := dA.apart hbB hfB hmB
  have apBA := apAB.symm
  replace dA := dA.below hbb
  replace hbB := Nat.le_trans hb.size hbB
  replace hfB := Nat.le_trans hb.size hfB
  replace hmB := Nat.le_trans hb.size hmB
  replace hb := Below.next hb hbb
  clear hbb
  go_wp2_with fail
  with_reducible refine (dev_write_ok bB fB mB _ 0 0 rfl (by rw [NX.out]; omega) U hzU (live_of I) _ dB).mono ?_
  rintro e w7 ⟨rfl, qB, hkk⟩
  replace dA := dA.keepA apAB hkk
  replace hb := Below.dev hb hkk hb.size hbB hfB hmB
  clear dB hkk
  have dB := qB
  clear qB
  rw [HX.out] at dB
  go_wp2_with fail
  with_reducible refine (dev_read_ok bA fA mA _ 0 0 rfl (by rw [ND.out]; omega) lD _ dA).mono ?_
  rintro e w8 ⟨rfl, hbb⟩
  replace dA := dA.below hbb
  replace dB := dB.below hbb
  replace hb := Below.next hb hbb
  clear hbb
  rw [E0.out]
  go_wp2_with fail
  with_reducible refine (dev_read_ok bB fB mB _ 0 0 rfl (by rw [NX1.out]; omega) lX _ dB).mono ?_
  rintro e w9 ⟨rfl, hbb⟩
  replace dA := dA.below hbb
  replace dB := dB.below hbb
  replace hb := Below.next hb hbb
  clear hbb
  rw [F0.out]
  generalize hPS : pad S = PS at *
  generalize hPT : pad T = PT at *
  generalize hPU : pad U = PU at *
  have HPS := Aside.mk hPS
  have HPT := Aside.mk hPT
  have HPU := Aside.mk hPU
  clear hPS hPT hPU
  go_wp2_with fail
  with_reducible refine (dev_image' bA fA mA _ I HI.out _ dA).mono ?_
  rintro e w10 ⟨rfl, hbb⟩
  replace dA := dA.below hbb
  replace dB := dB.below hbb
  replace hb := Below.next hb hbb
  clear hbb
  go_wp2_with fail
  with_reducible refine (law03_whole S hzS _).mono ?_
  rintro e w11 ⟨rfl, hbb⟩
  replace dA := dA.below hbb
  replace dB := dB.below hbb
  replace hb := Below.next hb hbb
  clear hbb
  rw [HPS.out]
  go_wp2_with fail
  with_reducible refine (law03_whole T hzT _).mono ?_
  rintro e w12 ⟨rfl, hbb⟩
  replace dA := dA.below hbb
  replace dB := dB.below hbb
  replace hb := Below.next hb hbb
  clear hbb
  rw [HPT.out]
  go_wp2_with fail
  with_reducible refine (law03_whole S hzS _).mono ?_
  rintro e w13 ⟨rfl, hbb⟩
  replace dA := dA.below hbb
  replace dB := dB.below hbb
  replace hb := Below.next hb hbb
  clear hbb
  rw [HPS.out]
  go_wp2_with fail
  with_reducible refine (law03_whole U hzU _).mono ?_
  rintro e w14 ⟨rfl, hbb⟩
  replace dA := dA.below hbb
  replace dB := dB.below hbb
  replace hb := Below.next hb hbb
  clear hbb
  rw [HPU.out]
  go_wp2_with fail
  with_reducible refine (dev_image' bB fB mB _ J HJ.out _ dB).mono ?_
  rintro e w15 ⟨rfl, hbb⟩
  replace dA := dA.below hbb
  replace dB := dB.below hbb
  replace hb := Below.next hb hbb
  clear hbb
  go_wp2_with fail
  with_reducible refine (law03_whole U hzU _).mono ?_
  rintro e w16 ⟨rfl, hbb⟩
  replace dA := dA.below hbb
  replace dB := dB.below hbb
  replace hb := Below.next hb hbb
  clear hbb
  rw [HPU.out]
  go_wp2_with fail
  with_reducible refine (law03_whole T hzT _).mono ?_
  rintro e w17 ⟨rfl, hbb⟩
  replace dA := dA.below hbb
  replace dB := dB.below hbb
  replace hb := Below.next hb hbb
  clear hbb
  rw [HPT.out]
  go_wp2_with fail
  go_ret
  exact ⟨rfl, hb⟩
end Go.Proofs.Ytlbnbmojgdoieaa
