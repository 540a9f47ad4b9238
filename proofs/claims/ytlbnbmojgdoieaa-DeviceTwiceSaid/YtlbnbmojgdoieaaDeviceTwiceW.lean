/- DeviceTwice: its walk. -/
import Derived.Test.YtlbnbmojgdoieaaDevE
import Derived.OpenShut
set_option maxRecDepth 16000
namespace Go.Proofs.Ytlbnbmojgdoieaa
open Go.RowKit Go.Pin
set_option linter.unusedVariables false
set_option linter.unusedSimpArgs false

set_option maxHeartbeats 3200000 in
theorem deviceTwice_walk (s t u : ByteArray) (hs : s.size ≤ 140737488351232) (ht : t.size ≤ 140737488351232) (hu : u.size ≤ 140737488351232) (w : World) :
    Calls Try.prog 6 #[.string s, .string t, .string u] w fun e w' => e = .returned (.bool true) ∧ Below w.heap.size w w' := by
  obtain ⟨ms, hms, hms1, hms2⟩ : ∃ m : Nat, min (s.size : Int) 64 = (m : Int) ∧ m ≤ 64 ∧ m ≤ s.size := ⟨min s.size 64, by omega, by omega, by omega⟩
  obtain ⟨S, hcS, hzS⟩ : ∃ X, s.extract 0 ms = X ∧ X.size ≤ 64 := ⟨_, rfl, by rw [ByteArray.size_extract]; omega⟩
  obtain ⟨mt, hmt, hmt1, hmt2⟩ : ∃ m : Nat, min (t.size : Int) 64 = (m : Int) ∧ m ≤ 64 ∧ m ≤ t.size := ⟨min t.size 64, by omega, by omega, by omega⟩
  obtain ⟨T, hcT, hzT⟩ : ∃ X, t.extract 0 mt = X ∧ X.size ≤ 64 := ⟨_, rfl, by rw [ByteArray.size_extract]; omega⟩
  obtain ⟨mu, hmu, hmu1, hmu2⟩ : ∃ m : Nat, min (u.size : Int) 64 = (m : Int) ∧ m ≤ 64 ∧ m ≤ u.size := ⟨min u.size 64, by omega, by omega, by omega⟩
  obtain ⟨U, hcU, hzU⟩ : ∃ X, u.extract 0 mu = X ∧ X.size ≤ 64 := ⟨_, rfl, by rw [ByteArray.size_extract]; omega⟩
  have ok1 := dnew_ok 1 (by omega) (by omega)
  have n1 : (dnew 1).n = 1 := dnew_n 1
  obtain ⟨D0, hD0⟩ : ∃ D, dset 0 S (dnew 1) = D := ⟨_, rfl⟩
  have ok0 : D0.ok := by rw [← hD0]; exact dset_ok ok1 (by rw [n1]; omega) hzS
  have nD0 : D0.n = 1 := by rw [← hD0]; exact n1
  have lD0 : Live D0 := by rw [← hD0]; exact (live_new 1).set _ _
  have s0 : D0.s 0 = pad S := by rw [← hD0, dset_s ok1 (by rw [n1]; omega), if_pos rfl]
  obtain ⟨D1, hD1⟩ : ∃ D, dsettle D0 = D := ⟨_, rfl⟩
  have okD1 : D1.ok := by rw [← hD1]; exact dsettle_ok ok0
  have nD1 : D1.n = 1 := by rw [← hD1, dsettle_n ok0]; exact nD0
  have lD1 : Live D1 := by rw [← hD1]; exact lD0.settle
  have o1 : D1.o 0 = pad S := by rw [← hD1]; exact s0
  obtain ⟨D2, hD2⟩ : ∃ D, dset 0 T D1 = D := ⟨_, rfl⟩
  have okD2 : D2.ok := by rw [← hD2]; exact dset_ok okD1 (by rw [nD1]; omega) hzT
  have nD2 : D2.n = 1 := by rw [← hD2]; exact nD1
  have lD2 : Live D2 := by rw [← hD2]; exact lD1.set _ _
  have o2 : D2.o 0 = pad S := by rw [← hD2]; exact o1
  obtain ⟨D, hD⟩ : ∃ D, dset 0 U D2 = D := ⟨_, rfl⟩
  have okD : D.ok := by rw [← hD]; exact dset_ok okD2 (by rw [nD2]; omega) hzU
  have nD : D.n = 1 := by rw [← hD]; exact nD2
  have lD : Live D := by rw [← hD]; exact lD2.set _ _
  have oD : D.o 0 = pad S := by rw [← hD]; exact o2
  have sD : D.s 0 = pad U := by rw [← hD, dset_s okD2 (by rw [nD2]; omega), if_pos rfl]
  have wD : D.w 0 = true := by rw [← hD, dset_w okD2 (by rw [nD2]; omega), if_pos rfl]
  have hW : (dwaiting D).length = 1 := by unfold dwaiting; rw [nD]; simp [List.range_succ, wD]
  have x0 : (dafter D []).s 0 = pad U := by rw [dafter_s, dafter_o D [] 0 (by omega)]; unfold aft; rw [if_neg (by simp), sD]
  have y0 : (dafter D [0, 0, 5, -1]).s 0 = pad S := by rw [dafter_s, dafter_o D _ 0 (by omega)]; unfold aft; rw [if_pos ⟨wD, by simp⟩, oD]
  have nX : (dafter D []).n = 1 := by rw [dafter_n, nD]
  have nY : (dafter D [0, 0, 5, -1]).n = 1 := by rw [dafter_n, nD]
  have HD0 := Aside.mk hD0
  have HD1 := Aside.mk hD1
  have HD2 := Aside.mk hD2
  have HD := Aside.mk hD
  have HW := Aside.mk hW
  have SD := Aside.mk sD
  have X0 := Aside.mk x0
  have Y0 := Aside.mk y0
  have N1 := Aside.mk n1
  have ND0 := Aside.mk nD0
  have ND1 := Aside.mk nD1
  have ND2 := Aside.mk nD2
  have ND := Aside.mk nD
  have NX := Aside.mk nX
  have NY := Aside.mk nY
  clear ok1 n1 hD0 ok0 nD0 s0 hD1 okD1 nD1 o1 hD2 okD2 nD2 o2 hD okD nD oD sD wD hW x0 y0 nX nY
  have hb := Below.refl w.heap.size w
  have hse := str_beq
  go_enter Try.func6, Try.ntmps6
  go_wp2_with fail
  with_reducible refine (dev_examples _).mono ?_
  rintro e w1 ⟨rfl, hbb⟩
  replace hb := Below.next hb hbb
  clear hbb
  go_wp2_with fail
  clear hcS hcT hcU hms hmt hmu
  go_wp2_with fail
  with_reducible refine (dev_new' 1 1 rfl (by omega) (by omega) _).mono ?_
  rintro e w2 ⟨bA, fA, mA, rfl, hbA, hfA, hmA, dA, hbb⟩
  replace hbA := Nat.le_trans hb.size hbA
  replace hfA := Nat.le_trans hb.size hfA
  replace hmA := Nat.le_trans hb.size hmA
  replace hb := Below.next hb hbb
  clear hbb
  go_wp2_with fail
  with_reducible refine (dev_write_ok bA fA mA _ 0 0 rfl (by rw [N1.out]; omega) S hzS (live_new 1) _ dA).mono ?_
  rintro e w3 ⟨rfl, qA, hkk⟩
  replace hb := Below.dev hb hkk hb.size hbA hfA hmA
  clear dA hkk
  have dA := qA
  clear qA
  rw [HD0.out] at dA
  go_wp2_with fail
  with_reducible refine (dev_flush_ok bA fA mA _ lD0 _ dA).mono ?_
  rintro e w4 ⟨rfl, qA, hkk⟩
  replace hb := Below.dev hb hkk hb.size hbA hfA hmA
  clear dA hkk
  have dA := qA
  clear qA
  rw [HD1.out] at dA
  go_wp2_with fail
  with_reducible refine (dev_write_ok bA fA mA _ 0 0 rfl (by rw [ND1.out]; omega) T hzT lD1 _ dA).mono ?_
  rintro e w5 ⟨rfl, qA, hkk⟩
  replace hb := Below.dev hb hkk hb.size hbA hfA hmA
  clear dA hkk
  have dA := qA
  clear qA
  rw [HD2.out] at dA
  go_wp2_with fail
  with_reducible refine (dev_write_ok bA fA mA _ 0 0 rfl (by rw [ND2.out]; omega) U hzU lD2 _ dA).mono ?_
  rintro e w6 ⟨rfl, qA, hkk⟩
  replace hb := Below.dev hb hkk hb.size hbA hfA hmA
  clear dA hkk
  have dA := qA
  clear qA
  rw [HD.out] at dA
  go_wp2_with fail
  with_reducible refine (dev_read_ok bA fA mA _ 0 0 rfl (by rw [ND.out]; omega) lD _ dA).mono ?_
  rintro e w7 ⟨rfl, hbb⟩
  replace dA := dA.below hbb
  replace hb := Below.next hb hbb
  clear hbb
  rw [SD.out]
  go_wp2_with fail
  with_reducible refine (dev_after' bA fA mA _ none 0 0 [] rfl _ dA (by decide) (slI_nil _ _)).mono ?_
  rintro e w8 ⟨bX, fX, mX, rfl, hbX, hfX, hmX, dX, hbb⟩
  have apAX := dA.apart hbX hfX hmX
  have apXA := apAX.symm
  replace dA := dA.below hbb
  replace hbX := Nat.le_trans hb.size hbX
  replace hfX := Nat.le_trans hb.size hfX
  replace hmX := Nat.le_trans hb.size hmX
  replace hb := Below.next hb hbb
  clear hbb
  go_wp2_with fail
  have hka : Keep (fun _ => False) w8 (w8.alloc (Obj.cells #[Value.int .i64 0, Value.int .i64 0, Value.int .i64 5, Value.int .i64 (-1)] 3)) := (Keep.refl _ _).alloc _
  replace dA := dA.keep hka ⟨id, id, id⟩
  replace dX := dX.keep hka ⟨id, id, id⟩
  replace hb := hb.alloc hb.size (Obj.cells #[Value.int .i64 0, Value.int .i64 0, Value.int .i64 5, Value.int .i64 (-1)] 3)
  have hsl : SlI (w8.alloc (Obj.cells #[Value.int .i64 0, Value.int .i64 0, Value.int .i64 5, Value.int .i64 (-1)] 3)) (some ⟨w8.heap.size, 0, none⟩) [0, 0, 5, -1] := fun _ => ⟨w8.heap.size, 0, rfl, fun i hi => by
    rw [Nat.zero_add, World.cell?_alloc_new]
    match i, hi with
    | 0, _ => rfl
    | 1, _ => rfl
    | 2, _ => rfl
    | 3, _ => rfl⟩
  clear hka
  generalize w8.alloc (Obj.cells #[Value.int .i64 0, Value.int .i64 0, Value.int .i64 5, Value.int .i64 (-1)] 3) = w9 at *
  go_wp2_with fail
  with_reducible refine (dev_after' bA fA mA _ _ 4 4 [0, 0, 5, -1] rfl _ dA (by decide) hsl).mono ?_
  rintro e w10 ⟨bY, fY, mY, rfl, hbY, hfY, hmY, dY, hbb⟩
  have apAY := dA.apart hbY hfY hmY
  have apYA := apAY.symm
  replace dA := dA.below hbb
  have apXY := dX.apart hbY hfY hmY
  have apYX := apXY.symm
  replace dX := dX.below hbb
  replace hbY := Nat.le_trans hb.size hbY
  replace hfY := Nat.le_trans hb.size hfY
  replace hmY := Nat.le_trans hb.size hmY
  replace hb := Below.next hb hbb
  clear hbb
  go_wp2_with fail
  with_reducible refine (dev_read_ok bX fX mX _ 0 0 rfl (by rw [NX.out]; omega) (live_after _ _) _ dX).mono ?_
  rintro e w11 ⟨rfl, hbb⟩
  replace dA := dA.below hbb
  replace dX := dX.below hbb
  replace dY := dY.below hbb
  replace hb := Below.next hb hbb
  clear hbb
  rw [X0.out]
  go_wp2_with fail
  with_reducible refine (dev_read_ok bY fY mY _ 0 0 rfl (by rw [NY.out]; omega) (live_after _ _) _ dY).mono ?_
  rintro e w12 ⟨rfl, hbb⟩
  replace dA := dA.below hbb
  replace dX := dX.below hbb
  replace dY := dY.below hbb
  replace hb := Below.next hb hbb
  clear hbb
  rw [Y0.out]
  go_wp2_with fail
  with_reducible refine (law03_whole U hzU _).mono ?_
  rintro e w13 ⟨rfl, hbb⟩
  replace dA := dA.below hbb
  replace dX := dX.below hbb
  replace dY := dY.below hbb
  replace hb := Below.next hb hbb
  clear hbb
  go_wp2_with fail
  with_reducible refine (law03_whole U hzU _).mono ?_
  rintro e w14 ⟨rfl, hbb⟩
  replace dA := dA.below hbb
  replace dX := dX.below hbb
  replace dY := dY.below hbb
  replace hb := Below.next hb hbb
  clear hbb
  go_wp2_with fail
  with_reducible refine (law03_whole S hzS _).mono ?_
  rintro e w15 ⟨rfl, hbb⟩
  replace dA := dA.below hbb
  replace dX := dX.below hbb
  replace dY := dY.below hbb
  replace hb := Below.next hb hbb
  clear hbb
  go_wp2_with fail
  with_reducible refine (dev_waiting' bA fA mA _ 1 HW.out _ dA).mono ?_
  rintro e w16 ⟨aw16, cw16, rfl, hbb⟩
  replace dA := dA.below hbb
  replace dX := dX.below hbb
  replace dY := dY.below hbb
  replace hb := Below.next hb hbb
  clear hbb
  go_wp2_with fail
  go_ret
  exact ⟨rfl, hb⟩
end Go.Proofs.Ytlbnbmojgdoieaa
