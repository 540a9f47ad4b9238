/- DeviceKeeps: its walk. -/
import Derived.Test.YtlbnbmojgdoieaaDevE
import Derived.OpenShut
set_option maxRecDepth 16000
namespace Go.Proofs.Ytlbnbmojgdoieaa
open Go.RowKit Go.Pin
set_option linter.unusedVariables false
set_option linter.unusedSimpArgs false

theorem owns_dev {a w : World} {N e n : Nat} {v : Value} {xs : List Value} {b f m : Nat} (h : a.ownsRow N e 1 v n xs) (hk : Keep (devS b f m) a w) (h1 : b < N) (h2 : f < N) (h3 : m < N) : w.ownsRow N e 1 v n xs := by
  refine ⟨h.1, ?_⟩
  rcases h.2 with hn | ⟨g, cap, cur, rfl, hb, hgg, rest⟩
  · exact .inl hn
  · refine .inr ⟨g, cap, cur, rfl, hb, ?_, rest⟩
    rw [hk.block g (Array.getElem?_eq_some_iff.1 hgg).1 (by rintro (q | q | q) <;> omega)]; exact hgg
theorem owns_below {a w : World} {N e n : Nat} {v : Value} {xs : List Value} (h : a.ownsRow N e 1 v n xs) (hk : Below a.heap.size a w) : w.ownsRow N e 1 v n xs := by
  refine ⟨h.1, ?_⟩
  rcases h.2 with hn | ⟨g, cap, cur, rfl, hb, hgg, rest⟩
  · exact .inl hn
  · refine .inr ⟨g, cap, cur, rfl, hb, ?_, rest⟩
    rw [hk.block g (Array.getElem?_eq_some_iff.1 hgg).1]; exact hgg
theorem dev_grown {a w : World} {N e n : Nat} {v : Value} {xs : List Value} {b f m : Nat} {d : Dv} (h : DevAt a b f m d) (ho : a.ownsRow N e 1 v n xs) (hg : a.grownBy w v.ownBlock) (h1 : b < N) (h2 : f < N) (h3 : m < N) : DevAt w b f m d :=
  h.keep (keep_of_grown hg) ⟨fun q => by have := (ho.lt _ q).1; omega, fun q => by have := (ho.lt _ q).1; omega, fun q => by have := (ho.lt _ q).1; omega⟩
theorem slI_owns {w : World} {N e : Nat} {v : Value} {xs : List Int} (h : w.ownsRow N e 1 v xs.length (xs.map (Value.int .i64))) : ∃ a c, v = .slice a xs.length c ∧ SlI w a xs := by
  obtain ⟨a, c, rfl, hp⟩ := owns_form h
  refine ⟨a, c, rfl, fun q => ?_⟩
  obtain ⟨g, cur, ha, _, _, hc⟩ := hp q
  refine ⟨g, 0, ha, fun i hi => ?_⟩
  rw [Nat.zero_add]
  refine hc i _ ?_
  rw [List.getElem?_map, List.getElem?_eq_getElem hi]
  simp [hi]
end Go.Proofs.Ytlbnbmojgdoieaa
namespace Go.Pin
theorem dafter_at {d : Dv} {lost : List Int} {i : Nat} (hi : i < d.n) : (dafter d lost).s i = aft d lost i := by rw [dafter_s, dafter_o d lost i hi]
end Go.Pin
namespace Go.Proofs.Ytlbnbmojgdoieaa
open Go.RowKit Go.Pin
set_option linter.unusedVariables false
set_option linter.unusedSimpArgs false
set_option maxHeartbeats 3200000 in
set_option maxRecDepth 32000 in
theorem deviceKeeps_000 (s t : ByteArray) (n : Int) (hn : 0 ≤ n) (hn2 : n ≤ 255) (g0 : (n % 2 == 1) = false) (g1 : (n / 2 % 2 == 1) = false) (g2 : (n / 4 % 2 == 1) = false) (w : World) :
    Calls Try.prog 7 #[.string s, .string t, .int .u8 n] w fun e w' => e = .returned (.bool true) ∧ Below w.heap.size w w' := by
  obtain ⟨ms, hms, hms1, hms2⟩ : ∃ m : Nat, min (s.size : Int) 64 = (m : Int) ∧ m ≤ 64 ∧ m ≤ s.size := ⟨min s.size 64, by omega, by omega, by omega⟩
  obtain ⟨S, hcS, hzS⟩ : ∃ X, s.extract 0 ms = X ∧ X.size ≤ 64 := ⟨_, rfl, by rw [ByteArray.size_extract]; omega⟩
  obtain ⟨mt, hmt, hmt1, hmt2⟩ : ∃ m : Nat, min (t.size : Int) 64 = (m : Int) ∧ m ≤ 64 ∧ m ≤ t.size := ⟨min t.size 64, by omega, by omega, by omega⟩
  obtain ⟨T, hcT, hzT⟩ : ∃ X, t.extract 0 mt = X ∧ X.size ≤ 64 := ⟨_, rfl, by rw [ByteArray.size_extract]; omega⟩
  have n3 : (dnew 3).n = 3 := dnew_n 3
  have ok3 := dnew_ok 3 (by omega) (by omega)
  obtain ⟨D1, hD1⟩ : ∃ D, dset 0 S (dnew 3) = D := ⟨_, rfl⟩
  have k1 : D1.ok := by rw [← hD1]; exact dset_ok ok3 (by rw [n3]; omega) hzS
  have m1 : D1.n = 3 := by rw [← hD1]; exact n3
  have l1 : Live D1 := by rw [← hD1]; exact (live_new 3).set _ _
  obtain ⟨D2, hD2⟩ : ∃ D, dset 1 S D1 = D := ⟨_, rfl⟩
  have k2 : D2.ok := by rw [← hD2]; exact dset_ok k1 (by rw [m1]; omega) hzS
  have m2 : D2.n = 3 := by rw [← hD2]; exact m1
  have l2 : Live D2 := by rw [← hD2]; exact l1.set _ _
  obtain ⟨D3, hD3⟩ : ∃ D, dset 2 S D2 = D := ⟨_, rfl⟩
  have k3 : D3.ok := by rw [← hD3]; exact dset_ok k2 (by rw [m2]; omega) hzS
  have m3 : D3.n = 3 := by rw [← hD3]; exact m2
  have l3 : Live D3 := by rw [← hD3]; exact l2.set _ _
  have s3 : ∀ i, i < 3 → D3.s i = pad S := fun i hi => by
    rw [← hD3, dset_s k2 (by rw [m2]; omega)]
    split
    · rfl
    · rw [← hD2, dset_s k1 (by rw [m1]; omega)]
      split
      · rfl
      · rw [← hD1, dset_s ok3 (by rw [n3]; omega), if_pos (by omega)]
  obtain ⟨D4, hD4⟩ : ∃ D, dsettle D3 = D := ⟨_, rfl⟩
  have k4 : D4.ok := by rw [← hD4]; exact dsettle_ok k3
  have m4 : D4.n = 3 := by rw [← hD4, dsettle_n k3]; exact m3
  have l4 : Live D4 := by rw [← hD4]; exact l3.settle
  have s4 : ∀ i, i < 3 → D4.s i = pad S := fun i hi => by rw [← hD4]; exact s3 i hi
  have o4 : ∀ i, i < 3 → D4.o i = pad S := fun i hi => by rw [← hD4]; exact s3 i hi
  have w4 : ∀ i, D4.w i = false := fun i => by rw [← hD4]; exact getD_rep _ _ _
  obtain ⟨D5, hD5⟩ : ∃ D, dset 0 T D4 = D := ⟨_, rfl⟩
  have k5 : D5.ok := by rw [← hD5]; exact dset_ok k4 (by rw [m4]; omega) hzT
  have m5 : D5.n = 3 := by rw [← hD5]; exact m4
  have l5 : Live D5 := by rw [← hD5]; exact l4.set _ _
  obtain ⟨D6, hD6⟩ : ∃ D, dset 1 T D5 = D := ⟨_, rfl⟩
  have m6 : D6.n = 3 := by rw [← hD6]; exact m5
  have e0 : D6.s 0 = pad T := by rw [← hD6, dset_s k5 (by rw [m5]; omega), if_neg (by decide), ← hD5, dset_s k4 (by rw [m4]; omega), if_pos rfl]
  have e1 : D6.s 1 = pad T := by rw [← hD6, dset_s k5 (by rw [m5]; omega), if_pos rfl]
  have e2 : D6.s 2 = pad S := by rw [← hD6, dset_s k5 (by rw [m5]; omega), if_neg (by decide), ← hD5, dset_s k4 (by rw [m4]; omega), if_neg (by decide), s4 2 (by omega)]
  have o0 : D6.o 0 = pad S := by rw [← hD6, ← hD5]; exact o4 0 (by omega)
  have o1 : D6.o 1 = pad S := by rw [← hD6, ← hD5]; exact o4 1 (by omega)
  have o2 : D6.o 2 = pad S := by rw [← hD6, ← hD5]; exact o4 2 (by omega)
  have v0 : D6.w 0 = true := by rw [← hD6, dset_w k5 (by rw [m5]; omega), if_neg (by decide), ← hD5, dset_w k4 (by rw [m4]; omega), if_pos rfl]
  have v1 : D6.w 1 = true := by rw [← hD6, dset_w k5 (by rw [m5]; omega), if_pos rfl]
  have nX : (dafter D6 []).n = 3 := by rw [dafter_n, m6]
  have x0 : (dafter D6 []).s 0 = pad T := by rw [dafter_at (by rw [m6]; omega)]; unfold aft; rw [if_neg (by simp)]; exact e0
  have X0 := Aside.mk x0
  have x1 : (dafter D6 []).s 1 = pad T := by rw [dafter_at (by rw [m6]; omega)]; unfold aft; rw [if_neg (by simp)]; exact e1
  have X1 := Aside.mk x1
  have x2 : (dafter D6 []).s 2 = pad S := by rw [dafter_at (by rw [m6]; omega)]; unfold aft; split; exact o2; exact e2
  have X2 := Aside.mk x2
  have HW := Aside.mk (show (dwaiting (dafter D6 [])).length = 0 from (by
    unfold dwaiting
    rw [List.filter_eq_nil_iff.2 (fun i _ => by rw [dafter_w]; simp)]; rfl))
  obtain ⟨DX, hDX⟩ : ∃ D, dafter D6 [] = D := ⟨_, rfl⟩
  have lX : Live DX := by rw [← hDX]; exact live_after _ _
  rw [hDX] at nX HW X0 X1 X2
  have HDX := Aside.mk hDX
  have HD1 := Aside.mk hD1
  have HD2 := Aside.mk hD2
  have HD3 := Aside.mk hD3
  have HD4 := Aside.mk hD4
  have HD5 := Aside.mk hD5
  have HD6 := Aside.mk hD6
  have N3 := Aside.mk n3
  have M1 := Aside.mk m1
  have M2 := Aside.mk m2
  have M3 := Aside.mk m3
  have M4 := Aside.mk m4
  have M5 := Aside.mk m5
  have M6 := Aside.mk m6
  have NX := Aside.mk nX
  clear n3 ok3 hD1 k1 m1 hD2 k2 m2 hD3 k3 m3 s3 hD4 k4 m4 s4 o4 w4 hD5 k5 m5 hD6 m6 e0 e1 e2 o0 o1 o2 v0 v1 nX x0 x1 x2 hDX
  obtain ⟨i0, hi, hz0, hzs, hzb⟩ := info_parts int_info
  have hb := Below.refl w.heap.size w
  have hse := str_beq
  go_enter Try.func7, Try.ntmps7
  go_wp2_with fail
  with_reducible refine (dev_examples _).mono ?_
  rintro e w1 ⟨rfl, hbb⟩
  replace hb := Below.next hb hbb
  clear hbb
  go_wp2_with fail
  clear hcS hcT hms hmt
  go_wp2_with fail
  with_reducible refine (dev_new' 3 3 rfl (by omega) (by omega) _).mono ?_
  rintro e w2 ⟨bA, fA, mA, rfl, hbA, hfA, hmA, dA, hbb⟩
  replace hbA := Nat.le_trans hb.size hbA
  replace hfA := Nat.le_trans hb.size hfA
  replace hmA := Nat.le_trans hb.size hmA
  replace hb := Below.next hb hbb
  clear hbb
  go_wp2_with fail
  obtain ⟨la, lf, lm⟩ := dA.lt
  have hown : w2.ownsRow w2.heap.size 3 1 (.slice none 0 0) ([] : List Int).length (([] : List Int).map (Value.int .i64)) := World.ownsRow_nil _ _ _ _
  generalize hN : w2.heap.size = N at *
  have hwN : w.heap.size ≤ N := by rw [← hN]; exact hb.size
  have hNs : N ≤ w2.heap.size := by rw [hN]; exact Nat.le_refl _
  clear hN
  refine wp_loop_rounds 4 ?_
  rw [rounds_succ]
  go_wp2_with fail
  with_reducible refine (dev_write_ok bA fA mA _ 0 0 rfl (by rw [N3.out]; omega) S hzS (live_new 3) _ dA).mono ?_
  rintro e w3 ⟨rfl, qA, hkk⟩
  replace hown := owns_dev hown hkk la lf lm
  replace hNs := Nat.le_trans hNs hkk.size
  replace hb := Below.dev hb hkk hb.size hbA hfA hmA
  clear dA hkk
  have dA := qA
  clear qA
  rw [HD1.out] at dA
  go_wp2_with fail
  rw [rounds_succ]
  go_wp2_with fail
  with_reducible refine (dev_write_ok bA fA mA _ 1 1 rfl (by rw [M1.out]; omega) S hzS l1 _ dA).mono ?_
  rintro e w4 ⟨rfl, qA, hkk⟩
  replace hown := owns_dev hown hkk la lf lm
  replace hNs := Nat.le_trans hNs hkk.size
  replace hb := Below.dev hb hkk hb.size hbA hfA hmA
  clear dA hkk
  have dA := qA
  clear qA
  rw [HD2.out] at dA
  go_wp2_with fail
  rw [rounds_succ]
  go_wp2_with fail
  with_reducible refine (dev_write_ok bA fA mA _ 2 2 rfl (by rw [M2.out]; omega) S hzS l2 _ dA).mono ?_
  rintro e w5 ⟨rfl, qA, hkk⟩
  replace hown := owns_dev hown hkk la lf lm
  replace hNs := Nat.le_trans hNs hkk.size
  replace hb := Below.dev hb hkk hb.size hbA hfA hmA
  clear dA hkk
  have dA := qA
  clear qA
  rw [HD3.out] at dA
  go_wp2_with fail
  rw [rounds_succ]
  go_wp2_with fail
  with_reducible refine (dev_flush_ok bA fA mA _ l3 _ dA).mono ?_
  rintro e w6 ⟨rfl, qA, hkk⟩
  replace hown := owns_dev hown hkk la lf lm
  replace hb := Below.dev hb hkk hb.size hbA hfA hmA
  clear dA hkk
  have dA := qA
  clear qA
  rw [HD4.out] at dA
  go_wp2_with fail
  with_reducible refine (dev_write_ok bA fA mA _ 0 0 rfl (by rw [M4.out]; omega) T hzT l4 _ dA).mono ?_
  rintro e w7 ⟨rfl, qA, hkk⟩
  replace hown := owns_dev hown hkk la lf lm
  replace hb := Below.dev hb hkk hb.size hbA hfA hmA
  clear dA hkk
  have dA := qA
  clear qA
  rw [HD5.out] at dA
  go_wp2_with fail
  with_reducible refine (dev_write_ok bA fA mA _ 1 1 rfl (by rw [M5.out]; omega) T hzT l5 _ dA).mono ?_
  rintro e w8 ⟨rfl, qA, hkk⟩
  replace hown := owns_dev hown hkk la lf lm
  replace hb := Below.dev hb hkk hb.size hbA hfA hmA
  clear dA hkk
  have dA := qA
  clear qA
  rw [HD6.out] at dA
  obtain ⟨aw, cw, hv, hsl⟩ := slI_owns hown
  obtain ⟨rfl, rfl⟩ : aw = none ∧ cw = 0 := by cases hv; exact ⟨rfl, rfl⟩
  clear hv
  clear hown
  go_wp2_with fail
  with_reducible refine (dev_after' bA fA mA _ none 0 0 [] rfl _ dA (by decide) (slI_nil _ _)).mono ?_
  rintro e w9 ⟨bX, fX, mX, rfl, hbX, hfX, hmX, dX, hbb⟩
  have apAX := dA.apart hbX hfX hmX
  have apXA := apAX.symm
  replace dA := dA.below hbb
  replace hbX := Nat.le_trans hb.size hbX
  replace hfX := Nat.le_trans hb.size hfX
  replace hmX := Nat.le_trans hb.size hmX
  replace hb := Below.next hb hbb
  clear hbb
  rw [HDX.out] at dX
  go_wp2_with fail
  refine wp_loop_rounds 4 ?_
  rw [rounds_succ]
  go_wp2_with fail
  with_reducible refine (law03_whole T hzT _).mono ?_
  rintro e w10 ⟨rfl, hbb⟩
  replace dA := dA.below hbb
  replace dX := dX.below hbb
  replace hb := Below.next hb hbb
  clear hbb
  go_wp2_with fail
  with_reducible refine (dev_read_ok bX fX mX _ 0 0 rfl (by rw [NX.out]; omega) lX _ dX).mono ?_
  rintro e w11 ⟨rfl, hbb⟩
  replace dA := dA.below hbb
  replace dX := dX.below hbb
  replace hb := Below.next hb hbb
  clear hbb
  rw [X0.out]
  go_wp2_with fail
  rw [rounds_succ]
  go_wp2_with fail
  with_reducible refine (law03_whole T hzT _).mono ?_
  rintro e w12 ⟨rfl, hbb⟩
  replace dA := dA.below hbb
  replace dX := dX.below hbb
  replace hb := Below.next hb hbb
  clear hbb
  go_wp2_with fail
  with_reducible refine (dev_read_ok bX fX mX _ 1 1 rfl (by rw [NX.out]; omega) lX _ dX).mono ?_
  rintro e w13 ⟨rfl, hbb⟩
  replace dA := dA.below hbb
  replace dX := dX.below hbb
  replace hb := Below.next hb hbb
  clear hbb
  rw [X1.out]
  go_wp2_with fail
  rw [rounds_succ]
  go_wp2_with fail
  with_reducible refine (law03_whole T hzT _).mono ?_
  rintro e w14 ⟨rfl, hbb⟩
  replace dA := dA.below hbb
  replace dX := dX.below hbb
  replace hb := Below.next hb hbb
  clear hbb
  go_wp2_with fail
  with_reducible refine (law03_whole S hzS _).mono ?_
  rintro e w15 ⟨rfl, hbb⟩
  replace dA := dA.below hbb
  replace dX := dX.below hbb
  replace hb := Below.next hb hbb
  clear hbb
  go_wp2_with fail
  with_reducible refine (dev_read_ok bX fX mX _ 2 2 rfl (by rw [NX.out]; omega) lX _ dX).mono ?_
  rintro e w16 ⟨rfl, hbb⟩
  replace dA := dA.below hbb
  replace dX := dX.below hbb
  replace hb := Below.next hb hbb
  clear hbb
  rw [X2.out]
  go_wp2_with fail
  rw [rounds_succ]
  go_wp2_with fail
  with_reducible refine (dev_waiting' bX fX mX _ 0 HW.out _ dX).mono ?_
  rintro e w17 ⟨aw17, cw17, rfl, hbb⟩
  replace dA := dA.below hbb
  replace dX := dX.below hbb
  replace hb := Below.next hb hbb
  clear hbb
  have cX := dX.c3
  have HdX := Aside.mk lX.dead
  go_wp2_with fail
  with_reducible refine (dev_crashed bX fX mX _ _ dX).mono ?_
  rintro e w' ⟨rfl, rfl⟩
  rw [HdX.out]
  go_wp2_with fail
  go_ret
  exact ⟨rfl, hb⟩
set_option maxHeartbeats 3200000 in
set_option maxRecDepth 32000 in
theorem deviceKeeps_100 (s t : ByteArray) (n : Int) (hn : 0 ≤ n) (hn2 : n ≤ 255) (g0 : (n % 2 == 1) = true) (g1 : (n / 2 % 2 == 1) = false) (g2 : (n / 4 % 2 == 1) = false) (w : World) :
    Calls Try.prog 7 #[.string s, .string t, .int .u8 n] w fun e w' => e = .returned (.bool true) ∧ Below w.heap.size w w' := by
  obtain ⟨ms, hms, hms1, hms2⟩ : ∃ m : Nat, min (s.size : Int) 64 = (m : Int) ∧ m ≤ 64 ∧ m ≤ s.size := ⟨min s.size 64, by omega, by omega, by omega⟩
  obtain ⟨S, hcS, hzS⟩ : ∃ X, s.extract 0 ms = X ∧ X.size ≤ 64 := ⟨_, rfl, by rw [ByteArray.size_extract]; omega⟩
  obtain ⟨mt, hmt, hmt1, hmt2⟩ : ∃ m : Nat, min (t.size : Int) 64 = (m : Int) ∧ m ≤ 64 ∧ m ≤ t.size := ⟨min t.size 64, by omega, by omega, by omega⟩
  obtain ⟨T, hcT, hzT⟩ : ∃ X, t.extract 0 mt = X ∧ X.size ≤ 64 := ⟨_, rfl, by rw [ByteArray.size_extract]; omega⟩
  have n3 : (dnew 3).n = 3 := dnew_n 3
  have ok3 := dnew_ok 3 (by omega) (by omega)
  obtain ⟨D1, hD1⟩ : ∃ D, dset 0 S (dnew 3) = D := ⟨_, rfl⟩
  have k1 : D1.ok := by rw [← hD1]; exact dset_ok ok3 (by rw [n3]; omega) hzS
  have m1 : D1.n = 3 := by rw [← hD1]; exact n3
  have l1 : Live D1 := by rw [← hD1]; exact (live_new 3).set _ _
  obtain ⟨D2, hD2⟩ : ∃ D, dset 1 S D1 = D := ⟨_, rfl⟩
  have k2 : D2.ok := by rw [← hD2]; exact dset_ok k1 (by rw [m1]; omega) hzS
  have m2 : D2.n = 3 := by rw [← hD2]; exact m1
  have l2 : Live D2 := by rw [← hD2]; exact l1.set _ _
  obtain ⟨D3, hD3⟩ : ∃ D, dset 2 S D2 = D := ⟨_, rfl⟩
  have k3 : D3.ok := by rw [← hD3]; exact dset_ok k2 (by rw [m2]; omega) hzS
  have m3 : D3.n = 3 := by rw [← hD3]; exact m2
  have l3 : Live D3 := by rw [← hD3]; exact l2.set _ _
  have s3 : ∀ i, i < 3 → D3.s i = pad S := fun i hi => by
    rw [← hD3, dset_s k2 (by rw [m2]; omega)]
    split
    · rfl
    · rw [← hD2, dset_s k1 (by rw [m1]; omega)]
      split
      · rfl
      · rw [← hD1, dset_s ok3 (by rw [n3]; omega), if_pos (by omega)]
  obtain ⟨D4, hD4⟩ : ∃ D, dsettle D3 = D := ⟨_, rfl⟩
  have k4 : D4.ok := by rw [← hD4]; exact dsettle_ok k3
  have m4 : D4.n = 3 := by rw [← hD4, dsettle_n k3]; exact m3
  have l4 : Live D4 := by rw [← hD4]; exact l3.settle
  have s4 : ∀ i, i < 3 → D4.s i = pad S := fun i hi => by rw [← hD4]; exact s3 i hi
  have o4 : ∀ i, i < 3 → D4.o i = pad S := fun i hi => by rw [← hD4]; exact s3 i hi
  have w4 : ∀ i, D4.w i = false := fun i => by rw [← hD4]; exact getD_rep _ _ _
  obtain ⟨D5, hD5⟩ : ∃ D, dset 0 T D4 = D := ⟨_, rfl⟩
  have k5 : D5.ok := by rw [← hD5]; exact dset_ok k4 (by rw [m4]; omega) hzT
  have m5 : D5.n = 3 := by rw [← hD5]; exact m4
  have l5 : Live D5 := by rw [← hD5]; exact l4.set _ _
  obtain ⟨D6, hD6⟩ : ∃ D, dset 1 T D5 = D := ⟨_, rfl⟩
  have m6 : D6.n = 3 := by rw [← hD6]; exact m5
  have e0 : D6.s 0 = pad T := by rw [← hD6, dset_s k5 (by rw [m5]; omega), if_neg (by decide), ← hD5, dset_s k4 (by rw [m4]; omega), if_pos rfl]
  have e1 : D6.s 1 = pad T := by rw [← hD6, dset_s k5 (by rw [m5]; omega), if_pos rfl]
  have e2 : D6.s 2 = pad S := by rw [← hD6, dset_s k5 (by rw [m5]; omega), if_neg (by decide), ← hD5, dset_s k4 (by rw [m4]; omega), if_neg (by decide), s4 2 (by omega)]
  have o0 : D6.o 0 = pad S := by rw [← hD6, ← hD5]; exact o4 0 (by omega)
  have o1 : D6.o 1 = pad S := by rw [← hD6, ← hD5]; exact o4 1 (by omega)
  have o2 : D6.o 2 = pad S := by rw [← hD6, ← hD5]; exact o4 2 (by omega)
  have v0 : D6.w 0 = true := by rw [← hD6, dset_w k5 (by rw [m5]; omega), if_neg (by decide), ← hD5, dset_w k4 (by rw [m4]; omega), if_pos rfl]
  have v1 : D6.w 1 = true := by rw [← hD6, dset_w k5 (by rw [m5]; omega), if_pos rfl]
  have nX : (dafter D6 [(0 : Int)]).n = 3 := by rw [dafter_n, m6]
  have x0 : (dafter D6 [(0 : Int)]).s 0 = pad S := by rw [dafter_at (by rw [m6]; omega)]; unfold aft; rw [if_pos ⟨v0, by simp⟩]; exact o0
  have X0 := Aside.mk x0
  have x1 : (dafter D6 [(0 : Int)]).s 1 = pad T := by rw [dafter_at (by rw [m6]; omega)]; unfold aft; rw [if_neg (by simp)]; exact e1
  have X1 := Aside.mk x1
  have x2 : (dafter D6 [(0 : Int)]).s 2 = pad S := by rw [dafter_at (by rw [m6]; omega)]; unfold aft; split; exact o2; exact e2
  have X2 := Aside.mk x2
  have HW := Aside.mk (show (dwaiting (dafter D6 [(0 : Int)])).length = 0 from (by
    unfold dwaiting
    rw [List.filter_eq_nil_iff.2 (fun i _ => by rw [dafter_w]; simp)]; rfl))
  obtain ⟨DX, hDX⟩ : ∃ D, dafter D6 [(0 : Int)] = D := ⟨_, rfl⟩
  have lX : Live DX := by rw [← hDX]; exact live_after _ _
  rw [hDX] at nX HW X0 X1 X2
  have HDX := Aside.mk hDX
  have HD1 := Aside.mk hD1
  have HD2 := Aside.mk hD2
  have HD3 := Aside.mk hD3
  have HD4 := Aside.mk hD4
  have HD5 := Aside.mk hD5
  have HD6 := Aside.mk hD6
  have N3 := Aside.mk n3
  have M1 := Aside.mk m1
  have M2 := Aside.mk m2
  have M3 := Aside.mk m3
  have M4 := Aside.mk m4
  have M5 := Aside.mk m5
  have M6 := Aside.mk m6
  have NX := Aside.mk nX
  clear n3 ok3 hD1 k1 m1 hD2 k2 m2 hD3 k3 m3 s3 hD4 k4 m4 s4 o4 w4 hD5 k5 m5 hD6 m6 e0 e1 e2 o0 o1 o2 v0 v1 nX x0 x1 x2 hDX
  obtain ⟨i0, hi, hz0, hzs, hzb⟩ := info_parts int_info
  have hb := Below.refl w.heap.size w
  have hse := str_beq
  go_enter Try.func7, Try.ntmps7
  go_wp2_with fail
  with_reducible refine (dev_examples _).mono ?_
  rintro e w1 ⟨rfl, hbb⟩
  replace hb := Below.next hb hbb
  clear hbb
  go_wp2_with fail
  clear hcS hcT hms hmt
  go_wp2_with fail
  with_reducible refine (dev_new' 3 3 rfl (by omega) (by omega) _).mono ?_
  rintro e w2 ⟨bA, fA, mA, rfl, hbA, hfA, hmA, dA, hbb⟩
  replace hbA := Nat.le_trans hb.size hbA
  replace hfA := Nat.le_trans hb.size hfA
  replace hmA := Nat.le_trans hb.size hmA
  replace hb := Below.next hb hbb
  clear hbb
  go_wp2_with fail
  obtain ⟨la, lf, lm⟩ := dA.lt
  have hown : w2.ownsRow w2.heap.size 3 1 (.slice none 0 0) ([] : List Int).length (([] : List Int).map (Value.int .i64)) := World.ownsRow_nil _ _ _ _
  generalize hN : w2.heap.size = N at *
  have hwN : w.heap.size ≤ N := by rw [← hN]; exact hb.size
  have hNs : N ≤ w2.heap.size := by rw [hN]; exact Nat.le_refl _
  clear hN
  refine wp_loop_rounds 4 ?_
  rw [rounds_succ]
  go_wp2_with fail
  with_reducible refine (dev_write_ok bA fA mA _ 0 0 rfl (by rw [N3.out]; omega) S hzS (live_new 3) _ dA).mono ?_
  rintro e w3 ⟨rfl, qA, hkk⟩
  replace hown := owns_dev hown hkk la lf lm
  replace hNs := Nat.le_trans hNs hkk.size
  replace hb := Below.dev hb hkk hb.size hbA hfA hmA
  clear dA hkk
  have dA := qA
  clear qA
  rw [HD1.out] at dA
  have hka : Keep (fun _ => False) w3 (w3.alloc (.cells #[.int .i64 0] 3)) := (Keep.refl _ _).alloc _
  go_wp2_with (at_builtin; refine wpList_append_own _ rfl _ _ 30 rfl N 3 i0 (.int .i64 0) 1 8 Try.underlying30 hi hz0 hzs hzb rfl (by decide) _ _ _ rfl (hown.alloc _) ⟨w3.heap.size, 0, none⟩ 1 1 [.int .i64 0] rfl rfl ?c1 ?c2 ?c3 ?c4 ?c5 ?_)
  all_goals first | (case c1 => intro j u hu; match j, hu with | 0, hu => cases hu; exact World.cell?_alloc_new _ _ _ 0) | skip
  all_goals first | (case c2 => intro u hu; rcases List.mem_singleton.1 hu with rfl; rfl) | (case c2 => rfl) | skip
  all_goals first | (case c3 => unfold maxLen; decide) | skip
  all_goals first | (case c4 => decide) | skip
  all_goals first | (case c5 => first | omega | (rw [World.size_alloc]; exact Nat.le_trans hNs (Nat.le_succ _))) | skip
  intro v0 w4 hown' hgrow _
  have hoa := hown.alloc (.cells #[.int .i64 0] 3)
  replace dA := dA.keep hka ⟨id, id, id⟩
  replace dA := dev_grown dA hoa hgrow la lf lm
  replace hb := (hb.alloc hb.size (.cells #[.int .i64 0] 3)).grown hgrow (by rw [World.size_alloc]; exact Nat.le_trans hb.size (Nat.le_succ _)) (fun k hk => Nat.le_trans hwN (hown.lt k hk).1)
  replace hNs := Nat.le_trans (Nat.le_trans hNs hka.size) hgrow.size
  clear hown hoa hgrow hka
  have hown : w4.ownsRow N 3 1 v0 ([(0 : Int)] : List Int).length (([(0 : Int)] : List Int).map (Value.int .i64)) := hown'
  clear hown'
  go_wp2_with fail
  rw [rounds_succ]
  go_wp2_with fail
  with_reducible refine (dev_write_ok bA fA mA _ 1 1 rfl (by rw [M1.out]; omega) S hzS l1 _ dA).mono ?_
  rintro e w5 ⟨rfl, qA, hkk⟩
  replace hown := owns_dev hown hkk la lf lm
  replace hNs := Nat.le_trans hNs hkk.size
  replace hb := Below.dev hb hkk hb.size hbA hfA hmA
  clear dA hkk
  have dA := qA
  clear qA
  rw [HD2.out] at dA
  go_wp2_with fail
  rw [rounds_succ]
  go_wp2_with fail
  with_reducible refine (dev_write_ok bA fA mA _ 2 2 rfl (by rw [M2.out]; omega) S hzS l2 _ dA).mono ?_
  rintro e w6 ⟨rfl, qA, hkk⟩
  replace hown := owns_dev hown hkk la lf lm
  replace hNs := Nat.le_trans hNs hkk.size
  replace hb := Below.dev hb hkk hb.size hbA hfA hmA
  clear dA hkk
  have dA := qA
  clear qA
  rw [HD3.out] at dA
  go_wp2_with fail
  rw [rounds_succ]
  go_wp2_with fail
  with_reducible refine (dev_flush_ok bA fA mA _ l3 _ dA).mono ?_
  rintro e w7 ⟨rfl, qA, hkk⟩
  replace hown := owns_dev hown hkk la lf lm
  replace hb := Below.dev hb hkk hb.size hbA hfA hmA
  clear dA hkk
  have dA := qA
  clear qA
  rw [HD4.out] at dA
  go_wp2_with fail
  with_reducible refine (dev_write_ok bA fA mA _ 0 0 rfl (by rw [M4.out]; omega) T hzT l4 _ dA).mono ?_
  rintro e w8 ⟨rfl, qA, hkk⟩
  replace hown := owns_dev hown hkk la lf lm
  replace hb := Below.dev hb hkk hb.size hbA hfA hmA
  clear dA hkk
  have dA := qA
  clear qA
  rw [HD5.out] at dA
  go_wp2_with fail
  with_reducible refine (dev_write_ok bA fA mA _ 1 1 rfl (by rw [M5.out]; omega) T hzT l5 _ dA).mono ?_
  rintro e w9 ⟨rfl, qA, hkk⟩
  replace hown := owns_dev hown hkk la lf lm
  replace hb := Below.dev hb hkk hb.size hbA hfA hmA
  clear dA hkk
  have dA := qA
  clear qA
  rw [HD6.out] at dA
  obtain ⟨aw, cw, hv, hsl⟩ := slI_owns hown
  subst hv
  clear hown
  go_wp2_with fail
  with_reducible refine (dev_after' bA fA mA _ aw 1 cw [(0 : Int)] rfl _ dA (by decide) hsl).mono ?_
  rintro e w10 ⟨bX, fX, mX, rfl, hbX, hfX, hmX, dX, hbb⟩
  have apAX := dA.apart hbX hfX hmX
  have apXA := apAX.symm
  replace dA := dA.below hbb
  replace hbX := Nat.le_trans hb.size hbX
  replace hfX := Nat.le_trans hb.size hfX
  replace hmX := Nat.le_trans hb.size hmX
  replace hb := Below.next hb hbb
  clear hbb
  rw [HDX.out] at dX
  go_wp2_with fail
  refine wp_loop_rounds 4 ?_
  rw [rounds_succ]
  go_wp2_with fail
  with_reducible refine (law03_whole T hzT _).mono ?_
  rintro e w11 ⟨rfl, hbb⟩
  replace dA := dA.below hbb
  replace dX := dX.below hbb
  replace hb := Below.next hb hbb
  clear hbb
  go_wp2_with fail
  with_reducible refine (law03_whole S hzS _).mono ?_
  rintro e w12 ⟨rfl, hbb⟩
  replace dA := dA.below hbb
  replace dX := dX.below hbb
  replace hb := Below.next hb hbb
  clear hbb
  go_wp2_with fail
  with_reducible refine (dev_read_ok bX fX mX _ 0 0 rfl (by rw [NX.out]; omega) lX _ dX).mono ?_
  rintro e w13 ⟨rfl, hbb⟩
  replace dA := dA.below hbb
  replace dX := dX.below hbb
  replace hb := Below.next hb hbb
  clear hbb
  rw [X0.out]
  go_wp2_with fail
  rw [rounds_succ]
  go_wp2_with fail
  with_reducible refine (law03_whole T hzT _).mono ?_
  rintro e w14 ⟨rfl, hbb⟩
  replace dA := dA.below hbb
  replace dX := dX.below hbb
  replace hb := Below.next hb hbb
  clear hbb
  go_wp2_with fail
  with_reducible refine (dev_read_ok bX fX mX _ 1 1 rfl (by rw [NX.out]; omega) lX _ dX).mono ?_
  rintro e w15 ⟨rfl, hbb⟩
  replace dA := dA.below hbb
  replace dX := dX.below hbb
  replace hb := Below.next hb hbb
  clear hbb
  rw [X1.out]
  go_wp2_with fail
  rw [rounds_succ]
  go_wp2_with fail
  with_reducible refine (law03_whole T hzT _).mono ?_
  rintro e w16 ⟨rfl, hbb⟩
  replace dA := dA.below hbb
  replace dX := dX.below hbb
  replace hb := Below.next hb hbb
  clear hbb
  go_wp2_with fail
  with_reducible refine (law03_whole S hzS _).mono ?_
  rintro e w17 ⟨rfl, hbb⟩
  replace dA := dA.below hbb
  replace dX := dX.below hbb
  replace hb := Below.next hb hbb
  clear hbb
  go_wp2_with fail
  with_reducible refine (dev_read_ok bX fX mX _ 2 2 rfl (by rw [NX.out]; omega) lX _ dX).mono ?_
  rintro e w18 ⟨rfl, hbb⟩
  replace dA := dA.below hbb
  replace dX := dX.below hbb
  replace hb := Below.next hb hbb
  clear hbb
  rw [X2.out]
  go_wp2_with fail
  rw [rounds_succ]
  go_wp2_with fail
  with_reducible refine (dev_waiting' bX fX mX _ 0 HW.out _ dX).mono ?_
  rintro e w19 ⟨aw19, cw19, rfl, hbb⟩
  replace dA := dA.below hbb
  replace dX := dX.below hbb
  replace hb := Below.next hb hbb
  clear hbb
  have cX := dX.c3
  have HdX := Aside.mk lX.dead
  go_wp2_with fail
  with_reducible refine (dev_crashed bX fX mX _ _ dX).mono ?_
  rintro e w' ⟨rfl, rfl⟩
  rw [HdX.out]
  go_wp2_with fail
  go_ret
  exact ⟨rfl, hb⟩
set_option maxHeartbeats 3200000 in
set_option maxRecDepth 32000 in
theorem deviceKeeps_010 (s t : ByteArray) (n : Int) (hn : 0 ≤ n) (hn2 : n ≤ 255) (g0 : (n % 2 == 1) = false) (g1 : (n / 2 % 2 == 1) = true) (g2 : (n / 4 % 2 == 1) = false) (w : World) :
    Calls Try.prog 7 #[.string s, .string t, .int .u8 n] w fun e w' => e = .returned (.bool true) ∧ Below w.heap.size w w' := by
  obtain ⟨ms, hms, hms1, hms2⟩ : ∃ m : Nat, min (s.size : Int) 64 = (m : Int) ∧ m ≤ 64 ∧ m ≤ s.size := ⟨min s.size 64, by omega, by omega, by omega⟩
  obtain ⟨S, hcS, hzS⟩ : ∃ X, s.extract 0 ms = X ∧ X.size ≤ 64 := ⟨_, rfl, by rw [ByteArray.size_extract]; omega⟩
  obtain ⟨mt, hmt, hmt1, hmt2⟩ : ∃ m : Nat, min (t.size : Int) 64 = (m : Int) ∧ m ≤ 64 ∧ m ≤ t.size := ⟨min t.size 64, by omega, by omega, by omega⟩
  obtain ⟨T, hcT, hzT⟩ : ∃ X, t.extract 0 mt = X ∧ X.size ≤ 64 := ⟨_, rfl, by rw [ByteArray.size_extract]; omega⟩
  have n3 : (dnew 3).n = 3 := dnew_n 3
  have ok3 := dnew_ok 3 (by omega) (by omega)
  obtain ⟨D1, hD1⟩ : ∃ D, dset 0 S (dnew 3) = D := ⟨_, rfl⟩
  have k1 : D1.ok := by rw [← hD1]; exact dset_ok ok3 (by rw [n3]; omega) hzS
  have m1 : D1.n = 3 := by rw [← hD1]; exact n3
  have l1 : Live D1 := by rw [← hD1]; exact (live_new 3).set _ _
  obtain ⟨D2, hD2⟩ : ∃ D, dset 1 S D1 = D := ⟨_, rfl⟩
  have k2 : D2.ok := by rw [← hD2]; exact dset_ok k1 (by rw [m1]; omega) hzS
  have m2 : D2.n = 3 := by rw [← hD2]; exact m1
  have l2 : Live D2 := by rw [← hD2]; exact l1.set _ _
  obtain ⟨D3, hD3⟩ : ∃ D, dset 2 S D2 = D := ⟨_, rfl⟩
  have k3 : D3.ok := by rw [← hD3]; exact dset_ok k2 (by rw [m2]; omega) hzS
  have m3 : D3.n = 3 := by rw [← hD3]; exact m2
  have l3 : Live D3 := by rw [← hD3]; exact l2.set _ _
  have s3 : ∀ i, i < 3 → D3.s i = pad S := fun i hi => by
    rw [← hD3, dset_s k2 (by rw [m2]; omega)]
    split
    · rfl
    · rw [← hD2, dset_s k1 (by rw [m1]; omega)]
      split
      · rfl
      · rw [← hD1, dset_s ok3 (by rw [n3]; omega), if_pos (by omega)]
  obtain ⟨D4, hD4⟩ : ∃ D, dsettle D3 = D := ⟨_, rfl⟩
  have k4 : D4.ok := by rw [← hD4]; exact dsettle_ok k3
  have m4 : D4.n = 3 := by rw [← hD4, dsettle_n k3]; exact m3
  have l4 : Live D4 := by rw [← hD4]; exact l3.settle
  have s4 : ∀ i, i < 3 → D4.s i = pad S := fun i hi => by rw [← hD4]; exact s3 i hi
  have o4 : ∀ i, i < 3 → D4.o i = pad S := fun i hi => by rw [← hD4]; exact s3 i hi
  have w4 : ∀ i, D4.w i = false := fun i => by rw [← hD4]; exact getD_rep _ _ _
  obtain ⟨D5, hD5⟩ : ∃ D, dset 0 T D4 = D := ⟨_, rfl⟩
  have k5 : D5.ok := by rw [← hD5]; exact dset_ok k4 (by rw [m4]; omega) hzT
  have m5 : D5.n = 3 := by rw [← hD5]; exact m4
  have l5 : Live D5 := by rw [← hD5]; exact l4.set _ _
  obtain ⟨D6, hD6⟩ : ∃ D, dset 1 T D5 = D := ⟨_, rfl⟩
  have m6 : D6.n = 3 := by rw [← hD6]; exact m5
  have e0 : D6.s 0 = pad T := by rw [← hD6, dset_s k5 (by rw [m5]; omega), if_neg (by decide), ← hD5, dset_s k4 (by rw [m4]; omega), if_pos rfl]
  have e1 : D6.s 1 = pad T := by rw [← hD6, dset_s k5 (by rw [m5]; omega), if_pos rfl]
  have e2 : D6.s 2 = pad S := by rw [← hD6, dset_s k5 (by rw [m5]; omega), if_neg (by decide), ← hD5, dset_s k4 (by rw [m4]; omega), if_neg (by decide), s4 2 (by omega)]
  have o0 : D6.o 0 = pad S := by rw [← hD6, ← hD5]; exact o4 0 (by omega)
  have o1 : D6.o 1 = pad S := by rw [← hD6, ← hD5]; exact o4 1 (by omega)
  have o2 : D6.o 2 = pad S := by rw [← hD6, ← hD5]; exact o4 2 (by omega)
  have v0 : D6.w 0 = true := by rw [← hD6, dset_w k5 (by rw [m5]; omega), if_neg (by decide), ← hD5, dset_w k4 (by rw [m4]; omega), if_pos rfl]
  have v1 : D6.w 1 = true := by rw [← hD6, dset_w k5 (by rw [m5]; omega), if_pos rfl]
  have nX : (dafter D6 [(1 : Int)]).n = 3 := by rw [dafter_n, m6]
  have x0 : (dafter D6 [(1 : Int)]).s 0 = pad T := by rw [dafter_at (by rw [m6]; omega)]; unfold aft; rw [if_neg (by simp)]; exact e0
  have X0 := Aside.mk x0
  have x1 : (dafter D6 [(1 : Int)]).s 1 = pad S := by rw [dafter_at (by rw [m6]; omega)]; unfold aft; rw [if_pos ⟨v1, by simp⟩]; exact o1
  have X1 := Aside.mk x1
  have x2 : (dafter D6 [(1 : Int)]).s 2 = pad S := by rw [dafter_at (by rw [m6]; omega)]; unfold aft; split; exact o2; exact e2
  have X2 := Aside.mk x2
  have HW := Aside.mk (show (dwaiting (dafter D6 [(1 : Int)])).length = 0 from (by
    unfold dwaiting
    rw [List.filter_eq_nil_iff.2 (fun i _ => by rw [dafter_w]; simp)]; rfl))
  obtain ⟨DX, hDX⟩ : ∃ D, dafter D6 [(1 : Int)] = D := ⟨_, rfl⟩
  have lX : Live DX := by rw [← hDX]; exact live_after _ _
  rw [hDX] at nX HW X0 X1 X2
  have HDX := Aside.mk hDX
  have HD1 := Aside.mk hD1
  have HD2 := Aside.mk hD2
  have HD3 := Aside.mk hD3
  have HD4 := Aside.mk hD4
  have HD5 := Aside.mk hD5
  have HD6 := Aside.mk hD6
  have N3 := Aside.mk n3
  have M1 := Aside.mk m1
  have M2 := Aside.mk m2
  have M3 := Aside.mk m3
  have M4 := Aside.mk m4
  have M5 := Aside.mk m5
  have M6 := Aside.mk m6
  have NX := Aside.mk nX
  clear n3 ok3 hD1 k1 m1 hD2 k2 m2 hD3 k3 m3 s3 hD4 k4 m4 s4 o4 w4 hD5 k5 m5 hD6 m6 e0 e1 e2 o0 o1 o2 v0 v1 nX x0 x1 x2 hDX
  obtain ⟨i0, hi, hz0, hzs, hzb⟩ := info_parts int_info
  have hb := Below.refl w.heap.size w
  have hse := str_beq
  go_enter Try.func7, Try.ntmps7
  go_wp2_with fail
  with_reducible refine (dev_examples _).mono ?_
  rintro e w1 ⟨rfl, hbb⟩
  replace hb := Below.next hb hbb
  clear hbb
  go_wp2_with fail
  clear hcS hcT hms hmt
  go_wp2_with fail
  with_reducible refine (dev_new' 3 3 rfl (by omega) (by omega) _).mono ?_
  rintro e w2 ⟨bA, fA, mA, rfl, hbA, hfA, hmA, dA, hbb⟩
  replace hbA := Nat.le_trans hb.size hbA
  replace hfA := Nat.le_trans hb.size hfA
  replace hmA := Nat.le_trans hb.size hmA
  replace hb := Below.next hb hbb
  clear hbb
  go_wp2_with fail
  obtain ⟨la, lf, lm⟩ := dA.lt
  have hown : w2.ownsRow w2.heap.size 3 1 (.slice none 0 0) ([] : List Int).length (([] : List Int).map (Value.int .i64)) := World.ownsRow_nil _ _ _ _
  generalize hN : w2.heap.size = N at *
  have hwN : w.heap.size ≤ N := by rw [← hN]; exact hb.size
  have hNs : N ≤ w2.heap.size := by rw [hN]; exact Nat.le_refl _
  clear hN
  refine wp_loop_rounds 4 ?_
  rw [rounds_succ]
  go_wp2_with fail
  with_reducible refine (dev_write_ok bA fA mA _ 0 0 rfl (by rw [N3.out]; omega) S hzS (live_new 3) _ dA).mono ?_
  rintro e w3 ⟨rfl, qA, hkk⟩
  replace hown := owns_dev hown hkk la lf lm
  replace hNs := Nat.le_trans hNs hkk.size
  replace hb := Below.dev hb hkk hb.size hbA hfA hmA
  clear dA hkk
  have dA := qA
  clear qA
  rw [HD1.out] at dA
  go_wp2_with fail
  rw [rounds_succ]
  go_wp2_with fail
  with_reducible refine (dev_write_ok bA fA mA _ 1 1 rfl (by rw [M1.out]; omega) S hzS l1 _ dA).mono ?_
  rintro e w4 ⟨rfl, qA, hkk⟩
  replace hown := owns_dev hown hkk la lf lm
  replace hNs := Nat.le_trans hNs hkk.size
  replace hb := Below.dev hb hkk hb.size hbA hfA hmA
  clear dA hkk
  have dA := qA
  clear qA
  rw [HD2.out] at dA
  have hka : Keep (fun _ => False) w4 (w4.alloc (.cells #[.int .i64 1] 3)) := (Keep.refl _ _).alloc _
  go_wp2_with (at_builtin; refine wpList_append_own _ rfl _ _ 30 rfl N 3 i0 (.int .i64 0) 1 8 Try.underlying30 hi hz0 hzs hzb rfl (by decide) _ _ _ rfl (hown.alloc _) ⟨w4.heap.size, 0, none⟩ 1 1 [.int .i64 1] rfl rfl ?c1 ?c2 ?c3 ?c4 ?c5 ?_)
  all_goals first | (case c1 => intro j u hu; match j, hu with | 0, hu => cases hu; exact World.cell?_alloc_new _ _ _ 0) | skip
  all_goals first | (case c2 => intro u hu; rcases List.mem_singleton.1 hu with rfl; rfl) | (case c2 => rfl) | skip
  all_goals first | (case c3 => unfold maxLen; decide) | skip
  all_goals first | (case c4 => decide) | skip
  all_goals first | (case c5 => first | omega | (rw [World.size_alloc]; exact Nat.le_trans hNs (Nat.le_succ _))) | skip
  intro v1 w5 hown' hgrow _
  have hoa := hown.alloc (.cells #[.int .i64 1] 3)
  replace dA := dA.keep hka ⟨id, id, id⟩
  replace dA := dev_grown dA hoa hgrow la lf lm
  replace hb := (hb.alloc hb.size (.cells #[.int .i64 1] 3)).grown hgrow (by rw [World.size_alloc]; exact Nat.le_trans hb.size (Nat.le_succ _)) (fun k hk => Nat.le_trans hwN (hown.lt k hk).1)
  replace hNs := Nat.le_trans (Nat.le_trans hNs hka.size) hgrow.size
  clear hown hoa hgrow hka
  have hown : w5.ownsRow N 3 1 v1 ([(1 : Int)] : List Int).length (([(1 : Int)] : List Int).map (Value.int .i64)) := hown'
  clear hown'
  go_wp2_with fail
  rw [rounds_succ]
  go_wp2_with fail
  with_reducible refine (dev_write_ok bA fA mA _ 2 2 rfl (by rw [M2.out]; omega) S hzS l2 _ dA).mono ?_
  rintro e w6 ⟨rfl, qA, hkk⟩
  replace hown := owns_dev hown hkk la lf lm
  replace hNs := Nat.le_trans hNs hkk.size
  replace hb := Below.dev hb hkk hb.size hbA hfA hmA
  clear dA hkk
  have dA := qA
  clear qA
  rw [HD3.out] at dA
  go_wp2_with fail
  rw [rounds_succ]
  go_wp2_with fail
  with_reducible refine (dev_flush_ok bA fA mA _ l3 _ dA).mono ?_
  rintro e w7 ⟨rfl, qA, hkk⟩
  replace hown := owns_dev hown hkk la lf lm
  replace hb := Below.dev hb hkk hb.size hbA hfA hmA
  clear dA hkk
  have dA := qA
  clear qA
  rw [HD4.out] at dA
  go_wp2_with fail
  with_reducible refine (dev_write_ok bA fA mA _ 0 0 rfl (by rw [M4.out]; omega) T hzT l4 _ dA).mono ?_
  rintro e w8 ⟨rfl, qA, hkk⟩
  replace hown := owns_dev hown hkk la lf lm
  replace hb := Below.dev hb hkk hb.size hbA hfA hmA
  clear dA hkk
  have dA := qA
  clear qA
  rw [HD5.out] at dA
  go_wp2_with fail
  with_reducible refine (dev_write_ok bA fA mA _ 1 1 rfl (by rw [M5.out]; omega) T hzT l5 _ dA).mono ?_
  rintro e w9 ⟨rfl, qA, hkk⟩
  replace hown := owns_dev hown hkk la lf lm
  replace hb := Below.dev hb hkk hb.size hbA hfA hmA
  clear dA hkk
  have dA := qA
  clear qA
  rw [HD6.out] at dA
  obtain ⟨aw, cw, hv, hsl⟩ := slI_owns hown
  subst hv
  clear hown
  go_wp2_with fail
  with_reducible refine (dev_after' bA fA mA _ aw 1 cw [(1 : Int)] rfl _ dA (by decide) hsl).mono ?_
  rintro e w10 ⟨bX, fX, mX, rfl, hbX, hfX, hmX, dX, hbb⟩
  have apAX := dA.apart hbX hfX hmX
  have apXA := apAX.symm
  replace dA := dA.below hbb
  replace hbX := Nat.le_trans hb.size hbX
  replace hfX := Nat.le_trans hb.size hfX
  replace hmX := Nat.le_trans hb.size hmX
  replace hb := Below.next hb hbb
  clear hbb
  rw [HDX.out] at dX
  go_wp2_with fail
  refine wp_loop_rounds 4 ?_
  rw [rounds_succ]
  go_wp2_with fail
  with_reducible refine (law03_whole T hzT _).mono ?_
  rintro e w11 ⟨rfl, hbb⟩
  replace dA := dA.below hbb
  replace dX := dX.below hbb
  replace hb := Below.next hb hbb
  clear hbb
  go_wp2_with fail
  with_reducible refine (dev_read_ok bX fX mX _ 0 0 rfl (by rw [NX.out]; omega) lX _ dX).mono ?_
  rintro e w12 ⟨rfl, hbb⟩
  replace dA := dA.below hbb
  replace dX := dX.below hbb
  replace hb := Below.next hb hbb
  clear hbb
  rw [X0.out]
  go_wp2_with fail
  rw [rounds_succ]
  go_wp2_with fail
  with_reducible refine (law03_whole T hzT _).mono ?_
  rintro e w13 ⟨rfl, hbb⟩
  replace dA := dA.below hbb
  replace dX := dX.below hbb
  replace hb := Below.next hb hbb
  clear hbb
  go_wp2_with fail
  with_reducible refine (law03_whole S hzS _).mono ?_
  rintro e w14 ⟨rfl, hbb⟩
  replace dA := dA.below hbb
  replace dX := dX.below hbb
  replace hb := Below.next hb hbb
  clear hbb
  go_wp2_with fail
  with_reducible refine (dev_read_ok bX fX mX _ 1 1 rfl (by rw [NX.out]; omega) lX _ dX).mono ?_
  rintro e w15 ⟨rfl, hbb⟩
  replace dA := dA.below hbb
  replace dX := dX.below hbb
  replace hb := Below.next hb hbb
  clear hbb
  rw [X1.out]
  go_wp2_with fail
  rw [rounds_succ]
  go_wp2_with fail
  with_reducible refine (law03_whole T hzT _).mono ?_
  rintro e w16 ⟨rfl, hbb⟩
  replace dA := dA.below hbb
  replace dX := dX.below hbb
  replace hb := Below.next hb hbb
  clear hbb
  go_wp2_with fail
  with_reducible refine (law03_whole S hzS _).mono ?_
  rintro e w17 ⟨rfl, hbb⟩
  replace dA := dA.below hbb
  replace dX := dX.below hbb
  replace hb := Below.next hb hbb
  clear hbb
  go_wp2_with fail
  with_reducible refine (dev_read_ok bX fX mX _ 2 2 rfl (by rw [NX.out]; omega) lX _ dX).mono ?_
  rintro e w18 ⟨rfl, hbb⟩
  replace dA := dA.below hbb
  replace dX := dX.below hbb
  replace hb := Below.next hb hbb
  clear hbb
  rw [X2.out]
  go_wp2_with fail
  rw [rounds_succ]
  go_wp2_with fail
  with_reducible refine (dev_waiting' bX fX mX _ 0 HW.out _ dX).mono ?_
  rintro e w19 ⟨aw19, cw19, rfl, hbb⟩
  replace dA := dA.below hbb
  replace dX := dX.below hbb
  replace hb := Below.next hb hbb
  clear hbb
  have cX := dX.c3
  have HdX := Aside.mk lX.dead
  go_wp2_with fail
  with_reducible refine (dev_crashed bX fX mX _ _ dX).mono ?_
  rintro e w' ⟨rfl, rfl⟩
  rw [HdX.out]
  go_wp2_with fail
  go_ret
  exact ⟨rfl, hb⟩
set_option maxHeartbeats 3200000 in
set_option maxRecDepth 32000 in
theorem deviceKeeps_110 (s t : ByteArray) (n : Int) (hn : 0 ≤ n) (hn2 : n ≤ 255) (g0 : (n % 2 == 1) = true) (g1 : (n / 2 % 2 == 1) = true) (g2 : (n / 4 % 2 == 1) = false) (w : World) :
    Calls Try.prog 7 #[.string s, .string t, .int .u8 n] w fun e w' => e = .returned (.bool true) ∧ Below w.heap.size w w' := by
  obtain ⟨ms, hms, hms1, hms2⟩ : ∃ m : Nat, min (s.size : Int) 64 = (m : Int) ∧ m ≤ 64 ∧ m ≤ s.size := ⟨min s.size 64, by omega, by omega, by omega⟩
  obtain ⟨S, hcS, hzS⟩ : ∃ X, s.extract 0 ms = X ∧ X.size ≤ 64 := ⟨_, rfl, by rw [ByteArray.size_extract]; omega⟩
  obtain ⟨mt, hmt, hmt1, hmt2⟩ : ∃ m : Nat, min (t.size : Int) 64 = (m : Int) ∧ m ≤ 64 ∧ m ≤ t.size := ⟨min t.size 64, by omega, by omega, by omega⟩
  obtain ⟨T, hcT, hzT⟩ : ∃ X, t.extract 0 mt = X ∧ X.size ≤ 64 := ⟨_, rfl, by rw [ByteArray.size_extract]; omega⟩
  have n3 : (dnew 3).n = 3 := dnew_n 3
  have ok3 := dnew_ok 3 (by omega) (by omega)
  obtain ⟨D1, hD1⟩ : ∃ D, dset 0 S (dnew 3) = D := ⟨_, rfl⟩
  have k1 : D1.ok := by rw [← hD1]; exact dset_ok ok3 (by rw [n3]; omega) hzS
  have m1 : D1.n = 3 := by rw [← hD1]; exact n3
  have l1 : Live D1 := by rw [← hD1]; exact (live_new 3).set _ _
  obtain ⟨D2, hD2⟩ : ∃ D, dset 1 S D1 = D := ⟨_, rfl⟩
  have k2 : D2.ok := by rw [← hD2]; exact dset_ok k1 (by rw [m1]; omega) hzS
  have m2 : D2.n = 3 := by rw [← hD2]; exact m1
  have l2 : Live D2 := by rw [← hD2]; exact l1.set _ _
  obtain ⟨D3, hD3⟩ : ∃ D, dset 2 S D2 = D := ⟨_, rfl⟩
  have k3 : D3.ok := by rw [← hD3]; exact dset_ok k2 (by rw [m2]; omega) hzS
  have m3 : D3.n = 3 := by rw [← hD3]; exact m2
  have l3 : Live D3 := by rw [← hD3]; exact l2.set _ _
  have s3 : ∀ i, i < 3 → D3.s i = pad S := fun i hi => by
    rw [← hD3, dset_s k2 (by rw [m2]; omega)]
    split
    · rfl
    · rw [← hD2, dset_s k1 (by rw [m1]; omega)]
      split
      · rfl
      · rw [← hD1, dset_s ok3 (by rw [n3]; omega), if_pos (by omega)]
  obtain ⟨D4, hD4⟩ : ∃ D, dsettle D3 = D := ⟨_, rfl⟩
  have k4 : D4.ok := by rw [← hD4]; exact dsettle_ok k3
  have m4 : D4.n = 3 := by rw [← hD4, dsettle_n k3]; exact m3
  have l4 : Live D4 := by rw [← hD4]; exact l3.settle
  have s4 : ∀ i, i < 3 → D4.s i = pad S := fun i hi => by rw [← hD4]; exact s3 i hi
  have o4 : ∀ i, i < 3 → D4.o i = pad S := fun i hi => by rw [← hD4]; exact s3 i hi
  have w4 : ∀ i, D4.w i = false := fun i => by rw [← hD4]; exact getD_rep _ _ _
  obtain ⟨D5, hD5⟩ : ∃ D, dset 0 T D4 = D := ⟨_, rfl⟩
  have k5 : D5.ok := by rw [← hD5]; exact dset_ok k4 (by rw [m4]; omega) hzT
  have m5 : D5.n = 3 := by rw [← hD5]; exact m4
  have l5 : Live D5 := by rw [← hD5]; exact l4.set _ _
  obtain ⟨D6, hD6⟩ : ∃ D, dset 1 T D5 = D := ⟨_, rfl⟩
  have m6 : D6.n = 3 := by rw [← hD6]; exact m5
  have e0 : D6.s 0 = pad T := by rw [← hD6, dset_s k5 (by rw [m5]; omega), if_neg (by decide), ← hD5, dset_s k4 (by rw [m4]; omega), if_pos rfl]
  have e1 : D6.s 1 = pad T := by rw [← hD6, dset_s k5 (by rw [m5]; omega), if_pos rfl]
  have e2 : D6.s 2 = pad S := by rw [← hD6, dset_s k5 (by rw [m5]; omega), if_neg (by decide), ← hD5, dset_s k4 (by rw [m4]; omega), if_neg (by decide), s4 2 (by omega)]
  have o0 : D6.o 0 = pad S := by rw [← hD6, ← hD5]; exact o4 0 (by omega)
  have o1 : D6.o 1 = pad S := by rw [← hD6, ← hD5]; exact o4 1 (by omega)
  have o2 : D6.o 2 = pad S := by rw [← hD6, ← hD5]; exact o4 2 (by omega)
  have v0 : D6.w 0 = true := by rw [← hD6, dset_w k5 (by rw [m5]; omega), if_neg (by decide), ← hD5, dset_w k4 (by rw [m4]; omega), if_pos rfl]
  have v1 : D6.w 1 = true := by rw [← hD6, dset_w k5 (by rw [m5]; omega), if_pos rfl]
  have nX : (dafter D6 [(0 : Int), (1 : Int)]).n = 3 := by rw [dafter_n, m6]
  have x0 : (dafter D6 [(0 : Int), (1 : Int)]).s 0 = pad S := by rw [dafter_at (by rw [m6]; omega)]; unfold aft; rw [if_pos ⟨v0, by simp⟩]; exact o0
  have X0 := Aside.mk x0
  have x1 : (dafter D6 [(0 : Int), (1 : Int)]).s 1 = pad S := by rw [dafter_at (by rw [m6]; omega)]; unfold aft; rw [if_pos ⟨v1, by simp⟩]; exact o1
  have X1 := Aside.mk x1
  have x2 : (dafter D6 [(0 : Int), (1 : Int)]).s 2 = pad S := by rw [dafter_at (by rw [m6]; omega)]; unfold aft; split; exact o2; exact e2
  have X2 := Aside.mk x2
  have HW := Aside.mk (show (dwaiting (dafter D6 [(0 : Int), (1 : Int)])).length = 0 from (by
    unfold dwaiting
    rw [List.filter_eq_nil_iff.2 (fun i _ => by rw [dafter_w]; simp)]; rfl))
  obtain ⟨DX, hDX⟩ : ∃ D, dafter D6 [(0 : Int), (1 : Int)] = D := ⟨_, rfl⟩
  have lX : Live DX := by rw [← hDX]; exact live_after _ _
  rw [hDX] at nX HW X0 X1 X2
  have HDX := Aside.mk hDX
  have HD1 := Aside.mk hD1
  have HD2 := Aside.mk hD2
  have HD3 := Aside.mk hD3
  have HD4 := Aside.mk hD4
  have HD5 := Aside.mk hD5
  have HD6 := Aside.mk hD6
  have N3 := Aside.mk n3
  have M1 := Aside.mk m1
  have M2 := Aside.mk m2
  have M3 := Aside.mk m3
  have M4 := Aside.mk m4
  have M5 := Aside.mk m5
  have M6 := Aside.mk m6
  have NX := Aside.mk nX
  clear n3 ok3 hD1 k1 m1 hD2 k2 m2 hD3 k3 m3 s3 hD4 k4 m4 s4 o4 w4 hD5 k5 m5 hD6 m6 e0 e1 e2 o0 o1 o2 v0 v1 nX x0 x1 x2 hDX
  obtain ⟨i0, hi, hz0, hzs, hzb⟩ := info_parts int_info
  have hb := Below.refl w.heap.size w
  have hse := str_beq
  go_enter Try.func7, Try.ntmps7
  go_wp2_with fail
  with_reducible refine (dev_examples _).mono ?_
  rintro e w1 ⟨rfl, hbb⟩
  replace hb := Below.next hb hbb
  clear hbb
  go_wp2_with fail
  clear hcS hcT hms hmt
  go_wp2_with fail
  with_reducible refine (dev_new' 3 3 rfl (by omega) (by omega) _).mono ?_
  rintro e w2 ⟨bA, fA, mA, rfl, hbA, hfA, hmA, dA, hbb⟩
  replace hbA := Nat.le_trans hb.size hbA
  replace hfA := Nat.le_trans hb.size hfA
  replace hmA := Nat.le_trans hb.size hmA
  replace hb := Below.next hb hbb
  clear hbb
  go_wp2_with fail
  obtain ⟨la, lf, lm⟩ := dA.lt
  have hown : w2.ownsRow w2.heap.size 3 1 (.slice none 0 0) ([] : List Int).length (([] : List Int).map (Value.int .i64)) := World.ownsRow_nil _ _ _ _
  generalize hN : w2.heap.size = N at *
  have hwN : w.heap.size ≤ N := by rw [← hN]; exact hb.size
  have hNs : N ≤ w2.heap.size := by rw [hN]; exact Nat.le_refl _
  clear hN
  refine wp_loop_rounds 4 ?_
  rw [rounds_succ]
  go_wp2_with fail
  with_reducible refine (dev_write_ok bA fA mA _ 0 0 rfl (by rw [N3.out]; omega) S hzS (live_new 3) _ dA).mono ?_
  rintro e w3 ⟨rfl, qA, hkk⟩
  replace hown := owns_dev hown hkk la lf lm
  replace hNs := Nat.le_trans hNs hkk.size
  replace hb := Below.dev hb hkk hb.size hbA hfA hmA
  clear dA hkk
  have dA := qA
  clear qA
  rw [HD1.out] at dA
  have hka : Keep (fun _ => False) w3 (w3.alloc (.cells #[.int .i64 0] 3)) := (Keep.refl _ _).alloc _
  go_wp2_with (at_builtin; refine wpList_append_own _ rfl _ _ 30 rfl N 3 i0 (.int .i64 0) 1 8 Try.underlying30 hi hz0 hzs hzb rfl (by decide) _ _ _ rfl (hown.alloc _) ⟨w3.heap.size, 0, none⟩ 1 1 [.int .i64 0] rfl rfl ?c1 ?c2 ?c3 ?c4 ?c5 ?_)
  all_goals first | (case c1 => intro j u hu; match j, hu with | 0, hu => cases hu; exact World.cell?_alloc_new _ _ _ 0) | skip
  all_goals first | (case c2 => intro u hu; rcases List.mem_singleton.1 hu with rfl; rfl) | (case c2 => rfl) | skip
  all_goals first | (case c3 => unfold maxLen; decide) | skip
  all_goals first | (case c4 => decide) | skip
  all_goals first | (case c5 => first | omega | (rw [World.size_alloc]; exact Nat.le_trans hNs (Nat.le_succ _))) | skip
  intro v0 w4 hown' hgrow _
  have hoa := hown.alloc (.cells #[.int .i64 0] 3)
  replace dA := dA.keep hka ⟨id, id, id⟩
  replace dA := dev_grown dA hoa hgrow la lf lm
  replace hb := (hb.alloc hb.size (.cells #[.int .i64 0] 3)).grown hgrow (by rw [World.size_alloc]; exact Nat.le_trans hb.size (Nat.le_succ _)) (fun k hk => Nat.le_trans hwN (hown.lt k hk).1)
  replace hNs := Nat.le_trans (Nat.le_trans hNs hka.size) hgrow.size
  clear hown hoa hgrow hka
  have hown : w4.ownsRow N 3 1 v0 ([(0 : Int)] : List Int).length (([(0 : Int)] : List Int).map (Value.int .i64)) := hown'
  clear hown'
  go_wp2_with fail
  rw [rounds_succ]
  go_wp2_with fail
  with_reducible refine (dev_write_ok bA fA mA _ 1 1 rfl (by rw [M1.out]; omega) S hzS l1 _ dA).mono ?_
  rintro e w5 ⟨rfl, qA, hkk⟩
  replace hown := owns_dev hown hkk la lf lm
  replace hNs := Nat.le_trans hNs hkk.size
  replace hb := Below.dev hb hkk hb.size hbA hfA hmA
  clear dA hkk
  have dA := qA
  clear qA
  rw [HD2.out] at dA
  have hka : Keep (fun _ => False) w5 (w5.alloc (.cells #[.int .i64 1] 3)) := (Keep.refl _ _).alloc _
  go_wp2_with (at_builtin; refine wpList_append_own _ rfl _ _ 30 rfl N 3 i0 (.int .i64 0) 1 8 Try.underlying30 hi hz0 hzs hzb rfl (by decide) _ _ _ rfl (hown.alloc _) ⟨w5.heap.size, 0, none⟩ 1 1 [.int .i64 1] rfl rfl ?c1 ?c2 ?c3 ?c4 ?c5 ?_)
  all_goals first | (case c1 => intro j u hu; match j, hu with | 0, hu => cases hu; exact World.cell?_alloc_new _ _ _ 0) | skip
  all_goals first | (case c2 => intro u hu; rcases List.mem_singleton.1 hu with rfl; rfl) | (case c2 => rfl) | skip
  all_goals first | (case c3 => unfold maxLen; decide) | skip
  all_goals first | (case c4 => decide) | skip
  all_goals first | (case c5 => first | omega | (rw [World.size_alloc]; exact Nat.le_trans hNs (Nat.le_succ _))) | skip
  intro v1 w6 hown' hgrow _
  have hoa := hown.alloc (.cells #[.int .i64 1] 3)
  replace dA := dA.keep hka ⟨id, id, id⟩
  replace dA := dev_grown dA hoa hgrow la lf lm
  replace hb := (hb.alloc hb.size (.cells #[.int .i64 1] 3)).grown hgrow (by rw [World.size_alloc]; exact Nat.le_trans hb.size (Nat.le_succ _)) (fun k hk => Nat.le_trans hwN (hown.lt k hk).1)
  replace hNs := Nat.le_trans (Nat.le_trans hNs hka.size) hgrow.size
  clear hown hoa hgrow hka
  have hown : w6.ownsRow N 3 1 v1 ([(0 : Int), (1 : Int)] : List Int).length (([(0 : Int), (1 : Int)] : List Int).map (Value.int .i64)) := hown'
  clear hown'
  go_wp2_with fail
  rw [rounds_succ]
  go_wp2_with fail
  with_reducible refine (dev_write_ok bA fA mA _ 2 2 rfl (by rw [M2.out]; omega) S hzS l2 _ dA).mono ?_
  rintro e w7 ⟨rfl, qA, hkk⟩
  replace hown := owns_dev hown hkk la lf lm
  replace hNs := Nat.le_trans hNs hkk.size
  replace hb := Below.dev hb hkk hb.size hbA hfA hmA
  clear dA hkk
  have dA := qA
  clear qA
  rw [HD3.out] at dA
  go_wp2_with fail
  rw [rounds_succ]
  go_wp2_with fail
  with_reducible refine (dev_flush_ok bA fA mA _ l3 _ dA).mono ?_
  rintro e w8 ⟨rfl, qA, hkk⟩
  replace hown := owns_dev hown hkk la lf lm
  replace hb := Below.dev hb hkk hb.size hbA hfA hmA
  clear dA hkk
  have dA := qA
  clear qA
  rw [HD4.out] at dA
  go_wp2_with fail
  with_reducible refine (dev_write_ok bA fA mA _ 0 0 rfl (by rw [M4.out]; omega) T hzT l4 _ dA).mono ?_
  rintro e w9 ⟨rfl, qA, hkk⟩
  replace hown := owns_dev hown hkk la lf lm
  replace hb := Below.dev hb hkk hb.size hbA hfA hmA
  clear dA hkk
  have dA := qA
  clear qA
  rw [HD5.out] at dA
  go_wp2_with fail
  with_reducible refine (dev_write_ok bA fA mA _ 1 1 rfl (by rw [M5.out]; omega) T hzT l5 _ dA).mono ?_
  rintro e w10 ⟨rfl, qA, hkk⟩
  replace hown := owns_dev hown hkk la lf lm
  replace hb := Below.dev hb hkk hb.size hbA hfA hmA
  clear dA hkk
  have dA := qA
  clear qA
  rw [HD6.out] at dA
  obtain ⟨aw, cw, hv, hsl⟩ := slI_owns hown
  subst hv
  clear hown
  go_wp2_with fail
  with_reducible refine (dev_after' bA fA mA _ aw 2 cw [(0 : Int), (1 : Int)] rfl _ dA (by decide) hsl).mono ?_
  rintro e w11 ⟨bX, fX, mX, rfl, hbX, hfX, hmX, dX, hbb⟩
  have apAX := dA.apart hbX hfX hmX
  have apXA := apAX.symm
  replace dA := dA.below hbb
  replace hbX := Nat.le_trans hb.size hbX
  replace hfX := Nat.le_trans hb.size hfX
  replace hmX := Nat.le_trans hb.size hmX
  replace hb := Below.next hb hbb
  clear hbb
  rw [HDX.out] at dX
  go_wp2_with fail
  refine wp_loop_rounds 4 ?_
  rw [rounds_succ]
  go_wp2_with fail
  with_reducible refine (law03_whole T hzT _).mono ?_
  rintro e w12 ⟨rfl, hbb⟩
  replace dA := dA.below hbb
  replace dX := dX.below hbb
  replace hb := Below.next hb hbb
  clear hbb
  go_wp2_with fail
  with_reducible refine (law03_whole S hzS _).mono ?_
  rintro e w13 ⟨rfl, hbb⟩
  replace dA := dA.below hbb
  replace dX := dX.below hbb
  replace hb := Below.next hb hbb
  clear hbb
  go_wp2_with fail
  with_reducible refine (dev_read_ok bX fX mX _ 0 0 rfl (by rw [NX.out]; omega) lX _ dX).mono ?_
  rintro e w14 ⟨rfl, hbb⟩
  replace dA := dA.below hbb
  replace dX := dX.below hbb
  replace hb := Below.next hb hbb
  clear hbb
  rw [X0.out]
  go_wp2_with fail
  rw [rounds_succ]
  go_wp2_with fail
  with_reducible refine (law03_whole T hzT _).mono ?_
  rintro e w15 ⟨rfl, hbb⟩
  replace dA := dA.below hbb
  replace dX := dX.below hbb
  replace hb := Below.next hb hbb
  clear hbb
  go_wp2_with fail
  with_reducible refine (law03_whole S hzS _).mono ?_
  rintro e w16 ⟨rfl, hbb⟩
  replace dA := dA.below hbb
  replace dX := dX.below hbb
  replace hb := Below.next hb hbb
  clear hbb
  go_wp2_with fail
  with_reducible refine (dev_read_ok bX fX mX _ 1 1 rfl (by rw [NX.out]; omega) lX _ dX).mono ?_
  rintro e w17 ⟨rfl, hbb⟩
  replace dA := dA.below hbb
  replace dX := dX.below hbb
  replace hb := Below.next hb hbb
  clear hbb
  rw [X1.out]
  go_wp2_with fail
  rw [rounds_succ]
  go_wp2_with fail
  with_reducible refine (law03_whole T hzT _).mono ?_
  rintro e w18 ⟨rfl, hbb⟩
  replace dA := dA.below hbb
  replace dX := dX.below hbb
  replace hb := Below.next hb hbb
  clear hbb
  go_wp2_with fail
  with_reducible refine (law03_whole S hzS _).mono ?_
  rintro e w19 ⟨rfl, hbb⟩
  replace dA := dA.below hbb
  replace dX := dX.below hbb
  replace hb := Below.next hb hbb
  clear hbb
  go_wp2_with fail
  with_reducible refine (dev_read_ok bX fX mX _ 2 2 rfl (by rw [NX.out]; omega) lX _ dX).mono ?_
  rintro e w20 ⟨rfl, hbb⟩
  replace dA := dA.below hbb
  replace dX := dX.below hbb
  replace hb := Below.next hb hbb
  clear hbb
  rw [X2.out]
  go_wp2_with fail
  rw [rounds_succ]
  go_wp2_with fail
  with_reducible refine (dev_waiting' bX fX mX _ 0 HW.out _ dX).mono ?_
  rintro e w21 ⟨aw21, cw21, rfl, hbb⟩
  replace dA := dA.below hbb
  replace dX := dX.below hbb
  replace hb := Below.next hb hbb
  clear hbb
  have cX := dX.c3
  have HdX := Aside.mk lX.dead
  go_wp2_with fail
  with_reducible refine (dev_crashed bX fX mX _ _ dX).mono ?_
  rintro e w' ⟨rfl, rfl⟩
  rw [HdX.out]
  go_wp2_with fail
  go_ret
  exact ⟨rfl, hb⟩
set_option maxHeartbeats 3200000 in
set_option maxRecDepth 32000 in
theorem deviceKeeps_001 (s t : ByteArray) (n : Int) (hn : 0 ≤ n) (hn2 : n ≤ 255) (g0 : (n % 2 == 1) = false) (g1 : (n / 2 % 2 == 1) = false) (g2 : (n / 4 % 2 == 1) = true) (w : World) :
    Calls Try.prog 7 #[.string s, .string t, .int .u8 n] w fun e w' => e = .returned (.bool true) ∧ Below w.heap.size w w' := by
  obtain ⟨ms, hms, hms1, hms2⟩ : ∃ m : Nat, min (s.size : Int) 64 = (m : Int) ∧ m ≤ 64 ∧ m ≤ s.size := ⟨min s.size 64, by omega, by omega, by omega⟩
  obtain ⟨S, hcS, hzS⟩ : ∃ X, s.extract 0 ms = X ∧ X.size ≤ 64 := ⟨_, rfl, by rw [ByteArray.size_extract]; omega⟩
  obtain ⟨mt, hmt, hmt1, hmt2⟩ : ∃ m : Nat, min (t.size : Int) 64 = (m : Int) ∧ m ≤ 64 ∧ m ≤ t.size := ⟨min t.size 64, by omega, by omega, by omega⟩
  obtain ⟨T, hcT, hzT⟩ : ∃ X, t.extract 0 mt = X ∧ X.size ≤ 64 := ⟨_, rfl, by rw [ByteArray.size_extract]; omega⟩
  have n3 : (dnew 3).n = 3 := dnew_n 3
  have ok3 := dnew_ok 3 (by omega) (by omega)
  obtain ⟨D1, hD1⟩ : ∃ D, dset 0 S (dnew 3) = D := ⟨_, rfl⟩
  have k1 : D1.ok := by rw [← hD1]; exact dset_ok ok3 (by rw [n3]; omega) hzS
  have m1 : D1.n = 3 := by rw [← hD1]; exact n3
  have l1 : Live D1 := by rw [← hD1]; exact (live_new 3).set _ _
  obtain ⟨D2, hD2⟩ : ∃ D, dset 1 S D1 = D := ⟨_, rfl⟩
  have k2 : D2.ok := by rw [← hD2]; exact dset_ok k1 (by rw [m1]; omega) hzS
  have m2 : D2.n = 3 := by rw [← hD2]; exact m1
  have l2 : Live D2 := by rw [← hD2]; exact l1.set _ _
  obtain ⟨D3, hD3⟩ : ∃ D, dset 2 S D2 = D := ⟨_, rfl⟩
  have k3 : D3.ok := by rw [← hD3]; exact dset_ok k2 (by rw [m2]; omega) hzS
  have m3 : D3.n = 3 := by rw [← hD3]; exact m2
  have l3 : Live D3 := by rw [← hD3]; exact l2.set _ _
  have s3 : ∀ i, i < 3 → D3.s i = pad S := fun i hi => by
    rw [← hD3, dset_s k2 (by rw [m2]; omega)]
    split
    · rfl
    · rw [← hD2, dset_s k1 (by rw [m1]; omega)]
      split
      · rfl
      · rw [← hD1, dset_s ok3 (by rw [n3]; omega), if_pos (by omega)]
  obtain ⟨D4, hD4⟩ : ∃ D, dsettle D3 = D := ⟨_, rfl⟩
  have k4 : D4.ok := by rw [← hD4]; exact dsettle_ok k3
  have m4 : D4.n = 3 := by rw [← hD4, dsettle_n k3]; exact m3
  have l4 : Live D4 := by rw [← hD4]; exact l3.settle
  have s4 : ∀ i, i < 3 → D4.s i = pad S := fun i hi => by rw [← hD4]; exact s3 i hi
  have o4 : ∀ i, i < 3 → D4.o i = pad S := fun i hi => by rw [← hD4]; exact s3 i hi
  have w4 : ∀ i, D4.w i = false := fun i => by rw [← hD4]; exact getD_rep _ _ _
  obtain ⟨D5, hD5⟩ : ∃ D, dset 0 T D4 = D := ⟨_, rfl⟩
  have k5 : D5.ok := by rw [← hD5]; exact dset_ok k4 (by rw [m4]; omega) hzT
  have m5 : D5.n = 3 := by rw [← hD5]; exact m4
  have l5 : Live D5 := by rw [← hD5]; exact l4.set _ _
  obtain ⟨D6, hD6⟩ : ∃ D, dset 1 T D5 = D := ⟨_, rfl⟩
  have m6 : D6.n = 3 := by rw [← hD6]; exact m5
  have e0 : D6.s 0 = pad T := by rw [← hD6, dset_s k5 (by rw [m5]; omega), if_neg (by decide), ← hD5, dset_s k4 (by rw [m4]; omega), if_pos rfl]
  have e1 : D6.s 1 = pad T := by rw [← hD6, dset_s k5 (by rw [m5]; omega), if_pos rfl]
  have e2 : D6.s 2 = pad S := by rw [← hD6, dset_s k5 (by rw [m5]; omega), if_neg (by decide), ← hD5, dset_s k4 (by rw [m4]; omega), if_neg (by decide), s4 2 (by omega)]
  have o0 : D6.o 0 = pad S := by rw [← hD6, ← hD5]; exact o4 0 (by omega)
  have o1 : D6.o 1 = pad S := by rw [← hD6, ← hD5]; exact o4 1 (by omega)
  have o2 : D6.o 2 = pad S := by rw [← hD6, ← hD5]; exact o4 2 (by omega)
  have v0 : D6.w 0 = true := by rw [← hD6, dset_w k5 (by rw [m5]; omega), if_neg (by decide), ← hD5, dset_w k4 (by rw [m4]; omega), if_pos rfl]
  have v1 : D6.w 1 = true := by rw [← hD6, dset_w k5 (by rw [m5]; omega), if_pos rfl]
  have nX : (dafter D6 [(2 : Int)]).n = 3 := by rw [dafter_n, m6]
  have x0 : (dafter D6 [(2 : Int)]).s 0 = pad T := by rw [dafter_at (by rw [m6]; omega)]; unfold aft; rw [if_neg (by simp)]; exact e0
  have X0 := Aside.mk x0
  have x1 : (dafter D6 [(2 : Int)]).s 1 = pad T := by rw [dafter_at (by rw [m6]; omega)]; unfold aft; rw [if_neg (by simp)]; exact e1
  have X1 := Aside.mk x1
  have x2 : (dafter D6 [(2 : Int)]).s 2 = pad S := by rw [dafter_at (by rw [m6]; omega)]; unfold aft; split; exact o2; exact e2
  have X2 := Aside.mk x2
  have HW := Aside.mk (show (dwaiting (dafter D6 [(2 : Int)])).length = 0 from (by
    unfold dwaiting
    rw [List.filter_eq_nil_iff.2 (fun i _ => by rw [dafter_w]; simp)]; rfl))
  obtain ⟨DX, hDX⟩ : ∃ D, dafter D6 [(2 : Int)] = D := ⟨_, rfl⟩
  have lX : Live DX := by rw [← hDX]; exact live_after _ _
  rw [hDX] at nX HW X0 X1 X2
  have HDX := Aside.mk hDX
  have HD1 := Aside.mk hD1
  have HD2 := Aside.mk hD2
  have HD3 := Aside.mk hD3
  have HD4 := Aside.mk hD4
  have HD5 := Aside.mk hD5
  have HD6 := Aside.mk hD6
  have N3 := Aside.mk n3
  have M1 := Aside.mk m1
  have M2 := Aside.mk m2
  have M3 := Aside.mk m3
  have M4 := Aside.mk m4
  have M5 := Aside.mk m5
  have M6 := Aside.mk m6
  have NX := Aside.mk nX
  clear n3 ok3 hD1 k1 m1 hD2 k2 m2 hD3 k3 m3 s3 hD4 k4 m4 s4 o4 w4 hD5 k5 m5 hD6 m6 e0 e1 e2 o0 o1 o2 v0 v1 nX x0 x1 x2 hDX
  obtain ⟨i0, hi, hz0, hzs, hzb⟩ := info_parts int_info
  have hb := Below.refl w.heap.size w
  have hse := str_beq
  go_enter Try.func7, Try.ntmps7
  go_wp2_with fail
  with_reducible refine (dev_examples _).mono ?_
  rintro e w1 ⟨rfl, hbb⟩
  replace hb := Below.next hb hbb
  clear hbb
  go_wp2_with fail
  clear hcS hcT hms hmt
  go_wp2_with fail
  with_reducible refine (dev_new' 3 3 rfl (by omega) (by omega) _).mono ?_
  rintro e w2 ⟨bA, fA, mA, rfl, hbA, hfA, hmA, dA, hbb⟩
  replace hbA := Nat.le_trans hb.size hbA
  replace hfA := Nat.le_trans hb.size hfA
  replace hmA := Nat.le_trans hb.size hmA
  replace hb := Below.next hb hbb
  clear hbb
  go_wp2_with fail
  obtain ⟨la, lf, lm⟩ := dA.lt
  have hown : w2.ownsRow w2.heap.size 3 1 (.slice none 0 0) ([] : List Int).length (([] : List Int).map (Value.int .i64)) := World.ownsRow_nil _ _ _ _
  generalize hN : w2.heap.size = N at *
  have hwN : w.heap.size ≤ N := by rw [← hN]; exact hb.size
  have hNs : N ≤ w2.heap.size := by rw [hN]; exact Nat.le_refl _
  clear hN
  refine wp_loop_rounds 4 ?_
  rw [rounds_succ]
  go_wp2_with fail
  with_reducible refine (dev_write_ok bA fA mA _ 0 0 rfl (by rw [N3.out]; omega) S hzS (live_new 3) _ dA).mono ?_
  rintro e w3 ⟨rfl, qA, hkk⟩
  replace hown := owns_dev hown hkk la lf lm
  replace hNs := Nat.le_trans hNs hkk.size
  replace hb := Below.dev hb hkk hb.size hbA hfA hmA
  clear dA hkk
  have dA := qA
  clear qA
  rw [HD1.out] at dA
  go_wp2_with fail
  rw [rounds_succ]
  go_wp2_with fail
  with_reducible refine (dev_write_ok bA fA mA _ 1 1 rfl (by rw [M1.out]; omega) S hzS l1 _ dA).mono ?_
  rintro e w4 ⟨rfl, qA, hkk⟩
  replace hown := owns_dev hown hkk la lf lm
  replace hNs := Nat.le_trans hNs hkk.size
  replace hb := Below.dev hb hkk hb.size hbA hfA hmA
  clear dA hkk
  have dA := qA
  clear qA
  rw [HD2.out] at dA
  go_wp2_with fail
  rw [rounds_succ]
  go_wp2_with fail
  with_reducible refine (dev_write_ok bA fA mA _ 2 2 rfl (by rw [M2.out]; omega) S hzS l2 _ dA).mono ?_
  rintro e w5 ⟨rfl, qA, hkk⟩
  replace hown := owns_dev hown hkk la lf lm
  replace hNs := Nat.le_trans hNs hkk.size
  replace hb := Below.dev hb hkk hb.size hbA hfA hmA
  clear dA hkk
  have dA := qA
  clear qA
  rw [HD3.out] at dA
  have hka : Keep (fun _ => False) w5 (w5.alloc (.cells #[.int .i64 2] 3)) := (Keep.refl _ _).alloc _
  go_wp2_with (at_builtin; refine wpList_append_own _ rfl _ _ 30 rfl N 3 i0 (.int .i64 0) 1 8 Try.underlying30 hi hz0 hzs hzb rfl (by decide) _ _ _ rfl (hown.alloc _) ⟨w5.heap.size, 0, none⟩ 1 1 [.int .i64 2] rfl rfl ?c1 ?c2 ?c3 ?c4 ?c5 ?_)
  all_goals first | (case c1 => intro j u hu; match j, hu with | 0, hu => cases hu; exact World.cell?_alloc_new _ _ _ 0) | skip
  all_goals first | (case c2 => intro u hu; rcases List.mem_singleton.1 hu with rfl; rfl) | (case c2 => rfl) | skip
  all_goals first | (case c3 => unfold maxLen; decide) | skip
  all_goals first | (case c4 => decide) | skip
  all_goals first | (case c5 => first | omega | (rw [World.size_alloc]; exact Nat.le_trans hNs (Nat.le_succ _))) | skip
  intro v2 w6 hown' hgrow _
  have hoa := hown.alloc (.cells #[.int .i64 2] 3)
  replace dA := dA.keep hka ⟨id, id, id⟩
  replace dA := dev_grown dA hoa hgrow la lf lm
  replace hb := (hb.alloc hb.size (.cells #[.int .i64 2] 3)).grown hgrow (by rw [World.size_alloc]; exact Nat.le_trans hb.size (Nat.le_succ _)) (fun k hk => Nat.le_trans hwN (hown.lt k hk).1)
  replace hNs := Nat.le_trans (Nat.le_trans hNs hka.size) hgrow.size
  clear hown hoa hgrow hka
  have hown : w6.ownsRow N 3 1 v2 ([(2 : Int)] : List Int).length (([(2 : Int)] : List Int).map (Value.int .i64)) := hown'
  clear hown'
  go_wp2_with fail
  rw [rounds_succ]
  go_wp2_with fail
  with_reducible refine (dev_flush_ok bA fA mA _ l3 _ dA).mono ?_
  rintro e w7 ⟨rfl, qA, hkk⟩
  replace hown := owns_dev hown hkk la lf lm
  replace hb := Below.dev hb hkk hb.size hbA hfA hmA
  clear dA hkk
  have dA := qA
  clear qA
  rw [HD4.out] at dA
  go_wp2_with fail
  with_reducible refine (dev_write_ok bA fA mA _ 0 0 rfl (by rw [M4.out]; omega) T hzT l4 _ dA).mono ?_
  rintro e w8 ⟨rfl, qA, hkk⟩
  replace hown := owns_dev hown hkk la lf lm
  replace hb := Below.dev hb hkk hb.size hbA hfA hmA
  clear dA hkk
  have dA := qA
  clear qA
  rw [HD5.out] at dA
  go_wp2_with fail
  with_reducible refine (dev_write_ok bA fA mA _ 1 1 rfl (by rw [M5.out]; omega) T hzT l5 _ dA).mono ?_
  rintro e w9 ⟨rfl, qA, hkk⟩
  replace hown := owns_dev hown hkk la lf lm
  replace hb := Below.dev hb hkk hb.size hbA hfA hmA
  clear dA hkk
  have dA := qA
  clear qA
  rw [HD6.out] at dA
  obtain ⟨aw, cw, hv, hsl⟩ := slI_owns hown
  subst hv
  clear hown
  go_wp2_with fail
  with_reducible refine (dev_after' bA fA mA _ aw 1 cw [(2 : Int)] rfl _ dA (by decide) hsl).mono ?_
  rintro e w10 ⟨bX, fX, mX, rfl, hbX, hfX, hmX, dX, hbb⟩
  have apAX := dA.apart hbX hfX hmX
  have apXA := apAX.symm
  replace dA := dA.below hbb
  replace hbX := Nat.le_trans hb.size hbX
  replace hfX := Nat.le_trans hb.size hfX
  replace hmX := Nat.le_trans hb.size hmX
  replace hb := Below.next hb hbb
  clear hbb
  rw [HDX.out] at dX
  go_wp2_with fail
  refine wp_loop_rounds 4 ?_
  rw [rounds_succ]
  go_wp2_with fail
  with_reducible refine (law03_whole T hzT _).mono ?_
  rintro e w11 ⟨rfl, hbb⟩
  replace dA := dA.below hbb
  replace dX := dX.below hbb
  replace hb := Below.next hb hbb
  clear hbb
  go_wp2_with fail
  with_reducible refine (dev_read_ok bX fX mX _ 0 0 rfl (by rw [NX.out]; omega) lX _ dX).mono ?_
  rintro e w12 ⟨rfl, hbb⟩
  replace dA := dA.below hbb
  replace dX := dX.below hbb
  replace hb := Below.next hb hbb
  clear hbb
  rw [X0.out]
  go_wp2_with fail
  rw [rounds_succ]
  go_wp2_with fail
  with_reducible refine (law03_whole T hzT _).mono ?_
  rintro e w13 ⟨rfl, hbb⟩
  replace dA := dA.below hbb
  replace dX := dX.below hbb
  replace hb := Below.next hb hbb
  clear hbb
  go_wp2_with fail
  with_reducible refine (dev_read_ok bX fX mX _ 1 1 rfl (by rw [NX.out]; omega) lX _ dX).mono ?_
  rintro e w14 ⟨rfl, hbb⟩
  replace dA := dA.below hbb
  replace dX := dX.below hbb
  replace hb := Below.next hb hbb
  clear hbb
  rw [X1.out]
  go_wp2_with fail
  rw [rounds_succ]
  go_wp2_with fail
  with_reducible refine (law03_whole T hzT _).mono ?_
  rintro e w15 ⟨rfl, hbb⟩
  replace dA := dA.below hbb
  replace dX := dX.below hbb
  replace hb := Below.next hb hbb
  clear hbb
  go_wp2_with fail
  with_reducible refine (law03_whole S hzS _).mono ?_
  rintro e w16 ⟨rfl, hbb⟩
  replace dA := dA.below hbb
  replace dX := dX.below hbb
  replace hb := Below.next hb hbb
  clear hbb
  go_wp2_with fail
  with_reducible refine (dev_read_ok bX fX mX _ 2 2 rfl (by rw [NX.out]; omega) lX _ dX).mono ?_
  rintro e w17 ⟨rfl, hbb⟩
  replace dA := dA.below hbb
  replace dX := dX.below hbb
  replace hb := Below.next hb hbb
  clear hbb
  rw [X2.out]
  go_wp2_with fail
  rw [rounds_succ]
  go_wp2_with fail
  with_reducible refine (dev_waiting' bX fX mX _ 0 HW.out _ dX).mono ?_
  rintro e w18 ⟨aw18, cw18, rfl, hbb⟩
  replace dA := dA.below hbb
  replace dX := dX.below hbb
  replace hb := Below.next hb hbb
  clear hbb
  have cX := dX.c3
  have HdX := Aside.mk lX.dead
  go_wp2_with fail
  with_reducible refine (dev_crashed bX fX mX _ _ dX).mono ?_
  rintro e w' ⟨rfl, rfl⟩
  rw [HdX.out]
  go_wp2_with fail
  go_ret
  exact ⟨rfl, hb⟩
set_option maxHeartbeats 3200000 in
set_option maxRecDepth 32000 in
theorem deviceKeeps_101 (s t : ByteArray) (n : Int) (hn : 0 ≤ n) (hn2 : n ≤ 255) (g0 : (n % 2 == 1) = true) (g1 : (n / 2 % 2 == 1) = false) (g2 : (n / 4 % 2 == 1) = true) (w : World) :
    Calls Try.prog 7 #[.string s, .string t, .int .u8 n] w fun e w' => e = .returned (.bool true) ∧ Below w.heap.size w w' := by
  obtain ⟨ms, hms, hms1, hms2⟩ : ∃ m : Nat, min (s.size : Int) 64 = (m : Int) ∧ m ≤ 64 ∧ m ≤ s.size := ⟨min s.size 64, by omega, by omega, by omega⟩
  obtain ⟨S, hcS, hzS⟩ : ∃ X, s.extract 0 ms = X ∧ X.size ≤ 64 := ⟨_, rfl, by rw [ByteArray.size_extract]; omega⟩
  obtain ⟨mt, hmt, hmt1, hmt2⟩ : ∃ m : Nat, min (t.size : Int) 64 = (m : Int) ∧ m ≤ 64 ∧ m ≤ t.size := ⟨min t.size 64, by omega, by omega, by omega⟩
  obtain ⟨T, hcT, hzT⟩ : ∃ X, t.extract 0 mt = X ∧ X.size ≤ 64 := ⟨_, rfl, by rw [ByteArray.size_extract]; omega⟩
  have n3 : (dnew 3).n = 3 := dnew_n 3
  have ok3 := dnew_ok 3 (by omega) (by omega)
  obtain ⟨D1, hD1⟩ : ∃ D, dset 0 S (dnew 3) = D := ⟨_, rfl⟩
  have k1 : D1.ok := by rw [← hD1]; exact dset_ok ok3 (by rw [n3]; omega) hzS
  have m1 : D1.n = 3 := by rw [← hD1]; exact n3
  have l1 : Live D1 := by rw [← hD1]; exact (live_new 3).set _ _
  obtain ⟨D2, hD2⟩ : ∃ D, dset 1 S D1 = D := ⟨_, rfl⟩
  have k2 : D2.ok := by rw [← hD2]; exact dset_ok k1 (by rw [m1]; omega) hzS
  have m2 : D2.n = 3 := by rw [← hD2]; exact m1
  have l2 : Live D2 := by rw [← hD2]; exact l1.set _ _
  obtain ⟨D3, hD3⟩ : ∃ D, dset 2 S D2 = D := ⟨_, rfl⟩
  have k3 : D3.ok := by rw [← hD3]; exact dset_ok k2 (by rw [m2]; omega) hzS
  have m3 : D3.n = 3 := by rw [← hD3]; exact m2
  have l3 : Live D3 := by rw [← hD3]; exact l2.set _ _
  have s3 : ∀ i, i < 3 → D3.s i = pad S := fun i hi => by
    rw [← hD3, dset_s k2 (by rw [m2]; omega)]
    split
    · rfl
    · rw [← hD2, dset_s k1 (by rw [m1]; omega)]
      split
      · rfl
      · rw [← hD1, dset_s ok3 (by rw [n3]; omega), if_pos (by omega)]
  obtain ⟨D4, hD4⟩ : ∃ D, dsettle D3 = D := ⟨_, rfl⟩
  have k4 : D4.ok := by rw [← hD4]; exact dsettle_ok k3
  have m4 : D4.n = 3 := by rw [← hD4, dsettle_n k3]; exact m3
  have l4 : Live D4 := by rw [← hD4]; exact l3.settle
  have s4 : ∀ i, i < 3 → D4.s i = pad S := fun i hi => by rw [← hD4]; exact s3 i hi
  have o4 : ∀ i, i < 3 → D4.o i = pad S := fun i hi => by rw [← hD4]; exact s3 i hi
  have w4 : ∀ i, D4.w i = false := fun i => by rw [← hD4]; exact getD_rep _ _ _
  obtain ⟨D5, hD5⟩ : ∃ D, dset 0 T D4 = D := ⟨_, rfl⟩
  have k5 : D5.ok := by rw [← hD5]; exact dset_ok k4 (by rw [m4]; omega) hzT
  have m5 : D5.n = 3 := by rw [← hD5]; exact m4
  have l5 : Live D5 := by rw [← hD5]; exact l4.set _ _
  obtain ⟨D6, hD6⟩ : ∃ D, dset 1 T D5 = D := ⟨_, rfl⟩
  have m6 : D6.n = 3 := by rw [← hD6]; exact m5
  have e0 : D6.s 0 = pad T := by rw [← hD6, dset_s k5 (by rw [m5]; omega), if_neg (by decide), ← hD5, dset_s k4 (by rw [m4]; omega), if_pos rfl]
  have e1 : D6.s 1 = pad T := by rw [← hD6, dset_s k5 (by rw [m5]; omega), if_pos rfl]
  have e2 : D6.s 2 = pad S := by rw [← hD6, dset_s k5 (by rw [m5]; omega), if_neg (by decide), ← hD5, dset_s k4 (by rw [m4]; omega), if_neg (by decide), s4 2 (by omega)]
  have o0 : D6.o 0 = pad S := by rw [← hD6, ← hD5]; exact o4 0 (by omega)
  have o1 : D6.o 1 = pad S := by rw [← hD6, ← hD5]; exact o4 1 (by omega)
  have o2 : D6.o 2 = pad S := by rw [← hD6, ← hD5]; exact o4 2 (by omega)
  have v0 : D6.w 0 = true := by rw [← hD6, dset_w k5 (by rw [m5]; omega), if_neg (by decide), ← hD5, dset_w k4 (by rw [m4]; omega), if_pos rfl]
  have v1 : D6.w 1 = true := by rw [← hD6, dset_w k5 (by rw [m5]; omega), if_pos rfl]
  have nX : (dafter D6 [(0 : Int), (2 : Int)]).n = 3 := by rw [dafter_n, m6]
  have x0 : (dafter D6 [(0 : Int), (2 : Int)]).s 0 = pad S := by rw [dafter_at (by rw [m6]; omega)]; unfold aft; rw [if_pos ⟨v0, by simp⟩]; exact o0
  have X0 := Aside.mk x0
  have x1 : (dafter D6 [(0 : Int), (2 : Int)]).s 1 = pad T := by rw [dafter_at (by rw [m6]; omega)]; unfold aft; rw [if_neg (by simp)]; exact e1
  have X1 := Aside.mk x1
  have x2 : (dafter D6 [(0 : Int), (2 : Int)]).s 2 = pad S := by rw [dafter_at (by rw [m6]; omega)]; unfold aft; split; exact o2; exact e2
  have X2 := Aside.mk x2
  have HW := Aside.mk (show (dwaiting (dafter D6 [(0 : Int), (2 : Int)])).length = 0 from (by
    unfold dwaiting
    rw [List.filter_eq_nil_iff.2 (fun i _ => by rw [dafter_w]; simp)]; rfl))
  obtain ⟨DX, hDX⟩ : ∃ D, dafter D6 [(0 : Int), (2 : Int)] = D := ⟨_, rfl⟩
  have lX : Live DX := by rw [← hDX]; exact live_after _ _
  rw [hDX] at nX HW X0 X1 X2
  have HDX := Aside.mk hDX
  have HD1 := Aside.mk hD1
  have HD2 := Aside.mk hD2
  have HD3 := Aside.mk hD3
  have HD4 := Aside.mk hD4
  have HD5 := Aside.mk hD5
  have HD6 := Aside.mk hD6
  have N3 := Aside.mk n3
  have M1 := Aside.mk m1
  have M2 := Aside.mk m2
  have M3 := Aside.mk m3
  have M4 := Aside.mk m4
  have M5 := Aside.mk m5
  have M6 := Aside.mk m6
  have NX := Aside.mk nX
  clear n3 ok3 hD1 k1 m1 hD2 k2 m2 hD3 k3 m3 s3 hD4 k4 m4 s4 o4 w4 hD5 k5 m5 hD6 m6 e0 e1 e2 o0 o1 o2 v0 v1 nX x0 x1 x2 hDX
  obtain ⟨i0, hi, hz0, hzs, hzb⟩ := info_parts int_info
  have hb := Below.refl w.heap.size w
  have hse := str_beq
  go_enter Try.func7, Try.ntmps7
  go_wp2_with fail
  with_reducible refine (dev_examples _).mono ?_
  rintro e w1 ⟨rfl, hbb⟩
  replace hb := Below.next hb hbb
  clear hbb
  go_wp2_with fail
  clear hcS hcT hms hmt
  go_wp2_with fail
  with_reducible refine (dev_new' 3 3 rfl (by omega) (by omega) _).mono ?_
  rintro e w2 ⟨bA, fA, mA, rfl, hbA, hfA, hmA, dA, hbb⟩
  replace hbA := Nat.le_trans hb.size hbA
  replace hfA := Nat.le_trans hb.size hfA
  replace hmA := Nat.le_trans hb.size hmA
  replace hb := Below.next hb hbb
  clear hbb
  go_wp2_with fail
  obtain ⟨la, lf, lm⟩ := dA.lt
  have hown : w2.ownsRow w2.heap.size 3 1 (.slice none 0 0) ([] : List Int).length (([] : List Int).map (Value.int .i64)) := World.ownsRow_nil _ _ _ _
  generalize hN : w2.heap.size = N at *
  have hwN : w.heap.size ≤ N := by rw [← hN]; exact hb.size
  have hNs : N ≤ w2.heap.size := by rw [hN]; exact Nat.le_refl _
  clear hN
  refine wp_loop_rounds 4 ?_
  rw [rounds_succ]
  go_wp2_with fail
  with_reducible refine (dev_write_ok bA fA mA _ 0 0 rfl (by rw [N3.out]; omega) S hzS (live_new 3) _ dA).mono ?_
  rintro e w3 ⟨rfl, qA, hkk⟩
  replace hown := owns_dev hown hkk la lf lm
  replace hNs := Nat.le_trans hNs hkk.size
  replace hb := Below.dev hb hkk hb.size hbA hfA hmA
  clear dA hkk
  have dA := qA
  clear qA
  rw [HD1.out] at dA
  have hka : Keep (fun _ => False) w3 (w3.alloc (.cells #[.int .i64 0] 3)) := (Keep.refl _ _).alloc _
  go_wp2_with (at_builtin; refine wpList_append_own _ rfl _ _ 30 rfl N 3 i0 (.int .i64 0) 1 8 Try.underlying30 hi hz0 hzs hzb rfl (by decide) _ _ _ rfl (hown.alloc _) ⟨w3.heap.size, 0, none⟩ 1 1 [.int .i64 0] rfl rfl ?c1 ?c2 ?c3 ?c4 ?c5 ?_)
  all_goals first | (case c1 => intro j u hu; match j, hu with | 0, hu => cases hu; exact World.cell?_alloc_new _ _ _ 0) | skip
  all_goals first | (case c2 => intro u hu; rcases List.mem_singleton.1 hu with rfl; rfl) | (case c2 => rfl) | skip
  all_goals first | (case c3 => unfold maxLen; decide) | skip
  all_goals first | (case c4 => decide) | skip
  all_goals first | (case c5 => first | omega | (rw [World.size_alloc]; exact Nat.le_trans hNs (Nat.le_succ _))) | skip
  intro v0 w4 hown' hgrow _
  have hoa := hown.alloc (.cells #[.int .i64 0] 3)
  replace dA := dA.keep hka ⟨id, id, id⟩
  replace dA := dev_grown dA hoa hgrow la lf lm
  replace hb := (hb.alloc hb.size (.cells #[.int .i64 0] 3)).grown hgrow (by rw [World.size_alloc]; exact Nat.le_trans hb.size (Nat.le_succ _)) (fun k hk => Nat.le_trans hwN (hown.lt k hk).1)
  replace hNs := Nat.le_trans (Nat.le_trans hNs hka.size) hgrow.size
  clear hown hoa hgrow hka
  have hown : w4.ownsRow N 3 1 v0 ([(0 : Int)] : List Int).length (([(0 : Int)] : List Int).map (Value.int .i64)) := hown'
  clear hown'
  go_wp2_with fail
  rw [rounds_succ]
  go_wp2_with fail
  with_reducible refine (dev_write_ok bA fA mA _ 1 1 rfl (by rw [M1.out]; omega) S hzS l1 _ dA).mono ?_
  rintro e w5 ⟨rfl, qA, hkk⟩
  replace hown := owns_dev hown hkk la lf lm
  replace hNs := Nat.le_trans hNs hkk.size
  replace hb := Below.dev hb hkk hb.size hbA hfA hmA
  clear dA hkk
  have dA := qA
  clear qA
  rw [HD2.out] at dA
  go_wp2_with fail
  rw [rounds_succ]
  go_wp2_with fail
  with_reducible refine (dev_write_ok bA fA mA _ 2 2 rfl (by rw [M2.out]; omega) S hzS l2 _ dA).mono ?_
  rintro e w6 ⟨rfl, qA, hkk⟩
  replace hown := owns_dev hown hkk la lf lm
  replace hNs := Nat.le_trans hNs hkk.size
  replace hb := Below.dev hb hkk hb.size hbA hfA hmA
  clear dA hkk
  have dA := qA
  clear qA
  rw [HD3.out] at dA
  have hka : Keep (fun _ => False) w6 (w6.alloc (.cells #[.int .i64 2] 3)) := (Keep.refl _ _).alloc _
  go_wp2_with (at_builtin; refine wpList_append_own _ rfl _ _ 30 rfl N 3 i0 (.int .i64 0) 1 8 Try.underlying30 hi hz0 hzs hzb rfl (by decide) _ _ _ rfl (hown.alloc _) ⟨w6.heap.size, 0, none⟩ 1 1 [.int .i64 2] rfl rfl ?c1 ?c2 ?c3 ?c4 ?c5 ?_)
  all_goals first | (case c1 => intro j u hu; match j, hu with | 0, hu => cases hu; exact World.cell?_alloc_new _ _ _ 0) | skip
  all_goals first | (case c2 => intro u hu; rcases List.mem_singleton.1 hu with rfl; rfl) | (case c2 => rfl) | skip
  all_goals first | (case c3 => unfold maxLen; decide) | skip
  all_goals first | (case c4 => decide) | skip
  all_goals first | (case c5 => first | omega | (rw [World.size_alloc]; exact Nat.le_trans hNs (Nat.le_succ _))) | skip
  intro v2 w7 hown' hgrow _
  have hoa := hown.alloc (.cells #[.int .i64 2] 3)
  replace dA := dA.keep hka ⟨id, id, id⟩
  replace dA := dev_grown dA hoa hgrow la lf lm
  replace hb := (hb.alloc hb.size (.cells #[.int .i64 2] 3)).grown hgrow (by rw [World.size_alloc]; exact Nat.le_trans hb.size (Nat.le_succ _)) (fun k hk => Nat.le_trans hwN (hown.lt k hk).1)
  replace hNs := Nat.le_trans (Nat.le_trans hNs hka.size) hgrow.size
  clear hown hoa hgrow hka
  have hown : w7.ownsRow N 3 1 v2 ([(0 : Int), (2 : Int)] : List Int).length (([(0 : Int), (2 : Int)] : List Int).map (Value.int .i64)) := hown'
  clear hown'
  go_wp2_with fail
  rw [rounds_succ]
  go_wp2_with fail
  with_reducible refine (dev_flush_ok bA fA mA _ l3 _ dA).mono ?_
  rintro e w8 ⟨rfl, qA, hkk⟩
  replace hown := owns_dev hown hkk la lf lm
  replace hb := Below.dev hb hkk hb.size hbA hfA hmA
  clear dA hkk
  have dA := qA
  clear qA
  rw [HD4.out] at dA
  go_wp2_with fail
  with_reducible refine (dev_write_ok bA fA mA _ 0 0 rfl (by rw [M4.out]; omega) T hzT l4 _ dA).mono ?_
  rintro e w9 ⟨rfl, qA, hkk⟩
  replace hown := owns_dev hown hkk la lf lm
  replace hb := Below.dev hb hkk hb.size hbA hfA hmA
  clear dA hkk
  have dA := qA
  clear qA
  rw [HD5.out] at dA
  go_wp2_with fail
  with_reducible refine (dev_write_ok bA fA mA _ 1 1 rfl (by rw [M5.out]; omega) T hzT l5 _ dA).mono ?_
  rintro e w10 ⟨rfl, qA, hkk⟩
  replace hown := owns_dev hown hkk la lf lm
  replace hb := Below.dev hb hkk hb.size hbA hfA hmA
  clear dA hkk
  have dA := qA
  clear qA
  rw [HD6.out] at dA
  obtain ⟨aw, cw, hv, hsl⟩ := slI_owns hown
  subst hv
  clear hown
  go_wp2_with fail
  with_reducible refine (dev_after' bA fA mA _ aw 2 cw [(0 : Int), (2 : Int)] rfl _ dA (by decide) hsl).mono ?_
  rintro e w11 ⟨bX, fX, mX, rfl, hbX, hfX, hmX, dX, hbb⟩
  have apAX := dA.apart hbX hfX hmX
  have apXA := apAX.symm
  replace dA := dA.below hbb
  replace hbX := Nat.le_trans hb.size hbX
  replace hfX := Nat.le_trans hb.size hfX
  replace hmX := Nat.le_trans hb.size hmX
  replace hb := Below.next hb hbb
  clear hbb
  rw [HDX.out] at dX
  go_wp2_with fail
  refine wp_loop_rounds 4 ?_
  rw [rounds_succ]
  go_wp2_with fail
  with_reducible refine (law03_whole T hzT _).mono ?_
  rintro e w12 ⟨rfl, hbb⟩
  replace dA := dA.below hbb
  replace dX := dX.below hbb
  replace hb := Below.next hb hbb
  clear hbb
  go_wp2_with fail
  with_reducible refine (law03_whole S hzS _).mono ?_
  rintro e w13 ⟨rfl, hbb⟩
  replace dA := dA.below hbb
  replace dX := dX.below hbb
  replace hb := Below.next hb hbb
  clear hbb
  go_wp2_with fail
  with_reducible refine (dev_read_ok bX fX mX _ 0 0 rfl (by rw [NX.out]; omega) lX _ dX).mono ?_
  rintro e w14 ⟨rfl, hbb⟩
  replace dA := dA.below hbb
  replace dX := dX.below hbb
  replace hb := Below.next hb hbb
  clear hbb
  rw [X0.out]
  go_wp2_with fail
  rw [rounds_succ]
  go_wp2_with fail
  with_reducible refine (law03_whole T hzT _).mono ?_
  rintro e w15 ⟨rfl, hbb⟩
  replace dA := dA.below hbb
  replace dX := dX.below hbb
  replace hb := Below.next hb hbb
  clear hbb
  go_wp2_with fail
  with_reducible refine (dev_read_ok bX fX mX _ 1 1 rfl (by rw [NX.out]; omega) lX _ dX).mono ?_
  rintro e w16 ⟨rfl, hbb⟩
  replace dA := dA.below hbb
  replace dX := dX.below hbb
  replace hb := Below.next hb hbb
  clear hbb
  rw [X1.out]
  go_wp2_with fail
  rw [rounds_succ]
  go_wp2_with fail
  with_reducible refine (law03_whole T hzT _).mono ?_
  rintro e w17 ⟨rfl, hbb⟩
  replace dA := dA.below hbb
  replace dX := dX.below hbb
  replace hb := Below.next hb hbb
  clear hbb
  go_wp2_with fail
  with_reducible refine (law03_whole S hzS _).mono ?_
  rintro e w18 ⟨rfl, hbb⟩
  replace dA := dA.below hbb
  replace dX := dX.below hbb
  replace hb := Below.next hb hbb
  clear hbb
  go_wp2_with fail
  with_reducible refine (dev_read_ok bX fX mX _ 2 2 rfl (by rw [NX.out]; omega) lX _ dX).mono ?_
  rintro e w19 ⟨rfl, hbb⟩
  replace dA := dA.below hbb
  replace dX := dX.below hbb
  replace hb := Below.next hb hbb
  clear hbb
  rw [X2.out]
  go_wp2_with fail
  rw [rounds_succ]
  go_wp2_with fail
  with_reducible refine (dev_waiting' bX fX mX _ 0 HW.out _ dX).mono ?_
  rintro e w20 ⟨aw20, cw20, rfl, hbb⟩
  replace dA := dA.below hbb
  replace dX := dX.below hbb
  replace hb := Below.next hb hbb
  clear hbb
  have cX := dX.c3
  have HdX := Aside.mk lX.dead
  go_wp2_with fail
  with_reducible refine (dev_crashed bX fX mX _ _ dX).mono ?_
  rintro e w' ⟨rfl, rfl⟩
  rw [HdX.out]
  go_wp2_with fail
  go_ret
  exact ⟨rfl, hb⟩
set_option maxHeartbeats 3200000 in
set_option maxRecDepth 32000 in
theorem deviceKeeps_011 (s t : ByteArray) (n : Int) (hn : 0 ≤ n) (hn2 : n ≤ 255) (g0 : (n % 2 == 1) = false) (g1 : (n / 2 % 2 == 1) = true) (g2 : (n / 4 % 2 == 1) = true) (w : World) :
    Calls Try.prog 7 #[.string s, .string t, .int .u8 n] w fun e w' => e = .returned (.bool true) ∧ Below w.heap.size w w' := by
  obtain ⟨ms, hms, hms1, hms2⟩ : ∃ m : Nat, min (s.size : Int) 64 = (m : Int) ∧ m ≤ 64 ∧ m ≤ s.size := ⟨min s.size 64, by omega, by omega, by omega⟩
  obtain ⟨S, hcS, hzS⟩ : ∃ X, s.extract 0 ms = X ∧ X.size ≤ 64 := ⟨_, rfl, by rw [ByteArray.size_extract]; omega⟩
  obtain ⟨mt, hmt, hmt1, hmt2⟩ : ∃ m : Nat, min (t.size : Int) 64 = (m : Int) ∧ m ≤ 64 ∧ m ≤ t.size := ⟨min t.size 64, by omega, by omega, by omega⟩
  obtain ⟨T, hcT, hzT⟩ : ∃ X, t.extract 0 mt = X ∧ X.size ≤ 64 := ⟨_, rfl, by rw [ByteArray.size_extract]; omega⟩
  have n3 : (dnew 3).n = 3 := dnew_n 3
  have ok3 := dnew_ok 3 (by omega) (by omega)
  obtain ⟨D1, hD1⟩ : ∃ D, dset 0 S (dnew 3) = D := ⟨_, rfl⟩
  have k1 : D1.ok := by rw [← hD1]; exact dset_ok ok3 (by rw [n3]; omega) hzS
  have m1 : D1.n = 3 := by rw [← hD1]; exact n3
  have l1 : Live D1 := by rw [← hD1]; exact (live_new 3).set _ _
  obtain ⟨D2, hD2⟩ : ∃ D, dset 1 S D1 = D := ⟨_, rfl⟩
  have k2 : D2.ok := by rw [← hD2]; exact dset_ok k1 (by rw [m1]; omega) hzS
  have m2 : D2.n = 3 := by rw [← hD2]; exact m1
  have l2 : Live D2 := by rw [← hD2]; exact l1.set _ _
  obtain ⟨D3, hD3⟩ : ∃ D, dset 2 S D2 = D := ⟨_, rfl⟩
  have k3 : D3.ok := by rw [← hD3]; exact dset_ok k2 (by rw [m2]; omega) hzS
  have m3 : D3.n = 3 := by rw [← hD3]; exact m2
  have l3 : Live D3 := by rw [← hD3]; exact l2.set _ _
  have s3 : ∀ i, i < 3 → D3.s i = pad S := fun i hi => by
    rw [← hD3, dset_s k2 (by rw [m2]; omega)]
    split
    · rfl
    · rw [← hD2, dset_s k1 (by rw [m1]; omega)]
      split
      · rfl
      · rw [← hD1, dset_s ok3 (by rw [n3]; omega), if_pos (by omega)]
  obtain ⟨D4, hD4⟩ : ∃ D, dsettle D3 = D := ⟨_, rfl⟩
  have k4 : D4.ok := by rw [← hD4]; exact dsettle_ok k3
  have m4 : D4.n = 3 := by rw [← hD4, dsettle_n k3]; exact m3
  have l4 : Live D4 := by rw [← hD4]; exact l3.settle
  have s4 : ∀ i, i < 3 → D4.s i = pad S := fun i hi => by rw [← hD4]; exact s3 i hi
  have o4 : ∀ i, i < 3 → D4.o i = pad S := fun i hi => by rw [← hD4]; exact s3 i hi
  have w4 : ∀ i, D4.w i = false := fun i => by rw [← hD4]; exact getD_rep _ _ _
  obtain ⟨D5, hD5⟩ : ∃ D, dset 0 T D4 = D := ⟨_, rfl⟩
  have k5 : D5.ok := by rw [← hD5]; exact dset_ok k4 (by rw [m4]; omega) hzT
  have m5 : D5.n = 3 := by rw [← hD5]; exact m4
  have l5 : Live D5 := by rw [← hD5]; exact l4.set _ _
  obtain ⟨D6, hD6⟩ : ∃ D, dset 1 T D5 = D := ⟨_, rfl⟩
  have m6 : D6.n = 3 := by rw [← hD6]; exact m5
  have e0 : D6.s 0 = pad T := by rw [← hD6, dset_s k5 (by rw [m5]; omega), if_neg (by decide), ← hD5, dset_s k4 (by rw [m4]; omega), if_pos rfl]
  have e1 : D6.s 1 = pad T := by rw [← hD6, dset_s k5 (by rw [m5]; omega), if_pos rfl]
  have e2 : D6.s 2 = pad S := by rw [← hD6, dset_s k5 (by rw [m5]; omega), if_neg (by decide), ← hD5, dset_s k4 (by rw [m4]; omega), if_neg (by decide), s4 2 (by omega)]
  have o0 : D6.o 0 = pad S := by rw [← hD6, ← hD5]; exact o4 0 (by omega)
  have o1 : D6.o 1 = pad S := by rw [← hD6, ← hD5]; exact o4 1 (by omega)
  have o2 : D6.o 2 = pad S := by rw [← hD6, ← hD5]; exact o4 2 (by omega)
  have v0 : D6.w 0 = true := by rw [← hD6, dset_w k5 (by rw [m5]; omega), if_neg (by decide), ← hD5, dset_w k4 (by rw [m4]; omega), if_pos rfl]
  have v1 : D6.w 1 = true := by rw [← hD6, dset_w k5 (by rw [m5]; omega), if_pos rfl]
  have nX : (dafter D6 [(1 : Int), (2 : Int)]).n = 3 := by rw [dafter_n, m6]
  have x0 : (dafter D6 [(1 : Int), (2 : Int)]).s 0 = pad T := by rw [dafter_at (by rw [m6]; omega)]; unfold aft; rw [if_neg (by simp)]; exact e0
  have X0 := Aside.mk x0
  have x1 : (dafter D6 [(1 : Int), (2 : Int)]).s 1 = pad S := by rw [dafter_at (by rw [m6]; omega)]; unfold aft; rw [if_pos ⟨v1, by simp⟩]; exact o1
  have X1 := Aside.mk x1
  have x2 : (dafter D6 [(1 : Int), (2 : Int)]).s 2 = pad S := by rw [dafter_at (by rw [m6]; omega)]; unfold aft; split; exact o2; exact e2
  have X2 := Aside.mk x2
  have HW := Aside.mk (show (dwaiting (dafter D6 [(1 : Int), (2 : Int)])).length = 0 from (by
    unfold dwaiting
    rw [List.filter_eq_nil_iff.2 (fun i _ => by rw [dafter_w]; simp)]; rfl))
  obtain ⟨DX, hDX⟩ : ∃ D, dafter D6 [(1 : Int), (2 : Int)] = D := ⟨_, rfl⟩
  have lX : Live DX := by rw [← hDX]; exact live_after _ _
  rw [hDX] at nX HW X0 X1 X2
  have HDX := Aside.mk hDX
  have HD1 := Aside.mk hD1
  have HD2 := Aside.mk hD2
  have HD3 := Aside.mk hD3
  have HD4 := Aside.mk hD4
  have HD5 := Aside.mk hD5
  have HD6 := Aside.mk hD6
  have N3 := Aside.mk n3
  have M1 := Aside.mk m1
  have M2 := Aside.mk m2
  have M3 := Aside.mk m3
  have M4 := Aside.mk m4
  have M5 := Aside.mk m5
  have M6 := Aside.mk m6
  have NX := Aside.mk nX
  clear n3 ok3 hD1 k1 m1 hD2 k2 m2 hD3 k3 m3 s3 hD4 k4 m4 s4 o4 w4 hD5 k5 m5 hD6 m6 e0 e1 e2 o0 o1 o2 v0 v1 nX x0 x1 x2 hDX
  obtain ⟨i0, hi, hz0, hzs, hzb⟩ := info_parts int_info
  have hb := Below.refl w.heap.size w
  have hse := str_beq
  go_enter Try.func7, Try.ntmps7
  go_wp2_with fail
  with_reducible refine (dev_examples _).mono ?_
  rintro e w1 ⟨rfl, hbb⟩
  replace hb := Below.next hb hbb
  clear hbb
  go_wp2_with fail
  clear hcS hcT hms hmt
  go_wp2_with fail
  with_reducible refine (dev_new' 3 3 rfl (by omega) (by omega) _).mono ?_
  rintro e w2 ⟨bA, fA, mA, rfl, hbA, hfA, hmA, dA, hbb⟩
  replace hbA := Nat.le_trans hb.size hbA
  replace hfA := Nat.le_trans hb.size hfA
  replace hmA := Nat.le_trans hb.size hmA
  replace hb := Below.next hb hbb
  clear hbb
  go_wp2_with fail
  obtain ⟨la, lf, lm⟩ := dA.lt
  have hown : w2.ownsRow w2.heap.size 3 1 (.slice none 0 0) ([] : List Int).length (([] : List Int).map (Value.int .i64)) := World.ownsRow_nil _ _ _ _
  generalize hN : w2.heap.size = N at *
  have hwN : w.heap.size ≤ N := by rw [← hN]; exact hb.size
  have hNs : N ≤ w2.heap.size := by rw [hN]; exact Nat.le_refl _
  clear hN
  refine wp_loop_rounds 4 ?_
  rw [rounds_succ]
  go_wp2_with fail
  with_reducible refine (dev_write_ok bA fA mA _ 0 0 rfl (by rw [N3.out]; omega) S hzS (live_new 3) _ dA).mono ?_
  rintro e w3 ⟨rfl, qA, hkk⟩
  replace hown := owns_dev hown hkk la lf lm
  replace hNs := Nat.le_trans hNs hkk.size
  replace hb := Below.dev hb hkk hb.size hbA hfA hmA
  clear dA hkk
  have dA := qA
  clear qA
  rw [HD1.out] at dA
  go_wp2_with fail
  rw [rounds_succ]
  go_wp2_with fail
  with_reducible refine (dev_write_ok bA fA mA _ 1 1 rfl (by rw [M1.out]; omega) S hzS l1 _ dA).mono ?_
  rintro e w4 ⟨rfl, qA, hkk⟩
  replace hown := owns_dev hown hkk la lf lm
  replace hNs := Nat.le_trans hNs hkk.size
  replace hb := Below.dev hb hkk hb.size hbA hfA hmA
  clear dA hkk
  have dA := qA
  clear qA
  rw [HD2.out] at dA
  have hka : Keep (fun _ => False) w4 (w4.alloc (.cells #[.int .i64 1] 3)) := (Keep.refl _ _).alloc _
  go_wp2_with (at_builtin; refine wpList_append_own _ rfl _ _ 30 rfl N 3 i0 (.int .i64 0) 1 8 Try.underlying30 hi hz0 hzs hzb rfl (by decide) _ _ _ rfl (hown.alloc _) ⟨w4.heap.size, 0, none⟩ 1 1 [.int .i64 1] rfl rfl ?c1 ?c2 ?c3 ?c4 ?c5 ?_)
  all_goals first | (case c1 => intro j u hu; match j, hu with | 0, hu => cases hu; exact World.cell?_alloc_new _ _ _ 0) | skip
  all_goals first | (case c2 => intro u hu; rcases List.mem_singleton.1 hu with rfl; rfl) | (case c2 => rfl) | skip
  all_goals first | (case c3 => unfold maxLen; decide) | skip
  all_goals first | (case c4 => decide) | skip
  all_goals first | (case c5 => first | omega | (rw [World.size_alloc]; exact Nat.le_trans hNs (Nat.le_succ _))) | skip
  intro v1 w5 hown' hgrow _
  have hoa := hown.alloc (.cells #[.int .i64 1] 3)
  replace dA := dA.keep hka ⟨id, id, id⟩
  replace dA := dev_grown dA hoa hgrow la lf lm
  replace hb := (hb.alloc hb.size (.cells #[.int .i64 1] 3)).grown hgrow (by rw [World.size_alloc]; exact Nat.le_trans hb.size (Nat.le_succ _)) (fun k hk => Nat.le_trans hwN (hown.lt k hk).1)
  replace hNs := Nat.le_trans (Nat.le_trans hNs hka.size) hgrow.size
  clear hown hoa hgrow hka
  have hown : w5.ownsRow N 3 1 v1 ([(1 : Int)] : List Int).length (([(1 : Int)] : List Int).map (Value.int .i64)) := hown'
  clear hown'
  go_wp2_with fail
  rw [rounds_succ]
  go_wp2_with fail
  with_reducible refine (dev_write_ok bA fA mA _ 2 2 rfl (by rw [M2.out]; omega) S hzS l2 _ dA).mono ?_
  rintro e w6 ⟨rfl, qA, hkk⟩
  replace hown := owns_dev hown hkk la lf lm
  replace hNs := Nat.le_trans hNs hkk.size
  replace hb := Below.dev hb hkk hb.size hbA hfA hmA
  clear dA hkk
  have dA := qA
  clear qA
  rw [HD3.out] at dA
  have hka : Keep (fun _ => False) w6 (w6.alloc (.cells #[.int .i64 2] 3)) := (Keep.refl _ _).alloc _
  go_wp2_with (at_builtin; refine wpList_append_own _ rfl _ _ 30 rfl N 3 i0 (.int .i64 0) 1 8 Try.underlying30 hi hz0 hzs hzb rfl (by decide) _ _ _ rfl (hown.alloc _) ⟨w6.heap.size, 0, none⟩ 1 1 [.int .i64 2] rfl rfl ?c1 ?c2 ?c3 ?c4 ?c5 ?_)
  all_goals first | (case c1 => intro j u hu; match j, hu with | 0, hu => cases hu; exact World.cell?_alloc_new _ _ _ 0) | skip
  all_goals first | (case c2 => intro u hu; rcases List.mem_singleton.1 hu with rfl; rfl) | (case c2 => rfl) | skip
  all_goals first | (case c3 => unfold maxLen; decide) | skip
  all_goals first | (case c4 => decide) | skip
  all_goals first | (case c5 => first | omega | (rw [World.size_alloc]; exact Nat.le_trans hNs (Nat.le_succ _))) | skip
  intro v2 w7 hown' hgrow _
  have hoa := hown.alloc (.cells #[.int .i64 2] 3)
  replace dA := dA.keep hka ⟨id, id, id⟩
  replace dA := dev_grown dA hoa hgrow la lf lm
  replace hb := (hb.alloc hb.size (.cells #[.int .i64 2] 3)).grown hgrow (by rw [World.size_alloc]; exact Nat.le_trans hb.size (Nat.le_succ _)) (fun k hk => Nat.le_trans hwN (hown.lt k hk).1)
  replace hNs := Nat.le_trans (Nat.le_trans hNs hka.size) hgrow.size
  clear hown hoa hgrow hka
  have hown : w7.ownsRow N 3 1 v2 ([(1 : Int), (2 : Int)] : List Int).length (([(1 : Int), (2 : Int)] : List Int).map (Value.int .i64)) := hown'
  clear hown'
  go_wp2_with fail
  rw [rounds_succ]
  go_wp2_with fail
  with_reducible refine (dev_flush_ok bA fA mA _ l3 _ dA).mono ?_
  rintro e w8 ⟨rfl, qA, hkk⟩
  replace hown := owns_dev hown hkk la lf lm
  replace hb := Below.dev hb hkk hb.size hbA hfA hmA
  clear dA hkk
  have dA := qA
  clear qA
  rw [HD4.out] at dA
  go_wp2_with fail
  with_reducible refine (dev_write_ok bA fA mA _ 0 0 rfl (by rw [M4.out]; omega) T hzT l4 _ dA).mono ?_
  rintro e w9 ⟨rfl, qA, hkk⟩
  replace hown := owns_dev hown hkk la lf lm
  replace hb := Below.dev hb hkk hb.size hbA hfA hmA
  clear dA hkk
  have dA := qA
  clear qA
  rw [HD5.out] at dA
  go_wp2_with fail
  with_reducible refine (dev_write_ok bA fA mA _ 1 1 rfl (by rw [M5.out]; omega) T hzT l5 _ dA).mono ?_
  rintro e w10 ⟨rfl, qA, hkk⟩
  replace hown := owns_dev hown hkk la lf lm
  replace hb := Below.dev hb hkk hb.size hbA hfA hmA
  clear dA hkk
  have dA := qA
  clear qA
  rw [HD6.out] at dA
  obtain ⟨aw, cw, hv, hsl⟩ := slI_owns hown
  subst hv
  clear hown
  go_wp2_with fail
  with_reducible refine (dev_after' bA fA mA _ aw 2 cw [(1 : Int), (2 : Int)] rfl _ dA (by decide) hsl).mono ?_
  rintro e w11 ⟨bX, fX, mX, rfl, hbX, hfX, hmX, dX, hbb⟩
  have apAX := dA.apart hbX hfX hmX
  have apXA := apAX.symm
  replace dA := dA.below hbb
  replace hbX := Nat.le_trans hb.size hbX
  replace hfX := Nat.le_trans hb.size hfX
  replace hmX := Nat.le_trans hb.size hmX
  replace hb := Below.next hb hbb
  clear hbb
  rw [HDX.out] at dX
  go_wp2_with fail
  refine wp_loop_rounds 4 ?_
  rw [rounds_succ]
  go_wp2_with fail
  with_reducible refine (law03_whole T hzT _).mono ?_
  rintro e w12 ⟨rfl, hbb⟩
  replace dA := dA.below hbb
  replace dX := dX.below hbb
  replace hb := Below.next hb hbb
  clear hbb
  go_wp2_with fail
  with_reducible refine (dev_read_ok bX fX mX _ 0 0 rfl (by rw [NX.out]; omega) lX _ dX).mono ?_
  rintro e w13 ⟨rfl, hbb⟩
  replace dA := dA.below hbb
  replace dX := dX.below hbb
  replace hb := Below.next hb hbb
  clear hbb
  rw [X0.out]
  go_wp2_with fail
  rw [rounds_succ]
  go_wp2_with fail
  with_reducible refine (law03_whole T hzT _).mono ?_
  rintro e w14 ⟨rfl, hbb⟩
  replace dA := dA.below hbb
  replace dX := dX.below hbb
  replace hb := Below.next hb hbb
  clear hbb
  go_wp2_with fail
  with_reducible refine (law03_whole S hzS _).mono ?_
  rintro e w15 ⟨rfl, hbb⟩
  replace dA := dA.below hbb
  replace dX := dX.below hbb
  replace hb := Below.next hb hbb
  clear hbb
  go_wp2_with fail
  with_reducible refine (dev_read_ok bX fX mX _ 1 1 rfl (by rw [NX.out]; omega) lX _ dX).mono ?_
  rintro e w16 ⟨rfl, hbb⟩
  replace dA := dA.below hbb
  replace dX := dX.below hbb
  replace hb := Below.next hb hbb
  clear hbb
  rw [X1.out]
  go_wp2_with fail
  rw [rounds_succ]
  go_wp2_with fail
  with_reducible refine (law03_whole T hzT _).mono ?_
  rintro e w17 ⟨rfl, hbb⟩
  replace dA := dA.below hbb
  replace dX := dX.below hbb
  replace hb := Below.next hb hbb
  clear hbb
  go_wp2_with fail
  with_reducible refine (law03_whole S hzS _).mono ?_
  rintro e w18 ⟨rfl, hbb⟩
  replace dA := dA.below hbb
  replace dX := dX.below hbb
  replace hb := Below.next hb hbb
  clear hbb
  go_wp2_with fail
  with_reducible refine (dev_read_ok bX fX mX _ 2 2 rfl (by rw [NX.out]; omega) lX _ dX).mono ?_
  rintro e w19 ⟨rfl, hbb⟩
  replace dA := dA.below hbb
  replace dX := dX.below hbb
  replace hb := Below.next hb hbb
  clear hbb
  rw [X2.out]
  go_wp2_with fail
  rw [rounds_succ]
  go_wp2_with fail
  with_reducible refine (dev_waiting' bX fX mX _ 0 HW.out _ dX).mono ?_
  rintro e w20 ⟨aw20, cw20, rfl, hbb⟩
  replace dA := dA.below hbb
  replace dX := dX.below hbb
  replace hb := Below.next hb hbb
  clear hbb
  have cX := dX.c3
  have HdX := Aside.mk lX.dead
  go_wp2_with fail
  with_reducible refine (dev_crashed bX fX mX _ _ dX).mono ?_
  rintro e w' ⟨rfl, rfl⟩
  rw [HdX.out]
  go_wp2_with fail
  go_ret
  exact ⟨rfl, hb⟩
set_option maxHeartbeats 3200000 in
set_option maxRecDepth 32000 in
theorem deviceKeeps_111 (s t : ByteArray) (n : Int) (hn : 0 ≤ n) (hn2 : n ≤ 255) (g0 : (n % 2 == 1) = true) (g1 : (n / 2 % 2 == 1) = true) (g2 : (n / 4 % 2 == 1) = true) (w : World) :
    Calls Try.prog 7 #[.string s, .string t, .int .u8 n] w fun e w' => e = .returned (.bool true) ∧ Below w.heap.size w w' := by
  obtain ⟨ms, hms, hms1, hms2⟩ : ∃ m : Nat, min (s.size : Int) 64 = (m : Int) ∧ m ≤ 64 ∧ m ≤ s.size := ⟨min s.size 64, by omega, by omega, by omega⟩
  obtain ⟨S, hcS, hzS⟩ : ∃ X, s.extract 0 ms = X ∧ X.size ≤ 64 := ⟨_, rfl, by rw [ByteArray.size_extract]; omega⟩
  obtain ⟨mt, hmt, hmt1, hmt2⟩ : ∃ m : Nat, min (t.size : Int) 64 = (m : Int) ∧ m ≤ 64 ∧ m ≤ t.size := ⟨min t.size 64, by omega, by omega, by omega⟩
  obtain ⟨T, hcT, hzT⟩ : ∃ X, t.extract 0 mt = X ∧ X.size ≤ 64 := ⟨_, rfl, by rw [ByteArray.size_extract]; omega⟩
  have n3 : (dnew 3).n = 3 := dnew_n 3
  have ok3 := dnew_ok 3 (by omega) (by omega)
  obtain ⟨D1, hD1⟩ : ∃ D, dset 0 S (dnew 3) = D := ⟨_, rfl⟩
  have k1 : D1.ok := by rw [← hD1]; exact dset_ok ok3 (by rw [n3]; omega) hzS
  have m1 : D1.n = 3 := by rw [← hD1]; exact n3
  have l1 : Live D1 := by rw [← hD1]; exact (live_new 3).set _ _
  obtain ⟨D2, hD2⟩ : ∃ D, dset 1 S D1 = D := ⟨_, rfl⟩
  have k2 : D2.ok := by rw [← hD2]; exact dset_ok k1 (by rw [m1]; omega) hzS
  have m2 : D2.n = 3 := by rw [← hD2]; exact m1
  have l2 : Live D2 := by rw [← hD2]; exact l1.set _ _
  obtain ⟨D3, hD3⟩ : ∃ D, dset 2 S D2 = D := ⟨_, rfl⟩
  have k3 : D3.ok := by rw [← hD3]; exact dset_ok k2 (by rw [m2]; omega) hzS
  have m3 : D3.n = 3 := by rw [← hD3]; exact m2
  have l3 : Live D3 := by rw [← hD3]; exact l2.set _ _
  have s3 : ∀ i, i < 3 → D3.s i = pad S := fun i hi => by
    rw [← hD3, dset_s k2 (by rw [m2]; omega)]
    split
    · rfl
    · rw [← hD2, dset_s k1 (by rw [m1]; omega)]
      split
      · rfl
      · rw [← hD1, dset_s ok3 (by rw [n3]; omega), if_pos (by omega)]
  obtain ⟨D4, hD4⟩ : ∃ D, dsettle D3 = D := ⟨_, rfl⟩
  have k4 : D4.ok := by rw [← hD4]; exact dsettle_ok k3
  have m4 : D4.n = 3 := by rw [← hD4, dsettle_n k3]; exact m3
  have l4 : Live D4 := by rw [← hD4]; exact l3.settle
  have s4 : ∀ i, i < 3 → D4.s i = pad S := fun i hi => by rw [← hD4]; exact s3 i hi
  have o4 : ∀ i, i < 3 → D4.o i = pad S := fun i hi => by rw [← hD4]; exact s3 i hi
  have w4 : ∀ i, D4.w i = false := fun i => by rw [← hD4]; exact getD_rep _ _ _
  obtain ⟨D5, hD5⟩ : ∃ D, dset 0 T D4 = D := ⟨_, rfl⟩
  have k5 : D5.ok := by rw [← hD5]; exact dset_ok k4 (by rw [m4]; omega) hzT
  have m5 : D5.n = 3 := by rw [← hD5]; exact m4
  have l5 : Live D5 := by rw [← hD5]; exact l4.set _ _
  obtain ⟨D6, hD6⟩ : ∃ D, dset 1 T D5 = D := ⟨_, rfl⟩
  have m6 : D6.n = 3 := by rw [← hD6]; exact m5
  have e0 : D6.s 0 = pad T := by rw [← hD6, dset_s k5 (by rw [m5]; omega), if_neg (by decide), ← hD5, dset_s k4 (by rw [m4]; omega), if_pos rfl]
  have e1 : D6.s 1 = pad T := by rw [← hD6, dset_s k5 (by rw [m5]; omega), if_pos rfl]
  have e2 : D6.s 2 = pad S := by rw [← hD6, dset_s k5 (by rw [m5]; omega), if_neg (by decide), ← hD5, dset_s k4 (by rw [m4]; omega), if_neg (by decide), s4 2 (by omega)]
  have o0 : D6.o 0 = pad S := by rw [← hD6, ← hD5]; exact o4 0 (by omega)
  have o1 : D6.o 1 = pad S := by rw [← hD6, ← hD5]; exact o4 1 (by omega)
  have o2 : D6.o 2 = pad S := by rw [← hD6, ← hD5]; exact o4 2 (by omega)
  have v0 : D6.w 0 = true := by rw [← hD6, dset_w k5 (by rw [m5]; omega), if_neg (by decide), ← hD5, dset_w k4 (by rw [m4]; omega), if_pos rfl]
  have v1 : D6.w 1 = true := by rw [← hD6, dset_w k5 (by rw [m5]; omega), if_pos rfl]
  have nX : (dafter D6 [(0 : Int), (1 : Int), (2 : Int)]).n = 3 := by rw [dafter_n, m6]
  have x0 : (dafter D6 [(0 : Int), (1 : Int), (2 : Int)]).s 0 = pad S := by rw [dafter_at (by rw [m6]; omega)]; unfold aft; rw [if_pos ⟨v0, by simp⟩]; exact o0
  have X0 := Aside.mk x0
  have x1 : (dafter D6 [(0 : Int), (1 : Int), (2 : Int)]).s 1 = pad S := by rw [dafter_at (by rw [m6]; omega)]; unfold aft; rw [if_pos ⟨v1, by simp⟩]; exact o1
  have X1 := Aside.mk x1
  have x2 : (dafter D6 [(0 : Int), (1 : Int), (2 : Int)]).s 2 = pad S := by rw [dafter_at (by rw [m6]; omega)]; unfold aft; split; exact o2; exact e2
  have X2 := Aside.mk x2
  have HW := Aside.mk (show (dwaiting (dafter D6 [(0 : Int), (1 : Int), (2 : Int)])).length = 0 from (by
    unfold dwaiting
    rw [List.filter_eq_nil_iff.2 (fun i _ => by rw [dafter_w]; simp)]; rfl))
  obtain ⟨DX, hDX⟩ : ∃ D, dafter D6 [(0 : Int), (1 : Int), (2 : Int)] = D := ⟨_, rfl⟩
  have lX : Live DX := by rw [← hDX]; exact live_after _ _
  rw [hDX] at nX HW X0 X1 X2
  have HDX := Aside.mk hDX
  have HD1 := Aside.mk hD1
  have HD2 := Aside.mk hD2
  have HD3 := Aside.mk hD3
  have HD4 := Aside.mk hD4
  have HD5 := Aside.mk hD5
  have HD6 := Aside.mk hD6
  have N3 := Aside.mk n3
  have M1 := Aside.mk m1
  have M2 := Aside.mk m2
  have M3 := Aside.mk m3
  have M4 := Aside.mk m4
  have M5 := Aside.mk m5
  have M6 := Aside.mk m6
  have NX := Aside.mk nX
  clear n3 ok3 hD1 k1 m1 hD2 k2 m2 hD3 k3 m3 s3 hD4 k4 m4 s4 o4 w4 hD5 k5 m5 hD6 m6 e0 e1 e2 o0 o1 o2 v0 v1 nX x0 x1 x2 hDX
  obtain ⟨i0, hi, hz0, hzs, hzb⟩ := info_parts int_info
  have hb := Below.refl w.heap.size w
  have hse := str_beq
  go_enter Try.func7, Try.ntmps7
  go_wp2_with fail
  with_reducible refine (dev_examples _).mono ?_
  rintro e w1 ⟨rfl, hbb⟩
  replace hb := Below.next hb hbb
  clear hbb
  go_wp2_with fail
  clear hcS hcT hms hmt
  go_wp2_with fail
  with_reducible refine (dev_new' 3 3 rfl (by omega) (by omega) _).mono ?_
  rintro e w2 ⟨bA, fA, mA, rfl, hbA, hfA, hmA, dA, hbb⟩
  replace hbA := Nat.le_trans hb.size hbA
  replace hfA := Nat.le_trans hb.size hfA
  replace hmA := Nat.le_trans hb.size hmA
  replace hb := Below.next hb hbb
  clear hbb
  go_wp2_with fail
  obtain ⟨la, lf, lm⟩ := dA.lt
  have hown : w2.ownsRow w2.heap.size 3 1 (.slice none 0 0) ([] : List Int).length (([] : List Int).map (Value.int .i64)) := World.ownsRow_nil _ _ _ _
  generalize hN : w2.heap.size = N at *
  have hwN : w.heap.size ≤ N := by rw [← hN]; exact hb.size
  have hNs : N ≤ w2.heap.size := by rw [hN]; exact Nat.le_refl _
  clear hN
  refine wp_loop_rounds 4 ?_
  rw [rounds_succ]
  go_wp2_with fail
  with_reducible refine (dev_write_ok bA fA mA _ 0 0 rfl (by rw [N3.out]; omega) S hzS (live_new 3) _ dA).mono ?_
  rintro e w3 ⟨rfl, qA, hkk⟩
  replace hown := owns_dev hown hkk la lf lm
  replace hNs := Nat.le_trans hNs hkk.size
  replace hb := Below.dev hb hkk hb.size hbA hfA hmA
  clear dA hkk
  have dA := qA
  clear qA
  rw [HD1.out] at dA
  have hka : Keep (fun _ => False) w3 (w3.alloc (.cells #[.int .i64 0] 3)) := (Keep.refl _ _).alloc _
  go_wp2_with (at_builtin; refine wpList_append_own _ rfl _ _ 30 rfl N 3 i0 (.int .i64 0) 1 8 Try.underlying30 hi hz0 hzs hzb rfl (by decide) _ _ _ rfl (hown.alloc _) ⟨w3.heap.size, 0, none⟩ 1 1 [.int .i64 0] rfl rfl ?c1 ?c2 ?c3 ?c4 ?c5 ?_)
  all_goals first | (case c1 => intro j u hu; match j, hu with | 0, hu => cases hu; exact World.cell?_alloc_new _ _ _ 0) | skip
  all_goals first | (case c2 => intro u hu; rcases List.mem_singleton.1 hu with rfl; rfl) | (case c2 => rfl) | skip
  all_goals first | (case c3 => unfold maxLen; decide) | skip
  all_goals first | (case c4 => decide) | skip
  all_goals first | (case c5 => first | omega | (rw [World.size_alloc]; exact Nat.le_trans hNs (Nat.le_succ _))) | skip
  intro v0 w4 hown' hgrow _
  have hoa := hown.alloc (.cells #[.int .i64 0] 3)
  replace dA := dA.keep hka ⟨id, id, id⟩
  replace dA := dev_grown dA hoa hgrow la lf lm
  replace hb := (hb.alloc hb.size (.cells #[.int .i64 0] 3)).grown hgrow (by rw [World.size_alloc]; exact Nat.le_trans hb.size (Nat.le_succ _)) (fun k hk => Nat.le_trans hwN (hown.lt k hk).1)
  replace hNs := Nat.le_trans (Nat.le_trans hNs hka.size) hgrow.size
  clear hown hoa hgrow hka
  have hown : w4.ownsRow N 3 1 v0 ([(0 : Int)] : List Int).length (([(0 : Int)] : List Int).map (Value.int .i64)) := hown'
  clear hown'
  go_wp2_with fail
  rw [rounds_succ]
  go_wp2_with fail
  with_reducible refine (dev_write_ok bA fA mA _ 1 1 rfl (by rw [M1.out]; omega) S hzS l1 _ dA).mono ?_
  rintro e w5 ⟨rfl, qA, hkk⟩
  replace hown := owns_dev hown hkk la lf lm
  replace hNs := Nat.le_trans hNs hkk.size
  replace hb := Below.dev hb hkk hb.size hbA hfA hmA
  clear dA hkk
  have dA := qA
  clear qA
  rw [HD2.out] at dA
  have hka : Keep (fun _ => False) w5 (w5.alloc (.cells #[.int .i64 1] 3)) := (Keep.refl _ _).alloc _
  go_wp2_with (at_builtin; refine wpList_append_own _ rfl _ _ 30 rfl N 3 i0 (.int .i64 0) 1 8 Try.underlying30 hi hz0 hzs hzb rfl (by decide) _ _ _ rfl (hown.alloc _) ⟨w5.heap.size, 0, none⟩ 1 1 [.int .i64 1] rfl rfl ?c1 ?c2 ?c3 ?c4 ?c5 ?_)
  all_goals first | (case c1 => intro j u hu; match j, hu with | 0, hu => cases hu; exact World.cell?_alloc_new _ _ _ 0) | skip
  all_goals first | (case c2 => intro u hu; rcases List.mem_singleton.1 hu with rfl; rfl) | (case c2 => rfl) | skip
  all_goals first | (case c3 => unfold maxLen; decide) | skip
  all_goals first | (case c4 => decide) | skip
  all_goals first | (case c5 => first | omega | (rw [World.size_alloc]; exact Nat.le_trans hNs (Nat.le_succ _))) | skip
  intro v1 w6 hown' hgrow _
  have hoa := hown.alloc (.cells #[.int .i64 1] 3)
  replace dA := dA.keep hka ⟨id, id, id⟩
  replace dA := dev_grown dA hoa hgrow la lf lm
  replace hb := (hb.alloc hb.size (.cells #[.int .i64 1] 3)).grown hgrow (by rw [World.size_alloc]; exact Nat.le_trans hb.size (Nat.le_succ _)) (fun k hk => Nat.le_trans hwN (hown.lt k hk).1)
  replace hNs := Nat.le_trans (Nat.le_trans hNs hka.size) hgrow.size
  clear hown hoa hgrow hka
  have hown : w6.ownsRow N 3 1 v1 ([(0 : Int), (1 : Int)] : List Int).length (([(0 : Int), (1 : Int)] : List Int).map (Value.int .i64)) := hown'
  clear hown'
  go_wp2_with fail
  rw [rounds_succ]
  go_wp2_with fail
  with_reducible refine (dev_write_ok bA fA mA _ 2 2 rfl (by rw [M2.out]; omega) S hzS l2 _ dA).mono ?_
  rintro e w7 ⟨rfl, qA, hkk⟩
  replace hown := owns_dev hown hkk la lf lm
  replace hNs := Nat.le_trans hNs hkk.size
  replace hb := Below.dev hb hkk hb.size hbA hfA hmA
  clear dA hkk
  have dA := qA
  clear qA
  rw [HD3.out] at dA
  have hka : Keep (fun _ => False) w7 (w7.alloc (.cells #[.int .i64 2] 3)) := (Keep.refl _ _).alloc _
  go_wp2_with (at_builtin; refine wpList_append_own _ rfl _ _ 30 rfl N 3 i0 (.int .i64 0) 1 8 Try.underlying30 hi hz0 hzs hzb rfl (by decide) _ _ _ rfl (hown.alloc _) ⟨w7.heap.size, 0, none⟩ 1 1 [.int .i64 2] rfl rfl ?c1 ?c2 ?c3 ?c4 ?c5 ?_)
  all_goals first | (case c1 => intro j u hu; match j, hu with | 0, hu => cases hu; exact World.cell?_alloc_new _ _ _ 0) | skip
  all_goals first | (case c2 => intro u hu; rcases List.mem_singleton.1 hu with rfl; rfl) | (case c2 => rfl) | skip
  all_goals first | (case c3 => unfold maxLen; decide) | skip
  all_goals first | (case c4 => decide) | skip
  all_goals first | (case c5 => first | omega | (rw [World.size_alloc]; exact Nat.le_trans hNs (Nat.le_succ _))) | skip
  intro v2 w8 hown' hgrow _
  have hoa := hown.alloc (.cells #[.int .i64 2] 3)
  replace dA := dA.keep hka ⟨id, id, id⟩
  replace dA := dev_grown dA hoa hgrow la lf lm
  replace hb := (hb.alloc hb.size (.cells #[.int .i64 2] 3)).grown hgrow (by rw [World.size_alloc]; exact Nat.le_trans hb.size (Nat.le_succ _)) (fun k hk => Nat.le_trans hwN (hown.lt k hk).1)
  replace hNs := Nat.le_trans (Nat.le_trans hNs hka.size) hgrow.size
  clear hown hoa hgrow hka
  have hown : w8.ownsRow N 3 1 v2 ([(0 : Int), (1 : Int), (2 : Int)] : List Int).length (([(0 : Int), (1 : Int), (2 : Int)] : List Int).map (Value.int .i64)) := hown'
  clear hown'
  go_wp2_with fail
  rw [rounds_succ]
  go_wp2_with fail
  with_reducible refine (dev_flush_ok bA fA mA _ l3 _ dA).mono ?_
  rintro e w9 ⟨rfl, qA, hkk⟩
  replace hown := owns_dev hown hkk la lf lm
  replace hb := Below.dev hb hkk hb.size hbA hfA hmA
  clear dA hkk
  have dA := qA
  clear qA
  rw [HD4.out] at dA
  go_wp2_with fail
  with_reducible refine (dev_write_ok bA fA mA _ 0 0 rfl (by rw [M4.out]; omega) T hzT l4 _ dA).mono ?_
  rintro e w10 ⟨rfl, qA, hkk⟩
  replace hown := owns_dev hown hkk la lf lm
  replace hb := Below.dev hb hkk hb.size hbA hfA hmA
  clear dA hkk
  have dA := qA
  clear qA
  rw [HD5.out] at dA
  go_wp2_with fail
  with_reducible refine (dev_write_ok bA fA mA _ 1 1 rfl (by rw [M5.out]; omega) T hzT l5 _ dA).mono ?_
  rintro e w11 ⟨rfl, qA, hkk⟩
  replace hown := owns_dev hown hkk la lf lm
  replace hb := Below.dev hb hkk hb.size hbA hfA hmA
  clear dA hkk
  have dA := qA
  clear qA
  rw [HD6.out] at dA
  obtain ⟨aw, cw, hv, hsl⟩ := slI_owns hown
  subst hv
  clear hown
  go_wp2_with fail
  with_reducible refine (dev_after' bA fA mA _ aw 3 cw [(0 : Int), (1 : Int), (2 : Int)] rfl _ dA (by decide) hsl).mono ?_
  rintro e w12 ⟨bX, fX, mX, rfl, hbX, hfX, hmX, dX, hbb⟩
  have apAX := dA.apart hbX hfX hmX
  have apXA := apAX.symm
  replace dA := dA.below hbb
  replace hbX := Nat.le_trans hb.size hbX
  replace hfX := Nat.le_trans hb.size hfX
  replace hmX := Nat.le_trans hb.size hmX
  replace hb := Below.next hb hbb
  clear hbb
  rw [HDX.out] at dX
  go_wp2_with fail
  refine wp_loop_rounds 4 ?_
  rw [rounds_succ]
  go_wp2_with fail
  with_reducible refine (law03_whole T hzT _).mono ?_
  rintro e w13 ⟨rfl, hbb⟩
  replace dA := dA.below hbb
  replace dX := dX.below hbb
  replace hb := Below.next hb hbb
  clear hbb
  go_wp2_with fail
  with_reducible refine (law03_whole S hzS _).mono ?_
  rintro e w14 ⟨rfl, hbb⟩
  replace dA := dA.below hbb
  replace dX := dX.below hbb
  replace hb := Below.next hb hbb
  clear hbb
  go_wp2_with fail
  with_reducible refine (dev_read_ok bX fX mX _ 0 0 rfl (by rw [NX.out]; omega) lX _ dX).mono ?_
  rintro e w15 ⟨rfl, hbb⟩
  replace dA := dA.below hbb
  replace dX := dX.below hbb
  replace hb := Below.next hb hbb
  clear hbb
  rw [X0.out]
  go_wp2_with fail
  rw [rounds_succ]
  go_wp2_with fail
  with_reducible refine (law03_whole T hzT _).mono ?_
  rintro e w16 ⟨rfl, hbb⟩
  replace dA := dA.below hbb
  replace dX := dX.below hbb
  replace hb := Below.next hb hbb
  clear hbb
  go_wp2_with fail
  with_reducible refine (law03_whole S hzS _).mono ?_
  rintro e w17 ⟨rfl, hbb⟩
  replace dA := dA.below hbb
  replace dX := dX.below hbb
  replace hb := Below.next hb hbb
  clear hbb
  go_wp2_with fail
  with_reducible refine (dev_read_ok bX fX mX _ 1 1 rfl (by rw [NX.out]; omega) lX _ dX).mono ?_
  rintro e w18 ⟨rfl, hbb⟩
  replace dA := dA.below hbb
  replace dX := dX.below hbb
  replace hb := Below.next hb hbb
  clear hbb
  rw [X1.out]
  go_wp2_with fail
  rw [rounds_succ]
  go_wp2_with fail
  with_reducible refine (law03_whole T hzT _).mono ?_
  rintro e w19 ⟨rfl, hbb⟩
  replace dA := dA.below hbb
  replace dX := dX.below hbb
  replace hb := Below.next hb hbb
  clear hbb
  go_wp2_with fail
  with_reducible refine (law03_whole S hzS _).mono ?_
  rintro e w20 ⟨rfl, hbb⟩
  replace dA := dA.below hbb
  replace dX := dX.below hbb
  replace hb := Below.next hb hbb
  clear hbb
  go_wp2_with fail
  with_reducible refine (dev_read_ok bX fX mX _ 2 2 rfl (by rw [NX.out]; omega) lX _ dX).mono ?_
  rintro e w21 ⟨rfl, hbb⟩
  replace dA := dA.below hbb
  replace dX := dX.below hbb
  replace hb := Below.next hb hbb
  clear hbb
  rw [X2.out]
  go_wp2_with fail
  rw [rounds_succ]
  go_wp2_with fail
  with_reducible refine (dev_waiting' bX fX mX _ 0 HW.out _ dX).mono ?_
  rintro e w22 ⟨aw22, cw22, rfl, hbb⟩
  replace dA := dA.below hbb
  replace dX := dX.below hbb
  replace hb := Below.next hb hbb
  clear hbb
  have cX := dX.c3
  have HdX := Aside.mk lX.dead
  go_wp2_with fail
  with_reducible refine (dev_crashed bX fX mX _ _ dX).mono ?_
  rintro e w' ⟨rfl, rfl⟩
  rw [HdX.out]
  go_wp2_with fail
  go_ret
  exact ⟨rfl, hb⟩

theorem deviceKeeps_walk (s t : ByteArray) (n : Int) (hs : s.size ≤ 140737488351232) (ht : t.size ≤ 140737488351232) (hn : 0 ≤ n ∧ n ≤ 255) (w : World) :
    Calls Try.prog 7 #[.string s, .string t, .int .u8 n] w fun e w' => e = .returned (.bool true) ∧ Below w.heap.size w w' := by
  have hb : ∀ x : Int, (x % 2 == 1) = true ∨ (x % 2 == 1) = false := fun x => by cases (x % 2 == 1) <;> simp
  rcases hb n with h0 | h0 <;> rcases hb (n / 2) with h1 | h1 <;> rcases hb (n / 4) with h2 | h2
  · exact deviceKeeps_111 s t n hn.1 hn.2 h0 h1 h2 w
  · exact deviceKeeps_110 s t n hn.1 hn.2 h0 h1 h2 w
  · exact deviceKeeps_101 s t n hn.1 hn.2 h0 h1 h2 w
  · exact deviceKeeps_100 s t n hn.1 hn.2 h0 h1 h2 w
  · exact deviceKeeps_011 s t n hn.1 hn.2 h0 h1 h2 w
  · exact deviceKeeps_010 s t n hn.1 hn.2 h0 h1 h2 w
  · exact deviceKeeps_001 s t n hn.1 hn.2 h0 h1 h2 w
  · exact deviceKeeps_000 s t n hn.1 hn.2 h0 h1 h2 w
end Go.Proofs.Ytlbnbmojgdoieaa
