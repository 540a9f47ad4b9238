/- What the document's Write and Read of chapter 11 compute. -/
import Derived.Test.YtlbnbmojgdoieaaArR
import Derived.Test.YtlbnbmojgdoieaaRfF
set_option maxRecDepth 16000
namespace Go.Proofs.Ytlbnbmojgdoieaa
open Go.RowKit Go.Pin
set_option linter.unusedVariables false
set_option linter.unusedSimpArgs false
set_option maxHeartbeats 800000 in
theorem arearef_right (r N O V : Nat) (d : Dv) (a k : Int) (ha : -9223372036854775808 ≤ a ∧ a ≤ 9223372036854775807) (hk : -9223372036854775808 ≤ k ∧ k ≤ 9223372036854775807) (w : World) (h : RefAt w r N O V d) :
    Calls Try.prog 85 #[.pointer (some ⟨r, 0, none⟩), .int .i64 a, .int .i64 k] w fun e w' => e = .returned (.bool (aright d.n a k)) ∧ w' = w := by
  have hn := h.ok.n2
  obtain ⟨c, hc1, hc2, c0⟩ := h.c0
  unfold aright
  by_cases h0 : 0 ≤ a
  · by_cases h1 : 1 ≤ k
    · by_cases h2 : a < (d.n : Int)
      · have hw : IntKind.i64.wrap ((d.n : Int) - a) = (d.n : Int) - a := by rw [IntKind.wrap_i64]; omega
        by_cases h3 : k ≤ (d.n : Int) - a
        · rw [decide_eq_true ⟨h0, h1, h2, h3⟩]
          go_enter Try.func85, Try.ntmps85
          go_wp2_with fail
          go_ret
          exact ⟨rfl, rfl⟩
        · rw [decide_eq_false (by omega)]
          have hd3 : decide (k ≤ (d.n : Int) - a) = false := by simpa using h3
          go_enter Try.func85, Try.ntmps85
          go_wp2_with fail
          go_ret
          exact ⟨rfl, rfl⟩
      · rw [decide_eq_false (by omega)]
        go_enter Try.func85, Try.ntmps85
        go_wp2_with fail
        go_ret
        exact ⟨rfl, rfl⟩
    · rw [decide_eq_false (by omega)]
      go_enter Try.func85, Try.ntmps85
      go_wp2_with fail
      go_ret
      exact ⟨rfl, rfl⟩
  · rw [decide_eq_false (by omega)]
    go_enter Try.func85, Try.ntmps85
    go_wp2_with fail
    go_ret
    exact ⟨rfl, rfl⟩
set_option maxHeartbeats 3200000 in
theorem arearef_write (r N O V : Nat) (d : Dv) (a k v : Int) (s : Snap) (hs : s.ok) (ha : -9223372036854775808 ≤ a ∧ a ≤ 9223372036854775807) (hk : -9223372036854775808 ≤ k ∧ k ≤ 9223372036854775807) (hv : -9223372036854775808 ≤ v ∧ v ≤ 9223372036854775807) (w : World) (h : RefAt w r N O V d) :
    Calls Try.prog 45 #[.pointer (some ⟨r, 0, none⟩), .int .i64 a, .int .i64 k, .int .i64 v, s.val] w fun e w' => e = .returned (.int .i64 (awrite d a k v s).1) ∧ RefAt w' r N O V (awrite d a k v s).2 ∧ Keep (refS r N O V) w w' := by
  obtain ⟨i, t, x⟩ := s
  show Calls Try.prog 45 #[.pointer (some ⟨r, 0, none⟩), .int .i64 a, .int .i64 k, .int .i64 v, .agg #[.int .u64 i, .int .u64 t, .string x]] w _
  have hn2 := h.ok.n2
  have hka : Keep (fun _ => False) w (w.alloc (.cells #[.int .u64 i, .int .u64 t, .string x] 66)) := (Keep.refl _ w).alloc _
  have p2 : (w.alloc (.cells #[.int .u64 i, .int .u64 t, .string x] 66)).cell? ⟨w.heap.size, 0, none⟩ = some (.int .u64 i) := World.cell?_alloc_new w _ _ 0
  have p3 : (w.alloc (.cells #[.int .u64 i, .int .u64 t, .string x] 66)).cell? ⟨w.heap.size, 1, none⟩ = some (.int .u64 t) := World.cell?_alloc_new w _ _ 1
  have p4 : (w.alloc (.cells #[.int .u64 i, .int .u64 t, .string x] 66)).cell? ⟨w.heap.size, 2, none⟩ = some (.string x) := World.cell?_alloc_new w _ _ 2
  have Hh := Aside.mk (h.keep hka ⟨id, id, id, id⟩)
  have Hka := Aside.mk hka
  have hput : ∀ W : World, Calls Try.prog 36 #[.int .i64 v, .agg #[.int .u64 i, .int .u64 t, .string x]] W fun e w' => e = .returned (.tuple #[.string (aput v ⟨i, t, x⟩).1, .bool (aput v ⟨i, t, x⟩).2]) ∧ Below W.heap.size W w' := arearef_put v hv ⟨i, t, x⟩ hs
  have hazs := aput_size v ⟨i, t, x⟩
  obtain ⟨P, hP⟩ : ∃ P, aput v ⟨i, t, x⟩ = P := ⟨_, rfl⟩
  obtain ⟨P1, P2⟩ := P
  rw [hP] at hput hazs
  have HP := Aside.mk hP
  have Hput := Aside.mk hput
  clear h hka hP hput
  replace hazs : P1.size ≤ 16384 + 46 := hazs
  go_enter Try.func45, Try.ntmps45
  go_wp2_with fail
  generalize (w.alloc (.cells #[.int .u64 i, .int .u64 t, .string x] 66)) = w3 at *
  with_reducible refine (Hput.out w3).mono ?_
  rintro e w4 ⟨rfl, hb4⟩
  have k4 : Keep (fun _ => False) w3 w4 := Keep.of_below (S := fun _ => False) hb4 fun _ hk _ => hk
  have Hh4 := Aside.mk (Hh.out.keep k4 ⟨id, id, id, id⟩)
  have Hk4 := Aside.mk k4
  clear k4 hb4 Hh Hput p2 p3 p4
  have hcon := arearef_right r N O V d a k ha hk _ Hh4.out
  go_wp2_with fail
  refine hcon.mono ?_
  rintro e w4 ⟨rfl, rfl⟩
  clear hcon
  cases P2 with
  | false =>
    have e1 : awrite d a k v ⟨i, t, x⟩ = (1, d) := by unfold awrite; rw [HP.out, if_pos (.inl rfl)]
    have E1 := Aside.mk e1
    clear e1
    go_wp2_with fail
    go_ret
    rw [E1.out]
    exact ⟨rfl, Hh4.out, (Hka.out.trans Hk4.out).mono fun _ q => q.elim⟩
  | true =>
    cases hr : aright d.n a k with
    | false =>
      have e1 : awrite d a k v ⟨i, t, x⟩ = (1, d) := by unfold awrite; rw [if_pos (.inr hr)]
      have E1 := Aside.mk e1
      clear e1 hr
      go_wp2_with fail
      go_ret
      rw [E1.out]
      exact ⟨rfl, Hh4.out, (Hka.out.trans Hk4.out).mono fun _ q => q.elim⟩
    | true =>
      have hri := aright_iff hr
      obtain ⟨A, rfl⟩ := Int.eq_ofNat_of_zero_le hri.1
      obtain ⟨K, rfl⟩ := Int.eq_ofNat_of_zero_le (show 0 ≤ k by omega)
      have hAK : A + K ≤ 4096 := by omega
      have hw1 : IntKind.i64.wrap (64 * (K : Int)) = 64 * (K : Int) := by rw [IntKind.wrap_i64]; omega
      by_cases hbig : 64 * (K : Int) < (P1.size : Int)
      · have e1 : awrite d A K v ⟨i, t, x⟩ = (4, d) := by unfold awrite; rw [HP.out, if_neg (by simp [hr]), if_pos hbig]
        have E1 := Aside.mk e1
        clear e1 hr hri
        go_wp2_with fail
        go_ret
        rw [E1.out]
        exact ⟨rfl, Hh4.out, (Hka.out.trans Hk4.out).mono fun _ q => q.elim⟩
      · have e1 : awrite d A K v ⟨i, t, x⟩ = wrun P1 A d K := by unfold awrite; rw [HP.out, if_neg (by simp [hr]), if_neg hbig]; simp
        have E1 := Aside.mk e1
        have hd0 := Hh4.out
        clear e1 hr hri
        go_wp2_with fail
        go_loopw [14] (fun i wr => ∃ (k : Nat) (D : Dv), k ≤ K ∧ i = .int .i64 k ∧ wrun P1 A d k = (0, D) ∧ RefAt wr r N O V D ∧ Keep (refS r N O V) w4 wr) (fun i _ => K - (intOf i).toNat)
        case atStart => exact ⟨0, d, by omega, rfl, rfl, hd0, Keep.refl _ _⟩
        case round =>
          clear hd0
          obtain ⟨k, D, hk, rfl, hr, hd, hkw⟩ := hrel
          have Hr := Aside.mk hr
          clear hr
          by_cases hlt : k < K
          · obtain ⟨m1, hm1, hm1a, hm1b, hm1c⟩ : ∃ m1 : Nat, min (64 * (k : Int)) (P1.size : Int) = (m1 : Int) ∧ m1 = min (64 * k) P1.size ∧ m1 ≤ P1.size ∧ m1 ≤ 64 * k := ⟨min (64 * k) P1.size, by omega, rfl, by omega, by omega⟩
            obtain ⟨m2, hm2, hm2a, hm2b, hm2c⟩ : ∃ m2 : Nat, min (64 * (k : Int) + 64) (P1.size : Int) = (m2 : Int) ∧ m2 = min (64 * (k + 1)) P1.size ∧ m2 ≤ P1.size ∧ m1 ≤ m2 := ⟨min (64 * (k + 1)) P1.size, by omega, rfl, by omega, by omega⟩
            have hpc : P1.extract m1 m2 = piece P1 k := by unfold piece; rw [hm1a, hm2a]
            have hw3 : IntKind.i64.wrap (64 * (k : Int)) = 64 * (k : Int) := by rw [IntKind.wrap_i64]; omega
            have hw4 : IntKind.i64.wrap (64 * (k : Int) + 64) = 64 * (k : Int) + 64 := by rw [IntKind.wrap_i64]; omega
            have hw5 : IntKind.i64.wrap ((A : Int) + (k : Int)) = (A : Int) + (k : Int) := by rw [IntKind.wrap_i64]; omega
            have hi1 : (m1 : Int) ≤ (m2 : Int) := by omega
            have hi2 : (m2 : Int) ≤ (P1.size : Int) := by omega
            have hps := piece_size P1 k
            have hnext : wrun P1 A d (k + 1) = dwrite D ((A : Int) + (k : Int)) (piece P1 k) := by
              show (if (wrun P1 A d k).1 ≠ 0 then _ else _) = _
              rw [Hr.out, if_neg (by simp), show ((A + k : Nat) : Int) = (A : Int) + (k : Int) by omega]
            have hcon := ref_write r N O V D ((A : Int) + (k : Int)) (piece P1 k) (by omega) (by omega) wr hd
            rw [← hnext] at hcon
            obtain ⟨C, hC⟩ : ∃ C, wrun P1 A d (k + 1) = C := ⟨_, rfl⟩
            rw [hC] at hcon
            have HC := Aside.mk hC
            obtain ⟨c, D1⟩ := C
            generalize piece P1 k = T at *
            clear hnext hd hC hps hm1a hm2a hm1c
            go_wp2_with fail
            with_reducible refine hcon.mono ?_
            rintro e w6 ⟨rfl, hd2, hk2⟩
            clear hcon hpc hm1 hm2
            by_cases h0 : c = 0
            · subst h0
              have Hd2 := Aside.mk hd2
              clear hd2
              go_wp2_with fail
              go_roundw
              case rel => exact ⟨k + 1, D1, by omega, by go_num, HC.out, Hd2.out, hkw.trans hk2⟩
              case measure => simp [intOf]; omega
            · have hb : (c != 0) = true := by simpa using h0
              have Hd2 := Aside.mk hd2
              have Hs := Aside.mk (wrun_stuck P1 A d (k + 1) (by rw [HC.out]; exact h0) K (by omega))
              clear hd2
              go_wp2_with fail
              go_ret
              rw [E1.out, Hs.out, HC.out]
              exact ⟨rfl, Hd2.out, (((Hka.out.trans Hk4.out).mono fun _ q => q.elim).trans hkw).trans hk2⟩
          · obtain rfl : k = K := by omega
            go_wp2_with fail
            go_ret
            rw [E1.out, Hr.out]
            exact ⟨rfl, hd, ((Hka.out.trans Hk4.out).mono fun _ q => q.elim).trans hkw⟩
set_option maxHeartbeats 3200000 in
theorem arearef_read (r N O V : Nat) (d : Dv) (a k : Int) (ha : -9223372036854775808 ≤ a ∧ a ≤ 9223372036854775807) (hk : -9223372036854775808 ≤ k ∧ k ≤ 9223372036854775807) (w : World) (h : RefAt w r N O V d) :
    Calls Try.prog 49 #[.pointer (some ⟨r, 0, none⟩), .int .i64 a, .int .i64 k] w fun e w' => e = .returned (.tuple #[(aread d a k).1.val, .int .i64 (aread d a k).2.1, .int .i64 (aread d a k).2.2]) ∧ Below w.heap.size w w' := by
  have hn2 := h.ok.n2
  have hka : Keep (fun _ => False) w (w.alloc (.cells #[.int .u64 0, .int .u64 0, .string ⟨#[]⟩] 66)) := (Keep.refl _ w).alloc _
  have p2 : (w.alloc (.cells #[.int .u64 0, .int .u64 0, .string ⟨#[]⟩] 66)).cell? ⟨w.heap.size, 0, none⟩ = some (.int .u64 0) := World.cell?_alloc_new w _ _ 0
  have p3 : (w.alloc (.cells #[.int .u64 0, .int .u64 0, .string ⟨#[]⟩] 66)).cell? ⟨w.heap.size, 1, none⟩ = some (.int .u64 0) := World.cell?_alloc_new w _ _ 1
  have p4 : (w.alloc (.cells #[.int .u64 0, .int .u64 0, .string ⟨#[]⟩] 66)).cell? ⟨w.heap.size, 2, none⟩ = some (.string ⟨#[]⟩) := World.cell?_alloc_new w _ _ 2
  have f0 : (w.alloc (.cells #[.int .u64 0, .int .u64 0, .string ⟨#[]⟩] 66)).frozen? ⟨w.heap.size, 0, none⟩ = false := World.frozen?_alloc_at _ _ _ _ rfl
  have f1 : (w.alloc (.cells #[.int .u64 0, .int .u64 0, .string ⟨#[]⟩] 66)).frozen? ⟨w.heap.size, 1, none⟩ = false := World.frozen?_alloc_at _ _ _ _ rfl
  have f2 : (w.alloc (.cells #[.int .u64 0, .int .u64 0, .string ⟨#[]⟩] 66)).frozen? ⟨w.heap.size, 2, none⟩ = false := World.frozen?_alloc_at _ _ _ _ rfl
  have hd3 := h.keep hka ⟨id, id, id, id⟩
  have Hd3 := Aside.mk hd3
  have HbW := Aside.mk (hka.below (Nat.le_refl _) fun _ q => q.elim)
  have hcon := arearef_right r N O V d a k ha hk _ hd3
  have hzL : w.heap.size < (w.alloc (.cells #[.int .u64 0, .int .u64 0, .string ⟨#[]⟩] 66)).heap.size := by simp
  clear h hka hd3
  go_enter Try.func49, Try.ntmps49
  go_wp2_with fail
  generalize (w.alloc (.cells #[.int .u64 0, .int .u64 0, .string ⟨#[]⟩] 66)) = w3 at *
  generalize hBB : w.heap.size = B at *
  have HBB := Aside.mk hBB
  clear hBB
  refine hcon.mono ?_
  rintro e w3 ⟨rfl, rfl⟩
  clear hcon
  cases hr : aright d.n a k with
  | false =>
    have e1 : aread d a k = (snone, 0, 1) := by unfold aread; rw [if_pos hr]
    have E1 := Aside.mk e1
    clear e1 hr
    go_wp2_with fail
    refine bodyPost_ret (v := .tuple #[snone.val, .int .i64 0, .int .i64 1]) (by simp [results, Try.results49, go_sem, *]; rfl) rfl ?_
    rw [E1.out]
    exact ⟨rfl, by rw [HBB.out]; exact below_set3 HbW.out (Nat.le_refl _) _ _ _⟩
  | true =>
    have hri := aright_iff hr
    obtain ⟨A, rfl⟩ := Int.eq_ofNat_of_zero_le hri.1
    obtain ⟨K, rfl⟩ := Int.eq_ofNat_of_zero_le (show 0 ≤ k by omega)
    have hAK : A + K ≤ d.n := by omega
    have hK1 : 1 ≤ K := by omega
    have e1 : aread d A K = if d.dead = true then (snone, 0, 7) else if (aget (rcat d A K)).2.2 = true then ((aget (rcat d A K)).1, (aget (rcat d A K)).2.1, 0) else (snone, 0, 2) := by
      unfold aread; rw [if_neg (by rw [hr]; simp)]; rfl
    have E1 := Aside.mk e1
    have Hok := Aside.mk Hd3.out.ok
    have hrd := Hd3.out
    clear e1 hr hri
    cases hdd : d.dead with
    | true =>
      have hr7 : dread d ((A : Int) + 0) = (⟨#[]⟩, 7) := dread_ref (by unfold dref; rw [if_pos hdd]) (by decide)
      have hcon := ref_read r N O V d ((A : Int) + 0) (by omega) w3 hrd
      rw [hr7, Int.add_zero] at hcon
      have Hdd := Aside.mk hdd
      have hK0 : (0 : Int) < (K : Int) := by omega
      have hw5 : IntKind.i64.wrap (A : Int) = (A : Int) := by rw [IntKind.wrap_i64]; omega
      clear hdd hr7 hrd
      go_wp2_with fail
      refine wp_loop_rounds 1 ?_
      rw [rounds_succ]
      go_wp2_with fail
      refine hcon.mono ?_
      rintro e w3 ⟨rfl, rfl⟩
      go_wp2_with fail
      refine bodyPost_ret (v := .tuple #[snone.val, .int .i64 0, .int .i64 7]) (by simp [results, Try.results49, go_sem, *]; rfl) rfl ?_
      rw [E1.out, if_pos Hdd.out]
      exact ⟨rfl, by rw [HBB.out]; exact below_set3 HbW.out (Nat.le_refl _) _ _ _⟩
    | false =>
      have Hdd := Aside.mk hdd
      have Hz := Aside.mk Hd3.out.ok.z2
      go_wp2_with fail
      go_loopw [10, 11] (fun s i wr => ∃ (k : Nat), k ≤ K ∧ i = .int .i64 k ∧ s = .string (rcat d A k) ∧ wr = w3) (fun _ i _ => K - (intOf i).toNat)
      case atStart => exact ⟨0, by omega, rfl, rfl, rfl⟩
      case round =>
        obtain ⟨k, hk, rfl, rfl, rfl⟩ := hrel
        have hlen := rcatL_len Hok.out A k
        have hlz : (rcat d A k).size ≤ 262144 := by show (rcatL d A k).toArray.size ≤ _; rw [List.size_toArray, hlen]; omega
        by_cases hlt : k < K
        · have hr0 : dread d ((A : Int) + (k : Int)) = (d.s (A + k), 0) := by
            have hrf : dref d ((A : Int) + (k : Int)) = 0 := by unfold dref; rw [if_neg (by rw [hdd]; simp), if_neg (by omega)]
            unfold dread; rw [hrf, if_neg (by simp), show ((A : Int) + (k : Int)).toNat = A + k by omega]
          have hcon := ref_read r N O V d ((A : Int) + (k : Int)) (by omega) _ hrd
          rw [hr0] at hcon
          have hw5 : IntKind.i64.wrap ((A : Int) + (k : Int)) = (A : Int) + (k : Int) := by rw [IntKind.wrap_i64]; omega
          have hs : rcat d A (k + 1) = rcat d A k ++ d.s (A + k) := by
            apply ByteArray.ext; apply Array.ext'
            show (rcatL d A (k + 1)) = _
            rw [rcatL_succ]; simp [rcat]
          have Hs := Aside.mk hs
          have hz := Hz.out (A + k)
          have hz' : (d.s (A + k)).size ≤ 64 := by omega
          obtain ⟨X, hX⟩ : ∃ X, rcat d A k = X := ⟨_, rfl⟩
          rw [hX] at hlz ⊢
          have HX := Aside.mk hX
          generalize d.s (A + k) = Y at *
          clear hr0 hs hz hlen hX
          go_wp2_with fail
          with_reducible refine hcon.mono ?_
          rintro e w3 ⟨rfl, rfl⟩
          clear hcon
          go_wp2_with fail
          go_roundw
          case rel => exact ⟨k + 1, by omega, by go_num, by rw [Hs.out, HX.out], trivial⟩
          case measure => simp [intOf]; omega
        · obtain rfl : k = K := by omega
          have hget := arearef_get (rcat d A k) wr (by omega)
          obtain ⟨R, hR⟩ : ∃ R, aget (rcat d A k) = R := ⟨_, rfl⟩
          rw [hR] at hget
          have HR := Aside.mk hR
          obtain ⟨⟨ri, rt, rx⟩, rv, rok⟩ := R
          replace hget : Calls Try.prog 40 #[.string (rcat d A k)] wr fun e w' => e = .returned (.tuple #[.agg #[.int .u64 ri, .int .u64 rt, .string rx], .int .i64 rv, .bool rok]) ∧ Below wr.heap.size wr w' := hget
          clear hR hlen hdd hrd
          go_wp2_with fail
          refine hget.mono ?_
          rintro e w7 ⟨rfl, hb9⟩
          have k7 : Keep (fun _ => False) wr w7 := Keep.of_below hb9 fun j hj _ => hj
          have k8 : Keep (fun _ => False) wr (w7.alloc (.cells #[.int .u64 ri, .int .u64 rt, .string rx] 66)) := k7.alloc _
          rw [← k8.frozen (p := ⟨B, 0, none⟩) hzL id] at f0
          rw [← k8.frozen (p := ⟨B, 1, none⟩) hzL id] at f1
          rw [← k8.frozen (p := ⟨B, 2, none⟩) hzL id] at f2
          replace p2 := k8.cell p2 id
          replace p3 := k8.cell p3 id
          replace p4 := k8.cell p4 id
          have q0 : (w7.alloc (.cells #[.int .u64 ri, .int .u64 rt, .string rx] 66)).cell? ⟨w7.heap.size, 0, none⟩ = some (.int .u64 ri) := World.cell?_alloc_new w7 _ _ 0
          have q1 : (w7.alloc (.cells #[.int .u64 ri, .int .u64 rt, .string rx] 66)).cell? ⟨w7.heap.size, 1, none⟩ = some (.int .u64 rt) := World.cell?_alloc_new w7 _ _ 1
          have q2 : (w7.alloc (.cells #[.int .u64 ri, .int .u64 rt, .string rx] 66)).cell? ⟨w7.heap.size, 2, none⟩ = some (.string rx) := World.cell?_alloc_new w7 _ _ 2
          have hb8 : Below B w (w7.alloc (.cells #[.int .u64 ri, .int .u64 rt, .string rx] 66)) := by
            exact HbW.out.trans (k8.below (Nat.le_of_lt hzL) fun _ q => q.elim)
          have Hb8 := Aside.mk hb8
          clear hget hb9 k7 k8 hb8
          cases rok with
          | true =>
            obtain ⟨n0, n1, n2, n3, n4⟩ := set3_cells p2 p3 p4 (.int .u64 ri) (.int .u64 rt) (.string rx)
            go_wp2_with fail
            refine bodyPost_ret (v := .tuple #[.agg #[.int .u64 ri, .int .u64 rt, .string rx], .int .i64 rv, .int .i64 0]) (by simp [results, Try.results49, go_sem, *]) rfl ?_
            rw [E1.out, if_neg (by rw [Hdd.out]; simp), HR.out]
            exact ⟨rfl, by rw [HBB.out]; exact below_set3 Hb8.out (Nat.le_refl _) _ _ _⟩
          | false =>
            obtain ⟨n0, n1, n2, n3, n4⟩ := set3_cells p2 p3 p4 (.int .u64 0) (.int .u64 0) (.string ⟨#[]⟩)
            go_wp2_with fail
            refine bodyPost_ret (v := .tuple #[snone.val, .int .i64 0, .int .i64 2]) (by simp [results, Try.results49, go_sem, *]; rfl) rfl ?_
            rw [E1.out, if_neg (by rw [Hdd.out]; simp), HR.out]
            exact ⟨rfl, by rw [HBB.out]; exact below_set3 Hb8.out (Nat.le_refl _) _ _ _⟩
end Go.Proofs.Ytlbnbmojgdoieaa
