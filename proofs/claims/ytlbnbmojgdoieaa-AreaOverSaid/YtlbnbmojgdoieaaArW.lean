/- What area.Write computes. -/
import Derived.Test.YtlbnbmojgdoieaaArM
set_option maxRecDepth 16000
namespace Go.Pin
open Go.RowKit
set_option linter.unusedVariables false
set_option linter.unusedSimpArgs false
theorem aright_iff {n : Nat} {a m : Int} (h : aright n a m = true) : 0 ≤ a ∧ 1 ≤ m ∧ a < n ∧ m ≤ n - a := by simpa [aright] using h
end Go.Pin
namespace Go.Proofs.Ytlbnbmojgdoieaa
open Go.RowKit Go.Pin
set_option linter.unusedVariables false
set_option linter.unusedSimpArgs false
set_option maxHeartbeats 3200000 in
theorem area_write (b f m : Nat) (d : Dv) (a k v : Int) (s : Snap) (hs : s.ok) (ha : -9223372036854775808 ≤ a ∧ a ≤ 9223372036854775807) (hk : -9223372036854775808 ≤ k ∧ k ≤ 9223372036854775807) (hv : -9223372036854775808 ≤ v ∧ v ≤ 9223372036854775807) (w : World) (h : DevAt w b f m d) :
    Calls Try.prog 43 #[.pointer (some ⟨b, 0, none⟩), .int .i64 a, .int .i64 k, .int .i64 v, s.val] w fun e w' => e = .returned (.int .i64 (awrite d a k v s).1) ∧ DevAt w' b f m (awrite d a k v s).2 ∧ Keep (devS b f m) w w' := by
  obtain ⟨i, t, x⟩ := s
  show Calls Try.prog 43 #[.pointer (some ⟨b, 0, none⟩), .int .i64 a, .int .i64 k, .int .i64 v, .agg #[.int .u64 i, .int .u64 t, .string x]] w _
  have hlt := h.lt
  have hn2 := h.ok.n2
  have hka : Keep (fun _ => False) w (((w.alloc (.cells #[.pointer (some ⟨b, 0, none⟩)] 23)).alloc (.cells #[.int .i64 a] 3)).alloc (.cells #[.int .u64 i, .int .u64 t, .string x] 61)) := (((Keep.refl _ w).alloc _).alloc _).alloc _
  have hz3 : w.heap.size + 3 ≤ (((w.alloc (.cells #[.pointer (some ⟨b, 0, none⟩)] 23)).alloc (.cells #[.int .i64 a] 3)).alloc (.cells #[.int .u64 i, .int .u64 t, .string x] 61)).heap.size := by simp
  have hzz : ((w.alloc (.cells #[.pointer (some ⟨b, 0, none⟩)] 23)).alloc (.cells #[.int .i64 a] 3)).heap.size = w.heap.size + 1 + 1 := by simp
  have hz1 : (w.alloc (.cells #[.pointer (some ⟨b, 0, none⟩)] 23)).heap.size = w.heap.size + 1 := by simp
  have p0 : (((w.alloc (.cells #[.pointer (some ⟨b, 0, none⟩)] 23)).alloc (.cells #[.int .i64 a] 3)).alloc (.cells #[.int .u64 i, .int .u64 t, .string x] 61)).cell? ⟨w.heap.size, 0, none⟩ = some (.pointer (some ⟨b, 0, none⟩)) := (((Keep.refl (fun _ => False) _).alloc _).alloc _).cell (World.cell?_alloc_new w _ _ 0) id
  have p1 : (((w.alloc (.cells #[.pointer (some ⟨b, 0, none⟩)] 23)).alloc (.cells #[.int .i64 a] 3)).alloc (.cells #[.int .u64 i, .int .u64 t, .string x] 61)).cell? ⟨w.heap.size + 1, 0, none⟩ = some (.int .i64 a) := ((Keep.refl (fun _ => False) _).alloc _).cell (World.cell?_alloc_at _ _ _ _ hz1.symm) id
  have p2 : (((w.alloc (.cells #[.pointer (some ⟨b, 0, none⟩)] 23)).alloc (.cells #[.int .i64 a] 3)).alloc (.cells #[.int .u64 i, .int .u64 t, .string x] 61)).cell? ⟨w.heap.size + 1 + 1, 0, none⟩ = some (.int .u64 i) := World.cell?_alloc_at _ _ _ _ hzz.symm
  have p3 : (((w.alloc (.cells #[.pointer (some ⟨b, 0, none⟩)] 23)).alloc (.cells #[.int .i64 a] 3)).alloc (.cells #[.int .u64 i, .int .u64 t, .string x] 61)).cell? ⟨w.heap.size + 1 + 1, 1, none⟩ = some (.int .u64 t) := World.cell?_alloc_at _ _ _ _ hzz.symm
  have p4 : (((w.alloc (.cells #[.pointer (some ⟨b, 0, none⟩)] 23)).alloc (.cells #[.int .i64 a] 3)).alloc (.cells #[.int .u64 i, .int .u64 t, .string x] 61)).cell? ⟨w.heap.size + 1 + 1, 2, none⟩ = some (.string x) := World.cell?_alloc_at _ _ _ _ hzz.symm
  have Hh := Aside.mk (h.keep hka ⟨id, id, id⟩)
  have Hka := Aside.mk hka
  have hput : ∀ W : World, Calls Try.prog 35 #[.int .i64 v, .agg #[.int .u64 i, .int .u64 t, .string x]] W fun e w' => e = .returned (.tuple #[.string (aput v ⟨i, t, x⟩).1, .bool (aput v ⟨i, t, x⟩).2]) ∧ Below W.heap.size W w' := area_put v hv ⟨i, t, x⟩ hs
  have hroom : ∀ W : World, Calls Try.prog 41 #[.int .i64 v, .int .i64 k, .agg #[.int .u64 i, .int .u64 t, .string x]] W fun e w' => e = .returned (.bool (aroom v k ⟨i, t, x⟩)) ∧ Below W.heap.size W w' := area_room v k hv hk ⟨i, t, x⟩ hs
  have hazs := aput_size v ⟨i, t, x⟩
  obtain ⟨P, hP⟩ : ∃ P, aput v ⟨i, t, x⟩ = P := ⟨_, rfl⟩
  obtain ⟨P1, P2⟩ := P
  rw [hP] at hput hazs
  have HP := Aside.mk hP
  have Hput := Aside.mk hput
  have Hroom := Aside.mk hroom
  clear h hka hzz hz1 hP hput hroom
  replace hazs : P1.size ≤ 16384 + 46 := hazs
  have hw0 : ∀ kk, devS b f m kk → kk < w.heap.size := by rintro kk (rfl | rfl | rfl) <;> omega
  have Hw0 := Aside.mk hw0
  clear hw0 hlt
  go_enter Try.func43, Try.ntmps43
  go_wp2_with fail
  generalize (((w.alloc (.cells #[.pointer (some ⟨b, 0, none⟩)] 23)).alloc (.cells #[.int .i64 a] 3)).alloc (.cells #[.int .u64 i, .int .u64 t, .string x] 61)) = w3 at *
  generalize w.heap.size = B at *
  with_reducible refine (Hput.out w3).mono ?_
  rintro e w4 ⟨rfl, hb4⟩
  have k4 : Keep (fun _ => False) w3 (w4.alloc (.cells #[.string P1] 9)) := (Keep.of_below (S := fun _ => False) hb4 fun _ hk _ => hk).alloc _
  replace p0 := k4.cell p0 id
  replace p1 := k4.cell p1 id
  replace p2 := k4.cell p2 id
  replace p3 := k4.cell p3 id
  replace p4 := k4.cell p4 id
  have hz4 : B + 3 ≤ w4.heap.size := Nat.le_trans hz3 hb4.size
  have Hh4 := Aside.mk (Hh.out.keep k4 ⟨id, id, id⟩)
  have Hk4 := Aside.mk k4
  have p5 : (w4.alloc (.cells #[.string P1] 9)).cell? ⟨w4.heap.size, 0, none⟩ = some (.string P1) := World.cell?_alloc_new w4 _ _ 0
  have hlt5 : w4.heap.size < (w4.alloc (.cells #[.string P1] 9)).heap.size := by simp
  clear k4 hb4 hz3 Hh Hput
  go_upto_region 2 with fail
  generalize w4.alloc (.cells #[.string P1] 9) = w5 at *
  generalize w4.heap.size = U at *
  cases P2 with
  | false =>
    have e1 : awrite d a k v ⟨i, t, x⟩ = (1, d) := by unfold awrite; rw [HP.out, if_pos (.inl rfl)]
    have E1 := Aside.mk e1
    clear e1
    go_wp2_with fail
    go_ret
    rw [E1.out]
    exact ⟨rfl, Hh4.out, (Hka.out.trans Hk4.out).mono fun _ q => q.elim⟩
  | true =>
    cases hr : aright d.n a k with
    | false =>
      have e1 : awrite d a k v ⟨i, t, x⟩ = (1, d) := by unfold awrite; rw [if_pos (.inr hr)]
      have E1 := Aside.mk e1
      have hcon := area_right b f m d a k ha hk _ Hh4.out
      rw [hr] at hcon
      clear e1 hr
      go_wp2_with (go_at_call 80; refine hcon.mono ?_; rintro e w' ⟨rfl, rfl⟩)
      go_ret
      rw [E1.out]
      exact ⟨rfl, Hh4.out, (Hka.out.trans Hk4.out).mono fun _ q => q.elim⟩
    | true =>
      have hri := aright_iff hr
      have hcon := area_right b f m d a k ha hk _ Hh4.out
      rw [hr] at hcon
      have hrm : aroom v k ⟨i, t, x⟩ = decide (((P1.size : Int) + 63) / 64 ≤ k) := by unfold aroom; rw [HP.out]; rfl
      by_cases hbig : 64 * k < (P1.size : Int)
      · have e1 : awrite d a k v ⟨i, t, x⟩ = (4, d) := by unfold awrite; rw [HP.out, if_neg (by simp [hr]), if_pos hbig]
        have E1 := Aside.mk e1
        have hcon2 := Hroom.out
        rw [hrm, decide_eq_false (by omega)] at hcon2
        clear e1 hr hrm hri
        go_wp2_with (go_at_call 80; refine hcon.mono ?_; rintro e w' ⟨rfl, rfl⟩)
        with_reducible refine (hcon2 _).mono ?_
        rintro e w6 ⟨rfl, hb6⟩
        have Hh6 := Aside.mk (Hh4.out.below hb6)
        have Hk6 := Aside.mk (Keep.of_below (S := fun _ => False) hb6 fun _ hk _ => hk)
        clear hb6
        go_wp2_with fail
        go_ret
        rw [E1.out]
        exact ⟨rfl, Hh6.out, ((Hka.out.trans Hk4.out).trans Hk6.out).mono fun _ q => q.elim⟩
      · have e1 : awrite d a k v ⟨i, t, x⟩ = wrun P1 a.toNat d k.toNat := by unfold awrite; rw [HP.out, if_neg (by simp [hr]), if_neg hbig]
        have E1 := Aside.mk e1
        have hcon2 := Hroom.out
        rw [hrm, decide_eq_true (by omega)] at hcon2
        obtain ⟨A, rfl⟩ := Int.eq_ofNat_of_zero_le hri.1
        obtain ⟨K, rfl⟩ := Int.eq_ofNat_of_zero_le (show 0 ≤ k by omega)
        have hAK : A + K ≤ 4096 := by omega
        clear e1 hr hrm hri hbig
        go_wp2_with (go_at_call 80; refine hcon.mono ?_; rintro e w' ⟨rfl, rfl⟩)
        with_reducible refine (hcon2 _).mono ?_
        rintro e w6 ⟨rfl, hb6⟩
        have k6 := Keep.of_below (S := fun _ => False) hb6 fun _ hk _ => hk
        replace p0 := k6.cell p0 id
        replace p1 := k6.cell p1 id
        replace p5 := k6.cell p5 id
        have Hk6 := Aside.mk k6
        have heach := area_each_write b f m B (B + 1) U d A K hAK P1 (by omega) w6 (Hh4.out.below hb6) p0 p1 p5 (fun kk hk => by have := Hw0.out kk hk; omega)
        have Hn := Aside.mk (show wrun P1 (A : Int).toNat d (K : Int).toNat = wrun P1 A d K by simp)
        clear hb6 k6 p2 p3 p4 hcon hcon2
        go_wp2_with fail
        with_reducible refine heach.mono ?_
        rintro e w7 ⟨rfl, hd7, hk7⟩
        have Hd7 := Aside.mk hd7
        clear hd7 heach
        generalize hC : wrun P1 A d K = C at *
        have HC := Aside.mk hC
        clear hC
        go_wp2_with fail
        go_ret
        rw [E1.out, Hn.out]
        exact ⟨rfl, Hd7.out, (((Hka.out.trans Hk4.out).trans Hk6.out).mono fun _ q => q.elim).trans hk7⟩
end Go.Proofs.Ytlbnbmojgdoieaa
