import Derived.Test.YtpfkpaombiikcaaGreatDoorDevX
import Derived.Test.YtpfkpaombiikcaaGreatDoorDevF
/- What device.Device's try, Write and Flush compute. -/
set_option maxRecDepth 16000
namespace Go.Proofs.YtpfkpaombiikcaaGreatDoor
open Go.RowKit Go.Pin
set_option linter.unusedVariables false
set_option linter.unusedSimpArgs false
set_option maxHeartbeats 800000 in
theorem dev_try_write (b f m : Nat) (d : Dv) (S A D k : Nat) (hk : k < d.n) (s : ByteArray) (hs' : s.size ≤ 64) (w : World) (h : DevAt w b f m d) (hS : w.cell? ⟨S, 0, none⟩ = some (.string s)) (hD : w.cell? ⟨D, 0, none⟩ = some (.pointer (some ⟨b, 0, none⟩))) (hA : w.cell? ⟨A, 0, none⟩ = some (.int .i64 (k : Int))) (nS : S ≠ b) (nD : D ≠ b) (nA : A ≠ b) :
    Calls Tryz.prog 64 #[.pointer (some ⟨b, 0, none⟩), .func (.func 65) #[] #[.pointer (some ⟨S, 0, none⟩), .pointer (some ⟨D, 0, none⟩), .pointer (some ⟨A, 0, none⟩)]] w fun e w' => e = .returned (.int .i64 (dtry d (dset k s)).1) ∧ DevAt w' b f m (dtry d (dset k s)).2 ∧ Keep (devS b f m) w w' := by
  have c2 := h.c2
  have c3 := h.c3
  have f2 := h.fr 2 (by omega)
  have f3 := h.fr 3 (by omega)
  have a0 := h.ok.a0
  have a1 := h.ok.a1
  obtain ⟨arm, harm⟩ : ∃ a, d.armed = a := ⟨_, rfl⟩
  rw [harm] at c2 a0 a1
  by_cases h0 : arm = 0
  · have e1 : dtry d (dset k s) = (7, { d with dead := true }) := by unfold dtry; rw [if_pos (harm.trans h0)]
    rw [e1]
    subst h0
    have hs := h.setDead true
    have Hh := Aside.mk harm
    clear e1 harm
    go_enter Tryz.func64, Tryz.ntmps64
    go_wp2_with fail
    go_ret
    exact ⟨rfl, hs, (Keep.refl (devS b f m) w).setCell (p := ⟨b, 3, none⟩) (.inl (.inl rfl)) _⟩
  · have e1 : dtry d (dset k s) = (0, (dset k s) (dstep d)) := by unfold dtry; rw [if_neg (by rw [harm]; exact h0)]
    rw [e1]
    have b0 : (arm == 0) = false := by simpa using h0
    by_cases hp : 0 < arm
    · have e2 : dstep d = { d with armed := arm - 1 } := by unfold dstep; rw [harm, if_pos hp]
      have hs := h.setArmed (arm - 1) (by omega) (by omega)
      rw [← e2] at hs
      have hk1 : Keep (devS b f m) w (w.setCell ⟨b, 2, none⟩ (.int .i64 (arm - 1))) := (Keep.refl (devS b f m) w).setCell (p := ⟨b, 2, none⟩) (.inl (.inl rfl)) _
      have hk2 : Keep (fun k => k = b) w (w.setCell ⟨b, 2, none⟩ (.int .i64 (arm - 1))) := (Keep.refl (fun k => k = b) w).setCell (p := ⟨b, 2, none⟩) (.inl rfl) _
      have hS' := hk2.cell hS nS
      have hD' := hk2.cell hD nD
      have hA' := hk2.cell hA nA
      have Hh := Aside.mk harm
      have H2 := Aside.mk e2
      clear e1 harm e2 h0
      go_enter Tryz.func64, Tryz.ntmps64
      go_wp2_with fail
      refine (dev_write1 b f m S A D (dstep d) k hk s hs' _ hs hS' hD' hA').mono ?_
      rintro e w1 ⟨rfl, h1, hkw⟩
      go_wp2_with fail
      go_ret
      exact ⟨rfl, h1, hk1.trans hkw⟩
    · have e2 : dstep d = d := by unfold dstep; rw [harm, if_neg hp, ← harm]
      rw [e2]
      have Hh := Aside.mk harm
      have H2 := Aside.mk e2
      clear e1 harm e2 h0
      go_enter Tryz.func64, Tryz.ntmps64
      go_wp2_with fail
      refine (dev_write1 b f m S A D d k hk s hs' _ h hS hD hA).mono ?_
      rintro e w1 ⟨rfl, h1, hkw⟩
      go_wp2_with fail
      go_ret
      exact ⟨rfl, h1, hkw⟩

set_option maxHeartbeats 800000 in
theorem dev_try_flush (b f m : Nat) (d : Dv) (w : World) (h : DevAt w b f m d) :
    Calls Tryz.prog 64 #[.pointer (some ⟨b, 0, none⟩), .func (.func 66) #[.pointer (some ⟨b, 0, none⟩)] #[]] w fun e w' => e = .returned (.int .i64 (dtry d dsettle).1) ∧ DevAt w' b f m (dtry d dsettle).2 ∧ Keep (devS b f m) w w' := by
  have c2 := h.c2
  have c3 := h.c3
  have f2 := h.fr 2 (by omega)
  have f3 := h.fr 3 (by omega)
  have a0 := h.ok.a0
  have a1 := h.ok.a1
  obtain ⟨arm, harm⟩ : ∃ a, d.armed = a := ⟨_, rfl⟩
  rw [harm] at c2 a0 a1
  by_cases h0 : arm = 0
  · have e1 : dtry d dsettle = (7, { d with dead := true }) := by unfold dtry; rw [if_pos (harm.trans h0)]
    rw [e1]
    subst h0
    have hs := h.setDead true
    have Hh := Aside.mk harm
    clear e1 harm
    go_enter Tryz.func64, Tryz.ntmps64
    go_wp2_with fail
    go_ret
    exact ⟨rfl, hs, (Keep.refl (devS b f m) w).setCell (p := ⟨b, 3, none⟩) (.inl (.inl rfl)) _⟩
  · have e1 : dtry d dsettle = (0, dsettle (dstep d)) := by unfold dtry; rw [if_neg (by rw [harm]; exact h0)]
    rw [e1]
    have b0 : (arm == 0) = false := by simpa using h0
    by_cases hp : 0 < arm
    · have e2 : dstep d = { d with armed := arm - 1 } := by unfold dstep; rw [harm, if_pos hp]
      have hs := h.setArmed (arm - 1) (by omega) (by omega)
      rw [← e2] at hs
      have hk1 : Keep (devS b f m) w (w.setCell ⟨b, 2, none⟩ (.int .i64 (arm - 1))) := (Keep.refl (devS b f m) w).setCell (p := ⟨b, 2, none⟩) (.inl (.inl rfl)) _
      have hk2 : Keep (fun k => k = b) w (w.setCell ⟨b, 2, none⟩ (.int .i64 (arm - 1))) := (Keep.refl (fun k => k = b) w).setCell (p := ⟨b, 2, none⟩) (.inl rfl) _
      have Hh := Aside.mk harm
      have H2 := Aside.mk e2
      clear e1 harm e2 h0
      go_enter Tryz.func64, Tryz.ntmps64
      go_wp2_with fail
      refine (dev_settle b f m (dstep d) _ hs).mono ?_
      rintro e w1 ⟨rfl, h1, hkw⟩
      go_wp2_with fail
      go_ret
      exact ⟨rfl, h1, hk1.trans hkw⟩
    · have e2 : dstep d = d := by unfold dstep; rw [harm, if_neg hp, ← harm]
      rw [e2]
      have Hh := Aside.mk harm
      have H2 := Aside.mk e2
      clear e1 harm e2 h0
      go_enter Tryz.func64, Tryz.ntmps64
      go_wp2_with fail
      refine (dev_settle b f m d _ h).mono ?_
      rintro e w1 ⟨rfl, h1, hkw⟩
      go_wp2_with fail
      go_ret
      exact ⟨rfl, h1, hkw⟩


set_option maxHeartbeats 800000 in
theorem dev_flush (b f m : Nat) (d : Dv) (w : World) (h : DevAt w b f m d) :
    Calls Tryz.prog 34 #[.pointer (some ⟨b, 0, none⟩)] w fun e w' => e = .returned (.int .i64 (dflush d).1) ∧ DevAt w' b f m (dflush d).2 ∧ Keep (devS b f m) w w' := by
  have c3 := h.c3
  have hmf := run_makeFunc Tryz.prog
  cases hdd : d.dead with
  | true =>
    have e1 : dflush d = (7, d) := by unfold dflush; rw [if_pos hdd]
    rw [e1]
    rw [hdd] at c3
    clear e1 hdd
    go_enter Tryz.func34, Tryz.ntmps34
    go_wp2_with fail
    go_ret
    exact ⟨rfl, h, Keep.refl _ _⟩
  | false =>
    have e1 : dflush d = dtry d dsettle := by unfold dflush; rw [if_neg (by rw [hdd]; simp)]
    rw [e1]
    rw [hdd] at c3
    clear e1 hdd
    go_enter Tryz.func34, Tryz.ntmps34
    go_wp2_with fail
    refine (dev_try_flush b f m d _ h).mono ?_
    rintro e w1 ⟨rfl, h1, hk⟩
    go_wp2_with fail
    go_ret
    exact ⟨rfl, h1, hk⟩

set_option maxHeartbeats 800000 in
theorem dev_write (b f m : Nat) (d : Dv) (k : Int) (s : ByteArray) (hk : -9223372036854775808 ≤ k ∧ k ≤ 9223372036854775807) (hsz : s.size ≤ 9223372036854775807) (w : World) (h : DevAt w b f m d) :
    Calls Tryz.prog 33 #[.pointer (some ⟨b, 0, none⟩), .int .i64 k, .string s] w fun e w' => e = .returned (.int .i64 (dwrite d k s).1) ∧ DevAt w' b f m (dwrite d k s).2 ∧ Keep (devS b f m) w w' := by
  have hka : Keep (fun _ => False) w (((w.alloc (.cells #[.pointer (some ⟨b, 0, none⟩)] 28)).alloc (.cells #[.int .i64 k] 3)).alloc (.cells #[.string s] 9)) := (((Keep.refl _ _).alloc _).alloc _).alloc _
  have h' := h.keep hka ⟨id, id, id⟩
  have hlt := h.lt
  have hmf := run_makeFunc Tryz.prog
  have cD : (((w.alloc (.cells #[.pointer (some ⟨b, 0, none⟩)] 28)).alloc (.cells #[.int .i64 k] 3)).alloc (.cells #[.string s] 9)).cell? ⟨w.heap.size, 0, none⟩ = some (.pointer (some ⟨b, 0, none⟩)) := (((Keep.refl (fun _ => False) _).alloc _).alloc _).cell (World.cell?_alloc_new w #[.pointer (some ⟨b, 0, none⟩)] _ 0) id
  have cA : (((w.alloc (.cells #[.pointer (some ⟨b, 0, none⟩)] 28)).alloc (.cells #[.int .i64 k] 3)).alloc (.cells #[.string s] 9)).cell? ⟨w.heap.size + 1, 0, none⟩ = some (.int .i64 k) := ((Keep.refl (fun _ => False) _).alloc _).cell (by have := World.cell?_alloc_new (w.alloc (.cells #[.pointer (some ⟨b, 0, none⟩)] 28)) #[.int .i64 k] 3 0; rw [World.size_alloc] at this; exact this) id
  have cS : (((w.alloc (.cells #[.pointer (some ⟨b, 0, none⟩)] 28)).alloc (.cells #[.int .i64 k] 3)).alloc (.cells #[.string s] 9)).cell? ⟨w.heap.size + 2, 0, none⟩ = some (.string s) := by have := World.cell?_alloc_new ((w.alloc (.cells #[.pointer (some ⟨b, 0, none⟩)] 28)).alloc (.cells #[.int .i64 k] 3)) #[.string s] 9 0; rw [World.size_alloc, World.size_alloc] at this; exact this
  have hkd : Keep (devS b f m) w (((w.alloc (.cells #[.pointer (some ⟨b, 0, none⟩)] 28)).alloc (.cells #[.int .i64 k] 3)).alloc (.cells #[.string s] 9)) := hka.mono fun _ h => h.elim
  by_cases hr : dref d k = 0
  · have hkn : 0 ≤ k ∧ k.toNat < d.n := by
      unfold dref at hr
      split at hr
      · cases hr
      · split at hr
        · cases hr
        · omega
    obtain ⟨j, rfl⟩ := Int.eq_ofNat_of_zero_le hkn.1
    have hj : j < d.n := by simpa using hkn.2
    by_cases hbig : 64 < s.size
    · have e1 : dwrite d j s = (3, d) := by unfold dwrite; rw [if_neg (by rw [hr]; simp), if_pos hbig]
      rw [e1]
      have Hr := Aside.mk hr
      clear e1 hr hkn cA cD
      go_enter Tryz.func33, Tryz.ntmps33
      go_wp2_with fail
      refine (dev_refused b f m d j hk _ h').mono ?_
      rw [Hr.out]
      rintro e w1 ⟨rfl, rfl⟩
      go_wp2_with fail
      go_ret
      exact ⟨rfl, h', hkd⟩
    · have e1 : dwrite d j s = dtry d (dset j s) := by unfold dwrite; rw [if_neg (by rw [hr]; simp), if_neg hbig]; rfl
      rw [e1]
      have Hr := Aside.mk hr
      have hs64 : s.size ≤ 64 := by omega
      have hcon := dev_try_write b f m d (w.heap.size + 2) (w.heap.size + 1) w.heap.size j hj s hs64 _ h' cS cD cA (by omega) (by omega) (by omega)
      clear e1 hr hkn cA cD
      go_enter Tryz.func33, Tryz.ntmps33
      go_wp2_with fail
      refine (dev_refused b f m d j hk _ h').mono ?_
      rw [Hr.out]
      rintro e w1 ⟨rfl, rfl⟩
      go_wp2_with fail
      refine hcon.mono ?_
      rintro e w1 ⟨rfl, h1, hk1⟩
      go_wp2_with fail
      go_ret
      exact ⟨rfl, h1, hkd.trans hk1⟩
  · have e1 : dwrite d k s = (dref d k, d) := by unfold dwrite; rw [if_pos hr]
    rw [e1]
    obtain ⟨r, hrr⟩ : ∃ r, dref d k = r := ⟨_, rfl⟩
    rw [hrr] at hr ⊢
    have Hr := Aside.mk hrr
    have hr0 : (r == 0) = false := by simpa using hr
    have hr1 : (r != 0) = true := by simpa using hr
    clear e1 hr hrr cA cD cS
    go_enter Tryz.func33, Tryz.ntmps33
    go_wp2_with fail
    refine (dev_refused b f m d k hk _ h').mono ?_
    rw [Hr.out]
    rintro e w1 ⟨rfl, rfl⟩
    go_wp2_with fail
    go_ret
    exact ⟨rfl, h', hkd⟩
end Go.Proofs.YtpfkpaombiikcaaGreatDoor
