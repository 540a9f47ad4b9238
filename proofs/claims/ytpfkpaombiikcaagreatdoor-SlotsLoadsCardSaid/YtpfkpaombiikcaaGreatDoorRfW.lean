import Derived.Test.YtpfkpaombiikcaaGreatDoorRfM
import Derived.Test.YtpfkpaombiikcaaGreatDoorDevE
/- What the document's device computes: crashes, Write, Read, Arm, Image. -/
set_option maxRecDepth 16000
namespace Go.Proofs.YtpfkpaombiikcaaGreatDoor
open Go.RowKit Go.Pin
set_option linter.unusedVariables false
set_option linter.unusedSimpArgs false
/-- What a step does to the count, and to whether it has crashed. -/
def dcrash (d : Dv) : Bool × Dv := if d.armed = 0 then (true, { d with dead := true }) else (d.dead, dstep d)
set_option maxHeartbeats 800000 in
theorem ref_crashes (b N O V : Nat) (d : Dv) (w : World) (h : RefAt w b N O V d) :
    Calls Tryz.prog 70 #[.pointer (some ⟨b, 0, none⟩)] w fun e w' => e = .returned (.bool (dcrash d).1) ∧ RefAt w' b N O V (dcrash d).2 ∧ Keep (fun k => k = b) w w' := by
  have c3 := h.c3
  have c4 := h.c4
  have f3 := h.fr 3 (by omega)
  have f4 := h.fr 4 (by omega)
  have a0 := h.ok.a0
  have a1 := h.ok.a1
  obtain ⟨arm, harm⟩ : ∃ a, d.armed = a := ⟨_, rfl⟩
  rw [harm] at c3 a0 a1
  by_cases h0 : arm = 0
  · have e1 : dcrash d = (true, { d with dead := true }) := by unfold dcrash; rw [if_pos (harm.trans h0)]
    rw [e1]
    subst h0
    have hs := h.setDead true
    have Hh := Aside.mk harm
    clear e1 harm
    go_enter Tryz.func70, Tryz.ntmps70
    go_wp2_with fail
    go_ret
    exact ⟨rfl, hs, (Keep.refl (fun k => k = b) w).setCell (p := ⟨b, 4, none⟩) (.inl rfl) _⟩
  · have e1 : dcrash d = (d.dead, dstep d) := by unfold dcrash; rw [if_neg (by rw [harm]; exact h0)]
    rw [e1]
    have b0 : (arm == 0) = false := by simpa using h0
    by_cases hp : 0 < arm
    · have e2 : dstep d = { d with armed := arm - 1 } := by unfold dstep; rw [harm, if_pos hp]
      have hs := h.setArmed (arm - 1) (by omega) (by omega)
      rw [e2]
      have Hh := Aside.mk harm
      have H2 := Aside.mk e2
      clear e1 harm e2 h0
      go_enter Tryz.func70, Tryz.ntmps70
      go_wp2_with fail
      go_ret
      exact ⟨rfl, hs, (Keep.refl (fun k => k = b) w).setCell (p := ⟨b, 3, none⟩) (.inl rfl) _⟩
    · have e2 : dstep d = d := by unfold dstep; rw [harm, if_neg hp, ← harm]
      rw [e2]
      have Hh := Aside.mk harm
      have H2 := Aside.mk e2
      clear e1 harm e2 h0
      go_enter Tryz.func70, Tryz.ntmps70
      go_wp2_with fail
      go_ret
      exact ⟨rfl, h, Keep.refl _ _⟩
set_option maxHeartbeats 400000 in
theorem ref_arm (b N O V : Nat) (d : Dv) (k : Int) (hk : -9223372036854775808 ≤ k ∧ k ≤ 9223372036854775807) (w : World) (h : RefAt w b N O V d) :
    Calls Tryz.prog 15 #[.pointer (some ⟨b, 0, none⟩), .int .i64 k] w fun e w' => e = .returned (.tuple #[]) ∧ RefAt w' b N O V (darm d k) ∧ Keep (refS b N O V) w w' := by
  have h3 := h.c3
  have f3 := h.fr 3 (by omega)
  obtain ⟨j, hj, hj0, hj1⟩ : ∃ j : Int, (if k < -1 then -1 else k) = j ∧ -1 ≤ j ∧ j ≤ 9223372036854775807 := ⟨_, rfl, by split <;> omega, by split <;> omega⟩
  have hd : darm d k = { d with armed := j } := by unfold darm; rw [hj]
  rw [hd]
  have hs := h.setArmed j hj0 hj1
  have Hd := Aside.mk hd
  clear hd
  by_cases hk1 : k < -1
  · rw [if_pos hk1] at hj
    subst hj
    have hmx : max k (-1) = -1 := by omega
    go_enter Tryz.func15, Tryz.ntmps15
    go_wp2_with fail
    go_end0
    exact ⟨rfl, hs, (Keep.refl (refS b N O V) w).setCell (p := ⟨b, 3, none⟩) (.inl (.inl rfl)) _⟩
  · rw [if_neg hk1] at hj
    subst hj
    have hmx : max k (-1) = k := by omega
    go_enter Tryz.func15, Tryz.ntmps15
    go_wp2_with fail
    go_end0
    exact ⟨rfl, hs, (Keep.refl (refS b N O V) w).setCell (p := ⟨b, 3, none⟩) (.inl (.inl rfl)) _⟩
set_option maxHeartbeats 800000 in
theorem ref_read (b N O V : Nat) (d : Dv) (k : Int) (hk : -9223372036854775808 ≤ k ∧ k ≤ 9223372036854775807) (w : World) (h : RefAt w b N O V d) :
    Calls Tryz.prog 67 #[.pointer (some ⟨b, 0, none⟩), .int .i64 k] w fun e w' => e = .returned (.tuple #[.string (dread d k).1, .int .i64 (dread d k).2]) ∧ w' = w := by
  obtain ⟨c, hc1, hc2, h0⟩ := h.c0
  have h4 := h.c4
  have hn := h.ok.n2
  cases hdd : d.dead with
  | true =>
    have e1 : dread d k = (⟨#[]⟩, 7) := dread_ref (by unfold dref; rw [if_pos hdd]) (by decide)
    rw [e1]
    rw [hdd] at h4
    clear hdd e1
    go_enter Tryz.func67, Tryz.ntmps67
    go_wp2_with fail
    go_ret2
    exact ⟨rfl, rfl⟩
  | false =>
    rw [hdd] at h4
    by_cases hlow : k < 0
    · have e1 : dread d k = (⟨#[]⟩, 5) := dread_ref (by unfold dref; rw [if_neg (by rw [hdd]; simp), if_pos (.inl hlow)]) (by decide)
      rw [e1]
      clear hdd e1
      go_enter Tryz.func67, Tryz.ntmps67
      go_wp2_with fail
      go_ret2
      exact ⟨rfl, rfl⟩
    · by_cases hhi : (d.n : Int) ≤ k
      · have e1 : dread d k = (⟨#[]⟩, 5) := dread_ref (by unfold dref; rw [if_neg (by rw [hdd]; simp), if_pos (.inr hhi)]) (by decide)
        rw [e1]
        clear hdd e1
        go_enter Tryz.func67, Tryz.ntmps67
        go_wp2_with fail
        go_ret2
        exact ⟨rfl, rfl⟩
      · obtain ⟨j, rfl⟩ := Int.eq_ofNat_of_zero_le (show 0 ≤ k by omega)
        have hj : j < d.n := by omega
        have hr : dref d (j : Int) = 0 := by unfold dref; rw [if_neg (by rw [hdd]; simp), if_neg (by omega)]
        have e1 : dread d (j : Int) = (d.s j, 0) := by unfold dread; rw [hr, if_neg (by simp), Int.toNat_natCast]
        rw [e1]
        have hcell := h.rN.at' j hj
        clear hdd e1 hr
        go_enter Tryz.func67, Tryz.ntmps67
        go_wp2_with fail
        go_ret2
        exact ⟨rfl, rfl⟩
set_option maxHeartbeats 800000 in
theorem ref_image (b N O V : Nat) (d : Dv) (w : World) (h : RefAt w b N O V d) :
    Calls Tryz.prog 23 #[.pointer (some ⟨b, 0, none⟩)] w fun e w' => e = .returned (.string (dimage d)) ∧ w' = w := by
  obtain ⟨c, hc1, hc2, h0⟩ := h.c0
  have hn := h.ok.n2
  have HR := Aside.mk h.rN.at'
  have HL := Aside.mk (dimgL_len h.ok)
  have HZ := Aside.mk h.ok.z2
  go_enter Tryz.func23, Tryz.ntmps23
  go_wp2_with fail
  go_loop [3, 4] (fun s i => ∃ k : Nat, k ≤ d.n ∧ i = .int .i64 k ∧ s = .string ⟨(dimgL d k).toArray⟩) (fun _ i => d.n - (intOf i).toNat)
  case atStart => exact ⟨0, by omega, rfl, rfl⟩
  case round =>
    obtain ⟨k, hk, rfl, rfl⟩ := hrel
    by_cases hlt : k < d.n
    · have hcell := HR.out k hlt
      have hs : (⟨(dimgL d (k + 1)).toArray⟩ : ByteArray) = (⟨(dimgL d k).toArray⟩ : ByteArray) ++ d.s k := by
        apply ByteArray.ext; apply Array.ext'
        rw [dimgL_succ]; simp
      have Hs := Aside.mk hs
      obtain ⟨A, hA, hAz⟩ : ∃ A : ByteArray, (⟨(dimgL d k).toArray⟩ : ByteArray) = A ∧ A.size ≤ 262144 := ⟨_, rfl, by
        show (dimgL d k).toArray.size ≤ _
        rw [List.size_toArray, HL.out]; omega⟩
      have hsz := HZ.out k
      rw [hA]
      have HA := Aside.mk hA
      have hszl : (d.s k).size ≤ 64 := by omega
      clear hs hA hsz
      go_wp2_with fail
      go_round
      case rel => exact ⟨k + 1, by omega, by go_num, by rw [Hs.out, HA.out]⟩
      case measure => simp [intOf]; omega
    · obtain rfl : k = d.n := by omega
      go_wp2_with fail
      go_ret
      exact ⟨rfl, rfl⟩
end Go.Proofs.YtpfkpaombiikcaaGreatDoor
