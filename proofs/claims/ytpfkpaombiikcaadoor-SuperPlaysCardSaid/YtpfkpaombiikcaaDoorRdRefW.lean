/- What the methods of the reference's reader compute. -/
import Derived.Test.YtpfkpaombiikcaaDoorRdW
import Derived.Test.YtpfkpaombiikcaaDoorVarL
set_option maxRecDepth 16000
namespace Go.Proofs.YtpfkpaombiikcaaDoor
open Go.RowKit Go.Pin
set_option linter.unusedVariables false
set_option linter.unusedSimpArgs false

set_option maxHeartbeats 400000 in
theorem rr_new (s : ByteArray) (w : World) :
    Calls Tryd.prog 50 #[.string s] w fun e w' => e = .returned (.pointer (some ⟨w.heap.size, 0, none⟩)) ∧ RdAt w' w.heap.size ⟨s, false⟩ ∧ w'.heap.size = w.heap.size + 1 ∧ Below w.heap.size w w' := by
  go_enter Tryd.func50, Tryd.ntmps50
  go_wp2_with fail
  go_ret
  exact ⟨rfl, ⟨by simp, by simp, by simp, by simp⟩, by simp, (Below.refl _ _).alloc (Nat.le_refl _) _⟩

set_option maxHeartbeats 400000 in
theorem rr_fail (b : Nat) (r : Rd) (w : World) (h : RdAt w b r) :
    Calls Tryd.prog 88 #[.pointer (some ⟨b, 0, none⟩)] w fun e w' => e = .returned (.tuple #[]) ∧ RdAt w' b Rd.fail ∧ Keep (fun k => k = b) w w' := by
  have h0 := h.c0
  have h1 := h.c1
  have f0 := h.f0
  have f1 := h.f1
  have hr := (h.setBad true).set ⟨#[]⟩
  go_enter Tryd.func88, Tryd.ntmps88
  go_wp2_with fail
  go_end0
  exact ⟨rfl, hr, ((Keep.refl (fun k => k = b) w).setCell (p := ⟨b, 1, none⟩) (.inl rfl) _).setCell (p := ⟨b, 0, none⟩) (.inl rfl) _⟩

set_option maxHeartbeats 800000 in
theorem rr_bytes (b : Nat) (r : Rd) (n : Int) (w : World) (h : RdAt w b r) (hn : -9223372036854775808 ≤ n ∧ n ≤ 9223372036854775807) (hs : r.s.size ≤ 1152921504606846976) :
    Calls Tryd.prog 52 #[.pointer (some ⟨b, 0, none⟩), .int .i64 n] w fun e w' =>
      e = .returned (.string (r.bytes n).1) ∧ RdAt w' b (r.bytes n).2 ∧ Keep (fun k => k = b) w w' := by
  have h0 := h.c0
  have h1 := h.c1
  by_cases hbad : r.bad = true
  · have e1 : r.bytes n = (⟨#[]⟩, Rd.fail) := by unfold Rd.bytes; rw [if_pos (.inl hbad)]
    rw [e1]
    rw [hbad] at h1
    go_enter Tryd.func52, Tryd.ntmps52
    go_wp2_with (go_at_call 88; refine (rr_fail _ _ _ h).mono ?_; rintro e w' ⟨rfl, hr', hk'⟩)
    go_ret
    exact ⟨rfl, hr', hk'⟩
  · have hb' := Bool.eq_false_iff.2 hbad
    rw [hb'] at h1
    by_cases h2 : n < 0
    · have e1 : r.bytes n = (⟨#[]⟩, Rd.fail) := by unfold Rd.bytes; rw [if_pos (.inr (.inl h2))]
      rw [e1]
      go_enter Tryd.func52, Tryd.ntmps52
      go_wp2_with (go_at_call 88; refine (rr_fail _ _ _ h).mono ?_; rintro e w' ⟨rfl, hr', hk'⟩)
      go_ret
      exact ⟨rfl, hr', hk'⟩
    · by_cases h3 : (r.s.size : Int) < n
      · have e1 : r.bytes n = (⟨#[]⟩, Rd.fail) := by unfold Rd.bytes; rw [if_pos (.inr (.inr h3))]
        rw [e1]
        go_enter Tryd.func52, Tryd.ntmps52
        go_wp2_with (go_at_call 88; refine (rr_fail _ _ _ h).mono ?_; rintro e w' ⟨rfl, hr', hk'⟩)
        go_ret
        exact ⟨rfl, hr', hk'⟩
      · have e1 : r.bytes n = (r.s.extract 0 n.toNat, ⟨r.s.extract n.toNat r.s.size, r.bad⟩) := by unfold Rd.bytes; rw [if_neg (by rintro (h | h | h); exact hbad h; exact h2 h; exact h3 h)]
        rw [e1]
        obtain ⟨k, rfl⟩ := Int.eq_ofNat_of_zero_le (show 0 ≤ n by omega)
        have f0 := h.f0
        have hr := h.set (r.s.extract k r.s.size)
        have hk2 : k ≤ r.s.size := by omega
        rw [hb'] at hr
        go_enter Tryd.func52, Tryd.ntmps52
        go_wp2_with fail
        go_ret
        exact ⟨rfl, hr, (Keep.refl (fun k => k = b) w).setCell (p := ⟨b, 0, none⟩) (.inl rfl) _⟩


set_option maxHeartbeats 800000 in
theorem rr_fixed (b : Nat) (r : Rd) (k : Int) (w : World) (h : RdAt w b r) (hk : -9223372036854775808 ≤ k ∧ k ≤ 9223372036854775807) (hs : r.s.size ≤ 1152921504606846976) :
    Calls Tryd.prog 51 #[.pointer (some ⟨b, 0, none⟩), .int .i64 k] w fun e w' =>
      e = .returned (.int .u64 (r.fixed k).1) ∧ RdAt w' b (r.fixed k).2 ∧ Keep (fun k => k = b) w w' := by
  by_cases hout : k < 0 ∨ 8 < k
  · have e : r.fixed k = (0, Rd.fail) := by
      unfold Rd.fixed
      rcases hout with h1 | h1
      · rw [if_neg (by omega)]
        have : r.bytes k = (⟨#[]⟩, Rd.fail) := by unfold Rd.bytes; rw [if_pos (.inr (.inl h1))]
        rw [this]; rfl
      · rw [if_pos h1, rd_fail_bytes]; rfl
    rw [e]
    clear e
    by_cases h1 : k < 0
    · clear hout
      go_enter Tryd.func51, Tryd.ntmps51
      go_wp2_with (go_at_call 88; refine (rr_fail _ _ _ h).mono ?_; rintro e w1 ⟨rfl, hr', hk'⟩)
      go_ret
      exact ⟨rfl, hr', hk'⟩
    · have h2 : 8 < k := by omega
      clear hout
      go_enter Tryd.func51, Tryd.ntmps51
      go_wp2_with (go_at_call 88; refine (rr_fail _ _ _ h).mono ?_; rintro e w1 ⟨rfl, hr', hk'⟩)
      go_ret
      exact ⟨rfl, hr', hk'⟩
  · have h1 : 0 ≤ k := by omega
    have h2 : k ≤ 8 := by omega
    obtain ⟨x, hx⟩ : ∃ x, x = r.bytes k := ⟨_, rfl⟩
    have HF := Aside.mk (show r.fixed k = (beNat x.1.data.toList, x.2) by unfold Rd.fixed; rw [hx, if_neg (by omega)])
    have hxs : x.1.size ≤ 8 := by
      have := Rd.bytes_size r k
      rw [← hx] at this; omega
    have Hx := Aside.mk hx
    clear hx hout
    have hl : x.1.data.toList.length = x.1.size := rfl
    go_enter Tryd.func51, Tryd.ntmps51
    go_wp2_with (go_at_call 52; refine (rr_bytes _ _ k _ h hk hs).mono ?_; rw [← Hx.out]; rintro e w2 ⟨rfl, hR, hK⟩)
    have HK := Aside.mk hK
    have HR := Aside.mk hR
    clear hK hR
    go_loop [6, 7] (fun v i => ∃ (j : Nat) (y : Int), j ≤ x.1.size ∧ i = .int .i64 j ∧ v = .int .u64 y ∧ 0 ≤ y ∧ y.toNat = beNat (x.1.data.toList.take j)) (fun _ i => x.1.size - (intOf i).toNat)
    case atStart => exact ⟨0, 0, by omega, rfl, rfl, by omega, rfl⟩
    case round =>
      obtain ⟨j, y, hj, rfl, rfl, hy0, hy1⟩ := hrel
      have Hy1 := Aside.mk hy1
      clear hy1
      by_cases hlt : j < x.1.size
      · have hyl : y < 72057594037927936 := by
          have h1 := beNat_lt (x.1.data.toList.take j)
          rw [← Hy1.out, List.length_take, Nat.min_eq_left (by omega)] at h1
          have h2 : (256 : Nat) ^ j ≤ 256 ^ 7 := Nat.pow_le_pow_right (by omega) (by omega)
          have e7 : (256 : Nat) ^ 7 = 72057594037927936 := by decide
          omega
        have hgd : x.1.data.toList.getD j 0 = x.1[j] := by rw [List.getD, List.getElem?_eq_getElem hlt]; rfl
        obtain ⟨c, hc, hc0, hc1⟩ : ∃ c : Int, (x.1[j].toNat : Int) = c ∧ 0 ≤ c ∧ c ≤ 255 := ⟨_, rfl, by omega, by have := x.1[j].toNat_lt; omega⟩
        have Hc := Aside.mk hc
        have Hgd := Aside.mk hgd
        clear hgd
        go_wp2_with fail
        go_round
        case rel => exact ⟨j + 1, y * 256 + c, by omega, by go_num, rfl, by omega, by rw [beNat_take _ _ (by omega), Hgd.out, ← Hy1.out]; have := Hc.out; omega⟩
        case measure => simp [intOf]; omega
      · obtain rfl : j = x.1.size := by omega
        have hfin : y = (beNat x.1.data.toList : Int) := by
          have := Hy1.out
          rw [← hl, List.take_length] at this
          omega
        have Hfin := Aside.mk hfin
        clear hfin
        go_wp2_with fail
        go_ret
        rw [HF.out]
        exact ⟨by rw [← Hfin.out]; rfl, HR.out, HK.out⟩

end Go.Proofs.YtpfkpaombiikcaaDoor
