/- What the methods of the reference's reader compute. -/
import Derived.Test.YthlmigbimeldbaaRdW
import Derived.Test.YthlmigbimeldbaaVarL
set_option maxRecDepth 16000
namespace Go.Proofs.Ythlmigbimeldbaa
open Go.RowKit Go.Pin
set_option linter.unusedVariables false
set_option linter.unusedSimpArgs false

set_option maxHeartbeats 400000 in
theorem rr_new (s : ByteArray) (w : World) :
    Calls Try.prog 35 #[.string s] w fun e w' => e = .returned (.pointer (some ⟨w.heap.size, 0, none⟩)) ∧ RdAt w' w.heap.size ⟨s, false⟩ ∧ w'.heap.size = w.heap.size + 1 ∧ Below w.heap.size w w' := by
  go_enter Try.func35, Try.ntmps35
  go_wp2_with fail
  go_ret
  exact ⟨rfl, ⟨by simp, by simp, by simp, by simp⟩, by simp, (Below.refl _ _).alloc (Nat.le_refl _) _⟩

set_option maxHeartbeats 400000 in
theorem rr_fail (b : Nat) (r : Rd) (w : World) (h : RdAt w b r) :
    Calls Try.prog 70 #[.pointer (some ⟨b, 0, none⟩)] w fun e w' => e = .returned (.tuple #[]) ∧ RdAt w' b Rd.fail ∧ Keep (fun k => k = b) w w' := by
  have h0 := h.c0
  have h1 := h.c1
  have f0 := h.f0
  have f1 := h.f1
  have hr := (h.setBad true).set ⟨#[]⟩
  go_enter Try.func70, Try.ntmps70
  go_wp2_with fail
  go_end0
  exact ⟨rfl, hr, ((Keep.refl (fun k => k = b) w).setCell (p := ⟨b, 1, none⟩) (.inl rfl) _).setCell (p := ⟨b, 0, none⟩) (.inl rfl) _⟩

set_option maxHeartbeats 800000 in
theorem rr_bytes (b : Nat) (r : Rd) (n : Int) (w : World) (h : RdAt w b r) (hn : -9223372036854775808 ≤ n ∧ n ≤ 9223372036854775807) (hs : r.s.size ≤ 1152921504606846976) :
    Calls Try.prog 111 #[.pointer (some ⟨b, 0, none⟩), .int .i64 n] w fun e w' =>
      e = .returned (.string (r.bytes n).1) ∧ RdAt w' b (r.bytes n).2 ∧ Keep (fun k => k = b) w w' := by
  have h0 := h.c0
  have h1 := h.c1
  by_cases hbad : r.bad = true
  · have e1 : r.bytes n = (⟨#[]⟩, Rd.fail) := by unfold Rd.bytes; rw [if_pos (.inl hbad)]
    rw [e1]
    rw [hbad] at h1
    go_enter Try.func111, Try.ntmps111
    go_wp2_with (go_at_call 70; refine (rr_fail _ _ _ h).mono ?_; rintro e w' ⟨rfl, hr', hk'⟩)
    go_ret
    exact ⟨rfl, hr', hk'⟩
  · have hb' := Bool.eq_false_iff.2 hbad
    rw [hb'] at h1
    by_cases h2 : n < 0
    · have e1 : r.bytes n = (⟨#[]⟩, Rd.fail) := by unfold Rd.bytes; rw [if_pos (.inr (.inl h2))]
      rw [e1]
      go_enter Try.func111, Try.ntmps111
      go_wp2_with (go_at_call 70; refine (rr_fail _ _ _ h).mono ?_; rintro e w' ⟨rfl, hr', hk'⟩)
      go_ret
      exact ⟨rfl, hr', hk'⟩
    · by_cases h3 : (r.s.size : Int) < n
      · have e1 : r.bytes n = (⟨#[]⟩, Rd.fail) := by unfold Rd.bytes; rw [if_pos (.inr (.inr h3))]
        rw [e1]
        go_enter Try.func111, Try.ntmps111
        go_wp2_with (go_at_call 70; refine (rr_fail _ _ _ h).mono ?_; rintro e w' ⟨rfl, hr', hk'⟩)
        go_ret
        exact ⟨rfl, hr', hk'⟩
      · have e1 : r.bytes n = (r.s.extract 0 n.toNat, ⟨r.s.extract n.toNat r.s.size, r.bad⟩) := by unfold Rd.bytes; rw [if_neg (by rintro (h | h | h); exact hbad h; exact h2 h; exact h3 h)]
        rw [e1]
        obtain ⟨k, rfl⟩ := Int.eq_ofNat_of_zero_le (show 0 ≤ n by omega)
        have f0 := h.f0
        have hr := h.set (r.s.extract k r.s.size)
        have hk2 : k ≤ r.s.size := by omega
        rw [hb'] at hr
        go_enter Try.func111, Try.ntmps111
        go_wp2_with fail
        go_ret
        exact ⟨rfl, hr, (Keep.refl (fun k => k = b) w).setCell (p := ⟨b, 0, none⟩) (.inl rfl) _⟩


set_option maxHeartbeats 800000 in
theorem rr_var (b : Nat) (r : Rd) (w : World) (h : RdAt w b r) (hs : r.s.size ≤ 1152921504606846976) :
    Calls Try.prog 68 #[.pointer (some ⟨b, 0, none⟩)] w fun e w' =>
      e = .returned (.int .u64 r.var.1) ∧ RdAt w' b r.var.2 ∧ Keep (fun k => k = b) w w' := by
  have h0 := h.c0
  have hse := str_beq
  obtain ⟨m, hm1, hm2, hm⟩ : ∃ m : Nat, m ≤ 10 ∧ m ≤ r.s.size ∧ m = min 10 r.s.size := ⟨_, by omega, by omega, rfl⟩
  have Hm := Aside.mk hm
  clear hm
  go_enter Try.func68, Try.ntmps68
  go_wp2_with fail
  go_loopw [3, 4] (fun v i wr => ∃ (j : Nat) (x : Int), j ≤ m ∧ i = .int .i64 j ∧ v = .int .u64 x ∧ 0 ≤ x ∧ x.toNat < 128 ^ j ∧ vget r.s.data.toList = vscan r.s.data.toList (10 - j) j x.toNat ∧ (∀ a ∈ r.s.data.toList.take j, 128 ≤ a.toNat) ∧ (j ≤ 9 → x.toNat = vval (r.s.data.toList.take j)) ∧ wr = w) (fun _ i _ => m - (intOf i).toNat)
  case atStart => exact ⟨0, 0, by omega, rfl, rfl, by omega, by decide, rfl, by simp, fun _ => rfl, rfl⟩
  case round =>
    obtain ⟨j, x, hj, rfl, rfl, hx0, hx1, hv, hall, hval, rfl⟩ := hrel
    have Hv := Aside.mk hv
    have Hx1 := Aside.mk hx1
    have Hall := Aside.mk hall
    have Hval := Aside.mk hval
    clear hv hx1 hall hval
    have hsl : r.s.data.toList.length = r.s.size := rfl
    by_cases hlt : j < m
    · have hjs : j < r.s.size := by omega
      have hgd : r.s.data.toList.getD j 0 = r.s[j] := by rw [List.getD, List.getElem?_eq_getElem hjs]; rfl
      have hstep := vscan_step r.s.data.toList j x.toNat hjs (by omega)
      rw [hgd] at hstep
      obtain ⟨y, hy, hy0, hy1⟩ : ∃ y : Int, bits BinOp.or IntKind.u64 x (IntKind.u64.wrap ((r.s[j].toNat : Int) % 128 * 2 ^ (7 * j))) = y ∧ 0 ≤ y ∧ y.toNat = x.toNat + r.s[j].toNat % 128 * 128 ^ j % 18446744073709551616 :=
        ⟨_, or_law2 x r.s[j] j (by omega) hx0 Hx1.out, by omega, by rw [Int.toNat_natCast]⟩
      have hyl : y.toNat < 18446744073709551616 := by
        have h1 := bits_within .or .u64 x (IntKind.u64.wrap ((r.s[j].toNat : Int) % 128 * 2 ^ (7 * j)))
        have e : IntKind.u64.max = 18446744073709551615 := by decide
        rw [hy, e] at h1
        omega
      have Hy1 := Aside.mk hy1
      rw [← hy1, ← Hv.out] at hstep
      have hval2 : y.toNat = vval (r.s.data.toList.take j) + (r.s.data.toList.getD j 0).toNat % 128 * 128 ^ j % 18446744073709551616 := by rw [hy1, Hval.out (by omega), hgd]
      have htest := vput_test r.s.data.toList j (by omega) hjs Hall.out
      rw [← hval2, ← vputS_eq, hgd] at htest
      have Hgd := Aside.mk hgd
      have hyl2 : y ≤ 18446744073709551615 := by omega
      clear hy1 hgd hval2 hyl
      obtain ⟨c, hc, hc0, hc1⟩ : ∃ c : Int, (r.s[j].toNat : Int) = c ∧ 0 ≤ c ∧ c ≤ 255 := ⟨_, rfl, by omega, by have := r.s[j].toNat_lt; omega⟩
      have Hc := Aside.mk hc
      rw [hc] at hy
      by_cases hb : 128 ≤ c
      · rw [if_pos (by omega)] at hstep
        have Hstep := Aside.mk hstep
        have htake : r.s.data.toList.take (j + 1) = r.s.data.toList.take j ++ [r.s[j]] := List.take_succ_eq_append_getElem hjs
        have Htake := Aside.mk htake
        clear hstep htest htake
        go_wp2_with fail
        go_roundw
        case rel =>
          refine ⟨j + 1, y, by omega, by go_num, rfl, hy0, by rw [Hy1.out]; exact acc_lt _ _ _ Hx1.out, Hstep.out, ?_, ?_, trivial⟩
          · intro a ha
            rw [Htake.out, List.mem_append] at ha
            rcases ha with ha | ha
            · exact Hall.out a ha
            · rw [List.mem_singleton] at ha; subst ha; omega
          · intro hj8
            rw [Htake.out, vval_append, List.length_take, Nat.min_eq_left (by omega), Hy1.out, Hval.out (by omega)]
            rw [Nat.mod_eq_of_lt]
            have h1 : r.s[j].toNat % 128 * 128 ^ j ≤ 127 * 128 ^ j := Nat.mul_le_mul_right _ (by omega)
            have h2 : (128 : Nat) ^ j ≤ 128 ^ 8 := Nat.pow_le_pow_right (by omega) (by omega)
            have e8 : (128 : Nat) ^ 8 = 72057594037927936 := by decide
            rw [e8] at h2
            omega
        case measure => simp [intOf]; omega
      · rw [if_neg (by omega)] at hstep
        replace htest := htest (by omega)
        have h0' : ∀ z : KW (fun _ => False) wr, z.w.cell? ⟨b, 0, none⟩ = some (.string r.s) := fun z => z.keep.cell h0 id
        by_cases hA : (0 < j ∧ r.s[j].toNat = 0) ∨ (j = 9 ∧ 1 < r.s[j].toNat)
        · rw [if_pos hA] at hstep
          have HV := Aside.mk (show r.var.1 = 0 ∧ r.var.2 = Rd.fail by unfold Rd.var; rw [hstep]; exact ⟨rfl, rfl⟩)
          have hne : ¬ vputS y.toNat = r.s.extract 0 (j + 1) := fun h => htest.1 h hA
          clear hstep htest hA
          go_wp2_with fail
          refine wp_region_keep (fun _ => False) (by kernel_rfl) (by kernel_rfl) ?_
          repeat (go_big_quiet_step ((go_at_call 89; exact KW.calls (varref_put _ hy0 hyl2 _))))
          refine wpQuiet_nil ?_
          intro z
          have hz := h.keep z.keep id
          clear h0'
          go_wp2_with (go_at_call 70; refine (rr_fail _ _ _ hz).mono ?_; rintro e w' ⟨rfl, hr', hk'⟩)
          go_ret
          refine ⟨?_, by rw [HV.out.2]; exact hr', (z.keep.mono (fun _ h => h.elim)).trans hk'⟩
          rw [HV.out.1]; rfl
        · rw [if_neg hA] at hstep
          have HV := Aside.mk (show r.var.1 = y.toNat ∧ r.var.2 = ⟨r.s.extract (j + 1) r.s.size, r.bad⟩ by unfold Rd.var; rw [hstep]; exact ⟨rfl, rfl⟩)
          have heq : vputS y.toNat = r.s.extract 0 (j + 1) := htest.2 hA
          clear hstep htest hA
          go_wp2_with fail
          refine wp_region_keep (fun _ => False) (by kernel_rfl) (by kernel_rfl) ?_
          repeat (go_big_quiet_step ((go_at_call 89; exact KW.calls (varref_put _ hy0 hyl2 _))))
          refine wpQuiet_nil ?_
          intro z
          have hz := h.keep z.keep id
          have g0 := hz.c0
          have g1 := hz.f0
          clear h0' heq
          go_wp2_with fail
          go_ret
          refine ⟨?_, by rw [HV.out.2]; exact hz.set _, (z.keep.mono (T := fun k => k = b) (fun _ h => h.elim)).setCell (p := ⟨b, 0, none⟩) (.inl rfl) _⟩
          rw [HV.out.1, Int.toNat_of_nonneg hy0]; rfl
    · obtain rfl : j = m := by omega
      have hend := vscan_end r.s.data.toList j x.toNat Hm.out
      rw [← Hv.out] at hend
      have HV := Aside.mk (show r.var.1 = 0 ∧ r.var.2 = Rd.fail by unfold Rd.var; rw [hend]; exact ⟨rfl, rfl⟩)
      clear hend
      by_cases h10 : j < 10
      · have hjz : r.s.size ≤ j := by have := Hm.out; omega
        go_wp2_with (go_at_call 70; refine (rr_fail _ _ _ h).mono ?_; rintro e w' ⟨rfl, hr', hk'⟩)
        go_ret
        refine ⟨?_, by rw [HV.out.2]; exact hr', hk'⟩
        rw [HV.out.1]; rfl
      · 
        go_wp2_with (go_at_call 70; refine (rr_fail _ _ _ h).mono ?_; rintro e w' ⟨rfl, hr', hk'⟩)
        go_ret
        refine ⟨?_, by rw [HV.out.2]; exact hr', hk'⟩
        rw [HV.out.1]; rfl

set_option maxHeartbeats 800000 in
theorem rr_text (b : Nat) (r : Rd) (w : World) (h : RdAt w b r) (hs : r.s.size ≤ 1152921504606846976) :
    Calls Try.prog 92 #[.pointer (some ⟨b, 0, none⟩)] w fun e w' =>
      e = .returned (.string r.text.1) ∧ RdAt w' b r.text.2 ∧ Keep (fun k => k = b) w w' := by
  have hle := Rd.var_le r
  have hlt := Rd.var_lt r
  obtain ⟨n, hn, hn0, hn1⟩ : ∃ n : Int, (r.var.1 : Int) = n ∧ 0 ≤ n ∧ n ≤ 18446744073709551615 := ⟨_, rfl, by omega, by omega⟩
  have Hn := Aside.mk hn
  clear hlt
  by_cases hc : (r.var.2.s.size : Int) < n
  · have e : r.text = (⟨#[]⟩, Rd.fail) := by unfold Rd.text; rw [if_pos (by omega)]
    rw [e]
    clear e
    go_enter Try.func92, Try.ntmps92
    go_wp2_with fail
    refine (rr_var _ _ _ h hs).mono ?_
    rw [Hn.out]
    rintro e w1 ⟨rfl, hr1, hk1⟩
    have g0 := hr1.c0
    go_wp2_with fail
    refine (rr_fail _ _ _ hr1).mono ?_
    rintro e w2 ⟨rfl, hr2, hk2⟩
    clear g0
    go_wp2_with fail
    go_ret
    exact ⟨rfl, hr2, hk1.trans hk2⟩
  · have e : r.text = r.var.2.bytes n := by unfold Rd.text; rw [if_neg (by omega), hn]
    rw [e]
    clear e hn
    go_enter Try.func92, Try.ntmps92
    go_wp2_with fail
    refine (rr_var _ _ _ h hs).mono ?_
    rw [Hn.out]
    rintro e w1 ⟨rfl, hr1, hk1⟩
    have g0 := hr1.c0
    go_wp2_with fail
    refine (rr_bytes _ _ _ _ hr1 (by omega) (by omega)).mono ?_
    rintro e w3 ⟨rfl, hr3, hk3⟩
    clear g0
    go_wp2_with fail
    go_ret
    exact ⟨rfl, hr3, hk1.trans hk3⟩
end Go.Proofs.Ythlmigbimeldbaa
