/- What the methods of varint.Reader compute. -/
import Derived.Test.YthlmigbimeldbaaVarW
import Derived.Test.YthlmigbimeldbaaRdM
set_option maxRecDepth 16000
namespace Go.Pin
open Go.RowKit
set_option linter.unusedVariables false
set_option linter.unusedSimpArgs false

/-- Block b holds the reader r. -/
structure RdAt (w : World) (b : Nat) (r : Rd) : Prop where
  c0 : w.cell? ⟨b, 0, none⟩ = some (.string r.s)
  c1 : w.cell? ⟨b, 1, none⟩ = some (.bool r.bad)
  f0 : w.frozen? ⟨b, 0, none⟩ = false
  f1 : w.frozen? ⟨b, 1, none⟩ = false
theorem RdAt.keep {S : Nat → Prop} {a w : World} {b : Nat} {r : Rd} (h : RdAt a b r) (hk : Keep S a w) (hn : ¬ S b) : RdAt w b r := by
  have hb : b < a.heap.size := World.block_lt_of_cell? (a := ⟨b, 0, none⟩) _ h.c0
  exact ⟨hk.cell h.c0 hn, hk.cell h.c1 hn, by rw [hk.frozen hb hn]; exact h.f0, by rw [hk.frozen hb hn]; exact h.f1⟩
theorem RdAt.below {a w : World} {b : Nat} {r : Rd} (h : RdAt a b r) (hk : Below a.heap.size a w) : RdAt w b r :=
  h.keep (Keep.of_below (S := fun _ => False) hk fun _ hk _ => hk) id
theorem RdAt.lt {a : World} {b : Nat} {r : Rd} (h : RdAt a b r) : b < a.heap.size := World.block_lt_of_cell? (a := ⟨b, 0, none⟩) _ h.c0
theorem RdAt.set {a : World} {b : Nat} {r : Rd} (h : RdAt a b r) (s : ByteArray) : RdAt (a.setCell ⟨b, 0, none⟩ (.string s)) b ⟨s, r.bad⟩ :=
  ⟨World.cell?_setCell_same _ _ _ h.c0, by rw [World.cell?_setCell_other _ _ _ _ (by simp)]; exact h.c1, by simpa using h.f0, by simpa using h.f1⟩
theorem RdAt.setBad {a : World} {b : Nat} {r : Rd} (h : RdAt a b r) (x : Bool) : RdAt (a.setCell ⟨b, 1, none⟩ (.bool x)) b ⟨r.s, x⟩ :=
  ⟨by rw [World.cell?_setCell_other _ _ _ _ (by simp)]; exact h.c0, World.cell?_setCell_same _ _ _ h.c1, by simpa using h.f0, by simpa using h.f1⟩
theorem RdAt.drew {a : World} {b : Nat} {r : Rd} (h : RdAt a b r) : RdAt a.drew b r := ⟨h.c0, h.c1, h.f0, h.f1⟩
end Go.Pin

namespace Go.Proofs.Ythlmigbimeldbaa
open Go.RowKit Go.Pin
set_option linter.unusedVariables false
set_option linter.unusedSimpArgs false

set_option maxHeartbeats 400000 in
theorem rd_new (s : ByteArray) (w : World) :
    Calls Try.prog 34 #[.string s] w fun e w' => e = .returned (.pointer (some ⟨w.heap.size, 0, none⟩)) ∧ RdAt w' w.heap.size ⟨s, false⟩ ∧ w'.heap.size = w.heap.size + 1 ∧ Below w.heap.size w w' := by
  go_enter Try.func34, Try.ntmps34
  go_wp2_with fail
  go_ret
  exact ⟨rfl, ⟨by simp, by simp, by simp, by simp⟩, by simp, (Below.refl _ _).alloc (Nat.le_refl _) _⟩

set_option maxHeartbeats 400000 in
theorem rd_ok (b : Nat) (r : Rd) (w : World) (h : RdAt w b r) :
    Calls Try.prog 38 #[.pointer (some ⟨b, 0, none⟩)] w fun e w' => e = .returned (.bool (!r.bad)) ∧ w' = w := by
  have h0 := h.c0
  have h1 := h.c1
  go_enter Try.func38, Try.ntmps38
  go_wp2_with fail
  go_ret
  exact ⟨rfl, rfl⟩
set_option maxHeartbeats 400000 in
theorem rd_left (b : Nat) (r : Rd) (w : World) (h : RdAt w b r) :
    Calls Try.prog 39 #[.pointer (some ⟨b, 0, none⟩)] w fun e w' => e = .returned (.int .i64 r.s.size) ∧ w' = w := by
  have h0 := h.c0
  have h1 := h.c1
  go_enter Try.func39, Try.ntmps39
  go_wp2_with fail
  go_ret
  exact ⟨rfl, rfl⟩
set_option maxHeartbeats 400000 in
theorem rd_fail (b : Nat) (r : Rd) (w : World) (h : RdAt w b r) :
    Calls Try.prog 67 #[.pointer (some ⟨b, 0, none⟩)] w fun e w' => e = .returned (.tuple #[]) ∧ RdAt w' b Rd.fail ∧ Keep (fun k => k = b) w w' := by
  have h0 := h.c0
  have h1 := h.c1
  have f0 := h.f0
  have f1 := h.f1
  have hr := (h.set ⟨#[]⟩).setBad true
  go_enter Try.func67, Try.ntmps67
  go_wp2_with fail
  go_end0
  exact ⟨rfl, hr, ((Keep.refl (fun k => k = b) w).setCell (p := ⟨b, 0, none⟩) (.inl rfl) _).setCell (p := ⟨b, 1, none⟩) (.inl rfl) _⟩

set_option maxHeartbeats 800000 in
theorem rd_bytes (b : Nat) (r : Rd) (n : Int) (w : World) (h : RdAt w b r) (hn : -9223372036854775808 ≤ n ∧ n ≤ 9223372036854775807) (hs : r.s.size ≤ 1152921504606846976) :
    Calls Try.prog 119 #[.pointer (some ⟨b, 0, none⟩), .int .i64 n] w fun e w' =>
      e = .returned (.string (r.bytes n).1) ∧ RdAt w' b (r.bytes n).2 ∧ Keep (fun k => k = b) w w' := by
  have h0 := h.c0
  have h1 := h.c1
  by_cases hbad : r.bad = true
  · have e1 : r.bytes n = (⟨#[]⟩, Rd.fail) := by unfold Rd.bytes; rw [if_pos (.inl hbad)]
    rw [e1]
    rw [hbad] at h1
    go_enter Try.func119, Try.ntmps119
    go_wp2_with (go_at_call 67; refine (rd_fail _ _ _ h).mono ?_; rintro e w' ⟨rfl, hr', hk'⟩)
    go_ret
    exact ⟨rfl, hr', hk'⟩
  · have hb' := Bool.eq_false_iff.2 hbad
    rw [hb'] at h1
    by_cases h2 : n < 0
    · have e1 : r.bytes n = (⟨#[]⟩, Rd.fail) := by unfold Rd.bytes; rw [if_pos (.inr (.inl h2))]
      rw [e1]
      go_enter Try.func119, Try.ntmps119
      go_wp2_with (go_at_call 67; refine (rd_fail _ _ _ h).mono ?_; rintro e w' ⟨rfl, hr', hk'⟩)
      go_ret
      exact ⟨rfl, hr', hk'⟩
    · by_cases h3 : (r.s.size : Int) < n
      · have e1 : r.bytes n = (⟨#[]⟩, Rd.fail) := by unfold Rd.bytes; rw [if_pos (.inr (.inr h3))]
        rw [e1]
        go_enter Try.func119, Try.ntmps119
        go_wp2_with (go_at_call 67; refine (rd_fail _ _ _ h).mono ?_; rintro e w' ⟨rfl, hr', hk'⟩)
        go_ret
        exact ⟨rfl, hr', hk'⟩
      · have e1 : r.bytes n = (r.s.extract 0 n.toNat, ⟨r.s.extract n.toNat r.s.size, r.bad⟩) := by unfold Rd.bytes; rw [if_neg (by rintro (h | h | h); exact hbad h; exact h2 h; exact h3 h)]
        rw [e1]
        obtain ⟨k, rfl⟩ := Int.eq_ofNat_of_zero_le (show 0 ≤ n by omega)
        have f0 := h.f0
        have hr := h.set (r.s.extract k r.s.size)
        have hk2 : k ≤ r.s.size := by omega
        rw [hb'] at hr
        go_enter Try.func119, Try.ntmps119
        go_wp2_with fail
        go_ret
        exact ⟨rfl, hr, (Keep.refl (fun k => k = b) w).setCell (p := ⟨b, 0, none⟩) (.inl rfl) _⟩

set_option maxHeartbeats 800000 in
theorem rd_var (b : Nat) (r : Rd) (w : World) (h : RdAt w b r) (hs : r.s.size ≤ 1152921504606846976) :
    Calls Try.prog 91 #[.pointer (some ⟨b, 0, none⟩)] w fun e w' =>
      e = .returned (.int .u64 r.var.1) ∧ RdAt w' b r.var.2 ∧ Keep (fun k => k = b) w w' := by
  have h0 := h.c0
  obtain ⟨m, hm, hm1, hm2⟩ : ∃ m : Nat, (if (r.s.size : Int) < 10 then (r.s.size : Int) else 10) = (m : Int) ∧ m ≤ 10 ∧ m ≤ r.s.size := by
    by_cases h : (r.s.size : Int) < 10
    · exact ⟨r.s.size, if_pos h, by omega, by omega⟩
    · exact ⟨10, if_neg h, by omega, by omega⟩
  have Hm := Aside.mk (show m = min 10 r.s.size by split at hm <;> omega)
  go_enter Try.func91, Try.ntmps91
  go_wp2_with fail
  clear hm
  go_loop [2, 11] (fun v i => ∃ (j : Nat) (x : Int), j ≤ m ∧ i = .int .i64 j ∧ v = .int .u64 x ∧ 0 ≤ x ∧ x.toNat < 128 ^ j ∧ vget r.s.data.toList = vscan r.s.data.toList (10 - j) j x.toNat) (fun _ i => m - (intOf i).toNat)
  case atStart => exact ⟨0, 0, by omega, rfl, rfl, by omega, by decide, rfl⟩
  case round =>
    obtain ⟨j, x, hj, rfl, rfl, hx0, hx1, hv⟩ := hrel
    have Hv := Aside.mk hv
    have Hx1 := Aside.mk hx1
    clear hv hx1
    have hsl : r.s.data.toList.length = r.s.size := rfl
    by_cases hlt : j < m
    · have hjs : j < r.s.size := by omega
      have hstep := vscan_step r.s.data.toList j x.toNat hjs (by omega)
      have hgd : r.s.data.toList.getD j 0 = r.s[j] := by rw [List.getD, List.getElem?_eq_getElem hjs]; rfl
      rw [hgd] at hstep
      obtain ⟨y, hy, hy0, hy1⟩ : ∃ y : Int, bits BinOp.or IntKind.u64 x (IntKind.u64.wrap (IntKind.u64.wrap (bits BinOp.andNot IntKind.u8 (↑r.s[j].toNat) 128) * 2 ^ (7 * j))) = y ∧ 0 ≤ y ∧ y.toNat = x.toNat + r.s[j].toNat % 128 * 128 ^ j % 18446744073709551616 :=
        ⟨_, or_law x r.s[j] j (by omega) hx0 Hx1.out, by omega, by rw [Int.toNat_natCast]⟩
      have Hy1 := Aside.mk hy1
      rw [← hy1, ← Hv.out] at hstep
      clear hy1 hgd
      by_cases hb : 128 ≤ (r.s[j].toNat : Int)
      · rw [if_pos (by omega)] at hstep
        have Hstep := Aside.mk hstep
        clear hstep
        go_wp2_with fail
        go_round
        case rel => exact ⟨j + 1, y, by omega, by go_num, rfl, hy0, by rw [Hy1.out]; exact acc_lt _ _ _ Hx1.out, Hstep.out⟩
        case measure => simp [intOf]; omega
      · rw [if_neg (by omega)] at hstep
        by_cases hA : (0 < j ∧ r.s[j].toNat = 0) ∨ (j = 9 ∧ 1 < r.s[j].toNat)
        · rw [if_pos hA] at hstep
          have HV := Aside.mk (show r.var.1 = 0 ∧ r.var.2 = Rd.fail by unfold Rd.var; rw [hstep]; exact ⟨rfl, rfl⟩)
          clear hstep
          by_cases hA1 : 0 < j ∧ r.s[j].toNat = 0
          · obtain ⟨ha, hb0⟩ := hA1
            have hb1 : ((r.s[j].toNat : Int) == 0) = true := by rw [beq_iff_eq]; omega
            clear hA hb0
            go_wp2_with (go_at_call 67; refine (rd_fail _ _ _ h).mono ?_; rintro e w' ⟨rfl, hr', hk'⟩)
            go_ret
            refine ⟨?_, by rw [HV.out.2]; exact hr', hk'⟩
            rw [HV.out.1]; rfl
          · have hA2 : j = 9 ∧ 1 < r.s[j].toNat := by rcases hA with h | h; exact absurd h hA1; exact h
            obtain ⟨h9, hb2⟩ := hA2
            have hb1 : ((r.s[j].toNat : Int) == 0) = false := by rw [beq_eq_false_iff_ne]; omega
            have hb3 : decide ((1 : Int) < (r.s[j].toNat : Int)) = true := by rw [decide_eq_true_iff]; omega
            have hj9 : ((j : Int) == 9) = true := by rw [beq_iff_eq]; omega
            have hj0 : 0 < j := by omega
            clear hA hA1 hb2 h9
            go_wp2_with (go_at_call 67; refine (rd_fail _ _ _ h).mono ?_; rintro e w' ⟨rfl, hr', hk'⟩)
            go_ret
            refine ⟨?_, by rw [HV.out.2]; exact hr', hk'⟩
            rw [HV.out.1]; rfl
        · rw [if_neg hA] at hstep
          have HV := Aside.mk (show r.var.1 = y.toNat ∧ r.var.2 = ⟨r.s.extract (j + 1) r.s.size, r.bad⟩ by unfold Rd.var; rw [hstep]; exact ⟨rfl, rfl⟩)
          clear hstep
          have f0 := h.f0
          rcases Nat.eq_zero_or_pos j with h0j | h0j
          · have hj0 : j ≤ 0 := by omega
            clear hA h0j
            go_wp2_with fail
            go_ret
            refine ⟨?_, by rw [HV.out.2]; exact h.set _, (Keep.refl (fun k => k = b) w).setCell (p := ⟨b, 0, none⟩) (.inl rfl) _⟩
            rw [HV.out.1, Int.toNat_of_nonneg hy0]; rfl
          · have hb1 : ((r.s[j].toNat : Int) == 0) = false := by rw [beq_eq_false_iff_ne]; omega
            by_cases h9 : j = 9
            · have hb3 : decide ((1 : Int) < (r.s[j].toNat : Int)) = false := by rw [decide_eq_false_iff_not]; omega
              have hj9 : ((j : Int) == 9) = true := by rw [beq_iff_eq]; omega
              clear hA h9
              go_wp2_with fail
              go_ret
              refine ⟨?_, by rw [HV.out.2]; exact h.set _, (Keep.refl (fun k => k = b) w).setCell (p := ⟨b, 0, none⟩) (.inl rfl) _⟩
              rw [HV.out.1, Int.toNat_of_nonneg hy0]; rfl
            · have h9' : ((j : Int) == 9) = false := by rw [beq_eq_false_iff_ne]; omega
              clear hA
              go_wp2_with fail
              go_ret
              refine ⟨?_, by rw [HV.out.2]; exact h.set _, (Keep.refl (fun k => k = b) w).setCell (p := ⟨b, 0, none⟩) (.inl rfl) _⟩
              rw [HV.out.1, Int.toNat_of_nonneg hy0]; rfl
    · obtain rfl : j = m := by omega
      have hend := vscan_end r.s.data.toList j x.toNat Hm.out
      rw [← Hv.out] at hend
      have HV := Aside.mk (show r.var.1 = 0 ∧ r.var.2 = Rd.fail by unfold Rd.var; rw [hend]; exact ⟨rfl, rfl⟩)
      clear hend
      go_wp2_with (go_at_call 67; refine (rd_fail _ _ _ h).mono ?_; rintro e w' ⟨rfl, hr', hk'⟩)
      go_ret
      refine ⟨?_, by rw [HV.out.2]; exact hr', hk'⟩
      rw [HV.out.1]; rfl

theorem rd_fail_bytes (k : Int) : Rd.fail.bytes k = (⟨#[]⟩, Rd.fail) := by unfold Rd.bytes; rw [if_pos (.inl rfl)]

set_option maxHeartbeats 800000 in
theorem rd_text (b : Nat) (r : Rd) (w : World) (h : RdAt w b r) (hs : r.s.size ≤ 1152921504606846976) :
    Calls Try.prog 110 #[.pointer (some ⟨b, 0, none⟩)] w fun e w' =>
      e = .returned (.string r.text.1) ∧ RdAt w' b r.text.2 ∧ Keep (fun k => k = b) w w' := by
  have hmf := run_makeFunc Try.prog
  have hle := Rd.var_le r
  have hlt := Rd.var_lt r
  obtain ⟨n, hn, hn0, hn1⟩ : ∃ n : Int, (r.var.1 : Int) = n ∧ 0 ≤ n ∧ n ≤ 18446744073709551615 := ⟨_, rfl, by omega, by omega⟩
  have Hn := Aside.mk hn
  clear hlt
  by_cases hc : (r.var.2.s.size : Int) < n
  · have e : r.text = (⟨#[]⟩, Rd.fail) := by unfold Rd.text; rw [if_pos (by omega)]
    rw [e]
    clear e
    go_enter Try.func110, Try.ntmps110
    go_wp2_with fail
    refine (rd_var _ _ _ h hs).mono ?_
    rw [Hn.out]
    rintro e w1 ⟨rfl, hr1, hk1⟩
    go_wp2_with fail
    refine (rd_left _ _ _ hr1).mono ?_
    rintro e w' ⟨rfl, rfl⟩
    go_wp2_with fail
    refine (rd_fail _ _ _ hr1).mono ?_
    rintro e w2 ⟨rfl, hr2, hk2⟩
    go_wp2_with fail
    refine (rd_bytes _ _ _ _ hr2 (by constructor <;> (unfold wrap64; omega)) (Nat.zero_le _)).mono ?_
    rw [rd_fail_bytes]
    rintro e w3 ⟨rfl, hr3, hk3⟩
    go_wp2_with fail
    go_ret
    exact ⟨rfl, hr3, (hk1.trans hk2).trans hk3⟩
  · have e : r.text = r.var.2.bytes n := by unfold Rd.text; rw [if_neg (by omega), hn]
    rw [e]
    clear e hn
    go_enter Try.func110, Try.ntmps110
    go_wp2_with fail
    refine (rd_var _ _ _ h hs).mono ?_
    rw [Hn.out]
    rintro e w1 ⟨rfl, hr1, hk1⟩
    go_wp2_with fail
    refine (rd_left _ _ _ hr1).mono ?_
    rintro e w' ⟨rfl, rfl⟩
    go_wp2_with fail
    refine (rd_bytes _ _ _ _ hr1 (by omega) (by omega)).mono ?_
    rintro e w3 ⟨rfl, hr3, hk3⟩
    go_wp2_with fail
    go_ret
    exact ⟨rfl, hr3, hk1.trans hk3⟩
end Go.Proofs.Ythlmigbimeldbaa
