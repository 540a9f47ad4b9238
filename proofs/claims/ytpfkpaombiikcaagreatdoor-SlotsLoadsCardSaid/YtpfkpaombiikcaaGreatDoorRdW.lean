import Derived.Test.YtpfkpaombiikcaaGreatDoorVarW
import Derived.Test.YtpfkpaombiikcaaGreatDoorZPlain
/- What the methods of varint.Reader compute. -/
set_option maxRecDepth 16000
namespace Go.Pin
open Go.RowKit
set_option linter.unusedVariables false
set_option linter.unusedSimpArgs false

/-- Block b holds the reader r. -/
structure RdAt (w : World) (b : Nat) (r : Rd) : Prop where
  c0 : w.cell? ⟨b, 0, none⟩ = some (.string r.s)
  c1 : w.cell? ⟨b, 1, none⟩ = some (.bool r.bad)
  f0 : w.frozen? ⟨b, 0, none⟩ = false
  f1 : w.frozen? ⟨b, 1, none⟩ = false
theorem RdAt.keep {S : Nat → Prop} {a w : World} {b : Nat} {r : Rd} (h : RdAt a b r) (hk : Keep S a w) (hn : ¬ S b) : RdAt w b r := by
  have hb : b < a.heap.size := World.block_lt_of_cell? (a := ⟨b, 0, none⟩) _ h.c0
  exact ⟨hk.cell h.c0 hn, hk.cell h.c1 hn, by rw [hk.frozen hb hn]; exact h.f0, by rw [hk.frozen hb hn]; exact h.f1⟩
theorem RdAt.below {a w : World} {b : Nat} {r : Rd} (h : RdAt a b r) (hk : Below a.heap.size a w) : RdAt w b r :=
  h.keep (Keep.of_below (S := fun _ => False) hk fun _ hk _ => hk) id
theorem RdAt.lt {a : World} {b : Nat} {r : Rd} (h : RdAt a b r) : b < a.heap.size := World.block_lt_of_cell? (a := ⟨b, 0, none⟩) _ h.c0
theorem RdAt.set {a : World} {b : Nat} {r : Rd} (h : RdAt a b r) (s : ByteArray) : RdAt (a.setCell ⟨b, 0, none⟩ (.string s)) b ⟨s, r.bad⟩ :=
  ⟨World.cell?_setCell_same _ _ _ h.c0, by rw [World.cell?_setCell_other _ _ _ _ (by simp)]; exact h.c1, by simpa using h.f0, by simpa using h.f1⟩
theorem RdAt.setBad {a : World} {b : Nat} {r : Rd} (h : RdAt a b r) (x : Bool) : RdAt (a.setCell ⟨b, 1, none⟩ (.bool x)) b ⟨r.s, x⟩ :=
  ⟨by rw [World.cell?_setCell_other _ _ _ _ (by simp)]; exact h.c0, World.cell?_setCell_same _ _ _ h.c1, by simpa using h.f0, by simpa using h.f1⟩
theorem RdAt.drew {a : World} {b : Nat} {r : Rd} (h : RdAt a b r) : RdAt a.drew b r := ⟨h.c0, h.c1, h.f0, h.f1⟩
end Go.Pin

namespace Go.Proofs.YtpfkpaombiikcaaGreatDoor
open Go.RowKit Go.Pin
set_option linter.unusedVariables false
set_option linter.unusedSimpArgs false

set_option maxHeartbeats 400000 in
theorem rd_new (s : ByteArray) (w : World) :
    Calls Tryz.prog 51 #[.string s] w fun e w' => e = .returned (.pointer (some ⟨w.heap.size, 0, none⟩)) ∧ RdAt w' w.heap.size ⟨s, false⟩ ∧ w'.heap.size = w.heap.size + 1 ∧ Below w.heap.size w w' := by
  go_enter Tryz.func51, Tryz.ntmps51
  go_wp2_with fail
  go_ret
  exact ⟨rfl, ⟨by simp, by simp, by simp, by simp⟩, by simp, (Below.refl _ _).alloc (Nat.le_refl _) _⟩

set_option maxHeartbeats 400000 in
theorem rd_ok (b : Nat) (r : Rd) (w : World) (h : RdAt w b r) :
    Calls Tryz.prog 56 #[.pointer (some ⟨b, 0, none⟩)] w fun e w' => e = .returned (.bool (!r.bad)) ∧ w' = w := by
  have h0 := h.c0
  have h1 := h.c1
  go_enter Tryz.func56, Tryz.ntmps56
  go_wp2_with fail
  go_ret
  exact ⟨rfl, rfl⟩
set_option maxHeartbeats 400000 in
theorem rd_left (b : Nat) (r : Rd) (w : World) (h : RdAt w b r) :
    Calls Tryz.prog 57 #[.pointer (some ⟨b, 0, none⟩)] w fun e w' => e = .returned (.int .i64 r.s.size) ∧ w' = w := by
  have h0 := h.c0
  have h1 := h.c1
  go_enter Tryz.func57, Tryz.ntmps57
  go_wp2_with fail
  go_ret
  exact ⟨rfl, rfl⟩
set_option maxHeartbeats 400000 in
theorem rd_fail (b : Nat) (r : Rd) (w : World) (h : RdAt w b r) :
    Calls Tryz.prog 55 #[.pointer (some ⟨b, 0, none⟩)] w fun e w' => e = .returned (.tuple #[]) ∧ RdAt w' b Rd.fail ∧ Keep (fun k => k = b) w w' := by
  have h0 := h.c0
  have h1 := h.c1
  have f0 := h.f0
  have f1 := h.f1
  have hr := (h.set ⟨#[]⟩).setBad true
  go_enter Tryz.func55, Tryz.ntmps55
  go_wp2_with fail
  go_end0
  exact ⟨rfl, hr, ((Keep.refl (fun k => k = b) w).setCell (p := ⟨b, 0, none⟩) (.inl rfl) _).setCell (p := ⟨b, 1, none⟩) (.inl rfl) _⟩

set_option maxHeartbeats 800000 in
theorem rd_bytes (b : Nat) (r : Rd) (n : Int) (w : World) (h : RdAt w b r) (hn : -9223372036854775808 ≤ n ∧ n ≤ 9223372036854775807) (hs : r.s.size ≤ 1152921504606846976) :
    Calls Tryz.prog 78 #[.pointer (some ⟨b, 0, none⟩), .int .i64 n] w fun e w' =>
      e = .returned (.string (r.bytes n).1) ∧ RdAt w' b (r.bytes n).2 ∧ Keep (fun k => k = b) w w' := by
  have h0 := h.c0
  have h1 := h.c1
  by_cases hbad : r.bad = true
  · have e1 : r.bytes n = (⟨#[]⟩, Rd.fail) := by unfold Rd.bytes; rw [if_pos (.inl hbad)]
    rw [e1]
    rw [hbad] at h1
    go_enter Tryz.func78, Tryz.ntmps78
    go_wp2_with (go_at_call 55; refine (rd_fail _ _ _ h).mono ?_; rintro e w' ⟨rfl, hr', hk'⟩)
    go_ret
    exact ⟨rfl, hr', hk'⟩
  · have hb' := Bool.eq_false_iff.2 hbad
    rw [hb'] at h1
    by_cases h2 : n < 0
    · have e1 : r.bytes n = (⟨#[]⟩, Rd.fail) := by unfold Rd.bytes; rw [if_pos (.inr (.inl h2))]
      rw [e1]
      go_enter Tryz.func78, Tryz.ntmps78
      go_wp2_with (go_at_call 55; refine (rd_fail _ _ _ h).mono ?_; rintro e w' ⟨rfl, hr', hk'⟩)
      go_ret
      exact ⟨rfl, hr', hk'⟩
    · by_cases h3 : (r.s.size : Int) < n
      · have e1 : r.bytes n = (⟨#[]⟩, Rd.fail) := by unfold Rd.bytes; rw [if_pos (.inr (.inr h3))]
        rw [e1]
        go_enter Tryz.func78, Tryz.ntmps78
        go_wp2_with (go_at_call 55; refine (rd_fail _ _ _ h).mono ?_; rintro e w' ⟨rfl, hr', hk'⟩)
        go_ret
        exact ⟨rfl, hr', hk'⟩
      · have e1 : r.bytes n = (r.s.extract 0 n.toNat, ⟨r.s.extract n.toNat r.s.size, r.bad⟩) := by unfold Rd.bytes; rw [if_neg (by rintro (h | h | h); exact hbad h; exact h2 h; exact h3 h)]
        rw [e1]
        obtain ⟨k, rfl⟩ := Int.eq_ofNat_of_zero_le (show 0 ≤ n by omega)
        have f0 := h.f0
        have hr := h.set (r.s.extract k r.s.size)
        have hk2 : k ≤ r.s.size := by omega
        rw [hb'] at hr
        go_enter Tryz.func78, Tryz.ntmps78
        go_wp2_with fail
        go_ret
        exact ⟨rfl, hr, (Keep.refl (fun k => k = b) w).setCell (p := ⟨b, 0, none⟩) (.inl rfl) _⟩

set_option maxHeartbeats 800000 in
theorem rd_var (b : Nat) (r : Rd) (w : World) (h : RdAt w b r) (hs : r.s.size ≤ 1152921504606846976) :
    Calls Tryz.prog 80 #[.pointer (some ⟨b, 0, none⟩)] w fun e w' =>
      e = .returned (.int .u64 r.var.1) ∧ RdAt w' b r.var.2 ∧ Keep (fun k => k = b) w w' := by
  have h0 := h.c0
  obtain ⟨m, hm, hm1, hm2⟩ : ∃ m : Nat, (if (r.s.size : Int) < 10 then (r.s.size : Int) else 10) = (m : Int) ∧ m ≤ 10 ∧ m ≤ r.s.size := by
    by_cases h : (r.s.size : Int) < 10
    · exact ⟨r.s.size, if_pos h, by omega, by omega⟩
    · exact ⟨10, if_neg h, by omega, by omega⟩
  have Hm := Aside.mk (show m = min 10 r.s.size by split at hm <;> omega)
  go_enter Tryz.func80, Tryz.ntmps80
  go_wp2_with fail
  clear hm
  go_loop [2, 11] (fun v i => ∃ (j : Nat) (x : Int), j ≤ m ∧ i = .int .i64 j ∧ v = .int .u64 x ∧ 0 ≤ x ∧ x.toNat < 128 ^ j ∧ vget r.s.data.toList = vscan r.s.data.toList (10 - j) j x.toNat) (fun _ i => m - (intOf i).toNat)
  case atStart => exact ⟨0, 0, by omega, rfl, rfl, by omega, by decide, rfl⟩
  case round =>
    obtain ⟨j, x, hj, rfl, rfl, hx0, hx1, hv⟩ := hrel
    have Hv := Aside.mk hv
    have Hx1 := Aside.mk hx1
    clear hv hx1
    have hsl : r.s.data.toList.length = r.s.size := rfl
    by_cases hlt : j < m
    · have hjs : j < r.s.size := by omega
      have hstep := vscan_step r.s.data.toList j x.toNat hjs (by omega)
      have hgd : r.s.data.toList.getD j 0 = r.s[j] := by rw [List.getD, List.getElem?_eq_getElem hjs]; rfl
      rw [hgd] at hstep
      obtain ⟨y, hy, hy0, hy1⟩ : ∃ y : Int, bits BinOp.or IntKind.u64 x (IntKind.u64.wrap (IntKind.u64.wrap (bits BinOp.andNot IntKind.u8 (↑r.s[j].toNat) 128) * 2 ^ (7 * j))) = y ∧ 0 ≤ y ∧ y.toNat = x.toNat + r.s[j].toNat % 128 * 128 ^ j % 18446744073709551616 :=
        ⟨_, or_law x r.s[j] j (by omega) hx0 Hx1.out, by omega, by rw [Int.toNat_natCast]⟩
      have Hy1 := Aside.mk hy1
      rw [← hy1, ← Hv.out] at hstep
      clear hy1 hgd
      by_cases hb : 128 ≤ (r.s[j].toNat : Int)
      · rw [if_pos (by omega)] at hstep
        have Hstep := Aside.mk hstep
        clear hstep
        go_wp2_with fail
        go_round
        case rel => exact ⟨j + 1, y, by omega, by go_num, rfl, hy0, by rw [Hy1.out]; exact acc_lt _ _ _ Hx1.out, Hstep.out⟩
        case measure => simp [intOf]; omega
      · rw [if_neg (by omega)] at hstep
        by_cases hA : (0 < j ∧ r.s[j].toNat = 0) ∨ (j = 9 ∧ 1 < r.s[j].toNat)
        · rw [if_pos hA] at hstep
          have HV := Aside.mk (show r.var.1 = 0 ∧ r.var.2 = Rd.fail by unfold Rd.var; rw [hstep]; exact ⟨rfl, rfl⟩)
          clear hstep
          by_cases hA1 : 0 < j ∧ r.s[j].toNat = 0
          · obtain ⟨ha, hb0⟩ := hA1
            have hb1 : ((r.s[j].toNat : Int) == 0) = true := by rw [beq_iff_eq]; omega
            clear hA hb0
            go_wp2_with (go_at_call 55; refine (rd_fail _ _ _ h).mono ?_; rintro e w' ⟨rfl, hr', hk'⟩)
            go_ret
            refine ⟨?_, by rw [HV.out.2]; exact hr', hk'⟩
            rw [HV.out.1]; rfl
          · have hA2 : j = 9 ∧ 1 < r.s[j].toNat := by rcases hA with h | h; exact absurd h hA1; exact h
            obtain ⟨h9, hb2⟩ := hA2
            have hb1 : ((r.s[j].toNat : Int) == 0) = false := by rw [beq_eq_false_iff_ne]; omega
            have hb3 : decide ((1 : Int) < (r.s[j].toNat : Int)) = true := by rw [decide_eq_true_iff]; omega
            have hj9 : ((j : Int) == 9) = true := by rw [beq_iff_eq]; omega
            have hj0 : 0 < j := by omega
            clear hA hA1 hb2 h9
            go_wp2_with (go_at_call 55; refine (rd_fail _ _ _ h).mono ?_; rintro e w' ⟨rfl, hr', hk'⟩)
            go_ret
            refine ⟨?_, by rw [HV.out.2]; exact hr', hk'⟩
            rw [HV.out.1]; rfl
        · rw [if_neg hA] at hstep
          have HV := Aside.mk (show r.var.1 = y.toNat ∧ r.var.2 = ⟨r.s.extract (j + 1) r.s.size, r.bad⟩ by unfold Rd.var; rw [hstep]; exact ⟨rfl, rfl⟩)
          clear hstep
          have f0 := h.f0
          rcases Nat.eq_zero_or_pos j with h0j | h0j
          · have hj0 : j ≤ 0 := by omega
            clear hA h0j
            go_wp2_with fail
            go_ret
            refine ⟨?_, by rw [HV.out.2]; exact h.set _, (Keep.refl (fun k => k = b) w).setCell (p := ⟨b, 0, none⟩) (.inl rfl) _⟩
            rw [HV.out.1, Int.toNat_of_nonneg hy0]; rfl
          · have hb1 : ((r.s[j].toNat : Int) == 0) = false := by rw [beq_eq_false_iff_ne]; omega
            by_cases h9 : j = 9
            · have hb3 : decide ((1 : Int) < (r.s[j].toNat : Int)) = false := by rw [decide_eq_false_iff_not]; omega
              have hj9 : ((j : Int) == 9) = true := by rw [beq_iff_eq]; omega
              clear hA h9
              go_wp2_with fail
              go_ret
              refine ⟨?_, by rw [HV.out.2]; exact h.set _, (Keep.refl (fun k => k = b) w).setCell (p := ⟨b, 0, none⟩) (.inl rfl) _⟩
              rw [HV.out.1, Int.toNat_of_nonneg hy0]; rfl
            · have h9' : ((j : Int) == 9) = false := by rw [beq_eq_false_iff_ne]; omega
              clear hA
              go_wp2_with fail
              go_ret
              refine ⟨?_, by rw [HV.out.2]; exact h.set _, (Keep.refl (fun k => k = b) w).setCell (p := ⟨b, 0, none⟩) (.inl rfl) _⟩
              rw [HV.out.1, Int.toNat_of_nonneg hy0]; rfl
    · obtain rfl : j = m := by omega
      have hend := vscan_end r.s.data.toList j x.toNat Hm.out
      rw [← Hv.out] at hend
      have HV := Aside.mk (show r.var.1 = 0 ∧ r.var.2 = Rd.fail by unfold Rd.var; rw [hend]; exact ⟨rfl, rfl⟩)
      clear hend
      go_wp2_with (go_at_call 55; refine (rd_fail _ _ _ h).mono ?_; rintro e w' ⟨rfl, hr', hk'⟩)
      go_ret
      refine ⟨?_, by rw [HV.out.2]; exact hr', hk'⟩
      rw [HV.out.1]; rfl

set_option maxHeartbeats 800000 in
theorem rd_fixed (b : Nat) (r : Rd) (k : Int) (w : World) (h : RdAt w b r) (hk : -9223372036854775808 ≤ k ∧ k ≤ 9223372036854775807) (hs : r.s.size ≤ 1152921504606846976) :
    Calls Tryz.prog 52 #[.pointer (some ⟨b, 0, none⟩), .int .i64 k] w fun e w' =>
      e = .returned (.int .u64 (r.fixed k).1) ∧ RdAt w' b (r.fixed k).2 ∧ Keep (fun k => k = b) w w' := by
  obtain ⟨r1, hr1⟩ : ∃ r1, r1 = if 8 < k then Rd.fail else r := ⟨_, rfl⟩
  have hr1s : r1.s.size ≤ 1152921504606846976 := by
    rw [hr1]; split
    · exact Nat.zero_le _
    · exact hs
  obtain ⟨x, hx⟩ : ∃ x, x = r1.bytes k := ⟨_, rfl⟩
  have HF := Aside.mk (show r.fixed k = (beNat x.1.data.toList, x.2) by unfold Rd.fixed; rw [hx, hr1])
  have hxs : x.1.size ≤ 8 := by
    have := Rd.bytes_size r1 k
    rw [← hx] at this
    by_cases h8 : 8 < k
    · rw [hr1, if_pos h8] at hx
      have : x.1.size = 0 := by rw [hx]; unfold Rd.bytes; rw [if_pos (.inl rfl)]; rfl
      omega
    · omega
  have hcv := fun (w : World) => Lib.run_convert_string_bytes (P := Tryz.prog) w 9 69 5 x.1 Tryz.underlying9 Tryz.underlying69 Tryz.underlying5
  have Hx := Aside.mk hx
  by_cases h8 : 8 < k
  · rw [if_pos h8] at hr1
    subst hr1
    clear hx
    go_enter Tryz.func52, Tryz.ntmps52
    go_wp2_with (first | (go_at_call 55; refine (rd_fail _ _ _ h).mono ?_; rintro e w1 ⟨rfl, hr', hk'⟩) | (go_at_call 78; refine (rd_bytes _ _ k _ hr' hk hr1s).mono ?_; rw [← Hx.out]; rintro e w2 ⟨rfl, hR, hk''⟩))
    have hK := hk'.trans hk''
    clear hk' hk'' hr'
    obtain ⟨w3, cap, e1, e2, hz, hbb, hkp⟩ := bytesWorld_open w2 5 x.1
    rw [e1, e2]
    clear e1 e2 hcv
    have hl : x.1.data.toList.length = x.1.size := rfl
    have hK3 := hK.trans (hkp (fun k => k = b))
    have hR3 := hR.keep (hkp (fun _ => False)) id
    generalize w2.heap.size = B at hbb
    clear hK hR hkp hz
    have HK := Aside.mk hK3
    have HR := Aside.mk hR3
    clear hK3 hR3
    go_loop [4, 16] (fun v i => ∃ (j : Nat) (y : Int), j ≤ x.1.size ∧ i = .int .i64 j ∧ v = .int .u64 y ∧ 0 ≤ y ∧ y.toNat = beNat (x.1.data.toList.take j)) (fun _ i => x.1.size - (intOf i).toNat)
    case atStart => exact ⟨0, 0, by omega, rfl, rfl, by omega, rfl⟩
    case round =>
      obtain ⟨j, y, hj, rfl, rfl, hy0, hy1⟩ := hrel
      have Hy1 := Aside.mk hy1
      clear hy1
      by_cases hlt : j < x.1.size
      · have hc := hbb j (by omega)
        have hyl : y < 72057594037927936 := by
          have h1 := beNat_lt (x.1.data.toList.take j)
          rw [← Hy1.out, List.length_take, Nat.min_eq_left (by omega)] at h1
          have h2 : (256 : Nat) ^ j ≤ 256 ^ 7 := Nat.pow_le_pow_right (by omega) (by omega)
          have e7 : (256 : Nat) ^ 7 = 72057594037927936 := by decide
          omega
        obtain ⟨c, hcc⟩ : ∃ c, x.1.data.toList.getD j 0 = c := ⟨_, rfl⟩
        rw [hcc] at hc
        have hbe := be_law y c hy0 hyl
        have HC := Aside.mk hcc
        clear hcc
        go_wp2_with fail
        go_round
        case rel => exact ⟨j + 1, y * 256 + c.toNat, by omega, by go_num, rfl, by omega, by rw [beNat_take _ _ (by omega), HC.out, ← Hy1.out]; omega⟩
        case measure => simp [intOf]; omega
      · obtain rfl : j = x.1.size := by omega
        have hfin : y = (beNat x.1.data.toList : Int) := by
          have := Hy1.out
          rw [← hl, List.take_length] at this
          omega
        clear hbb
        have Hfin := Aside.mk hfin
        clear hfin
        go_wp2_with fail
        go_ret
        rw [HF.out]
        exact ⟨by rw [← Hfin.out]; rfl, HR.out, HK.out⟩
  · rw [if_neg h8] at hr1
    subst hr1
    clear hx
    go_enter Tryz.func52, Tryz.ntmps52
    go_wp2_with (go_at_call 78; refine (rd_bytes _ _ k _ h hk hr1s).mono ?_; rw [← Hx.out]; rintro e w2 ⟨rfl, hR, hK⟩)
    obtain ⟨w3, cap, e1, e2, hz, hbb, hkp⟩ := bytesWorld_open w2 5 x.1
    rw [e1, e2]
    clear e1 e2 hcv
    have hl : x.1.data.toList.length = x.1.size := rfl
    have hK3 := hK.trans (hkp (fun k => k = b))
    have hR3 := hR.keep (hkp (fun _ => False)) id
    generalize w2.heap.size = B at hbb
    clear hK hR hkp hz
    have HK := Aside.mk hK3
    have HR := Aside.mk hR3
    clear hK3 hR3
    go_loop [4, 16] (fun v i => ∃ (j : Nat) (y : Int), j ≤ x.1.size ∧ i = .int .i64 j ∧ v = .int .u64 y ∧ 0 ≤ y ∧ y.toNat = beNat (x.1.data.toList.take j)) (fun _ i => x.1.size - (intOf i).toNat)
    case atStart => exact ⟨0, 0, by omega, rfl, rfl, by omega, rfl⟩
    case round =>
      obtain ⟨j, y, hj, rfl, rfl, hy0, hy1⟩ := hrel
      have Hy1 := Aside.mk hy1
      clear hy1
      by_cases hlt : j < x.1.size
      · have hc := hbb j (by omega)
        have hyl : y < 72057594037927936 := by
          have h1 := beNat_lt (x.1.data.toList.take j)
          rw [← Hy1.out, List.length_take, Nat.min_eq_left (by omega)] at h1
          have h2 : (256 : Nat) ^ j ≤ 256 ^ 7 := Nat.pow_le_pow_right (by omega) (by omega)
          have e7 : (256 : Nat) ^ 7 = 72057594037927936 := by decide
          omega
        obtain ⟨c, hcc⟩ : ∃ c, x.1.data.toList.getD j 0 = c := ⟨_, rfl⟩
        rw [hcc] at hc
        have hbe := be_law y c hy0 hyl
        have HC := Aside.mk hcc
        clear hcc
        go_wp2_with fail
        go_round
        case rel => exact ⟨j + 1, y * 256 + c.toNat, by omega, by go_num, rfl, by omega, by rw [beNat_take _ _ (by omega), HC.out, ← Hy1.out]; omega⟩
        case measure => simp [intOf]; omega
      · obtain rfl : j = x.1.size := by omega
        have hfin : y = (beNat x.1.data.toList : Int) := by
          have := Hy1.out
          rw [← hl, List.take_length] at this
          omega
        clear hbb
        have Hfin := Aside.mk hfin
        clear hfin
        go_wp2_with fail
        go_ret
        rw [HF.out]
        exact ⟨by rw [← Hfin.out]; rfl, HR.out, HK.out⟩

theorem rd_fail_bytes (k : Int) : Rd.fail.bytes k = (⟨#[]⟩, Rd.fail) := by unfold Rd.bytes; rw [if_pos (.inl rfl)]

end Go.Proofs.YtpfkpaombiikcaaGreatDoor
