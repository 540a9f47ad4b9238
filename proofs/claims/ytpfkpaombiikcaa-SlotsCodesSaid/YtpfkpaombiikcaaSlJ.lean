/- The document's slots: what is got. -/
import Derived.Test.YtpfkpaombiikcaaSlI
set_option maxRecDepth 16000
namespace Go.Pin
open Go.RowKit
set_option linter.unusedVariables false
set_option linter.unusedSimpArgs false
theorem stake_pair (v : Int) (r : Rd) (k : Int) : ∃ (n : Nat) (q : Rd), stake v r k = (n, q) ∧ n < 18446744073709551616 ∧ q.s.size ≤ r.s.size :=
  ⟨(stake v r k).1, (stake v r k).2, rfl, stake_lt v r k, stake_le v r k⟩
theorem suprefget_is (b : ByteArray) (xn : Nat) (xr : Rd) (hx : (Rd.mk b false).fixed 1 = (xn, xr)) (n0 n1 n2 n3 n4 n5 : Nat) (q0 q1 q2 q3 q4 q5 : Rd)
    (h0 : stake xn xr 2 = (n0, q0)) (h1 : stake xn q0 2 = (n1, q1)) (h2 : stake xn q1 1 = (n2, q2)) (h3 : stake xn q2 1 = (n3, q3)) (h4 : stake xn q3 1 = (n4, q4)) (h5 : stake xn q4 1 = (n5, q5)) :
    suprefget b = if (supput ⟨(xn : Int), ((n0 % 9999 : Nat) : Int), ((n1 % 9999 : Nat) : Int), ((n2 % 99 : Nat) : Int), ((n3 % 99 : Nat) : Int), ((n4 % 99 : Nat) : Int), ((n5 % 99 : Nat) : Int)⟩).2 = false ∨ (supput ⟨(xn : Int), ((n0 % 9999 : Nat) : Int), ((n1 % 9999 : Nat) : Int), ((n2 % 99 : Nat) : Int), ((n3 % 99 : Nat) : Int), ((n4 % 99 : Nat) : Int), ((n5 % 99 : Nat) : Int)⟩).1 ≠ b then (Sup.zero, false) else (⟨(xn : Int), ((n0 % 9999 : Nat) : Int), ((n1 % 9999 : Nat) : Int), ((n2 % 99 : Nat) : Int), ((n3 % 99 : Nat) : Int), ((n4 % 99 : Nat) : Int), ((n5 % 99 : Nat) : Int)⟩, true) := by
  have e2 : srmod (2 : Int).toNat = 9999 := by decide
  have e1 : srmod (1 : Int).toNat = 99 := by decide
  unfold suprefget
  rw [hx]
  unfold ssix srsmall
  simp only [h0, h1, h2, h3, h4, h5, e1, e2]
theorem hardrefget_is (b : ByteArray) (xn : Nat) (xr : Rd) (hx : (Rd.mk b false).fixed 1 = (xn, xr)) (n0 n1 n2 : Nat) (q0 q1 q2 : Rd)
    (h0 : stake ((xn : Int) - 16) xr 8 = (n0, q0)) (h1 : stake ((xn : Int) - 16) q0 1 = (n1, q1)) (h2 : stake ((xn : Int) - 16) q1 8 = (n2, q2)) :
    hardrefget b = if (hardput ((xn : Int) - 16) ⟨n0, ((n1 % 99 : Nat) : Int), n2⟩).2 = false ∨ (hardput ((xn : Int) - 16) ⟨n0, ((n1 % 99 : Nat) : Int), n2⟩).1 ≠ b then (Hd.zero, 0, false) else (⟨n0, ((n1 % 99 : Nat) : Int), n2⟩, (xn : Int) - 16, true) := by
  unfold hardrefget
  rw [hx]
  unfold hthree
  simp only [h0, h1, h2]
end Go.Pin
namespace Go.Proofs.Ytpfkpaombiikcaa
open Go.RowKit Go.Pin
set_option linter.unusedVariables false
set_option linter.unusedSimpArgs false
theorem slotsref_take_is (b : Nat) (r : Rd) (v k : Int) (n : Nat) (q : Rd) (hE : stake v r k = (n, q)) (hk : -9223372036854775808 ≤ k ∧ k ≤ 9223372036854775807) (w : World) (h : RdAt w b r) (hs : r.s.size ≤ 1152921504606846976) :
    Calls Try.prog 40 #[.pointer (some ⟨b, 0, none⟩), .int .i64 v, .int .i64 k] w fun e w' => e = .returned (.int .u64 n) ∧ RdAt w' b q ∧ Keep (fun k => k = b) w w' := by
  have := slotsref_take b r v k hk w h hs
  rw [hE] at this; exact this
set_option maxHeartbeats 3200000 in
theorem slotsref_getsuper (b : ByteArray) (hs : b.size ≤ 1152921504606846976) (w : World) :
    Calls Try.prog 18 #[.string b] w fun e w' => e = .returned (.tuple #[(suprefget b).1.val, .bool (suprefget b).2]) ∧ Below w.heap.size w w' := by
  have hse := str_beq
  obtain ⟨⟨xn, xr⟩, hx⟩ : ∃ x, (Rd.mk b false).fixed 1 = x := ⟨_, rfl⟩
  have hx1 : xn < 256 := by have := Rd.fixed_ltT ⟨b, false⟩; rw [hx] at this; exact this
  have hx2 : xr.s.size ≤ 1152921504606846976 := by have := Rd.fixed_leT ⟨b, false⟩ 1; rw [hx] at this; exact Nat.le_trans this hs
  obtain ⟨n0, q0, h0, l0, z0⟩ := stake_pair xn xr 2
  obtain ⟨n1, q1, h1, l1, z1⟩ := stake_pair xn q0 2
  obtain ⟨n2, q2, h2, l2, z2⟩ := stake_pair xn q1 1
  obtain ⟨n3, q3, h3, l3, z3⟩ := stake_pair xn q2 1
  obtain ⟨n4, q4, h4, l4, z4⟩ := stake_pair xn q3 1
  obtain ⟨n5, q5, h5, l5, z5⟩ := stake_pair xn q4 1
  have E := Pin.Aside.mk (suprefget_is b xn xr hx n0 n1 n2 n3 n4 n5 q0 q1 q2 q3 q4 q5 h0 h1 h2 h3 h4 h5)
  have Hx := Pin.Aside.mk hx
  obtain ⟨m0, y0⟩ : ∃ m : Int, ((n0 % 9999 : Nat) : Int) = m := ⟨_, rfl⟩
  rw [y0] at E
  obtain ⟨m1, y1⟩ : ∃ m : Int, ((n1 % 9999 : Nat) : Int) = m := ⟨_, rfl⟩
  rw [y1] at E
  obtain ⟨m2, y2⟩ : ∃ m : Int, ((n2 % 99 : Nat) : Int) = m := ⟨_, rfl⟩
  rw [y2] at E
  obtain ⟨m3, y3⟩ : ∃ m : Int, ((n3 % 99 : Nat) : Int) = m := ⟨_, rfl⟩
  rw [y3] at E
  obtain ⟨m4, y4⟩ : ∃ m : Int, ((n4 % 99 : Nat) : Int) = m := ⟨_, rfl⟩
  rw [y4] at E
  obtain ⟨m5, y5⟩ : ∃ m : Int, ((n5 % 99 : Nat) : Int) = m := ⟨_, rfl⟩
  rw [y5] at E
  have u0 : (n0 : Int) % 9999 = m0 := by omega
  have wm0 : IntKind.i64.wrap m0 = m0 := by rw [IntKind.wrap_i64]; omega
  have nn0 : (0 : Int) ≤ (n0 : Int) := by omega
  have u1 : (n1 : Int) % 9999 = m1 := by omega
  have wm1 : IntKind.i64.wrap m1 = m1 := by rw [IntKind.wrap_i64]; omega
  have nn1 : (0 : Int) ≤ (n1 : Int) := by omega
  have u2 : (n2 : Int) % 99 = m2 := by omega
  have wm2 : IntKind.i64.wrap m2 = m2 := by rw [IntKind.wrap_i64]; omega
  have nn2 : (0 : Int) ≤ (n2 : Int) := by omega
  have u3 : (n3 : Int) % 99 = m3 := by omega
  have wm3 : IntKind.i64.wrap m3 = m3 := by rw [IntKind.wrap_i64]; omega
  have nn3 : (0 : Int) ≤ (n3 : Int) := by omega
  have u4 : (n4 : Int) % 99 = m4 := by omega
  have wm4 : IntKind.i64.wrap m4 = m4 := by rw [IntKind.wrap_i64]; omega
  have nn4 : (0 : Int) ≤ (n4 : Int) := by omega
  have u5 : (n5 : Int) % 99 = m5 := by omega
  have wm5 : IntKind.i64.wrap m5 = m5 := by rw [IntKind.wrap_i64]; omega
  have nn5 : (0 : Int) ≤ (n5 : Int) := by omega
  have hv0 : 0 ≤ (xn : Int) ∧ (xn : Int) < 256 := by omega
  obtain ⟨v, hv⟩ : ∃ v : Int, (xn : Int) = v := ⟨_, rfl⟩
  rw [hv] at E hv0 h0 h1 h2 h3 h4 h5
  have Hv := Pin.Aside.mk hv
  have wv : IntKind.i64.wrap v = v := by rw [IntKind.wrap_i64]; omega
  have H0 := Pin.Aside.mk h0
  have H1 := Pin.Aside.mk h1
  have H2 := Pin.Aside.mk h2
  have H3 := Pin.Aside.mk h3
  have H4 := Pin.Aside.mk h4
  have H5 := Pin.Aside.mk h5
  clear hv h0 y0 h1 y1 h2 y2 h3 y3 h4 y4 h5 y5
  obtain ⟨⟨T, ok⟩, hT⟩ : ∃ T, supput ⟨v, m0, m1, m2, m3, m4, m5⟩ = T := ⟨_, rfl⟩
  rw [hT] at E
  dsimp only at E
  have HP := Pin.Aside.mk fun W => slotsref_putsuper ⟨v, m0, m1, m2, m3, m4, m5⟩ W
  rw [hT] at HP
  clear hT
  have hR0 := SevAt.new w #[.int .i64 0, .int .i64 0, .int .i64 0, .int .i64 0, .int .i64 0, .int .i64 0, .int .i64 0] 35 7 rfl
  have hb0 := (Below.refl w.heap.size w).alloc (Nat.le_refl _) (.cells #[.int .i64 0, .int .i64 0, .int .i64 0, .int .i64 0, .int .i64 0, .int .i64 0, .int .i64 0] 35)
  have hz0 : (w.alloc (.cells #[.int .i64 0, .int .i64 0, .int .i64 0, .int .i64 0, .int .i64 0, .int .i64 0, .int .i64 0] 35)).heap.size = w.heap.size + 1 := by simp
  have HR := Pin.Aside.mk hR0
  have Hb := Pin.Aside.mk hb0
  clear hR0 hb0 hx1 hx
  go_enter Try.func18, Try.ntmps18
  go_wp2_with fail
  generalize w.alloc (.cells #[.int .i64 0, .int .i64 0, .int .i64 0, .int .i64 0, .int .i64 0, .int .i64 0, .int .i64 0] 35) = w0 at *
  generalize hRR : w.heap.size = R at *
  have HRR := Pin.Aside.mk hRR
  have HS := Pin.Aside.mk (show ∀ x, Below R w x → R ≤ x.heap.size from fun x h => by have := h.size; omega)
  clear hRR
  refine (rr_new b _).mono ?_
  rintro e w1 ⟨rfl, hr, hz, hb1⟩
  replace HR := Pin.Aside.mk (HR.out.below hb1)
  replace Hb := Pin.Aside.mk (Hb.out.trans (hb1.mono (HS.out _ Hb.out)))
  have hRQ : R ≠ w0.heap.size := by omega
  have hRQ2 : R ≤ w0.heap.size := by omega
  generalize w0.heap.size = Q at *
  clear hb1 hz hz0
  go_wp2_with fail
  refine (rr_fixed Q _ 1 _ hr (by omega) (by show b.size ≤ _; exact hs)).mono ?_
  rw [Hx.out]
  dsimp only
  rw [Hv.out]
  rintro e w2 ⟨rfl, hr2, hk⟩
  replace HR := Pin.Aside.mk (HR.out.keep hk hRQ)
  replace Hb := Pin.Aside.mk (Hb.out.trans (hk.below (HS.out _ Hb.out) fun _ q => by omega))
  clear hk hr
  go_wp2_with fail
  refine (slotsref_take_is Q xr v 2 n0 q0 H0.out (by omega) _ hr2 (by omega)).mono ?_
  rintro e w3 ⟨rfl, hr3, hk⟩
  replace HR := Pin.Aside.mk (HR.out.keep hk hRQ)
  replace Hb := Pin.Aside.mk (Hb.out.trans (hk.below (HS.out _ Hb.out) fun _ q => by omega))
  clear hk hr2
  go_wp2_with fail
  refine (slotsref_take_is Q q0 v 2 n1 q1 H1.out (by omega) _ hr3 (by omega)).mono ?_
  rintro e w4 ⟨rfl, hr4, hk⟩
  replace HR := Pin.Aside.mk (HR.out.keep hk hRQ)
  replace Hb := Pin.Aside.mk (Hb.out.trans (hk.below (HS.out _ Hb.out) fun _ q => by omega))
  clear hk hr3
  go_wp2_with fail
  refine (slotsref_take_is Q q1 v 1 n2 q2 H2.out (by omega) _ hr4 (by omega)).mono ?_
  rintro e w5 ⟨rfl, hr5, hk⟩
  replace HR := Pin.Aside.mk (HR.out.keep hk hRQ)
  replace Hb := Pin.Aside.mk (Hb.out.trans (hk.below (HS.out _ Hb.out) fun _ q => by omega))
  clear hk hr4
  go_wp2_with fail
  refine (slotsref_take_is Q q2 v 1 n3 q3 H3.out (by omega) _ hr5 (by omega)).mono ?_
  rintro e w6 ⟨rfl, hr6, hk⟩
  replace HR := Pin.Aside.mk (HR.out.keep hk hRQ)
  replace Hb := Pin.Aside.mk (Hb.out.trans (hk.below (HS.out _ Hb.out) fun _ q => by omega))
  clear hk hr5
  go_wp2_with fail
  refine (slotsref_take_is Q q3 v 1 n4 q4 H4.out (by omega) _ hr6 (by omega)).mono ?_
  rintro e w7 ⟨rfl, hr7, hk⟩
  replace HR := Pin.Aside.mk (HR.out.keep hk hRQ)
  replace Hb := Pin.Aside.mk (Hb.out.trans (hk.below (HS.out _ Hb.out) fun _ q => by omega))
  clear hk hr6
  go_wp2_with fail
  refine (slotsref_take_is Q q4 v 1 n5 q5 H5.out (by omega) _ hr7 (by omega)).mono ?_
  rintro e w8 ⟨rfl, hr8, hk⟩
  replace HR := Pin.Aside.mk (HR.out.keep hk hRQ)
  replace Hb := Pin.Aside.mk (Hb.out.trans (hk.below (HS.out _ Hb.out) fun _ q => by omega))
  clear hk hr7
  have hn := SevenAt.new w8 ⟨v, m0, m1, m2, m3, m4, m5⟩ 35
  have hk := (Keep.refl (fun _ => False) w8).alloc (.cells #[.int .i64 v, .int .i64 m0, .int .i64 m1, .int .i64 m2, .int .i64 m3, .int .i64 m4, .int .i64 m5] 35)
  unfold sevenO at hn
  dsimp only at hn
  have HN := Pin.Aside.mk hn
  replace HR := Pin.Aside.mk (HR.out.keep hk id)
  replace Hb := Pin.Aside.mk (Hb.out.trans (hk.below (HS.out _ Hb.out) fun _ q => q.elim))
  clear hn hk hr8
  go_upto_region 4 with fail
  generalize w8.alloc (.cells #[.int .i64 v, .int .i64 m0, .int .i64 m1, .int .i64 m2, .int .i64 m3, .int .i64 m4, .int .i64 m5] 35) = w9 at *
  generalize w8.heap.size = U at *
  clear u0 wm0 nn0 l0 z0 u1 wm1 nn1 l1 z1 u2 wm2 nn2 l2 z2 u3 wm3 nn3 l3 z3 u4 wm4 nn4 l4 z4 u5 wm5 nn5 l5 z5 wv hx2
  obtain ⟨c0, c1, c2, c3, c4, c5, c6⟩ := HN.out
  dsimp only at c0 c1 c2 c3 c4 c5 c6
  go_wp2_with fail
  refine (HP.out _).mono ?_
  rintro e w10 ⟨rfl, hbb⟩
  clear c0 c1 c2 c3 c4 c5 c6
  replace HN := Pin.Aside.mk (HN.out.below hbb)
  replace HR := Pin.Aside.mk (HR.out.below hbb)
  replace Hb := Pin.Aside.mk (Hb.out.trans (hbb.mono (HS.out _ Hb.out)))
  clear hbb
  cases ok with
  | false =>
    have HE := Pin.Aside.mk (E.out.trans (if_pos (.inl rfl)))
    obtain ⟨e0, e1, e2, e3, e4, e5, e6⟩ := HR.out.get7
    obtain ⟨f0, f1, f2, f3, f4, f5, f6⟩ := HR.out.fr7
    have TC := Pin.Aside.mk (HR.out.set7 (.int .i64 0) (.int .i64 0) (.int .i64 0) (.int .i64 0) (.int .i64 0) (.int .i64 0) (.int .i64 0))
    clear E
    go_wp2_with fail
    obtain ⟨n0, n1, n2, n3, n4, n5, n6⟩ := TC.out
    unfold set7 at n0 n1 n2 n3 n4 n5 n6
    refine bodyPost_ret (v := .tuple #[.agg #[.int .i64 0, .int .i64 0, .int .i64 0, .int .i64 0, .int .i64 0, .int .i64 0, .int .i64 0], .bool false]) (by simp [results, Try.results18, go_sem, *]) rfl ?_
    rw [HE.out]
    exact ⟨rfl, by rw [HRR.out]; exact below_set7 Hb.out (Nat.le_refl _) _ _ _ _ _ _ _⟩
  | true =>
    by_cases hts : T = b
    · have hd : decide (T = b) = true := by simpa using hts
      have hd2 : T.toList = b.toList := by rw [hts]
      have HE := Pin.Aside.mk (E.out.trans (if_neg (by simp [hts])))
      clear hts
      obtain ⟨e0, e1, e2, e3, e4, e5, e6⟩ := HR.out.get7
      obtain ⟨f0, f1, f2, f3, f4, f5, f6⟩ := HR.out.fr7
      have TC := Pin.Aside.mk (HR.out.set7 (.int .i64 v) (.int .i64 m0) (.int .i64 m1) (.int .i64 m2) (.int .i64 m3) (.int .i64 m4) (.int .i64 m5))
      clear E
      obtain ⟨c0, c1, c2, c3, c4, c5, c6⟩ := HN.out
      dsimp only at c0 c1 c2 c3 c4 c5 c6
      go_wp2_with fail
      obtain ⟨n0, n1, n2, n3, n4, n5, n6⟩ := TC.out
      unfold set7 at n0 n1 n2 n3 n4 n5 n6
      refine bodyPost_ret (v := .tuple #[.agg #[.int .i64 v, .int .i64 m0, .int .i64 m1, .int .i64 m2, .int .i64 m3, .int .i64 m4, .int .i64 m5], .bool true]) (by simp [results, Try.results18, go_sem, *]) rfl ?_
      rw [HE.out]
      exact ⟨rfl, by rw [HRR.out]; exact below_set7 Hb.out (Nat.le_refl _) _ _ _ _ _ _ _⟩
    · have hd : decide (T = b) = false := by simpa using hts
      have HE := Pin.Aside.mk (E.out.trans (if_pos (.inr hts)))
      clear hts
      obtain ⟨e0, e1, e2, e3, e4, e5, e6⟩ := HR.out.get7
      obtain ⟨f0, f1, f2, f3, f4, f5, f6⟩ := HR.out.fr7
      have TC := Pin.Aside.mk (HR.out.set7 (.int .i64 0) (.int .i64 0) (.int .i64 0) (.int .i64 0) (.int .i64 0) (.int .i64 0) (.int .i64 0))
      clear E
      go_wp2_with fail
      obtain ⟨n0, n1, n2, n3, n4, n5, n6⟩ := TC.out
      unfold set7 at n0 n1 n2 n3 n4 n5 n6
      refine bodyPost_ret (v := .tuple #[.agg #[.int .i64 0, .int .i64 0, .int .i64 0, .int .i64 0, .int .i64 0, .int .i64 0, .int .i64 0], .bool false]) (by simp [results, Try.results18, go_sem, *]) rfl ?_
      rw [HE.out]
      exact ⟨rfl, by rw [HRR.out]; exact below_set7 Hb.out (Nat.le_refl _) _ _ _ _ _ _ _⟩
set_option maxHeartbeats 3200000 in
theorem slotsref_gethard (b : ByteArray) (hs : b.size ≤ 1152921504606846976) (w : World) :
    Calls Try.prog 20 #[.string b] w fun e w' => e = .returned (.tuple #[(hardrefget b).1.val, .int .i64 (hardrefget b).2.1, .bool (hardrefget b).2.2]) ∧ Below w.heap.size w w' := by
  have hse := str_beq
  obtain ⟨⟨xn, xr⟩, hx⟩ : ∃ x, (Rd.mk b false).fixed 1 = x := ⟨_, rfl⟩
  have hx1 : xn < 256 := by have := Rd.fixed_ltT ⟨b, false⟩; rw [hx] at this; exact this
  have hx2 : xr.s.size ≤ 1152921504606846976 := by have := Rd.fixed_leT ⟨b, false⟩ 1; rw [hx] at this; exact Nat.le_trans this hs
  obtain ⟨n0, q0, h0, l0, z0⟩ := stake_pair ((xn : Int) - 16) xr 8
  obtain ⟨n1, q1, h1, l1, z1⟩ := stake_pair ((xn : Int) - 16) q0 1
  obtain ⟨n2, q2, h2, l2, z2⟩ := stake_pair ((xn : Int) - 16) q1 8
  have E := Pin.Aside.mk (hardrefget_is b xn xr hx n0 n1 n2 q0 q1 q2 h0 h1 h2)
  have Hx := Pin.Aside.mk hx
  obtain ⟨m1, y1⟩ : ∃ m : Int, ((n1 % 99 : Nat) : Int) = m := ⟨_, rfl⟩
  rw [y1] at E
  have u1 : (n1 : Int) % 99 = m1 := by omega
  have wm1 : IntKind.i64.wrap m1 = m1 := by rw [IntKind.wrap_i64]; omega
  have nn1 : (0 : Int) ≤ (n1 : Int) := by omega
  obtain ⟨v0, hv⟩ : ∃ v : Int, (xn : Int) = v := ⟨_, rfl⟩
  rw [hv] at E h0 h1 h2
  have Hv := Pin.Aside.mk hv
  have hv0 : 0 ≤ v0 ∧ v0 < 256 := by omega
  have wv : IntKind.i64.wrap v0 = v0 := by rw [IntKind.wrap_i64]; omega
  obtain ⟨v, hvv⟩ : ∃ v : Int, v0 - 16 = v := ⟨_, rfl⟩
  rw [hvv] at E h0 h1 h2
  have wv2 : IntKind.i64.wrap v = v := by rw [IntKind.wrap_i64]; omega
  have H0 := Pin.Aside.mk h0
  have H1 := Pin.Aside.mk h1
  have H2 := Pin.Aside.mk h2
  obtain ⟨t0, ht0⟩ : ∃ t : Int, (n0 : Int) = t := ⟨_, rfl⟩
  obtain ⟨t2, ht2⟩ : ∃ t : Int, (n2 : Int) = t := ⟨_, rfl⟩
  have Ht0 := Pin.Aside.mk ht0
  have Ht2 := Pin.Aside.mk ht2
  obtain ⟨⟨T, ok⟩, hT⟩ : ∃ T, hardput v ⟨n0, m1, n2⟩ = T := ⟨_, rfl⟩
  rw [hT] at E
  dsimp only at E
  have HP := Pin.Aside.mk fun W => slotsref_puthard v n0 m1 n2 (by omega) (by omega) W
  rw [hT] at HP
  clear hT hv h0 h1 h2 y1 ht0 ht2 Ht0 Ht2
  have hR0 := SevAt.new w #[.int .u64 0, .int .i64 0, .int .u64 0] 39 3 rfl
  have hb0 := (Below.refl w.heap.size w).alloc (Nat.le_refl _) (.cells #[.int .u64 0, .int .i64 0, .int .u64 0] 39)
  have hz0 : (w.alloc (.cells #[.int .u64 0, .int .i64 0, .int .u64 0] 39)).heap.size = w.heap.size + 1 := by simp
  have HR := Pin.Aside.mk hR0
  have Hb := Pin.Aside.mk hb0
  clear hR0 hb0 hx1 hx
  go_enter Try.func20, Try.ntmps20
  go_wp2_with fail
  generalize w.alloc (.cells #[.int .u64 0, .int .i64 0, .int .u64 0] 39) = w0 at *
  generalize hRR : w.heap.size = R at *
  have HRR := Pin.Aside.mk hRR
  have HS := Pin.Aside.mk (show ∀ x, Below R w x → R ≤ x.heap.size from fun x h => by have := h.size; omega)
  clear hRR
  refine (rr_new b _).mono ?_
  rintro e w1 ⟨rfl, hr, hz, hb1⟩
  replace HR := Pin.Aside.mk (HR.out.below hb1)
  replace Hb := Pin.Aside.mk (Hb.out.trans (hb1.mono (HS.out _ Hb.out)))
  have hRQ : R ≠ w0.heap.size := by omega
  have hRQ2 : R ≤ w0.heap.size := by omega
  generalize w0.heap.size = Q at *
  clear hb1 hz hz0
  go_wp2_with fail
  refine (rr_fixed Q _ 1 _ hr (by omega) (by show b.size ≤ _; exact hs)).mono ?_
  rw [Hx.out]
  dsimp only
  rw [Hv.out]
  rintro e w2 ⟨rfl, hr2, hk⟩
  replace HR := Pin.Aside.mk (HR.out.keep hk hRQ)
  replace Hb := Pin.Aside.mk (Hb.out.trans (hk.below (HS.out _ Hb.out) fun _ q => by omega))
  clear hk hr
  go_wp2_with fail
  refine (slotsref_take_is Q xr v 8 n0 q0 H0.out (by omega) _ hr2 (by omega)).mono ?_
  rintro e w3 ⟨rfl, hr3, hk⟩
  replace HR := Pin.Aside.mk (HR.out.keep hk hRQ)
  replace Hb := Pin.Aside.mk (Hb.out.trans (hk.below (HS.out _ Hb.out) fun _ q => by omega))
  clear hk hr2
  go_wp2_with fail
  refine (slotsref_take_is Q q0 v 1 n1 q1 H1.out (by omega) _ hr3 (by omega)).mono ?_
  rintro e w4 ⟨rfl, hr4, hk⟩
  replace HR := Pin.Aside.mk (HR.out.keep hk hRQ)
  replace Hb := Pin.Aside.mk (Hb.out.trans (hk.below (HS.out _ Hb.out) fun _ q => by omega))
  clear hk hr3
  go_wp2_with fail
  refine (slotsref_take_is Q q1 v 8 n2 q2 H2.out (by omega) _ hr4 (by omega)).mono ?_
  rintro e w5 ⟨rfl, hr5, hk⟩
  replace HR := Pin.Aside.mk (HR.out.keep hk hRQ)
  replace Hb := Pin.Aside.mk (Hb.out.trans (hk.below (HS.out _ Hb.out) fun _ q => by omega))
  clear hk hr4
  have hn := SevAt.new w5 #[.int .u64 n0, .int .i64 m1, .int .u64 n2] 39 3 rfl
  have hk := (Keep.refl (fun _ => False) w5).alloc (.cells #[.int .u64 n0, .int .i64 m1, .int .u64 n2] 39)
  have HN := Pin.Aside.mk hn
  replace HR := Pin.Aside.mk (HR.out.keep hk id)
  replace Hb := Pin.Aside.mk (Hb.out.trans (hk.below (HS.out _ Hb.out) fun _ q => q.elim))
  clear hn hk hr5
  go_upto_region 4 with fail
  generalize w5.alloc (.cells #[.int .u64 n0, .int .i64 m1, .int .u64 n2] 39) = w9 at *
  generalize w5.heap.size = U at *
  clear u1 wm1 nn1 wv wv2 hx2 hvv l0 l1 l2 z0 z1 z2
  obtain ⟨c0, c1, c2⟩ := HN.out.get3
  replace c0 : w9.cell? ⟨U, 0, none⟩ = some (.int .u64 n0) := c0
  replace c1 : w9.cell? ⟨U, 1, none⟩ = some (.int .i64 m1) := c1
  replace c2 : w9.cell? ⟨U, 2, none⟩ = some (.int .u64 n2) := c2
  go_wp2_with fail
  refine (HP.out _).mono ?_
  rintro e w10 ⟨rfl, hbb⟩
  clear c0 c1 c2
  replace HN := Pin.Aside.mk (HN.out.below hbb)
  replace HR := Pin.Aside.mk (HR.out.below hbb)
  replace Hb := Pin.Aside.mk (Hb.out.trans (hbb.mono (HS.out _ Hb.out)))
  clear hbb
  cases ok with
  | false =>
    have HE := Pin.Aside.mk (E.out.trans (if_pos (.inl rfl)))
    obtain ⟨e0, e1, e2⟩ := HR.out.get3
    obtain ⟨f0, f1, f2⟩ := HR.out.fr3
    have TC := Pin.Aside.mk (HR.out.set3 (.int .u64 0) (.int .i64 0) (.int .u64 0))
    clear E
    go_wp2_with fail
    obtain ⟨n0', n1', n2'⟩ := TC.out
    unfold set3 at n0' n1' n2'
    refine bodyPost_ret (v := .tuple #[.agg #[.int .u64 0, .int .i64 0, .int .u64 0], .int .i64 0, .bool false]) (by simp [results, Try.results20, go_sem, *]) rfl ?_
    rw [HE.out]
    exact ⟨rfl, by rw [HRR.out]; exact below_set3S Hb.out (Nat.le_refl _) _ _ _⟩
  | true =>
    by_cases hts : T = b
    · have hd : decide (T = b) = true := by simpa using hts
      have hd2 : T.toList = b.toList := by rw [hts]
      have HE := Pin.Aside.mk (E.out.trans (if_neg (by simp [hts])))
      clear hts
      obtain ⟨e0, e1, e2⟩ := HR.out.get3
      obtain ⟨f0, f1, f2⟩ := HR.out.fr3
      have TC := Pin.Aside.mk (HR.out.set3 (.int .u64 n0) (.int .i64 m1) (.int .u64 n2))
      clear E
      obtain ⟨c0, c1, c2⟩ := HN.out.get3
      replace c0 : w10.cell? ⟨U, 0, none⟩ = some (.int .u64 n0) := c0
      replace c1 : w10.cell? ⟨U, 1, none⟩ = some (.int .i64 m1) := c1
      replace c2 : w10.cell? ⟨U, 2, none⟩ = some (.int .u64 n2) := c2
      go_wp2_with fail
      obtain ⟨n0', n1', n2'⟩ := TC.out
      unfold set3 at n0' n1' n2'
      refine bodyPost_ret (v := .tuple #[.agg #[.int .u64 n0, .int .i64 m1, .int .u64 n2], .int .i64 v, .bool true]) (by simp [results, Try.results20, go_sem, *]) rfl ?_
      rw [HE.out]
      exact ⟨rfl, by rw [HRR.out]; exact below_set3S Hb.out (Nat.le_refl _) _ _ _⟩
    · have hd : decide (T = b) = false := by simpa using hts
      have HE := Pin.Aside.mk (E.out.trans (if_pos (.inr hts)))
      clear hts
      obtain ⟨e0, e1, e2⟩ := HR.out.get3
      obtain ⟨f0, f1, f2⟩ := HR.out.fr3
      have TC := Pin.Aside.mk (HR.out.set3 (.int .u64 0) (.int .i64 0) (.int .u64 0))
      clear E
      go_wp2_with fail
      obtain ⟨n0', n1', n2'⟩ := TC.out
      unfold set3 at n0' n1' n2'
      refine bodyPost_ret (v := .tuple #[.agg #[.int .u64 0, .int .i64 0, .int .u64 0], .int .i64 0, .bool false]) (by simp [results, Try.results20, go_sem, *]) rfl ?_
      rw [HE.out]
      exact ⟨rfl, by rw [HRR.out]; exact below_set3S Hb.out (Nat.le_refl _) _ _ _⟩
end Go.Proofs.Ytpfkpaombiikcaa
