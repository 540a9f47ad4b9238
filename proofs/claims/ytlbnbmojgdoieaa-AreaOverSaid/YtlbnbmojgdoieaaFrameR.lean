/- What the reference of frames computes: the frame that a text begins with. -/
import Derived.Test.YtlbnbmojgdoieaaFrameN
import Derived.Test.YtlbnbmojgdoieaaRdRefW
set_option maxRecDepth 16000
namespace Go.Proofs.Ytlbnbmojgdoieaa
open Go.RowKit Go.Pin
set_option linter.unusedVariables false
set_option linter.unusedSimpArgs false

set_option maxHeartbeats 3200000 in
theorem frameref_next (s : ByteArray) (w : World) (hs : s.size ≤ 1152921504606846976) :
    Calls Try.prog 76 #[.string s] w fun e w' => e = .returned (.tuple #[.int .i64 (fnextR s).1, .string (fnextR s).2.1, .int .i64 (fnextR s).2.2.1, .bool (fnextR s).2.2.2]) ∧ Below w.heap.size w w' := by
  have hb := Below.refl w.heap.size w
  have hse := str_beq
  go_enter Try.func76, Try.ntmps76
  go_wp2_with fail
  refine (rr_new _ _).mono ?_
  rintro e w1 ⟨rfl, hr, hz, hb1⟩
  have hB := hb.size
  replace hb := Below.next hb hb1
  have hlt := hr.lt
  generalize hW0 : w.heap.size = W0 at *
  have HW := Aside.mk hW0
  clear hW0 hb1 hz
  have hs1 : (Rd.mk s false).s.size ≤ 1152921504606846976 := hs
  go_wp2_with fail
  refine (rr_fixed _ _ 1 _ hr (by omega) hs1).mono ?_
  rintro e w3 ⟨rfl, hr3, hk⟩
  replace hb := Keep.drop' hb (by omega) (Nat.le_refl _) hk
  clear hr hk hlt
  have hx1 : ((Rd.mk s false).fixed 1).1 < 256 := Rd.fixed_lt ⟨s, false⟩ 1
  obtain ⟨x, hx, hx0⟩ : ∃ x : Int, (((Rd.mk s false).fixed 1).1 : Int) = x ∧ 0 ≤ x ∧ x ≤ 255 := ⟨_, rfl, by omega, by omega⟩
  have hs3 := Rd.fixed_le' ⟨s, false⟩ 1
  replace hs3 : ((Rd.mk s false).fixed 1).2.s.size ≤ 1152921504606846976 := Nat.le_trans hs3 hs
  rw [hx]
  have Hx := Aside.mk hx
  obtain ⟨r3, h3⟩ : ∃ r3, ((Rd.mk s false).fixed 1).2 = r3 := ⟨_, rfl⟩
  rw [h3] at hr3 hs3
  have H3 := Aside.mk h3
  clear hx h3 hx1 hs1
  by_cases h161 : x = 161
  · subst h161
    have hfo : fopen s = (1, (r3.fixed 4).1, (r3.fixed 4).2) := by
      have h1 := Hx.out
      have h3 := H3.out
      unfold fopen
      dsimp only
      rw [h1, h3]; rfl
    have hN : (r3.fixed 4).1 < 18446744073709551616 := by have : (r3.fixed 4).1 < 4294967296 := Rd.fixed_lt r3 4; omega
    have hs6 : (r3.fixed 4).2.s.size ≤ s.size := Nat.le_trans (Rd.fixed_le' r3 4) (by rw [← H3.out]; exact Rd.fixed_le' ⟨s, false⟩ 1)
    obtain ⟨N, hNe, hN0, hN1⟩ : ∃ N : Int, (((r3.fixed 4).1 : Nat) : Int) = N ∧ 0 ≤ N ∧ N ≤ 18446744073709551615 := ⟨_, rfl, by omega, by omega⟩
    have hNn : (r3.fixed 4).1 = N.toNat := by omega
    rw [hNn] at hfo
    clear hN hNn
    have Hfo := Aside.mk hfo
    have HNe := Aside.mk hNe
    have Hs6 := Aside.mk hs6
    clear hfo hNe hs6
    go_wp2_with fail
    refine (rr_fixed W0 r3 4 _ hr3 (by omega) hs3).mono ?_
    rw [HNe.out]
    rintro e w6 ⟨rfl, hr6, hk6⟩
    have hfo := Hfo.out
    have hs6 := Hs6.out
    clear Hfo Hs6 HNe
    have hl3 := hr3.lt
    generalize (r3.fixed 4).2 = R6 at *
    replace hb := Keep.drop' hb (by omega) (Nat.le_refl _) hk6
    clear hk6 hr3 hl3
    have Hfo := Aside.mk hfo
    clear hfo Hx H3 hs3
    have hs6' : R6.s.size ≤ 1152921504606846976 := Nat.le_trans hs6 hs
    go_wp2_with fail
    refine (rr_fixed W0 R6 4 _ hr6 (by omega) hs6').mono ?_
    rintro e w8 ⟨rfl, hr8, hk8⟩
    replace hb := Keep.drop' hb (by have := hr6.lt; omega) (Nat.le_refl _) hk8
    have hs8 : (R6.fixed 4).2.s.size ≤ 1152921504606846976 := Nat.le_trans (Rd.fixed_le' R6 4) hs6'
    have hS1 : (R6.fixed 4).1 < 4294967296 := Rd.fixed_lt R6 4
    obtain ⟨S, hS, hS0, hS2⟩ : ∃ S : Int, (((R6.fixed 4).1 : Nat) : Int) = S ∧ 0 ≤ S ∧ S ≤ 4294967295 := ⟨_, rfl, by omega, by omega⟩
    rw [hS]
    clear hS hS1
    obtain ⟨R8, hR8⟩ : ∃ R8, (R6.fixed 4).2 = R8 := ⟨_, rfl⟩
    rw [hR8] at hr8 hs8
    have HR8 := Aside.mk hR8
    clear hR8 hk8 hr6
    obtain ⟨s8, b8⟩ := R8
    replace hs8 : s8.size ≤ 1152921504606846976 := hs8
    have hc80 := hr8.c0
    replace hc80 : w8.cell? ⟨W0, 0, none⟩ = some (.string s8) := hc80
    by_cases hN3 : (s8.size : Int) < N
    · go_wp2_with fail
      refine bodyPost_ret (results4 rfl _ _ _) rfl ?_
      have hfn : fnextR s = fnone := by
        unfold fnextR
        rw [Hfo.out]
        dsimp only
        rw [HR8.out, if_pos (by show s8.size < N.toNat; omega)]
      rw [hfn]
      exact ⟨rfl, by rw [HW.out]; exact hb⟩
    · have hN4 : N ≤ (s8.size : Int) := by omega
      clear hN3
      have hr8' := Aside.mk hr8
      go_wp2_with fail
      refine (rr_bytes _ _ N _ hr8'.out (by omega) hs8).mono ?_
      rintro e w11 ⟨rfl, hr11, hk11⟩
      have hW8 := hr8'.out.lt
      replace hb := Keep.drop' hb (by omega) (Nat.le_refl _) hk11
      have hz11 : ((Rd.bytes ⟨s8, b8⟩ N).1.size : Int) ≤ max N 0 := Rd.bytes_size ⟨s8, b8⟩ N
      obtain ⟨R11, hR11⟩ : ∃ R, Rd.bytes ⟨s8, b8⟩ N = R := ⟨_, rfl⟩
      rw [hR11] at hr11 hz11
      rw [hR11]
      have HR11 := Aside.mk hR11
      obtain ⟨body, r11⟩ := R11
      replace hz11 : body.size ≤ 1152921504606846976 := by have : (body.size : Int) ≤ max N 0 := hz11; omega
      replace hr11 : RdAt w11 W0 r11 := hr11
      clear hR11 hk11 hr8 hr8' hW8 hc80
      go_wp2_with fail
      refine (frameref_pack (1) body _ (by omega) hz11).mono ?_
      rintro e w12 ⟨rfl, hb1⟩
      have hW11 := hr11.lt
      replace hr11 := hr11.below hb1
      replace hb := hb.trans (hb1.mono (by omega))
      clear hb1
      have hfn : fnextR s = if r11.bad = true ∨ (fpack (1) body).2 = false ∨ s.size < (fpack (1) body).1.size ∨ s.extract 0 (fpack (1) body).1.size ≠ (fpack (1) body).1 then fnone else ((1), body, (fpack (1) body).1.size, true) := by
        unfold fnextR
        rw [Hfo.out]
        dsimp only
        have e1 : N = ((N.toNat : Nat) : Int) := by omega
        rw [HR8.out, if_neg (by show ¬ s8.size < N.toNat; omega), ← e1, HR11.out]
      have hpz : (fpack (1) body).1.size ≤ 1152921504606846976 + 26 := by have := fpack_size (1) body; omega
      revert hfn hpz
      generalize fpack (1) body = PK
      intro hfn hpz
      obtain ⟨pk, ok⟩ := PK
      replace hpz : pk.size ≤ 1152921504606846976 + 26 := hpz
      have Hfn := Aside.mk hfn
      clear hfn
      obtain ⟨sb, bb⟩ := r11
      have hc1 : w12.cell? ⟨W0, 1, none⟩ = some (.bool bb) := hr11.c1
      by_cases hq1 : bb = true
      · subst hq1
        go_wp2_with fail
        refine bodyPost_ret (results4 rfl _ _ _) rfl ?_
        rw [Hfn.out, if_pos (.inl trivial)]
        exact ⟨rfl, by rw [HW.out]; exact hb⟩
      · obtain rfl : bb = false := by simpa using hq1
        clear hq1
        by_cases hq2 : ok = false
        · subst hq2
          go_wp2_with fail
          refine bodyPost_ret (results4 rfl _ _ _) rfl ?_
          rw [Hfn.out, if_pos (.inr (.inl trivial))]
          exact ⟨rfl, by rw [HW.out]; exact hb⟩
        · obtain rfl : ok = true := by simpa using hq2
          clear hq2
          by_cases hq3 : s.size < pk.size
          · go_wp2_with fail
            refine bodyPost_ret (results4 rfl _ _ _) rfl ?_
            rw [Hfn.out, if_pos (.inr (.inr (.inl hq3)))]
            exact ⟨rfl, by rw [HW.out]; exact hb⟩
          · have hq4 : pk.size ≤ s.size := by omega
            clear hq3
            by_cases hq5 : s.extract 0 pk.size = pk
            · go_wp2_with fail
              refine bodyPost_ret (results4 rfl _ _ _) rfl ?_
              rw [Hfn.out, if_neg (by simp [hq5]; omega)]
              exact ⟨rfl, by rw [HW.out]; exact hb⟩
            · go_wp2_with fail
              refine bodyPost_ret (results4 rfl _ _ _) rfl ?_
              rw [Hfn.out, if_pos (.inr (.inr (.inr hq5)))]
              exact ⟨rfl, by rw [HW.out]; exact hb⟩
  · have h161' : x - 160 ≠ 1 := by omega
    have hfo : fopen s = (x - 160, (r3.var).1, (r3.var).2) := by
      have h1 := Hx.out
      have h3 := H3.out
      unfold fopen
      dsimp only
      rw [h1, h3, if_neg h161']
    have hN : (r3.var).1 < 18446744073709551616 := Rd.var_lt r3
    have hs6 : (r3.var).2.s.size ≤ s.size := Nat.le_trans (Rd.var_le r3) (by rw [← H3.out]; exact Rd.fixed_le' ⟨s, false⟩ 1)
    obtain ⟨N, hNe, hN0, hN1⟩ : ∃ N : Int, (((r3.var).1 : Nat) : Int) = N ∧ 0 ≤ N ∧ N ≤ 18446744073709551615 := ⟨_, rfl, by omega, by omega⟩
    have hNn : (r3.var).1 = N.toNat := by omega
    rw [hNn] at hfo
    clear hN hNn
    have Hfo := Aside.mk hfo
    have HNe := Aside.mk hNe
    have Hs6 := Aside.mk hs6
    clear hfo hNe hs6
    go_wp2_with fail
    refine (rr_var W0 r3 _ hr3 hs3).mono ?_
    rw [HNe.out]
    rintro e w6 ⟨rfl, hr6, hk6⟩
    have hfo := Hfo.out
    have hs6 := Hs6.out
    clear Hfo Hs6 HNe
    have hl3 := hr3.lt
    generalize (r3.var).2 = R6 at *
    replace hb := Keep.drop' hb (by omega) (Nat.le_refl _) hk6
    clear hk6 hr3 hl3
    have Hfo := Aside.mk hfo
    clear hfo Hx H3 hs3
    have hs6' : R6.s.size ≤ 1152921504606846976 := Nat.le_trans hs6 hs
    go_wp2_with fail
    refine (rr_fixed W0 R6 4 _ hr6 (by omega) hs6').mono ?_
    rintro e w8 ⟨rfl, hr8, hk8⟩
    replace hb := Keep.drop' hb (by have := hr6.lt; omega) (Nat.le_refl _) hk8
    have hs8 : (R6.fixed 4).2.s.size ≤ 1152921504606846976 := Nat.le_trans (Rd.fixed_le' R6 4) hs6'
    have hS1 : (R6.fixed 4).1 < 4294967296 := Rd.fixed_lt R6 4
    obtain ⟨S, hS, hS0, hS2⟩ : ∃ S : Int, (((R6.fixed 4).1 : Nat) : Int) = S ∧ 0 ≤ S ∧ S ≤ 4294967295 := ⟨_, rfl, by omega, by omega⟩
    rw [hS]
    clear hS hS1
    obtain ⟨R8, hR8⟩ : ∃ R8, (R6.fixed 4).2 = R8 := ⟨_, rfl⟩
    rw [hR8] at hr8 hs8
    have HR8 := Aside.mk hR8
    clear hR8 hk8 hr6
    obtain ⟨s8, b8⟩ := R8
    replace hs8 : s8.size ≤ 1152921504606846976 := hs8
    have hc80 := hr8.c0
    replace hc80 : w8.cell? ⟨W0, 0, none⟩ = some (.string s8) := hc80
    by_cases hN3 : (s8.size : Int) < N
    · go_wp2_with fail
      refine bodyPost_ret (results4 rfl _ _ _) rfl ?_
      have hfn : fnextR s = fnone := by
        unfold fnextR
        rw [Hfo.out]
        dsimp only
        rw [HR8.out, if_pos (by show s8.size < N.toNat; omega)]
      rw [hfn]
      exact ⟨rfl, by rw [HW.out]; exact hb⟩
    · have hN4 : N ≤ (s8.size : Int) := by omega
      clear hN3
      have hr8' := Aside.mk hr8
      go_wp2_with fail
      refine (rr_bytes _ _ N _ hr8'.out (by omega) hs8).mono ?_
      rintro e w11 ⟨rfl, hr11, hk11⟩
      have hW8 := hr8'.out.lt
      replace hb := Keep.drop' hb (by omega) (Nat.le_refl _) hk11
      have hz11 : ((Rd.bytes ⟨s8, b8⟩ N).1.size : Int) ≤ max N 0 := Rd.bytes_size ⟨s8, b8⟩ N
      obtain ⟨R11, hR11⟩ : ∃ R, Rd.bytes ⟨s8, b8⟩ N = R := ⟨_, rfl⟩
      rw [hR11] at hr11 hz11
      rw [hR11]
      have HR11 := Aside.mk hR11
      obtain ⟨body, r11⟩ := R11
      replace hz11 : body.size ≤ 1152921504606846976 := by have : (body.size : Int) ≤ max N 0 := hz11; omega
      replace hr11 : RdAt w11 W0 r11 := hr11
      clear hR11 hk11 hr8 hr8' hW8 hc80
      go_wp2_with fail
      refine (frameref_pack (x - 160) body _ (by omega) hz11).mono ?_
      rintro e w12 ⟨rfl, hb1⟩
      have hW11 := hr11.lt
      replace hr11 := hr11.below hb1
      replace hb := hb.trans (hb1.mono (by omega))
      clear hb1
      have hfn : fnextR s = if r11.bad = true ∨ (fpack (x - 160) body).2 = false ∨ s.size < (fpack (x - 160) body).1.size ∨ s.extract 0 (fpack (x - 160) body).1.size ≠ (fpack (x - 160) body).1 then fnone else ((x - 160), body, (fpack (x - 160) body).1.size, true) := by
        unfold fnextR
        rw [Hfo.out]
        dsimp only
        have e1 : N = ((N.toNat : Nat) : Int) := by omega
        rw [HR8.out, if_neg (by show ¬ s8.size < N.toNat; omega), ← e1, HR11.out]
      have hpz : (fpack (x - 160) body).1.size ≤ 1152921504606846976 + 26 := by have := fpack_size (x - 160) body; omega
      revert hfn hpz
      generalize fpack (x - 160) body = PK
      intro hfn hpz
      obtain ⟨pk, ok⟩ := PK
      replace hpz : pk.size ≤ 1152921504606846976 + 26 := hpz
      have Hfn := Aside.mk hfn
      clear hfn
      obtain ⟨sb, bb⟩ := r11
      have hc1 : w12.cell? ⟨W0, 1, none⟩ = some (.bool bb) := hr11.c1
      by_cases hq1 : bb = true
      · subst hq1
        go_wp2_with fail
        refine bodyPost_ret (results4 rfl _ _ _) rfl ?_
        rw [Hfn.out, if_pos (.inl trivial)]
        exact ⟨rfl, by rw [HW.out]; exact hb⟩
      · obtain rfl : bb = false := by simpa using hq1
        clear hq1
        by_cases hq2 : ok = false
        · subst hq2
          go_wp2_with fail
          refine bodyPost_ret (results4 rfl _ _ _) rfl ?_
          rw [Hfn.out, if_pos (.inr (.inl trivial))]
          exact ⟨rfl, by rw [HW.out]; exact hb⟩
        · obtain rfl : ok = true := by simpa using hq2
          clear hq2
          by_cases hq3 : s.size < pk.size
          · go_wp2_with fail
            refine bodyPost_ret (results4 rfl _ _ _) rfl ?_
            rw [Hfn.out, if_pos (.inr (.inr (.inl hq3)))]
            exact ⟨rfl, by rw [HW.out]; exact hb⟩
          · have hq4 : pk.size ≤ s.size := by omega
            clear hq3
            by_cases hq5 : s.extract 0 pk.size = pk
            · go_wp2_with fail
              refine bodyPost_ret (results4 rfl _ _ _) rfl ?_
              rw [Hfn.out, if_neg (by simp [hq5]; omega)]
              exact ⟨rfl, by rw [HW.out]; exact hb⟩
            · go_wp2_with fail
              refine bodyPost_ret (results4 rfl _ _ _) rfl ?_
              rw [Hfn.out, if_pos (.inr (.inr (.inr hq5)))]
              exact ⟨rfl, by rw [HW.out]; exact hb⟩
end Go.Proofs.Ytlbnbmojgdoieaa
