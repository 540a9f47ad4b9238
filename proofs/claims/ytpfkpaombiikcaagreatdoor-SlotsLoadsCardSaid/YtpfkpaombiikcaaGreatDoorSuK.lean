import Derived.Test.YtpfkpaombiikcaaGreatDoorSuH
/- The document's super.Write. -/
set_option maxRecDepth 16000
namespace Go.Proofs.YtpfkpaombiikcaaGreatDoor
open Go.RowKit Go.Pin
set_option linter.unusedVariables false
set_option linter.unusedSimpArgs false
set_option maxHeartbeats 3200000 in
theorem superref_write (b N O V : Nat) (d : Dv) (a : Int) (s : ByteArray) (ha : -9223372036854775808 ≤ a ∧ a ≤ 9223372036854775807) (hs : s.size ≤ 1152921504606846976) (w : World) (h : RefAt w b N O V d) :
    Calls Tryz.prog 13 #[.pointer (some ⟨b, 0, none⟩), .int .i64 a, .string s] w fun e w' => e = .returned (.int .i64 (suwrite d a s).1) ∧ RefAt w' b N O V (suwrite d a s).2 ∧ Keep (refS b N O V) w w' := by
  by_cases h51 : 51 < s.size
  · have E := Aside.mk (show suwrite d a s = (3, d) by unfold suwrite; rw [if_pos h51])
    go_enter Tryz.func13, Tryz.ntmps13
    go_wp2_with fail
    go_ret
    rw [E.out]
    exact ⟨rfl, h, Keep.refl _ _⟩
  · have hcon := superref_read b N O V d a ha w h
    have hk0 : ¬ (51 : Int) < (s.size : Int) := by omega
    have hs51 : s.size ≤ 51 := by omega
    have hn2 := h.ok.n2
    have Hlt := Aside.mk h.lt
    rcases suread_cases d a with ⟨c, hc0, hc6, hr⟩ | ⟨hr, ha0, ha1⟩ | ⟨x, g, k, hr, hg1, hg2, hk, hx, ha0, ha1⟩
    · have E := Aside.mk (show suwrite d a s = (c, d) by unfold suwrite; rw [if_neg h51, hr, if_pos ⟨hc0, hc6⟩])
      rw [hr] at hcon
      have q1 : (c == 6) = false := by simpa using hc6
      have q2 : (c != 0) = true := by simpa using hc0
      clear hc0 hc6 hr
      go_enter Tryz.func13, Tryz.ntmps13
      go_wp2_with fail
      refine hcon.mono ?_
      rintro e w2 ⟨rfl, hb2⟩
      have hd2 := h.below hb2
      clear hcon h
      go_wp2_with fail
      go_ret
      rw [E.out]
      exact ⟨rfl, hd2, Keep.of_below hb2 fun k hk _ => hk⟩
    · have hE : suwrite d a s = if (dwrite d a (sput 1 s).1).1 ≠ 0 then dwrite d a (sput 1 s).1 else dflush (dwrite d a (sput 1 s).1).2 := by
        unfold suwrite; rw [if_neg h51, hr, if_neg (by simp), if_neg (by simp)]; rfl
      rw [hr] at hcon
      obtain ⟨⟨c, D⟩, hP⟩ : ∃ p, dwrite d a (sput 1 s).1 = p := ⟨_, rfl⟩
      have Hp := Aside.mk fun W => superref_put 1 (by omega) s hs W
      obtain ⟨⟨T, tb⟩, hT⟩ : ∃ p, sput 1 s = p := ⟨_, rfl⟩
      have hTs : T.size ≤ 64 := by have := sput_size 1 s; rw [hT] at this; exact this
      rw [hT] at Hp hP
      rw [hT] at hE
      dsimp only at hE
      rw [hP] at hE
      have E := Aside.mk hE
      have Hw := Aside.mk fun W (hW : RefAt W b N O V d) => ref_write b N O V d (a) T (by omega) (by omega) W hW
      rw [hP] at Hw
      clear hE hP hT hr
      go_enter Tryz.func13, Tryz.ntmps13
      go_wp2_with fail
      refine hcon.mono ?_
      rintro e w2 ⟨rfl, hb2⟩
      have hd2 := h.below hb2
      have Hk2 := Aside.mk (show Keep (refS b N O V) w w2 from Keep.of_below hb2 fun k hk _ => hk)
      clear hcon h hb2
      go_wp2_with fail
      refine (Hp.out _).mono ?_
      rintro e w3 ⟨rfl, hb3⟩
      have hd3 := hd2.below hb3
      have Hk3 := Aside.mk (Hk2.out.trans (show Keep (refS b N O V) w2 w3 from Keep.of_below hb3 fun k hk _ => hk))
      clear hb3 hd2
      go_wp2_with fail
      refine (Hw.out _ hd3).mono ?_
      rintro e w4 ⟨rfl, hd4, hk4⟩
      have Hk4 := Aside.mk (Hk3.out.trans hk4)
      clear hk4 hd3
      by_cases hc0 : c = 0
      · subst hc0
        have hfl := ref_flush b N O V D w4 hd4
        clear hd4
        go_wp2_with fail
        refine hfl.mono ?_
        rintro e w5 ⟨rfl, hd5, hk5⟩
        clear hfl
        go_wp2_with fail
        go_ret
        rw [E.out, if_neg (by simp)]
        exact ⟨rfl, hd5, Hk4.out.trans hk5⟩
      · have q2 : (c != 0) = true := by simpa using hc0
        have E2 := Aside.mk (E.out.trans (if_pos hc0))
        clear hc0
        go_wp2_with fail
        go_ret
        rw [E2.out]
        exact ⟨rfl, hd4, Hk4.out⟩
    · have hkr : 0 ≤ k ∧ k ≤ 1 := by omega
      rw [hr] at hcon
      by_cases hm : g = 18446744073709551615
      · have E := Aside.mk (show suwrite d a s = (4, d) by unfold suwrite; rw [if_neg h51, hr, if_neg (by simp), if_pos hm])
        subst hm
        clear hr hk
        go_enter Tryz.func13, Tryz.ntmps13
        go_wp2_with fail
        refine hcon.mono ?_
        rintro e w2 ⟨rfl, hb2⟩
        have hd2 := h.below hb2
        clear hcon h
        go_wp2_with fail
        go_ret
        rw [E.out]
        exact ⟨rfl, hd2, Keep.of_below hb2 fun k hk _ => hk⟩
      · have hE : suwrite d a s = if (dwrite d (a + 1 - k) (sput (g + 1) s).1).1 ≠ 0 then dwrite d (a + 1 - k) (sput (g + 1) s).1 else dflush (dwrite d (a + 1 - k) (sput (g + 1) s).1).2 := by
          unfold suwrite; rw [if_neg h51, hr, if_neg (by simp), if_neg hm]; rfl
        have q3 : (g == 18446744073709551615) = false := by simpa using hm
        have hg3 : g + 1 ≤ 18446744073709551615 := by omega
        have q4 : IntKind.u64.wrap (g + 1) = g + 1 := by rw [IntKind.wrap_u64]; omega
        clear hm hk
        obtain ⟨⟨c, D⟩, hP⟩ : ∃ p, dwrite d (a + 1 - k) (sput (g + 1) s).1 = p := ⟨_, rfl⟩
        have Hp := Aside.mk fun W => superref_put (g + 1) (by omega) s hs W
        obtain ⟨⟨T, tb⟩, hT⟩ : ∃ p, sput (g + 1) s = p := ⟨_, rfl⟩
        have hTs : T.size ≤ 64 := by have := sput_size (g + 1) s; rw [hT] at this; exact this
        rw [hT] at Hp hP
        rw [hT] at hE
        dsimp only at hE
        rw [hP] at hE
        have E := Aside.mk hE
        have Hw := Aside.mk fun W (hW : RefAt W b N O V d) => ref_write b N O V d ((a + 1 - k)) T (by omega) (by omega) W hW
        rw [hP] at Hw
        clear hE hP hT hr
        go_enter Tryz.func13, Tryz.ntmps13
        go_wp2_with fail
        refine hcon.mono ?_
        rintro e w2 ⟨rfl, hb2⟩
        have hd2 := h.below hb2
        have Hk2 := Aside.mk (show Keep (refS b N O V) w w2 from Keep.of_below hb2 fun k hk _ => hk)
        clear hcon h hb2
        go_wp2_with fail
        refine (Hp.out _).mono ?_
        rintro e w3 ⟨rfl, hb3⟩
        have hd3 := hd2.below hb3
        have Hk3 := Aside.mk (Hk2.out.trans (show Keep (refS b N O V) w2 w3 from Keep.of_below hb3 fun k hk _ => hk))
        clear hb3 hd2
        go_wp2_with fail
        refine (Hw.out _ hd3).mono ?_
        rintro e w4 ⟨rfl, hd4, hk4⟩
        have Hk4 := Aside.mk (Hk3.out.trans hk4)
        clear hk4 hd3
        by_cases hc0 : c = 0
        · subst hc0
          have hfl := ref_flush b N O V D w4 hd4
          clear hd4
          go_wp2_with fail
          refine hfl.mono ?_
          rintro e w5 ⟨rfl, hd5, hk5⟩
          clear hfl
          go_wp2_with fail
          go_ret
          rw [E.out, if_neg (by simp)]
          exact ⟨rfl, hd5, Hk4.out.trans hk5⟩
        · have q2 : (c != 0) = true := by simpa using hc0
          have E2 := Aside.mk (E.out.trans (if_pos hc0))
          clear hc0
          go_wp2_with fail
          go_ret
          rw [E2.out]
          exact ⟨rfl, hd4, Hk4.out⟩
end Go.Proofs.YtpfkpaombiikcaaGreatDoor
