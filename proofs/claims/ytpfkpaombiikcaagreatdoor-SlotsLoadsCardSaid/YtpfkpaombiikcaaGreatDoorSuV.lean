import Derived.Test.YtpfkpaombiikcaaGreatDoorSuW
/- super: Write. -/
set_option maxRecDepth 16000
namespace Go.Pin
open Go.RowKit
set_option linter.unusedVariables false
set_option linter.unusedSimpArgs false
theorem suread_cases (d : Dv) (a : Int) : (∃ c, c ≠ 0 ∧ c ≠ 6 ∧ suread d a = (⟨#[]⟩, 0, 0, c)) ∨ (suread d a = (⟨#[]⟩, 0, 0, 6) ∧ 0 ≤ a ∧ a + 1 < d.n) ∨
    ∃ x g k, suread d a = (x, g, k, 0) ∧ 1 ≤ g ∧ g ≤ 18446744073709551615 ∧ (k = 0 ∨ k = 1) ∧ x.size ≤ 51 ∧ 0 ≤ a ∧ a + 1 < d.n := by
  have hne : ∀ k, dref d k ≠ 6 := fun k => by unfold dref; split; omega; split <;> omega
  by_cases h0 : (dread d a).2 = 0
  · by_cases h1 : (dread d (a + 1)).2 = 0
    · have ha := dref_in (by rw [← dread_code]; exact h0)
      have hb := dref_in (by rw [← dread_code]; exact h1)
      have hr0 := sget_range (dread d a).1
      have hr1 := sget_range (dread d (a + 1)).1
      by_cases hz : (sget (dread d a).1).1 = 0 ∧ (sget (dread d (a + 1)).1).1 = 0
      · right; left
        refine ⟨?_, ha.1, hb.2.1⟩
        unfold suread; rw [if_neg (by simp [h0]), if_neg (by simp [h1]), if_pos hz]
      · right; right
        by_cases hle : (sget (dread d (a + 1)).1).1 ≤ (sget (dread d a).1).1
        · refine ⟨_, _, 0, by unfold suread; rw [if_neg (by simp [h0]), if_neg (by simp [h1]), if_neg hz, if_pos hle], by omega, by omega, .inl rfl, hr0.2.2, ha.1, hb.2.1⟩
        · refine ⟨_, _, 1, by unfold suread; rw [if_neg (by simp [h0]), if_neg (by simp [h1]), if_neg hz, if_neg hle], by omega, by omega, .inr rfl, hr1.2.2, ha.1, hb.2.1⟩
    · left
      exact ⟨(dread d (a + 1)).2, h1, by rw [dread_code]; exact hne _, by unfold suread; rw [if_neg (by simp [h0]), if_pos h1]⟩
  · left
    exact ⟨(dread d a).2, h0, by rw [dread_code]; exact hne _, by unfold suread; rw [if_pos h0]⟩
/-- What is done when a body is let be there as gen g. -/
def suput (d : Dv) (k : Int) (g : Int) (s : ByteArray) : Int × Dv :=
  if (dwrite d k (sput g s).1).1 ≠ 0 then dwrite d k (sput g s).1 else dflush (dwrite d k (sput g s).1).2
end Go.Pin
namespace Go.Proofs.YtpfkpaombiikcaaGreatDoor
open Go.RowKit Go.Pin
set_option linter.unusedVariables false
set_option linter.unusedSimpArgs false
set_option maxHeartbeats 3200000 in
theorem super_write (b f m : Nat) (d : Dv) (a : Int) (s : ByteArray) (ha : -9223372036854775808 ≤ a ∧ a ≤ 9223372036854775807) (hs : s.size ≤ 1152921504606846976) (w : World) (h : DevAt w b f m d) :
    Calls Tryz.prog 12 #[.pointer (some ⟨b, 0, none⟩), .int .i64 a, .string s] w fun e w' => e = .returned (.int .i64 (suwrite d a s).1) ∧ DevAt w' b f m (suwrite d a s).2 ∧ Keep (devS b f m) w w' := by
  by_cases h51 : 51 < s.size
  · have E := Aside.mk (show suwrite d a s = (3, d) by unfold suwrite; rw [if_pos h51])
    go_enter Tryz.func12, Tryz.ntmps12
    go_wp2_with fail
    go_ret
    rw [E.out]
    exact ⟨rfl, h, Keep.refl _ _⟩
  · have hcon := super_read b f m d a ha w h
    have hk0 : ¬ (51 : Int) < (s.size : Int) := by omega
    have hs51 : s.size ≤ 51 := by omega
    have hn2 := h.ok.n2
    have Hlt := Aside.mk h.lt
    rcases suread_cases d a with ⟨c, hc0, hc6, hr⟩ | ⟨hr, ha0, ha1⟩ | ⟨x, g, k, hr, hg1, hg2, hk, hx, ha0, ha1⟩
    · have E := Aside.mk (show suwrite d a s = (c, d) by unfold suwrite; rw [if_neg h51, hr, if_pos ⟨hc0, hc6⟩])
      rw [hr] at hcon
      have q1 : (c == 6) = false := by simpa using hc6
      have q2 : (c != 0) = true := by simpa using hc0
      clear hc0 hc6 hr
      go_enter Tryz.func12, Tryz.ntmps12
      go_wp2_with fail
      refine hcon.mono ?_
      rintro e w2 ⟨rfl, hb2⟩
      have hd2 := h.below hb2
      clear hcon h
      go_wp2_with fail
      go_ret
      rw [E.out]
      exact ⟨rfl, hd2, Keep.of_below hb2 fun k hk _ => hk⟩
    · have hE : suwrite d a s = if (dwrite d a (sput 1 s).1).1 ≠ 0 then dwrite d a (sput 1 s).1 else dflush (dwrite d a (sput 1 s).1).2 := by
        unfold suwrite; rw [if_neg h51, hr, if_neg (by simp), if_neg (by simp)]; rfl
      rw [hr] at hcon
      obtain ⟨⟨c, D⟩, hP⟩ : ∃ p, dwrite d a (sput 1 s).1 = p := ⟨_, rfl⟩
      have Hp := Aside.mk fun W => super_put 1 (by omega) s hs W
      obtain ⟨⟨T, tb⟩, hT⟩ : ∃ p, sput 1 s = p := ⟨_, rfl⟩
      have hTs : T.size ≤ 64 := by have := sput_size 1 s; rw [hT] at this; exact this
      rw [hT] at Hp hP
      rw [hT] at hE
      dsimp only at hE
      rw [hP] at hE
      have E := Aside.mk hE
      have Hw := Aside.mk fun W (hW : DevAt W b f m d) => dev_write b f m d (a) T (by omega) (by omega) W hW
      rw [hP] at Hw
      clear hE hP hT hr
      go_enter Tryz.func12, Tryz.ntmps12
      go_wp2_with fail
      refine hcon.mono ?_
      rintro e w2 ⟨rfl, hb2⟩
      have hd2 := h.below hb2
      have Hk2 := Aside.mk (show Keep (devS b f m) w w2 from Keep.of_below hb2 fun k hk _ => hk)
      clear hcon h hb2
      go_wp2_with fail
      refine (Hp.out _).mono ?_
      rintro e w3 ⟨rfl, hb3⟩
      have hd3 := hd2.below hb3
      have Hk3 := Aside.mk (Hk2.out.trans (show Keep (devS b f m) w2 w3 from Keep.of_below hb3 fun k hk _ => hk))
      clear hb3 hd2
      go_wp2_with fail
      refine (Hw.out _ hd3).mono ?_
      rintro e w4 ⟨rfl, hd4, hk4⟩
      have Hk4 := Aside.mk (Hk3.out.trans hk4)
      clear hk4 hd3
      by_cases hc0 : c = 0
      · subst hc0
        have hfl := dev_flush b f m D w4 hd4
        clear hd4
        go_wp2_with fail
        refine hfl.mono ?_
        rintro e w5 ⟨rfl, hd5, hk5⟩
        clear hfl
        go_wp2_with fail
        go_ret
        rw [E.out, if_neg (by simp)]
        exact ⟨rfl, hd5, Hk4.out.trans hk5⟩
      · have q2 : (c != 0) = true := by simpa using hc0
        have E2 := Aside.mk (E.out.trans (if_pos hc0))
        clear hc0
        go_wp2_with fail
        go_ret
        rw [E2.out]
        exact ⟨rfl, hd4, Hk4.out⟩
    · have hkr : 0 ≤ k ∧ k ≤ 1 := by omega
      rw [hr] at hcon
      by_cases hm : g = 18446744073709551615
      · have E := Aside.mk (show suwrite d a s = (4, d) by unfold suwrite; rw [if_neg h51, hr, if_neg (by simp), if_pos hm])
        subst hm
        clear hr hk
        go_enter Tryz.func12, Tryz.ntmps12
        go_wp2_with fail
        refine hcon.mono ?_
        rintro e w2 ⟨rfl, hb2⟩
        have hd2 := h.below hb2
        clear hcon h
        go_wp2_with fail
        go_ret
        rw [E.out]
        exact ⟨rfl, hd2, Keep.of_below hb2 fun k hk _ => hk⟩
      · have hE : suwrite d a s = if (dwrite d (a + 1 - k) (sput (g + 1) s).1).1 ≠ 0 then dwrite d (a + 1 - k) (sput (g + 1) s).1 else dflush (dwrite d (a + 1 - k) (sput (g + 1) s).1).2 := by
          unfold suwrite; rw [if_neg h51, hr, if_neg (by simp), if_neg hm]; rfl
        have q3 : (g == 18446744073709551615) = false := by simpa using hm
        have hg3 : g + 1 ≤ 18446744073709551615 := by omega
        have q4 : IntKind.u64.wrap (g + 1) = g + 1 := by rw [IntKind.wrap_u64]; omega
        clear hm hk
        obtain ⟨⟨c, D⟩, hP⟩ : ∃ p, dwrite d (a + 1 - k) (sput (g + 1) s).1 = p := ⟨_, rfl⟩
        have Hp := Aside.mk fun W => super_put (g + 1) (by omega) s hs W
        obtain ⟨⟨T, tb⟩, hT⟩ : ∃ p, sput (g + 1) s = p := ⟨_, rfl⟩
        have hTs : T.size ≤ 64 := by have := sput_size (g + 1) s; rw [hT] at this; exact this
        rw [hT] at Hp hP
        rw [hT] at hE
        dsimp only at hE
        rw [hP] at hE
        have E := Aside.mk hE
        have Hw := Aside.mk fun W (hW : DevAt W b f m d) => dev_write b f m d ((a + 1 - k)) T (by omega) (by omega) W hW
        rw [hP] at Hw
        clear hE hP hT hr
        go_enter Tryz.func12, Tryz.ntmps12
        go_wp2_with fail
        refine hcon.mono ?_
        rintro e w2 ⟨rfl, hb2⟩
        have hd2 := h.below hb2
        have Hk2 := Aside.mk (show Keep (devS b f m) w w2 from Keep.of_below hb2 fun k hk _ => hk)
        clear hcon h hb2
        go_wp2_with fail
        refine (Hp.out _).mono ?_
        rintro e w3 ⟨rfl, hb3⟩
        have hd3 := hd2.below hb3
        have Hk3 := Aside.mk (Hk2.out.trans (show Keep (devS b f m) w2 w3 from Keep.of_below hb3 fun k hk _ => hk))
        clear hb3 hd2
        go_wp2_with fail
        refine (Hw.out _ hd3).mono ?_
        rintro e w4 ⟨rfl, hd4, hk4⟩
        have Hk4 := Aside.mk (Hk3.out.trans hk4)
        clear hk4 hd3
        by_cases hc0 : c = 0
        · subst hc0
          have hfl := dev_flush b f m D w4 hd4
          clear hd4
          go_wp2_with fail
          refine hfl.mono ?_
          rintro e w5 ⟨rfl, hd5, hk5⟩
          clear hfl
          go_wp2_with fail
          go_ret
          rw [E.out, if_neg (by simp)]
          exact ⟨rfl, hd5, Hk4.out.trans hk5⟩
        · have q2 : (c != 0) = true := by simpa using hc0
          have E2 := Aside.mk (E.out.trans (if_pos hc0))
          clear hc0
          go_wp2_with fail
          go_ret
          rw [E2.out]
          exact ⟨rfl, hd4, Hk4.out⟩
end Go.Proofs.YtpfkpaombiikcaaGreatDoor
