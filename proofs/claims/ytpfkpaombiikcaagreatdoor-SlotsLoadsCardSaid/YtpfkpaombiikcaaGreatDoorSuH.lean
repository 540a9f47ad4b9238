import Derived.Test.YtpfkpaombiikcaaGreatDoorSuN
import Derived.Test.YtpfkpaombiikcaaGreatDoorSuV
import Derived.Test.YtpfkpaombiikcaaGreatDoorRdRefW
/- The document's super.Get, Read. -/
set_option maxRecDepth 16000
namespace Go.Proofs.YtpfkpaombiikcaaGreatDoor
open Go.RowKit Go.Pin
set_option linter.unusedVariables false
set_option linter.unusedSimpArgs false
set_option maxHeartbeats 1600000 in
theorem superref_get (s : ByteArray) (hs : s.size ≤ 1152921504606846976) (w : World) :
    Calls Tryz.prog 68 #[.string s] w fun e w' => e = .returned (.tuple #[.int .u64 (sget s).1, .string (sget s).2.1, .bool (sget s).2.2]) ∧ Below w.heap.size w w' := by
  rw [← srefget_eq]
  have hse := str_beq
  by_cases h64 : s.size = 64
  · have E1 := Aside.mk (show srefget s = _ by unfold srefget; rw [if_neg (by simp [h64])])
    have hz : ((s.size : Int) != 64) = false := by simp [h64]
    have hC : (s.extract 4 s.size).size ≤ 64 := by rw [ByteArray.size_extract]; omega
    obtain ⟨C, hCC⟩ : ∃ C, s.extract 4 s.size = C := ⟨_, rfl⟩
    rw [hCC] at E1 hC
    have hC64 : s.extract 4 64 = C := by rw [← hCC, h64]
    clear hCC
    have hsl : (4 : Int) ≤ (s.size : Int) := by omega
    obtain ⟨x, hx⟩ : ∃ x, (Rd.mk C false).fixed 8 = x := ⟨_, rfl⟩
    obtain ⟨y, hy⟩ : ∃ y, x.2.fixed 1 = y := ⟨_, rfl⟩
    have hxl : x.2.s.size ≤ 64 := by rw [← hx]; exact Nat.le_trans (Rd.fixed_leS _ 8) hC
    have hyl : y.2.s.size ≤ 64 := by rw [← hy]; exact Nat.le_trans (Rd.fixed_leS _ 1) hxl
    have hx9 : x.1 < 18446744073709551616 := by have := Rd.fixed_lt8S ⟨C, false⟩; rw [hx] at this; exact this
    have hy9 : y.1 < 256 := by have := Rd.fixed_ltS x.2; rw [hy] at this; exact this
    obtain ⟨m, hm⟩ : ∃ m : Int, min (y.1 : Int) 51 = m := ⟨_, rfl⟩
    have hm0 : 0 ≤ m ∧ m ≤ 51 := by omega
    obtain ⟨z, hzz⟩ : ∃ z, y.2.bytes m = z := ⟨_, rfl⟩
    have hbz : z.1.size ≤ 51 := by have := Rd.bytes_size y.2 m; rw [hzz] at this; omega
    have e1 := E1.out
    dsimp only at e1
    rw [hx, hy, hm, hzz] at e1
    obtain ⟨⟨T, ok⟩, hT⟩ : ∃ T, sput (x.1 : Int) z.1 = T := ⟨_, rfl⟩
    rw [hT] at e1
    dsimp only at e1
    have hmin : (if (y.1 : Int) < 51 then (y.1 : Int) else 51) = m := by rw [← hm]; split <;> omega
    have hmin2 : (if (51 : Int) < (y.1 : Int) then 51 else (y.1 : Int)) = m := by rw [← hm]; split <;> omega
    have hmin3 : (if (y.1 : Int) ≤ 51 then (y.1 : Int) else 51) = m := by rw [← hm]; split <;> omega
    have hput := fun W => superref_put (x.1 : Int) (by omega) z.1 (by omega) W
    rw [hT] at hput
    have Hput := Aside.mk hput
    clear E1
    have E1 := Aside.mk e1
    have Hx := Aside.mk hx
    have Hy := Aside.mk hy
    have Hzz := Aside.mk hzz
    have hwy : IntKind.i64.wrap (y.1 : Int) = (y.1 : Int) := by rw [IntKind.wrap_i64]; omega
    clear e1 hput hT hx hy hzz
    go_enter Tryz.func68, Tryz.ntmps68
    go_wp2_with fail
    refine (rr_new C w).mono ?_
    rintro e w2 ⟨rfl, hr2, hz2, hb2⟩
    generalize hBB : w.heap.size = B at *
    have HBB := Aside.mk hBB
    clear hBB
    clear hz2
    go_wp2_with fail
    have hcx := rr_fixed B ⟨C, false⟩ 8 w2 hr2 (by omega) (by show C.size ≤ _; omega)
    rw [Hx.out] at hcx
    refine hcx.mono ?_
    rintro e w3 ⟨rfl, hr3, hk3⟩
    clear hcx
    have hb4 := hb2.trans (hk3.below (Nat.le_of_lt hr2.lt) fun k q => by rw [q]; exact Nat.le_refl _)
    go_wp2_with fail
    have hcy := rr_fixed B x.2 1 w3 hr3 (by omega) (by omega)
    rw [Hy.out] at hcy
    refine hcy.mono ?_
    rintro e w4 ⟨rfl, hr4, hk4⟩
    clear hcy
    have hb5 := hb4.trans (hk4.below (Nat.le_of_lt hr3.lt) fun k q => by rw [q]; exact Nat.le_refl _)
    go_wp2_with fail
    have hcz := rr_bytes B y.2 m w4 hr4 (by omega) (by omega)
    rw [Hzz.out] at hcz
    refine hcz.mono ?_
    rintro e w5 ⟨rfl, hr5, hk5⟩
    clear hcz
    have hb6 := hb5.trans (hk5.below (Nat.le_of_lt hr4.lt) fun k q => by rw [q]; exact Nat.le_refl _)
    go_wp2_with fail
    refine (Hput.out _).mono ?_
    rintro e w6 ⟨rfl, hb7⟩
    have hb8 := hb6.trans (hb7.mono (Nat.le_of_lt hr5.lt))
    cases ok with
    | false =>
      have HE := Aside.mk (E1.out.trans (if_pos (.inl rfl)))
      clear E1
      go_wp2_with fail
      go_ret3
      rw [HE.out]
      exact ⟨rfl, by rw [HBB.out]; exact hb8⟩
    | true =>
      by_cases hts : T = s
      · have HE := Aside.mk (E1.out.trans (if_neg (by simp [hts])))
        have hd : decide (T = s) = true := by simpa using hts
        clear E1 hts
        go_wp2_with fail
        go_ret3
        rw [HE.out]
        exact ⟨rfl, by rw [HBB.out]; exact hb8⟩
      · have HE := Aside.mk (E1.out.trans (if_pos (.inr hts)))
        have hd : decide (T = s) = false := by simpa using hts
        clear E1 hts
        go_wp2_with fail
        go_ret3
        rw [HE.out]
        exact ⟨rfl, by rw [HBB.out]; exact hb8⟩
  · have e1 : srefget s = (0, ⟨#[]⟩, false) := by unfold srefget; rw [if_pos h64]
    rw [e1]
    have hz : ((s.size : Int) != 64) = true := by simp; omega
    clear e1
    go_enter Tryz.func68, Tryz.ntmps68
    go_wp2_with fail
    go_ret3
    exact ⟨rfl, Below.refl _ _⟩

/-- A read of the document's that is known. -/
theorem ref_read_eq (r N O V : Nat) (d : Dv) (k : Int) (s : ByteArray) (c : Int) (hr : dread d k = (s, c)) (hk : -9223372036854775808 ≤ k ∧ k ≤ 9223372036854775807) (w : World) (h : RefAt w r N O V d) :
    Calls Tryz.prog 67 #[.pointer (some ⟨r, 0, none⟩), .int .i64 k] w fun e w' => e = .returned (.tuple #[.string s, .int .i64 c]) ∧ w' = w := by
  have := ref_read r N O V d k hk w h
  rw [hr] at this; exact this
set_option maxHeartbeats 1600000 in
theorem superref_read (r N O V : Nat) (d : Dv) (a : Int) (ha : -9223372036854775808 ≤ a ∧ a ≤ 9223372036854775807) (w : World) (h : RefAt w r N O V d) :
    Calls Tryz.prog 35 #[.pointer (some ⟨r, 0, none⟩), .int .i64 a] w fun e w' => e = .returned (.tuple #[.string (suread d a).1, .int .u64 (suread d a).2.1, .int .i64 (suread d a).2.2.1, .int .i64 (suread d a).2.2.2]) ∧ Below w.heap.size w w' := by
  obtain ⟨⟨s0, c0⟩, h0⟩ : ∃ x, dread d a = x := ⟨_, rfl⟩
  have hz0 : s0.size ≤ 64 := by have := dread_size h.ok a; rw [h0] at this; exact this
  have hcon := ref_read_eq r N O V d a s0 c0 h0 ha w h
  by_cases e0 : c0 = 0
  · subst e0
    obtain ⟨hn0, hn1, hdd⟩ := dref_in (d := d) (k := a) (by rw [← dread_code, h0])
    obtain ⟨⟨s1, c1⟩, h1⟩ : ∃ x, dread d (a + 1) = x := ⟨_, rfl⟩
    have hz1 : s1.size ≤ 64 := by have := dread_size h.ok (a + 1); rw [h1] at this; exact this
    have hn2 := h.ok.n2
    have hcon1 := ref_read_eq r N O V d (a + 1) s1 c1 h1 (by omega) w h
    have hw1 : IntKind.i64.wrap (a + 1) = a + 1 := by rw [IntKind.wrap_i64]; omega
    by_cases e1 : c1 = 0
    · subst e1
      have hg0 := fun W => superref_get s0 (by omega) W
      have hr0 := sget_range s0
      obtain ⟨⟨g0, x0, k0⟩, hq0⟩ : ∃ x, sget s0 = x := ⟨_, rfl⟩
      rw [hq0] at hg0 hr0
      have Hg0 := Aside.mk hg0
      have hg1 := fun W => superref_get s1 (by omega) W
      have hr1 := sget_range s1
      obtain ⟨⟨g1, x1, k1⟩, hq1⟩ : ∃ x, sget s1 = x := ⟨_, rfl⟩
      rw [hq1] at hg1 hr1
      have Hg1 := Aside.mk hg1
      replace hr0 : 0 ≤ g0 := hr0.1
      replace hr1 : 0 ≤ g1 := hr1.1
      have E0 := Aside.mk (show suread d a = if g0 = 0 ∧ g1 = 0 then (⟨#[]⟩, 0, 0, 6) else if g1 ≤ g0 then (x0, g0, 0, 0) else (x1, g1, 1, 0) by unfold suread; rw [h0, if_neg (by simp), h1, if_neg (by simp)]; dsimp only; rw [hq0, hq1])
      clear hg0 hg1 h0 h1 hq0 hq1 hdd h
      by_cases hz : g0 = 0
      · have hq : (g0 == 0) = true := by simpa using hz
        by_cases hz1 : g1 = 0
        · have hq1 : (g1 == 0) = true := by simpa using hz1
          have E := Aside.mk (E0.out.trans (if_pos ⟨hz, hz1⟩))
          clear E0 hz hz1 hr0 hr1
          go_enter Tryz.func35, Tryz.ntmps35
          go_wp2_with fail
          refine hcon.mono ?_
          rintro e w ⟨rfl, rfl⟩
          go_wp2_with fail
          refine hcon1.mono ?_
          rintro e w ⟨rfl, rfl⟩
          go_wp2_with fail
          refine (Hg0.out _).mono ?_
          rintro e w3 ⟨rfl, hb3⟩
          go_wp2_with fail
          refine (Hg1.out _).mono ?_
          rintro e w4 ⟨rfl, hb4⟩
          have hb5 := Below.next hb3 hb4
          clear hb3 hb4
          go_wp2_with fail
          refine bodyPost_ret (results4S rfl _ _ _) rfl ?_
          rw [E.out]
          exact ⟨rfl, hb5⟩
        · have hq1 : (g1 == 0) = false := by simpa using hz1
          have E := Aside.mk ((E0.out.trans (if_neg (fun q => hz1 q.2))).trans (if_neg (by omega)))
          have hle : ¬ g1 ≤ g0 := by omega
          clear E0 hz hz1 hr0 hr1
          go_enter Tryz.func35, Tryz.ntmps35
          go_wp2_with fail
          refine hcon.mono ?_
          rintro e w ⟨rfl, rfl⟩
          go_wp2_with fail
          refine hcon1.mono ?_
          rintro e w ⟨rfl, rfl⟩
          go_wp2_with fail
          refine (Hg0.out _).mono ?_
          rintro e w3 ⟨rfl, hb3⟩
          go_wp2_with fail
          refine (Hg1.out _).mono ?_
          rintro e w4 ⟨rfl, hb4⟩
          have hb5 := Below.next hb3 hb4
          clear hb3 hb4
          go_wp2_with fail
          refine bodyPost_ret (results4S rfl _ _ _) rfl ?_
          rw [E.out]
          exact ⟨rfl, hb5⟩
      · have hq : (g0 == 0) = false := by simpa using hz
        by_cases hle : g1 ≤ g0
        · have E := Aside.mk ((E0.out.trans (if_neg (fun q => hz q.1))).trans (if_pos hle))
          clear E0 hz hr0 hr1
          go_enter Tryz.func35, Tryz.ntmps35
          go_wp2_with fail
          refine hcon.mono ?_
          rintro e w ⟨rfl, rfl⟩
          go_wp2_with fail
          refine hcon1.mono ?_
          rintro e w ⟨rfl, rfl⟩
          go_wp2_with fail
          refine (Hg0.out _).mono ?_
          rintro e w3 ⟨rfl, hb3⟩
          go_wp2_with fail
          refine (Hg1.out _).mono ?_
          rintro e w4 ⟨rfl, hb4⟩
          have hb5 := Below.next hb3 hb4
          clear hb3 hb4
          go_wp2_with fail
          refine bodyPost_ret (results4S rfl _ _ _) rfl ?_
          rw [E.out]
          exact ⟨rfl, hb5⟩
        · have E := Aside.mk ((E0.out.trans (if_neg (fun q => hz q.1))).trans (if_neg hle))
          clear E0 hz hr0 hr1
          go_enter Tryz.func35, Tryz.ntmps35
          go_wp2_with fail
          refine hcon.mono ?_
          rintro e w ⟨rfl, rfl⟩
          go_wp2_with fail
          refine hcon1.mono ?_
          rintro e w ⟨rfl, rfl⟩
          go_wp2_with fail
          refine (Hg0.out _).mono ?_
          rintro e w3 ⟨rfl, hb3⟩
          go_wp2_with fail
          refine (Hg1.out _).mono ?_
          rintro e w4 ⟨rfl, hb4⟩
          have hb5 := Below.next hb3 hb4
          clear hb3 hb4
          go_wp2_with fail
          refine bodyPost_ret (results4S rfl _ _ _) rfl ?_
          rw [E.out]
          exact ⟨rfl, hb5⟩
    · have hb : (c1 != 0) = true := by simpa using e1
      have E := Aside.mk (show suread d a = (⟨#[]⟩, 0, 0, c1) by unfold suread; rw [h0, if_neg (by simp), h1, if_pos e1])
      clear h0 h1 e1 hdd h
      go_enter Tryz.func35, Tryz.ntmps35
      go_wp2_with fail
      refine hcon.mono ?_
      rintro e w ⟨rfl, rfl⟩
      go_wp2_with fail
      refine hcon1.mono ?_
      rintro e w ⟨rfl, rfl⟩
      go_wp2_with fail
      refine bodyPost_ret (results4S rfl _ _ _) rfl ?_
      rw [E.out]
      exact ⟨rfl, Below.refl _ _⟩
  · have hb : (c0 != 0) = true := by simpa using e0
    have E := Aside.mk (show suread d a = (⟨#[]⟩, 0, 0, c0) by unfold suread; rw [h0, if_pos e0])
    clear h0 e0 h
    go_enter Tryz.func35, Tryz.ntmps35
    go_wp2_with fail
    refine hcon.mono ?_
    rintro e w ⟨rfl, rfl⟩
    go_wp2_with fail
    refine bodyPost_ret (results4S rfl _ _ _) rfl ?_
    rw [E.out]
    exact ⟨rfl, Below.refl _ _⟩
end Go.Proofs.YtpfkpaombiikcaaGreatDoor
