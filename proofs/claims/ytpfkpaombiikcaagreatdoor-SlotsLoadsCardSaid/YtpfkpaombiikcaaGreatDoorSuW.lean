import Derived.Test.YtpfkpaombiikcaaGreatDoorSuR
/- super: which of both is newer; Read. -/
set_option maxRecDepth 16000
namespace Go.Pin
open Go.RowKit
theorem results4S {fn : Func} {a b c d : Tmp} (h : fn.results = #[.tmp a, .tmp b, .tmp c, .tmp d]) (T : Array Value) (P : Program) (w : World) :
    (results fn T).run P w = .ok (.tuple #[T.getD a undef, T.getD b undef, T.getD c undef, T.getD d undef]) w := by simp [results, h]
end Go.Pin
namespace Go.Proofs.YtpfkpaombiikcaaGreatDoor
open Go.RowKit Go.Pin
set_option linter.unusedVariables false
set_option linter.unusedSimpArgs false
theorem super_newest1 (g0 g1 : Int) (x0 x1 : ByteArray) (w : World) :
    Calls Tryz.prog 83 #[.agg #[.int .u64 g1, .string x1], .agg #[.int .u64 g0, .string x0]] w fun e w' => e = .returned (.bool (decide (g0 < g1))) ∧ Below w.heap.size w w' := by
  go_enter Tryz.func83, Tryz.ntmps83
  go_wp2_with fail
  go_ret
  exact ⟨rfl, ((Below.refl _ _).alloc (Nat.le_refl _) _).alloc (by simp) _⟩
set_option maxHeartbeats 800000 in
theorem super_newest (g0 g1 : Int) (x0 x1 : ByteArray) (w : World) :
    Calls Tryz.prog 60 #[.agg #[.int .u64 g0, .string x0, .int .u64 g1, .string x1]] w fun e w' => e = .returned (.int .i64 (if g0 < g1 then 1 else 0)) ∧ Below w.heap.size w w' := by
  have Hn := Aside.mk fun W => super_newest1 g0 g1 x0 x1 W
  by_cases h : g0 < g1
  · rw [if_pos h]
    have hd : decide (g0 < g1) = true := by simpa using h
    rw [hd] at Hn
    clear h hd
    go_enter Tryz.func60, Tryz.ntmps60
    go_wp2_with fail
    refine (Hn.out _).mono ?_
    rintro e w2 ⟨rfl, hb2⟩
    go_wp2_with fail
    go_ret
    exact ⟨rfl, ((Below.refl _ _).alloc (Nat.le_refl _) _).trans (hb2.mono (by simp))⟩
  · rw [if_neg h]
    have hd : decide (g0 < g1) = false := by simpa using h
    rw [hd] at Hn
    clear h hd
    go_enter Tryz.func60, Tryz.ntmps60
    go_wp2_with fail
    refine (Hn.out _).mono ?_
    rintro e w2 ⟨rfl, hb2⟩
    go_wp2_with fail
    go_ret
    exact ⟨rfl, ((Below.refl _ _).alloc (Nat.le_refl _) _).trans (hb2.mono (by simp))⟩
theorem suread_both (d : Dv) (a : Int) : suread d a = if (suboth d a).2.2.2.2 ≠ 0 then (⟨#[]⟩, 0, 0, (suboth d a).2.2.2.2) else
    if (suboth d a).1 = 0 ∧ (suboth d a).2.2.1 = 0 then (⟨#[]⟩, 0, 0, 6) else if (suboth d a).2.2.1 ≤ (suboth d a).1 then ((suboth d a).2.1, (suboth d a).1, 0, 0) else ((suboth d a).2.2.2.1, (suboth d a).2.2.1, 1, 0) := by
  unfold suread suboth
  split
  · rename_i h; simp [h]
  · split
    · rename_i h; simp [h]
    · simp
set_option maxHeartbeats 1600000 in
theorem super_read (b f m : Nat) (d : Dv) (a : Int) (ha : -9223372036854775808 ≤ a ∧ a ≤ 9223372036854775807) (w : World) (h : DevAt w b f m d) :
    Calls Tryz.prog 31 #[.pointer (some ⟨b, 0, none⟩), .int .i64 a] w fun e w' => e = .returned (.tuple #[.string (suread d a).1, .int .u64 (suread d a).2.1, .int .i64 (suread d a).2.2.1, .int .i64 (suread d a).2.2.2]) ∧ Below w.heap.size w w' := by
  have hcon := super_both b f m d a ha w h
  have E := Aside.mk (suread_both d a)
  obtain ⟨⟨g0, x0, g1, x1, c⟩, hx⟩ : ∃ x, suboth d a = x := ⟨_, rfl⟩
  have hr : 0 ≤ g0 ∧ 0 ≤ g1 := by
    have h1 := sget_range (dread d a).1
    have h2 := sget_range (dread d (a + 1)).1
    unfold suboth at hx
    split at hx
    · cases hx; omega
    · split at hx
      · cases hx; omega
      · cases hx; omega
  rw [hx] at E hcon
  replace hcon : Calls Tryz.prog 59 #[.pointer (some ⟨b, 0, none⟩), .int .i64 a] w fun e w' => e = .returned (.tuple #[.agg #[.int .u64 g0, .string x0, .int .u64 g1, .string x1], .int .i64 c]) ∧ Below w.heap.size w w' := hcon
  clear hx h
  have Hn := Aside.mk fun W => super_newest g0 g1 x0 x1 W
  have hE := E.out
  dsimp only at hE
  clear E
  have E := hE
  clear hE
  by_cases hc : c = 0
  · subst hc
    by_cases hlt : g0 < g1
    · rw [if_pos hlt] at Hn
      have hq : (g1 == 0) = false := by rw [beq_eq_false_iff_ne]; omega
      have E1 := Aside.mk (show suread d a = (x1, g1, 1, 0) by rw [E]; rw [if_neg (by simp), if_neg (by omega), if_neg (by omega)])
      clear E hlt hr
      go_enter Tryz.func31, Tryz.ntmps31
      go_wp2_with fail
      refine hcon.mono ?_
      rintro e w2 ⟨rfl, hb2⟩
      clear hcon
      go_wp2_with fail
      have Hf := Aside.mk (FourAt.new w2 (.int .u64 g0) (.string x0) (.int .u64 g1) (.string x1) 113)
      have Hb := Aside.mk (hb2.alloc hb2.size (.cells #[.int .u64 g0, .string x0, .int .u64 g1, .string x1] 113))
      refine (Hn.out _).mono ?_
      rintro e w3 ⟨rfl, hb3⟩
      obtain ⟨d0, d1, d2, d3, f0, f1, f2, f3⟩ := Hf.out.below hb3
      have hb4 := Hb.out.trans (hb3.mono (Nat.le_trans hb2.size (by simp)))
      clear hb3 hb2
      go_wp2_with fail
      go_quiet (fail)
      go_wp2_with fail
      refine bodyPost_ret (results4S rfl _ _ _) rfl ?_
      rw [E1.out]
      exact ⟨rfl, below_drewN hb4 _⟩
    · rw [if_neg hlt] at Hn
      by_cases hz : g0 = 0
      · have hz1 : g1 = 0 := by omega
        have hq : (g0 == 0) = true := by simpa using hz
        have E1 := Aside.mk (show suread d a = (⟨#[]⟩, 0, 0, 6) by rw [E]; rw [if_neg (by simp), if_pos ⟨hz, hz1⟩])
        clear E hlt hr hz hz1
        go_enter Tryz.func31, Tryz.ntmps31
        go_wp2_with fail
        refine hcon.mono ?_
        rintro e w2 ⟨rfl, hb2⟩
        clear hcon
        go_wp2_with fail
        have Hf := Aside.mk (FourAt.new w2 (.int .u64 g0) (.string x0) (.int .u64 g1) (.string x1) 113)
        have Hb := Aside.mk (hb2.alloc hb2.size (.cells #[.int .u64 g0, .string x0, .int .u64 g1, .string x1] 113))
        refine (Hn.out _).mono ?_
        rintro e w3 ⟨rfl, hb3⟩
        obtain ⟨d0, d1, d2, d3, f0, f1, f2, f3⟩ := Hf.out.below hb3
        have hb4 := Hb.out.trans (hb3.mono (Nat.le_trans hb2.size (by simp)))
        clear hb3 hb2
        go_wp2_with fail
        refine bodyPost_ret (results4S rfl _ _ _) rfl ?_
        rw [E1.out]
        exact ⟨rfl, hb4⟩
      · have hq : (g0 == 0) = false := by rw [beq_eq_false_iff_ne]; omega
        have E1 := Aside.mk (show suread d a = (x0, g0, 0, 0) by rw [E]; rw [if_neg (by simp), if_neg (by omega), if_pos (by omega)])
        clear E hlt hr hz
        go_enter Tryz.func31, Tryz.ntmps31
        go_wp2_with fail
        refine hcon.mono ?_
        rintro e w2 ⟨rfl, hb2⟩
        clear hcon
        go_wp2_with fail
        have Hf := Aside.mk (FourAt.new w2 (.int .u64 g0) (.string x0) (.int .u64 g1) (.string x1) 113)
        have Hb := Aside.mk (hb2.alloc hb2.size (.cells #[.int .u64 g0, .string x0, .int .u64 g1, .string x1] 113))
        refine (Hn.out _).mono ?_
        rintro e w3 ⟨rfl, hb3⟩
        obtain ⟨d0, d1, d2, d3, f0, f1, f2, f3⟩ := Hf.out.below hb3
        have hb4 := Hb.out.trans (hb3.mono (Nat.le_trans hb2.size (by simp)))
        clear hb3 hb2
        go_wp2_with fail
        go_quiet (fail)
        go_wp2_with fail
        refine bodyPost_ret (results4S rfl _ _ _) rfl ?_
        rw [E1.out]
        exact ⟨rfl, below_drewN hb4 _⟩
  · have hb : (c != 0) = true := by simpa using hc
    have E1 := Aside.mk (show suread d a = (⟨#[]⟩, 0, 0, c) by rw [E]; rw [if_pos hc])
    clear E hr hc
    go_enter Tryz.func31, Tryz.ntmps31
    go_wp2_with fail
    refine hcon.mono ?_
    rintro e w2 ⟨rfl, hb2⟩
    clear hcon
    go_wp2_with fail
    refine bodyPost_ret (results4S rfl _ _ _) rfl ?_
    rw [E1.out]
    exact ⟨rfl, hb2.alloc hb2.size _⟩
end Go.Proofs.YtpfkpaombiikcaaGreatDoor
