/- SuperPlays: its walk. -/
import Derived.Test.YtpfkpaombiikcaaDoorSuK
import Derived.Test.YtpfkpaombiikcaaDoorSuE
import Derived.Test.YtpfkpaombiikcaaDoorPair
import Derived.Test.YtpfkpaombiikcaaDoorDevI
set_option maxRecDepth 16000
namespace Go.Proofs.YtpfkpaombiikcaaDoor
open Go.RowKit Go.Pin
set_option linter.unusedVariables false
set_option linter.unusedSimpArgs false
theorem super_read_is (b f m : Nat) (d : Dv) (a : Int) (ha : -9223372036854775808 ≤ a ∧ a ≤ 9223372036854775807) (x : ByteArray) (g k c : Int) (hE : suread d a = (x, g, k, c)) (w : World) (h : DevAt w b f m d) :
    Calls Tryd.prog 20 #[.pointer (some ⟨b, 0, none⟩), .int .i64 a] w fun e w' => e = .returned (.tuple #[.string x, .int .u64 g, .int .i64 k, .int .i64 c]) ∧ Below w.heap.size w w' := by
  have := super_read b f m d a ha w h
  rw [hE] at this; exact this
theorem superref_read_is (b N O V : Nat) (d : Dv) (a : Int) (ha : -9223372036854775808 ≤ a ∧ a ≤ 9223372036854775807) (x : ByteArray) (g k c : Int) (hE : suread d a = (x, g, k, c)) (w : World) (h : RefAt w b N O V d) :
    Calls Tryd.prog 27 #[.pointer (some ⟨b, 0, none⟩), .int .i64 a] w fun e w' => e = .returned (.tuple #[.string x, .int .u64 g, .int .i64 k, .int .i64 c]) ∧ Below w.heap.size w w' := by
  have := superref_read b N O V d a ha w h
  rw [hE] at this; exact this
set_option maxHeartbeats 6400000 in
set_option maxRecDepth 32000 in
theorem superPlays_walk (a : Option Addr) (len cap : Nat) (w : World) (h : isSlice [isInt .u8, isInt .i64, isStr, isInt .u64, isSlice [isInt .i64]] w (.slice a len cap)) :
    Calls Tryd.prog 8 #[.slice a len cap] w fun e w' => e = .returned (.bool true) ∧ Below w.heap.size w w' := by
  obtain ⟨_, _, _, h1, hlc, hcap, hdeeds⟩ := h
  cases h1
  have hlen : len ≤ 9223372036854775807 := by omega
  have hse := str_beq
  have hb := Below.refl w.heap.size w
  have Hd := Pin.Aside.mk hdeeds
  clear hdeeds
  go_enter Tryd.func8, Tryd.ntmps8
  go_wp2_with fail
  with_reducible refine (super_examples _).mono ?_
  rintro e w1 ⟨rfl, hbb⟩
  replace hb := Below.next hb hbb
  clear hbb
  go_wp2_with fail
  with_reducible refine (dev_new' 4 4 rfl (by omega) (by omega) _).mono ?_
  rintro e w2 ⟨b0, f0, m0, rfl, e1, e2, e3, hd2, hb2⟩
  have Hd2 := Pin.Aside.mk hd2
  have hB2 := hb.size
  replace e1 := Nat.le_trans hB2 e1
  replace e2 := Nat.le_trans hB2 e2
  replace e3 := Nat.le_trans hB2 e3
  replace hb := Below.next hb hb2
  have l2 := hd2.lt
  clear hb2 hd2
  go_wp2_with fail
  refine (ref_new 4 (by omega) (by omega) _).mono ?_
  rintro e w3 ⟨r0, n0, o0, v0, rfl, g1, g2, g3, g4, hr3, hb3⟩
  have hp : Pair w3 w.heap.size b0 f0 m0 r0 n0 o0 v0 (dnew 4) := by
    refine ⟨Hd2.out.below hb3, hr3, ?_, ?_, ?_⟩
    · intro k q1 q2
      unfold devS at q1
      unfold refS at q2
      omega
    · intro k q1
      unfold devS at q1
      omega
    · intro k q1
      unfold refS at q1
      omega
  have Hp := Pin.Aside.mk hp
  replace hb := Below.next hb hb3
  clear hb3 hr3 hp e1 e2 e3 g1 g2 g3 g4 l2 hB2
  go_wp2_with fail
  go_loopw [4, 6, 7] (fun d x i wr => ∃ (k b f m r N O V : Nat) (D : Dv), k ≤ len ∧ d = .pointer (some ⟨b, 0, none⟩) ∧ x = .pointer (some ⟨r, 0, none⟩) ∧ i = .int .i64 k ∧ Pair wr w.heap.size b f m r N O V D ∧ Below w.heap.size w wr) (fun _ _ i _ => len - (intOf i).toNat)
  case atStart => exact ⟨0, b0, f0, m0, r0, n0, o0, v0, _, by omega, rfl, rfl, rfl, Hp.out, hb⟩
  case round =>
    clear hb Hp Hd2
    obtain ⟨k, b, f, m, r, N, O, V, D, hk, rfl, rfl, rfl, hp, hb⟩ := hrel
    by_cases hmm : k < len ∧ (k : Int) < 40
    · obtain ⟨hlt, hmm⟩ := hmm
      obtain ⟨db, dO, rfl, hc⟩ := Hd.out (by omega)
      have hkw : Keep (fun _ => False) w wr := Keep.of_below hb fun _ hk _ => hk
      obtain ⟨_, c0, kd, rfl, kb⟩ := hc k hlt 0 _ rfl
      obtain ⟨_, c1, at', rfl, ab⟩ := hc k hlt 1 _ rfl
      obtain ⟨_, c2, s, rfl, sb⟩ := hc k hlt 2 _ rfl
      obtain ⟨_, c3, G, rfl, gb⟩ := hc k hlt 3 _ rfl
      obtain ⟨_, c4, hL⟩ := hc k hlt 4 _ rfl
      obtain ⟨la, ln, lc, rfl, hL1⟩ := hL
      replace kb := bounds_u8 kb
      replace ab := bounds_i64 ab
      replace gb := bounds_u64 gb
      replace c0 := hkw.cell c0 id
      replace c1 := hkw.cell c1 id
      replace c2 := hkw.cell c2 id
      replace c3 := hkw.cell c3 id
      replace c4 := hkw.cell c4 id
      replace c0 : wr.cell? ⟨db, dO + k * 5, none⟩ = _ := c0
      replace c1 : wr.cell? ⟨db, dO + k * 5 + 1, none⟩ = _ := c1
      replace c2 : wr.cell? ⟨db, dO + k * 5 + 2, none⟩ = _ := c2
      replace c3 : wr.cell? ⟨db, dO + k * 5 + 3, none⟩ = _ := c3
      replace c4 : wr.cell? ⟨db, dO + k * 5 + 4, none⟩ = _ := c4
      have hk0 : (0 : Int) ≤ (k : Int) := by omega
      have hk1 : (k : Int) < (len : Int) := by omega
      have HL := Pin.Aside.mk (slI_of_open (w := w) (cap := lc) ⟨la, ln, lc, rfl, hL1⟩)
      have Hp := Pin.Aside.mk hp
      have Hkw := Pin.Aside.mk hkw
      clear hc hL1 hp hkw
      go_upto_region 12 with fail
      have cu : ∀ i, (wr.alloc (.cells #[.int .u8 kd, .int .i64 at', .string s, .int .u64 G, .slice la ln lc] 55)).cell? ⟨wr.heap.size, i, none⟩ = (#[.int .u8 kd, .int .i64 at', .string s, .int .u64 G, .slice la ln lc] : Array Value)[i]? := fun i => World.cell?_alloc_at _ _ _ _ rfl
      have fu : (wr.alloc (.cells #[.int .u8 kd, .int .i64 at', .string s, .int .u64 G, .slice la ln lc] 55)).frozen? ⟨wr.heap.size, 1, none⟩ = false := World.frozen?_alloc_at _ _ _ _ rfl
      have hbu : Below wr.heap.size wr (wr.alloc (.cells #[.int .u8 kd, .int .i64 at', .string s, .int .u64 G, .slice la ln lc] 55)) := (Below.refl _ _).alloc (Nat.le_refl _) _
      have hpu := Hp.out.below hbu
      have hBw := hb.size
      have hux : ∀ k, devS b f m k → k ≠ wr.heap.size := fun k hk => Nat.ne_of_lt (Hp.out.lt1 hk)
      have huy : ∀ k, refS r N O V k → k ≠ wr.heap.size := fun k hk => Nat.ne_of_lt (Hp.out.lt2 hk)
      have y0 := cu 0
      have y1 := cu 1
      have y2 := cu 2
      have y3 := cu 3
      have y4 := cu 4
      replace y0 : _ = some (Value.int .u8 kd) := y0
      replace y1 : _ = some (Value.int .i64 at') := y1
      replace y2 : _ = some (Value.string s) := y2
      replace y3 : _ = some (Value.int .u64 G) := y3
      replace y4 : _ = some (Value.slice la ln lc) := y4
      replace hb := hb.trans (hbu.mono hBw)
      have Hpu := Pin.Aside.mk hpu
      have Hux := Pin.Aside.mk hux
      have Huy := Pin.Aside.mk huy
      have Hab := Pin.Aside.mk ab
      have Hsb := Pin.Aside.mk sb
      have Hgb := Pin.Aside.mk gb
      have HBw := Pin.Aside.mk hBw
      clear cu hbu hpu hux huy c0 c1 c2 c3 c4 Hp sb hBw
      generalize (wr.alloc (.cells #[.int .u8 kd, .int .i64 at', .string s, .int .u64 G, .slice la ln lc] 55)) = wu at *
      generalize wr.heap.size = U at *
      go_cut [60] (fun c wx => ∃ bb : Bool, c = .bool bb ∧ (bb = true → 0 ≤ at') ∧ wx = wu)
      case first =>
        by_cases q0 : 0 ≤ at'
        · by_cases q1 : at' < 1000
          · by_cases q2 : kd % 6 = 4
            · have q2b : (kd % 6 != 4) = false := by simp [q2]
              go_wp2_with fail
              go_meet
              exact ⟨false, rfl, fun h => (by cases h), rfl⟩
            · have q2b : (kd % 6 != 4) = true := by simp [q2]
              go_wp2_with fail
              go_meet
              exact ⟨true, rfl, fun _ => q0, rfl⟩
          · go_wp2_with fail
            go_meet
            exact ⟨false, rfl, fun h => (by cases h), rfl⟩
        · go_wp2_with fail
          go_meet
          exact ⟨false, rfl, fun h => (by cases h), rfl⟩
      case rest =>
        obtain ⟨bb, rfl, hbb, rfl⟩ := hcut
        have Hbb := Pin.Aside.mk hbb
        clear hbb
        go_upto_if 60 with fail
        go_cut [] (fun wx => ∃ at2 : Int, -9223372036854775808 ≤ at2 ∧ at2 ≤ 9223372036854775807 ∧ wx.cell? ⟨U, 0, none⟩ = some (.int .u8 kd) ∧ wx.cell? ⟨U, 1, none⟩ = some (.int .i64 at2) ∧ wx.cell? ⟨U, 2, none⟩ = some (.string s) ∧ wx.cell? ⟨U, 3, none⟩ = some (.int .u64 G) ∧ wx.cell? ⟨U, 4, none⟩ = some (.slice la ln lc) ∧ Keep (fun k => k = U) wc wx)
        case first =>
          cases bb with
          | true =>
            have q0 := Hbb.out rfl
            obtain ⟨A2, hA2⟩ : ∃ A2, at' % 5 = A2 := ⟨_, rfl⟩
            have hA3 : 0 ≤ A2 ∧ A2 < 5 := by omega
            have hks : Keep (fun k => k = U) wc (wc.setCell ⟨U, 1, none⟩ (.int .i64 A2)) := (Keep.refl (fun k => k = U) wc).setCell (p := ⟨U, 1, none⟩) (.inl rfl) _
            have hs1 : (wc.setCell ⟨U, 1, none⟩ (.int .i64 A2)).cell? ⟨U, 1, none⟩ = some (.int .i64 A2) := World.cell?_setCell_same _ _ _ y1
            have hs0 : (wc.setCell ⟨U, 1, none⟩ (.int .i64 A2)).cell? ⟨U, 0, none⟩ = some (.int .u8 kd) := (World.cell?_setCell_other wc ⟨U, 1, none⟩ ⟨U, 0, none⟩ _ (by simp)).trans y0
            have hs2 : (wc.setCell ⟨U, 1, none⟩ (.int .i64 A2)).cell? ⟨U, 2, none⟩ = some (.string s) := (World.cell?_setCell_other wc ⟨U, 1, none⟩ ⟨U, 2, none⟩ _ (by simp)).trans y2
            have hs3 : (wc.setCell ⟨U, 1, none⟩ (.int .i64 A2)).cell? ⟨U, 3, none⟩ = some (.int .u64 G) := (World.cell?_setCell_other wc ⟨U, 1, none⟩ ⟨U, 3, none⟩ _ (by simp)).trans y3
            have hs4 : (wc.setCell ⟨U, 1, none⟩ (.int .i64 A2)).cell? ⟨U, 4, none⟩ = some (.slice la ln lc) := (World.cell?_setCell_other wc ⟨U, 1, none⟩ ⟨U, 4, none⟩ _ (by simp)).trans y4
            have Hs := Pin.Aside.mk (And.intro hs0 (And.intro hs1 (And.intro hs2 (And.intro hs3 (And.intro hs4 hks)))))
            clear hs0 hs1 hs2 hs3 hs4 hks
            go_wp2_with fail
            go_meet
            exact ⟨A2, by omega, by omega, Hs.out⟩
          | false =>
            go_wp2_with fail
            go_meet
            exact ⟨at', Hab.out.1, Hab.out.2, y0, y1, y2, y3, y4, Keep.refl _ _⟩
        case rest =>
          obtain ⟨at2, ha1, ha2, z0, z1, z2, z3, z4, hku⟩ := hcut
          have hP2 : Pair wc w.heap.size b f m r N O V D := ⟨dev_off Hpu.out.dev hku fun k hk => Hux.out k hk, ref_off Hpu.out.ref hku fun k hk => Huy.out k hk, Hpu.out.apart, Hpu.out.low1, Hpu.out.low2⟩
          have hbw := hb.trans (hku.below hb.size fun k q => by rw [q]; exact HBw.out)
          have hBw := hbw.size
          obtain ⟨L, l1, l2, l3⟩ := HL.out
          subst l1
          have HSl := Pin.Aside.mk (l3.below hbw)
          have hs63 : s.size ≤ 1152921504606846976 := by have := Hsb.out; omega
          have HP2 := Pin.Aside.mk hP2
          clear y0 y1 y2 y3 y4 fu hb hku HL Hpu Hab Hsb HBw Hbb Hkw hP2 l3 ab
          have hk6 : 0 ≤ kd % 6 ∧ kd % 6 < 6 := by omega
          rcases (show kd % 6 = 2 ∨ kd % 6 = 3 ∨ kd % 6 = 4 ∨ kd % 6 = 5 ∨ (kd % 6 ≠ 2 ∧ kd % 6 ≠ 3 ∧ kd % 6 ≠ 4 ∧ kd % 6 ≠ 5) by omega) with hk' | hk' | hk' | hk' | hk'
          · have q2 : (kd % 6 == 2) = true := by rw [hk']; rfl
            clear hk' hk6
            obtain ⟨⟨X, g, wh, ec⟩, hR⟩ : ∃ R, suread D at2 = R := ⟨_, rfl⟩
            have Hr1 := Pin.Aside.mk fun W hW => super_read_is b f m D at2 ⟨ha1, ha2⟩ X g wh ec hR W hW
            have Hr2 := Pin.Aside.mk fun W hW => superref_read_is r N O V D at2 ⟨ha1, ha2⟩ X g wh ec hR W hW
            clear hR
            go_wp2_with fail
            refine (Hr1.out _ HP2.out.dev).mono ?_
            rintro e w5 ⟨rfl, hb5⟩
            replace z1 := (Keep.of_below (S := fun _ => False) hb5 fun _ hk _ => hk).cell z1 id
            have HP5 := Pin.Aside.mk (HP2.out.below hb5)
            have hbw5 := Below.next hbw hb5
            clear hb5 z0 z2 z3 z4
            go_wp2_with fail
            refine (Hr2.out _ HP5.out.ref).mono ?_
            rintro e w6 ⟨rfl, hb6⟩
            have HP6 := Pin.Aside.mk (HP5.out.below hb6)
            have hbw6 := Below.next hbw5 hb6
            clear hb6 z1
            go_wp2_with fail
            go_roundw
            case rel => exact ⟨k + 1, b, f, m, r, N, O, V, D, by omega, rfl, rfl, by go_num, HP6.out, hbw6⟩
            case measure => simp [intOf]; omega
          · have q2 : (kd % 6 == 2) = false := by rw [hk']; rfl
            have q3 : (kd % 6 == 3) = true := by rw [hk']; rfl
            clear hk' hk6
            have Hput := Pin.Aside.mk fun W => superref_put G Hgb.out s hs63 W
            obtain ⟨⟨T, tb⟩, hT⟩ : ∃ T, sput G s = T := ⟨_, rfl⟩
            have hTz : T.size ≤ 64 := by have := sput_size G s; rw [hT] at this; exact this
            rw [hT] at Hput
            clear hT
            go_wp2_with fail
            refine (Hput.out _).mono ?_
            rintro e w5 ⟨rfl, hb5⟩
            replace z1 := (Keep.of_below (S := fun _ => False) hb5 fun _ hk _ => hk).cell z1 id
            have HP5 := Pin.Aside.mk (HP2.out.below hb5)
            have hbw5 := Below.next hbw hb5
            clear hb5 z0 z2 z3 z4
            go_upto_region 24 with fail
            go_region_held3 (fun w' => w'.cell? ⟨U, 1, none⟩ = some (.int .i64 at2)) (first | go_keep | exact hq2 | exact hq3) (first
              | (go_at_call 18
                 with_reducible refine (dev_write b f m D at2 T ⟨ha1, ha2⟩ (by omega) _ HP5.out.dev.drew).mono ?_
                 rintro e w6 ⟨rfl, hd6, hk6⟩
                 have hq2 := hk6.cell (p := ⟨U, 1, none⟩) z1 (fun q => Hux.out _ q rfl)
                 have Hd6 := Pin.Aside.mk hd6
                 have Hr6 := Pin.Aside.mk (ref_off HP5.out.ref.drew hk6 fun k q1 q2 => HP5.out.apart k q2 q1)
                 have Hk6 := Pin.Aside.mk hk6
                 clear hd6 hk6)
              | (go_at_call 28
                 with_reducible refine (ref_write r N O V D at2 T ⟨ha1, ha2⟩ (by omega) _ Hr6.out).mono ?_
                 rintro e w7 ⟨rfl, hr7, hk7⟩
                 have hq3 := hk7.cell (p := ⟨U, 1, none⟩) hq2 (fun q => Huy.out _ q rfl)
                 have Hr7 := Pin.Aside.mk hr7
                 have Hk7 := Pin.Aside.mk hk7
                 clear hr7 hk7))
            go_wp2_with fail
            have hB6 : w.heap.size ≤ w6.heap.size := Nat.le_trans hbw5.size Hk6.out.size
            have hP7 := Pair.step ⟨HP5.out.dev.drew, HP5.out.ref.drew, HP5.out.apart, HP5.out.low1, HP5.out.low2⟩ Hd6.out Hk6.out Hr7.out Hk7.out
            have hb7 := below_keep (below_keep hbw5 hbw5.size (Keep.trans ((Keep.refl _ _).drew) Hk6.out) HP5.out.low1) hB6 Hk7.out HP5.out.low2
            go_roundw
            case rel => exact ⟨k + 1, b, f, m, r, N, O, V, _, by omega, rfl, rfl, by go_num, hP7, hb7⟩
            case measure => simp [intOf]; omega
          · have q2 : (kd % 6 == 2) = false := by rw [hk']; rfl
            have q3 : (kd % 6 == 3) = false := by rw [hk']; rfl
            have q4 : (kd % 6 == 4) = true := by rw [hk']; rfl
            clear hk' hk6
            go_wp2_with fail
            refine (dev_arm b f m D at2 ⟨ha1, ha2⟩ _ HP2.out.dev).mono ?_
            rintro e w5 ⟨rfl, hd5, hk5⟩
            replace z1 := hk5.cell (p := ⟨U, 1, none⟩) z1 (fun q => Hux.out _ q rfl)
            have Hd5 := Pin.Aside.mk hd5
            have Hr5 := Pin.Aside.mk (ref_off HP2.out.ref hk5 fun k q1 q2 => HP2.out.apart k q2 q1)
            have Hk5 := Pin.Aside.mk hk5
            have hb5 := below_keep hbw hBw hk5 HP2.out.low1
            clear hd5 hk5 z0 z2 z3 z4
            go_wp2_with fail
            refine (ref_arm r N O V D at2 ⟨ha1, ha2⟩ _ Hr5.out).mono ?_
            rintro e w6 ⟨rfl, hr6, hk6⟩
            have hP6 := Pair.step HP2.out Hd5.out Hk5.out hr6 hk6
            have hb6 := below_keep hb5 hb5.size hk6 HP2.out.low2
            clear hr6 hk6 z1
            go_wp2_with fail
            go_roundw
            case rel => exact ⟨k + 1, b, f, m, r, N, O, V, _, by omega, rfl, rfl, by go_num, hP6, hb6⟩
            case measure => simp [intOf]; omega
          · have q2 : (kd % 6 == 2) = false := by rw [hk']; rfl
            have q3 : (kd % 6 == 3) = false := by rw [hk']; rfl
            have q4 : (kd % 6 == 4) = false := by rw [hk']; rfl
            have q5 : (kd % 6 == 5) = true := by rw [hk']; rfl
            clear hk' hk6
            go_wp2_with fail
            refine (dev_after' b f m D la L.length lc L rfl _ HP2.out.dev l2 HSl.out).mono ?_
            rintro e w5 ⟨b1, f1, m1, rfl, g1, g2, g3, hd5, hb5⟩
            replace z4 := (Keep.of_below (S := fun _ => False) hb5 fun _ hk _ => hk).cell z4 id
            have Hd5 := Pin.Aside.mk hd5
            have Hr5 := Pin.Aside.mk (HP2.out.ref.below hb5)
            have HS5 := Pin.Aside.mk (HSl.out.below hb5)
            have l1 := hd5.lt
            have hbw5 := Below.next hbw hb5
            clear hd5 hb5 z0 z1 z2 z3
            go_wp2_with fail
            refine (ref_after r N O V D la lc L _ Hr5.out l2 HS5.out).mono ?_
            rintro e w6 ⟨r1, N1, O1, V1, rfl, g4, g5, g6, g7, hr6, hb6⟩
            have hP6 : Pair w6 w.heap.size b1 f1 m1 r1 N1 O1 V1 (dafter D L) := by
              refine ⟨Hd5.out.below hb6, hr6, ?_, ?_, ?_⟩
              · intro k q1 q2
                unfold devS at q1
                unfold refS at q2
                omega
              · intro k q1
                unfold devS at q1
                omega
              · intro k q1
                have := hbw5.size
                unfold refS at q1
                omega
            have HP6 := Pin.Aside.mk hP6
            have hb7 := Below.next hbw5 hb6
            clear hb6 hr6 z4 hP6 g1 g2 g3 g4 g5 g6 g7 l1
            go_wp2_with fail
            go_roundw
            case rel => exact ⟨k + 1, b1, f1, m1, r1, N1, O1, V1, _, by omega, rfl, rfl, by go_num, HP6.out, hb7⟩
            case measure => simp [intOf]; omega
          · have q2 : (kd % 6 == 2) = false := by rw [beq_eq_false_iff_ne]; omega
            have q3 : (kd % 6 == 3) = false := by rw [beq_eq_false_iff_ne]; omega
            have q4 : (kd % 6 == 4) = false := by rw [beq_eq_false_iff_ne]; omega
            have q5 : (kd % 6 == 5) = false := by rw [beq_eq_false_iff_ne]; omega
            clear hk' hk6
            go_wp2_with fail
            clear z0 z3 z4
            go_region_held3 (fun w' => w'.cell? ⟨U, 1, none⟩ = some (.int .i64 at2) ∧ w'.cell? ⟨U, 2, none⟩ = some (.string s)) (first | go_keep | exact hq2 | exact hq3) (first
              | (go_at_call 19
                 with_reducible refine (super_write b f m D at2 s ⟨ha1, ha2⟩ hs63 _ HP2.out.dev.drew).mono ?_
                 rintro e w6 ⟨rfl, hd6, hk6⟩
                 have hq2 := And.intro (hk6.cell (p := ⟨U, 1, none⟩) z1 (fun q => Hux.out _ q rfl)) (hk6.cell (p := ⟨U, 2, none⟩) z2 (fun q => Hux.out _ q rfl))
                 have Hd6 := Pin.Aside.mk hd6
                 have Hr6 := Pin.Aside.mk (ref_off HP2.out.ref.drew hk6 fun k q1 q2 => HP2.out.apart k q2 q1)
                 have Hk6 := Pin.Aside.mk hk6
                 clear hd6 hk6)
              | (go_at_call 31
                 with_reducible refine (superref_write r N O V D at2 s ⟨ha1, ha2⟩ hs63 _ Hr6.out).mono ?_
                 rintro e w7 ⟨rfl, hr7, hk7⟩
                 have hq3 := And.intro (hk7.cell (p := ⟨U, 1, none⟩) hq2.1 (fun q => Huy.out _ q rfl)) (hk7.cell (p := ⟨U, 2, none⟩) hq2.2 (fun q => Huy.out _ q rfl))
                 have Hr7 := Pin.Aside.mk hr7
                 have Hk7 := Pin.Aside.mk hk7
                 clear hr7 hk7))
            go_wp2_with fail
            have hB6 : w.heap.size ≤ w6.heap.size := Nat.le_trans hbw.size Hk6.out.size
            have hP7 := Pair.step ⟨HP2.out.dev.drew, HP2.out.ref.drew, HP2.out.apart, HP2.out.low1, HP2.out.low2⟩ Hd6.out Hk6.out Hr7.out Hk7.out
            have hb7 := below_keep (below_keep hbw hbw.size (Keep.trans ((Keep.refl _ _).drew) Hk6.out) HP2.out.low1) hB6 Hk7.out HP2.out.low2
            go_roundw
            case rel => exact ⟨k + 1, b, f, m, r, N, O, V, _, by omega, rfl, rfl, by go_num, hP7, hb7⟩
            case measure => simp [intOf]; omega
    · have Hp := Pin.Aside.mk hp
      by_cases hlt : k < len
      all_goals
        have hno : k < len → ¬ (k : Int) < 40 := fun q r => hmm ⟨q, r⟩
        first | (have hno2 := hno hlt) | skip
        clear hmm hno
        go_wp2_with fail
        with_reducible refine (dev_image b f m D _ Hp.out.dev).mono ?_
        rintro e w4 ⟨rfl, hb2⟩
        have Hr4 := Pin.Aside.mk (Hp.out.ref.below hb2)
        have hb4 := Below.next hb hb2
        clear hb2
        have Hri := Pin.Aside.mk (ref_image r N O V D _ Hr4.out)
        generalize dimage D = I at *
        go_wp2_with fail
        refine Hri.out.mono ?_
        rintro e w' ⟨rfl, rfl⟩
        go_wp2_with fail
        go_ret
        exact ⟨rfl, hb4⟩
end Go.Proofs.YtpfkpaombiikcaaDoor
