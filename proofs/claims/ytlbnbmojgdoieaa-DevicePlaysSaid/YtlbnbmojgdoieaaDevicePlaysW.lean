/- DevicePlays: its walk. -/
import Derived.Test.YtlbnbmojgdoieaaDoes
import Derived.Test.YtlbnbmojgdoieaaOpens
import Derived.OpenShut
set_option maxRecDepth 16000
namespace Go.Proofs.Ytlbnbmojgdoieaa
open Go.RowKit Go.Pin
set_option linter.unusedVariables false
set_option linter.unusedSimpArgs false
theorem slI_of_ints {w : World} {a : Option Addr} {B : Nat} {zs : List Int} {n : Nat} (hn : n = zs.length) (h : 0 < n → ∃ g, a = some ⟨g, 0, none⟩ ∧ B ≤ g ∧ IntsAt w g 0 zs) : SlI w a zs := fun q => by
  obtain ⟨g, ha, _, hi⟩ := h (by omega)
  exact ⟨g, 0, ha, hi⟩
/-- A slice of whole numbers that came in holds some numbers. -/
theorem slI_of_open {w : World} {a : Option Addr} {len cap : Nat} (h : isSlice [isInt .i64] w (.slice a len cap)) : ∃ L : List Int, L.length = len ∧ len ≤ 9223372036854775807 ∧ SlI w a L := by
  obtain ⟨a', len', cap', he, h1, h2, hc⟩ := h
  cases he
  have hall : ∀ i, i < len → ∃ z : Int, ∀ b o, a = some ⟨b, o, none⟩ → w.cell? ⟨b, o + i, none⟩ = some (.int .i64 z) := by
    intro i hi
    obtain ⟨b, o, rfl, hcc⟩ := hc (by omega)
    obtain ⟨x, hx, z, rfl, _⟩ := hcc i hi 0 _ rfl
    refine ⟨z, fun b' o' e => ?_⟩
    cases e
    simpa using hx
  refine ⟨(List.range len).map fun i => if hi : i < len then (hall i hi).choose else 0, by simp, by omega, fun hp => ?_⟩
  have hl : 0 < len := by simpa using hp
  obtain ⟨b, o, rfl, hcc⟩ := hc hl
  refine ⟨b, o, rfl, fun i hi => ?_⟩
  have hi' : i < len := by simpa using hi
  have := (hall i hi').choose_spec b o rfl
  rw [this]
  simp [List.getD, hi']
theorem law03_same' (a b : Option Addr) (c c' n : Nat) (zs : List Int) (hn : n = zs.length) (hz : zs.length ≤ 4096) (w : World) (h : SlI w a zs) (h' : SlI w b zs) :
    Calls Try.prog 31 #[.slice a n c, .slice b n c'] w fun e w' => e = .returned (.bool true) ∧ Below w.heap.size w w' := by
  subst hn; exact law03_same a b c c' zs hz w h h'
/-- Some device is left, on both sides. -/
def DoesSome (B : Nat) (w : World) (e : Ending) (w' : World) : Prop := ∃ D1, DoesTo B D1 w e w'
theorem does_any (B b f m r N O V : Nat) (D : Dv) (k at' : Int) (s : ByteArray) (a : Option Addr) (n c : Nat) (w : World) (hk : 0 ≤ k ∧ k ≤ 255) (hat : -9223372036854775808 ≤ at' ∧ at' ≤ 9223372036854775807) (hs : s.size ≤ 9223372036854775807)
    (hL : ∃ L : List Int, L.length = n ∧ n ≤ 9223372036854775807 ∧ SlI w a L) (hp : Pair w B b f m r N O V D) (hB : B ≤ w.heap.size) :
    Calls Try.prog 30 #[.pointer (some ⟨b, 0, none⟩), .pointer (some ⟨r, 0, none⟩), .agg #[.int .u8 k, .int .i64 at', .string s, .slice a n c]] w (DoesSome B w) := by
  obtain ⟨L, rfl, hl, hL⟩ := hL
  have ht : 0 ≤ k.tmod 8 ∧ k.tmod 8 < 8 := by rw [Int.tmod_eq_emod_of_nonneg hk.1]; omega
  generalize hj : k.tmod 8 = j at ht
  rcases (show j = 3 ∨ j = 4 ∨ j = 5 ∨ j = 6 ∨ j = 7 ∨ (j = 0 ∨ j = 1 ∨ j = 2) by omega) with rfl | rfl | rfl | rfl | rfl | h
  · exact (does_read B b f m r N O V D k at' s a L.length c w (by rw [hj]; rfl) hat hp hB).mono fun _ _ h => ⟨_, h⟩
  · exact (does_flush B b f m r N O V D k at' s a L.length c w (by rw [hj]; rfl) (by rw [hj]; rfl) hp hB).mono fun _ _ h => ⟨_, h⟩
  · exact (does_arm B b f m r N O V D k at' s a L.length c w (by rw [hj]; rfl) (by rw [hj]; rfl) (by rw [hj]; rfl) hat hp hB).mono fun _ _ h => ⟨_, h⟩
  · exact (does_after B b f m r N O V D k at' s a c w L (by rw [hj]; rfl) (by rw [hj]; rfl) (by rw [hj]; rfl) (by rw [hj]; rfl) hL hl hp hB).mono fun _ _ h => ⟨_, h⟩
  · exact (does_of B b f m r N O V D k at' s a L.length c w (by rw [hj]; rfl) (by rw [hj]; rfl) (by rw [hj]; rfl) (by rw [hj]; rfl) (by rw [hj]; rfl) hp hB).mono fun _ _ h => ⟨_, h⟩
  · have q : ∀ x : Int, x ∈ [3, 4, 5, 6, 7] → (k.tmod 8 == x) = false := by
      intro x hx
      rw [hj, beq_eq_false_iff_ne]
      simp only [List.mem_cons, List.not_mem_nil, or_false] at hx
      omega
    exact (does_write B b f m r N O V D k at' s a L.length c w (q 3 (by simp)) (q 4 (by simp)) (q 5 (by simp)) (q 6 (by simp)) (q 7 (by simp)) hat hs hp hB).mono fun _ _ h => ⟨_, h⟩
set_option maxHeartbeats 3200000 in
theorem devicePlays_bad (n : Int) (N : Int) (x : Bool) (hN : (if x = true then n.tmod 21 else n) = N) (hb : N < 1 ∨ 4096 < N) (a : Option Addr) (len cap : Nat) (w : World) :
    Calls Try.prog 9 #[.int .i64 n, .bool x, .slice a len cap] w fun e w' => e = .returned (.bool true) ∧ Below w.heap.size w w' := by
  have hbb := Below.refl w.heap.size w
  cases x with
  | true =>
    rw [if_pos rfl] at hN
    go_enter Try.func9, Try.ntmps9
    go_wp2_with fail
    with_reducible refine (dev_examples _).mono ?_
    rintro e w1 ⟨rfl, hb1⟩
    go_wp2_with fail
    with_reducible refine (dev_new_no N hb _).mono ?_
    rintro e w' ⟨rfl, rfl⟩
    go_wp2_with fail
    with_reducible refine (ref_new_bad N hb _).mono ?_
    rintro e w' ⟨rfl, rfl⟩
    go_wp2_with fail
    go_ret
    exact ⟨rfl, hb1⟩
  | false =>
    rw [if_neg (by simp)] at hN
    subst hN
    go_enter Try.func9, Try.ntmps9
    go_wp2_with fail
    with_reducible refine (dev_examples _).mono ?_
    rintro e w1 ⟨rfl, hb1⟩
    go_wp2_with fail
    with_reducible refine (dev_new_no n hb _).mono ?_
    rintro e w' ⟨rfl, rfl⟩
    go_wp2_with fail
    with_reducible refine (ref_new_bad n hb _).mono ?_
    rintro e w' ⟨rfl, rfl⟩
    go_wp2_with fail
    go_ret
    exact ⟨rfl, hb1⟩
set_option maxHeartbeats 3200000 in
set_option maxRecDepth 32000 in
theorem devicePlays_good (n : Int) (N : Nat) (x : Bool) (hN : (if x = true then n.tmod 21 else n) = (N : Int)) (hN1 : 1 ≤ N) (hN2 : N ≤ 4096) (a : Option Addr) (len cap : Nat) (w : World) (h : isSlice [isInt .u8, isInt .i64, isStr, isSlice [isInt .i64]] w (.slice a len cap)) :
    Calls Try.prog 9 #[.int .i64 n, .bool x, .slice a len cap] w fun e w' => e = .returned (.bool true) ∧ Below w.heap.size w w' := by
  obtain ⟨_, _, _, h1, hlc, hcap, hdeeds⟩ := h
  cases h1
  have hlen : len ≤ 9223372036854775807 := by omega
  have hse := str_beq
  have hb := Below.refl w.heap.size w
  have Hd := Aside.mk hdeeds
  clear hdeeds
  go_enter Try.func9, Try.ntmps9
  go_wp2_with fail
  with_reducible refine (dev_examples _).mono ?_
  rintro e w1 ⟨rfl, hbb⟩
  replace hb := Below.next hb hbb
  clear hbb
  go_upto_if 21 with fail
  go_cut [0] (fun v wx => v = .int .i64 (N : Int) ∧ wx = w1)
  case first =>
    cases x with
    | true =>
      rw [if_pos rfl] at hN
      go_wp2_with fail
      go_meet
      exact ⟨rfl, rfl⟩
    | false =>
      rw [if_neg (by simp)] at hN
      subst hN
      go_wp2_with fail
      go_meet
      exact ⟨rfl, rfl⟩
  case rest =>
    obtain ⟨rfl, rfl⟩ := hcut
    clear hN
    go_wp2_with fail
    with_reducible refine (dev_new' _ N rfl hN1 hN2 _).mono ?_
    rintro e w2 ⟨b0, f0, m0, rfl, e1, e2, e3, hd2, hb2⟩
    have Hd2 := Aside.mk hd2
    have hB2 := hb.size
    replace e1 := Nat.le_trans hB2 e1
    replace e2 := Nat.le_trans hB2 e2
    replace e3 := Nat.le_trans hB2 e3
    replace hb := Below.next hb hb2
    have l2 := hd2.lt
    clear hb2 hd2
    go_wp2_with fail
    with_reducible refine (ref_new N hN1 hN2 _).mono ?_
    rintro e w3 ⟨r0, n0, o0, v0, rfl, g1, g2, g3, g4, hr3, hb3⟩
    have hp : Pair w3 w.heap.size b0 f0 m0 r0 n0 o0 v0 (dnew N) := by
      refine ⟨Hd2.out.below hb3, hr3, ?_, ?_, ?_⟩
      · intro k q1 q2
        unfold devS at q1
        unfold refS at q2
        omega
      · intro k q1
        unfold devS at q1
        omega
      · intro k q1
        unfold refS at q1
        omega
    have Hp := Aside.mk hp
    replace hb := Below.next hb hb3
    clear hb3 hr3 hp e1 e2 e3 g1 g2 g3 g4 l2 hB2
    go_upto_if 49 with fail
    go_cut [11] (fun v wx => ∃ M : Int, 0 ≤ M ∧ M ≤ 60 ∧ v = .int .i64 M ∧ wx = w3)
    case first =>
      by_cases h100 : (100 : Int) < (N : Int)
      · go_wp2_with fail
        go_meet
        exact ⟨5, by omega, by omega, rfl, rfl⟩
      · go_wp2_with fail
        go_meet
        exact ⟨60, by omega, by omega, rfl, rfl⟩
    case rest =>
      obtain ⟨M, hM0, hM1, rfl, rfl⟩ := hcut
      go_wp2_with fail
      go_loopw [8, 10, 12] (fun d x i wr => ∃ (k b f m r N O V : Nat) (D : Dv), k ≤ len ∧ d = .pointer (some ⟨b, 0, none⟩) ∧ x = .pointer (some ⟨r, 0, none⟩) ∧ i = .int .i64 k ∧ Pair wr w.heap.size b f m r N O V D ∧ Below w.heap.size w wr) (fun _ _ i _ => len - (intOf i).toNat)
      case atStart => exact ⟨0, b0, f0, m0, r0, n0, o0, v0, _, by omega, rfl, rfl, rfl, Hp.out, hb⟩
      case round =>
        clear hb Hp Hd2
        obtain ⟨k, b, f, m, r, N, O, V, D, hk, rfl, rfl, rfl, hp, hb⟩ := hrel
        by_cases hlt : k < len
        · by_cases hmm : (k : Int) < M
          · obtain ⟨db, dO, rfl, hc⟩ := Hd.out (by omega)
            have hkw : Keep (fun _ => False) w wr := Keep.of_below hb fun _ hk _ => hk
            obtain ⟨_, c0, kd, rfl, kb⟩ := hc k hlt 0 _ rfl
            obtain ⟨_, c1, at', rfl, ab⟩ := hc k hlt 1 _ rfl
            obtain ⟨_, c2, s, rfl, sb⟩ := hc k hlt 2 _ rfl
            obtain ⟨_, c3, hL⟩ := hc k hlt 3 _ rfl
            obtain ⟨la, ln, lc, rfl, hL1⟩ := hL
            replace kb := bounds_u8 kb
            replace ab := bounds_i64 ab
            replace c0 := hkw.cell c0 id
            replace c1 := hkw.cell c1 id
            replace c2 := hkw.cell c2 id
            replace c3 := hkw.cell c3 id
            replace c0 : wr.cell? ⟨db, dO + k * 4, none⟩ = _ := c0
            replace c1 : wr.cell? ⟨db, dO + k * 4 + 1, none⟩ = _ := c1
            replace c2 : wr.cell? ⟨db, dO + k * 4 + 2, none⟩ = _ := c2
            replace c3 : wr.cell? ⟨db, dO + k * 4 + 3, none⟩ = _ := c3
            have hk0 : (0 : Int) ≤ (k : Int) := by omega
            have hk1 : (k : Int) < (len : Int) := by omega
            have HL := Aside.mk (slI_of_open (w := w) (cap := lc) ⟨la, ln, lc, rfl, hL1⟩)
            have Hp := Aside.mk hp
            have Hkw := Aside.mk hkw
            clear hc hL1 hp hkw
            go_upto_region 19 with fail
            have cu : ∀ i, (wr.alloc (.cells #[.int .u8 kd, .int .i64 at', .string s, .slice la ln lc] 50)).cell? ⟨wr.heap.size, i, none⟩ = (#[.int .u8 kd, .int .i64 at', .string s, .slice la ln lc] : Array Value)[i]? := fun i => World.cell?_alloc_at _ _ _ _ rfl
            have fu : (wr.alloc (.cells #[.int .u8 kd, .int .i64 at', .string s, .slice la ln lc] 50)).frozen? ⟨wr.heap.size, 1, none⟩ = false := World.frozen?_alloc_at _ _ _ _ rfl
            have hbu : Below wr.heap.size wr (wr.alloc (.cells #[.int .u8 kd, .int .i64 at', .string s, .slice la ln lc] 50)) := (Below.refl _ _).alloc (Nat.le_refl _) _
            have hpu := Hp.out.below hbu
            have hBw := hb.size
            have hux : ∀ k, devS b f m k → k ≠ wr.heap.size := fun k hk => Nat.ne_of_lt (Hp.out.lt1 hk)
            have huy : ∀ k, refS r N O V k → k ≠ wr.heap.size := fun k hk => Nat.ne_of_lt (Hp.out.lt2 hk)
            have y0 := cu 0
            have y1 := cu 1
            have y2 := cu 2
            have y3 := cu 3
            replace y0 : _ = some (Value.int .u8 kd) := y0
            replace y1 : _ = some (Value.int .i64 at') := y1
            replace y2 : _ = some (Value.string s) := y2
            replace y3 : _ = some (Value.slice la ln lc) := y3
            replace hb := hb.trans (hbu.mono hBw)
            have Hpu := Aside.mk hpu
            have Hux := Aside.mk hux
            have Huy := Aside.mk huy
            have Hab := Aside.mk ab
            have Hsb := Aside.mk sb
            have HBw := Aside.mk hBw
            clear cu hbu hpu hux huy c0 c1 c2 c3 Hp ab sb hBw
            generalize (wr.alloc (.cells #[.int .u8 kd, .int .i64 at', .string s, .slice la ln lc] 50)) = wu at *
            generalize wr.heap.size = U at *
            go_cut [78] from 50 to 130 (fun c wx => ∃ bb : Bool, c = .bool bb ∧ (bb = true → 0 ≤ at') ∧ wx = wu)
            case first =>
              by_cases q0 : 0 ≤ at'
              · by_cases q1 : at' < 4096
                · by_cases q2 : kd % 8 = 5
                  · have q2b : (kd % 8 != 5) = false := by simp [q2]
                    go_wp2_with fail
                    go_meet
                    exact ⟨false, rfl, fun h => (by cases h), rfl⟩
                  · have q2b : (kd % 8 != 5) = true := by simp [q2]
                    go_wp2_with fail
                    go_meet
                    exact ⟨true, rfl, fun _ => q0, rfl⟩
                · go_wp2_with fail
                  go_meet
                  exact ⟨false, rfl, fun h => (by cases h), rfl⟩
              · go_wp2_with fail
                go_meet
                exact ⟨false, rfl, fun h => (by cases h), rfl⟩
            case rest =>
              obtain ⟨bb, rfl, hbb, rfl⟩ := hcut
              have Hbb := Aside.mk hbb
              clear hbb
              go_upto_if 78 with fail
              go_cut [] from 50 to 130 (fun wx => ∃ at2 : Int, -9223372036854775808 ≤ at2 ∧ at2 ≤ 9223372036854775807 ∧ wx.cell? ⟨U, 0, none⟩ = some (.int .u8 kd) ∧ wx.cell? ⟨U, 1, none⟩ = some (.int .i64 at2) ∧ wx.cell? ⟨U, 2, none⟩ = some (.string s) ∧ wx.cell? ⟨U, 3, none⟩ = some (.slice la ln lc) ∧ Keep (fun k => k = U) wc wx)
              case first =>
                cases bb with
                | true =>
                  obtain ⟨x0, p0, t0, r0⟩ := Hpu.out.ref.c0
                  have hn2 := Hpu.out.ref.ok.n2
                  have hw1 : IntKind.i64.wrap ((D.n : Int) + 1) = (D.n : Int) + 1 := by rw [IntKind.wrap_i64]; omega
                  have q0 := Hbb.out rfl
                  have hz : ((D.n : Int) + 1 == 0) = false := by rw [beq_eq_false_iff_ne]; omega
                  have hks : Keep (fun k => k = U) wc (wc.setCell ⟨U, 1, none⟩ (.int .i64 (at' % ((D.n : Int) + 1)))).drew := ((Keep.refl (fun k => k = U) wc).setCell (p := ⟨U, 1, none⟩) (.inl rfl) _).drew
                  have hs1 : (wc.setCell ⟨U, 1, none⟩ (.int .i64 (at' % ((D.n : Int) + 1)))).drew.cell? ⟨U, 1, none⟩ = some (.int .i64 (at' % ((D.n : Int) + 1))) := World.cell?_setCell_same _ _ _ y1
                  have hs0 : (wc.setCell ⟨U, 1, none⟩ (.int .i64 (at' % ((D.n : Int) + 1)))).drew.cell? ⟨U, 0, none⟩ = some (.int .u8 kd) := (World.cell?_setCell_other wc ⟨U, 1, none⟩ ⟨U, 0, none⟩ _ (by simp)).trans y0
                  have hs2 : (wc.setCell ⟨U, 1, none⟩ (.int .i64 (at' % ((D.n : Int) + 1)))).drew.cell? ⟨U, 2, none⟩ = some (.string s) := (World.cell?_setCell_other wc ⟨U, 1, none⟩ ⟨U, 2, none⟩ _ (by simp)).trans y2
                  have hs3 : (wc.setCell ⟨U, 1, none⟩ (.int .i64 (at' % ((D.n : Int) + 1)))).drew.cell? ⟨U, 3, none⟩ = some (.slice la ln lc) := (World.cell?_setCell_other wc ⟨U, 1, none⟩ ⟨U, 3, none⟩ _ (by simp)).trans y3
                  have Hs := Aside.mk (And.intro hs0 (And.intro hs1 (And.intro hs2 (And.intro hs3 hks))))
                  clear hs0 hs1 hs2 hs3 hks
                  have hm0 : 0 ≤ at' % ((D.n : Int) + 1) := Int.emod_nonneg _ (by omega)
                  have hm1 : at' % ((D.n : Int) + 1) < (D.n : Int) + 1 := Int.emod_lt_of_pos _ (by omega)
                  have Hm := Aside.mk (And.intro hm0 hm1)
                  clear hm0 hm1
                  go_upto_region 20 with fail
                  go_region
                  all_goals
                    go_wp2_with fail
                    go_meet
                    exact ⟨at' % ((D.n : Int) + 1), by have := Hm.out; omega, by have := Hm.out; omega, Hs.out.1, Hs.out.2.1, Hs.out.2.2.1, Hs.out.2.2.2.1, Hs.out.2.2.2.2⟩
                | false =>
                  go_wp2_with fail
                  go_meet
                  exact ⟨at', Hab.out.1, Hab.out.2, y0, y1, y2, y3, Keep.refl _ _⟩
              case rest =>
                obtain ⟨at2, ha1, ha2, z0, z1, z2, z3, hku⟩ := hcut
                have hP2 : Pair wc w.heap.size b f m r N O V D := ⟨dev_off Hpu.out.dev hku fun k hk => Hux.out k hk, ref_off Hpu.out.ref hku fun k hk => Huy.out k hk, Hpu.out.apart, Hpu.out.low1, Hpu.out.low2⟩
                have hbw := hb.trans (hku.below hb.size fun k q => by rw [q]; exact HBw.out)
                have hBw := hbw.size
                have hLL : ∃ L : List Int, L.length = ln ∧ ln ≤ 9223372036854775807 ∧ SlI wc la L := by
                  obtain ⟨L, l1, l2, l3⟩ := HL.out
                  exact ⟨L, l1, l2, l3.below hbw⟩
                have hs63 : s.size ≤ 9223372036854775807 := by have := Hsb.out; omega
                have HLL := Aside.mk hLL
                have HP2 := Aside.mk hP2
                clear y0 y1 y2 y3 fu hb hku HL Hpu Hux Huy Hab Hsb HBw Hbb Hkw hP2 hLL
                go_wp2_with fail
                with_reducible refine (does_any w.heap.size b f m r N O V D kd at2 s la ln lc _ kb ⟨ha1, ha2⟩ hs63 HLL.out HP2.out hBw).mono ?_
                rintro e w5 ⟨D1, b1, f1, m1, r1, N1, O1, V1, rfl, hp5, hb5⟩
                replace hb5 := hbw.trans hb5
                clear hbw HP2 HLL z0 z1 z2 z3
                go_wp2_with fail
                with_reducible refine (dev_waiting b1 f1 m1 D1 _ hp5.dev).mono ?_
                rintro e w6 ⟨wa, wcap, rfl, hw6, hb6⟩
                have Hp6 := Aside.mk (hp5.below hb6)
                have hl6 : (dwaiting D1).length = (dwaitI D1).length := (dwait_len D1).symm
                have Hs6 := Aside.mk (slI_of_ints hl6 hw6)
                have hwn : (dwaitI D1).length ≤ 4096 := by have := dwaiting_le D1; have := hp5.dev.ok.n2; omega
                replace hb5 := hb5.trans (hb6.mono hb5.size)
                have Hl6 := Aside.mk hl6
                clear hb6 hw6 hp5 hl6
                generalize hwe : (dwaiting D1).length = wn at *
                have Hwe := Aside.mk hwe
                clear hwe
                go_wp2_with fail
                with_reducible refine (ref_waiting r1 N1 O1 V1 D1 _ Hp6.out.ref).mono ?_
                rintro e w7 ⟨wb, wcap2, rfl, hw7, hb7⟩
                rw [Hwe.out] at hw7 ⊢
                have Hp7 := Aside.mk (Hp6.out.below hb7)
                have Hs7 := Aside.mk (slI_of_ints Hl6.out hw7)
                have Hs67 := Aside.mk (Hs6.out.below hb7)
                replace hb5 := hb5.trans (hb7.mono hb5.size)
                clear hb7 hw7
                go_wp2_with fail
                with_reducible refine (law03_same' wa wb wcap wcap2 wn _ Hl6.out hwn _ Hs67.out Hs7.out).mono ?_
                rintro e w8 ⟨rfl, hb8⟩
                have Hp8 := Aside.mk (Hp7.out.below hb8)
                replace hb5 := hb5.trans (hb8.mono hb5.size)
                clear hb8 Hs6 Hs7 Hs67
                obtain ⟨x0, p0, t0, r0⟩ := Hp8.out.ref.c0
                have r4 := Hp8.out.ref.c4
                obtain ⟨dd, hdd⟩ : ∃ dd, D1.dead = dd := ⟨_, rfl⟩
                have Hdd := Aside.mk hdd
                rw [hdd] at r4
                have hc1 : ∀ j, Calls Try.prog 27 #[.pointer (some ⟨b1, 0, none⟩)] (w8.drewN j) fun e w' => e = .returned (.bool dd) ∧ w' = w8.drewN j := fun j => by have := dev_crashed b1 f1 m1 D1 _ (Hp8.out.dev.drewN j); rw [hdd] at this; exact this
                have Hc1 := Aside.mk hc1
                have h1 : (dd != dd) = false := by simp
                have h2 : ((D1.n : Int) != (D1.n : Int)) = false := by simp
                clear hc1 hdd
                go_wp2_with fail
                go_quiet (first | (go_at_call 27; exact Calls.quiet_of_same (Hc1.out _)) | (go_at_call 20; exact Calls.quiet_of_same (dev_sectors b1 f1 m1 D1 _ (Hp8.out.dev.drewN _))))
                go_wp2_with fail
                go_roundw
                case rel => exact ⟨k + 1, b1, f1, m1, r1, N1, O1, V1, D1, by omega, rfl, rfl, by go_num, ⟨Hp8.out.dev.drewN _, Hp8.out.ref.drewN _, Hp8.out.apart, Hp8.out.low1, Hp8.out.low2⟩, hb5.trans (below_drewN (Below.refl _ _) _)⟩
                case measure => simp [intOf]; omega
          · have Hp := Aside.mk hp
            go_wp2_with fail
            with_reducible refine (dev_image b f m D _ hp.dev).mono ?_
            rintro e w4 ⟨rfl, hb2⟩
            have Hr4 := Aside.mk (hp.ref.below hb2)
            replace hb := Below.next hb hb2
            clear hb2 hp
            generalize hI : dimage D = I at *
            have HI := Aside.mk hI
            clear hI
            go_wp2_with fail
            with_reducible refine (ref_image r N O V D _ Hr4.out).mono ?_
            rw [HI.out]
            rintro e w' ⟨rfl, rfl⟩
            go_wp2_with fail
            go_ret
            exact ⟨rfl, hb⟩
        · have Hp := Aside.mk hp
          go_wp2_with fail
          with_reducible refine (dev_image b f m D _ hp.dev).mono ?_
          rintro e w4 ⟨rfl, hb2⟩
          have Hr4 := Aside.mk (hp.ref.below hb2)
          replace hb := Below.next hb hb2
          clear hb2 hp
          generalize hI : dimage D = I at *
          have HI := Aside.mk hI
          clear hI
          go_wp2_with fail
          with_reducible refine (ref_image r N O V D _ Hr4.out).mono ?_
          rw [HI.out]
          rintro e w' ⟨rfl, rfl⟩
          go_wp2_with fail
          go_ret
          exact ⟨rfl, hb⟩
theorem devicePlays_walk (n : Int) (x : Bool) (a : Option Addr) (len cap : Nat) (w : World) (hn : -9223372036854775808 ≤ n ∧ n ≤ 9223372036854775807) (h : isSlice [isInt .u8, isInt .i64, isStr, isSlice [isInt .i64]] w (.slice a len cap)) :
    Calls Try.prog 9 #[.int .i64 n, .bool x, .slice a len cap] w fun e w' => e = .returned (.bool true) ∧ Below w.heap.size w w' := by
  obtain ⟨N, hN⟩ : ∃ N, (if x = true then n.tmod 21 else n) = N := ⟨_, rfl⟩
  by_cases hb : N < 1 ∨ 4096 < N
  · exact devicePlays_bad n N x hN hb a len cap w
  · obtain ⟨K, rfl⟩ := Int.eq_ofNat_of_zero_le (show 0 ≤ N by omega)
    exact devicePlays_good n K x hN (by omega) (by omega) a len cap w h
end Go.Proofs.Ytlbnbmojgdoieaa
