/- RlogNewer: the walk. -/
import Derived.Test.YthlmigbimeldbaaRsY
import Derived.Test.YthlmigbimeldbaaRsF
import Derived.Test.YthlmigbimeldbaaRsO
set_option maxRecDepth 16000
namespace Go.Pin
open Go.RowKit
set_option linter.unusedVariables false
set_option linter.unusedSimpArgs false
/-- A log that rises: its places follow its base, its terms lie in bounds. -/
structure Lg.neat (g : Lg) : Prop where
  base : 0 ≤ g.base ∧ g.base ≤ 99
  bt : 0 ≤ g.bt ∧ g.bt ≤ 2
  len : g.l.length ≤ 10
  index : ∀ (k : Nat) (e : En), g.l[k]? = some e → e.index = g.base + k + 1
  term : ∀ e ∈ g.l, 0 ≤ e.term ∧ e.term ≤ 200
theorem lgRise_get : ∀ (L : List En) (t : Int) (k : Nat) (e : En), (lgRise t L)[k]? = some e → ∃ x, L[k]? = some x ∧ e = { x with term := lgTop t (L.take (k + 1)) }
  | [], t, k, e, h => by simp [lgRise] at h
  | y :: L, t, 0, e, h => by
    simp [lgRise] at h
    exact ⟨y, rfl, by rw [← h]; rfl⟩
  | y :: L, t, k + 1, e, h => by
    obtain ⟨x, hx, he⟩ := lgRise_get L (t + y.term % 3 / 2) k e (by simpa [lgRise] using h)
    exact ⟨x, by simpa using hx, he⟩
theorem lgRising_neat (M : List (En × Bool)) (base term : Int) (h1 : 0 ≤ base) (h2 : 0 ≤ term) : (lgRising M base term 10).neat := by
  have hlen : (lgLogged (base % 100) (M.take 10)).length ≤ 10 := by rw [lgLogged_len, List.length_take]; omega
  refine ⟨by show 0 ≤ base % 100 ∧ base % 100 ≤ 99; omega, by show 0 ≤ term % 3 ∧ term % 3 ≤ 2; omega, by show (lgRise _ _).length ≤ 10; rw [lgRise_len]; exact hlen, fun k e he => ?_, fun e he => ?_⟩
  · obtain ⟨x, hx, rfl⟩ := lgRise_get _ _ _ _ he
    unfold lgLogged at hx
    rw [List.getElem?_mapIdx] at hx
    cases hq : (M.take 10)[k]? with
    | none => rw [hq] at hx; cases hx
    | some y =>
      rw [hq] at hx
      simp only [Option.map_some, Option.some.injEq] at hx
      subst hx; rfl
  · obtain ⟨k, hk⟩ := List.getElem?_of_mem he
    obtain ⟨x, hx, rfl⟩ := lgRise_get _ _ _ _ hk
    have h3 := lgTop_le ((lgLogged (base % 100) (M.take 10)).take (k + 1)) (max (term % 3) 1)
    have h4 : ((lgLogged (base % 100) (M.take 10)).take (k + 1)).length ≤ 10 := by rw [List.length_take]; omega
    dsimp only
    omega
theorem Lg.neat.last {g : Lg} (h : g.neat) : 0 ≤ g.last.1 ∧ g.last.1 ≤ 200 ∧ 0 ≤ g.last.2 ∧ g.last.2 ≤ 200 ∧ g.last.1 = g.base + g.l.length := by
  have hb := h.base
  have ht := h.bt
  have hl := h.len
  unfold Lg.last
  cases hq : g.l.getLast? with
  | none =>
    have : g.l = [] := List.getLast?_eq_none_iff.1 hq
    rw [this]; dsimp only; simp; omega
  | some e =>
    have hm := List.mem_of_getLast? hq
    rw [List.getLast?_eq_getElem?] at hq
    have hi := h.index _ e hq
    have h2 := h.term e hm
    have h3 := (List.getElem?_eq_some_iff.1 hq).1
    dsimp only
    omega
theorem newer_law (X Y : Lg) : (X.newer Y.last.1 Y.last.2 || Y.newer X.last.1 X.last.2) = true ∧ ((X.newer Y.last.1 Y.last.2 && Y.newer X.last.1 X.last.2) = (decide (X.last.1 = Y.last.1) && decide (X.last.2 = Y.last.2))) ∧ X.newer X.last.1 X.last.2 = true ∧ X.newer (X.last.1 + 1) X.last.2 = true ∧ X.newer 0 (X.last.2 + 1) = true := by
  unfold Lg.newer
  generalize X.last.1 = i
  generalize X.last.2 = t
  generalize Y.last.1 = j
  generalize Y.last.2 = u
  refine ⟨?_, ?_, ?_, ?_, ?_⟩
  · simp only [Bool.or_eq_true, Bool.and_eq_true, decide_eq_true_eq]; omega
  · rw [Bool.eq_iff_iff]; simp only [Bool.or_eq_true, Bool.and_eq_true, decide_eq_true_eq]; omega
  · simp
  · rw [show decide (i ≤ i + 1) = true from decide_eq_true (by omega)]; simp
  · rw [show decide (t < t + 1) = true from decide_eq_true (by omega)]; simp
end Go.Pin
namespace Go.Proofs.Ythlmigbimeldbaa
open Go.RowKit Go.Pin
set_option linter.unusedVariables false
set_option linter.unusedSimpArgs false
set_option maxHeartbeats 3200000 in
theorem rlogNewer_walk (a0 : Option Addr) (len0 cap0 : Nat) (a1 : Option Addr) (len1 cap1 : Nat) (base term : Int) (w : World) (H0 : isSlice madePs w (.slice a0 len0 cap0)) (H1 : isSlice madePs w (.slice a1 len1 cap1)) (hb0 : 0 ≤ base ∧ base ≤ 18446744073709551615) (ht0 : 0 ≤ term ∧ term ≤ 18446744073709551615) :
    Calls Try.prog 5 #[.slice a0 len0 cap0, .slice a1 len1 cap1, .int .u64 base, .int .u64 term] w fun e w' => e = .returned (.bool true) ∧ Below w.heap.size w w' := by
  obtain ⟨M0, hM0⟩ := mades_of_slice H0
  obtain ⟨M1, hM1⟩ := mades_of_slice H1
  have h10 : ((10 : Nat) : Int) = 10 := rfl
  have G0 := Pin.Aside.mk (fun W hW => mk_rising M0 base term hb0 ht0 10 (by omega) a0 len0 cap0 W hW)
  have G1 := Pin.Aside.mk (fun W hW => mk_rising M1 base term hb0 ht0 10 (by omega) a1 len1 cap1 W hW)
  have HM0 := Pin.Aside.mk hM0
  have HM1 := Pin.Aside.mk hM1
  have N0 := Pin.Aside.mk (lgRising_neat M0 base term hb0.1 ht0.1)
  have N1 := Pin.Aside.mk (lgRising_neat M1 base term hb0.1 ht0.1)
  generalize lgRising M0 base term 10 = X at *
  generalize lgRising M1 base term 10 = Y at *
  clear H0 H1 hM0 hM1 h10
  have hb := Below.refl w.heap.size w
  have hB0 : w.heap.size = w.heap.size := rfl
  have He := Pin.Aside.mk (mk_examples w)
  generalize hB : w.heap.size = B at hb hB0 He ⊢
  clear hB0
  go_enter Try.func5, Try.ntmps5
  go_wp2_with fail
  refine He.out.mono ?_
  rintro x w1 ⟨rfl, hbb⟩
  replace hb := hb.trans hbb
  clear hbb He
  go_wp2_with fail
  refine (G0.out w1 (HM0.out.below (by rw [hB]; exact hb))).mono ?_
  rintro x w2 ⟨⟨p0, n0, c0, rfl, hO0⟩, hbb⟩
  replace hb := hb.trans (hbb.mono (by first | exact hb.size | (rw [← hB]; exact hb.size)))
  have hE0 := Pin.Aside.mk (OwnE.ents hO0).1
  have hn0 : n0 ≤ 10 := by rw [← hE0.out.len]; exact N0.out.len
  clear hbb hO0
  have hka := (Keep.refl (fun _ => False) w2).alloc (.cells #[.int .u64 X.base, .int .u64 X.bt, .slice p0 n0 c0] 27)
  obtain ⟨xb, xt, xs⟩ := LgCells.new w2 27 X p0 n0 c0
  replace hb := hb.trans (hka.below (by first | exact hb.size | (rw [← hB]; exact hb.size)) fun _ q => q.elim)
  replace hE0 := Pin.Aside.mk (hE0.out.keep' hka)
  clear hka
  go_upto_region 5 with fail
  generalize World.alloc w2 _ = w3 at *
  generalize w2.heap.size = BX at *
  go_wp2_with fail
  refine (G1.out w3 (HM1.out.below (by rw [hB]; exact hb))).mono ?_
  rintro x w4 ⟨⟨p1, n1, c1, rfl, hO1⟩, hbb⟩
  have hE1 := Pin.Aside.mk (OwnE.ents hO1).1
  have hn1 : n1 ≤ 10 := by rw [← hE1.out.len]; exact N1.out.len
  have hkk : Keep (fun _ => False) w3 w4 := Keep.of_below hbb fun _ q _ => q
  replace xb := hkk.cell xb id
  replace xt := hkk.cell xt id
  replace xs := hkk.cell xs id
  replace hb := hb.trans (hbb.mono (by first | exact hb.size | (rw [← hB]; exact hb.size)))
  replace hE0 := Pin.Aside.mk (hE0.out.below hbb)
  clear hbb hkk
  clear hO1
  have hka := (Keep.refl (fun _ => False) w4).alloc (.cells #[.int .u64 Y.base, .int .u64 Y.bt, .slice p1 n1 c1] 27)
  obtain ⟨yb, yt, ys⟩ := LgCells.new w4 27 Y p1 n1 c1
  replace xb := hka.cell xb id
  replace xt := hka.cell xt id
  replace xs := hka.cell xs id
  replace hb := hb.trans (hka.below (by first | exact hb.size | (rw [← hB]; exact hb.size)) fun _ q => q.elim)
  replace hE0 := Pin.Aside.mk (hE0.out.keep' hka)
  replace hE1 := Pin.Aside.mk (hE1.out.keep' hka)
  clear hka
  go_upto_region 6 with fail
  generalize World.alloc w4 _ = w5 at *
  generalize w4.heap.size = BY at *
  obtain ⟨q1, q2, q3, q4, q5⟩ := newer_law X Y
  have L0 := Pin.Aside.mk (fun W hW => lg_last X p0 n0 c0 (by omega) W hW)
  have L1 := Pin.Aside.mk (fun W hW => lg_last Y p1 n1 c1 (by omega) W hW)
  obtain ⟨v1, v2, v3, v4, v5⟩ := N0.out.last
  obtain ⟨u1, u2, u3, u4, u5⟩ := N1.out.last
  have K1 := Pin.Aside.mk (fun W hW => lg_newer X Y.last.1 Y.last.2 p0 n0 c0 (by omega) W hW)
  have K2 := Pin.Aside.mk (fun W hW => lg_newer Y X.last.1 X.last.2 p1 n1 c1 (by omega) W hW)
  have K3 := Pin.Aside.mk (fun W hW => lg_newer X X.last.1 X.last.2 p0 n0 c0 (by omega) W hW)
  have K4 := Pin.Aside.mk (fun W hW => lg_newer X (X.last.1 + 1) X.last.2 p0 n0 c0 (by omega) W hW)
  have K5 := Pin.Aside.mk (fun W hW => lg_newer X 0 (X.last.2 + 1) p0 n0 c0 (by omega) W hW)
  rw [q3] at K3
  rw [q4] at K4
  rw [q5] at K5
  obtain ⟨a, ha⟩ : ∃ a, X.newer Y.last.1 Y.last.2 = a := ⟨_, rfl⟩
  obtain ⟨b, hbq⟩ : ∃ b, Y.newer X.last.1 X.last.2 = b := ⟨_, rfl⟩
  rw [ha] at K1 q1 q2
  rw [hbq] at K2 q1 q2
  clear q3 q4 q5 ha hbq v5 u5
  obtain ⟨i, hi⟩ : ∃ i, X.last.1 = i := ⟨_, rfl⟩
  obtain ⟨t, ht⟩ : ∃ i, X.last.2 = i := ⟨_, rfl⟩
  obtain ⟨j, hj⟩ : ∃ i, Y.last.1 = i := ⟨_, rfl⟩
  obtain ⟨u, hu⟩ : ∃ i, Y.last.2 = i := ⟨_, rfl⟩
  rw [hi, ht] at L0 K2 K3 K4
  rw [ht] at K5
  rw [hj, hu] at L1 K1
  rw [hi] at v1 v2 q2
  rw [ht] at v3 v4 q2
  rw [hj] at u1 u2 q2
  rw [hu] at u3 u4 q2
  clear hi ht hj hu
  have hw1 : IntKind.u64.wrap (i + 1) = i + 1 := by rw [IntKind.wrap_u64]; omega
  have hw2 : IntKind.u64.wrap (t + 1) = t + 1 := by rw [IntKind.wrap_u64]; omega
  dsimp only [Lg.val] at *
  go_wp2_with fail
  refine (L0.out _ hE0.out).mono ?_
  rintro x w6 ⟨rfl, hbb⟩
  have hkk : Keep (fun _ => False) w5 w6 := Keep.of_below hbb fun _ q _ => q
  replace xb := hkk.cell xb id
  replace xt := hkk.cell xt id
  replace xs := hkk.cell xs id
  replace yb := hkk.cell yb id
  replace yt := hkk.cell yt id
  replace ys := hkk.cell ys id
  replace hb := hb.trans (hbb.mono (by first | exact hb.size | (rw [← hB]; exact hb.size)))
  replace hE0 := Pin.Aside.mk (hE0.out.below hbb)
  replace hE1 := Pin.Aside.mk (hE1.out.below hbb)
  clear hbb hkk
  go_wp2_with fail
  refine (L1.out _ hE1.out).mono ?_
  rintro x w7 ⟨rfl, hbb⟩
  have hkk : Keep (fun _ => False) w6 w7 := Keep.of_below hbb fun _ q _ => q
  replace xb := hkk.cell xb id
  replace xt := hkk.cell xt id
  replace xs := hkk.cell xs id
  replace yb := hkk.cell yb id
  replace yt := hkk.cell yt id
  replace ys := hkk.cell ys id
  replace hb := hb.trans (hbb.mono (by first | exact hb.size | (rw [← hB]; exact hb.size)))
  replace hE0 := Pin.Aside.mk (hE0.out.below hbb)
  replace hE1 := Pin.Aside.mk (hE1.out.below hbb)
  clear hbb hkk
  go_wp2_with fail
  refine (K1.out _ hE0.out).mono ?_
  rintro x w8 ⟨rfl, hbb⟩
  have hkk : Keep (fun _ => False) w7 w8 := Keep.of_below hbb fun _ q _ => q
  replace xb := hkk.cell xb id
  replace xt := hkk.cell xt id
  replace xs := hkk.cell xs id
  replace yb := hkk.cell yb id
  replace yt := hkk.cell yt id
  replace ys := hkk.cell ys id
  replace hb := hb.trans (hbb.mono (by first | exact hb.size | (rw [← hB]; exact hb.size)))
  replace hE0 := Pin.Aside.mk (hE0.out.below hbb)
  replace hE1 := Pin.Aside.mk (hE1.out.below hbb)
  clear hbb hkk
  go_wp2_with fail
  refine (K2.out _ hE1.out).mono ?_
  rintro x w9 ⟨rfl, hbb⟩
  have hkk : Keep (fun _ => False) w8 w9 := Keep.of_below hbb fun _ q _ => q
  replace xb := hkk.cell xb id
  replace xt := hkk.cell xt id
  replace xs := hkk.cell xs id
  replace yb := hkk.cell yb id
  replace yt := hkk.cell yt id
  replace ys := hkk.cell ys id
  replace hb := hb.trans (hbb.mono (by first | exact hb.size | (rw [← hB]; exact hb.size)))
  replace hE0 := Pin.Aside.mk (hE0.out.below hbb)
  replace hE1 := Pin.Aside.mk (hE1.out.below hbb)
  clear hbb hkk
  clear yb yt ys L0 L1 K1 K2 hE1
  cases a with
  | true =>
    cases b with
    | true =>
      obtain ⟨r1, r2⟩ : i = j ∧ t = u := by simpa using q2
      subst r1
      subst r2
      clear q1 q2
      go_wp2_with fail
      refine (K3.out _ hE0.out).mono ?_
      rintro x w10 ⟨rfl, hbb⟩
      have hkk : Keep (fun _ => False) w9 w10 := Keep.of_below hbb fun _ q _ => q
      replace xb := hkk.cell xb id
      replace xt := hkk.cell xt id
      replace xs := hkk.cell xs id
      replace hb := hb.trans (hbb.mono (by first | exact hb.size | (rw [← hB]; exact hb.size)))
      replace hE0 := Pin.Aside.mk (hE0.out.below hbb)
      clear hbb hkk
      go_wp2_with fail
      refine (K4.out _ hE0.out).mono ?_
      rintro x w11 ⟨rfl, hbb⟩
      have hkk : Keep (fun _ => False) w10 w11 := Keep.of_below hbb fun _ q _ => q
      replace xb := hkk.cell xb id
      replace xt := hkk.cell xt id
      replace xs := hkk.cell xs id
      replace hb := hb.trans (hbb.mono (by first | exact hb.size | (rw [← hB]; exact hb.size)))
      replace hE0 := Pin.Aside.mk (hE0.out.below hbb)
      clear hbb hkk
      go_wp2_with fail
      refine (K5.out _ hE0.out).mono ?_
      rintro x w12 ⟨rfl, hbb⟩
      have hkk : Keep (fun _ => False) w11 w12 := Keep.of_below hbb fun _ q _ => q
      replace xb := hkk.cell xb id
      replace xt := hkk.cell xt id
      replace xs := hkk.cell xs id
      replace hb := hb.trans (hbb.mono (by first | exact hb.size | (rw [← hB]; exact hb.size)))
      replace hE0 := Pin.Aside.mk (hE0.out.below hbb)
      clear hbb hkk
      go_wp2_with fail
      go_ret
      exact ⟨rfl, by first | exact hb | (rw [hB]; exact hb)⟩
    | false =>
      by_cases r1 : i = j
      · have r2 : ¬ t = u := by simpa [r1] using q2
        have r2b : (t == u) = false := by simpa using r2
        subst r1
        clear q1 q2
        go_wp2_with fail
        refine (K3.out _ hE0.out).mono ?_
        rintro x w10 ⟨rfl, hbb⟩
        have hkk : Keep (fun _ => False) w9 w10 := Keep.of_below hbb fun _ q _ => q
        replace xb := hkk.cell xb id
        replace xt := hkk.cell xt id
        replace xs := hkk.cell xs id
        replace hb := hb.trans (hbb.mono (by first | exact hb.size | (rw [← hB]; exact hb.size)))
        replace hE0 := Pin.Aside.mk (hE0.out.below hbb)
        clear hbb hkk
        go_wp2_with fail
        refine (K4.out _ hE0.out).mono ?_
        rintro x w11 ⟨rfl, hbb⟩
        have hkk : Keep (fun _ => False) w10 w11 := Keep.of_below hbb fun _ q _ => q
        replace xb := hkk.cell xb id
        replace xt := hkk.cell xt id
        replace xs := hkk.cell xs id
        replace hb := hb.trans (hbb.mono (by first | exact hb.size | (rw [← hB]; exact hb.size)))
        replace hE0 := Pin.Aside.mk (hE0.out.below hbb)
        clear hbb hkk
        go_wp2_with fail
        refine (K5.out _ hE0.out).mono ?_
        rintro x w12 ⟨rfl, hbb⟩
        have hkk : Keep (fun _ => False) w11 w12 := Keep.of_below hbb fun _ q _ => q
        replace xb := hkk.cell xb id
        replace xt := hkk.cell xt id
        replace xs := hkk.cell xs id
        replace hb := hb.trans (hbb.mono (by first | exact hb.size | (rw [← hB]; exact hb.size)))
        replace hE0 := Pin.Aside.mk (hE0.out.below hbb)
        clear hbb hkk
        go_wp2_with fail
        go_ret
        exact ⟨rfl, by first | exact hb | (rw [hB]; exact hb)⟩
      · clear q1 q2
        go_wp2_with fail
        refine (K3.out _ hE0.out).mono ?_
        rintro x w10 ⟨rfl, hbb⟩
        have hkk : Keep (fun _ => False) w9 w10 := Keep.of_below hbb fun _ q _ => q
        replace xb := hkk.cell xb id
        replace xt := hkk.cell xt id
        replace xs := hkk.cell xs id
        replace hb := hb.trans (hbb.mono (by first | exact hb.size | (rw [← hB]; exact hb.size)))
        replace hE0 := Pin.Aside.mk (hE0.out.below hbb)
        clear hbb hkk
        go_wp2_with fail
        refine (K4.out _ hE0.out).mono ?_
        rintro x w11 ⟨rfl, hbb⟩
        have hkk : Keep (fun _ => False) w10 w11 := Keep.of_below hbb fun _ q _ => q
        replace xb := hkk.cell xb id
        replace xt := hkk.cell xt id
        replace xs := hkk.cell xs id
        replace hb := hb.trans (hbb.mono (by first | exact hb.size | (rw [← hB]; exact hb.size)))
        replace hE0 := Pin.Aside.mk (hE0.out.below hbb)
        clear hbb hkk
        go_wp2_with fail
        refine (K5.out _ hE0.out).mono ?_
        rintro x w12 ⟨rfl, hbb⟩
        have hkk : Keep (fun _ => False) w11 w12 := Keep.of_below hbb fun _ q _ => q
        replace xb := hkk.cell xb id
        replace xt := hkk.cell xt id
        replace xs := hkk.cell xs id
        replace hb := hb.trans (hbb.mono (by first | exact hb.size | (rw [← hB]; exact hb.size)))
        replace hE0 := Pin.Aside.mk (hE0.out.below hbb)
        clear hbb hkk
        go_wp2_with fail
        go_ret
        exact ⟨rfl, by first | exact hb | (rw [hB]; exact hb)⟩
  | false =>
    cases b with
    | true =>
      by_cases r1 : i = j
      · have r2 : ¬ t = u := by simpa [r1] using q2
        have r2b : (t == u) = false := by simpa using r2
        subst r1
        clear q1 q2
        go_wp2_with fail
        refine (K3.out _ hE0.out).mono ?_
        rintro x w10 ⟨rfl, hbb⟩
        have hkk : Keep (fun _ => False) w9 w10 := Keep.of_below hbb fun _ q _ => q
        replace xb := hkk.cell xb id
        replace xt := hkk.cell xt id
        replace xs := hkk.cell xs id
        replace hb := hb.trans (hbb.mono (by first | exact hb.size | (rw [← hB]; exact hb.size)))
        replace hE0 := Pin.Aside.mk (hE0.out.below hbb)
        clear hbb hkk
        go_wp2_with fail
        refine (K4.out _ hE0.out).mono ?_
        rintro x w11 ⟨rfl, hbb⟩
        have hkk : Keep (fun _ => False) w10 w11 := Keep.of_below hbb fun _ q _ => q
        replace xb := hkk.cell xb id
        replace xt := hkk.cell xt id
        replace xs := hkk.cell xs id
        replace hb := hb.trans (hbb.mono (by first | exact hb.size | (rw [← hB]; exact hb.size)))
        replace hE0 := Pin.Aside.mk (hE0.out.below hbb)
        clear hbb hkk
        go_wp2_with fail
        refine (K5.out _ hE0.out).mono ?_
        rintro x w12 ⟨rfl, hbb⟩
        have hkk : Keep (fun _ => False) w11 w12 := Keep.of_below hbb fun _ q _ => q
        replace xb := hkk.cell xb id
        replace xt := hkk.cell xt id
        replace xs := hkk.cell xs id
        replace hb := hb.trans (hbb.mono (by first | exact hb.size | (rw [← hB]; exact hb.size)))
        replace hE0 := Pin.Aside.mk (hE0.out.below hbb)
        clear hbb hkk
        go_wp2_with fail
        go_ret
        exact ⟨rfl, by first | exact hb | (rw [hB]; exact hb)⟩
      · clear q1 q2
        go_wp2_with fail
        refine (K3.out _ hE0.out).mono ?_
        rintro x w10 ⟨rfl, hbb⟩
        have hkk : Keep (fun _ => False) w9 w10 := Keep.of_below hbb fun _ q _ => q
        replace xb := hkk.cell xb id
        replace xt := hkk.cell xt id
        replace xs := hkk.cell xs id
        replace hb := hb.trans (hbb.mono (by first | exact hb.size | (rw [← hB]; exact hb.size)))
        replace hE0 := Pin.Aside.mk (hE0.out.below hbb)
        clear hbb hkk
        go_wp2_with fail
        refine (K4.out _ hE0.out).mono ?_
        rintro x w11 ⟨rfl, hbb⟩
        have hkk : Keep (fun _ => False) w10 w11 := Keep.of_below hbb fun _ q _ => q
        replace xb := hkk.cell xb id
        replace xt := hkk.cell xt id
        replace xs := hkk.cell xs id
        replace hb := hb.trans (hbb.mono (by first | exact hb.size | (rw [← hB]; exact hb.size)))
        replace hE0 := Pin.Aside.mk (hE0.out.below hbb)
        clear hbb hkk
        go_wp2_with fail
        refine (K5.out _ hE0.out).mono ?_
        rintro x w12 ⟨rfl, hbb⟩
        have hkk : Keep (fun _ => False) w11 w12 := Keep.of_below hbb fun _ q _ => q
        replace xb := hkk.cell xb id
        replace xt := hkk.cell xt id
        replace xs := hkk.cell xs id
        replace hb := hb.trans (hbb.mono (by first | exact hb.size | (rw [← hB]; exact hb.size)))
        replace hE0 := Pin.Aside.mk (hE0.out.below hbb)
        clear hbb hkk
        go_wp2_with fail
        go_ret
        exact ⟨rfl, by first | exact hb | (rw [hB]; exact hb)⟩
    | false => cases q1
end Go.Proofs.Ythlmigbimeldbaa
