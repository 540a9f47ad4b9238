/- What area.Read computes. -/
import Derived.Test.YtlbnbmojgdoieaaArW
set_option maxRecDepth 16000
namespace Go.Pin
open Go.RowKit
theorem below_set3 {N g : Nat} {a w : World} (h : Below N a w) (hg : N ≤ g) (x y z : Value) : Below N a (((w.setCell ⟨g, 0, none⟩ x).setCell ⟨g, 1, none⟩ y).setCell ⟨g, 2, none⟩ z) :=
  ((h.setCell (p := ⟨g, 0, none⟩) hg _).setCell (p := ⟨g, 1, none⟩) hg _).setCell (p := ⟨g, 2, none⟩) hg _
theorem set3_cells {w : World} {g : Nat} {x0 y0 z0 : Value} (h0 : w.cell? ⟨g, 0, none⟩ = some x0) (h1 : w.cell? ⟨g, 1, none⟩ = some y0) (h2 : w.cell? ⟨g, 2, none⟩ = some z0) (x y z : Value) :
    (((w.setCell ⟨g, 0, none⟩ x).setCell ⟨g, 1, none⟩ y).setCell ⟨g, 2, none⟩ z).cell? ⟨g, 0, none⟩ = some x ∧ (((w.setCell ⟨g, 0, none⟩ x).setCell ⟨g, 1, none⟩ y).setCell ⟨g, 2, none⟩ z).cell? ⟨g, 1, none⟩ = some y ∧
    (((w.setCell ⟨g, 0, none⟩ x).setCell ⟨g, 1, none⟩ y).setCell ⟨g, 2, none⟩ z).cell? ⟨g, 2, none⟩ = some z ∧
    (w.setCell ⟨g, 0, none⟩ x).cell? ⟨g, 0, none⟩ = some x ∧ ((w.setCell ⟨g, 0, none⟩ x).setCell ⟨g, 1, none⟩ y).cell? ⟨g, 1, none⟩ = some y := by
  have a0 : (w.setCell ⟨g, 0, none⟩ x).cell? ⟨g, 0, none⟩ = some x := World.cell?_setCell_same _ _ _ h0
  have a1 : (w.setCell ⟨g, 0, none⟩ x).cell? ⟨g, 1, none⟩ = some y0 := (World.cell?_setCell_other _ _ _ _ (by simp)).trans h1
  have a2 : (w.setCell ⟨g, 0, none⟩ x).cell? ⟨g, 2, none⟩ = some z0 := (World.cell?_setCell_other _ _ _ _ (by simp)).trans h2
  have b0 := (World.cell?_setCell_other (w.setCell ⟨g, 0, none⟩ x) ⟨g, 1, none⟩ ⟨g, 0, none⟩ y (by simp)).trans a0
  have b1 := World.cell?_setCell_same (w.setCell ⟨g, 0, none⟩ x) ⟨g, 1, none⟩ y a1
  have b2 := (World.cell?_setCell_other (w.setCell ⟨g, 0, none⟩ x) ⟨g, 1, none⟩ ⟨g, 2, none⟩ y (by simp)).trans a2
  exact ⟨(World.cell?_setCell_other _ _ _ _ (by simp)).trans b0, (World.cell?_setCell_other _ _ _ _ (by simp)).trans b1, World.cell?_setCell_same _ _ _ b2, a0, b1⟩
end Go.Pin
namespace Go.Proofs.Ytlbnbmojgdoieaa
open Go.RowKit Go.Pin
set_option linter.unusedVariables false
set_option linter.unusedSimpArgs false
set_option maxHeartbeats 800000 in
theorem area_read1 (b f m PD PA PB : Nat) (d : Dv) (a k : Nat) (ha : a + k ≤ 4096) (l : List UInt8) (T : ByteArray) (c : Int) (hr : dread d ((a + k : Nat) : Int) = (T, c)) (hl : l.length + T.size ≤ 140737488355328) (w : World) (h : DevAt w b f m d) (hD : w.cell? ⟨PD, 0, none⟩ = some (.pointer (some ⟨b, 0, none⟩))) (hA : w.cell? ⟨PA, 0, none⟩ = some (.int .i64 (a : Int))) (hB : Bld PB PB l w) :
    Calls Try.prog 83 #[.int .i64 (k : Int), .pointer (some ⟨PD, 0, none⟩), .pointer (some ⟨PA, 0, none⟩), .pointer (some ⟨PB, 0, none⟩)] w fun e w' => e = .returned (.int .i64 c) ∧ Bld PB PB (l ++ T.data.toList) w' ∧ Below PB w w' := by
  have hw4 : IntKind.i64.wrap ((a : Int) + (k : Int)) = (a : Int) + (k : Int) := by rw [IntKind.wrap_i64]; omega
  have hcast : ((a + k : Nat) : Int) = (a : Int) + (k : Int) := by omega
  rw [hcast] at hr
  have hcon := dev_read b f m d ((a : Int) + (k : Int)) (by omega) w h
  rw [hr] at hcon
  have hlt := hB.lt
  clear hr hcast
  go_enter Try.func83, Try.ntmps83
  go_wp2_with fail
  with_reducible refine hcon.mono ?_
  rintro e w1 ⟨rfl, hb1⟩
  have hb := hb1.mono (Nat.le_of_lt hlt)
  have hs := hb.size
  have hw := sb_writeString PB PB l T w1 (hB.below hb1) hl (by omega)
  clear hcon hD hA hb1
  go_wp2_with fail
  with_reducible refine hw.mono ?_
  rintro e w2 ⟨rfl, hB2, hb2⟩
  clear hw hB
  go_wp2_with fail
  go_ret
  exact ⟨rfl, hB2, hb.trans hb2⟩
set_option maxHeartbeats 1600000 in
theorem area_each_read (b f m PD PA PB : Nat) (d : Dv) (a n : Nat) (ha : a + n ≤ d.n) (hdd : d.dead = false) (w : World) (h : DevAt w b f m d) (hD : w.cell? ⟨PD, 0, none⟩ = some (.pointer (some ⟨b, 0, none⟩))) (hA : w.cell? ⟨PA, 0, none⟩ = some (.int .i64 (a : Int))) (hB : Bld PB PB [] w) (hx : b < PB ∧ f < PB ∧ m < PB ∧ PD < PB ∧ PA < PB) :
    Calls Try.prog 81 #[.int .i64 (n : Int), .func (.func 83) #[] #[.pointer (some ⟨PD, 0, none⟩), .pointer (some ⟨PA, 0, none⟩), .pointer (some ⟨PB, 0, none⟩)]] w fun e w' => e = .returned (.int .i64 0) ∧ Bld PB PB (rcatL d a n) w' ∧ Below PB w w' := by
  have hn2 := h.ok.n2
  have hltP := hB.lt
  have Hh := Aside.mk h
  have Hz := Aside.mk h.ok.z2
  have Hok := Aside.mk h.ok
  clear h
  go_enter Try.func81, Try.ntmps81
  go_wp2_with fail
  go_loopw [8] (fun i wr => ∃ (k : Nat), k ≤ n ∧ i = .int .i64 k ∧ Bld PB PB (rcatL d a k) wr ∧ Below PB w wr) (fun i _ => n - (intOf i).toNat)
  case atStart => exact ⟨0, by omega, rfl, hB, Below.refl _ _⟩
  case round =>
    clear hB
    obtain ⟨k, hk, rfl, hB, hbl⟩ := hrel
    by_cases hlt : k < n
    · have hkw : Keep (fun j => PB ≤ j) w wr := Keep.of_below hbl fun j _ hj => by omega
      have cD := hkw.cell hD (by show ¬ PB ≤ PD; omega)
      have cA := hkw.cell hA (by show ¬ PB ≤ PA; omega)
      have hd := Hh.out.keep hkw ⟨by omega, by omega, by omega⟩
      have hr : dread d ((a + k : Nat) : Int) = (d.s (a + k), 0) := by
        have hrf : dref d ((a + k : Nat) : Int) = 0 := by unfold dref; rw [if_neg (by rw [hdd]; simp), if_neg (by omega)]
        unfold dread; rw [hrf, if_neg (by simp), Int.toNat_natCast]
      have hcon := area_read1 b f m PD PA PB d a k (by omega) (rcatL d a k) (d.s (a + k)) 0 hr (by rw [rcatL_len Hok.out, Hz.out]; omega) wr hd cD cA hB
      rw [← rcatL_succ] at hcon
      clear cD cA hr hd hkw hB
      go_wp2_with fail
      with_reducible refine hcon.mono ?_
      rintro e w2 ⟨rfl, hB2, hb2⟩
      clear hcon
      go_wp2_with fail
      go_roundw
      case rel => exact ⟨k + 1, by omega, by go_num, hB2, hbl.trans hb2⟩
      case measure => simp [intOf]; omega
    · obtain rfl : k = n := by omega
      go_wp2_with fail
      go_ret
      exact ⟨rfl, hB, hbl⟩
set_option maxHeartbeats 800000 in
theorem area_each_dead (b f m PD PA PB : Nat) (d : Dv) (a n : Nat) (ha : a ≤ 4096) (hn : 1 ≤ n) (hn9 : n ≤ 4096) (hdd : d.dead = true) (w : World) (h : DevAt w b f m d) (hD : w.cell? ⟨PD, 0, none⟩ = some (.pointer (some ⟨b, 0, none⟩))) (hA : w.cell? ⟨PA, 0, none⟩ = some (.int .i64 (a : Int))) (hB : Bld PB PB [] w) :
    Calls Try.prog 81 #[.int .i64 (n : Int), .func (.func 83) #[] #[.pointer (some ⟨PD, 0, none⟩), .pointer (some ⟨PA, 0, none⟩), .pointer (some ⟨PB, 0, none⟩)]] w fun e w' => e = .returned (.int .i64 7) ∧ Below PB w w' := by
  have hr : dread d ((a + 0 : Nat) : Int) = (⟨#[]⟩, 7) := dread_ref (by unfold dref; rw [if_pos hdd]) (by decide)
  have hcon := area_read1 b f m PD PA PB d a 0 (by omega) [] ⟨#[]⟩ 7 hr (by decide) w h hD hA hB
  have hn0 : (0 : Int) < (n : Int) := by omega
  clear hr hD hA hB h
  go_enter Try.func81, Try.ntmps81
  go_wp2_with fail
  refine wp_loop_rounds 1 ?_
  rw [rounds_succ]
  go_wp2_with fail
  refine hcon.mono ?_
  rintro e w2 ⟨rfl, _, hb2⟩
  go_wp2_with fail
  go_ret
  exact ⟨rfl, hb2⟩
set_option maxHeartbeats 3200000 in
theorem area_read (b f m : Nat) (d : Dv) (a k : Int) (ha : -9223372036854775808 ≤ a ∧ a ≤ 9223372036854775807) (hk : -9223372036854775808 ≤ k ∧ k ≤ 9223372036854775807) (w : World) (h : DevAt w b f m d) :
    Calls Try.prog 44 #[.pointer (some ⟨b, 0, none⟩), .int .i64 a, .int .i64 k] w fun e w' => e = .returned (.tuple #[(aread d a k).1.val, .int .i64 (aread d a k).2.1, .int .i64 (aread d a k).2.2]) ∧ Below w.heap.size w w' := by
  have hlt := h.lt
  have hn2 := h.ok.n2
  have hka : Keep (fun _ => False) w (((w.alloc (.cells #[.pointer (some ⟨b, 0, none⟩)] 23)).alloc (.cells #[.int .i64 a] 3)).alloc (.cells #[.int .u64 0, .int .u64 0, .string ⟨#[]⟩] 61)) := (((Keep.refl _ w).alloc _).alloc _).alloc _
  have hz3 : (((w.alloc (.cells #[.pointer (some ⟨b, 0, none⟩)] 23)).alloc (.cells #[.int .i64 a] 3)).alloc (.cells #[.int .u64 0, .int .u64 0, .string ⟨#[]⟩] 61)).heap.size = w.heap.size + 3 := by simp
  have hzz : ((w.alloc (.cells #[.pointer (some ⟨b, 0, none⟩)] 23)).alloc (.cells #[.int .i64 a] 3)).heap.size = w.heap.size + 1 + 1 := by simp
  have hz1 : (w.alloc (.cells #[.pointer (some ⟨b, 0, none⟩)] 23)).heap.size = w.heap.size + 1 := by simp
  have p0 : (((w.alloc (.cells #[.pointer (some ⟨b, 0, none⟩)] 23)).alloc (.cells #[.int .i64 a] 3)).alloc (.cells #[.int .u64 0, .int .u64 0, .string ⟨#[]⟩] 61)).cell? ⟨w.heap.size, 0, none⟩ = some (.pointer (some ⟨b, 0, none⟩)) := (((Keep.refl (fun _ => False) _).alloc _).alloc _).cell (World.cell?_alloc_new w _ _ 0) id
  have p1 : (((w.alloc (.cells #[.pointer (some ⟨b, 0, none⟩)] 23)).alloc (.cells #[.int .i64 a] 3)).alloc (.cells #[.int .u64 0, .int .u64 0, .string ⟨#[]⟩] 61)).cell? ⟨w.heap.size + 1, 0, none⟩ = some (.int .i64 a) := ((Keep.refl (fun _ => False) _).alloc _).cell (World.cell?_alloc_at _ _ _ _ hz1.symm) id
  have p2 : (((w.alloc (.cells #[.pointer (some ⟨b, 0, none⟩)] 23)).alloc (.cells #[.int .i64 a] 3)).alloc (.cells #[.int .u64 0, .int .u64 0, .string ⟨#[]⟩] 61)).cell? ⟨w.heap.size + 1 + 1, 0, none⟩ = some (.int .u64 0) := World.cell?_alloc_at _ _ _ _ hzz.symm
  have p3 : (((w.alloc (.cells #[.pointer (some ⟨b, 0, none⟩)] 23)).alloc (.cells #[.int .i64 a] 3)).alloc (.cells #[.int .u64 0, .int .u64 0, .string ⟨#[]⟩] 61)).cell? ⟨w.heap.size + 1 + 1, 1, none⟩ = some (.int .u64 0) := World.cell?_alloc_at _ _ _ _ hzz.symm
  have p4 : (((w.alloc (.cells #[.pointer (some ⟨b, 0, none⟩)] 23)).alloc (.cells #[.int .i64 a] 3)).alloc (.cells #[.int .u64 0, .int .u64 0, .string ⟨#[]⟩] 61)).cell? ⟨w.heap.size + 1 + 1, 2, none⟩ = some (.string ⟨#[]⟩) := World.cell?_alloc_at _ _ _ _ hzz.symm
  have f0 : ∀ i, (((w.alloc (.cells #[.pointer (some ⟨b, 0, none⟩)] 23)).alloc (.cells #[.int .i64 a] 3)).alloc (.cells #[.int .u64 0, .int .u64 0, .string ⟨#[]⟩] 61)).frozen? ⟨w.heap.size + 1 + 1, i, none⟩ = false := fun i => World.frozen?_alloc_at _ _ _ _ hzz.symm
  have hd3 := h.keep hka ⟨id, id, id⟩
  have Hd3 := Aside.mk hd3
  have hbW : Below w.heap.size w (((w.alloc (.cells #[.pointer (some ⟨b, 0, none⟩)] 23)).alloc (.cells #[.int .i64 a] 3)).alloc (.cells #[.int .u64 0, .int .u64 0, .string ⟨#[]⟩] 61)) := hka.below (Nat.le_refl _) fun _ q => q.elim
  have HbW := Aside.mk hbW
  have hcon := area_right b f m d a k ha hk _ hd3
  have HF0 := Aside.mk f0
  have hzL : w.heap.size + 3 ≤ (((w.alloc (.cells #[.pointer (some ⟨b, 0, none⟩)] 23)).alloc (.cells #[.int .i64 a] 3)).alloc (.cells #[.int .u64 0, .int .u64 0, .string ⟨#[]⟩] 61)).heap.size := Nat.le_of_eq hz3.symm
  clear h hka hzz hz1 hd3 hz3 hbW f0
  go_enter Try.func44, Try.ntmps44
  go_wp2_with fail
  generalize (((w.alloc (.cells #[.pointer (some ⟨b, 0, none⟩)] 23)).alloc (.cells #[.int .i64 a] 3)).alloc (.cells #[.int .u64 0, .int .u64 0, .string ⟨#[]⟩] 61)) = w3 at *
  have f0 := HF0.out 0
  have f1 := HF0.out 1
  have f2 := HF0.out 2
  generalize hBB : w.heap.size = B at *
  have HBB := Aside.mk hBB
  clear hBB
  refine hcon.mono ?_
  rintro e w3 ⟨rfl, rfl⟩
  clear hcon HF0
  cases hr : aright d.n a k with
  | false =>
    have e1 : aread d a k = (snone, 0, 1) := by unfold aread; rw [if_pos hr]
    have E1 := Aside.mk e1
    clear e1 hr
    go_wp2_with fail
    refine bodyPost_ret (v := .tuple #[snone.val, .int .i64 0, .int .i64 1]) (by simp [results, Try.results44, go_sem, *]; rfl) rfl ?_
    rw [E1.out]
    exact ⟨rfl, by rw [HBB.out]; exact below_set3 HbW.out (by omega) _ _ _⟩
  | true =>
    have hri := aright_iff hr
    obtain ⟨A, rfl⟩ := Int.eq_ofNat_of_zero_le hri.1
    obtain ⟨K, rfl⟩ := Int.eq_ofNat_of_zero_le (show 0 ≤ k by omega)
    have hAK : A + K ≤ d.n := by omega
    have hK1 : 1 ≤ K := by omega
    have hBld := Bld.new w3 w3.heap.size (Nat.le_refl _)
    have k4 : Keep (fun _ => False) w3 (w3.alloc (.cells #[.pointer none, .slice none 0 0] 101)) := (Keep.refl _ _).alloc _
    have hb4 := HbW.out.trans (k4.below (Nat.le_trans (Nat.le_trans (Nat.le_add_right _ 3) hzL) (Nat.le_refl _)) fun _ q => q.elim)
    have hd4 := Hd3.out.keep k4 ⟨id, id, id⟩
    have l2 : B + 1 + 1 < w3.heap.size := by omega
    rw [← k4.frozen (p := ⟨B + 1 + 1, 0, none⟩) l2 id] at f0
    rw [← k4.frozen (p := ⟨B + 1 + 1, 1, none⟩) l2 id] at f1
    rw [← k4.frozen (p := ⟨B + 1 + 1, 2, none⟩) l2 id] at f2
    replace p0 := k4.cell p0 id
    replace p1 := k4.cell p1 id
    replace p2 := k4.cell p2 id
    replace p3 := k4.cell p3 id
    replace p4 := k4.cell p4 id
    have lP := hBld.lt
    have e1 : aread d A K = if d.dead = true then (snone, 0, 7) else if (aget (rcat d A K)).2.2 = true then ((aget (rcat d A K)).1, (aget (rcat d A K)).2.1, 0) else (snone, 0, 2) := by
      unfold aread; rw [if_neg (by rw [hr]; simp)]; rfl
    have E1 := Aside.mk e1
    have Hok := Aside.mk Hd3.out.ok
    clear e1 hr hri k4 Hd3 HbW
    go_upto_region 4 with fail
    generalize w3.alloc (.cells #[.pointer none, .slice none 0 0] 101) = w4 at *
    generalize w3.heap.size = P at *
    cases hdd : d.dead with
    | true =>
      have heach := area_each_dead b f m B (B + 1) P d A K (by omega) hK1 (by omega) hdd w4 hd4 p0 p1 hBld
      clear hBld p0 p1
      go_wp2_with fail
      refine heach.mono ?_
      rintro e w5 ⟨rfl, hb5⟩
      have k5 : Keep (fun j => P ≤ j) w4 w5 := Keep.of_below hb5 fun j _ hj => by omega
      have nP : ¬ (P ≤ B + 1 + 1) := by omega
      rw [← k5.frozen (p := ⟨B + 1 + 1, 0, none⟩) (by show B + 1 + 1 < _; omega) nP] at f0
      rw [← k5.frozen (p := ⟨B + 1 + 1, 1, none⟩) (by show B + 1 + 1 < _; omega) nP] at f1
      rw [← k5.frozen (p := ⟨B + 1 + 1, 2, none⟩) (by show B + 1 + 1 < _; omega) nP] at f2
      replace p2 := k5.cell p2 (nP)
      replace p3 := k5.cell p3 (nP)
      replace p4 := k5.cell p4 (nP)
      have hb6 := hb4.trans (hb5.mono (by omega))
      have Hdd := Aside.mk hdd
      clear heach hb5 k5 hdd
      go_wp2_with fail
      refine bodyPost_ret (v := .tuple #[snone.val, .int .i64 0, .int .i64 7]) (by simp [results, Try.results44, go_sem, *]; rfl) rfl ?_
      rw [E1.out, if_pos Hdd.out]
      exact ⟨rfl, by rw [HBB.out]; exact below_set3 hb6 (by omega) _ _ _⟩
    | false =>
      have heach := area_each_read b f m B (B + 1) P d A K hAK hdd w4 hd4 p0 p1 hBld ⟨by omega, by omega, by omega, by omega, by omega⟩
      clear hBld p0 p1
      go_wp2_with fail
      refine heach.mono ?_
      rintro e w5 ⟨rfl, hB5, hb5⟩
      have k5 : Keep (fun j => P ≤ j) w4 w5 := Keep.of_below hb5 fun j _ hj => by omega
      have nP : ¬ (P ≤ B + 1 + 1) := by omega
      rw [← k5.frozen (p := ⟨B + 1 + 1, 0, none⟩) (by show B + 1 + 1 < _; omega) nP] at f0
      rw [← k5.frozen (p := ⟨B + 1 + 1, 1, none⟩) (by show B + 1 + 1 < _; omega) nP] at f1
      rw [← k5.frozen (p := ⟨B + 1 + 1, 2, none⟩) (by show B + 1 + 1 < _; omega) nP] at f2
      replace p2 := k5.cell p2 (nP)
      replace p3 := k5.cell p3 (nP)
      replace p4 := k5.cell p4 (nP)
      have hb6 := hb4.trans (hb5.mono (by omega))
      have hlen := rcatL_len Hok.out A K
      have hne : rcatL d A K ≠ [] := by intro q; rw [q] at hlen; simp at hlen; omega
      have hstr := sb_string P P (rcatL d A K) hne w5 hB5
      have hs5 := hb5.size
      have hcz : (⟨(rcatL d A K).toArray⟩ : ByteArray).size ≤ 1152921504606846976 := by show (rcatL d A K).toArray.size ≤ _; rw [List.size_toArray, hlen]; omega
      have Hdd := Aside.mk hdd
      have Hcz := Aside.mk hcz
      have lP5 : B + 1 + 1 < w5.heap.size := by omega
      clear heach hb5 k5 hdd hlen hne hcz hB5
      go_wp2_with fail
      refine hstr.mono ?_
      rintro e w6 ⟨rfl, hb7⟩
      have k6 : Keep (fun j => P ≤ j) w5 w6 := Keep.of_below hb7 fun j _ hj => by omega
      rw [← k6.frozen (p := ⟨B + 1 + 1, 0, none⟩) lP5 nP] at f0
      rw [← k6.frozen (p := ⟨B + 1 + 1, 1, none⟩) lP5 nP] at f1
      rw [← k6.frozen (p := ⟨B + 1 + 1, 2, none⟩) lP5 nP] at f2
      replace p2 := k6.cell p2 (nP)
      replace p3 := k6.cell p3 (nP)
      replace p4 := k6.cell p4 (nP)
      have hb8 := hb6.trans (hb7.mono (by omega))
      have lP6 : B + 1 + 1 < w6.heap.size := Nat.lt_of_lt_of_le lP5 hb7.size
      have hget := area_get (rcat d A K) w6 Hcz.out
      obtain ⟨R, hR⟩ : ∃ R, aget (rcat d A K) = R := ⟨_, rfl⟩
      rw [hR] at hget
      have HR := Aside.mk hR
      obtain ⟨⟨ri, rt, rx⟩, rv, rok⟩ := R
      replace hget : Calls Try.prog 39 #[.string ⟨(rcatL d A K).toArray⟩] w6 fun e w' => e = .returned (.tuple #[.agg #[.int .u64 ri, .int .u64 rt, .string rx], .int .i64 rv, .bool rok]) ∧ Below w6.heap.size w6 w' := hget
      clear hstr hb7 k6 hR
      go_wp2_with fail
      refine hget.mono ?_
      rintro e w7 ⟨rfl, hb9⟩
      have k7 : Keep (fun _ => False) w6 w7 := Keep.of_below hb9 fun j hj _ => hj
      rw [← k7.frozen (p := ⟨B + 1 + 1, 0, none⟩) lP6 id] at f0
      rw [← k7.frozen (p := ⟨B + 1 + 1, 1, none⟩) lP6 id] at f1
      rw [← k7.frozen (p := ⟨B + 1 + 1, 2, none⟩) lP6 id] at f2
      replace p2 := k7.cell p2 id
      replace p3 := k7.cell p3 id
      replace p4 := k7.cell p4 id
      have hb10 := hb8.trans (hb9.mono (by have := hb8.size; rw [HBB.out] at this; exact this))
      have Hbb := Aside.mk hb10
      clear hget hb9 k7 hb8 hb6 hb4 hb10
      cases rok with
      | true =>
        go_wp2_with fail
        obtain ⟨m0, m1, m2, _, _⟩ := set3_cells p2 p3 p4 (.int .u64 ri) (.int .u64 rt) (.string rx)
        obtain ⟨n0, n1, n2, n3, n4⟩ := set3_cells m0 m1 m2 (.int .u64 ri) (.int .u64 rt) (.string rx)
        refine bodyPost_ret (v := .tuple #[.agg #[.int .u64 ri, .int .u64 rt, .string rx], .int .i64 rv, .int .i64 0]) (by simp [results, Try.results44, go_sem, *]) rfl ?_
        rw [E1.out, if_neg (by rw [Hdd.out]; simp), HR.out]
        exact ⟨rfl, by rw [HBB.out]; exact below_set3 (below_set3 Hbb.out (by omega) _ _ _) (by omega) _ _ _⟩
      | false =>
        go_wp2_with fail
        obtain ⟨m0, m1, m2, _, _⟩ := set3_cells p2 p3 p4 (.int .u64 ri) (.int .u64 rt) (.string rx)
        obtain ⟨n0, n1, n2, n3, n4⟩ := set3_cells m0 m1 m2 (.int .u64 0) (.int .u64 0) (.string ⟨#[]⟩)
        refine bodyPost_ret (v := .tuple #[snone.val, .int .i64 0, .int .i64 2]) (by simp [results, Try.results44, go_sem, *]; rfl) rfl ?_
        rw [E1.out, if_neg (by rw [Hdd.out]; simp), HR.out]
        exact ⟨rfl, by rw [HBB.out]; exact below_set3 (below_set3 Hbb.out (by omega) _ _ _) (by omega) _ _ _⟩
end Go.Proofs.Ytlbnbmojgdoieaa
