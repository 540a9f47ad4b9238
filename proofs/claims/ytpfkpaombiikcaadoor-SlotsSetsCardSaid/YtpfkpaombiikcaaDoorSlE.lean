/- slots on a device that is not armed: plain laws; the examples of chapter 9. -/
import Derived.Test.YtpfkpaombiikcaaDoorSlD
import Derived.Test.YtpfkpaombiikcaaDoorSlP
import Derived.Test.YtpfkpaombiikcaaDoorSuE
set_option maxRecDepth 16000
namespace Go.Pin
open Go.RowKit
set_option linter.unusedVariables false
set_option linter.unusedSimpArgs false
/-- A device with a super and a hard state, whose gens are at most N. -/
structure SlotsD (D : Dv) (n N : Nat) (s : Sup) (h : Hd) : Prop where
  ok : D.ok
  live : Live D
  nn : D.n = n
  big : 4 ≤ n
  s0 : ∃ g i, suread D ((0 : Nat) : Int) = (supS s, g, i, 0) ∧ 0 ≤ g ∧ g ≤ N
  h2 : ∃ b g i c, suread D ((2 : Nat) : Int) = (b, g, i, c) ∧ 0 ≤ g ∧ g ≤ N ∧ ((c = 6 ∧ h = Hd.zero) ∨ (c = 0 ∧ ∃ v, hardget b = (h, v, true)))
/-- Block B holds a hard state. -/
structure HardAt (w : World) (B : Nat) (t o c : Int) : Prop where
  c0 : w.cell? ⟨B, 0, none⟩ = some (.int .u64 t)
  c1 : w.cell? ⟨B, 1, none⟩ = some (.int .i64 o)
  c2 : w.cell? ⟨B, 2, none⟩ = some (.int .u64 c)
theorem HardAt.keep {S : Nat → Prop} {a w : World} {B : Nat} {t o c : Int} (h : HardAt a B t o c) (hk : Keep S a w) (hn : ¬ S B) : HardAt w B t o c := ⟨hk.cell h.c0 hn, hk.cell h.c1 hn, hk.cell h.c2 hn⟩
theorem HardAt.below {a w : World} {B : Nat} {t o c : Int} (h : HardAt a B t o c) (hk : Below a.heap.size a w) : HardAt w B t o c := h.keep (Keep.of_below (S := fun _ => False) hk fun _ hk _ => hk) id
theorem SlotsD.load {D : Dv} {n N : Nat} {s : Sup} {h : Hd} (q : SlotsD D n N s h) (hr : s.right = true) (hn : ssectors s ≤ n) : sloadW D = (s, h, 0) := by
  obtain ⟨g, i, h0, _⟩ := q.s0
  obtain ⟨b, g2, i2, c, h2, _, _, hc⟩ := q.h2
  have e0 : suread D 0 = (supS s, g, i, 0) := h0
  have e2 : suread D 2 = (b, g2, i2, c) := h2
  unfold sloadW
  rw [e0, e2]
  dsimp only
  rw [supget_put s hr, if_neg (by simp), if_neg (by rw [q.nn]; rintro (x | x); cases x; dsimp only at x; omega)]
  rcases hc with ⟨rfl, rfl⟩ | ⟨rfl, v, hv⟩
  · rw [if_pos rfl]
  · rw [if_neg (by simp), if_neg (by simp), hv, if_neg (by simp)]
/-- One with too few sectors is refused. -/
theorem SlotsD.small {D : Dv} {n N : Nat} {s : Sup} {h : Hd} (q : SlotsD D n N s h) (hr : s.right = true) (hn : (n : Int) < ssectors s) : sloadW D = (Sup.zero, Hd.zero, 2) := by
  obtain ⟨g, i, h0, _⟩ := q.s0
  have e0 : suread D 0 = (supS s, g, i, 0) := h0
  unfold sloadW
  rw [e0]
  dsimp only
  rw [supget_put s hr, if_neg (by simp), if_pos (Or.inr (by rw [q.nn]; exact hn))]
theorem snum_short (v : Int) (n k : Nat) (hk : 1 ≤ k ∧ k ≤ 8) (hn : n < 128 ^ k) (hn2 : n < 16384) : (snum v n k).size ≤ k := by
  unfold snum
  split
  · unfold fixedS
    rw [if_neg (by omega), size_mk, fixedL_len]; omega
  · unfold vputS
    rw [size_mk]
    by_cases h : n < 128
    · rw [vput_small n h]; exact hk.1
    · rw [vput_big n (by omega) (by omega), vput_small _ (by omega)]
      show 2 ≤ k
      rcases Nat.lt_or_ge k 2 with q | q
      · have : k = 1 := by omega
        subst this; omega
      · exact q
theorem supS_size (s : Sup) (hr : s.right = true) : (supS s).size ≤ 9 := by
  obtain ⟨⟨_, _⟩, ⟨_, _⟩, ⟨_, _⟩, ⟨_, _⟩, ⟨_, _⟩, ⟨_, _⟩, ⟨_, _⟩, _⟩ := Sup.right_iff hr
  have h1 : (fixedS s.v.toNat 1).size = 1 := by
    unfold fixedS
    rw [if_neg (by omega), size_mk, fixedL_len]; rfl
  have h2 := snum_short s.v s.snap.toNat 2 (by omega) (by omega) (by omega)
  have h3 := snum_short s.v s.log.toNat 2 (by omega) (by omega) (by omega)
  have h4 := snum_short s.v s.area.toNat 1 (by omega) (by omega) (by omega)
  have h5 := snum_short s.v s.half.toNat 1 (by omega) (by omega) (by omega)
  have h6 := snum_short s.v s.goal.toNat 1 (by omega) (by omega) (by omega)
  have h7 := snum_short s.v s.step.toNat 1 (by omega) (by omega) (by omega)
  unfold supS
  simp only [ByteArray.size_append]
  replace h2 : (snum s.v s.snap.toNat 2).size ≤ 2 := h2
  replace h3 : (snum s.v s.log.toNat 2).size ≤ 2 := h3
  replace h4 : (snum s.v s.area.toNat 1).size ≤ 1 := h4
  replace h5 : (snum s.v s.half.toNat 1).size ≤ 1 := h5
  replace h6 : (snum s.v s.goal.toNat 1).size ≤ 1 := h6
  replace h7 : (snum s.v s.step.toNat 1).size ≤ 1 := h7
  omega
theorem hardS_size (v : Int) (h : Hd) : (hardS v h).size ≤ 40 := by
  have h1 : (fixedS (16 + v).toNat 1).size ≤ 10 := by
    unfold fixedS
    split
    · exact Nat.zero_le _
    · rw [size_mk, fixedL_len]; omega
  have h2 := snum_size v h.term.toNat 8
  have h3 := snum_size v h.vote.toNat 1
  have h4 := snum_size v h.commit.toNat 8
  unfold hardS
  simp only [ByteArray.size_append]; omega
theorem suread_same {d D : Dv} (hl : Live d) (hL : Live D) (hn : D.n = d.n) {a : Nat} (ha : a + 1 < d.n) (h0 : D.s a = d.s a) (h1 : D.s (a + 1) = d.s (a + 1)) : suread D (a : Int) = suread d (a : Int) := by
  rw [suread_live hL (by rw [hn]; exact ha), suread_live hl ha, h0, h1]
/-- The first super on a new device. -/
theorem SlotsD.first (n : Nat) (h4 : 4 ≤ n) (hn : n ≤ 4096) (s : Sup) (hr : s.right = true) : ∃ E, ssetW (dnew n) s = (0, E) ∧ SlotsD E n 1 s Hd.zero := by
  obtain ⟨D, hD, hDo, hDl, hDn, hDr, hs⟩ := su_step (dnew_ok n (by omega) hn) (live_new n) (a := 0) (by rw [dnew_n]; omega) (supS s) (Nat.le_trans (supS_size s hr) (by decide)) _ (suread_new n 0 (by omega)) (by simp)
  refine ⟨D, ?_, hDo, hDl, hDn.trans (dnew_n n), h4, ⟨_, _, hDr, by unfold suNext; rw [if_pos rfl]; decide, by unfold suNext; rw [if_pos rfl]; decide⟩, ?_⟩
  · unfold ssetW supput
    rw [if_pos hr, if_neg (by simp)]
    exact hD
  · rw [suread_same (live_new n) hDl hDn (by rw [dnew_n]; omega) (hs 2 (by omega) (by omega)) (hs 3 (by omega) (by omega)), suread_new n 2 (by omega)]
    exact ⟨_, _, _, _, rfl, by omega, by omega, .inl ⟨rfl, rfl⟩⟩
theorem SlotsD.super {D : Dv} {n N : Nat} {s : Sup} {h : Hd} (q : SlotsD D n N s h) (hN : N < 1000) (t : Sup) (hr : t.right = true) : ∃ E, ssetW D t = (0, E) ∧ SlotsD E n (N + 1) t h := by
  obtain ⟨g, i, h0, hg0, hg1⟩ := q.s0
  have h4 := q.big
  have hqn := q.nn
  obtain ⟨E, hE, hEo, hEl, hEn, hEr, hs⟩ := su_step q.ok q.live (a := 0) (by omega) (supS t) (Nat.le_trans (supS_size t hr) (by decide)) _ h0 (by dsimp only; omega)
  have hnx : (suNext (supS s, g, i, 0)).1 = g + 1 := by unfold suNext; rw [if_neg (by simp)]
  refine ⟨E, ?_, hEo, hEl, hEn.trans hqn, h4, ⟨_, _, hEr, by rw [hnx]; omega, by rw [hnx]; omega⟩, ?_⟩
  · unfold ssetW supput
    rw [if_pos hr, if_neg (by simp)]
    exact hE
  · rw [suread_same q.live hEl hEn (by omega) (hs 2 (by omega) (by omega)) (hs 3 (by omega) (by omega))]
    obtain ⟨b, g2, i2, c, h2, x, y, hc⟩ := q.h2
    exact ⟨b, g2, i2, c, h2, x, by omega, hc⟩
theorem SlotsD.hard {D : Dv} {n N : Nat} {s : Sup} {h : Hd} (q : SlotsD D n N s h) (hN : N < 1000) (v : Int) (hv : v = 1 ∨ v = 2) (t : Hd) (ht : t.ok) (hvo : 0 ≤ t.vote ∧ t.vote ≤ 7) : ∃ E, shardW D v t = (0, E) ∧ SlotsD E n (N + 1) s t := by
  obtain ⟨b, g, i, c, h2, hg0, hg1, hc⟩ := q.h2
  have h4 := q.big
  have hqn := q.nn
  obtain ⟨E, hE, hEo, hEl, hEn, hEr, hs⟩ := su_step q.ok q.live (a := 2) (by omega) (hardS v t) (Nat.le_trans (hardS_size v t) (by decide)) _ h2 (by dsimp only; omega)
  have hnx : (suNext (b, g, i, c)).1 = g + 1 ∨ (suNext (b, g, i, c)).1 = 1 := by unfold suNext; split; exact .inr rfl; exact .inl rfl
  refine ⟨E, ?_, hEo, hEl, hEn.trans hqn, h4, ?_, ⟨_, _, _, _, hEr, by omega, by omega, .inr ⟨rfl, v, hardget_put v hv t ht hvo⟩⟩⟩
  · have hpq : hardput v t = (hardS v t, true) := by unfold hardput; exact if_pos ⟨hv, hvo⟩
    unfold shardW
    rw [hpq, if_neg (by simp)]
    exact hE
  · rw [suread_same q.live hEl hEn (by omega) (hs 0 (by omega) (by omega)) (hs 1 (by omega) (by omega))]
    obtain ⟨g2, i2, h0, x, y⟩ := q.s0
    exact ⟨g2, i2, h0, x, by omega⟩
theorem shardW_no (D : Dv) (t : Hd) : shardW D 3 t = (1, D) := by
  have : hardput 3 t = (⟨#[]⟩, false) := by unfold hardput; rw [if_neg (by omega)]
  unfold shardW
  rw [this]
  exact if_pos rfl
end Go.Pin
namespace Go.Proofs.YtpfkpaombiikcaaDoor
open Go.RowKit Go.Pin
set_option linter.unusedVariables false
set_option linter.unusedSimpArgs false
theorem slots_setsuper_to (b f m : Nat) (d : Dv) (s : Sup) (c : Int) (D : Dv) (hE : ssetW d s = (c, D)) (w : World) (h : DevAt w b f m d) :
    Calls Tryd.prog 35 #[.pointer (some ⟨b, 0, none⟩), .agg #[.int .i64 s.v, .int .i64 s.snap, .int .i64 s.log, .int .i64 s.area, .int .i64 s.half, .int .i64 s.goal, .int .i64 s.step]] w fun e w' => e = .returned (.int .i64 c) ∧ DevAt w' b f m D ∧ Keep (devS b f m) w w' := by
  have := slots_setsuper b f m d s w h
  rw [hE] at this; exact this
theorem slots_sethard_to (b f m : Nat) (d : Dv) (v t o c : Int) (ht : 0 ≤ t ∧ t ≤ 18446744073709551615) (hc : 0 ≤ c ∧ c ≤ 18446744073709551615) (e : Int) (D : Dv) (hE : shardW d v ⟨t, o, c⟩ = (e, D)) (w : World) (h : DevAt w b f m d) :
    Calls Tryd.prog 37 #[.pointer (some ⟨b, 0, none⟩), .int .i64 v, .agg #[.int .u64 t, .int .i64 o, .int .u64 c]] w fun e' w' => e' = .returned (.int .i64 e) ∧ DevAt w' b f m D ∧ Keep (devS b f m) w w' := by
  have := slots_sethard b f m d v t o c ht hc w h
  rw [hE] at this; exact this
theorem slots_load_to (b f m : Nat) (d : Dv) (s : Sup) (h : Hd) (c : Int) (hE : sloadW d = (s, h, c)) (w : World) (hd : DevAt w b f m d) :
    Calls Tryd.prog 36 #[.pointer (some ⟨b, 0, none⟩)] w fun e w' => e = .returned (.tuple #[.agg #[.int .i64 s.v, .int .i64 s.snap, .int .i64 s.log, .int .i64 s.area, .int .i64 s.half, .int .i64 s.goal, .int .i64 s.step], .agg #[.int .u64 h.term, .int .i64 h.vote, .int .u64 h.commit], .int .i64 c]) ∧ Below w.heap.size w w' := by
  have := slots_load b f m d w hd
  rw [hE] at this; exact this
theorem slots_get_to (b : ByteArray) (hs : b.size ≤ 1152921504606846976) (s : Sup) (o : Bool) (hE : supget b = (s, o)) (w : World) :
    Calls Tryd.prog 68 #[.string b] w fun e w' => e = .returned (.tuple #[.agg #[.int .i64 s.v, .int .i64 s.snap, .int .i64 s.log, .int .i64 s.area, .int .i64 s.half, .int .i64 s.goal, .int .i64 s.step], .bool o]) ∧ Below w.heap.size w w' := by
  have := slots_getsuper b hs w
  rw [hE] at this; exact this
theorem slots_gethard_to (b : ByteArray) (hs : b.size ≤ 1152921504606846976) (h : Hd) (v : Int) (o : Bool) (hE : hardget b = (h, v, o)) (w : World) :
    Calls Tryd.prog 69 #[.string b] w fun e w' => e = .returned (.tuple #[.agg #[.int .u64 h.term, .int .i64 h.vote, .int .u64 h.commit], .int .i64 v, .bool o]) ∧ Below w.heap.size w w' := by
  have := slots_gethard b hs w
  rw [hE] at this; exact this
theorem slots_put_to (s : Sup) (b : ByteArray) (o : Bool) (hE : supput s = (b, o)) (w : World) :
    Calls Tryd.prog 67 #[.agg #[.int .i64 s.v, .int .i64 s.snap, .int .i64 s.log, .int .i64 s.area, .int .i64 s.half, .int .i64 s.goal, .int .i64 s.step]] w fun e w' => e = .returned (.tuple #[.string b, .bool o]) ∧ Below w.heap.size w w' := by
  have := slots_putsuper s w
  rw [hE] at this; exact this
theorem ex_right : (⟨1, 2, 3, 0, 0, 0, 0⟩ : Sup).right = true := by decide
theorem ex_put : supput ⟨1, 2, 3, 0, 0, 0, 0⟩ = (⟨#[1, 0, 2, 0, 3, 0, 0, 0, 0]⟩, true) := by
  unfold supput
  rw [if_pos ex_right]
  have : supS ⟨1, 2, 3, 0, 0, 0, 0⟩ = ⟨#[1, 0, 2, 0, 3, 0, 0, 0, 0]⟩ := by decide +kernel
  rw [this]
theorem ex_get : supget ⟨#[1, 0, 2, 0, 3, 0, 0, 0, 0]⟩ = (⟨1, 2, 3, 0, 0, 0, 0⟩, true) := by
  have : supS ⟨1, 2, 3, 0, 0, 0, 0⟩ = ⟨#[1, 0, 2, 0, 3, 0, 0, 0, 0]⟩ := by decide +kernel
  rw [← this]
  exact supget_put _ ex_right
theorem ex_hard : hardget ⟨#[18, 5, 3, 4]⟩ = (⟨5, 3, 4⟩, 2, true) := by
  have : hardS 2 ⟨5, 3, 4⟩ = ⟨#[18, 5, 3, 4]⟩ := by decide +kernel
  rw [← this]
  exact hardget_put 2 (.inr rfl) ⟨5, 3, 4⟩ ⟨by decide, by decide, by decide, by decide⟩ ⟨by decide, by decide⟩
theorem ex_none : supget ⟨#[]⟩ = (⟨0, 0, 0, 0, 0, 0, 0⟩, false) := by
  rcases supget_inv ⟨#[]⟩ with h | ⟨s, _, h⟩
  · exact h
  · exfalso
    have : (supS s).size = 0 := by rw [← h]; rfl
    rw [supS_list, bs_size] at this
    unfold supL at this
    rw [List.length_append, fixedL_len] at this
    omega
set_option maxHeartbeats 1600000 in
theorem slots_examples (w : World) : Calls Tryd.prog 33 #[] w fun e w' => e = .returned (.bool true) ∧ Below w.heap.size w w' := by
  have hse := str_beq
  have hb := Below.refl w.heap.size w
  have hs14 : ssectors ⟨1, 2, 3, 0, 0, 0, 0⟩ = 14 := by decide
  have HSec := Pin.Aside.mk fun W => slots_sectors ⟨1, 2, 3, 0, 0, 0, 0⟩ W
  rw [hs14] at HSec
  clear hs14
  go_enter Tryd.func33, Tryd.ntmps33
  go_wp2_with fail
  refine (slots_put_to ⟨1, 2, 3, 0, 0, 0, 0⟩ _ _ ex_put _).mono ?_
  rintro e w1 ⟨rfl, hbb⟩
  replace hb := Below.next hb hbb
  clear hbb
  go_wp2_with fail
  refine (slots_get_to _ (by decide) _ _ ex_get _).mono ?_
  rintro e w2 ⟨rfl, hbb⟩
  replace hb := Below.next hb hbb
  have hS := SevenAt.new w2 ⟨1, 2, 3, 0, 0, 0, 0⟩ 65
  replace hb := hb.alloc hb.size (sevenO ⟨1, 2, 3, 0, 0, 0, 0⟩ 65)
  unfold sevenO at hS hb
  clear hbb
  go_wp2_with fail
  refine (slots_gethard_to ⟨#[18, 5, 3, 4]⟩ (by decide) _ _ _ ex_hard _).mono ?_
  rintro e w3 ⟨rfl, hbb⟩
  have hk := (Keep.of_below (S := fun _ => False) hbb fun _ hk _ => hk).alloc (.cells #[.int .u64 5, .int .i64 3, .int .u64 4] 63)
  replace hb := hb.trans (hk.below hb.size fun _ q => q.elim)
  replace hS := hS.keep hk id
  have hT := SevAt.new w3 #[.int .u64 5, .int .i64 3, .int .u64 4] 63 3 rfl
  clear hbb hk
  go_wp2_with fail
  refine (slots_get_to ⟨#[]⟩ (by decide) _ _ ex_none _).mono ?_
  rintro e w4 ⟨rfl, hbb⟩
  have hk := (Keep.of_below (S := fun _ => False) hbb fun _ hk _ => hk).alloc (.cells #[.int .i64 0, .int .i64 0, .int .i64 0, .int .i64 0, .int .i64 0, .int .i64 0, .int .i64 0] 65)
  replace hb := hb.trans (hk.below hb.size fun _ q => q.elim)
  replace hS := hS.keep hk id
  replace hT := hT.keep hk id
  clear hbb hk
  obtain ⟨c0, c1, c2, c3, c4, c5, c6⟩ := hS
  obtain ⟨x0, x1, x2⟩ := hT.get3
  dsimp only at c0 c1 c2 c3 c4 c5 c6
  replace x0 : _ = some (Value.int IntKind.u64 5) := x0
  replace x1 : _ = some (Value.int IntKind.i64 3) := x1
  replace x2 : _ = some (Value.int IntKind.u64 4) := x2
  clear hT
  go_wp2_with fail
  refine (HSec.out _).mono ?_
  rintro e w5 ⟨rfl, hbb⟩
  replace hb := Below.next hb hbb
  clear hbb
  go_wp2_with fail
  go_ret
  exact ⟨rfl, hb⟩
end Go.Proofs.YtpfkpaombiikcaaDoor
