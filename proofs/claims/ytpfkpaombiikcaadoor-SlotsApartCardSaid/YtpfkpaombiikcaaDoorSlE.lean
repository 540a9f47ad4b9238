/- slots on a device that is not armed: plain laws; the examples of chapter 9. -/
import Derived.Test.YtpfkpaombiikcaaDoorSlD
import Derived.Test.YtpfkpaombiikcaaDoorSlF
import Derived.Test.YtpfkpaombiikcaaDoorSuE
set_option maxRecDepth 16000
namespace Go.Pin
open Go.RowKit
set_option linter.unusedVariables false
set_option linter.unusedSimpArgs false
/-- A device with a super and a hard state, whose gens are at most N. -/
structure SlotsD (D : Dv) (n N : Nat) (s : Sup) (h : Hd) : Prop where
  ok : D.ok
  live : Live D
  nn : D.n = n
  big : 4 ≤ n
  s0 : ∃ g i, suread D ((0 : Nat) : Int) = (supS s, g, i, 0) ∧ 0 ≤ g ∧ g ≤ N
  h2 : ∃ b g i c, suread D ((2 : Nat) : Int) = (b, g, i, c) ∧ 0 ≤ g ∧ g ≤ N ∧ ((c = 6 ∧ h = Hd.zero) ∨ (c = 0 ∧ ∃ v, hardget b = (h, v, true)))
/-- Block B holds a hard state. -/
structure HardAt (w : World) (B : Nat) (t o c : Int) : Prop where
  c0 : w.cell? ⟨B, 0, none⟩ = some (.int .u64 t)
  c1 : w.cell? ⟨B, 1, none⟩ = some (.int .i64 o)
  c2 : w.cell? ⟨B, 2, none⟩ = some (.int .u64 c)
theorem HardAt.keep {S : Nat → Prop} {a w : World} {B : Nat} {t o c : Int} (h : HardAt a B t o c) (hk : Keep S a w) (hn : ¬ S B) : HardAt w B t o c := ⟨hk.cell h.c0 hn, hk.cell h.c1 hn, hk.cell h.c2 hn⟩
theorem HardAt.below {a w : World} {B : Nat} {t o c : Int} (h : HardAt a B t o c) (hk : Below a.heap.size a w) : HardAt w B t o c := h.keep (Keep.of_below (S := fun _ => False) hk fun _ hk _ => hk) id
theorem SlotsD.load {D : Dv} {n N : Nat} {s : Sup} {h : Hd} (q : SlotsD D n N s h) (hr : s.right = true) (hn : ssectors s ≤ n) : sloadW D = (s, h, 0) := by
  obtain ⟨g, i, h0, _⟩ := q.s0
  obtain ⟨b, g2, i2, c, h2, _, _, hc⟩ := q.h2
  have e0 : suread D 0 = (supS s, g, i, 0) := h0
  have e2 : suread D 2 = (b, g2, i2, c) := h2
  unfold sloadW
  rw [e0, e2]
  dsimp only
  rw [supget_put s hr, if_neg (by simp), if_neg (by rw [q.nn]; rintro (x | x); cases x; dsimp only at x; omega)]
  rcases hc with ⟨rfl, rfl⟩ | ⟨rfl, v, hv⟩
  · rw [if_pos rfl]
  · rw [if_neg (by simp), if_neg (by simp), hv, if_neg (by simp)]
/-- One with too few sectors is refused. -/
theorem SlotsD.small {D : Dv} {n N : Nat} {s : Sup} {h : Hd} (q : SlotsD D n N s h) (hr : s.right = true) (hn : (n : Int) < ssectors s) : sloadW D = (Sup.zero, Hd.zero, 2) := by
  obtain ⟨g, i, h0, _⟩ := q.s0
  have e0 : suread D 0 = (supS s, g, i, 0) := h0
  unfold sloadW
  rw [e0]
  dsimp only
  rw [supget_put s hr, if_neg (by simp), if_pos (Or.inr (by rw [q.nn]; exact hn))]
theorem suread_same {d D : Dv} (hl : Live d) (hL : Live D) (hn : D.n = d.n) {a : Nat} (ha : a + 1 < d.n) (h0 : D.s a = d.s a) (h1 : D.s (a + 1) = d.s (a + 1)) : suread D (a : Int) = suread d (a : Int) := by
  rw [suread_live hL (by rw [hn]; exact ha), suread_live hl ha, h0, h1]
/-- The first super on a new device. -/
theorem SlotsD.first (n : Nat) (h4 : 4 ≤ n) (hn : n ≤ 4096) (s : Sup) (hr : s.right = true) : ∃ E, ssetW (dnew n) s = (0, E) ∧ SlotsD E n 1 s Hd.zero := by
  obtain ⟨D, hD, hDo, hDl, hDn, hDr, hs⟩ := su_step (dnew_ok n (by omega) hn) (live_new n) (a := 0) (by rw [dnew_n]; omega) (supS s) (Nat.le_trans (supS_size s hr) (by decide)) _ (suread_new n 0 (by omega)) (by simp)
  refine ⟨D, ?_, hDo, hDl, hDn.trans (dnew_n n), h4, ⟨_, _, hDr, by unfold suNext; rw [if_pos rfl]; decide, by unfold suNext; rw [if_pos rfl]; decide⟩, ?_⟩
  · unfold ssetW supput
    rw [if_pos hr, if_neg (by simp)]
    exact hD
  · rw [suread_same (live_new n) hDl hDn (by rw [dnew_n]; omega) (hs 2 (by omega) (by omega)) (hs 3 (by omega) (by omega)), suread_new n 2 (by omega)]
    exact ⟨_, _, _, _, rfl, by omega, by omega, .inl ⟨rfl, rfl⟩⟩
theorem SlotsD.super {D : Dv} {n N : Nat} {s : Sup} {h : Hd} (q : SlotsD D n N s h) (hN : N < 1000) (t : Sup) (hr : t.right = true) : ∃ E, ssetW D t = (0, E) ∧ SlotsD E n (N + 1) t h := by
  obtain ⟨g, i, h0, hg0, hg1⟩ := q.s0
  have h4 := q.big
  have hqn := q.nn
  obtain ⟨E, hE, hEo, hEl, hEn, hEr, hs⟩ := su_step q.ok q.live (a := 0) (by omega) (supS t) (Nat.le_trans (supS_size t hr) (by decide)) _ h0 (by dsimp only; omega)
  have hnx : (suNext (supS s, g, i, 0)).1 = g + 1 := by unfold suNext; rw [if_neg (by simp)]
  refine ⟨E, ?_, hEo, hEl, hEn.trans hqn, h4, ⟨_, _, hEr, by rw [hnx]; omega, by rw [hnx]; omega⟩, ?_⟩
  · unfold ssetW supput
    rw [if_pos hr, if_neg (by simp)]
    exact hE
  · rw [suread_same q.live hEl hEn (by omega) (hs 2 (by omega) (by omega)) (hs 3 (by omega) (by omega))]
    obtain ⟨b, g2, i2, c, h2, x, y, hc⟩ := q.h2
    exact ⟨b, g2, i2, c, h2, x, by omega, hc⟩
theorem SlotsD.hard {D : Dv} {n N : Nat} {s : Sup} {h : Hd} (q : SlotsD D n N s h) (hN : N < 1000) (v : Int) (hv : v = 1 ∨ v = 2) (t : Hd) (ht : t.ok) (hvo : 0 ≤ t.vote ∧ t.vote ≤ 7) : ∃ E, shardW D v t = (0, E) ∧ SlotsD E n (N + 1) s t := by
  obtain ⟨b, g, i, c, h2, hg0, hg1, hc⟩ := q.h2
  have h4 := q.big
  have hqn := q.nn
  obtain ⟨E, hE, hEo, hEl, hEn, hEr, hs⟩ := su_step q.ok q.live (a := 2) (by omega) (hardS v t) (Nat.le_trans (hardS_size v t) (by decide)) _ h2 (by dsimp only; omega)
  have hnx : (suNext (b, g, i, c)).1 = g + 1 ∨ (suNext (b, g, i, c)).1 = 1 := by unfold suNext; split; exact .inr rfl; exact .inl rfl
  refine ⟨E, ?_, hEo, hEl, hEn.trans hqn, h4, ?_, ⟨_, _, _, _, hEr, by omega, by omega, .inr ⟨rfl, v, hardget_put v hv t ht hvo⟩⟩⟩
  · have hpq : hardput v t = (hardS v t, true) := by unfold hardput; exact if_pos ⟨hv, hvo⟩
    unfold shardW
    rw [hpq, if_neg (by simp)]
    exact hE
  · rw [suread_same q.live hEl hEn (by omega) (hs 0 (by omega) (by omega)) (hs 1 (by omega) (by omega))]
    obtain ⟨g2, i2, h0, x, y⟩ := q.s0
    exact ⟨g2, i2, h0, x, by omega⟩
theorem shardW_no (D : Dv) (t : Hd) : shardW D 3 t = (1, D) := by
  have : hardput 3 t = (⟨#[]⟩, false) := by unfold hardput; rw [if_neg (by omega)]
  unfold shardW
  rw [this]
  exact if_pos rfl
end Go.Pin
namespace Go.Proofs.YtpfkpaombiikcaaDoor
open Go.RowKit Go.Pin
set_option linter.unusedVariables false
set_option linter.unusedSimpArgs false
theorem slots_setsuper_to (b f m : Nat) (d : Dv) (s : Sup) (c : Int) (D : Dv) (hE : ssetW d s = (c, D)) (w : World) (h : DevAt w b f m d) :
    Calls Tryd.prog 35 #[.pointer (some ⟨b, 0, none⟩), .agg #[.int .i64 s.v, .int .i64 s.snap, .int .i64 s.log, .int .i64 s.area, .int .i64 s.half, .int .i64 s.goal, .int .i64 s.step]] w fun e w' => e = .returned (.int .i64 c) ∧ DevAt w' b f m D ∧ Keep (devS b f m) w w' := by
  have := slots_setsuper b f m d s w h
  rw [hE] at this; exact this
theorem slots_sethard_to (b f m : Nat) (d : Dv) (v t o c : Int) (ht : 0 ≤ t ∧ t ≤ 18446744073709551615) (hc : 0 ≤ c ∧ c ≤ 18446744073709551615) (e : Int) (D : Dv) (hE : shardW d v ⟨t, o, c⟩ = (e, D)) (w : World) (h : DevAt w b f m d) :
    Calls Tryd.prog 37 #[.pointer (some ⟨b, 0, none⟩), .int .i64 v, .agg #[.int .u64 t, .int .i64 o, .int .u64 c]] w fun e' w' => e' = .returned (.int .i64 e) ∧ DevAt w' b f m D ∧ Keep (devS b f m) w w' := by
  have := slots_sethard b f m d v t o c ht hc w h
  rw [hE] at this; exact this
theorem slots_load_to (b f m : Nat) (d : Dv) (s : Sup) (h : Hd) (c : Int) (hE : sloadW d = (s, h, c)) (w : World) (hd : DevAt w b f m d) :
    Calls Tryd.prog 36 #[.pointer (some ⟨b, 0, none⟩)] w fun e w' => e = .returned (.tuple #[.agg #[.int .i64 s.v, .int .i64 s.snap, .int .i64 s.log, .int .i64 s.area, .int .i64 s.half, .int .i64 s.goal, .int .i64 s.step], .agg #[.int .u64 h.term, .int .i64 h.vote, .int .u64 h.commit], .int .i64 c]) ∧ Below w.heap.size w w' := by
  have := slots_load b f m d w hd
  rw [hE] at this; exact this
end Go.Proofs.YtpfkpaombiikcaaDoor
