/- rlog: Last, find, Term, Newer, same. -/
import Derived.Test.YthlmigbimeldbaaLgI
set_option maxRecDepth 16000
namespace Go.Pin
open Go.RowKit
set_option linter.unusedVariables false
set_option linter.unusedSimpArgs false
/-- The cells of a log lie in a block. -/
structure LgCells (w : World) (A : Nat) (g : Lg) (p : Option Addr) (n c : Nat) : Prop where
  b : w.cell? ⟨A, 0, none⟩ = some (.int .u64 g.base)
  t : w.cell? ⟨A, 1, none⟩ = some (.int .u64 g.bt)
  s : w.cell? ⟨A, 2, none⟩ = some (.slice p n c)
theorem LgCells.new (w : World) (T : TypeId) (g : Lg) (p : Option Addr) (n c : Nat) : LgCells (w.alloc (.cells #[.int .u64 g.base, .int .u64 g.bt, .slice p n c] T)) w.heap.size g p n c := by
  constructor <;> exact World.cell?_alloc_new w _ _ _
theorem LgCells.keep {S : Nat → Prop} {a w : World} {A : Nat} {g : Lg} {p : Option Addr} {n c : Nat} (h : LgCells a A g p n c) (hk : Keep S a w) (hn : ¬ S A) : LgCells w A g p n c :=
  ⟨hk.cell h.b hn, hk.cell h.t hn, hk.cell h.s hn⟩
theorem below_drewN {B : Nat} {a b : World} (h : Below B a b) (n : Nat) : Below B a (b.drewN n) := ⟨h.os, h.tape, h.output, h.size, h.block⟩
abbrev Lg.val (g : Lg) (p : Option Addr) (n c : Nat) : Value := .agg #[.int .u64 g.base, .int .u64 g.bt, .slice p n c]
end Go.Pin
namespace Go.Proofs.Ythlmigbimeldbaa
open Go.RowKit Go.Pin
set_option linter.unusedVariables false
set_option linter.unusedSimpArgs false
set_option maxHeartbeats 1600000 in
theorem lg_last (g : Lg) (p : Option Addr) (n c : Nat) (hn2 : n ≤ 1000) (w : World) (hL : EntsAt w p n g.l) :
    Calls Try.prog 24 #[g.val p n c] w fun x w' => x = .returned (.tuple #[.int .u64 g.last.1, .int .u64 g.last.2]) ∧ Below w.heap.size w w' := by
  have hk := (Keep.refl (fun _ => False) w).alloc (.cells #[.int .u64 g.base, .int .u64 g.bt, .slice p n c] 27)
  have hb := hk.below (Nat.le_refl _) fun _ q => q.elim
  obtain ⟨cb, ct, cs⟩ := LgCells.new w 27 g p n c
  replace hL := hL.keep' hk
  clear hk
  obtain ⟨base, bt, L⟩ := g
  dsimp only [Lg.val] at *
  have hn := hL.len
  go_enter Try.func24, Try.ntmps24
  go_upto_region 1 with fail
  generalize w.alloc _ = wa at *
  generalize hB : w.heap.size = B at *
  by_cases h0 : 0 < n
  · obtain ⟨e, he⟩ : ∃ x, L[n - 1]? = some x := ⟨L[n - 1], List.getElem?_eq_getElem (by omega)⟩
    obtain ⟨A, o, rfl, hE⟩ := hL.at' _ e he
    have HR := Pin.Aside.mk (show Lg.last ⟨base, bt, L⟩ = (e.index, e.term) by
      unfold Lg.last
      rw [show L.getLast? = some e by rw [List.getLast?_eq_getElem?, hn]; exact he])
    have c0 := hE.c0
    have c1 := hE.c1
    have hn1 : IntKind.i64.wrap ((n : Int) - 1) = (n : Int) - 1 := IntWalk.i64_in _ (by omega)
    have hn3 : ((n : Int) - 1).toNat = n - 1 := by omega
    have hn4 : (0 : Int) ≤ (n : Int) - 1 := by omega
    have hn5 : (n : Int) - 1 < (n : Int) := by omega
    clear hE he hL hn
    go_wp2_with fail
    go_quiet (fail)
    go_wp2_with fail
    go_ret2
    exact ⟨by rw [HR.out]; rfl, by first | exact below_drewN hb _ | (rw [hB]; exact below_drewN hb _)⟩
  · have hn0 : n = 0 := by omega
    subst hn0
    have HR := Pin.Aside.mk (show Lg.last ⟨base, bt, L⟩ = (base, bt) by
      unfold Lg.last
      rw [show L = [] from List.eq_nil_of_length_eq_zero hn]; rfl)
    clear hn hL
    go_wp2_with fail
    go_quiet (fail)
    go_wp2_with fail
    go_ret2
    exact ⟨by rw [HR.out]; rfl, by first | exact below_drewN hb _ | (rw [hB]; exact below_drewN hb _)⟩
set_option maxHeartbeats 1600000 in
theorem lg_find (g : Lg) (i : Int) (p : Option Addr) (n c : Nat) (hn2 : n ≤ 1000) (w : World) (hL : EntsAt w p n g.l) :
    Calls Try.prog 49 #[g.val p n c, .int .u64 i] w fun x w' => x = .returned (.tuple #[.int .i64 (lgIdx (fun e => decide (e.index = i)) g.l), .bool (decide (0 ≤ lgIdx (fun e => decide (e.index = i)) g.l))]) ∧ Below w.heap.size w w' := by
  have hk := (Keep.refl (fun _ => False) w).alloc (.cells #[.int .u64 g.base, .int .u64 g.bt, .slice p n c] 27)
  obtain ⟨cb, ct, cs⟩ := LgCells.new w 27 g p n c
  have hk2 := hk.alloc (.cells #[.int .u64 i] 23)
  have hb := hk2.below (Nat.le_refl _) fun _ q => q.elim
  have cs2 := ((Keep.refl (fun _ => False) _).alloc (.cells #[.int .u64 i] 23)).cell cs id
  have hM : ((w.alloc (.cells #[.int .u64 g.base, .int .u64 g.bt, .slice p n c] 27)).alloc (.cells #[.int .u64 i] 23)).cell? ⟨w.heap.size + 1, 0, none⟩ = some (.int .u64 i) := by
    simp
  have Hc := Pin.Aside.mk (lg_idxFind (fun e => decide (e.index = i)) (w.heap.size + 1) p n c g.l hn2 _ (hL.keep' hk2) (fun e _ W hW => lg_find1 e i (w.heap.size + 1) W ((Keep.of_below (S := fun _ => False) hW fun _ q _ => q).cell hM id)))
  clear hk hk2 hL cb ct cs hM
  generalize lgIdx _ _ = r at *
  obtain ⟨base, bt, L⟩ := g
  dsimp only [Lg.val] at *
  go_enter Try.func49, Try.ntmps49
  go_upto_region 1 with fail
  generalize World.alloc _ _ = wa at *
  generalize hB : w.heap.size = B at *
  go_wp2_with fail
  refine Hc.out.mono ?_
  rintro x w1 ⟨rfl, hbb⟩
  replace hb := hb.trans (hbb.mono (by first | exact hb.size | (rw [← hB]; exact hb.size)))
  clear hbb Hc cs2
  go_wp2_with fail
  go_ret2
  exact ⟨rfl, by first | exact hb | (rw [hB]; exact hb)⟩
theorem lgIdx_cases (q : En → Bool) (L : List En) : (lgIdx q L = -1 ∧ L.find? q = none) ∨ ∃ (k : Nat) (e : En), lgIdx q L = k ∧ L[k]? = some e ∧ L.find? q = some e ∧ q e = true := by
  cases h : L.findIdx? q with
  | none =>
    left
    refine ⟨by unfold lgIdx; rw [h], ?_⟩
    rw [List.findIdx?_eq_none_iff] at h
    rw [List.find?_eq_none]
    intro x hx; rw [h x hx]; decide
  | some k =>
    right
    have h2 := h
    rw [List.findIdx?_eq_some_iff_getElem] at h2
    obtain ⟨hk, hq, hj⟩ := h2
    refine ⟨k, L[k], by unfold lgIdx; rw [h], List.getElem?_eq_getElem hk, ?_, hq⟩
    rw [List.find?_eq_some_iff_getElem]
    exact ⟨hq, k, hk, rfl, fun j hj2 => by have := hj j hj2; simpa using this⟩
set_option maxHeartbeats 1600000 in
theorem lg_term (g : Lg) (i : Int) (p : Option Addr) (n c : Nat) (hn2 : n ≤ 1000) (w : World) (hL : EntsAt w p n g.l) :
    Calls Try.prog 17 #[g.val p n c, .int .u64 i] w fun x w' => x = .returned (.tuple #[.int .u64 ((g.term i).getD 0), .bool (g.term i).isSome]) ∧ Below w.heap.size w w' := by
  have hk := (Keep.refl (fun _ => False) w).alloc (.cells #[.int .u64 g.base, .int .u64 g.bt, .slice p n c] 27)
  have hb := hk.below (Nat.le_refl _) fun _ q => q.elim
  obtain ⟨cb, ct, cs⟩ := LgCells.new w 27 g p n c
  have hL2 := hL.keep' hk
  have Hc := Pin.Aside.mk (lg_find g i p n c hn2 _ hL2)
  clear hk hL
  by_cases hi : i = g.base
  · have HR := Pin.Aside.mk (show g.term i = some g.bt by unfold Lg.term; rw [if_pos hi])
    subst hi
    obtain ⟨base, bt, L⟩ := g
    dsimp only [Lg.val] at *
    clear Hc hL2
    go_enter Try.func17, Try.ntmps17
    go_upto_region 1 with fail
    generalize World.alloc _ _ = wa at *
    generalize hB : w.heap.size = B at *
    go_wp2_with fail
    go_ret2
    exact ⟨by rw [HR.out]; rfl, by first | exact hb | (rw [hB]; exact hb)⟩
  · have HR := Pin.Aside.mk (show g.term i = (g.l.find? fun e => decide (e.index = i)).map (·.term) by unfold Lg.term; rw [if_neg hi])
    rcases lgIdx_cases (fun e => decide (e.index = i)) g.l with ⟨h1, h2⟩ | ⟨k, e, h1, h2, h3, h4⟩
    · rw [h1] at Hc
      have HR2 := Pin.Aside.mk (show g.term i = none by rw [HR.out, h2]; rfl)
      clear HR h1 h2 hL2
      obtain ⟨base, bt, L⟩ := g
      dsimp only [Lg.val] at *
      go_enter Try.func17, Try.ntmps17
      go_upto_region 1 with fail
      generalize World.alloc _ _ = wa at *
      generalize hB : w.heap.size = B at *
      go_wp2_with fail
      refine Hc.out.mono ?_
      rintro x w1 ⟨rfl, hbb⟩
      replace hb := hb.trans (hbb.mono (by first | exact hb.size | (rw [← hB]; exact hb.size)))
      clear hbb Hc cs cb ct
      go_wp2_with fail
      go_ret2
      exact ⟨by rw [HR2.out]; rfl, by first | exact hb | (rw [hB]; exact hb)⟩
    · rw [h1] at Hc
      have HR2 := Pin.Aside.mk (show g.term i = some e.term by rw [HR.out, h3]; rfl)
      have hkn : k < n := by rw [← hL2.len]; exact (List.getElem?_eq_some_iff.1 h2).1
      obtain ⟨A, o, rfl, hE⟩ := hL2.at' k e h2
      clear HR h1 h2 h3 h4 hL2
      have HE := Pin.Aside.mk hE.c0
      clear hE
      obtain ⟨base, bt, L⟩ := g
      dsimp only [Lg.val] at *
      go_enter Try.func17, Try.ntmps17
      go_upto_region 1 with fail
      generalize World.alloc _ _ = wa at *
      generalize hB : w.heap.size = B at *
      go_wp2_with fail
      refine Hc.out.mono ?_
      rintro x w1 ⟨rfl, hbb⟩
      have hkk : Keep (fun _ => False) wa w1 := Keep.of_below hbb fun _ q _ => q
      have c0 := hkk.cell HE.out id
      replace cs := hkk.cell cs id
      replace hb := hb.trans (hbb.mono (by first | exact hb.size | (rw [← hB]; exact hb.size)))
      have hk0 : (0 : Int) ≤ (k : Int) := by omega
      have hk1 : (k : Int) < (n : Int) := by omega
      clear hbb Hc cb ct hkk
      go_wp2_with fail
      go_ret2
      exact ⟨by rw [HR2.out]; rfl, by first | exact hb | (rw [hB]; exact hb)⟩
set_option maxHeartbeats 1600000 in
theorem lg_same (g : Lg) (i t : Int) (p : Option Addr) (n c : Nat) (hn2 : n ≤ 1000) (w : World) (hL : EntsAt w p n g.l) :
    Calls Try.prog 50 #[g.val p n c, .int .u64 i, .int .u64 t] w fun x w' => x = .returned (.bool (g.same i t)) ∧ Below w.heap.size w w' := by
  have hk := (Keep.refl (fun _ => False) w).alloc (.cells #[.int .u64 g.base, .int .u64 g.bt, .slice p n c] 27)
  have hb := hk.below (Nat.le_refl _) fun _ q => q.elim
  obtain ⟨cb, ct, cs⟩ := LgCells.new w 27 g p n c
  have Hc := Pin.Aside.mk (lg_term g i p n c hn2 _ (hL.keep' hk))
  clear hk hL
  have HR := Pin.Aside.mk (show g.same i t = ((g.term i).isSome && ((g.term i).getD 0 == t)) by
    unfold Lg.same
    cases g.term i with
    | none => simp
    | some u => simp [Bool.beq_eq_decide_eq])
  cases hT : g.term i with
  | none =>
    rw [hT] at Hc HR
    dsimp only [Option.isSome, Option.getD] at Hc HR
    clear hT
    obtain ⟨base, bt, L⟩ := g
    dsimp only [Lg.val] at *
    go_enter Try.func50, Try.ntmps50
    go_upto_region 1 with fail
    generalize World.alloc _ _ = wa at *
    generalize hB : w.heap.size = B at *
    go_wp2_with fail
    refine Hc.out.mono ?_
    rintro x w1 ⟨rfl, hbb⟩
    replace hb := hb.trans (hbb.mono (by first | exact hb.size | (rw [← hB]; exact hb.size)))
    clear hbb Hc cb ct cs
    go_wp2_with fail
    go_ret
    exact ⟨by rw [HR.out]; rfl, by first | exact hb | (rw [hB]; exact hb)⟩
  | some u =>
    rw [hT] at Hc HR
    dsimp only [Option.isSome, Option.getD] at Hc HR
    clear hT
    obtain ⟨base, bt, L⟩ := g
    dsimp only [Lg.val] at *
    go_enter Try.func50, Try.ntmps50
    go_upto_region 1 with fail
    generalize World.alloc _ _ = wa at *
    generalize hB : w.heap.size = B at *
    go_wp2_with fail
    refine Hc.out.mono ?_
    rintro x w1 ⟨rfl, hbb⟩
    replace hb := hb.trans (hbb.mono (by first | exact hb.size | (rw [← hB]; exact hb.size)))
    clear hbb Hc cb ct cs
    go_wp2_with fail
    go_ret
    exact ⟨by rw [HR.out, Bool.true_and]; rfl, by first | exact hb | (rw [hB]; exact hb)⟩
set_option maxHeartbeats 1600000 in
theorem lg_newer (g : Lg) (i t : Int) (p : Option Addr) (n c : Nat) (hn2 : n ≤ 1000) (w : World) (hL : EntsAt w p n g.l) :
    Calls Try.prog 25 #[g.val p n c, .int .u64 i, .int .u64 t] w fun x w' => x = .returned (.bool (g.newer i t)) ∧ Below w.heap.size w w' := by
  have hk := (Keep.refl (fun _ => False) w).alloc (.cells #[.int .u64 g.base, .int .u64 g.bt, .slice p n c] 27)
  have hb := hk.below (Nat.le_refl _) fun _ q => q.elim
  obtain ⟨cb, ct, cs⟩ := LgCells.new w 27 g p n c
  have Hc := Pin.Aside.mk (lg_last g p n c hn2 _ (hL.keep' hk))
  clear hk hL
  unfold Lg.newer
  obtain ⟨⟨a, b⟩, hab⟩ : ∃ q, g.last = q := ⟨_, rfl⟩
  rw [hab] at Hc ⊢
  dsimp only at Hc ⊢
  clear hab
  obtain ⟨base, bt, L⟩ := g
  dsimp only [Lg.val] at *
  go_enter Try.func25, Try.ntmps25
  go_upto_region 1 with fail
  generalize World.alloc _ _ = wa at *
  generalize hB : w.heap.size = B at *
  go_wp2_with fail
  refine Hc.out.mono ?_
  rintro x w1 ⟨rfl, hbb⟩
  replace hb := hb.trans (hbb.mono (by first | exact hb.size | (rw [← hB]; exact hb.size)))
  clear hbb Hc cb ct cs
  by_cases h1 : b < t
  · go_wp2_with fail
    go_ret
    exact ⟨by simp [h1], by first | exact hb | (rw [hB]; exact hb)⟩
  · by_cases h2 : t = b
    · go_wp2_with fail
      go_ret
      exact ⟨by simp [h2], by first | exact hb | (rw [hB]; exact hb)⟩
    · go_wp2_with fail
      go_ret
      exact ⟨by simp [h2], by first | exact hb | (rw [hB]; exact hb)⟩
end Go.Proofs.Ythlmigbimeldbaa
