import Derived.Test.YtpfkpaombiikcaaGreatDoorSlH
import Derived.Test.YtpfkpaombiikcaaGreatDoorZSlM
/- slots: contracts whose answers are known, sizes; the examples of chapter 9. -/
set_option maxRecDepth 16000
namespace Go.Pin
open Go.RowKit
set_option linter.unusedVariables false
set_option linter.unusedSimpArgs false
theorem snum_short (v : Int) (n k : Nat) (hk : 1 ≤ k ∧ k ≤ 8) (hn : n < 128 ^ k) (hn2 : n < 16384) : (snum v n k).size ≤ k := by
  unfold snum
  split
  · unfold fixedS
    rw [if_neg (by omega), size_mk, fixedL_len]; omega
  · unfold vputS
    rw [size_mk]
    by_cases h : n < 128
    · rw [vput_small n h]; exact hk.1
    · rw [vput_big n (by omega) (by omega), vput_small _ (by omega)]
      show 2 ≤ k
      rcases Nat.lt_or_ge k 2 with q | q
      · have : k = 1 := by omega
        subst this; omega
      · exact q
theorem supS_size (s : Sup) (hr : s.right = true) : (supS s).size ≤ 9 := by
  obtain ⟨⟨_, _⟩, ⟨_, _⟩, ⟨_, _⟩, ⟨_, _⟩, ⟨_, _⟩, ⟨_, _⟩, ⟨_, _⟩, _⟩ := Sup.right_iff hr
  have h1 : (fixedS s.v.toNat 1).size = 1 := by
    unfold fixedS
    rw [if_neg (by omega), size_mk, fixedL_len]; rfl
  have h2 := snum_short s.v s.snap.toNat 2 (by omega) (by omega) (by omega)
  have h3 := snum_short s.v s.log.toNat 2 (by omega) (by omega) (by omega)
  have h4 := snum_short s.v s.area.toNat 1 (by omega) (by omega) (by omega)
  have h5 := snum_short s.v s.half.toNat 1 (by omega) (by omega) (by omega)
  have h6 := snum_short s.v s.goal.toNat 1 (by omega) (by omega) (by omega)
  have h7 := snum_short s.v s.step.toNat 1 (by omega) (by omega) (by omega)
  unfold supS
  simp only [ByteArray.size_append]
  replace h2 : (snum s.v s.snap.toNat 2).size ≤ 2 := h2
  replace h3 : (snum s.v s.log.toNat 2).size ≤ 2 := h3
  replace h4 : (snum s.v s.area.toNat 1).size ≤ 1 := h4
  replace h5 : (snum s.v s.half.toNat 1).size ≤ 1 := h5
  replace h6 : (snum s.v s.goal.toNat 1).size ≤ 1 := h6
  replace h7 : (snum s.v s.step.toNat 1).size ≤ 1 := h7
  omega
theorem hardS_size (v : Int) (h : Hd) : (hardS v h).size ≤ 40 := by
  have h1 : (fixedS (16 + v).toNat 1).size ≤ 10 := by
    unfold fixedS
    split
    · exact Nat.zero_le _
    · rw [size_mk, fixedL_len]; omega
  have h2 := snum_size v h.term.toNat 8
  have h3 := snum_size v h.vote.toNat 1
  have h4 := snum_size v h.commit.toNat 8
  unfold hardS
  simp only [ByteArray.size_append]; omega
end Go.Pin
namespace Go.Proofs.YtpfkpaombiikcaaGreatDoor
open Go.RowKit Go.Pin
set_option linter.unusedVariables false
set_option linter.unusedSimpArgs false
theorem slots_get_to (b : ByteArray) (hs : b.size ≤ 1152921504606846976) (s : Sup) (o : Bool) (hE : supget b = (s, o)) (w : World) :
    Calls Tryz.prog 25 #[.string b] w fun e w' => e = .returned (.tuple #[.agg #[.int .i64 s.v, .int .i64 s.snap, .int .i64 s.log, .int .i64 s.area, .int .i64 s.half, .int .i64 s.goal, .int .i64 s.step], .bool o]) ∧ Below w.heap.size w w' := by
  have := slots_getsuper b hs w
  rw [hE] at this; exact this
theorem slots_gethard_to (b : ByteArray) (hs : b.size ≤ 1152921504606846976) (h : Hd) (v : Int) (o : Bool) (hE : hardget b = (h, v, o)) (w : World) :
    Calls Tryz.prog 26 #[.string b] w fun e w' => e = .returned (.tuple #[.agg #[.int .u64 h.term, .int .i64 h.vote, .int .u64 h.commit], .int .i64 v, .bool o]) ∧ Below w.heap.size w w' := by
  have := slots_gethard b hs w
  rw [hE] at this; exact this
theorem slots_put_to (s : Sup) (b : ByteArray) (o : Bool) (hE : supput s = (b, o)) (w : World) :
    Calls Tryz.prog 24 #[.agg #[.int .i64 s.v, .int .i64 s.snap, .int .i64 s.log, .int .i64 s.area, .int .i64 s.half, .int .i64 s.goal, .int .i64 s.step]] w fun e w' => e = .returned (.tuple #[.string b, .bool o]) ∧ Below w.heap.size w w' := by
  have := slots_putsuper s w
  rw [hE] at this; exact this
theorem ex_right : (⟨1, 2, 3, 0, 0, 0, 0⟩ : Sup).right = true := by decide
theorem ex_put : supput ⟨1, 2, 3, 0, 0, 0, 0⟩ = (⟨#[1, 0, 2, 0, 3, 0, 0, 0, 0]⟩, true) := by
  unfold supput
  rw [if_pos ex_right]
  have : supS ⟨1, 2, 3, 0, 0, 0, 0⟩ = ⟨#[1, 0, 2, 0, 3, 0, 0, 0, 0]⟩ := by decide +kernel
  rw [this]
theorem ex_get : supget ⟨#[1, 0, 2, 0, 3, 0, 0, 0, 0]⟩ = (⟨1, 2, 3, 0, 0, 0, 0⟩, true) := by
  have : supS ⟨1, 2, 3, 0, 0, 0, 0⟩ = ⟨#[1, 0, 2, 0, 3, 0, 0, 0, 0]⟩ := by decide +kernel
  rw [← this]
  exact supget_put _ ex_right
theorem ex_hard : hardget ⟨#[18, 5, 3, 4]⟩ = (⟨5, 3, 4⟩, 2, true) := by
  have : hardS 2 ⟨5, 3, 4⟩ = ⟨#[18, 5, 3, 4]⟩ := by decide +kernel
  rw [← this]
  exact hardget_put 2 (.inr rfl) ⟨5, 3, 4⟩ ⟨by decide, by decide, by decide, by decide⟩ ⟨by decide, by decide⟩
theorem ex_none : supget ⟨#[]⟩ = (⟨0, 0, 0, 0, 0, 0, 0⟩, false) := by
  rcases supget_inv ⟨#[]⟩ with h | ⟨s, _, h⟩
  · exact h
  · exfalso
    have : (supS s).size = 0 := by rw [← h]; rfl
    rw [supS_list, bs_size] at this
    unfold supL at this
    rw [List.length_append, fixedL_len] at this
    omega
set_option maxHeartbeats 1600000 in
theorem slots_examples (w : World) : Calls Tryz.prog 4 #[] w fun e w' => e = .returned (.bool true) ∧ Below w.heap.size w w' := by
  have hse := str_beq
  have hb := Below.refl w.heap.size w
  have hs14 : ssectors ⟨1, 2, 3, 0, 0, 0, 0⟩ = 14 := by decide
  have HSec := Pin.Aside.mk fun W => slots_sectors ⟨1, 2, 3, 0, 0, 0, 0⟩ W
  rw [hs14] at HSec
  clear hs14
  go_enter Tryz.func4, Tryz.ntmps4
  go_wp2_with fail
  refine (slots_put_to ⟨1, 2, 3, 0, 0, 0, 0⟩ _ _ ex_put _).mono ?_
  rintro e w1 ⟨rfl, hbb⟩
  replace hb := Below.next hb hbb
  clear hbb
  go_wp2_with fail
  refine (slots_get_to _ (by decide) _ _ ex_get _).mono ?_
  rintro e w2 ⟨rfl, hbb⟩
  replace hb := Below.next hb hbb
  have hS := SevenAt.new w2 ⟨1, 2, 3, 0, 0, 0, 0⟩ 23
  replace hb := hb.alloc hb.size (sevenO ⟨1, 2, 3, 0, 0, 0, 0⟩ 23)
  unfold sevenO at hS hb
  clear hbb
  go_wp2_with fail
  refine (slots_gethard_to ⟨#[18, 5, 3, 4]⟩ (by decide) _ _ _ ex_hard _).mono ?_
  rintro e w3 ⟨rfl, hbb⟩
  have hk := (Keep.of_below (S := fun _ => False) hbb fun _ hk _ => hk).alloc (.cells #[.int .u64 5, .int .i64 3, .int .u64 4] 26)
  replace hb := hb.trans (hk.below hb.size fun _ q => q.elim)
  replace hS := hS.keep hk id
  have hT := SevAt.new w3 #[.int .u64 5, .int .i64 3, .int .u64 4] 26 3 rfl
  clear hbb hk
  go_wp2_with fail
  refine (slots_get_to ⟨#[]⟩ (by decide) _ _ ex_none _).mono ?_
  rintro e w4 ⟨rfl, hbb⟩
  have hk := (Keep.of_below (S := fun _ => False) hbb fun _ hk _ => hk).alloc (.cells #[.int .i64 0, .int .i64 0, .int .i64 0, .int .i64 0, .int .i64 0, .int .i64 0, .int .i64 0] 23)
  replace hb := hb.trans (hk.below hb.size fun _ q => q.elim)
  replace hS := hS.keep hk id
  replace hT := hT.keep hk id
  clear hbb hk
  obtain ⟨c0, c1, c2, c3, c4, c5, c6⟩ := hS
  obtain ⟨x0, x1, x2⟩ := hT.get3
  dsimp only at c0 c1 c2 c3 c4 c5 c6
  replace x0 : _ = some (Value.int IntKind.u64 5) := x0
  replace x1 : _ = some (Value.int IntKind.i64 3) := x1
  replace x2 : _ = some (Value.int IntKind.u64 4) := x2
  clear hT
  go_wp2_with fail
  refine (HSec.out _).mono ?_
  rintro e w5 ⟨rfl, hbb⟩
  replace hb := Below.next hb hbb
  clear hbb
  go_wp2_with fail
  go_ret
  exact ⟨rfl, hb⟩
end Go.Proofs.YtpfkpaombiikcaaGreatDoor
/- slots: blocks that hold a super, or a hard state, and may be written. -/
set_option maxRecDepth 16000
namespace Go.Pin
open Go.RowKit
set_option linter.unusedVariables false
set_option linter.unusedSimpArgs false
/-- Block B holds a hard state. -/
structure HardAt (w : World) (B : Nat) (t o c : Int) : Prop where
  c0 : w.cell? ⟨B, 0, none⟩ = some (.int .u64 t)
  c1 : w.cell? ⟨B, 1, none⟩ = some (.int .i64 o)
  c2 : w.cell? ⟨B, 2, none⟩ = some (.int .u64 c)
theorem HardAt.keep {S : Nat → Prop} {a w : World} {B : Nat} {t o c : Int} (h : HardAt a B t o c) (hk : Keep S a w) (hn : ¬ S B) : HardAt w B t o c := ⟨hk.cell h.c0 hn, hk.cell h.c1 hn, hk.cell h.c2 hn⟩
theorem HardAt.below {a w : World} {B : Nat} {t o c : Int} (h : HardAt a B t o c) (hk : Below a.heap.size a w) : HardAt w B t o c := h.keep (Keep.of_below (S := fun _ => False) hk fun _ hk _ => hk) id
/-- A block that holds a super, or a hard state, and may be written. -/
structure SevenF (w : World) (B : Nat) (s : Sup) : Prop where
  at' : SevenAt w B s
  fr : ∀ i, i < 7 → w.frozen? ⟨B, i, none⟩ = false
structure HardF (w : World) (B : Nat) (t o c : Int) : Prop where
  at' : HardAt w B t o c
  fr : ∀ i, i < 3 → w.frozen? ⟨B, i, none⟩ = false
theorem SevenF.lt {w : World} {B : Nat} {s : Sup} (h : SevenF w B s) : B < w.heap.size := World.block_lt_of_cell? (a := ⟨B, 0, none⟩) _ h.at'.c0
theorem HardF.lt {w : World} {B : Nat} {t o c : Int} (h : HardF w B t o c) : B < w.heap.size := World.block_lt_of_cell? (a := ⟨B, 0, none⟩) _ h.at'.c0
theorem SevenF.keep {S : Nat → Prop} {a w : World} {B : Nat} {s : Sup} (h : SevenF a B s) (hk : Keep S a w) (hn : ¬ S B) : SevenF w B s :=
  ⟨h.at'.keep hk hn, fun i hi => by rw [hk.frozen (p := ⟨B, i, none⟩) h.lt hn]; exact h.fr i hi⟩
theorem HardF.keep {S : Nat → Prop} {a w : World} {B : Nat} {t o c : Int} (h : HardF a B t o c) (hk : Keep S a w) (hn : ¬ S B) : HardF w B t o c :=
  ⟨h.at'.keep hk hn, fun i hi => by rw [hk.frozen (p := ⟨B, i, none⟩) h.lt hn]; exact h.fr i hi⟩
theorem SevenF.new (w : World) (s : Sup) (t : TypeId) : SevenF (w.alloc (sevenO s t)) w.heap.size s :=
  ⟨SevenAt.new w s t, fun i _ => World.frozen?_alloc_at _ _ _ _ rfl⟩
theorem HardF.new (w : World) (t o c : Int) (ty : TypeId) : HardF (w.alloc (.cells #[.int .u64 t, .int .i64 o, .int .u64 c] ty)) w.heap.size t o c :=
  have h := SevAt.new w #[.int .u64 t, .int .i64 o, .int .u64 c] ty 3 rfl
  ⟨⟨h.get3.1, h.get3.2.1, h.get3.2.2⟩, fun i _ => World.frozen?_alloc_at _ _ _ _ rfl⟩
theorem SevenF.set {w : World} {B : Nat} {s : Sup} (h : SevenF w B s) {R k : Nat} (hne : R ≠ B) (v : Value) : SevenF (w.setCell ⟨R, k, none⟩ v) B s :=
  have o : ∀ i, (w.setCell ⟨R, k, none⟩ v).cell? ⟨B, i, none⟩ = w.cell? ⟨B, i, none⟩ := fun i => World.cell?_setCell_other _ _ _ _ (fun q => hne (congrArg Addr.block q))
  ⟨⟨by rw [o]; exact h.at'.c0, by rw [o]; exact h.at'.c1, by rw [o]; exact h.at'.c2, by rw [o]; exact h.at'.c3, by rw [o]; exact h.at'.c4, by rw [o]; exact h.at'.c5, by rw [o]; exact h.at'.c6⟩, fun i hi => by rw [World.frozen?_setCell]; exact h.fr i hi⟩
theorem HardF.set {w : World} {B : Nat} {t o c : Int} (h : HardF w B t o c) {R k : Nat} (hne : R ≠ B) (v : Value) : HardF (w.setCell ⟨R, k, none⟩ v) B t o c :=
  have o : ∀ i, (w.setCell ⟨R, k, none⟩ v).cell? ⟨B, i, none⟩ = w.cell? ⟨B, i, none⟩ := fun i => World.cell?_setCell_other _ _ _ _ (fun q => hne (congrArg Addr.block q))
  ⟨⟨by rw [o]; exact h.at'.c0, by rw [o]; exact h.at'.c1, by rw [o]; exact h.at'.c2⟩, fun i hi => by rw [World.frozen?_setCell]; exact h.fr i hi⟩
theorem SevAt.ofSeven {w : World} {B : Nat} {s : Sup} (h : SevenF w B s) : SevAt w B 7 (fun i => (#[.int .i64 s.v, .int .i64 s.snap, .int .i64 s.log, .int .i64 s.area, .int .i64 s.half, .int .i64 s.goal, .int .i64 s.step] : Array Value).getD i undef) :=
  ⟨fun i hi => by
    obtain ⟨⟨c0, c1, c2, c3, c4, c5, c6⟩, _⟩ := h
    rcases (show i = 0 ∨ i = 1 ∨ i = 2 ∨ i = 3 ∨ i = 4 ∨ i = 5 ∨ i = 6 by omega) with rfl | rfl | rfl | rfl | rfl | rfl | rfl <;> assumption, h.fr⟩
theorem SevenF.area {w : World} {B : Nat} {s : Sup} (h : SevenF w B s) (x : Int) : SevenF (w.setCell ⟨B, 3, none⟩ (.int .i64 x)) B ⟨s.v, s.snap, s.log, x, s.half, s.goal, s.step⟩ := by
  have g := (SevAt.ofSeven h).set 3 (by omega) (.int .i64 x)
  obtain ⟨e0, e1, e2, e3, e4, e5, e6⟩ := g.get7
  exact ⟨⟨e0, e1, e2, e3, e4, e5, e6⟩, g.fr⟩
theorem SevAt.ofHard {w : World} {B : Nat} {t o c : Int} (h : HardF w B t o c) : SevAt w B 3 (fun i => (#[.int .u64 t, .int .i64 o, .int .u64 c] : Array Value).getD i undef) :=
  ⟨fun i hi => by
    obtain ⟨⟨c0, c1, c2⟩, _⟩ := h
    rcases (show i = 0 ∨ i = 1 ∨ i = 2 by omega) with rfl | rfl | rfl <;> assumption, h.fr⟩
theorem HardF.put {w : World} {B : Nat} {t o c : Int} (h : HardF w B t o c) (t' o' c' : Int) : HardF (((w.setCell ⟨B, 0, none⟩ (.int .u64 t')).setCell ⟨B, 1, none⟩ (.int .i64 o')).setCell ⟨B, 2, none⟩ (.int .u64 c')) B t' o' c' := by
  have g := (((SevAt.ofHard h).set 0 (by omega) (.int .u64 t')).set 1 (by omega) (.int .i64 o')).set 2 (by omega) (.int .u64 c')
  obtain ⟨e0, e1, e2⟩ := g.get3
  exact ⟨⟨e0, e1, e2⟩, g.fr⟩
theorem SevenF.ver {w : World} {B : Nat} {s : Sup} (h : SevenF w B s) (x : Int) : SevenF (w.setCell ⟨B, 0, none⟩ (.int .i64 x)) B ⟨x, s.snap, s.log, s.area, s.half, s.goal, s.step⟩ := by
  have g := (SevAt.ofSeven h).set 0 (by omega) (.int .i64 x)
  obtain ⟨e0, e1, e2, e3, e4, e5, e6⟩ := g.get7
  exact ⟨⟨e0, e1, e2, e3, e4, e5, e6⟩, g.fr⟩
theorem HardF.vote {w : World} {B : Nat} {t o c : Int} (h : HardF w B t o c) (o' : Int) : HardF (w.setCell ⟨B, 1, none⟩ (.int .i64 o')) B t o' c := by
  have g := (SevAt.ofHard h).set 1 (by omega) (.int .i64 o')
  obtain ⟨e0, e1, e2⟩ := g.get3
  exact ⟨⟨e0, e1, e2⟩, g.fr⟩
end Go.Pin
/- slots: a super near to what may be. -/
set_option maxRecDepth 16000
namespace Go.Pin
open Go.RowKit
set_option linter.unusedVariables false
set_option linter.unusedSimpArgs false
def Sup.near (s : Sup) : Sup := ⟨s.v.tmod 4, s.snap.tmod 1003, s.log.tmod 1003, s.area.tmod 3, s.half.tmod 3, s.goal.tmod 4, s.step.tmod 11⟩
end Go.Pin
namespace Go.Proofs.YtpfkpaombiikcaaGreatDoor
open Go.RowKit Go.Pin
set_option linter.unusedVariables false
set_option linter.unusedSimpArgs false
set_option maxHeartbeats 1600000 in
theorem slots_small (v snap log area half goal step : Int) (w : World) : Calls Tryz.prog 7 #[.agg #[.int .i64 v, .int .i64 snap, .int .i64 log, .int .i64 area, .int .i64 half, .int .i64 goal, .int .i64 step]] w fun e w' => e = .returned (.agg #[.int .i64 (v.tmod 4), .int .i64 (snap.tmod 1003), .int .i64 (log.tmod 1003), .int .i64 (area.tmod 3), .int .i64 (half.tmod 3), .int .i64 (goal.tmod 4), .int .i64 (step.tmod 11)]) ∧ Below w.heap.size w w' := by
  have hz : (w.alloc (.cells #[.int .i64 v, .int .i64 snap, .int .i64 log, .int .i64 area, .int .i64 half, .int .i64 goal, .int .i64 step] 23)).heap.size = w.heap.size + 1 := by simp
  have hn := SevenAt.new (w.alloc (.cells #[.int .i64 v, .int .i64 snap, .int .i64 log, .int .i64 area, .int .i64 half, .int .i64 goal, .int .i64 step] 23)) ⟨(v.tmod 4), (snap.tmod 1003), (log.tmod 1003), (area.tmod 3), (half.tmod 3), (goal.tmod 4), (step.tmod 11)⟩ 23
  rw [hz] at hn
  unfold sevenO at hn
  dsimp only at hn
  have hb := ((Below.refl w.heap.size w).alloc (Nat.le_refl _) (.cells #[.int .i64 v, .int .i64 snap, .int .i64 log, .int .i64 area, .int .i64 half, .int .i64 goal, .int .i64 step] 23)).alloc (by simp) (.cells #[.int .i64 (v.tmod 4), .int .i64 (snap.tmod 1003), .int .i64 (log.tmod 1003), .int .i64 (area.tmod 3), .int .i64 (half.tmod 3), .int .i64 (goal.tmod 4), .int .i64 (step.tmod 11)] 23)
  have Hn := Pin.Aside.mk hn
  have Hb := Pin.Aside.mk hb
  clear hn hb
  go_enter Tryz.func7, Tryz.ntmps7
  go_wp2_with fail
  obtain ⟨c0, c1, c2, c3, c4, c5, c6⟩ := Hn.out
  dsimp only at c0 c1 c2 c3 c4 c5 c6
  refine bodyPost_ret (v := .agg #[.int .i64 (v.tmod 4), .int .i64 (snap.tmod 1003), .int .i64 (log.tmod 1003), .int .i64 (area.tmod 3), .int .i64 (half.tmod 3), .int .i64 (goal.tmod 4), .int .i64 (step.tmod 11)]) (by simp [results, Tryz.results7, go_sem, *]) rfl ?_
  exact ⟨rfl, Hb.out⟩
end Go.Proofs.YtpfkpaombiikcaaGreatDoor
