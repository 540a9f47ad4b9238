/- slots: blocks that hold a super, or a hard state, and may be written. -/
import Derived.Test.YtpfkpaombiikcaaSlF
set_option maxRecDepth 16000
namespace Go.Pin
open Go.RowKit
set_option linter.unusedVariables false
set_option linter.unusedSimpArgs false
/-- Block B holds a hard state. -/
structure HardAt (w : World) (B : Nat) (t o c : Int) : Prop where
  c0 : w.cell? ⟨B, 0, none⟩ = some (.int .u64 t)
  c1 : w.cell? ⟨B, 1, none⟩ = some (.int .i64 o)
  c2 : w.cell? ⟨B, 2, none⟩ = some (.int .u64 c)
theorem HardAt.keep {S : Nat → Prop} {a w : World} {B : Nat} {t o c : Int} (h : HardAt a B t o c) (hk : Keep S a w) (hn : ¬ S B) : HardAt w B t o c := ⟨hk.cell h.c0 hn, hk.cell h.c1 hn, hk.cell h.c2 hn⟩
theorem HardAt.below {a w : World} {B : Nat} {t o c : Int} (h : HardAt a B t o c) (hk : Below a.heap.size a w) : HardAt w B t o c := h.keep (Keep.of_below (S := fun _ => False) hk fun _ hk _ => hk) id
/-- A block that holds a super, or a hard state, and may be written. -/
structure SevenF (w : World) (B : Nat) (s : Sup) : Prop where
  at' : SevenAt w B s
  fr : ∀ i, i < 7 → w.frozen? ⟨B, i, none⟩ = false
structure HardF (w : World) (B : Nat) (t o c : Int) : Prop where
  at' : HardAt w B t o c
  fr : ∀ i, i < 3 → w.frozen? ⟨B, i, none⟩ = false
theorem SevenF.lt {w : World} {B : Nat} {s : Sup} (h : SevenF w B s) : B < w.heap.size := World.block_lt_of_cell? (a := ⟨B, 0, none⟩) _ h.at'.c0
theorem HardF.lt {w : World} {B : Nat} {t o c : Int} (h : HardF w B t o c) : B < w.heap.size := World.block_lt_of_cell? (a := ⟨B, 0, none⟩) _ h.at'.c0
theorem SevenF.keep {S : Nat → Prop} {a w : World} {B : Nat} {s : Sup} (h : SevenF a B s) (hk : Keep S a w) (hn : ¬ S B) : SevenF w B s :=
  ⟨h.at'.keep hk hn, fun i hi => by rw [hk.frozen (p := ⟨B, i, none⟩) h.lt hn]; exact h.fr i hi⟩
theorem HardF.keep {S : Nat → Prop} {a w : World} {B : Nat} {t o c : Int} (h : HardF a B t o c) (hk : Keep S a w) (hn : ¬ S B) : HardF w B t o c :=
  ⟨h.at'.keep hk hn, fun i hi => by rw [hk.frozen (p := ⟨B, i, none⟩) h.lt hn]; exact h.fr i hi⟩
theorem SevenF.new (w : World) (s : Sup) (t : TypeId) : SevenF (w.alloc (sevenO s t)) w.heap.size s :=
  ⟨SevenAt.new w s t, fun i _ => World.frozen?_alloc_at _ _ _ _ rfl⟩
theorem HardF.new (w : World) (t o c : Int) (ty : TypeId) : HardF (w.alloc (.cells #[.int .u64 t, .int .i64 o, .int .u64 c] ty)) w.heap.size t o c :=
  have h := SevAt.new w #[.int .u64 t, .int .i64 o, .int .u64 c] ty 3 rfl
  ⟨⟨h.get3.1, h.get3.2.1, h.get3.2.2⟩, fun i _ => World.frozen?_alloc_at _ _ _ _ rfl⟩
theorem SevenF.set {w : World} {B : Nat} {s : Sup} (h : SevenF w B s) {R k : Nat} (hne : R ≠ B) (v : Value) : SevenF (w.setCell ⟨R, k, none⟩ v) B s :=
  have o : ∀ i, (w.setCell ⟨R, k, none⟩ v).cell? ⟨B, i, none⟩ = w.cell? ⟨B, i, none⟩ := fun i => World.cell?_setCell_other _ _ _ _ (fun q => hne (congrArg Addr.block q))
  ⟨⟨by rw [o]; exact h.at'.c0, by rw [o]; exact h.at'.c1, by rw [o]; exact h.at'.c2, by rw [o]; exact h.at'.c3, by rw [o]; exact h.at'.c4, by rw [o]; exact h.at'.c5, by rw [o]; exact h.at'.c6⟩, fun i hi => by rw [World.frozen?_setCell]; exact h.fr i hi⟩
theorem HardF.set {w : World} {B : Nat} {t o c : Int} (h : HardF w B t o c) {R k : Nat} (hne : R ≠ B) (v : Value) : HardF (w.setCell ⟨R, k, none⟩ v) B t o c :=
  have o : ∀ i, (w.setCell ⟨R, k, none⟩ v).cell? ⟨B, i, none⟩ = w.cell? ⟨B, i, none⟩ := fun i => World.cell?_setCell_other _ _ _ _ (fun q => hne (congrArg Addr.block q))
  ⟨⟨by rw [o]; exact h.at'.c0, by rw [o]; exact h.at'.c1, by rw [o]; exact h.at'.c2⟩, fun i hi => by rw [World.frozen?_setCell]; exact h.fr i hi⟩
theorem SevAt.ofSeven {w : World} {B : Nat} {s : Sup} (h : SevenF w B s) : SevAt w B 7 (fun i => (#[.int .i64 s.v, .int .i64 s.snap, .int .i64 s.log, .int .i64 s.area, .int .i64 s.half, .int .i64 s.goal, .int .i64 s.step] : Array Value).getD i undef) :=
  ⟨fun i hi => by
    obtain ⟨⟨c0, c1, c2, c3, c4, c5, c6⟩, _⟩ := h
    rcases (show i = 0 ∨ i = 1 ∨ i = 2 ∨ i = 3 ∨ i = 4 ∨ i = 5 ∨ i = 6 by omega) with rfl | rfl | rfl | rfl | rfl | rfl | rfl <;> assumption, h.fr⟩
theorem SevenF.area {w : World} {B : Nat} {s : Sup} (h : SevenF w B s) (x : Int) : SevenF (w.setCell ⟨B, 3, none⟩ (.int .i64 x)) B ⟨s.v, s.snap, s.log, x, s.half, s.goal, s.step⟩ := by
  have g := (SevAt.ofSeven h).set 3 (by omega) (.int .i64 x)
  obtain ⟨e0, e1, e2, e3, e4, e5, e6⟩ := g.get7
  exact ⟨⟨e0, e1, e2, e3, e4, e5, e6⟩, g.fr⟩
theorem SevAt.ofHard {w : World} {B : Nat} {t o c : Int} (h : HardF w B t o c) : SevAt w B 3 (fun i => (#[.int .u64 t, .int .i64 o, .int .u64 c] : Array Value).getD i undef) :=
  ⟨fun i hi => by
    obtain ⟨⟨c0, c1, c2⟩, _⟩ := h
    rcases (show i = 0 ∨ i = 1 ∨ i = 2 by omega) with rfl | rfl | rfl <;> assumption, h.fr⟩
theorem HardF.put {w : World} {B : Nat} {t o c : Int} (h : HardF w B t o c) (t' o' c' : Int) : HardF (((w.setCell ⟨B, 0, none⟩ (.int .u64 t')).setCell ⟨B, 1, none⟩ (.int .i64 o')).setCell ⟨B, 2, none⟩ (.int .u64 c')) B t' o' c' := by
  have g := (((SevAt.ofHard h).set 0 (by omega) (.int .u64 t')).set 1 (by omega) (.int .i64 o')).set 2 (by omega) (.int .u64 c')
  obtain ⟨e0, e1, e2⟩ := g.get3
  exact ⟨⟨e0, e1, e2⟩, g.fr⟩
theorem SevenF.ver {w : World} {B : Nat} {s : Sup} (h : SevenF w B s) (x : Int) : SevenF (w.setCell ⟨B, 0, none⟩ (.int .i64 x)) B ⟨x, s.snap, s.log, s.area, s.half, s.goal, s.step⟩ := by
  have g := (SevAt.ofSeven h).set 0 (by omega) (.int .i64 x)
  obtain ⟨e0, e1, e2, e3, e4, e5, e6⟩ := g.get7
  exact ⟨⟨e0, e1, e2, e3, e4, e5, e6⟩, g.fr⟩
theorem HardF.vote {w : World} {B : Nat} {t o c : Int} (h : HardF w B t o c) (o' : Int) : HardF (w.setCell ⟨B, 1, none⟩ (.int .i64 o')) B t o' c := by
  have g := (SevAt.ofHard h).set 1 (by omega) (.int .i64 o')
  obtain ⟨e0, e1, e2⟩ := g.get3
  exact ⟨⟨e0, e1, e2⟩, g.fr⟩
end Go.Pin
