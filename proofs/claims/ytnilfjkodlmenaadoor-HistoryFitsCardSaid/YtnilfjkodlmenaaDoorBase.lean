/- Words of this seat's proofs: the world below a footprint, and small facts on lists and bytes. -/
import Derived.Below
import Derived.Deep.Draws
import Derived.Deep.AppendLies
import Derived.Maps.AppendAt
import Derived.OwnWalk
import Derived.Laws.BytesArg
import Derived.Laws.MakeOwn
import Derived.Laws.OwnMore
import Derived.Deep.OwnRows
import Derived.Tactics
import Derived.Lib.ConvBytes
import Derived.Laws.Slices
import Derived.WalkKit
import Derived.KernelRfl
import Derived.RowKit3
import Derived.Deep.LoopGhost
import Derived.Deep.QuietTactic
import Derived.BigQuiet
import Derived.WideLaws
import Derived.Deep.DeepCutAuto
import Derived.Deep.CutBlock
import Derived.Deep.RegionHeld3
import Derived.Laws.Rows
import Derived.Lib.AppendStr
import Derived.ArgAppend
import Derived.Laws.IdiomCopy
import Derived.OrdersHeld
import Derived.Laws.BitsLemmas
import Derived.RowKit
import Derived.WalkSpells
import Derived.WalkLawsBesides
set_option maxRecDepth 16000
namespace Go.Pin
set_option linter.unusedVariables false
set_option linter.unusedSimpArgs false
open Go.RowKit

/-- Nothing that was there has turned, but for the blocks of S. -/
structure Keep (S : Nat → Prop) (w w' : World) : Prop where
  os : w'.os = w.os
  tape : w'.tape = w.tape
  output : w'.output = w.output
  size : w.heap.size ≤ w'.heap.size
  block : ∀ k, k < w.heap.size → ¬ S k → w'.heap[k]? = w.heap[k]?

theorem Keep.refl (S : Nat → Prop) (w : World) : Keep S w w := ⟨rfl, rfl, rfl, Nat.le_refl _, fun _ _ _ => rfl⟩
theorem Keep.trans {S : Nat → Prop} {a b c : World} (h : Keep S a b) (k : Keep S b c) : Keep S a c :=
  ⟨k.os.trans h.os, k.tape.trans h.tape, k.output.trans h.output, Nat.le_trans h.size k.size, fun i hi hn => (k.block i (Nat.lt_of_lt_of_le hi h.size) hn).trans (h.block i hi hn)⟩
theorem Keep.mono {S T : Nat → Prop} {a b : World} (h : Keep S a b) (hs : ∀ k, S k → T k) : Keep T a b :=
  ⟨h.os, h.tape, h.output, h.size, fun k hk hn => h.block k hk fun hk' => hn (hs k hk')⟩
theorem Keep.drew {S : Nat → Prop} {a b : World} (h : Keep S a b) : Keep S a b.drew := ⟨h.os, h.tape, h.output, h.size, h.block⟩
theorem Keep.drewN {S : Nat → Prop} {a b : World} (h : Keep S a b) (n : Nat) : Keep S a (b.drewN n) := ⟨h.os, h.tape, h.output, h.size, h.block⟩
theorem Keep.setCell {S : Nat → Prop} {a b : World} (h : Keep S a b) {p : Addr} (hp : S p.block ∨ a.heap.size ≤ p.block) (u : Value) : Keep S a (b.setCell p u) :=
  ⟨h.os, h.tape, h.output, by simpa [World.setCell] using h.size, fun k hk hn => by
    rw [Below.heap_setCell _ _ _ _ (by rintro rfl; rcases hp with hp | hp; exact hn hp; omega)]; exact h.block k hk hn⟩
theorem Keep.alloc {S : Nat → Prop} {a b : World} (h : Keep S a b) (o : Obj) : Keep S a (b.alloc o) :=
  ⟨h.os, h.tape, h.output, Nat.le_trans h.size (by simp), fun k hk hn => by rw [Below.heap_alloc _ _ _ (Nat.lt_of_lt_of_le hk h.size)]; exact h.block k hk hn⟩
theorem Keep.below {S : Nat → Prop} {a b : World} (h : Keep S a b) {B : Nat} (hB : B ≤ a.heap.size) (hs : ∀ k, S k → B ≤ k) : Below B a b :=
  ⟨h.os, h.tape, h.output, h.size, fun k hk => h.block k (by omega) fun hk' => by have := hs k hk'; omega⟩
theorem Keep.of_below {a b : World} {B : Nat} (h : Below B a b) {S : Nat → Prop} (hs : ∀ k, k < a.heap.size → ¬ S k → k < B) : Keep S a b :=
  ⟨h.os, h.tape, h.output, h.size, fun k hk hn => h.block k (hs k hk hn)⟩
theorem Keep.cell {S : Nat → Prop} {a b : World} (h : Keep S a b) {p : Addr} {v : Value} (hc : a.cell? p = some v) (hn : ¬ S p.block) : b.cell? p = some v := by
  rw [← hc]; exact World.cell?_of_block (w := a) (h.block p.block (World.block_lt_of_cell? _ _ hc) hn)
theorem Keep.frozen {S : Nat → Prop} {a b : World} (h : Keep S a b) {p : Addr} (hp : p.block < a.heap.size) (hn : ¬ S p.block) : b.frozen? p = a.frozen? p :=
  World.frozen?_of_block (w := a) (h.block p.block hp hn)


/-! ### []byte(s) -/
/-- Block b's first cells are the bytes l. -/
def BytesAt (w : World) (b : Nat) (l : List UInt8) : Prop := ∀ j, j < l.length → w.cell? ⟨b, j, none⟩ = some (.int .u8 (l.getD j 0).toNat)
theorem BytesAt.keep {S : Nat → Prop} {a b : World} (h : Keep S a b) {k : Nat} {l : List UInt8} (hb : BytesAt a k l) (hn : ¬ S k) : BytesAt b k l :=
  fun j hj => h.cell (hb j hj) hn
theorem bytesWorld_keep (S : Nat → Prop) (w : World) (e : TypeId) (s : ByteArray) : Keep S w (Lib.bytesWorld w e s) := by
  refine ⟨?_, ?_, ?_, ?_, fun k hk _ => Lib.bytesWorld_at_old w e s k hk⟩
  · unfold Lib.bytesWorld World.freeze; split <;> rfl
  · unfold Lib.bytesWorld World.freeze; split <;> rfl
  · unfold Lib.bytesWorld World.freeze; split <;> rfl
  · rw [Lib.bytesWorld_size]; omega
theorem bytesWorld_bytes (w : World) (e : TypeId) (s : ByteArray) : BytesAt (Lib.bytesWorld w e s) w.heap.size s.data.toList :=
  fun j hj => Lib.bytesWorld_cell w e s j (by simpa using hj)
/-- What the walk is to know behind []byte(s): the world under a new name. -/
theorem bytesWorld_open (w : World) (e : TypeId) (s : ByteArray) : ∃ w1 c, Lib.bytesWorld w e s = w1 ∧ grownCap w s.size 0 e = c ∧ w1.heap.size = w.heap.size + 1 ∧ BytesAt w1 w.heap.size s.data.toList ∧ ∀ S, Keep S w w1 :=
  ⟨_, _, rfl, rfl, Lib.bytesWorld_size w e s, bytesWorld_bytes w e s, fun S => bytesWorld_keep S w e s⟩


/-! ### string(b) of a slice that was just made -/
theorem run_convert_new4 {P : Program} (w : World) (src dst e e' : TypeId) (hs : P.underlying src = some (.slice e)) (he : P.underlying e = some (.int .u8)) (hd : P.underlying dst = some .string) (x0 x1 x2 x3 : Int) (c : Nat) :
    (convert src dst (.slice (some ⟨w.heap.size, 0, none⟩) 4 c)).run P (w.alloc (.cells #[.int .u8 x0, .int .u8 x1, .int .u8 x2, .int .u8 x3] e')) =
      .ok (.string (strOfNums [x0, x1, x2, x3])) (w.alloc (.cells #[.int .u8 x0, .int .u8 x1, .int .u8 x2, .int .u8 x3] e')) := by
  refine run_convert_bytes_arg _ src e hs he w.heap.size 0 4 c [x0, x1, x2, x3] rfl ?_ dst hd
  intro i hi
  rw [Nat.zero_add, World.cell?_alloc_new]
  match i, hi with
  | 0, _ => rfl
  | 1, _ => rfl
  | 2, _ => rfl
  | 3, _ => rfl


/-- '==' of strings as the walk spells it. -/
theorem str_beq (a b : ByteArray) : (a.toList == b.toList) = decide (a = b) := by
  rw [Bool.eq_iff_iff]
  simp only [beq_iff_eq, decide_eq_true_iff, ByteArray.toList_eq]
  constructor
  · intro h; apply ByteArray.ext; apply Array.ext'; exact h
  · rintro rfl; rfl


/-! ### A region that draws its order, whose callees may make memory of their own: one walk in the order of the text -/
structure KW (S : Nat → Prop) (W : World) where
  w : World
  keep : Keep S W w
instance (S : Nat → Prop) (W : World) : Nonempty (KW S W) := ⟨⟨W, Keep.refl S W⟩⟩

theorem wp_region_keep {P : Program} {id : Nat} {Q : Exit → Act → World → Prop} {a : Act} {w : World} {l : List Oper} (S : Nat → Prop) (hm : P.follows .mixedOrders = true) (hB : Region.lexB .any l.toArray = true)
    (h : wpQuiet P l.toArray (fun w' => ∃ s : KW S w, w' = s.w) (fun a' => ∀ s : KW S w, Q .normal a' s.w) l a) : (Code.region id l.toArray true).wp P Q a w :=
  wp_region_quiet (C := fun w' => ∃ s : KW S w, w' = s.w) hm hB ⟨⟨w.drew, (Keep.refl S w).drew⟩, rfl⟩ (by
    have e : (fun a' => ∀ w', (∃ s : KW S w, w' = s.w) → Q .normal a' w') = fun a' => ∀ s : KW S w, Q .normal a' s.w := by
      funext a'
      exact propext ⟨fun h s => h _ ⟨s, rfl⟩, fun h w' ⟨s, e⟩ => e ▸ h s⟩
    rw [e]; simpa using h)

/-- A callee that leaves what was there alone. -/
theorem KW.calls {P : Program} {f : FuncId} {args : Array Value} {S : Nat → Prop} {W : World} {s : KW S W} {v : Value}
    (h : Calls P f args s.w fun e w' => e = .returned v ∧ Below s.w.heap.size s.w w') : Calls P f args s.w fun e w'' => e = .returned v ∧ ∃ s' : KW S W, w'' = s'.w :=
  h.mono fun _ w' ⟨he, hb⟩ => ⟨he, ⟨w', s.keep.trans (Keep.of_below hb fun _ hk _ => hk)⟩, rfl⟩
/-- .. or changes nothing at all. -/
theorem KW.calls_same {P : Program} {f : FuncId} {args : Array Value} {S : Nat → Prop} {W : World} {s : KW S W} {v : Value}
    (h : Calls P f args s.w fun e w' => e = .returned v ∧ w' = s.w) : Calls P f args s.w fun e w'' => e = .returned v ∧ ∃ s' : KW S W, w'' = s'.w :=
  h.mono fun _ _ ⟨he, hb⟩ => ⟨he, s, hb⟩
theorem KW.below {W : World} (s : KW (fun _ => False) W) : Below W.heap.size W s.w := s.keep.below (Nat.le_refl _) fun _ h => h.elim

end Go.Pin
