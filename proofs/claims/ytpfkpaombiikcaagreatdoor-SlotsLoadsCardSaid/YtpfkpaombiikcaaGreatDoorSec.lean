import Derived.Test.YtpfkpaombiikcaaGreatDoorBytes
import Derived.Test.YtpfkpaombiikcaaGreatDoorProg
import Derived.Deep.MidRow
import Derived.Lib.LazyBuf
/- Sectors: arrays of 64 bytes as values, in blocks of their own, in the midst of blocks. -/
set_option maxRecDepth 16000
namespace Go.Pin
open Go.RowKit
set_option linter.unusedVariables false
set_option linter.unusedSimpArgs false

def secCells (s : ByteArray) : List Value := s.data.toList.map fun x => Value.int .u8 (x.toNat : Int)
def secVal (s : ByteArray) : Value := .agg (secCells s).toArray
def secObj (t : TypeId) (s : ByteArray) : Obj := .cells (secCells s).toArray t
def zeros (n : Nat) : ByteArray := ⟨Array.replicate n 0⟩
def secZ : ByteArray := zeros 64
theorem zeros_size (n : Nat) : (zeros n).size = n := by show (Array.replicate n (0 : UInt8)).size = n; simp
theorem secCells_length (s : ByteArray) : (secCells s).length = s.size := by unfold secCells; rw [List.length_map]; rfl
theorem secCells_one (s : ByteArray) : ∀ v ∈ secCells s, v.oneCell' = true := by
  intro v hv
  obtain ⟨x, _, rfl⟩ := List.mem_map.1 hv
  rfl
theorem secCells_inj {a b : ByteArray} (h : secCells a = secCells b) : a = b := by
  have : ∀ (l l' : List UInt8), (l.map fun x => Value.int .u8 (x.toNat : Int)) = (l'.map fun x => Value.int .u8 (x.toNat : Int)) → l = l' := by
    intro l
    induction l with
    | nil => intro l' h; cases l' with
      | nil => rfl
      | cons _ _ => simp at h
    | cons x l ih => intro l' h; cases l' with
      | nil => simp at h
      | cons y l' =>
        simp only [List.map_cons, List.cons.injEq, Value.int.injEq, true_and] at h
        have hx : x = y := by apply UInt8.toNat.inj; omega
        rw [hx, ih l' h.2]
  have h2 := this _ _ h
  apply ByteArray.ext; exact Array.ext' h2
/-- At place o of block b lies the sector s; it may be written. -/
structure SecAt (w : World) (b o : Nat) (s : ByteArray) : Prop where
  size : s.size = 64
  at' : w.rangeAt b o (secCells s)
  fr : ∀ j, j < 64 → w.frozen? ⟨b, o + j, none⟩ = false
theorem SecAt.lt {w : World} {b o : Nat} {s : ByteArray} (h : SecAt w b o s) : b < w.heap.size := by
  have hl : 0 < (secCells s).length := by rw [secCells_length, h.size]; decide
  exact World.block_lt_of_cell? _ _ (h.at' 0 _ (List.getElem?_eq_getElem hl))
theorem SecAt.there {w : World} {b o : Nat} {s : ByteArray} (h : SecAt w b o s) : w.there b o 64 := fun j hj =>
  ⟨h.at'.isSome j (by rw [secCells_length, h.size]; exact hj), h.fr j hj⟩
theorem SecAt.keep {S : Nat → Prop} {a w : World} {b o : Nat} {s : ByteArray} (h : SecAt a b o s) (hk : Keep S a w) (hn : ¬ S b) : SecAt w b o s :=
  ⟨h.size, fun j v hv => hk.cell (h.at' j v hv) hn, fun j hj => by rw [hk.frozen (p := ⟨b, o + j, none⟩) h.lt hn]; exact h.fr j hj⟩
theorem SecAt.drew {w : World} {b o : Nat} {s : ByteArray} (h : SecAt w b o s) : SecAt w.drew b o s := ⟨h.size, h.at', h.fr⟩
theorem SecAt.drewN {w : World} {b o : Nat} {s : ByteArray} (h : SecAt w b o s) (n : Nat) : SecAt (w.drewN n) b o s := ⟨h.size, h.at', h.fr⟩
theorem SecAt.setCell {w : World} {b o : Nat} {s : ByteArray} (h : SecAt w b o s) (p : Addr) (v : Value) (hp : p.block ≠ b) : SecAt (w.setCell p v) b o s :=
  ⟨h.size, fun j x hx => by rw [World.cell?_setCell_other _ _ _ _ (by intro q; exact hp (congrArg Addr.block q))]; exact h.at' j x hx, fun j hj => by simpa using h.fr j hj⟩
theorem SecAt.new (w : World) (t : TypeId) (s : ByteArray) (h : s.size = 64) : SecAt (w.alloc (secObj t s)) w.heap.size 0 s := by
  refine ⟨h, fun j v hv => ?_, fun j hj => ?_⟩
  · rw [Nat.zero_add]
    unfold secObj
    rw [World.cell?_alloc_new]; simpa using hv
  · unfold secObj; simp
/-- A sector is laid down. -/
def _root_.Go.World.setSec (w : World) (b o : Nat) (s : ByteArray) : World := w.setCells b o (secCells s)
theorem keep_setCells {S : Nat → Prop} {a : World} {b : Nat} : ∀ (vs : List Value) (o : Nat) (w : World), Keep S a w → (S b ∨ a.heap.size ≤ b) → Keep S a (w.setCells b o vs)
  | [], _, _, h, _ => h
  | v :: vs, o, w, h, hb => keep_setCells vs (o + 1) _ (h.setCell (p := ⟨b, o, none⟩) hb v) hb
theorem size_setCells {b : Nat} : ∀ (vs : List Value) (o : Nat) (w : World), (w.setCells b o vs).heap.size = w.heap.size
  | [], _, _ => rfl
  | v :: vs, o, w => (size_setCells vs (o + 1) _).trans (by simp [World.setCell])
theorem Keep.setSec {S : Nat → Prop} {a w : World} {b o : Nat} {s : ByteArray} (h : Keep S a w) (hb : S b ∨ a.heap.size ≤ b) : Keep S a (w.setSec b o s) := keep_setCells _ _ _ h hb
theorem size_setSec (w : World) (b o : Nat) (s : ByteArray) : (w.setSec b o s).heap.size = w.heap.size := size_setCells _ _ _
theorem SecAt.set {w : World} {b o : Nat} {s : ByteArray} (h : SecAt w b o s) (x : ByteArray) (hx : x.size = 64) : SecAt (w.setSec b o x) b o x := by
  refine ⟨hx, World.rangeAt_setCells_same _ _ _ _ (by rw [secCells_length, hx]; exact h.there), fun j hj => ?_⟩
  unfold World.setSec
  rw [World.frozen?_setCells]; exact h.fr j hj
theorem SecAt.set_other {w : World} {b o b' o' : Nat} {s : ByteArray} (h : SecAt w b o s) (x : ByteArray) (hx : x.size = 64) (hap : b ≠ b' ∨ o + 64 ≤ o' ∨ o' + 64 ≤ o) : SecAt (w.setSec b' o' x) b o s := by
  refine ⟨h.size, World.rangeAt_setCells_apart h.at' _ _ _ (by rw [secCells_length, secCells_length, hx, h.size]; omega), fun j hj => ?_⟩
  unfold World.setSec
  rw [World.frozen?_setCells]; exact h.fr j hj
theorem setCells_alloc {t : TypeId} (w : World) : ∀ (vs : List Value) (o : Nat) (c : Array Value), o + vs.length ≤ c.size → (w.alloc (.cells c t)).setCells w.heap.size o vs = w.alloc (.cells (c.toList.take o ++ vs ++ c.toList.drop (o + vs.length)).toArray t)
  | [], o, c, h => by
    show w.alloc _ = _
    congr 2
    apply Array.ext'; simp
  | v :: vs, o, c, h => by
    have ho : o < c.size := by simp at h; omega
    show ((w.alloc (.cells c t)).setCell ⟨w.heap.size, o, none⟩ v).setCells w.heap.size (o + 1) vs = _
    have e : (w.alloc (.cells c t)).setCell ⟨w.heap.size, o, none⟩ v = w.alloc (.cells (c.set! o v) t) := by
      have := World.setCell_alloc_new (w := w) c t o v
      simpa using this
    rw [e, setCells_alloc w vs (o + 1) (c.set! o v) (by simp at h ⊢; omega)]
    congr 2
    apply Array.ext'
    have hol : o < c.toList.length := by simpa using ho
    simp only [List.length_cons, Array.set!_eq_setIfInBounds, Array.toList_setIfInBounds]
    rw [List.take_set, List.take_succ_eq_append_getElem hol, List.set_append]
    have : (c.toList.take o).length = o := by rw [List.length_take]; omega
    rw [this, if_neg (by omega), Nat.sub_self, List.drop_set_of_lt (by omega)]
    simp [Nat.add_assoc, Nat.add_comm 1]
theorem setSec_new (w : World) (t : TypeId) (s x : ByteArray) (h : s.size = 64) (hx : x.size = 64) : (w.alloc (secObj t s)).setSec w.heap.size 0 x = w.alloc (secObj t x) := by
  unfold World.setSec secObj
  rw [setCells_alloc w _ 0 _ (by simp [secCells_length, h, hx])]
  congr 2
  apply Array.ext'
  simp [secCells_length, hx]
  rw [h]; simp [secCells_length]
section
variable {P : Program} {t : TypeId} {d : TypeDesc}
theorem run_loadSec {w : World} {b o : Nat} {s : ByteArray} (h : SecAt w b o s) (hu : P.underlying t = some d) (hd : d.isRow = true) (hi : (P.info? t).map (·.size) = some 64) :
    (Instr.loadAt t (.pointer (some ⟨b, o, none⟩))).run P w = .ok (secVal s) w :=
  run_loadAt_mid w b o t (secCells s) d h.at' hu hd (by rw [hi, secCells_length, h.size])
theorem run_storeSec {w : World} {b o : Nat} {s : ByteArray} (h : SecAt w b o s) (x : ByteArray) (hx : x.size = 64) (hi : (P.info? t).map (·.size) = some 64) :
    (Instr.storeAt t (.pointer (some ⟨b, o, none⟩)) (secVal x)).run P w = .ok () (w.setSec b o x) := by
  have := run_storeAt_mid (P := P) w b o t (secCells x).toArray (by simpa [secCells_length, hx] using h.there) (by simp [hi, secCells_length, hx]) (all_oneCell_toArray (secCells_one x))
  show (Instr.storeAt t (.pointer (some ⟨b, o, none⟩)) (.agg (secCells x).toArray)).run P w = .ok () (w.setCells b o (secCells x))
  simpa using this
end
end Go.Pin
