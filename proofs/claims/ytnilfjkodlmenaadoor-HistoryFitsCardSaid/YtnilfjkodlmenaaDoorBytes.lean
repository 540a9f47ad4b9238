/- Rows of bytes that a call has made: make, store, string(b). -/
import Derived.Test.YtnilfjkodlmenaaDoorBase
set_option maxRecDepth 16000
namespace Go.Pin
open Go.RowKit
set_option linter.unusedVariables false
set_option linter.unusedSimpArgs false

/-- A fact that the walk is not to see. -/
structure Aside (p : Prop) : Prop where mk :: (out : p)

theorem Below.next {a b c : World} (h : Below a.heap.size a b) (k : Below b.heap.size b c) : Below a.heap.size a c := h.trans (k.mono h.size)
theorem run_makeFunc (P : Program) : ∀ (fn : Fn) (first cap : Array Value) (w : World), (Instr.makeFunc fn first cap).run P w = .ok (.func fn first cap) w := fun _ _ _ _ => rfl
theorem ext_le {s : ByteArray} {i j n : Nat} (h : s.size ≤ n) : (s.extract i j).size ≤ n := by rw [ByteArray.size_extract]; omega
theorem mk_le {l : List UInt8} {n : Nat} (h : l.length ≤ n) : (ByteArray.mk l.toArray).size ≤ n := by
  show l.toArray.size ≤ n
  rw [List.size_toArray]; exact h
theorem cell_alloc_row (w : World) (c : Array Value) (t : TypeId) (j : Nat) : (w.alloc (.cells c t)).cell? ⟨w.heap.size, j, none⟩ = c[j]? := World.cell?_alloc_new w c t j

/-- make([]byte, n). -/
theorem run_make_bytes {P : Program} (w : World) (t e : TypeId) (i : TypeInfo) (ht : P.underlying t = some (.slice e)) (hi : P.info? e = some i) (hz : i.zero = some (.int .u8 0)) (hs : i.size = 1) (hb : i.bytes = 1)
    (n : Nat) (hn : n ≤ 281474976710656) :
    (Instr.makeSlice t (.int .i64 (n : Int)) (.int .i64 (n : Int))).run P w = .ok (.slice (some ⟨w.heap.size, 0, none⟩) n n) (w.alloc (.cells (Array.replicate n (.int .u8 0)) e)) := by
  have h := run_make (P := P) w t e i (.int .u8 0) ht hi hz .i64 .i64 n n (by omega) (Int.le_refl _) (by rw [hb]; omega) (by omega)
  rw [h, hs]
  have : madeCells (Value.int .u8 0).cells ((n : Int).toNat * 1) = Array.replicate n (.int .u8 0) := by
    apply Array.ext
    · simp [madeCells]
    · intro j h1 h2
      simp [madeCells, Value.cells]
      rw [Nat.mod_one]; rfl
  rw [this]; simp

theorem bytes_made (w : World) (n : Nat) (e : TypeId) : BytesAt (w.alloc (.cells (Array.replicate n (.int .u8 0)) e)) w.heap.size (List.replicate n 0) := by
  intro j hj
  rw [cell_alloc_row]
  simp only [List.length_replicate] at hj
  simp [List.getD, hj]

theorem BytesAt.set {w : World} {b : Nat} {l : List UInt8} (h : BytesAt w b l) (k : Nat) (hk : k < l.length) (c : UInt8) : BytesAt (w.setCell ⟨b, k, none⟩ (.int .u8 c.toNat)) b (l.set k c) := by
  intro j hj
  simp only [List.length_set] at hj
  by_cases e : k = j
  · subst e
    rw [World.cell?_setCell_same _ _ _ (h k hk)]
    simp [List.getD, hk]
  · rw [World.cell?_setCell_other _ _ _ _ (by simp [e]), h j hj]
    simp [List.getD, List.getElem?_set, e]

/-- string(b) of a row that reads as l. -/
theorem run_string_bytes {P : Program} (w : World) (src dst e : TypeId) (hs : P.underlying src = some (.slice e)) (he : P.underlying e = some (.int .u8)) (hd : P.underlying dst = some .string) (b : Nat) (l : List UInt8) (n c : Nat)
    (hn : l.length = n) (hb : BytesAt w b l) : (convert src dst (.slice (some ⟨b, 0, none⟩) n c)).run P w = .ok (.string ⟨l.toArray⟩) w := by
  subst hn
  refine run_convert_bytes_back w src dst e ⟨b, 0, none⟩ c l hs he hd ?_
  intro j hj
  have := hb j hj
  simp only [List.getD, List.getElem?_eq_getElem hj, Option.getD_some] at this
  rw [← this]
  congr 1
  simp [Addr.add]
  exact fun h => h.symm

theorem bytesWorld_frozen (w : World) (e : TypeId) (s : ByteArray) (j : Nat) (hj : j < s.size) : (Lib.bytesWorld w e s).frozen? ⟨w.heap.size, j, none⟩ = false := by
  unfold World.frozen?
  rw [Lib.bytesWorld_at_new]
  have : s.size ≤ (Lib.bytesCells w e s).size := by
    unfold Lib.bytesCells
    rw [Array.size_append, Array.size_map]
    have : s.data.size = s.size := rfl
    omega
  simp; omega
/-- []byte(s): the new row may be written. -/
theorem bytesWorld_open2 (w : World) (e : TypeId) (s : ByteArray) : ∃ w1 c, Lib.bytesWorld w e s = w1 ∧ grownCap w s.size 0 e = c ∧ w1.heap.size = w.heap.size + 1 ∧ BytesAt w1 w.heap.size s.data.toList ∧
    (∀ j, j < s.size → w1.frozen? ⟨w.heap.size, j, none⟩ = false) ∧ ∀ S, Keep S w w1 :=
  ⟨_, _, rfl, rfl, Lib.bytesWorld_size w e s, bytesWorld_bytes w e s, bytesWorld_frozen w e s, fun S => bytesWorld_keep S w e s⟩
theorem Keep.isBelow {a b : World} (h : ∀ S, Keep S a b) : Below a.heap.size a b := (h fun _ => False).below (Nat.le_refl _) fun _ h => h.elim
theorem set_step (l : List UInt8) (k n : Nat) (hn : l.length = n) (hk : k < n) : (l.take k ++ List.replicate (n - k) 0).set k (l.getD k 0) = l.take (k + 1) ++ List.replicate (n - (k + 1)) 0 := by
  have hkl : k < l.length := by omega
  obtain ⟨d, hd⟩ : ∃ d, n - k = d + 1 := ⟨n - k - 1, by omega⟩
  rw [hd, show n - (k + 1) = d from by omega, List.replicate_succ, List.set_append]
  have : (l.take k).length = k := by rw [List.length_take]; omega
  rw [this, if_neg (by omega), Nat.sub_self]
  simp [List.getD, hkl]
  rw [List.take_succ_eq_append_getElem hkl, List.append_assoc]; rfl


theorem run_string_addr {P : Program} (w : World) (src dst e : TypeId) (hs : P.underlying src = some (.slice e)) (he : P.underlying e = some (.int .u8)) (hd : P.underlying dst = some .string) (a : Addr) (l : List UInt8) (n c : Nat) (hn : l.length = n)
    (hc : ∀ j (hj : j < l.length), w.cell? (a.add j) = some (.int .u8 (l[j].toNat : Int))) : (convert src dst (.slice (some a) n c)).run P w = .ok (.string ⟨l.toArray⟩) w := by
  subst hn
  exact run_convert_bytes_back w src dst e a c l hs he hd hc
end Go.Pin
