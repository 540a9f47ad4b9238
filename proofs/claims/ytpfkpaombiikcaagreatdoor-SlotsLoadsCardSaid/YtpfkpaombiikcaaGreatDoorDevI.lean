import Derived.Test.YtpfkpaombiikcaaGreatDoorDevW
import Derived.Test.YtpfkpaombiikcaaGreatDoorBld
/- What device.Device's Image computes. -/
set_option maxRecDepth 16000
namespace Go.Pin
open Go.RowKit
set_option linter.unusedVariables false
set_option linter.unusedSimpArgs false
theorem SecAt.byte {w : World} {b o : Nat} {s : ByteArray} (h : SecAt w b o s) (j : Nat) (hj : j < 64) : w.cell? ⟨b, o + j, none⟩ = some (.int .u8 ((s.data.toList.getD j 0).toNat : Int)) := by
  have h1 : j < s.data.toList.length := by rw [show s.data.toList.length = 64 from h.size]; exact hj
  refine h.at' j _ ?_
  unfold secCells
  rw [List.getElem?_map, List.getElem?_eq_getElem h1]
  simp only [List.getD, List.getElem?_eq_getElem h1, Option.map_some, Option.getD_some]
/-- The bytes of the first k sectors. -/
def dimgL (d : Dv) (k : Nat) : List UInt8 := ((List.range k).map fun i => (d.s i).data.toList).flatten
def dimage (d : Dv) : ByteArray := ⟨(dimgL d d.n).toArray⟩
theorem dimgL_succ (d : Dv) (k : Nat) : dimgL d (k + 1) = dimgL d k ++ (d.s k).data.toList := by
  unfold dimgL
  rw [List.range_succ, List.map_append, List.flatten_append]; simp
theorem dimgL_len {d : Dv} (h : d.ok) : ∀ k, (dimgL d k).length = k * 64
  | 0 => rfl
  | k + 1 => by
    rw [dimgL_succ, List.length_append, dimgL_len h k]
    have : (d.s k).data.toList.length = 64 := h.z2 k
    omega
end Go.Pin
namespace Go.Proofs.YtpfkpaombiikcaaGreatDoor
open Go.RowKit Go.Pin
set_option linter.unusedVariables false
set_option linter.unusedSimpArgs false
set_option maxHeartbeats 1600000 in
theorem dev_image (b f m : Nat) (d : Dv) (w : World) (h : DevAt w b f m d) :
    Calls Tryz.prog 22 #[.pointer (some ⟨b, 0, none⟩)] w fun e w' => e = .returned (.string (dimage d)) ∧ Below w.heap.size w w' := by
  obtain ⟨c, hc1, hc2, c0⟩ := h.c0
  have hn := h.ok.n2
  have hn1 := h.ok.n1
  have hka : Keep (fun _ => False) w (w.alloc (.cells #[.pointer none, .slice none 0 0] 91)) := (Keep.refl _ _).alloc _
  have hB := Bld.new w w.heap.size (Nat.le_refl _)
  have hb0 : Below w.heap.size w (w.alloc (.cells #[.pointer none, .slice none 0 0] 91)) := (Below.refl _ _).alloc (Nat.le_refl _) _
  have d0 := hka.cell c0 id
  have hdl := h.lt
  go_enter Tryz.func22, Tryz.ntmps22
  go_wp2_with fail
  have H := Aside.mk h
  clear h d0 c0 hka
  generalize w.alloc (.cells #[.pointer none, .slice none 0 0] 91) = wa at *
  go_loopw [11] (fun i wr => ∃ k : Nat, k ≤ d.n ∧ i = .int .i64 k ∧ Bld w.heap.size w.heap.size (dimgL d k) wr ∧ Below w.heap.size w wr) (fun i _ => d.n - (intOf i).toNat)
  case atStart => exact ⟨0, by omega, rfl, hB, hb0⟩
  case round =>
    clear hB hb0
    obtain ⟨k, hk, rfl, hB, hbl⟩ := hrel
    by_cases hlt : k < d.n
    · have hz := H.out.ok.z2 k
      have hs := dimgL_succ d k
      have hlen := dimgL_len H.out.ok k
      have hcon := dev_now b f m d k hlt wr (H.out.below hbl)
      have Hs := Aside.mk hs
      have Hlen := Aside.mk hlen
      have hal := sec_lit
      have hsz := hbl.size
      clear hs hlen
      go_wp2_with fail
      refine hcon.mono ?_
      rintro e w1 ⟨rfl, hb1⟩
      have q1 := SecAt.new w1 93 secZ rfl
      have q2 := setSec_new w1 93 secZ (d.s k) rfl hz
      have q3 := SecAt.new w1 93 (d.s k) hz
      have Q2 := Aside.mk q2
      have hlb := hb1.size
      have hB1 : Bld w.heap.size w.heap.size (dimgL d k) (w1.alloc (secObj 93 (d.s k))) := (hB.below hb1).keep ((Keep.refl _ _).alloc _)
      have hX : ∀ j (hj : j < 64), (w1.alloc (secObj 93 (d.s k))).cell? ⟨w1.heap.size, j, none⟩ = some (.int .u8 (((d.s k).data.toList.getD j 0).toNat : Int)) := fun j hj => by
        have := q3.byte j hj
        rw [Nat.zero_add] at this; exact this
      have hbt := hB.lt
      have hsa : w.heap.size ≤ (w1.alloc (secObj 93 (d.s k))).heap.size := by rw [World.size_alloc]; omega
      have hw2 := sb_write w.heap.size w.heap.size w1.heap.size 64 (dimgL d k) (d.s k).data.toList 64 hz (by omega) _ hB1 hX (by omega) (by rw [Hlen.out]; omega) hsa
      clear q2 hcon
      go_wp2_with (with_reducible refine wpList_store_sec rfl (.tmp 5) (.tmp 16) rfl q1 hz Q2.out rfl rfl ?_)
      refine hw2.mono ?_
      rintro e w3 ⟨rfl, hB3, hb3⟩
      clear hw2 hX hB1 q1 q3 hB
      go_wp2_with fail
      go_roundw
      case rel => exact ⟨k + 1, by omega, by go_num, by rw [Hs.out]; exact hB3, ((hbl.trans (hb1.mono hsz)).alloc (Nat.le_trans hsz hlb) _).trans hb3⟩
      case measure => simp [intOf]; omega
    · obtain rfl : k = d.n := by omega
      have hne : dimgL d d.n ≠ [] := by
        intro q
        have := dimgL_len H.out.ok d.n
        rw [q] at this
        simp at this
        omega
      have hcon := sb_string w.heap.size w.heap.size (dimgL d d.n) hne wr hB
      go_wp2_with fail
      refine hcon.mono ?_
      rintro e w1 ⟨rfl, hb1⟩
      go_wp2_with fail
      go_ret
      exact ⟨rfl, hbl.trans hb1⟩
end Go.Proofs.YtpfkpaombiikcaaGreatDoor
