/- history: the law's whole and examples. -/
import Derived.Test.YtnilfjkodlmenaaDoorHiF
set_option maxRecDepth 16000
namespace Go.Pin
open Go.RowKit
set_option linter.unusedVariables false
set_option linter.unusedSimpArgs false
abbrev bz : ByteArray := ⟨#[]⟩
abbrev opR (a b : Int) : HOp := ⟨{ En.zero with kind := 3, many := 1 }, a, b, 0, bz⟩
abbrev opW (s : ByteArray) (a b : Int) : HOp := ⟨{ En.zero with kind := 1, data := s }, a, b, 0, bz⟩
abbrev opG (t : ByteArray) (a b : Int) : HOp := ⟨{ En.zero with kind := 100, many := 1 }, a, b, 0, t⟩
def zeros (n : Nat) : ByteArray := ⟨Array.replicate n 0⟩
/-- The first 64 bytes, filled up. -/
def hCut (s : ByteArray) : ByteArray := (s ++ zeros 64).extract 0 64
theorem zeros_size (n : Nat) : (zeros n).size = n := by show (Array.replicate n (0 : UInt8)).size = n; simp
theorem hCut_size (s : ByteArray) : (hCut s).size = 64 := by
  unfold hCut
  rw [ByteArray.size_extract, ByteArray.size_append, zeros_size]
  omega
theorem hCut_eq (s : ByteArray) (h : s.size ≤ 64) : hCut s = hWhole s := by
  apply ByteArray.ext
  apply Array.ext'
  unfold hCut hWhole
  rw [ByteArray.data_extract, ByteArray.data_append]
  simp only [Array.toList_extract, Array.toList_append, List.extract_eq_take_drop, List.drop_zero, Nat.sub_zero]
  have h1 : s.data.toList.length = s.size := rfl
  rw [List.take_append, h1, List.take_of_length_le (by omega)]
  show _ = s.data.toList ++ List.replicate (64 - s.size) 0
  congr 1
  show (Array.replicate 64 (0 : UInt8)).toList.take (64 - s.size) = _
  rw [Array.toList_replicate, List.take_replicate]
  congr 1; omega
theorem whole_bz : hWhole bz = zeros 64 := by
  unfold hWhole zeros
  apply ByteArray.ext
  rfl
def hCells (L : List HOp) : Array Value := (L.flatMap fun x => x.cells.toList).toArray
theorem flat_at : ∀ (L : List HOp) (j i : Nat) (x : HOp) (v : Value), L[j]? = some x → x.cells.toList[i]? = some v → (L.flatMap fun x => x.cells.toList)[j * 15 + i]? = some v
  | [], j, i, x, v, h, _ => by simp at h
  | y :: L, 0, i, x, v, h, hv => by
    have : y = x := by simpa using h
    subst this
    rw [List.flatMap_cons, Nat.zero_mul, Nat.zero_add, List.getElem?_append_left (List.getElem?_eq_some_iff.1 hv).1]
    exact hv
  | y :: L, j + 1, i, x, v, h, hv => by
    have hl : y.cells.toList.length = 15 := rfl
    rw [List.flatMap_cons, List.getElem?_append_right (by rw [hl]; omega), hl, show (j + 1) * 15 + i - 15 = j * 15 + i by omega]
    exact flat_at L j i x v (by simpa using h) hv
theorem OpsAt.made (w : World) (T : TypeId) (L : List HOp) (n : Nat) (hn : w.heap.size = n) : OpsAt (w.alloc (.cells (hCells L) T)) (some ⟨n, 0, none⟩) L := by
  subst hn
  refine ⟨fun j x hx => ⟨w.heap.size, 0, rfl, ⟨fun i v hv => ?_⟩⟩⟩
  have := flat_at L j i x v hx hv
  rw [Nat.zero_add, cell_of_row _ _ _ _ _ _ (Go.heap_alloc_new w _)]
  unfold hCells
  rw [List.getElem?_toArray]
  exact this
theorem OpsAt.nil (w : World) (a : Option Addr) : OpsAt w a [] := ⟨fun j x hx => by simp at hx⟩
theorem ok_of {e : En} {a b r : Int} {t : ByteArray} (k0 : -9223372036854775808 ≤ e.kind ∧ e.kind ≤ 9223372036854775807) (k1 : 0 ≤ e.block ∧ e.block ≤ 18446744073709551615) (k2 : 0 ≤ e.many ∧ e.many ≤ 18446744073709551615) (k3 : e.data.size ≤ 9223372036854775807) (k4 : e.old.size ≤ 9223372036854775807) (k5 : 0 ≤ a ∧ a ≤ 18446744073709551615) (k6 : 0 ≤ b ∧ b ≤ 18446744073709551615) (k7 : -9223372036854775808 ≤ r ∧ r ≤ 9223372036854775807) (k8 : t.size ≤ 9223372036854775807) : HOp.ok ⟨e, a, b, r, t⟩ := ⟨k0, k1, k2, k3, k4, k5, k6, k7, k8⟩
theorem ok_R {a b : Int} (h1 : 0 ≤ a ∧ a ≤ 100) (h2 : 0 ≤ b ∧ b ≤ 100) : (opR a b).ok :=
  ok_of (by decide) (by decide) (by decide) (by decide) (by decide) (by omega) (by omega) (by decide) (by decide)
theorem ok_W {s : ByteArray} {a b : Int} (hs : s.size ≤ 9223372036854775807) (h1 : 0 ≤ a ∧ a ≤ 100) (h2 : 0 ≤ b ∧ b ≤ 100) : (opW s a b).ok :=
  ok_of (show -9223372036854775808 ≤ (1 : Int) ∧ (1 : Int) ≤ 9223372036854775807 by decide) (show 0 ≤ (0 : Int) ∧ (0 : Int) ≤ 18446744073709551615 by decide) (show 0 ≤ (0 : Int) ∧ (0 : Int) ≤ 18446744073709551615 by decide) hs (show (0 : Nat) ≤ 9223372036854775807 by decide) (by omega) (by omega) (by decide) (by decide)
theorem ok_G {t : ByteArray} {a b : Int} (hs : t.size ≤ 9223372036854775807) (h1 : 0 ≤ a ∧ a ≤ 100) (h2 : 0 ≤ b ∧ b ≤ 100) : (opG t a b).ok :=
  ok_of (by decide) (by decide) (by decide) (by decide) (by decide) (by omega) (by omega) (by decide) hs
/-- The examples' ops. -/
abbrev exC : HOp := ⟨{ En.zero with kind := 100, many := 1 }, 3, 4, 5, bz⟩
abbrev exD : HOp := ⟨En.zero, 5, 5, 0, bz⟩
theorem ok_C : exC.ok := ok_of (by decide) (by decide) (by decide) (by decide) (by decide) (by decide) (by decide) (by decide) (by decide)
theorem ok_D : exD.ok := ok_of (by decide) (by decide) (by decide) (by decide) (by decide) (by decide) (by decide) (by decide) (by decide)
theorem ex_1 : hOrder [opG (zeros 64) 3 4, opR 1 2] = some [1, 0] := by kernel_rfl
theorem ex_2 : hOrder [] = some [] := by kernel_rfl
theorem ex_3 : hOrder [opR 1 2, exC] = none := by kernel_rfl
theorem ex_4 : hOrder [exC] = some [0] := by kernel_rfl
theorem ex_5 : hRight [exD] = false := by kernel_rfl
end Go.Pin
namespace Go.Proofs.YtnilfjkodlmenaaDoor
open Go.RowKit Go.Pin
set_option linter.unusedVariables false
set_option linter.unusedSimpArgs false
theorem run_string_zeros (w : World) (n c : Nat) (h : w.heap[c]? = some (.cells (Array.replicate n (.int .u8 0)) 5 (0, 0))) (k : Nat) : (convert 60 9 (.slice (some ⟨c, 0, none⟩) n k)).run Tryd.prog w = .ok (.string (zeros n)) w := by
  have hb : BytesAt w c (List.replicate n 0) := fun j hj => by
    rw [List.length_replicate] at hj
    unfold World.cell?
    simp [h, List.getD, hj]
  have := run_string_bytes (P := Tryd.prog) w 60 9 5 Tryd.underlying60 Tryd.underlying5 Tryd.underlying9 c (List.replicate n 0) n k (by simp) hb
  rw [this]
  unfold zeros
  rw [List.toArray_replicate]
theorem make_u8 (w : World) (n : Nat) (hn : n ≤ 64) : (Instr.makeSlice 60 (.int .i64 (n : Int)) (.int .i64 (n : Int))).run Tryd.prog w = .ok (.slice (some ⟨w.heap.size, 0, none⟩) n n) (w.alloc (.cells (Array.replicate n (.int .u8 0)) 5)) := by
  have hp : (Tryd.prog.info? 5).map (fun i => (i.zero, i.size, i.bytes)) = some (some (.int .u8 0), 1, 1) := by kernel_rfl
  obtain ⟨i0, hi, hz0, hz1, hz2⟩ := info_parts hp
  exact run_make_bytes (P := Tryd.prog) w 60 5 i0 Tryd.underlying60 hi hz0 hz1 hz2 n (by omega)
set_option maxHeartbeats 800000 in
theorem law21_whole (s : ByteArray) (h : s.size ≤ 140737488351232) (w : World) :
    Calls Tryd.prog 19 #[.string s] w fun x w' => x = .returned (.string (hCut s)) ∧ Below w.heap.size w w' := by
  have hmk : ∀ W : World, (Instr.makeSlice 60 (.int .i64 64) (.int .i64 64)).run Tryd.prog W = .ok (.slice (some ⟨W.heap.size, 0, none⟩) 64 64) (W.alloc (.cells (Array.replicate 64 (.int .u8 0)) 5)) := fun W => make_u8 W 64 (by omega)
  have hcv := run_string_zeros (w.alloc (.cells (Array.replicate 64 (.int .u8 0)) 5)) 64 w.heap.size (Go.heap_alloc_new w _) 64
  have hz := zeros_size 64
  have HR : Pin.Aside (hCut s = (s ++ zeros 64).extract 0 64) := Pin.Aside.mk rfl
  generalize zeros 64 = z at *
  have hsum : s.size + z.size ≤ 9223372036854775807 := by omega
  have hs2 : (s ++ z).size = s.size + 64 := by rw [ByteArray.size_append, hz]
  have HB := Pin.Aside.mk (((Keep.refl (fun _ => False) w).alloc (.cells (Array.replicate 64 (.int .u8 0)) 5)).below (Nat.le_refl _) fun _ q => q.elim)
  generalize hM : Array.replicate 64 (Value.int .u8 0) = M at *
  clear hM
  go_enter Tryd.func19, Tryd.ntmps19
  go_wp2_with fail
  go_ret
  exact ⟨by rw [HR.out]; rfl, HB.out⟩
-- the examples
theorem ex_legal_ac (W : World) : Calls Tryd.prog 14 #[.slice (some ⟨W.heap.size, 0, none⟩) 2 2] (W.alloc (.cells #[.int .u64 0, .int .u64 0, .int .i64 3, .int .u64 0, .int .u64 0, .int .u64 0, .int .u64 1, .int .i64 0, .int .i64 0, .string ⟨#[]⟩, .string ⟨#[]⟩, .int .u64 1, .int .u64 2, .int .i64 0, .string ⟨#[]⟩, .int .u64 0, .int .u64 0, .int .i64 100, .int .u64 0, .int .u64 0, .int .u64 0, .int .u64 1, .int .i64 0, .int .i64 0, .string ⟨#[]⟩, .string ⟨#[]⟩, .int .u64 3, .int .u64 4, .int .i64 5, .string ⟨#[]⟩] 33)) fun e w' => e = .returned (.bool false) ∧ Below W.heap.size W w' := by
  have hb := ((Keep.refl (fun _ => False) W).alloc (.cells #[.int .u64 0, .int .u64 0, .int .i64 3, .int .u64 0, .int .u64 0, .int .u64 0, .int .u64 1, .int .i64 0, .int .i64 0, .string ⟨#[]⟩, .string ⟨#[]⟩, .int .u64 1, .int .u64 2, .int .i64 0, .string ⟨#[]⟩, .int .u64 0, .int .u64 0, .int .i64 100, .int .u64 0, .int .u64 0, .int .u64 0, .int .u64 1, .int .i64 0, .int .i64 0, .string ⟨#[]⟩, .string ⟨#[]⟩, .int .u64 3, .int .u64 4, .int .i64 5, .string ⟨#[]⟩] 33)).below (Nat.le_refl W.heap.size) fun _ q => q.elim
  have hO : OpsAt (W.alloc (.cells #[.int .u64 0, .int .u64 0, .int .i64 3, .int .u64 0, .int .u64 0, .int .u64 0, .int .u64 1, .int .i64 0, .int .i64 0, .string ⟨#[]⟩, .string ⟨#[]⟩, .int .u64 1, .int .u64 2, .int .i64 0, .string ⟨#[]⟩, .int .u64 0, .int .u64 0, .int .i64 100, .int .u64 0, .int .u64 0, .int .u64 0, .int .u64 1, .int .i64 0, .int .i64 0, .string ⟨#[]⟩, .string ⟨#[]⟩, .int .u64 3, .int .u64 4, .int .i64 5, .string ⟨#[]⟩] 33)) (some ⟨W.heap.size, 0, none⟩) [opR 1 2, exC] := OpsAt.made W 33 [opR 1 2, exC] _ rfl
  refine (hi_legal [opR 1 2, exC] (by decide) (fun x hx => by rcases List.mem_cons.1 hx with rfl | hx; exact ok_R (by decide) (by decide); rcases List.mem_cons.1 hx with rfl | hx; exact ok_C; cases hx) (some ⟨W.heap.size, 0, none⟩) 2 _ hO (itoa_small _ (by decide) _ _)).mono ?_
  rintro e w' ⟨rfl, hb'⟩
  exact ⟨by rw [ex_3]; rfl, hb.trans (hb'.mono (by simp))⟩
theorem ex_legal_c (W : World) : Calls Tryd.prog 14 #[.slice (some ⟨W.heap.size, 0, none⟩) 1 1] (W.alloc (.cells #[.int .u64 0, .int .u64 0, .int .i64 100, .int .u64 0, .int .u64 0, .int .u64 0, .int .u64 1, .int .i64 0, .int .i64 0, .string ⟨#[]⟩, .string ⟨#[]⟩, .int .u64 3, .int .u64 4, .int .i64 5, .string ⟨#[]⟩] 33)) fun e w' => e = .returned (.bool true) ∧ Below W.heap.size W w' := by
  have hb := ((Keep.refl (fun _ => False) W).alloc (.cells #[.int .u64 0, .int .u64 0, .int .i64 100, .int .u64 0, .int .u64 0, .int .u64 0, .int .u64 1, .int .i64 0, .int .i64 0, .string ⟨#[]⟩, .string ⟨#[]⟩, .int .u64 3, .int .u64 4, .int .i64 5, .string ⟨#[]⟩] 33)).below (Nat.le_refl W.heap.size) fun _ q => q.elim
  have hO : OpsAt (W.alloc (.cells #[.int .u64 0, .int .u64 0, .int .i64 100, .int .u64 0, .int .u64 0, .int .u64 0, .int .u64 1, .int .i64 0, .int .i64 0, .string ⟨#[]⟩, .string ⟨#[]⟩, .int .u64 3, .int .u64 4, .int .i64 5, .string ⟨#[]⟩] 33)) (some ⟨W.heap.size, 0, none⟩) [exC] := OpsAt.made W 33 [exC] _ rfl
  refine (hi_legal [exC] (by decide) (fun x hx => by rcases List.mem_cons.1 hx with rfl | hx; exact ok_C; cases hx) (some ⟨W.heap.size, 0, none⟩) 1 _ hO (itoa_small _ (by decide) _ _)).mono ?_
  rintro e w' ⟨rfl, hb'⟩
  exact ⟨by rw [ex_4]; rfl, hb.trans (hb'.mono (by simp))⟩
theorem ex_right_d (W : World) : Calls Tryd.prog 15 #[.slice (some ⟨W.heap.size, 0, none⟩) 1 1] (W.alloc (.cells #[.int .u64 0, .int .u64 0, .int .i64 0, .int .u64 0, .int .u64 0, .int .u64 0, .int .u64 0, .int .i64 0, .int .i64 0, .string ⟨#[]⟩, .string ⟨#[]⟩, .int .u64 5, .int .u64 5, .int .i64 0, .string ⟨#[]⟩] 33)) fun e w' => e = .returned (.bool false) ∧ Below W.heap.size W w' := by
  have hb := ((Keep.refl (fun _ => False) W).alloc (.cells #[.int .u64 0, .int .u64 0, .int .i64 0, .int .u64 0, .int .u64 0, .int .u64 0, .int .u64 0, .int .i64 0, .int .i64 0, .string ⟨#[]⟩, .string ⟨#[]⟩, .int .u64 5, .int .u64 5, .int .i64 0, .string ⟨#[]⟩] 33)).below (Nat.le_refl W.heap.size) fun _ q => q.elim
  have hO : OpsAt (W.alloc (.cells #[.int .u64 0, .int .u64 0, .int .i64 0, .int .u64 0, .int .u64 0, .int .u64 0, .int .u64 0, .int .i64 0, .int .i64 0, .string ⟨#[]⟩, .string ⟨#[]⟩, .int .u64 5, .int .u64 5, .int .i64 0, .string ⟨#[]⟩] 33)) (some ⟨W.heap.size, 0, none⟩) [exD] := OpsAt.made W 33 [exD] _ rfl
  refine (hi_right (some ⟨W.heap.size, 0, none⟩) 1 [exD] (by decide) (fun x hx => by rcases List.mem_cons.1 hx with rfl | hx; exact ok_D; cases hx) _ hO).mono ?_
  rintro e w' ⟨rfl, hb'⟩
  exact ⟨by rw [ex_5], hb.trans (hb'.mono (by simp))⟩
theorem ex_legal_nil (W : World) : Calls Tryd.prog 14 #[.slice none 0 0] W fun e w' => e = .returned (.bool true) ∧ Below W.heap.size W w' := by
  refine (hi_legal [] (by decide) (fun x hx => by cases hx) none 0 W (OpsAt.nil _ _) (itoa_small _ (by decide) _ _)).mono ?_
  rintro e w' ⟨rfl, hb'⟩
  exact ⟨by rw [ex_2]; rfl, hb'⟩
theorem ex_order (z : ByteArray) (hz : z = zeros 64) (W : World) : Calls Tryd.prog 12 #[.slice (some ⟨W.heap.size, 0, none⟩) 2 2] (W.alloc (.cells #[.int .u64 0, .int .u64 0, .int .i64 100, .int .u64 0, .int .u64 0, .int .u64 0, .int .u64 1, .int .i64 0, .int .i64 0, .string ⟨#[]⟩, .string ⟨#[]⟩, .int .u64 3, .int .u64 4, .int .i64 0, .string z, .int .u64 0, .int .u64 0, .int .i64 3, .int .u64 0, .int .u64 0, .int .u64 0, .int .u64 1, .int .i64 0, .int .i64 0, .string ⟨#[]⟩, .string ⟨#[]⟩, .int .u64 1, .int .u64 2, .int .i64 0, .string ⟨#[]⟩] 33)) fun e w' => ∃ g c, e = .returned (.tuple #[.slice (some ⟨g, 0, none⟩) 2 c, .bool true]) ∧ w'.cell? ⟨g, 0, none⟩ = some (.int .i64 1) ∧ Below W.heap.size W w' := by
  have hb := ((Keep.refl (fun _ => False) W).alloc (.cells #[.int .u64 0, .int .u64 0, .int .i64 100, .int .u64 0, .int .u64 0, .int .u64 0, .int .u64 1, .int .i64 0, .int .i64 0, .string ⟨#[]⟩, .string ⟨#[]⟩, .int .u64 3, .int .u64 4, .int .i64 0, .string z, .int .u64 0, .int .u64 0, .int .i64 3, .int .u64 0, .int .u64 0, .int .u64 0, .int .u64 1, .int .i64 0, .int .i64 0, .string ⟨#[]⟩, .string ⟨#[]⟩, .int .u64 1, .int .u64 2, .int .i64 0, .string ⟨#[]⟩] 33)).below (Nat.le_refl W.heap.size) fun _ q => q.elim
  have hO : OpsAt (W.alloc (.cells #[.int .u64 0, .int .u64 0, .int .i64 100, .int .u64 0, .int .u64 0, .int .u64 0, .int .u64 1, .int .i64 0, .int .i64 0, .string ⟨#[]⟩, .string ⟨#[]⟩, .int .u64 3, .int .u64 4, .int .i64 0, .string z, .int .u64 0, .int .u64 0, .int .i64 3, .int .u64 0, .int .u64 0, .int .u64 0, .int .u64 1, .int .i64 0, .int .i64 0, .string ⟨#[]⟩, .string ⟨#[]⟩, .int .u64 1, .int .u64 2, .int .i64 0, .string ⟨#[]⟩] 33)) (some ⟨W.heap.size, 0, none⟩) [opG z 3 4, opR 1 2] := OpsAt.made W 33 [opG z 3 4, opR 1 2] _ rfl
  refine (hi_order [opG z 3 4, opR 1 2] (by show (2 : Nat) ≤ 1000; decide) (fun x hx => by rcases List.mem_cons.1 hx with rfl | hx; exact ok_G (by rw [hz, zeros_size]; decide) (by decide) (by decide); rcases List.mem_cons.1 hx with rfl | hx; exact ok_R (by decide) (by decide); cases hx) (some ⟨W.heap.size, 0, none⟩) 2 _ hO (itoa_small _ (by show (2 : Nat) ≤ 6; decide) _ _)).mono ?_
  rintro e w' ⟨v, rfl, hv, hb'⟩
  subst hz
  rw [ex_1] at hv ⊢
  obtain ⟨p, c, rfl, h2, h3⟩ := hv.of
  obtain ⟨g, rfl, hc⟩ := h3 0 1 rfl
  exact ⟨g, c, rfl, hc, hb.trans (hb'.mono (by simp))⟩
set_option maxHeartbeats 3200000 in
theorem law21_examples (w : World) :
    Calls Tryd.prog 9 #[] w fun x w' => x = .returned (.bool true) ∧ Below w.heap.size w w' := by
  have hmk : ∀ W : World, (Instr.makeSlice 60 (.int .i64 64) (.int .i64 64)).run Tryd.prog W = .ok (.slice (some ⟨W.heap.size, 0, none⟩) 64 64) (W.alloc (.cells (Array.replicate 64 (.int .u8 0)) 5)) := fun W => make_u8 W 64 (by omega)
  have hcv : ∀ W : World, (convert 60 9 (.slice (some ⟨W.heap.size, 0, none⟩) 64 64)).run Tryd.prog (W.alloc (.cells (Array.replicate 64 (.int .u8 0)) 5)) = .ok (.string (zeros 64)) (W.alloc (.cells (Array.replicate 64 (.int .u8 0)) 5)) := fun W => run_string_zeros _ 64 W.heap.size (Go.heap_alloc_new W _) 64
  obtain ⟨z, hz⟩ : ∃ z, zeros 64 = z := ⟨_, rfl⟩
  rw [hz] at hcv
  have HZ := Pin.Aside.mk hz.symm
  clear hz
  have hk := (Keep.refl (fun _ => False) w).alloc (.cells #[.int .u64 0, .int .u64 0, .int .i64 3, .int .u64 0, .int .u64 0, .int .u64 0, .int .u64 1, .int .i64 0, .int .i64 0, .string ⟨#[]⟩, .string ⟨#[]⟩, .int .u64 1, .int .u64 2, .int .i64 0, .string ⟨#[]⟩] 33)
  have ha : HOpAt (w.alloc (.cells #[.int .u64 0, .int .u64 0, .int .i64 3, .int .u64 0, .int .u64 0, .int .u64 0, .int .u64 1, .int .i64 0, .int .i64 0, .string ⟨#[]⟩, .string ⟨#[]⟩, .int .u64 1, .int .u64 2, .int .i64 0, .string ⟨#[]⟩] 33)) (w.heap.size) 0 (opR 1 2) := HOpAt.new _ 33 (opR 1 2)
  have a0 : (w.alloc (.cells #[.int .u64 0, .int .u64 0, .int .i64 3, .int .u64 0, .int .u64 0, .int .u64 0, .int .u64 1, .int .i64 0, .int .i64 0, .string ⟨#[]⟩, .string ⟨#[]⟩, .int .u64 1, .int .u64 2, .int .i64 0, .string ⟨#[]⟩] 33)).cell? ⟨w.heap.size, 0, none⟩ = some (.int .u64 0) := by have := ha.row 0 _ rfl; rw [Nat.zero_add] at this; exact this
  have a1 : (w.alloc (.cells #[.int .u64 0, .int .u64 0, .int .i64 3, .int .u64 0, .int .u64 0, .int .u64 0, .int .u64 1, .int .i64 0, .int .i64 0, .string ⟨#[]⟩, .string ⟨#[]⟩, .int .u64 1, .int .u64 2, .int .i64 0, .string ⟨#[]⟩] 33)).cell? ⟨w.heap.size, 1, none⟩ = some (.int .u64 0) := by have := ha.row 1 _ rfl; rw [Nat.zero_add] at this; exact this
  have a2 : (w.alloc (.cells #[.int .u64 0, .int .u64 0, .int .i64 3, .int .u64 0, .int .u64 0, .int .u64 0, .int .u64 1, .int .i64 0, .int .i64 0, .string ⟨#[]⟩, .string ⟨#[]⟩, .int .u64 1, .int .u64 2, .int .i64 0, .string ⟨#[]⟩] 33)).cell? ⟨w.heap.size, 2, none⟩ = some (.int .i64 3) := by have := ha.row 2 _ rfl; rw [Nat.zero_add] at this; exact this
  have a3 : (w.alloc (.cells #[.int .u64 0, .int .u64 0, .int .i64 3, .int .u64 0, .int .u64 0, .int .u64 0, .int .u64 1, .int .i64 0, .int .i64 0, .string ⟨#[]⟩, .string ⟨#[]⟩, .int .u64 1, .int .u64 2, .int .i64 0, .string ⟨#[]⟩] 33)).cell? ⟨w.heap.size, 3, none⟩ = some (.int .u64 0) := by have := ha.row 3 _ rfl; rw [Nat.zero_add] at this; exact this
  have a4 : (w.alloc (.cells #[.int .u64 0, .int .u64 0, .int .i64 3, .int .u64 0, .int .u64 0, .int .u64 0, .int .u64 1, .int .i64 0, .int .i64 0, .string ⟨#[]⟩, .string ⟨#[]⟩, .int .u64 1, .int .u64 2, .int .i64 0, .string ⟨#[]⟩] 33)).cell? ⟨w.heap.size, 4, none⟩ = some (.int .u64 0) := by have := ha.row 4 _ rfl; rw [Nat.zero_add] at this; exact this
  have a5 : (w.alloc (.cells #[.int .u64 0, .int .u64 0, .int .i64 3, .int .u64 0, .int .u64 0, .int .u64 0, .int .u64 1, .int .i64 0, .int .i64 0, .string ⟨#[]⟩, .string ⟨#[]⟩, .int .u64 1, .int .u64 2, .int .i64 0, .string ⟨#[]⟩] 33)).cell? ⟨w.heap.size, 5, none⟩ = some (.int .u64 0) := by have := ha.row 5 _ rfl; rw [Nat.zero_add] at this; exact this
  have a6 : (w.alloc (.cells #[.int .u64 0, .int .u64 0, .int .i64 3, .int .u64 0, .int .u64 0, .int .u64 0, .int .u64 1, .int .i64 0, .int .i64 0, .string ⟨#[]⟩, .string ⟨#[]⟩, .int .u64 1, .int .u64 2, .int .i64 0, .string ⟨#[]⟩] 33)).cell? ⟨w.heap.size, 6, none⟩ = some (.int .u64 1) := by have := ha.row 6 _ rfl; rw [Nat.zero_add] at this; exact this
  have a7 : (w.alloc (.cells #[.int .u64 0, .int .u64 0, .int .i64 3, .int .u64 0, .int .u64 0, .int .u64 0, .int .u64 1, .int .i64 0, .int .i64 0, .string ⟨#[]⟩, .string ⟨#[]⟩, .int .u64 1, .int .u64 2, .int .i64 0, .string ⟨#[]⟩] 33)).cell? ⟨w.heap.size, 7, none⟩ = some (.int .i64 0) := by have := ha.row 7 _ rfl; rw [Nat.zero_add] at this; exact this
  have a8 : (w.alloc (.cells #[.int .u64 0, .int .u64 0, .int .i64 3, .int .u64 0, .int .u64 0, .int .u64 0, .int .u64 1, .int .i64 0, .int .i64 0, .string ⟨#[]⟩, .string ⟨#[]⟩, .int .u64 1, .int .u64 2, .int .i64 0, .string ⟨#[]⟩] 33)).cell? ⟨w.heap.size, 8, none⟩ = some (.int .i64 0) := by have := ha.row 8 _ rfl; rw [Nat.zero_add] at this; exact this
  have a9 : (w.alloc (.cells #[.int .u64 0, .int .u64 0, .int .i64 3, .int .u64 0, .int .u64 0, .int .u64 0, .int .u64 1, .int .i64 0, .int .i64 0, .string ⟨#[]⟩, .string ⟨#[]⟩, .int .u64 1, .int .u64 2, .int .i64 0, .string ⟨#[]⟩] 33)).cell? ⟨w.heap.size, 9, none⟩ = some (.string ⟨#[]⟩) := by have := ha.row 9 _ rfl; rw [Nat.zero_add] at this; exact this
  have a10 : (w.alloc (.cells #[.int .u64 0, .int .u64 0, .int .i64 3, .int .u64 0, .int .u64 0, .int .u64 0, .int .u64 1, .int .i64 0, .int .i64 0, .string ⟨#[]⟩, .string ⟨#[]⟩, .int .u64 1, .int .u64 2, .int .i64 0, .string ⟨#[]⟩] 33)).cell? ⟨w.heap.size, 10, none⟩ = some (.string ⟨#[]⟩) := by have := ha.row 10 _ rfl; rw [Nat.zero_add] at this; exact this
  have a11 : (w.alloc (.cells #[.int .u64 0, .int .u64 0, .int .i64 3, .int .u64 0, .int .u64 0, .int .u64 0, .int .u64 1, .int .i64 0, .int .i64 0, .string ⟨#[]⟩, .string ⟨#[]⟩, .int .u64 1, .int .u64 2, .int .i64 0, .string ⟨#[]⟩] 33)).cell? ⟨w.heap.size, 11, none⟩ = some (.int .u64 1) := by have := ha.row 11 _ rfl; rw [Nat.zero_add] at this; exact this
  have a12 : (w.alloc (.cells #[.int .u64 0, .int .u64 0, .int .i64 3, .int .u64 0, .int .u64 0, .int .u64 0, .int .u64 1, .int .i64 0, .int .i64 0, .string ⟨#[]⟩, .string ⟨#[]⟩, .int .u64 1, .int .u64 2, .int .i64 0, .string ⟨#[]⟩] 33)).cell? ⟨w.heap.size, 12, none⟩ = some (.int .u64 2) := by have := ha.row 12 _ rfl; rw [Nat.zero_add] at this; exact this
  have a13 : (w.alloc (.cells #[.int .u64 0, .int .u64 0, .int .i64 3, .int .u64 0, .int .u64 0, .int .u64 0, .int .u64 1, .int .i64 0, .int .i64 0, .string ⟨#[]⟩, .string ⟨#[]⟩, .int .u64 1, .int .u64 2, .int .i64 0, .string ⟨#[]⟩] 33)).cell? ⟨w.heap.size, 13, none⟩ = some (.int .i64 0) := by have := ha.row 13 _ rfl; rw [Nat.zero_add] at this; exact this
  have a14 : (w.alloc (.cells #[.int .u64 0, .int .u64 0, .int .i64 3, .int .u64 0, .int .u64 0, .int .u64 0, .int .u64 1, .int .i64 0, .int .i64 0, .string ⟨#[]⟩, .string ⟨#[]⟩, .int .u64 1, .int .u64 2, .int .i64 0, .string ⟨#[]⟩] 33)).cell? ⟨w.heap.size, 14, none⟩ = some (.string ⟨#[]⟩) := by have := ha.row 14 _ rfl; rw [Nat.zero_add] at this; exact this
  clear ha
  go_enter Tryd.func9, Tryd.ntmps9
  go_upto_region 2 with fail
  generalize w.alloc (.cells #[.int .u64 0, .int .u64 0, .int .i64 3, .int .u64 0, .int .u64 0, .int .u64 0, .int .u64 1, .int .i64 0, .int .i64 0, .string ⟨#[]⟩, .string ⟨#[]⟩, .int .u64 1, .int .u64 2, .int .i64 0, .string ⟨#[]⟩] 33) = w1 at *
  obtain ⟨U, hU⟩ : ∃ U, w.heap.size = U := ⟨_, rfl⟩
  rw [hU] at a0 a1 a2 a3 a4 a5 a6 a7 a8 a9 a10 a11 a12 a13 a14
  try rw [hU]
  have HU := Pin.Aside.mk hU
  clear hU
  generalize hM : Array.replicate 64 (Value.int .u8 0) = M at *
  clear hM
  have hcv1 := hcv w1
  obtain ⟨V, hV⟩ : ∃ V, (w1.alloc (.cells M 5)).heap.size = V := ⟨_, rfl⟩
  have hV' : w1.heap.size + 1 = V := by rw [← hV]; simp
  have hk2 := ((Keep.refl (fun _ => False) w1).alloc (.cells M 5)).alloc (.cells #[.int .u64 0, .int .u64 0, .int .i64 100, .int .u64 0, .int .u64 0, .int .u64 0, .int .u64 1, .int .i64 0, .int .i64 0, .string ⟨#[]⟩, .string ⟨#[]⟩, .int .u64 3, .int .u64 4, .int .i64 0, .string z] 33)
  have hb : HOpAt ((w1.alloc (.cells M 5)).alloc (.cells #[.int .u64 0, .int .u64 0, .int .i64 100, .int .u64 0, .int .u64 0, .int .u64 0, .int .u64 1, .int .i64 0, .int .i64 0, .string ⟨#[]⟩, .string ⟨#[]⟩, .int .u64 3, .int .u64 4, .int .i64 0, .string z] 33)) (V) 0 (opG z 3 4) := by rw [← hV]; exact HOpAt.new _ 33 (opG z 3 4)
  have b0 : ((w1.alloc (.cells M 5)).alloc (.cells #[.int .u64 0, .int .u64 0, .int .i64 100, .int .u64 0, .int .u64 0, .int .u64 0, .int .u64 1, .int .i64 0, .int .i64 0, .string ⟨#[]⟩, .string ⟨#[]⟩, .int .u64 3, .int .u64 4, .int .i64 0, .string z] 33)).cell? ⟨V, 0, none⟩ = some (.int .u64 0) := by have := hb.row 0 _ rfl; rw [Nat.zero_add] at this; exact this
  have b1 : ((w1.alloc (.cells M 5)).alloc (.cells #[.int .u64 0, .int .u64 0, .int .i64 100, .int .u64 0, .int .u64 0, .int .u64 0, .int .u64 1, .int .i64 0, .int .i64 0, .string ⟨#[]⟩, .string ⟨#[]⟩, .int .u64 3, .int .u64 4, .int .i64 0, .string z] 33)).cell? ⟨V, 1, none⟩ = some (.int .u64 0) := by have := hb.row 1 _ rfl; rw [Nat.zero_add] at this; exact this
  have b2 : ((w1.alloc (.cells M 5)).alloc (.cells #[.int .u64 0, .int .u64 0, .int .i64 100, .int .u64 0, .int .u64 0, .int .u64 0, .int .u64 1, .int .i64 0, .int .i64 0, .string ⟨#[]⟩, .string ⟨#[]⟩, .int .u64 3, .int .u64 4, .int .i64 0, .string z] 33)).cell? ⟨V, 2, none⟩ = some (.int .i64 100) := by have := hb.row 2 _ rfl; rw [Nat.zero_add] at this; exact this
  have b3 : ((w1.alloc (.cells M 5)).alloc (.cells #[.int .u64 0, .int .u64 0, .int .i64 100, .int .u64 0, .int .u64 0, .int .u64 0, .int .u64 1, .int .i64 0, .int .i64 0, .string ⟨#[]⟩, .string ⟨#[]⟩, .int .u64 3, .int .u64 4, .int .i64 0, .string z] 33)).cell? ⟨V, 3, none⟩ = some (.int .u64 0) := by have := hb.row 3 _ rfl; rw [Nat.zero_add] at this; exact this
  have b4 : ((w1.alloc (.cells M 5)).alloc (.cells #[.int .u64 0, .int .u64 0, .int .i64 100, .int .u64 0, .int .u64 0, .int .u64 0, .int .u64 1, .int .i64 0, .int .i64 0, .string ⟨#[]⟩, .string ⟨#[]⟩, .int .u64 3, .int .u64 4, .int .i64 0, .string z] 33)).cell? ⟨V, 4, none⟩ = some (.int .u64 0) := by have := hb.row 4 _ rfl; rw [Nat.zero_add] at this; exact this
  have b5 : ((w1.alloc (.cells M 5)).alloc (.cells #[.int .u64 0, .int .u64 0, .int .i64 100, .int .u64 0, .int .u64 0, .int .u64 0, .int .u64 1, .int .i64 0, .int .i64 0, .string ⟨#[]⟩, .string ⟨#[]⟩, .int .u64 3, .int .u64 4, .int .i64 0, .string z] 33)).cell? ⟨V, 5, none⟩ = some (.int .u64 0) := by have := hb.row 5 _ rfl; rw [Nat.zero_add] at this; exact this
  have b6 : ((w1.alloc (.cells M 5)).alloc (.cells #[.int .u64 0, .int .u64 0, .int .i64 100, .int .u64 0, .int .u64 0, .int .u64 0, .int .u64 1, .int .i64 0, .int .i64 0, .string ⟨#[]⟩, .string ⟨#[]⟩, .int .u64 3, .int .u64 4, .int .i64 0, .string z] 33)).cell? ⟨V, 6, none⟩ = some (.int .u64 1) := by have := hb.row 6 _ rfl; rw [Nat.zero_add] at this; exact this
  have b7 : ((w1.alloc (.cells M 5)).alloc (.cells #[.int .u64 0, .int .u64 0, .int .i64 100, .int .u64 0, .int .u64 0, .int .u64 0, .int .u64 1, .int .i64 0, .int .i64 0, .string ⟨#[]⟩, .string ⟨#[]⟩, .int .u64 3, .int .u64 4, .int .i64 0, .string z] 33)).cell? ⟨V, 7, none⟩ = some (.int .i64 0) := by have := hb.row 7 _ rfl; rw [Nat.zero_add] at this; exact this
  have b8 : ((w1.alloc (.cells M 5)).alloc (.cells #[.int .u64 0, .int .u64 0, .int .i64 100, .int .u64 0, .int .u64 0, .int .u64 0, .int .u64 1, .int .i64 0, .int .i64 0, .string ⟨#[]⟩, .string ⟨#[]⟩, .int .u64 3, .int .u64 4, .int .i64 0, .string z] 33)).cell? ⟨V, 8, none⟩ = some (.int .i64 0) := by have := hb.row 8 _ rfl; rw [Nat.zero_add] at this; exact this
  have b9 : ((w1.alloc (.cells M 5)).alloc (.cells #[.int .u64 0, .int .u64 0, .int .i64 100, .int .u64 0, .int .u64 0, .int .u64 0, .int .u64 1, .int .i64 0, .int .i64 0, .string ⟨#[]⟩, .string ⟨#[]⟩, .int .u64 3, .int .u64 4, .int .i64 0, .string z] 33)).cell? ⟨V, 9, none⟩ = some (.string ⟨#[]⟩) := by have := hb.row 9 _ rfl; rw [Nat.zero_add] at this; exact this
  have b10 : ((w1.alloc (.cells M 5)).alloc (.cells #[.int .u64 0, .int .u64 0, .int .i64 100, .int .u64 0, .int .u64 0, .int .u64 0, .int .u64 1, .int .i64 0, .int .i64 0, .string ⟨#[]⟩, .string ⟨#[]⟩, .int .u64 3, .int .u64 4, .int .i64 0, .string z] 33)).cell? ⟨V, 10, none⟩ = some (.string ⟨#[]⟩) := by have := hb.row 10 _ rfl; rw [Nat.zero_add] at this; exact this
  have b11 : ((w1.alloc (.cells M 5)).alloc (.cells #[.int .u64 0, .int .u64 0, .int .i64 100, .int .u64 0, .int .u64 0, .int .u64 0, .int .u64 1, .int .i64 0, .int .i64 0, .string ⟨#[]⟩, .string ⟨#[]⟩, .int .u64 3, .int .u64 4, .int .i64 0, .string z] 33)).cell? ⟨V, 11, none⟩ = some (.int .u64 3) := by have := hb.row 11 _ rfl; rw [Nat.zero_add] at this; exact this
  have b12 : ((w1.alloc (.cells M 5)).alloc (.cells #[.int .u64 0, .int .u64 0, .int .i64 100, .int .u64 0, .int .u64 0, .int .u64 0, .int .u64 1, .int .i64 0, .int .i64 0, .string ⟨#[]⟩, .string ⟨#[]⟩, .int .u64 3, .int .u64 4, .int .i64 0, .string z] 33)).cell? ⟨V, 12, none⟩ = some (.int .u64 4) := by have := hb.row 12 _ rfl; rw [Nat.zero_add] at this; exact this
  have b13 : ((w1.alloc (.cells M 5)).alloc (.cells #[.int .u64 0, .int .u64 0, .int .i64 100, .int .u64 0, .int .u64 0, .int .u64 0, .int .u64 1, .int .i64 0, .int .i64 0, .string ⟨#[]⟩, .string ⟨#[]⟩, .int .u64 3, .int .u64 4, .int .i64 0, .string z] 33)).cell? ⟨V, 13, none⟩ = some (.int .i64 0) := by have := hb.row 13 _ rfl; rw [Nat.zero_add] at this; exact this
  have b14 : ((w1.alloc (.cells M 5)).alloc (.cells #[.int .u64 0, .int .u64 0, .int .i64 100, .int .u64 0, .int .u64 0, .int .u64 0, .int .u64 1, .int .i64 0, .int .i64 0, .string ⟨#[]⟩, .string ⟨#[]⟩, .int .u64 3, .int .u64 4, .int .i64 0, .string z] 33)).cell? ⟨V, 14, none⟩ = some (.string z) := by have := hb.row 14 _ rfl; rw [Nat.zero_add] at this; exact this
  replace a0 := (hk2).cell a0 id
  replace a1 := (hk2).cell a1 id
  replace a2 := (hk2).cell a2 id
  replace a3 := (hk2).cell a3 id
  replace a4 := (hk2).cell a4 id
  replace a5 := (hk2).cell a5 id
  replace a6 := (hk2).cell a6 id
  replace a7 := (hk2).cell a7 id
  replace a8 := (hk2).cell a8 id
  replace a9 := (hk2).cell a9 id
  replace a10 := (hk2).cell a10 id
  replace a11 := (hk2).cell a11 id
  replace a12 := (hk2).cell a12 id
  replace a13 := (hk2).cell a13 id
  replace a14 := (hk2).cell a14 id
  clear hb
  go_upto_region 3 with fail
  try rw [hV']
  generalize (w1.alloc (.cells M 5)).alloc (.cells #[.int .u64 0, .int .u64 0, .int .i64 100, .int .u64 0, .int .u64 0, .int .u64 0, .int .u64 1, .int .i64 0, .int .i64 0, .string ⟨#[]⟩, .string ⟨#[]⟩, .int .u64 3, .int .u64 4, .int .i64 0, .string z] 33) = w2 at *
  replace hk := hk.trans hk2
  clear hk2 hV hcv1 hcv hmk hV'
  have hk3 := (Keep.refl (fun _ => False) w2).alloc (.cells #[.int .u64 0, .int .u64 0, .int .i64 100, .int .u64 0, .int .u64 0, .int .u64 0, .int .u64 1, .int .i64 0, .int .i64 0, .string ⟨#[]⟩, .string ⟨#[]⟩, .int .u64 3, .int .u64 4, .int .i64 5, .string ⟨#[]⟩] 33)
  have hc : HOpAt (w2.alloc (.cells #[.int .u64 0, .int .u64 0, .int .i64 100, .int .u64 0, .int .u64 0, .int .u64 0, .int .u64 1, .int .i64 0, .int .i64 0, .string ⟨#[]⟩, .string ⟨#[]⟩, .int .u64 3, .int .u64 4, .int .i64 5, .string ⟨#[]⟩] 33)) (w2.heap.size) 0 exC := HOpAt.new _ 33 exC
  have c0 : (w2.alloc (.cells #[.int .u64 0, .int .u64 0, .int .i64 100, .int .u64 0, .int .u64 0, .int .u64 0, .int .u64 1, .int .i64 0, .int .i64 0, .string ⟨#[]⟩, .string ⟨#[]⟩, .int .u64 3, .int .u64 4, .int .i64 5, .string ⟨#[]⟩] 33)).cell? ⟨w2.heap.size, 0, none⟩ = some (.int .u64 0) := by have := hc.row 0 _ rfl; rw [Nat.zero_add] at this; exact this
  have c1 : (w2.alloc (.cells #[.int .u64 0, .int .u64 0, .int .i64 100, .int .u64 0, .int .u64 0, .int .u64 0, .int .u64 1, .int .i64 0, .int .i64 0, .string ⟨#[]⟩, .string ⟨#[]⟩, .int .u64 3, .int .u64 4, .int .i64 5, .string ⟨#[]⟩] 33)).cell? ⟨w2.heap.size, 1, none⟩ = some (.int .u64 0) := by have := hc.row 1 _ rfl; rw [Nat.zero_add] at this; exact this
  have c2 : (w2.alloc (.cells #[.int .u64 0, .int .u64 0, .int .i64 100, .int .u64 0, .int .u64 0, .int .u64 0, .int .u64 1, .int .i64 0, .int .i64 0, .string ⟨#[]⟩, .string ⟨#[]⟩, .int .u64 3, .int .u64 4, .int .i64 5, .string ⟨#[]⟩] 33)).cell? ⟨w2.heap.size, 2, none⟩ = some (.int .i64 100) := by have := hc.row 2 _ rfl; rw [Nat.zero_add] at this; exact this
  have c3 : (w2.alloc (.cells #[.int .u64 0, .int .u64 0, .int .i64 100, .int .u64 0, .int .u64 0, .int .u64 0, .int .u64 1, .int .i64 0, .int .i64 0, .string ⟨#[]⟩, .string ⟨#[]⟩, .int .u64 3, .int .u64 4, .int .i64 5, .string ⟨#[]⟩] 33)).cell? ⟨w2.heap.size, 3, none⟩ = some (.int .u64 0) := by have := hc.row 3 _ rfl; rw [Nat.zero_add] at this; exact this
  have c4 : (w2.alloc (.cells #[.int .u64 0, .int .u64 0, .int .i64 100, .int .u64 0, .int .u64 0, .int .u64 0, .int .u64 1, .int .i64 0, .int .i64 0, .string ⟨#[]⟩, .string ⟨#[]⟩, .int .u64 3, .int .u64 4, .int .i64 5, .string ⟨#[]⟩] 33)).cell? ⟨w2.heap.size, 4, none⟩ = some (.int .u64 0) := by have := hc.row 4 _ rfl; rw [Nat.zero_add] at this; exact this
  have c5 : (w2.alloc (.cells #[.int .u64 0, .int .u64 0, .int .i64 100, .int .u64 0, .int .u64 0, .int .u64 0, .int .u64 1, .int .i64 0, .int .i64 0, .string ⟨#[]⟩, .string ⟨#[]⟩, .int .u64 3, .int .u64 4, .int .i64 5, .string ⟨#[]⟩] 33)).cell? ⟨w2.heap.size, 5, none⟩ = some (.int .u64 0) := by have := hc.row 5 _ rfl; rw [Nat.zero_add] at this; exact this
  have c6 : (w2.alloc (.cells #[.int .u64 0, .int .u64 0, .int .i64 100, .int .u64 0, .int .u64 0, .int .u64 0, .int .u64 1, .int .i64 0, .int .i64 0, .string ⟨#[]⟩, .string ⟨#[]⟩, .int .u64 3, .int .u64 4, .int .i64 5, .string ⟨#[]⟩] 33)).cell? ⟨w2.heap.size, 6, none⟩ = some (.int .u64 1) := by have := hc.row 6 _ rfl; rw [Nat.zero_add] at this; exact this
  have c7 : (w2.alloc (.cells #[.int .u64 0, .int .u64 0, .int .i64 100, .int .u64 0, .int .u64 0, .int .u64 0, .int .u64 1, .int .i64 0, .int .i64 0, .string ⟨#[]⟩, .string ⟨#[]⟩, .int .u64 3, .int .u64 4, .int .i64 5, .string ⟨#[]⟩] 33)).cell? ⟨w2.heap.size, 7, none⟩ = some (.int .i64 0) := by have := hc.row 7 _ rfl; rw [Nat.zero_add] at this; exact this
  have c8 : (w2.alloc (.cells #[.int .u64 0, .int .u64 0, .int .i64 100, .int .u64 0, .int .u64 0, .int .u64 0, .int .u64 1, .int .i64 0, .int .i64 0, .string ⟨#[]⟩, .string ⟨#[]⟩, .int .u64 3, .int .u64 4, .int .i64 5, .string ⟨#[]⟩] 33)).cell? ⟨w2.heap.size, 8, none⟩ = some (.int .i64 0) := by have := hc.row 8 _ rfl; rw [Nat.zero_add] at this; exact this
  have c9 : (w2.alloc (.cells #[.int .u64 0, .int .u64 0, .int .i64 100, .int .u64 0, .int .u64 0, .int .u64 0, .int .u64 1, .int .i64 0, .int .i64 0, .string ⟨#[]⟩, .string ⟨#[]⟩, .int .u64 3, .int .u64 4, .int .i64 5, .string ⟨#[]⟩] 33)).cell? ⟨w2.heap.size, 9, none⟩ = some (.string ⟨#[]⟩) := by have := hc.row 9 _ rfl; rw [Nat.zero_add] at this; exact this
  have c10 : (w2.alloc (.cells #[.int .u64 0, .int .u64 0, .int .i64 100, .int .u64 0, .int .u64 0, .int .u64 0, .int .u64 1, .int .i64 0, .int .i64 0, .string ⟨#[]⟩, .string ⟨#[]⟩, .int .u64 3, .int .u64 4, .int .i64 5, .string ⟨#[]⟩] 33)).cell? ⟨w2.heap.size, 10, none⟩ = some (.string ⟨#[]⟩) := by have := hc.row 10 _ rfl; rw [Nat.zero_add] at this; exact this
  have c11 : (w2.alloc (.cells #[.int .u64 0, .int .u64 0, .int .i64 100, .int .u64 0, .int .u64 0, .int .u64 0, .int .u64 1, .int .i64 0, .int .i64 0, .string ⟨#[]⟩, .string ⟨#[]⟩, .int .u64 3, .int .u64 4, .int .i64 5, .string ⟨#[]⟩] 33)).cell? ⟨w2.heap.size, 11, none⟩ = some (.int .u64 3) := by have := hc.row 11 _ rfl; rw [Nat.zero_add] at this; exact this
  have c12 : (w2.alloc (.cells #[.int .u64 0, .int .u64 0, .int .i64 100, .int .u64 0, .int .u64 0, .int .u64 0, .int .u64 1, .int .i64 0, .int .i64 0, .string ⟨#[]⟩, .string ⟨#[]⟩, .int .u64 3, .int .u64 4, .int .i64 5, .string ⟨#[]⟩] 33)).cell? ⟨w2.heap.size, 12, none⟩ = some (.int .u64 4) := by have := hc.row 12 _ rfl; rw [Nat.zero_add] at this; exact this
  have c13 : (w2.alloc (.cells #[.int .u64 0, .int .u64 0, .int .i64 100, .int .u64 0, .int .u64 0, .int .u64 0, .int .u64 1, .int .i64 0, .int .i64 0, .string ⟨#[]⟩, .string ⟨#[]⟩, .int .u64 3, .int .u64 4, .int .i64 5, .string ⟨#[]⟩] 33)).cell? ⟨w2.heap.size, 13, none⟩ = some (.int .i64 5) := by have := hc.row 13 _ rfl; rw [Nat.zero_add] at this; exact this
  have c14 : (w2.alloc (.cells #[.int .u64 0, .int .u64 0, .int .i64 100, .int .u64 0, .int .u64 0, .int .u64 0, .int .u64 1, .int .i64 0, .int .i64 0, .string ⟨#[]⟩, .string ⟨#[]⟩, .int .u64 3, .int .u64 4, .int .i64 5, .string ⟨#[]⟩] 33)).cell? ⟨w2.heap.size, 14, none⟩ = some (.string ⟨#[]⟩) := by have := hc.row 14 _ rfl; rw [Nat.zero_add] at this; exact this
  replace a0 := (hk3).cell a0 id
  replace a1 := (hk3).cell a1 id
  replace a2 := (hk3).cell a2 id
  replace a3 := (hk3).cell a3 id
  replace a4 := (hk3).cell a4 id
  replace a5 := (hk3).cell a5 id
  replace a6 := (hk3).cell a6 id
  replace a7 := (hk3).cell a7 id
  replace a8 := (hk3).cell a8 id
  replace a9 := (hk3).cell a9 id
  replace a10 := (hk3).cell a10 id
  replace a11 := (hk3).cell a11 id
  replace a12 := (hk3).cell a12 id
  replace a13 := (hk3).cell a13 id
  replace a14 := (hk3).cell a14 id
  replace b0 := (hk3).cell b0 id
  replace b1 := (hk3).cell b1 id
  replace b2 := (hk3).cell b2 id
  replace b3 := (hk3).cell b3 id
  replace b4 := (hk3).cell b4 id
  replace b5 := (hk3).cell b5 id
  replace b6 := (hk3).cell b6 id
  replace b7 := (hk3).cell b7 id
  replace b8 := (hk3).cell b8 id
  replace b9 := (hk3).cell b9 id
  replace b10 := (hk3).cell b10 id
  replace b11 := (hk3).cell b11 id
  replace b12 := (hk3).cell b12 id
  replace b13 := (hk3).cell b13 id
  replace b14 := (hk3).cell b14 id
  clear hc
  go_upto_region 4 with fail
  generalize w2.alloc (.cells #[.int .u64 0, .int .u64 0, .int .i64 100, .int .u64 0, .int .u64 0, .int .u64 0, .int .u64 1, .int .i64 0, .int .i64 0, .string ⟨#[]⟩, .string ⟨#[]⟩, .int .u64 3, .int .u64 4, .int .i64 5, .string ⟨#[]⟩] 33) = w3 at *
  generalize w2.heap.size = X at *
  replace hk := hk.trans hk3
  clear hk3
  have HB := Pin.Aside.mk (hk.below (Nat.le_refl w.heap.size) fun _ q => q.elim)
  clear hk
  go_wp2_with fail
  refine (ex_order z HZ.out _).mono ?_
  rintro x w4 ⟨g, cg, rfl, hg, hb4⟩
  have hk4 : Keep (fun _ => False) w3 w4 := Keep.of_below hb4 fun _ q _ => q
  replace HB := Pin.Aside.mk (HB.out.trans (hb4.mono HB.out.size))
  replace a0 := (hk4).cell a0 id
  replace a1 := (hk4).cell a1 id
  replace a2 := (hk4).cell a2 id
  replace a3 := (hk4).cell a3 id
  replace a4 := (hk4).cell a4 id
  replace a5 := (hk4).cell a5 id
  replace a6 := (hk4).cell a6 id
  replace a7 := (hk4).cell a7 id
  replace a8 := (hk4).cell a8 id
  replace a9 := (hk4).cell a9 id
  replace a10 := (hk4).cell a10 id
  replace a11 := (hk4).cell a11 id
  replace a12 := (hk4).cell a12 id
  replace a13 := (hk4).cell a13 id
  replace a14 := (hk4).cell a14 id
  clear b0
  clear b1
  clear b2
  clear b3
  clear b4
  clear b5
  clear b6
  clear b7
  clear b8
  clear b9
  clear b10
  clear b11
  clear b12
  clear b13
  clear b14
  replace c0 := (hk4).cell c0 id
  replace c1 := (hk4).cell c1 id
  replace c2 := (hk4).cell c2 id
  replace c3 := (hk4).cell c3 id
  replace c4 := (hk4).cell c4 id
  replace c5 := (hk4).cell c5 id
  replace c6 := (hk4).cell c6 id
  replace c7 := (hk4).cell c7 id
  replace c8 := (hk4).cell c8 id
  replace c9 := (hk4).cell c9 id
  replace c10 := (hk4).cell c10 id
  replace c11 := (hk4).cell c11 id
  replace c12 := (hk4).cell c12 id
  replace c13 := (hk4).cell c13 id
  replace c14 := (hk4).cell c14 id
  clear hk4 hb4
  go_wp2_with fail
  refine (ex_legal_nil _).mono ?_
  rintro x w5 ⟨rfl, hb4⟩
  have hk4 : Keep (fun _ => False) w4 w5 := Keep.of_below hb4 fun _ q _ => q
  replace HB := Pin.Aside.mk (HB.out.trans (hb4.mono HB.out.size))
  replace hg := hk4.cell hg id
  replace a0 := (hk4).cell a0 id
  replace a1 := (hk4).cell a1 id
  replace a2 := (hk4).cell a2 id
  replace a3 := (hk4).cell a3 id
  replace a4 := (hk4).cell a4 id
  replace a5 := (hk4).cell a5 id
  replace a6 := (hk4).cell a6 id
  replace a7 := (hk4).cell a7 id
  replace a8 := (hk4).cell a8 id
  replace a9 := (hk4).cell a9 id
  replace a10 := (hk4).cell a10 id
  replace a11 := (hk4).cell a11 id
  replace a12 := (hk4).cell a12 id
  replace a13 := (hk4).cell a13 id
  replace a14 := (hk4).cell a14 id
  replace c0 := (hk4).cell c0 id
  replace c1 := (hk4).cell c1 id
  replace c2 := (hk4).cell c2 id
  replace c3 := (hk4).cell c3 id
  replace c4 := (hk4).cell c4 id
  replace c5 := (hk4).cell c5 id
  replace c6 := (hk4).cell c6 id
  replace c7 := (hk4).cell c7 id
  replace c8 := (hk4).cell c8 id
  replace c9 := (hk4).cell c9 id
  replace c10 := (hk4).cell c10 id
  replace c11 := (hk4).cell c11 id
  replace c12 := (hk4).cell c12 id
  replace c13 := (hk4).cell c13 id
  replace c14 := (hk4).cell c14 id
  clear hk4 hb4
  go_wp2_with fail
  refine (ex_legal_ac _).mono ?_
  rintro x w6 ⟨rfl, hb4⟩
  have hk4 : Keep (fun _ => False) w5 w6 := Keep.of_below hb4 fun _ q _ => q
  replace HB := Pin.Aside.mk (HB.out.trans (hb4.mono HB.out.size))
  clear a0
  clear a1
  clear a2
  clear a3
  clear a4
  clear a5
  clear a6
  clear a7
  clear a8
  clear a9
  clear a10
  clear a11
  clear a12
  clear a13
  clear a14
  replace c0 := (hk4).cell c0 id
  replace c1 := (hk4).cell c1 id
  replace c2 := (hk4).cell c2 id
  replace c3 := (hk4).cell c3 id
  replace c4 := (hk4).cell c4 id
  replace c5 := (hk4).cell c5 id
  replace c6 := (hk4).cell c6 id
  replace c7 := (hk4).cell c7 id
  replace c8 := (hk4).cell c8 id
  replace c9 := (hk4).cell c9 id
  replace c10 := (hk4).cell c10 id
  replace c11 := (hk4).cell c11 id
  replace c12 := (hk4).cell c12 id
  replace c13 := (hk4).cell c13 id
  replace c14 := (hk4).cell c14 id
  clear hk4 hb4 hg
  go_wp2_with fail
  refine (ex_legal_c _).mono ?_
  rintro x w7 ⟨rfl, hb4⟩
  replace HB := Pin.Aside.mk (HB.out.trans (hb4.mono HB.out.size))
  clear c0
  clear c1
  clear c2
  clear c3
  clear c4
  clear c5
  clear c6
  clear c7
  clear c8
  clear c9
  clear c10
  clear c11
  clear c12
  clear c13
  clear c14
  clear hb4
  go_wp2_with fail
  refine (ex_right_d _).mono ?_
  rintro x w8 ⟨rfl, hb4⟩
  replace HB := Pin.Aside.mk (HB.out.trans (hb4.mono HB.out.size))
  clear hb4
  go_wp2_with fail
  go_ret
  exact ⟨rfl, HB.out⟩
end Go.Proofs.YtnilfjkodlmenaaDoor
