/- Plain laws: a snap that was written is read. -/
import Derived.Test.YtlbnbmojgdoieaaArL
import Derived.Test.YtlbnbmojgdoieaaArM
namespace Go.Pin
open Go.RowKit
set_option linter.unusedVariables false
set_option linter.unusedSimpArgs false
theorem zeros_list (n : Nat) : (zeros n).data.toList = List.replicate n 0 := by simp [zeros]
theorem pad_list (B : List UInt8) (k n : Nat) (hB : B.length ≤ 64 * n) (hk : k < n) :
    (B.drop (64 * k)).take 64 ++ List.replicate (64 - ((B.drop (64 * k)).take 64).length) 0 = ((B ++ List.replicate (64 * n - B.length) 0).drop (64 * k)).take 64 := by
  rw [List.drop_append, List.take_append, List.drop_replicate, List.take_replicate, List.length_take, List.length_drop]
  congr 2
  omega
theorem piece_list (b : ByteArray) (k : Nat) : (piece b k).data.toList = (b.data.toList.drop (64 * k)).take 64 := by
  unfold piece
  simp only [ByteArray.data_extract, Array.toList_extract, List.extract_eq_take_drop]
  have hl : b.data.toList.length = b.size := rfl
  by_cases h : 64 * k ≤ b.size
  · rw [show min (64 * k) b.size = 64 * k by omega]
    by_cases h2 : 64 * (k + 1) ≤ b.size
    · rw [show min (64 * (k + 1)) b.size - 64 * k = 64 by omega]
    · rw [List.take_of_length_le (by rw [List.length_drop]; omega), List.take_of_length_le (by rw [List.length_drop]; omega)]
  · rw [List.drop_eq_nil_of_le (by omega), List.drop_eq_nil_of_le (by omega)]; simp
theorem pad_piece (b : ByteArray) (k n : Nat) (hb : b.size ≤ 64 * n) (hk : k < n) : (pad (piece b k)).data.toList = ((b ++ zeros (64 * n - b.size)).data.toList.drop (64 * k)).take 64 := by
  unfold pad
  rw [ByteArray.data_append, Array.toList_append, zeros_list, piece_list, ByteArray.data_append, Array.toList_append, zeros_list]
  have := pad_list b.data.toList k n hb hk
  have e : (piece b k).size = ((b.data.toList.drop (64 * k)).take 64).length := by rw [← piece_list]; rfl
  rw [e]
  exact this
/-- Device D holds the first k pieces of b from a on, and is d elsewhere. -/
structure Laid (d D : Dv) (b : ByteArray) (a k : Nat) : Prop where
  ok : D.ok
  live : Live D
  n : D.n = d.n
  at' : ∀ i, i < k → D.s (a + i) = pad (piece b i)
  else' : ∀ j, j < a ∨ a + k ≤ j → D.s j = d.s j
theorem wrun_live (b : ByteArray) (a : Nat) (d : Dv) (hok : d.ok) (hl : Live d) : ∀ k, a + k ≤ d.n → ∃ D, wrun b a d k = (0, D) ∧ Laid d D b a k := by
  intro k
  induction k with
  | zero => exact fun _ => ⟨d, rfl, hok, hl, rfl, fun i hi => by omega, fun _ _ => rfl⟩
  | succ k ih =>
    intro hk
    obtain ⟨D, hD, h⟩ := ih (by omega)
    have hk' : a + k < D.n := by rw [h.n]; omega
    refine ⟨dset (a + k) (piece b k) D, ?_, dset_ok h.ok hk' (piece_size b k), h.live.set _ _, h.n, fun i hi => ?_, fun j hj => ?_⟩
    · show (if (wrun b a d k).1 ≠ 0 then _ else _) = _
      rw [hD, if_neg (by simp)]
      exact h.live.write hk' (piece_size b k)
    · rw [dset_s h.ok hk']
      by_cases e : i = k
      · rw [if_pos (by omega), e]
      · rw [if_neg (by omega)]; exact h.at' i (by omega)
    · rw [dset_s h.ok hk', if_neg (by omega)]; exact h.else' j (by omega)
theorem rcat_laid {d D : Dv} {b : ByteArray} {a n : Nat} (h : Laid d D b a n) (hb : b.size ≤ 64 * n) : rcat D a n = b ++ zeros (64 * n - b.size) := by
  have hE : (b ++ zeros (64 * n - b.size)).data.toList.length = 64 * n := by
    show (b ++ zeros (64 * n - b.size)).size = _
    rw [ByteArray.size_append, zeros_size]; omega
  have key : ∀ k, k ≤ n → rcatL D a k = (b ++ zeros (64 * n - b.size)).data.toList.take (64 * k) := by
    intro k
    induction k with
    | zero => intro _; simp [rcatL]
    | succ k ih =>
      intro hk
      rw [rcatL_succ, ih (by omega), h.at' k (by omega), pad_piece b k n hb (by omega), show 64 * (k + 1) = 64 * k + 64 by omega, List.take_add]
  apply ByteArray.ext
  apply Array.ext'
  show rcatL D a n = _
  rw [key n (Nat.le_refl _), List.take_of_length_le (by rw [hE]; exact Nat.le_refl _)]
/-- A snap that has room is written, and read. -/
theorem write_read (d : Dv) (hok : d.ok) (hl : Live d) (a m : Nat) (hm : 1 ≤ m) (ham : a + m ≤ d.n) (v : Int) (hv : v = 1 ∨ v = 2) (s : Snap) (hs : s.ok) (hd : s.d.size ≤ 16384) (hz : (aput v s).1.size ≤ 64 * m) :
    ∃ D, awrite d a m v s = (0, D) ∧ Laid d D (aput v s).1 a m ∧ aread D a m = (s, v, 0) := by
  obtain ⟨_, h2, _⟩ := aput_ok v hv s hd
  obtain ⟨D, hD, hL⟩ := wrun_live (aput v s).1 a d hok hl m ham
  have hr : aright d.n a m = true := by unfold aright; rw [decide_eq_true]; omega
  have hr2 : aright D.n a m = true := by rw [hL.n]; exact hr
  refine ⟨D, ?_, hL, ?_⟩
  · unfold awrite
    rw [if_neg (by rw [h2, hr]; simp), if_neg (by omega)]
    exact hD
  · unfold aread
    rw [if_neg (by rw [hr2]; simp), if_neg (by rw [hL.live.dead]; simp)]
    have e : rcat D (a : Int).toNat (m : Int).toNat = (aput v s).1 ++ zeros (64 * m - (aput v s).1.size) := rcat_laid hL hz
    rw [e, aget_put v hv s hs hd]
    rfl
theorem aput_small (v : Int) (s : Snap) (hd : s.d.size ≤ 300) : (aput v s).1.size ≤ 346 := by
  have hz := aheadS_size v s.i.toNat s.t.toNat
  have e : aput v s = fpack v (aheadS v s.i.toNat s.t.toNat ++ s.d) := by unfold aput; rw [if_neg (by omega)]
  rw [e]
  have := fpack_size v (aheadS v s.i.toNat s.t.toNat ++ s.d)
  rw [ByteArray.size_append] at this
  omega
end Go.Pin
