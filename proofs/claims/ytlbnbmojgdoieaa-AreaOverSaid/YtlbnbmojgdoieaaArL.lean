/- Plain laws: what was packed, and put, is read again, whatever stands behind it. -/
import Derived.Test.YtlbnbmojgdoieaaAreaX
import Derived.Test.YtlbnbmojgdoieaaFrameL
namespace Go.Pin
set_option linter.unusedVariables false
set_option linter.unusedSimpArgs false
theorem bs_fixedS (n k : Nat) (hk : k ≤ 8) : fixedS n k = bs (fixedL k n) := bs_ext _ _ (by rw [fixedS_data n k hk, bs_data])
theorem bs_vputS (n : Nat) : vputS n = bs (vput n) := bs_ext _ _ (by rw [vputS_data, bs_data])
theorem rd_fixed_put' (k : Int) (kn n : Nat) (hkn : k = (kn : Int)) (rest : List UInt8) (hk : kn ≤ 8) : (Rd.mk (bs (fixedL kn n ++ rest)) false).fixed k = (n % 256 ^ kn, ⟨bs rest, false⟩) := by
  subst hkn; exact rd_fixed_put kn n rest hk
theorem fopen_pack (v : Int) (hv : v = 1 ∨ v = 2) (n : Nat) (hn : n ≤ 1048576) (rest : List UInt8) : fopen (bs ((fhead v n).data.toList ++ rest)) = (v, n, ⟨bs rest, false⟩) := by
  unfold fopen
  rw [fhead_data, List.append_assoc, rd_fixed_put' 1 1 _ rfl _ (by omega)]
  rcases hv with rfl | rfl
  · simp only [show (160 + (1 : Int)).toNat % 256 ^ 1 = 161 from rfl]
    rw [show (((161 : Nat) : Int) - 160) = 1 from rfl]
    simp only [if_true]
    rw [rd_fixed_put' 4 4 _ rfl _ (by omega), Nat.mod_eq_of_lt (by omega)]
  · simp only [show (160 + (2 : Int)).toNat % 256 ^ 1 = 162 from rfl]
    rw [show (((162 : Nat) : Int) - 160) = 2 from rfl]
    simp only [show ¬ ((2 : Int) = 1) by decide, if_false]
    rw [rd_var_put _ _ _ (by omega)]
theorem fnext_pack (v : Int) (hv : v = 1 ∨ v = 2) (b : ByteArray) (hb : b.size ≤ 1048576) (rest : ByteArray) : ∃ k, fnext ((fpack v b).1 ++ rest) = (v, b, k, true) := by
  have hsz : (fixedS (csum (fhead v b.size) b).toNat 4).data.toList = fixedL 4 (csum (fhead v b.size) b).toNat := fixedS_data _ 4 (by omega)
  have e : (fpack v b).1 ++ rest = bs ((fhead v b.size).data.toList ++ (fixedL 4 (csum (fhead v b.size) b).toNat ++ (b.data.toList ++ rest.data.toList))) := by
    unfold fpack
    rw [if_neg (by omega)]
    apply bs_ext
    simp only [ByteArray.data_append, Array.toList_append, bs_data, hsz, List.append_assoc]
  rw [e]
  unfold fnext
  rw [fopen_pack v hv b.size hb]
  have hh : (bs ((fhead v b.size).data.toList ++ (fixedL 4 (csum (fhead v b.size) b).toNat ++ (b.data.toList ++ rest.data.toList)))).extract 0 ((bs ((fhead v b.size).data.toList ++ (fixedL 4 (csum (fhead v b.size) b).toNat ++ (b.data.toList ++ rest.data.toList)))).size - (bs (fixedL 4 (csum (fhead v b.size) b).toNat ++ (b.data.toList ++ rest.data.toList))).size) = fhead v b.size := by
    have q : (bs ((fhead v b.size).data.toList ++ (fixedL 4 (csum (fhead v b.size) b).toNat ++ (b.data.toList ++ rest.data.toList)))).size - (bs (fixedL 4 (csum (fhead v b.size) b).toNat ++ (b.data.toList ++ rest.data.toList))).size = (fhead v b.size).size := by
      rw [bs_size, bs_size, List.length_append]
      have : (fhead v b.size).data.toList.length = (fhead v b.size).size := rfl
      omega
    rw [q]
    exact extract_pre _ _ _ (by rw [bs_data])
  have hc : (csum (fhead v b.size) b).toNat < 4294967296 := (csum (fhead v b.size) b).isLt
  dsimp only
  rw [if_neg (by omega), rd_fixed_put' 4 4 _ rfl _ (by omega), hh, Nat.mod_eq_of_lt (by omega)]
  dsimp only
  rw [if_neg (by
    rintro (q | q | q)
    · cases q
    · omega
    · rw [bs_size, List.length_append] at q
      have : b.data.toList.length = b.size := rfl
      omega)]
  have hbl : (b.size : Int) = (b.data.toList.length : Int) := rfl
  rw [hbl, rd_bytes_app, bs_of]
  dsimp only
  rw [if_neg (by simp)]
  exact ⟨_, rfl⟩
theorem sread_put (v : Int) (hv : v = 1 ∨ v = 2) (n : Nat) (hn : n < 18446744073709551616) (rest : List UInt8) : sread v ⟨bs ((if v = 1 then fixedL 8 n else vput n) ++ rest), false⟩ = (n, ⟨bs rest, false⟩) := by
  unfold sread
  rcases hv with rfl | rfl
  · simp only [if_true]
    rw [rd_fixed_put' 8 8 _ rfl _ (by omega), Nat.mod_eq_of_lt (by omega)]
  · simp only [show ¬ ((2 : Int) = 1) by decide, if_false]
    rw [rd_var_put _ _ _ hn]
theorem aheadS_data (v : Int) (i t : Nat) : (aheadS v i t).data.toList = (if v = 1 then fixedL 8 i else vput i) ++ (if v = 1 then fixedL 8 t else vput t) := by
  unfold aheadS
  split
  · rw [ByteArray.data_append, Array.toList_append, show (fixedS i 8).data.toList = fixedL 8 i from fixedS_data i 8 (by omega), show (fixedS t 8).data.toList = fixedL 8 t from fixedS_data t 8 (by omega)]
  · rw [ByteArray.data_append, Array.toList_append, vputS_data, vputS_data]
theorem abody_put (v : Int) (hv : v = 1 ∨ v = 2) (s : Snap) (h : s.ok) : abody v (aheadS v s.i.toNat s.t.toNat ++ s.d) = (s, false) := by
  obtain ⟨i, t, d⟩ := s
  obtain ⟨i0, i1, t0, t1, hd⟩ := h
  dsimp only at i0 i1 t0 t1 hd ⊢
  have e : aheadS v i.toNat t.toNat ++ d = bs ((if v = 1 then fixedL 8 i.toNat else vput i.toNat) ++ ((if v = 1 then fixedL 8 t.toNat else vput t.toNat) ++ d.data.toList)) := by
    apply bs_ext
    rw [ByteArray.data_append, Array.toList_append, aheadS_data, bs_data, List.append_assoc]
  rw [e]
  unfold abody
  rw [sread_put v hv _ (by omega)]
  dsimp only
  rw [sread_put v hv _ (by omega), bs_of]
  dsimp only
  rw [Int.toNat_of_nonneg i0, Int.toNat_of_nonneg t0]
theorem aput_ok (v : Int) (hv : v = 1 ∨ v = 2) (s : Snap) (hd : s.d.size ≤ 16384) : aput v s = fpack v (aheadS v s.i.toNat s.t.toNat ++ s.d) ∧ (aput v s).2 = true ∧ (aheadS v s.i.toNat s.t.toNat ++ s.d).size ≤ 16404 := by
  have hz := aheadS_size v s.i.toNat s.t.toNat
  have hb : (aheadS v s.i.toNat s.t.toNat ++ s.d).size ≤ 16404 := by rw [ByteArray.size_append]; omega
  have e : aput v s = fpack v (aheadS v s.i.toNat s.t.toNat ++ s.d) := by unfold aput; rw [if_neg (by omega)]
  refine ⟨e, ?_, hb⟩
  rw [e]
  unfold fpack
  rw [if_neg (by omega)]
theorem aget_put (v : Int) (hv : v = 1 ∨ v = 2) (s : Snap) (h : s.ok) (hd : s.d.size ≤ 16384) (rest : ByteArray) : aget ((aput v s).1 ++ rest) = (s, v, true) := by
  obtain ⟨e, _, hb⟩ := aput_ok v hv s hd
  obtain ⟨k, hk⟩ := fnext_pack v hv _ (show (aheadS v s.i.toNat s.t.toNat ++ s.d).size ≤ 1048576 by omega) rest
  rw [e]
  unfold aget
  rw [hk]
  dsimp only
  rw [if_neg (by simp), abody_put v hv s h]
  dsimp only
  rw [if_neg (by simp; omega)]
end Go.Pin
