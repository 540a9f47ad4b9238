/- The plain law of frames: the program and the document read the same frame. -/
import Derived.Test.YtpfkpaombiikcaaFrameM
import Derived.Test.YtpfkpaombiikcaaVarL
namespace Go.Pin
set_option linter.unusedVariables false
set_option linter.unusedSimpArgs false

theorem vscan_inv (l : List UInt8) : ∀ (f i n m k : Nat), i + f ≤ 10 → i ≤ l.length → (∀ a ∈ l.take i, 128 ≤ a.toNat) → n = vval (l.take i) → vscan l f i n = some (m, k) → l.take k = vput m ∧ k ≤ l.length
  | 0, _, _, _, _, _, _, _, _, h => by simp [vscan] at h
  | f + 1, i, n, m, k, hi, hl, hall, hn, h => by
    rw [vscan] at h
    split at h
    · rename_i hlt
      have htk : l.take (i + 1) = l.take i ++ [l.getD i 0] := by
        rw [List.take_succ_eq_append_getElem hlt]; simp [List.getD, hlt]
      have hlen : (l.take i).length = i := by rw [List.length_take]; omega
      have hvi : vval (l.take i) < 128 ^ i := by have := vval_lt (l.take i); rwa [hlen] at this
      generalize hc : l.getD i 0 = c at *
      have hv1 : vval (l.take (i + 1)) = vval (l.take i) + c.toNat % 128 * 128 ^ i := by rw [htk, vval_append, hlen]
      have hp9 : i ≤ 9 → 128 ^ i ≤ 9223372036854775808 := fun h9 => by
        have : (128 : Nat) ^ i ≤ 128 ^ 9 := Nat.pow_le_pow_right (by decide) h9
        simpa using this
      have hp8 : i ≤ 8 → 128 ^ i ≤ 72057594037927936 := fun h9 => by
        have : (128 : Nat) ^ i ≤ 128 ^ 8 := Nat.pow_le_pow_right (by decide) h9
        simpa using this
      dsimp only at h
      split at h
      · rename_i h128
        by_cases h9 : i = 9
        · subst h9
          have : f = 0 := by omega
          subst this
          simp [vscan] at h
        · have hsm : c.toNat % 128 * 128 ^ i < 18446744073709551616 := by
            have h1 := hp8 (by omega)
            have h2 : c.toNat % 128 * 128 ^ i ≤ 128 * 72057594037927936 := Nat.mul_le_mul (by omega) h1
            omega
          rw [Nat.mod_eq_of_lt hsm] at h
          refine vscan_inv l f (i + 1) _ m k (by omega) (by omega) ?_ ?_ h
          · intro a ha
            rw [htk, List.mem_append] at ha
            rcases ha with ha | ha
            · exact hall a ha
            · simp at ha; subst ha; exact h128
          · rw [hv1, hn]
      · rename_i h128
        split at h
        · cases h
        · rename_i hno
          simp only [Option.some.injEq, Prod.mk.injEq] at h
          obtain ⟨rfl, rfl⟩ := h
          have hsm : c.toNat % 128 * 128 ^ i < 18446744073709551616 ∧ vval (l.take i) + c.toNat % 128 * 128 ^ i < 18446744073709551616 := by
            by_cases h9 : i = 9
            · subst h9
              have hc1 : c.toNat ≤ 1 := by
                rcases Nat.lt_or_ge 1 c.toNat with h1 | h1
                · exact absurd (.inr ⟨rfl, h1⟩) hno
                · exact h1
              have h1 := hp9 (by omega)
              have h2 : c.toNat % 128 * 128 ^ 9 ≤ 1 * 9223372036854775808 := Nat.mul_le_mul (by omega) h1
              omega
            · have h1 := hp8 (by omega)
              have h2 : c.toNat % 128 * 128 ^ i ≤ 128 * 72057594037927936 := Nat.mul_le_mul (by omega) h1
              omega
          refine ⟨?_, by omega⟩
          rw [Nat.mod_eq_of_lt hsm.1, htk, hn, ← hv1, htk]
          refine (vput_vval (l.take i) c hall (by omega) (fun hne => ?_) (by rw [← htk, hv1]; exact hsm.2)).symm
          have hi0 : 0 < i := by
            rcases Nat.eq_zero_or_pos i with h0 | h0
            · exact absurd (by rw [h0]; rfl) hne
            · exact h0
          rcases Nat.eq_zero_or_pos c.toNat with h0 | h0
          · exact absurd (.inl ⟨hi0, h0⟩) hno
          · exact h0
    · cases h
theorem vget_inv (l : List UInt8) (m k : Nat) (h : vget l = some (m, k)) : l.take k = vput m ∧ k ≤ l.length :=
  vscan_inv l 10 0 0 m k (by omega) (by omega) (by simp) (by simp [vval]) h

theorem take_drop_data (s : ByteArray) (k : Nat) (hk : k ≤ s.size) : s.data.toList = (s.extract 0 k).data.toList ++ (s.extract k s.size).data.toList := by
  rw [extract_data, extract_data]
  have : s.data.toList.length = s.size := rfl
  rw [List.drop_zero, ← this, List.take_length, List.take_append_drop]
theorem Rd.bytes_inv (r : Rd) (n : Int) (h : (r.bytes n).2.bad = false) : r.bad = false ∧ 0 ≤ n ∧ ((r.bytes n).1.size : Int) = n ∧ r.s.data.toList = (r.bytes n).1.data.toList ++ (r.bytes n).2.s.data.toList := by
  unfold Rd.bytes at h ⊢
  split at h
  · simp [Rd.fail] at h
  · rename_i hno
    rw [if_neg hno]
    have hb : r.bad = false := h
    refine ⟨hb, by omega, ?_, take_drop_data _ _ (by omega)⟩
    show ((r.s.extract 0 n.toNat).size : Int) = n
    rw [ByteArray.size_extract]; omega
theorem Rd.var_inv (r : Rd) (h : r.var.2.bad = false) : r.bad = false ∧ r.s.data.toList = vput r.var.1 ++ r.var.2.s.data.toList := by
  unfold Rd.var at h ⊢
  split at h
  · rename_i n k hg
    obtain ⟨h1, h2⟩ := vget_inv _ _ _ hg
    simp only [hg]
    refine ⟨h, ?_⟩
    rw [← h1]
    have := take_drop_data r.s k h2
    rw [extract_data] at this
    simpa using this
  · simp [Rd.fail] at h
theorem beNat_snoc (l : List UInt8) (b : UInt8) : beNat (l ++ [b]) = beNat l * 256 + b.toNat := by
  unfold beNat; rw [List.foldl_append]; rfl
theorem fixed_beNat (l : List UInt8) : ∀ k, l.length = k → fixedL k (beNat l) = l := by
  intro k hk
  induction k generalizing l with
  | zero => rw [List.eq_nil_of_length_eq_zero hk]; rfl
  | succ k ih =>
    obtain ⟨l', b, rfl⟩ : ∃ l' b, l = l' ++ [b] := ⟨l.dropLast, l.getLast (by intro h; rw [h] at hk; simp at hk), by rw [List.dropLast_concat_getLast]⟩
    have hl' : l'.length = k := by simpa using hk
    have hb := b.toNat_lt
    rw [beNat_snoc, fixedL, show (beNat l' * 256 + b.toNat) / 256 = beNat l' from by omega, ih l' hl']
    congr 1
    have : UInt8.ofNat (beNat l' * 256 + b.toNat) = b := by
      apply UInt8.toNat_inj.1
      rw [UInt8.toNat_ofNat']; omega
    rw [this]
theorem Rd.fixed_inv (r : Rd) (k : Nat) (hk : k ≤ 8) (h : (r.fixed k).2.bad = false) : r.bad = false ∧ r.s.data.toList = fixedL k (r.fixed k).1 ++ (r.fixed k).2.s.data.toList := by
  unfold Rd.fixed at h ⊢
  rw [if_neg (by omega)] at h ⊢
  obtain ⟨h1, h2, h3, h4⟩ := Rd.bytes_inv r k h
  refine ⟨h1, ?_⟩
  have hl : (r.bytes k).1.data.toList.length = k := by
    have : (r.bytes k).1.data.toList.length = (r.bytes k).1.size := rfl
    omega
  show _ = fixedL k (beNat (r.bytes k).1.data.toList) ++ _
  rw [fixed_beNat _ k hl]; exact h4
theorem fixedS_data (n k : Nat) (hk : k ≤ 8) : (fixedS n k).data.toList = fixedL k n := by
  unfold fixedS
  rw [if_neg (by omega)]
  simp
theorem vputS_data (n : Nat) : (vputS n).data.toList = vput n := by simp [vputS]
theorem flen_data (v : Int) (n : Nat) : (flen v n).data.toList = if v = 1 then fixedL 4 n else vput n := by
  unfold flen
  split
  · exact fixedS_data n 4 (by omega)
  · exact vputS_data n
theorem fhead_data (v : Int) (n : Nat) : (fhead v n).data.toList = fixedL 1 (160 + v).toNat ++ (if v = 1 then fixedL 4 n else vput n) := by
  unfold fhead
  rw [ByteArray.data_append, Array.toList_append, flen_data]
  have : (fixedS (160 + v).toNat 1).data.toList = fixedL 1 (160 + v).toNat := fixedS_data _ 1 (by omega)
  rw [this]
theorem extract_pre (s a : ByteArray) (rest : List UInt8) (h : s.data.toList = a.data.toList ++ rest) : s.extract 0 a.size = a := by
  apply bs_ext
  rw [extract_data, List.drop_zero, h]
  have : a.size = a.data.toList.length := rfl
  rw [this, List.take_left]
theorem Rd.fixed_lt4 (r : Rd) : (r.fixed 4).1 < 256 ^ 4 := by
  unfold Rd.fixed
  refine Nat.lt_of_lt_of_le (beNat_lt _) (Nat.pow_le_pow_right (by omega) ?_)
  have h := Rd.bytes_size (if (8 : Int) < 4 then Rd.fail else r) 4
  have : ((if (8 : Int) < 4 then Rd.fail else r).bytes 4).1.data.toList.length = ((if (8 : Int) < 4 then Rd.fail else r).bytes 4).1.size := rfl
  rw [this]; omega
/-- What was opened well. -/
theorem fopen_inv (s : ByteArray) (h : (fopen s).2.2.bad = false) (hv : (fopen s).1 = 1 ∨ (fopen s).1 = 2) :
    s.data.toList = (fhead (fopen s).1 (fopen s).2.1).data.toList ++ (fopen s).2.2.s.data.toList := by
  rw [fhead_data]
  unfold fopen at h hv ⊢
  dsimp only at h hv ⊢
  generalize hx : (Rd.mk s false).fixed 1 = x at *
  obtain ⟨n, r⟩ := x
  dsimp only at h hv ⊢
  have hn : (160 + ((n : Int) - 160)).toNat = n := by omega
  rw [hn]
  by_cases h1 : (n : Int) - 160 = 1
  · rw [if_pos h1] at h ⊢
    rw [if_pos h1]
    obtain ⟨g1, g2⟩ := Rd.fixed_inv r 4 (by omega) h
    have h0 : (((Rd.mk s false).fixed ((1 : Nat) : Int)).2).bad = false := by rw [show (((1 : Nat) : Int)) = 1 from rfl, hx]; exact g1
    obtain ⟨_, g3⟩ := Rd.fixed_inv ⟨s, false⟩ 1 (by omega) h0
    rw [show (((1 : Nat) : Int)) = 1 from rfl, hx] at g3
    rw [show s.data.toList = (Rd.mk s false).s.data.toList from rfl, g3]
    dsimp only
    rw [g2, List.append_assoc]; rfl
  · rw [if_neg h1] at h ⊢
    rw [if_neg h1]
    obtain ⟨g1, g2⟩ := Rd.var_inv r h
    have h0 : (((Rd.mk s false).fixed ((1 : Nat) : Int)).2).bad = false := by rw [show (((1 : Nat) : Int)) = 1 from rfl, hx]; exact g1
    obtain ⟨_, g3⟩ := Rd.fixed_inv ⟨s, false⟩ 1 (by omega) h0
    rw [show (((1 : Nat) : Int)) = 1 from rfl, hx] at g3
    rw [show s.data.toList = (Rd.mk s false).s.data.toList from rfl, g3]
    dsimp only
    rw [g2, List.append_assoc]

theorem fnext_eq (s : ByteArray) : fnextR s = fnext s := by
  unfold fnextR fnext
  dsimp only
  generalize hv : (fopen s).1 = v
  generalize hn : (fopen s).2.1 = n
  generalize hr : (fopen s).2.2 = r
  by_cases h12 : v ≠ 1 ∧ v ≠ 2
  · rw [if_pos h12]
    split
    · rfl
    · rw [if_pos]
      right; left
      unfold fpack
      rw [if_pos (by omega)]
  · rw [if_neg h12]
    have h12' : v = 1 ∨ v = 2 := by omega
    by_cases hsz : (r.fixed 4).2.s.size < n
    · rw [if_pos hsz, if_pos (.inr (.inr hsz))]
    · rw [if_neg hsz]
      cases hbad : (r.fixed 4).2.bad with
      | true =>
        have hb2 : ((r.fixed 4).2.bytes n).2.bad = true := by
          unfold Rd.bytes
          rw [if_pos (.inl hbad)]; rfl
        rw [if_pos (.inl hb2), if_pos (.inl rfl)]
      | false =>
        have hz := Rd.fixed_inv r 4 (by omega) hbad
        obtain ⟨hrb, hrd⟩ := hz
        replace hrd : r.s.data.toList = fixedL 4 (r.fixed 4).1 ++ (r.fixed 4).2.s.data.toList := hrd
        have hby : ((r.fixed 4).2.bytes n).2.bad = false := by
          unfold Rd.bytes
          rw [if_neg (by rw [hbad]; simp; omega)]
          exact hbad
        obtain ⟨_, _, hbs, hbd⟩ := Rd.bytes_inv _ _ hby
        have hso := fopen_inv s (by rw [hr]; exact hrb) (by rw [hv]; exact h12')
        rw [hv, hn, hr, hrd, hbd] at hso
        have hS : (r.fixed 4).1 < 256 ^ 4 := Rd.fixed_lt4 r
        have hrs : r.s.size = 4 + (((r.fixed 4).2.bytes n).1.size + ((r.fixed 4).2.bytes n).2.s.size) := by
          have h1 := congrArg List.length hrd
          rw [hbd] at h1
          simp only [List.length_append, fixedL_len] at h1
          exact h1
        rw [hby]
        generalize (r.fixed 4).1 = S at *
        generalize ((r.fixed 4).2.bytes n).2 = r4 at *
        generalize ((r.fixed 4).2.bytes n).1 = body at *
        have hbn : body.size = n := by omega
        have hss : s.size = (fhead v n).size + r.s.size := by
          have h1 := congrArg List.length hso
          simp only [List.length_append, fixedL_len] at h1
          have e1 : s.size = s.data.toList.length := rfl
          have e2 : (fhead v n).size = (fhead v n).data.toList.length := rfl
          have e3 : body.size = body.data.toList.length := rfl
          have e4 : r4.s.size = r4.s.data.toList.length := rfl
          omega
        have hhead : s.extract 0 (s.size - r.s.size) = fhead v n := by
          rw [hss, Nat.add_sub_cancel]
          exact extract_pre s (fhead v n) _ hso
        rw [hhead]
        by_cases hbig : 1048576 < n
        · rw [if_pos (show false = true ∨ 1048576 < n ∨ (r.fixed 4).2.s.size < n from .inr (.inl hbig)), if_pos]
          right; left
          unfold fpack
          rw [if_pos (by omega)]
        · rw [if_neg (show ¬ (false = true ∨ 1048576 < n ∨ (r.fixed 4).2.s.size < n) from by simp; omega)]
          have hp : fpack v body = (fhead v n ++ fixedS (csum (fhead v n) body).toNat 4 ++ body, true) := by
            unfold fpack
            rw [if_neg (by omega), hbn]
          rw [hp]
          dsimp only
          have hq : (csum (fhead v n) body).toNat < 256 ^ 4 := by have := (csum (fhead v n) body).isLt; simpa using this
          generalize (csum (fhead v n) body).toNat = q at *
          have h4 : (fixedS q 4).data.toList = fixedL 4 q := fixedS_data q 4 (by omega)
          have h4z : (fixedS q 4).size = 4 := by
            have : (fixedS q 4).size = (fixedS q 4).data.toList.length := rfl
            rw [this, h4, fixedL_len]
          have htz : (fhead v n ++ fixedS q 4 ++ body).size = (fhead v n).size + 4 + n := by
            rw [ByteArray.size_append, ByteArray.size_append, h4z, hbn]
          have htd : (fhead v n ++ fixedS q 4 ++ body).data.toList = (fhead v n).data.toList ++ (fixedL 4 q ++ body.data.toList) := by
            rw [ByteArray.data_append, Array.toList_append, ByteArray.data_append, Array.toList_append, h4, List.append_assoc]
          by_cases hqS : q = S
          · subst hqS
            have hex : s.extract 0 (fhead v n ++ fixedS q 4 ++ body).size = fhead v n ++ fixedS q 4 ++ body := by
              refine extract_pre s _ r4.s.data.toList ?_
              rw [hso, htd]; simp only [List.append_assoc]
            rw [if_neg (by rw [hex, htz]; simp; omega), if_neg (by simp), htz]
            congr 3
            omega
          · rw [if_pos (c := ((q : Int) ≠ (S : Int))) (by omega), if_pos]
            right; right; right
            intro hex
            have h1 := congrArg (fun x : ByteArray => x.data.toList) hex
            rw [extract_data, List.drop_zero, hso, htd, htz] at h1
            rw [List.take_append] at h1
            have e2 : (fhead v n).size = (fhead v n).data.toList.length := rfl
            rw [List.take_of_length_le (by omega)] at h1
            have h2 := List.append_cancel_left h1
            rw [List.take_append, List.take_of_length_le (by rw [fixedL_len]; omega)] at h2
            have h3 := List.append_inj_left h2 (by rw [fixedL_len, fixedL_len])
            have h5 := congrArg beNat h3
            rw [beNat_fixed, beNat_fixed, Nat.mod_eq_of_lt hS, Nat.mod_eq_of_lt hq] at h5
            exact hqS h5.symm
end Go.Pin
