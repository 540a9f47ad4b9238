/- The document's answer to chapter 6, in words. -/
import Derived.Test.YthlmigbimeldbaaSecL
set_option maxRecDepth 16000
namespace Go.Pin
open Go.RowKit
set_option linter.unusedVariables false
set_option linter.unusedSimpArgs false
/-! ### What is read is what was put -/
theorem vscan_canon (l : List UInt8) : ∀ (f i acc m k : Nat), i + f = 10 → acc = vval (l.take i) → (∀ a ∈ l.take i, 128 ≤ a.toNat) → vscan l f i acc = some (m, k) → vput m = l.take k
  | 0, _, _, _, _, _, _, _, h => by simp [vscan] at h
  | f + 1, i, acc, m, k, hf, ha, hcs, h => by
    rw [vscan] at h
    split at h
    · rename_i hil
      simp only at h
      split at h
      · rename_i hb
        cases f with
        | zero => simp [vscan] at h
        | succ f =>
          have ht : l.take (i + 1) = l.take i ++ [l.getD i 0] := by
            rw [show l.getD i 0 = l[i] by simp [List.getD, hil], List.take_succ_eq_append_getElem hil]
          have hlen : (l.take i).length = i := by rw [List.length_take]; omega
          refine vscan_canon l (f + 1) (i + 1) _ m k (by omega) ?_ ?_ h
          · rw [ht, vval_append, hlen, ha]
            congr 1
            apply Nat.mod_eq_of_lt
            have : (l.getD i 0).toNat % 128 * 128 ^ i ≤ 127 * 128 ^ 8 := Nat.mul_le_mul (by omega) (Nat.pow_le_pow_right (by omega) (by omega))
            have e8 : (128 : Nat) ^ 8 = 72057594037927936 := by decide
            rw [e8] at this
            omega
          · rw [ht]
            intro a q
            rcases List.mem_append.1 q with q | q
            · exact hcs a q
            · rw [List.mem_singleton.1 q]; exact hb
      · rename_i hb
        split at h
        · cases h
        · rename_i hg
          simp only [Option.some.injEq, Prod.mk.injEq] at h
          obtain ⟨rfl, rfl⟩ := h
          rw [ha]
          exact (vput_test l i (by omega) hil hcs (by omega)).2 hg
    · cases h
theorem vget_canon (l : List UInt8) (m k : Nat) (h : vget l = some (m, k)) : vput m = l.take k := vscan_canon l 10 0 0 m k rfl rfl (by simp) h
theorem extract_end (s : ByteArray) (k : Nat) : (s.extract k s.size).data.toList = s.data.toList.drop k := by
  rw [ByteArray.data_extract]
  simp only [Array.toList_extract, List.extract_eq_take_drop]
  rw [List.take_of_length_le]
  rw [List.length_drop, Array.length_toList]
  exact Nat.le_refl _
theorem extract_begin (s : ByteArray) (k : Nat) : (s.extract 0 k).data.toList = s.data.toList.take k := by
  rw [ByteArray.data_extract]
  simp only [Array.toList_extract, List.extract_eq_take_drop, List.drop_zero, Nat.sub_zero]
theorem rd_var_canon (r : Rd) (h : r.var.2.bad = false) : r.bad = false ∧ r.s.data.toList = vput r.var.1 ++ r.var.2.s.data.toList := by
  unfold Rd.var at h ⊢
  cases hv : vget r.s.data.toList with
  | none => simp only [hv] at h; cases h
  | some x =>
    obtain ⟨n, k⟩ := x
    simp only [hv] at h ⊢
    refine ⟨h, ?_⟩
    rw [extract_end, vget_canon _ _ _ hv, List.take_append_drop]
theorem rd_bytes_canon (r : Rd) (n : Nat) (h : (r.bytes n).2.bad = false) : r.bad = false ∧ (r.bytes n).1.size = n ∧ r.s.data.toList = (r.bytes n).1.data.toList ++ (r.bytes n).2.s.data.toList := by
  unfold Rd.bytes at h ⊢
  split at h
  · cases h
  · rename_i hc
    rw [if_neg hc]
    dsimp only at h ⊢
    refine ⟨h, ?_, ?_⟩
    · rw [ByteArray.size_extract]; omega
    · rw [extract_end, extract_begin, List.take_append_drop]
theorem rd_text_canon (r : Rd) (h : r.text.2.bad = false) : r.bad = false ∧ r.s.data.toList = vput r.text.1.size ++ (r.text.1.data.toList ++ r.text.2.s.data.toList) := by
  unfold Rd.text at h ⊢
  split at h
  · cases h
  · rename_i hc
    rw [if_neg hc]
    obtain ⟨h1, h2, h3⟩ := rd_bytes_canon _ _ h
    obtain ⟨h4, h5⟩ := rd_var_canon r h1
    refine ⟨h4, ?_⟩
    rw [h2, ← h3]
    exact h5
/-- A field. -/
def En.fv (e : En) (k : Nat) : FV := e.fvs.getD k (.n 0)
theorem setN_fv (t : Nat) (h : 1 ≤ t ∧ t ≤ 9) (e : En) (x : Int) : (e.setN t x).fv (t - 1) = .n x ∧ ∀ k, k < 11 → k ≠ t - 1 → (e.setN t x).fv k = e.fv k := by
  have ht : t = 1 ∨ t = 2 ∨ t = 3 ∨ t = 4 ∨ t = 5 ∨ t = 6 ∨ t = 7 ∨ t = 8 ∨ t = 9 := by omega
  have hw : ∀ k, k < 11 → k = 0 ∨ k = 1 ∨ k = 2 ∨ k = 3 ∨ k = 4 ∨ k = 5 ∨ k = 6 ∨ k = 7 ∨ k = 8 ∨ k = 9 ∨ k = 10 := fun k _ => by omega
  rcases ht with rfl | rfl | rfl | rfl | rfl | rfl | rfl | rfl | rfl <;>
  · refine ⟨rfl, fun k hk hn => ?_⟩
    rcases hw k hk with rfl | rfl | rfl | rfl | rfl | rfl | rfl | rfl | rfl | rfl | rfl <;> first | rfl | exact absurd rfl hn
theorem setT_fv (t : Nat) (h : 10 ≤ t ∧ t ≤ 11) (e : En) (x : ByteArray) : (e.setT t x).fv (t - 1) = .t x ∧ ∀ k, k < 11 → k ≠ t - 1 → (e.setT t x).fv k = e.fv k := by
  have ht : t = 10 ∨ t = 11 := by omega
  have hw : ∀ k, k < 11 → k = 0 ∨ k = 1 ∨ k = 2 ∨ k = 3 ∨ k = 4 ∨ k = 5 ∨ k = 6 ∨ k = 7 ∨ k = 8 ∨ k = 9 ∨ k = 10 := fun k _ => by omega
  rcases ht with rfl | rfl <;>
  · refine ⟨rfl, fun k hk hn => ?_⟩
    rcases hw k hk with rfl | rfl | rfl | rfl | rfl | rfl | rfl | rfl | rfl | rfl | rfl <;> first | rfl | exact absurd rfl hn
theorem takeF_spec (t : Nat) (ht : 1 ≤ t ∧ t ≤ 11) (e : En) (r : Rd) (hb : (takeF t e r).2.bad = false) :
    r.bad = false ∧ ∃ v : FV, v.enc ≠ [] ∧ r.s.data.toList = v.enc ++ (takeF t e r).2.s.data.toList ∧ (takeF t e r).1.fv (t - 1) = v ∧ ∀ k, k < 11 → k ≠ t - 1 → (takeF t e r).1.fv k = e.fv k := by
  unfold takeF at hb ⊢
  by_cases h9 : t ≤ 9
  · rw [if_pos h9] at hb ⊢
    dsimp only at hb ⊢
    by_cases hf : r.var.1 = 0 ∨ (tagInt t = true ∧ 9223372036854775808 ≤ r.var.1)
    · rw [if_pos hf] at hb; cases hb
    · rw [if_neg hf] at hb ⊢
      obtain ⟨h1, h2⟩ := rd_var_canon r hb
      have hv : tagVal t r.var.1 = (r.var.1 : Int) := by
        unfold tagVal
        by_cases hi : tagInt t = true
        · rw [if_pos hi, wrap_i64_small]
          rcases Nat.lt_or_ge r.var.1 9223372036854775808 with q | q
          · exact q
          · exact absurd (.inr ⟨hi, q⟩) hf
        · rw [if_neg hi]
      rw [hv]
      have h0 : r.var.1 ≠ 0 := fun q => hf (.inl q)
      have he : FV.enc (.n (r.var.1 : Int)) = vput r.var.1 := by
        unfold FV.enc
        dsimp only
        rw [if_neg (by omega), Int.toNat_natCast]
      obtain ⟨q1, q2⟩ := setN_fv t ⟨ht.1, h9⟩ e r.var.1
      exact ⟨h1, _, by rw [he]; exact vput_ne _, by rw [he]; exact h2, q1, q2⟩
  · rw [if_neg h9] at hb ⊢
    dsimp only at hb ⊢
    by_cases hf : r.text.1 = ⟨#[]⟩
    · rw [if_pos hf] at hb; cases hb
    · rw [if_neg hf] at hb ⊢
      obtain ⟨h1, h2⟩ := rd_text_canon r hb
      have he : FV.enc (.t r.text.1) = vput r.text.1.size ++ r.text.1.data.toList := by
        unfold FV.enc
        dsimp only
        rw [if_neg hf]
      obtain ⟨q1, q2⟩ := setT_fv t ⟨by omega, ht.2⟩ e r.text.1
      refine ⟨h1, _, ?_, ?_, q1, q2⟩
      · intro q
        have := (enc_no _).1 q
        exact hf (no_t this)
      · rw [he, List.append_assoc]; exact h2
theorem getF_bad : ∀ (f last : Nat) (e : En) (r : Rd), (getF f last e r).2.bad = false → r.bad = false
  | 0, _, _, _, h => h
  | f + 1, last, e, r, h => by
    rw [getF_succ] at h
    unfold secGo at h
    by_cases h0 : r.var.1 = 0
    · rw [if_pos h0] at h
      exact (rd_var_canon r h).1
    · rw [if_neg h0] at h
      by_cases h1 : r.var.1 ≤ last ∨ 11 < r.var.1
      · rw [if_pos h1] at h; cases h
      · rw [if_neg h1] at h
        have h2 := getF_bad f _ _ _ h
        have h3 := (takeF_spec r.var.1 ⟨by omega, by omega⟩ e r.var.2 h2).1
        exact (rd_var_canon r h3).1
theorem putFs_skip (L : List (List UInt8)) (a : Nat) : ∀ (d : Nat), a + d ≤ L.length → (∀ k, a ≤ k → k < a + d → L.getD k [] = []) → putFs (a + 1) (L.drop a) = putFs (a + d + 1) (L.drop (a + d))
  | 0, _, _ => rfl
  | d + 1, hl, hn => by
    rw [putFs_skip L a d (by omega) (fun k h1 h2 => hn k h1 (by omega))]
    have hlt : a + d < L.length := by omega
    rw [List.drop_eq_getElem_cons hlt, putFs]
    have h0 := hn (a + d) (by omega) (by omega)
    rw [List.getD, List.getElem?_eq_getElem hlt] at h0
    simp only [Option.getD_some] at h0
    rw [h0, if_pos rfl]
    rfl
theorem fv_enc (e : En) (k : Nat) (hk : k < 11) : (e.fvs.map FV.enc).getD k [] = (e.fv k).enc := by
  have hw : k = 0 ∨ k = 1 ∨ k = 2 ∨ k = 3 ∨ k = 4 ∨ k = 5 ∨ k = 6 ∨ k = 7 ∨ k = 8 ∨ k = 9 ∨ k = 10 := by omega
  rcases hw with rfl | rfl | rfl | rfl | rfl | rfl | rfl | rfl | rfl | rfl | rfl <;> rfl
theorem getF_spec : ∀ (f last : Nat) (e : En) (r : Rd), (getF f last e r).2.bad = false → last ≤ 11 → 12 ≤ f + last → (∀ k, last ≤ k → k < 11 → (e.fv k).enc = []) →
    r.s.data.toList = putFs (last + 1) (((getF f last e r).1.fvs.map FV.enc).drop last) ++ 0 :: (getF f last e r).2.s.data.toList ∧ ∀ k, k < last → (getF f last e r).1.fv k = e.fv k
  | 0, _, _, _, _, _, _, _ => by omega
  | f + 1, last, e, r, hb, hl, hf, hn => by
    rw [getF_succ] at hb ⊢
    unfold secGo at hb ⊢
    by_cases h0 : r.var.1 = 0
    · rw [if_pos h0] at hb ⊢
      dsimp only at hb ⊢
      obtain ⟨h1, h2⟩ := rd_var_canon r hb
      refine ⟨?_, fun _ _ => rfl⟩
      have hs := putFs_skip (e.fvs.map FV.enc) last (11 - last) (by show last + (11 - last) ≤ 11; omega) (fun k h3 h4 => by rw [fv_enc e k (by omega)]; exact hn k h3 (by omega))
      rw [show last + (11 - last) = 11 by omega] at hs
      rw [hs, h2, h0, vput_0]
      rfl
    · rw [if_neg h0] at hb ⊢
      by_cases h1 : r.var.1 ≤ last ∨ 11 < r.var.1
      · rw [if_pos h1] at hb; cases hb
      · rw [if_neg h1] at hb ⊢
        have hb2 := getF_bad f _ _ _ hb
        obtain ⟨t, ht⟩ : ∃ t, r.var.1 = t := ⟨_, rfl⟩
        have ht1 : last < t ∧ t ≤ 11 := by omega
        obtain ⟨h3, v, h4, h5, h6, h7⟩ := takeF_spec r.var.1 ⟨by omega, by omega⟩ e r.var.2 hb2
        obtain ⟨h8, h9⟩ := rd_var_canon r h3
        rw [ht] at hb h5 h6 h7 h9 ⊢
        generalize takeF t e r.var.2 = T at *
        obtain ⟨g1, g2⟩ := getF_spec f t T.1 T.2 hb ht1.2 (by omega) (fun k q1 q2 => by rw [h7 k q2 (by omega)]; exact hn k (by omega) q2)
        generalize getF f t T.1 T.2 = G at *
        refine ⟨?_, fun k hk => by rw [g2 k (by omega), h7 k (by omega) (by omega)]⟩
        have hs := putFs_skip (G.1.fvs.map FV.enc) last (t - 1 - last) (by show last + (t - 1 - last) ≤ 11; omega) (fun k q1 q2 => by rw [fv_enc _ k (by omega), g2 k (by omega), h7 k (by omega) (by omega)]; exact hn k q1 (by omega))
        rw [show last + (t - 1 - last) = t - 1 by omega, show t - 1 + 1 = t by omega] at hs
        have hlt : t - 1 < (G.1.fvs.map FV.enc).length := by show t - 1 < 11; omega
        have hge : (G.1.fvs.map FV.enc)[t - 1] = v.enc := by
          have := fv_enc G.1 (t - 1) (by omega)
          rw [List.getD, List.getElem?_eq_getElem hlt] at this
          simp only [Option.getD_some] at this
          rw [this, g2 (t - 1) (by omega), h6]
        rw [hs, List.drop_eq_getElem_cons hlt, putFs, hge, if_neg h4, show t - 1 + 1 = t by omega, h9, h5, g1]
        simp only [List.append_assoc]
theorem zero_fv (k : Nat) (h : k < 11) : (En.zero.fv k).enc = [] := by
  have hw : k = 0 ∨ k = 1 ∨ k = 2 ∨ k = 3 ∨ k = 4 ∨ k = 5 ∨ k = 6 ∨ k = 7 ∨ k = 8 ∨ k = 9 ∨ k = 10 := by omega
  rcases hw with rfl | rfl | rfl | rfl | rfl | rfl | rfl | rfl | rfl | rfl | rfl <;> rfl
theorem getF_canon (r : Rd) (h : (getF 12 0 En.zero r).2.bad = false) : r.s.data.toList = secPut (getF 12 0 En.zero r).1 ++ (getF 12 0 En.zero r).2.s.data.toList := by
  have := (getF_spec 12 0 En.zero r h (by decide) (by decide) (fun k _ q => zero_fv k q)).1
  rw [List.drop_zero] at this
  unfold secPut
  rw [this]
  simp only [List.append_assoc]
  rfl
/-! ### The document's reader -/
def rtake (tag : Nat) (e : En) (r : Rd) : En × Rd :=
  if tag = 10 ∨ tag = 11 then (e.setT tag r.text.1, r.text.2)
  else (e.setN tag (if tagInt tag = true then ((r.var.1 % 1000 : Nat) : Int) else (r.var.1 : Int)), if tag ≤ 9 then r.var.2 else Rd.fail)
def rgo : Nat → En → Rd → En × Rd
  | 0, e, r => (e, r)
  | f + 1, e, r => if r.bad = true then (e, r) else if r.var.1 = 0 then (e, r.var.2) else rgo f (rtake r.var.1 e r.var.2).1 (rtake r.var.1 e r.var.2).2
def refGet (r : Rd) : En × Rd :=
  if (rgo 12 En.zero r).2.bad = false ∧ (rgo 12 En.zero r).1.right = true ∧ secPut (rgo 12 En.zero r).1 ++ (rgo 12 En.zero r).2.s.data.toList = r.s.data.toList then rgo 12 En.zero r else (En.zero, Rd.fail)
theorem rgo_succ (f : Nat) (e : En) (r : Rd) : rgo (f + 1) e r = if r.bad = true then (e, r) else if r.var.1 = 0 then (e, r.var.2) else rgo f (rtake r.var.1 e r.var.2).1 (rtake r.var.1 e r.var.2).2 := rfl
/-- Small numbers. -/
def FV.low (k : Nat) : FV → Prop
  | .n x => tagInt k = true → x < 1000
  | .t _ => k ≤ 11
def lowAll : Nat → List FV → Prop
  | _, [] => True
  | k, v :: F => v.low k ∧ lowAll (k + 1) F
theorem rtake_put (k : Nat) (v : FV) (e : En) (rest : List UInt8) (hk : v.okAt k) (hl : v.low k) (hn : ¬ v.no = true) : rtake k e ⟨bs (v.enc ++ rest), false⟩ = (e.set k v, ⟨bs rest, false⟩) := by
  cases v with
  | n x =>
    obtain ⟨h9, h0, h1, h2⟩ := hk
    have hx : ¬ x = 0 := by simpa [FV.no] using hn
    have hr : (Rd.mk (bs (FV.enc (.n x) ++ rest)) false).var = (x.toNat, ⟨bs rest, false⟩) := by
      unfold FV.enc
      dsimp only
      rw [if_neg hx]
      exact rd_var_put x.toNat rest false (by omega)
    unfold rtake
    rw [if_neg (by omega), hr]
    dsimp only
    have hv : (if tagInt k = true then ((x.toNat % 1000 : Nat) : Int) else (x.toNat : Int)) = x := by
      by_cases hi : tagInt k = true
      · rw [if_pos hi]
        have : x < 1000 := hl hi
        omega
      · rw [if_neg hi]; omega
    rw [hv, if_pos h9]
    rfl
  | t s =>
    obtain ⟨h9, h0⟩ := hk
    have hx : ¬ s = ⟨#[]⟩ := by simpa [FV.no] using hn
    have hr : (Rd.mk (bs (FV.enc (.t s) ++ rest)) false).text = (s, ⟨bs rest, false⟩) := by
      unfold FV.enc
      dsimp only
      rw [if_neg hx]
      have h3 := rd_text_put s.data.toList rest (by rw [Array.length_toList]; exact h0)
      rw [bs_of] at h3
      rw [Array.length_toList] at h3
      exact h3
    have h11 : k ≤ 11 := hl
    unfold rtake
    rw [if_pos (by omega), hr]
    rfl
theorem rgo_put : ∀ (F : List FV) (k f : Nat) (e : En) (rest : List UInt8), 0 < k → k + F.length = 12 → F.length + 1 ≤ f → okAll k F → lowAll k F →
    rgo f e ⟨bs (putFs k (F.map FV.enc) ++ (0 :: rest)), false⟩ = (setAll e k F, ⟨bs rest, false⟩)
  | [], k, f, e, rest, _, _, hf, _, _ => by
    cases f with
    | zero => simp at hf
    | succ f =>
      have hr : (Rd.mk (bs (putFs k (List.map FV.enc []) ++ (0 :: rest))) false).var = (0, ⟨bs rest, false⟩) := by
        show (Rd.mk (bs ([] ++ (0 :: rest))) false).var = _
        have := rd_var_put 0 rest false (by decide)
        rw [vput_0] at this
        exact this
      rw [rgo_succ, hr]
      rfl
  | v :: F, k, f, e, rest, hl, hF, hf, ho, hw => by
    obtain ⟨h1, h2⟩ := ho
    obtain ⟨w1, w2⟩ := hw
    simp only [List.length_cons] at hF hf
    rw [List.map_cons, putFs]
    unfold setAll
    by_cases hn : v.no = true
    · rw [if_pos ((enc_no v).2 hn), if_pos hn, List.nil_append]
      exact rgo_put F (k + 1) f e rest (by omega) (by omega) (by omega) h2 w2
    · rw [if_neg (fun q => hn ((enc_no v).1 q)), if_neg hn]
      cases f with
      | zero => omega
      | succ f =>
        have hr : (Rd.mk (bs (vput k ++ v.enc ++ putFs (k + 1) (F.map FV.enc) ++ (0 :: rest))) false).var = (k, ⟨bs (v.enc ++ (putFs (k + 1) (F.map FV.enc) ++ (0 :: rest))), false⟩) := by
          have := rd_var_put k (v.enc ++ (putFs (k + 1) (F.map FV.enc) ++ (0 :: rest))) false (by omega)
          simp only [List.append_assoc] at this ⊢
          exact this
        rw [rgo_succ, hr]
        dsimp only
        rw [if_neg (by decide), if_neg (by omega), rtake_put k v e _ h1 w1 hn]
        dsimp only
        exact rgo_put F (k + 1) f (e.set k v) rest (by omega) (by omega) (by omega) h2 w2
theorem right_low {e : En} (h : e.right = true) : e.kind < 1000 ∧ e.node < 1000 ∧ e.level < 1000 := by
  unfold En.right at h
  simp only [Bool.and_eq_true, decide_eq_true_eq] at h
  obtain ⟨⟨⟨h1, h2⟩, h3⟩, ⟨⟨⟨⟨⟨⟨g1, g2⟩, g3⟩, g4⟩, g5⟩, g6⟩, g7⟩⟩ := h
  have hk : 0 ≤ e.kind ∧ e.kind ≤ 11 := by
    by_cases q : 0 ≤ e.kind ∧ e.kind ≤ 11
    · exact q
    · have : enF e.kind = (⟨#[]⟩, false) := by
        unfold enF
        rw [if_neg (by omega), if_neg (by omega), if_neg (by omega), if_neg (by omega), if_neg (by omega), if_neg (by omega), if_neg (by omega), if_neg (by omega)]
      rw [this] at h1; cases h1
  have hn : 0 ≤ e.node ∧ e.node ≤ 7 := by
    rcases fit_cases g4 with q | q
    · have := of_decide_eq_true q; omega
    · have : e.node = 0 := by simpa using q
      omega
  have hl : 0 ≤ e.level ∧ e.level ≤ 2 := by
    rcases fit_cases g5 with q | q
    · have := of_decide_eq_true q; omega
    · have : e.level = 0 := by simpa using q
      omega
  omega
theorem fvs_low {e : En} (h : e.right = true) : lowAll 1 e.fvs := by
  obtain ⟨h1, h2, h3⟩ := right_low h
  unfold En.fvs
  simp only [lowAll, FV.low, tagInt]
  simp
  omega
theorem refGet_put {e : En} (h : e.small) (hr : e.right = true) (rest : List UInt8) : refGet ⟨bs (secPut e ++ rest), false⟩ = (e, ⟨bs rest, false⟩) := by
  have h1 := rgo_put e.fvs 1 12 En.zero rest (by decide) (by rfl) (Nat.le_refl _) (fvs_ok h) (fvs_low hr)
  rw [setAll_fvs] at h1
  have h2 : rgo 12 En.zero ⟨bs (secPut e ++ rest), false⟩ = (e, ⟨bs rest, false⟩) := by
    unfold secPut
    rw [List.append_assoc]
    exact h1
  unfold refGet
  rw [h2, if_pos]
  refine ⟨rfl, hr, ?_⟩
  dsimp only
  rw [bs_data, bs_data]
end Go.Pin
namespace Go.Proofs.Ythlmigbimeldbaa
open Go.RowKit Go.Pin
set_option linter.unusedVariables false
set_option linter.unusedSimpArgs false
theorem setN_ok' (e : En) (he : e.ok) (tag : Nat) (v : Int) (hv : 0 ≤ v ∧ v ≤ 18446744073709551615) (hw : tagInt tag = true → v ≤ 9223372036854775807) : (e.setN tag v).ok := by
  have hv0 : -9223372036854775808 ≤ v := by omega
  by_cases ht : tag ≤ 9
  · have hways : tag = 0 ∨ tag = 1 ∨ tag = 2 ∨ tag = 3 ∨ tag = 4 ∨ tag = 5 ∨ tag = 6 ∨ tag = 7 ∨ tag = 8 ∨ tag = 9 := by omega
    rcases hways with rfl | rfl | rfl | rfl | rfl | rfl | rfl | rfl | rfl | rfl
    · exact he
    · exact ⟨he.term, he.index, ⟨hv0, hw rfl⟩, he.client, he.seq, he.block, he.many, he.node, he.level, he.data, he.old⟩
    · exact ⟨hv, he.index, he.kind, he.client, he.seq, he.block, he.many, he.node, he.level, he.data, he.old⟩
    · exact ⟨he.term, hv, he.kind, he.client, he.seq, he.block, he.many, he.node, he.level, he.data, he.old⟩
    · exact ⟨he.term, he.index, he.kind, hv, he.seq, he.block, he.many, he.node, he.level, he.data, he.old⟩
    · exact ⟨he.term, he.index, he.kind, he.client, hv, he.block, he.many, he.node, he.level, he.data, he.old⟩
    · exact ⟨he.term, he.index, he.kind, he.client, he.seq, hv, he.many, he.node, he.level, he.data, he.old⟩
    · exact ⟨he.term, he.index, he.kind, he.client, he.seq, he.block, hv, he.node, he.level, he.data, he.old⟩
    · exact ⟨he.term, he.index, he.kind, he.client, he.seq, he.block, he.many, ⟨hv0, hw rfl⟩, he.level, he.data, he.old⟩
    · exact ⟨he.term, he.index, he.kind, he.client, he.seq, he.block, he.many, he.node, ⟨hv0, hw rfl⟩, he.data, he.old⟩
  · have : e.setN tag v = e := by
      unfold En.setN
      split <;> first | omega | rfl
    rw [this]; exact he
theorem rtake_ok (tag : Nat) (e : En) (he : e.ok) (r : Rd) (hs : r.s.size ≤ 1152921504606846976) : (rtake tag e r).1.ok := by
  unfold rtake
  split
  · exact setT_ok e he tag _ (by have := text_fst_le r hs; omega)
  · have := Rd.var_lt r
    refine setN_ok' e he tag _ ?_ ?_
    · split <;> omega
    · intro q
      rw [if_pos q]; omega
theorem rtake_le (tag : Nat) (e : En) (r : Rd) : (rtake tag e r).2.s.size ≤ r.s.size := by
  unfold rtake
  split
  · exact Rd.text_le' r
  · dsimp only
    split
    · exact Rd.var_le r
    · exact Nat.zero_le _
theorem rgo_ok : ∀ (f : Nat) (e : En) (r : Rd), e.ok → r.s.size ≤ 1152921504606846976 → (rgo f e r).1.ok
  | 0, _, _, he, _ => he
  | f + 1, e, r, he, hs => by
    rw [rgo_succ]
    have hv := Rd.var_le r
    split
    · exact he
    · split
      · exact he
      · exact rgo_ok f _ _ (rtake_ok _ e he _ (by omega)) (by have := rtake_le r.var.1 e r.var.2; omega)
theorem refGet_eq (s : ByteArray) (hs : s.size ≤ 1152921504606846976) : refGet ⟨s, false⟩ = secGet ⟨s, false⟩ := by
  by_cases h : (getF 12 0 En.zero ⟨s, false⟩).2.bad = false ∧ (getF 12 0 En.zero ⟨s, false⟩).1.right = true
  · have ho := getF_ok 12 0 En.zero ⟨s, false⟩ zero_ok hs
    have hc := getF_canon ⟨s, false⟩ h.1
    have e1 : secGet ⟨s, false⟩ = getF 12 0 En.zero ⟨s, false⟩ := by unfold secGet; rw [if_pos h]
    rw [e1]
    obtain ⟨⟨e, ⟨t, b⟩⟩, hg⟩ : ∃ G, getF 12 0 En.zero ⟨s, false⟩ = G := ⟨_, rfl⟩
    rw [hg] at ho hc h ⊢
    obtain ⟨h1, h2⟩ := h
    dsimp only at ho hc h1 h2
    subst h1
    have hr := refGet_put (right_small h2 ho).1 h2 t.data.toList
    rw [← hc, bs_of, bs_of] at hr
    exact hr
  · have e1 : secGet ⟨s, false⟩ = (En.zero, Rd.fail) := by unfold secGet; rw [if_neg h]
    by_cases h2 : (rgo 12 En.zero ⟨s, false⟩).2.bad = false ∧ (rgo 12 En.zero ⟨s, false⟩).1.right = true ∧ secPut (rgo 12 En.zero ⟨s, false⟩).1 ++ (rgo 12 En.zero ⟨s, false⟩).2.s.data.toList = s.data.toList
    · obtain ⟨g1, g2, g3⟩ := h2
      have ho := rgo_ok 12 En.zero ⟨s, false⟩ zero_ok hs
      have hr := secGet_put (right_small g2 ho).1 g2 (rgo 12 En.zero ⟨s, false⟩).2.s.data.toList
      rw [g3, bs_of, e1] at hr
      injection hr with _ hr2
      injection hr2 with _ hr3
      cases hr3
    · rw [e1]
      unfold refGet
      rw [if_neg h2]
end Go.Proofs.Ythlmigbimeldbaa
