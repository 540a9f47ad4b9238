/- SecondShort: plain laws. -/
import Derived.Test.YthlmigbimeldbaaSecT
set_option maxRecDepth 16000
namespace Go.Pin
open Go.RowKit
set_option linter.unusedVariables false
set_option linter.unusedSimpArgs false
theorem own_bounds (e : En) (he : e.ok) : (0 < e.own.term ∧ e.own.term ≤ 1000) ∧ (0 < e.own.index ∧ e.own.index ≤ 1000) ∧ (0 ≤ e.own.kind ∧ e.own.kind ≤ 11) ∧ (0 ≤ e.own.client ∧ e.own.client ≤ 10) ∧ (0 ≤ e.own.seq ∧ e.own.seq ≤ 10) ∧ (0 ≤ e.own.block ∧ e.own.block ≤ 10) ∧ (0 ≤ e.own.many ∧ e.own.many ≤ 10) ∧ (0 ≤ e.own.node ∧ e.own.node ≤ 7) ∧ (0 ≤ e.own.level ∧ e.own.level ≤ 2) := by
  have hk := enKind_in e.kind
  have h1 : 0 ≤ e.client % 5 + 1 ∧ e.client % 5 + 1 ≤ 10 := by have := he.client; omega
  have h2 : 0 ≤ e.block % 9 ∧ e.block % 9 ≤ 10 := by omega
  have h3 : 0 ≤ e.many % 9 ∧ e.many % 9 ≤ 10 := by omega
  have h4 : 0 ≤ e.node % 18446744073709551616 % 7 + 1 ∧ e.node % 18446744073709551616 % 7 + 1 ≤ 7 := by omega
  have h5 : 0 ≤ e.level % 18446744073709551616 % 2 + 1 ∧ e.level % 18446744073709551616 % 2 + 1 ≤ 2 := by omega
  have h8 : 0 ≤ e.seq % 9 ∧ e.seq % 9 ≤ 10 := by omega
  have h9 : 0 < e.term % 1000 + 1 ∧ e.term % 1000 + 1 ≤ 1000 := by omega
  have h10 : 0 < e.index % 1000 + 1 ∧ e.index % 1000 + 1 ≤ 1000 := by omega
  generalize hS : e.seq % 9 = S at *
  generalize hT : e.term % 1000 + 1 = T at *
  generalize hI : e.index % 1000 + 1 = I at *
  generalize hC : e.client % 5 + 1 = C at *
  generalize hB : e.block % 9 = B at *
  generalize hM : e.many % 9 = M at *
  generalize hN : e.node % 18446744073709551616 % 7 + 1 = N at *
  generalize hL : e.level % 18446744073709551616 % 2 + 1 = L at *
  have hc : enKind e.kind = 0 ∨ enKind e.kind = 1 ∨ enKind e.kind = 2 ∨ enKind e.kind = 3 ∨ enKind e.kind = 4 ∨ enKind e.kind = 5 ∨ enKind e.kind = 6 ∨ enKind e.kind = 7 ∨ enKind e.kind = 8 ∨ enKind e.kind = 9 ∨ enKind e.kind = 10 ∨ enKind e.kind = 11 := by omega
  unfold En.own enStart
  rcases hc with q | q | q | q | q | q | q | q | q | q | q | q <;> rw [q] <;> simp [enF, enPut, En.zero, hC, hB, hM, hN, hL, hS, hT, hI]
  all_goals omega
theorem enc_n {x : Int} (h : ¬ x = 0) : FV.enc (.n x) = vput x.toNat := by unfold FV.enc; dsimp only; rw [if_neg h]
theorem enc_t {s : ByteArray} (h : ¬ s = ⟨#[]⟩) : FV.enc (.t s) = vput s.size ++ s.data.toList := by unfold FV.enc; dsimp only; rw [if_neg h]
theorem piece_no (t : Nat) : piece t [] = [] := rfl
theorem piece_yes (t : Nat) {l : List UInt8} (h : l ≠ []) : piece t l = vput t ++ l := by unfold piece; rw [if_neg h]
theorem piece_n (t : Nat) (ht : t < 128) (x : Int) (k m : Nat) (hk : 0 < k) (h0 : 0 ≤ x) (h : x.toNat < 128 ^ k) (hm : m = k + 1) : (piece t (FV.enc (.n x))).length ≤ m := by
  by_cases q : x = 0
  · subst q; exact Nat.zero_le _
  · rw [enc_n q, piece_yes t (vput_ne _), List.length_append, vput_small t ht]
    have := vputF_len_lt 9 k x.toNat hk h
    unfold vput
    simp only [List.length_cons, List.length_nil]
    omega
theorem data_len (s : ByteArray) : s.data.toList.length = s.size := by rw [Array.length_toList]; rfl
theorem piece_t (t : Nat) (ht : t < 128) (s : ByteArray) (hs : s.size ≤ 64) : (piece t (FV.enc (.t s))).length = if s = ⟨#[]⟩ then 0 else 2 + s.size := by
  by_cases q : s = ⟨#[]⟩
  · subst q; rfl
  · rw [if_neg q, enc_t q, piece_yes t (by simp [vput_ne]), List.length_append, List.length_append, vput_small t ht, vput_small s.size (by omega), data_len]
    simp only [List.length_cons, List.length_nil]
    omega
theorem secPut_length (e : En) : (secPut e).length = (piece 1 (FV.enc (.n e.kind))).length + (piece 2 (FV.enc (.n e.term))).length + (piece 3 (FV.enc (.n e.index))).length + (piece 4 (FV.enc (.n e.client))).length + (piece 5 (FV.enc (.n e.seq))).length + (piece 6 (FV.enc (.n e.block))).length + (piece 7 (FV.enc (.n e.many))).length + (piece 8 (FV.enc (.n e.node))).length + (piece 9 (FV.enc (.n e.level))).length + (piece 10 (FV.enc (.t e.data))).length + (piece 11 (FV.enc (.t e.old))).length + 1 := by
  have h0 : (secPre e 0).length = 0 := rfl
  have g : ∀ k, k < 11 → (secPre e (k + 1)).length = (secPre e k).length + (piece (k + 1) ((e.fvs.map FV.enc).getD k [])).length := fun k hk => by rw [secPre_succ e k hk, List.length_append]
  have e0 := g 0 (by decide)
  have e1 := g 1 (by decide)
  have e2 := g 2 (by decide)
  have e3 := g 3 (by decide)
  have e4 := g 4 (by decide)
  have e5 := g 5 (by decide)
  have e6 := g 6 (by decide)
  have e7 := g 7 (by decide)
  have e8 := g 8 (by decide)
  have e9 := g 9 (by decide)
  have e10 := g 10 (by decide)
  rw [← secPre_11, List.length_append]
  simp only [List.length_cons, List.length_nil]
  have : ∀ a b c : Nat, a = b → a + c = b + c := fun a b c h => by rw [h]
  rw [e10, e9, e8, e7, e6, e5, e4, e3, e2, e1, e0, h0, Nat.zero_add]
  rfl
/-- What SecondShort tells. -/
theorem short_law (e : En) (he : e.ok) (T : Int) (hT : 0 ≤ T ∧ T ≤ 65535) :
    ({ e.own with term := e.own.term + T } : En).right = true ∧ ({ e.own with term := e.own.term + T } : En).ok ∧ ({ e.own with data := ⟨#[]⟩, old := ⟨#[]⟩ } : En).right = true ∧ ({ e.own with data := ⟨#[]⟩, old := ⟨#[]⟩ } : En).ok ∧
      (secPut e.own).length ≤ (secPut { e.own with term := e.own.term + T }).length ∧
      (secPut e.own).length = (secPut { e.own with data := ⟨#[]⟩, old := ⟨#[]⟩ }).length + ((if e.own.data = ⟨#[]⟩ then 0 else 2 + e.own.data.size) + (if e.own.old = ⟨#[]⟩ then 0 else 2 + e.own.old.size)) ∧
      (secPut { e.own with data := ⟨#[]⟩, old := ⟨#[]⟩ }).length ≤ 21 ∧ enSame e.own { e.own with term := e.own.term + T } = decide (T = 0) := by
  obtain ⟨hr, ho⟩ := own_right' e he
  obtain ⟨b1, b2, b3, b4, b5, b6, b7, b8, b9⟩ := own_bounds e he
  have hs := (right_small hr ho).1
  generalize e.own = X at *
  have hd := hs.data
  have hol := hs.old
  refine ⟨?_, ⟨⟨by dsimp only; omega, by dsimp only; omega⟩, ho.index, ho.kind, ho.client, ho.seq, ho.block, ho.many, ho.node, ho.level, ho.data, ho.old⟩, ?_, ⟨ho.term, ho.index, ho.kind, ho.client, ho.seq, ho.block, ho.many, ho.node, ho.level, Nat.zero_le _, Nat.zero_le _⟩, ?_, ?_, ?_, ?_⟩
  · unfold En.right at hr ⊢
    simp only [Bool.and_eq_true, decide_eq_true_eq] at hr ⊢
    obtain ⟨⟨⟨h1, h2⟩, h3⟩, h4⟩ := hr
    exact ⟨⟨⟨h1, by omega⟩, h3⟩, h4⟩
  · unfold En.right at hr ⊢
    simp only [Bool.and_eq_true, decide_eq_true_eq] at hr ⊢
    obtain ⟨⟨⟨h1, h2⟩, h3⟩, ⟨⟨⟨⟨⟨⟨g1, g2⟩, g3⟩, g4⟩, g5⟩, g6⟩, g7⟩⟩ := hr
    refine ⟨⟨⟨h1, h2⟩, h3⟩, ⟨⟨⟨⟨⟨⟨g1, g2⟩, g3⟩, g4⟩, g5⟩, ?_⟩, ?_⟩⟩
    · unfold enFit; split
      · exact (show decide ((⟨#[]⟩ : ByteArray).size ≤ 64) = true by decide)
      · exact (show (!decide ((⟨#[]⟩ : ByteArray) ≠ ⟨#[]⟩)) = true by simp)
    · unfold enFit; split
      · exact (show decide ((⟨#[]⟩ : ByteArray).size ≤ 64) = true by decide)
      · exact (show (!decide ((⟨#[]⟩ : ByteArray) ≠ ⟨#[]⟩)) = true by simp)
  · rw [secPut_length, secPut_length]
    dsimp only
    have : (piece 2 (FV.enc (.n X.term))).length ≤ (piece 2 (FV.enc (.n (X.term + T)))).length := by
      rw [enc_n (show ¬ X.term = 0 by omega), enc_n (show ¬ X.term + T = 0 by omega), piece_yes _ (vput_ne _), piece_yes _ (vput_ne _), List.length_append, List.length_append]
      have := vput_len_mono X.term.toNat (X.term + T).toNat (by omega) (by omega)
      omega
    omega
  · rw [secPut_length, secPut_length]
    dsimp only
    rw [piece_t 10 (by decide) X.data hd, piece_t 11 (by decide) X.old hol]
    have z1 : (piece 10 (FV.enc (.t ⟨#[]⟩))).length = 0 := rfl
    have z2 : (piece 11 (FV.enc (.t ⟨#[]⟩))).length = 0 := rfl
    rw [z1, z2]
    omega
  · rw [secPut_length]
    dsimp only
    have z1 : (piece 10 (FV.enc (.t ⟨#[]⟩))).length = 0 := rfl
    have z2 : (piece 11 (FV.enc (.t ⟨#[]⟩))).length = 0 := rfl
    have p1 := piece_n 1 (by decide) X.kind 1 2 (by decide) b3.1 (by omega) rfl
    have p2 := piece_n 2 (by decide) X.term 2 3 (by decide) (by omega) (by omega) rfl
    have p3 := piece_n 3 (by decide) X.index 2 3 (by decide) (by omega) (by omega) rfl
    have p4 := piece_n 4 (by decide) X.client 1 2 (by decide) b4.1 (by omega) rfl
    have p5 := piece_n 5 (by decide) X.seq 1 2 (by decide) b5.1 (by omega) rfl
    have p6 := piece_n 6 (by decide) X.block 1 2 (by decide) b6.1 (by omega) rfl
    have p7 := piece_n 7 (by decide) X.many 1 2 (by decide) b7.1 (by omega) rfl
    have p8 := piece_n 8 (by decide) X.node 1 2 (by decide) b8.1 (by omega) rfl
    have p9 := piece_n 9 (by decide) X.level 1 2 (by decide) b9.1 (by omega) rfl
    omega
  · unfold enSame
    dsimp only
    have : decide (X.term = X.term + T) = decide (T = 0) := by rw [Bool.eq_iff_iff, decide_eq_true_eq, decide_eq_true_eq]; omega
    simp [this]
end Go.Pin
