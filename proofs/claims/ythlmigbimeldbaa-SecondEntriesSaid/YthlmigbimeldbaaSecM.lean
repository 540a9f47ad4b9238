/- second: fields, as plain words; what is put is got. -/
import Derived.Test.YthlmigbimeldbaaEnX
import Derived.Test.YthlmigbimeldbaaRdL
import Derived.Test.YthlmigbimeldbaaVarP
set_option maxRecDepth 16000
namespace Go.Pin
open Go.RowKit
set_option linter.unusedVariables false
set_option linter.unusedSimpArgs false
/-- A field's value: a number, or a text. -/
inductive FV where
  | n (x : Int)
  | t (s : ByteArray)
def FV.no : FV → Bool
  | .n x => decide (x = 0)
  | .t s => decide (s = ⟨#[]⟩)
/-- A field's bytes: none, if it is 0, or empty. -/
def FV.enc : FV → List UInt8
  | .n x => if x = 0 then [] else vput x.toNat
  | .t s => if s = ⟨#[]⟩ then [] else vput s.size ++ s.data.toList
def putFs : Nat → List (List UInt8) → List UInt8
  | _, [] => []
  | k, s :: L => (if s = [] then [] else vput k ++ s) ++ putFs (k + 1) L
def En.fvs (e : En) : List FV := [.n e.kind, .n e.term, .n e.index, .n e.client, .n e.seq, .n e.block, .n e.many, .n e.node, .n e.level, .t e.data, .t e.old]
def secPut (e : En) : List UInt8 := putFs 1 (e.fvs.map FV.enc) ++ [0]
/-- A field is set. -/
def En.setN (e : En) (tag : Nat) (v : Int) : En :=
  match tag with
  | 1 => { e with kind := v }
  | 2 => { e with term := v }
  | 3 => { e with index := v }
  | 4 => { e with client := v }
  | 5 => { e with seq := v }
  | 6 => { e with block := v }
  | 7 => { e with many := v }
  | 8 => { e with node := v }
  | 9 => { e with level := v }
  | _ => e
def En.setT (e : En) (tag : Nat) (s : ByteArray) : En := if tag = 10 then { e with data := s } else { e with old := s }
/-- Is a field one of Go's int? -/
def tagInt (tag : Nat) : Bool := decide (tag = 1) || decide (tag = 8) || decide (tag = 9)
def tagVal (tag : Nat) (v : Nat) : Int := if tagInt tag = true then IntKind.i64.wrap v else v
/-- One field is taken. -/
def takeF (tag : Nat) (e : En) (r : Rd) : En × Rd :=
  if tag ≤ 9 then
    (e.setN tag (tagVal tag r.var.1), if r.var.1 = 0 ∨ (tagInt tag = true ∧ 9223372036854775808 ≤ r.var.1) then Rd.fail else r.var.2)
  else (e.setT tag r.text.1, if r.text.1 = ⟨#[]⟩ then Rd.fail else r.text.2)
def getF : Nat → Nat → En → Rd → En × Rd
  | 0, _, e, r => (e, r)
  | f + 1, last, e, r =>
    if r.var.1 = 0 then (e, r.var.2)
    else if r.var.1 ≤ last ∨ 11 < r.var.1 then (e, Rd.fail)
    else getF f r.var.1 (takeF r.var.1 e r.var.2).1 (takeF r.var.1 e r.var.2).2
def secGet (r : Rd) : En × Rd :=
  if (getF 12 0 En.zero r).2.bad = false ∧ (getF 12 0 En.zero r).1.right = true then getF 12 0 En.zero r else (En.zero, Rd.fail)
/-! ### What is put is got -/
def FV.okAt (k : Nat) : FV → Prop
  | .n x => k ≤ 9 ∧ 0 ≤ x ∧ x < 18446744073709551616 ∧ (tagInt k = true → x < 9223372036854775808)
  | .t s => 9 < k ∧ s.size < 18446744073709551616
def En.set (e : En) (k : Nat) : FV → En
  | .n x => e.setN k x
  | .t s => e.setT k s
def setAll : En → Nat → List FV → En
  | e, _, [] => e
  | e, k, v :: F => setAll (if v.no = true then e else e.set k v) (k + 1) F
def okAll : Nat → List FV → Prop
  | _, [] => True
  | k, v :: F => v.okAt k ∧ okAll (k + 1) F
theorem vput_ne (n : Nat) : vput n ≠ [] := fun h => by have := vput_pos n; rw [h] at this; exact Nat.lt_irrefl _ this
theorem enc_no (v : FV) : v.enc = [] ↔ v.no = true := by
  cases v with
  | n x =>
    unfold FV.enc FV.no
    by_cases h : x = 0
    · simp [h]
    · simp [h, vput_ne]
  | t s =>
    unfold FV.enc FV.no
    by_cases h : s = ⟨#[]⟩
    · simp [h]
    · simp [h, vput_ne]
theorem vput_0 : vput 0 = [0] := by rfl
theorem wrap_i64_small (n : Nat) (h : n < 9223372036854775808) : IntKind.i64.wrap (n : Int) = (n : Int) := by
  rw [IntKind.wrap_i64]; omega
theorem take_put (k : Nat) (v : FV) (e : En) (rest : List UInt8) (hk : v.okAt k) (hn : ¬ v.no = true) : takeF k e ⟨bs (v.enc ++ rest), false⟩ = (e.set k v, ⟨bs rest, false⟩) := by
  cases v with
  | n x =>
    obtain ⟨h9, h0, h1, h2⟩ := hk
    have hx : ¬ x = 0 := by simpa [FV.no] using hn
    have hr : (Rd.mk (bs (FV.enc (.n x) ++ rest)) false).var = (x.toNat, ⟨bs rest, false⟩) := by
      unfold FV.enc
      dsimp only
      rw [if_neg hx]
      exact rd_var_put x.toNat rest false (by omega)
    unfold takeF
    rw [if_pos h9, hr]
    dsimp only
    have hv : tagVal k x.toNat = x := by
      unfold tagVal
      by_cases hi : tagInt k = true
      · rw [if_pos hi, wrap_i64_small x.toNat (by have := h2 hi; omega)]; omega
      · rw [if_neg hi]; omega
    rw [hv, if_neg]
    · rfl
    · rintro (q | ⟨q, q2⟩)
      · omega
      · have := h2 q; omega
  | t s =>
    obtain ⟨h9, h0⟩ := hk
    have hx : ¬ s = ⟨#[]⟩ := by simpa [FV.no] using hn
    have hr : (Rd.mk (bs (FV.enc (.t s) ++ rest)) false).text = (s, ⟨bs rest, false⟩) := by
      unfold FV.enc
      dsimp only
      rw [if_neg hx]
      have h3 := rd_text_put s.data.toList rest (by rw [Array.length_toList]; exact h0)
      rw [bs_of] at h3
      rw [Array.length_toList] at h3
      exact h3
    unfold takeF
    rw [if_neg (by omega), hr]
    dsimp only
    rw [if_neg hx]
    rfl
theorem get_put : ∀ (F : List FV) (k f last : Nat) (e : En) (rest : List UInt8), last < k → k + F.length = 12 → F.length + 1 ≤ f → okAll k F →
    getF f last e ⟨bs (putFs k (F.map FV.enc) ++ (0 :: rest)), false⟩ = (setAll e k F, ⟨bs rest, false⟩)
  | [], k, f, last, e, rest, _, _, hf, _ => by
    cases f with
    | zero => simp at hf
    | succ f =>
      have hr : (Rd.mk (bs (putFs k (List.map FV.enc []) ++ (0 :: rest))) false).var = (0, ⟨bs rest, false⟩) := by
        show (Rd.mk (bs ([] ++ (0 :: rest))) false).var = _
        have := rd_var_put 0 rest false (by decide)
        rw [vput_0] at this
        exact this
      unfold getF
      rw [hr]
      rfl
  | v :: F, k, f, last, e, rest, hl, hF, hf, ho => by
    obtain ⟨h1, h2⟩ := ho
    simp only [List.length_cons] at hF hf
    rw [List.map_cons, putFs]
    unfold setAll
    by_cases hn : v.no = true
    · rw [if_pos ((enc_no v).2 hn), if_pos hn, List.nil_append]
      exact get_put F (k + 1) f last e rest (by omega) (by omega) (by omega) h2
    · rw [if_neg (fun q => hn ((enc_no v).1 q)), if_neg hn]
      cases f with
      | zero => omega
      | succ f =>
        have hr : (Rd.mk (bs (vput k ++ v.enc ++ putFs (k + 1) (F.map FV.enc) ++ (0 :: rest))) false).var = (k, ⟨bs (v.enc ++ (putFs (k + 1) (F.map FV.enc) ++ (0 :: rest))), false⟩) := by
          have := rd_var_put k (v.enc ++ (putFs (k + 1) (F.map FV.enc) ++ (0 :: rest))) false (by omega)
          simp only [List.append_assoc] at this ⊢
          exact this
        unfold getF
        rw [hr]
        dsimp only
        rw [if_neg (by omega), if_neg (by omega), take_put k v e _ h1 hn]
        dsimp only
        exact get_put F (k + 1) f k (e.set k v) rest (by omega) (by omega) (by omega) h2
theorem setAll_cons (e : En) (k : Nat) (v : FV) (F : List FV) (h : v.no = true → e.set k v = e) : setAll e k (v :: F) = setAll (e.set k v) (k + 1) F := by
  unfold setAll
  by_cases q : v.no = true
  · rw [if_pos q, h q]
    cases F <;> rfl
  · rw [if_neg q]
    cases F <;> rfl
theorem no_n {x : Int} (h : (FV.n x).no = true) : x = 0 := by simpa [FV.no] using h
theorem no_t {s : ByteArray} (h : (FV.t s).no = true) : s = ⟨#[]⟩ := by simpa [FV.no] using h
theorem setAll_fvs (e : En) : setAll En.zero 1 e.fvs = e := by
  show setAll ⟨0, 0, 0, 0, 0, 0, 0, 0, 0, ⟨#[]⟩, ⟨#[]⟩⟩ 1 [.n e.kind, .n e.term, .n e.index, .n e.client, .n e.seq, .n e.block, .n e.many, .n e.node, .n e.level, .t e.data, .t e.old] = e
  rw [setAll_cons _ _ _ _ (fun h => by rw [no_n h]; rfl)]
  show setAll ⟨0, 0, e.kind, 0, 0, 0, 0, 0, 0, ⟨#[]⟩, ⟨#[]⟩⟩ 2 [.n e.term, .n e.index, .n e.client, .n e.seq, .n e.block, .n e.many, .n e.node, .n e.level, .t e.data, .t e.old] = e
  rw [setAll_cons _ _ _ _ (fun h => by rw [no_n h]; rfl)]
  show setAll ⟨e.term, 0, e.kind, 0, 0, 0, 0, 0, 0, ⟨#[]⟩, ⟨#[]⟩⟩ 3 [.n e.index, .n e.client, .n e.seq, .n e.block, .n e.many, .n e.node, .n e.level, .t e.data, .t e.old] = e
  rw [setAll_cons _ _ _ _ (fun h => by rw [no_n h]; rfl)]
  show setAll ⟨e.term, e.index, e.kind, 0, 0, 0, 0, 0, 0, ⟨#[]⟩, ⟨#[]⟩⟩ 4 [.n e.client, .n e.seq, .n e.block, .n e.many, .n e.node, .n e.level, .t e.data, .t e.old] = e
  rw [setAll_cons _ _ _ _ (fun h => by rw [no_n h]; rfl)]
  show setAll ⟨e.term, e.index, e.kind, e.client, 0, 0, 0, 0, 0, ⟨#[]⟩, ⟨#[]⟩⟩ 5 [.n e.seq, .n e.block, .n e.many, .n e.node, .n e.level, .t e.data, .t e.old] = e
  rw [setAll_cons _ _ _ _ (fun h => by rw [no_n h]; rfl)]
  show setAll ⟨e.term, e.index, e.kind, e.client, e.seq, 0, 0, 0, 0, ⟨#[]⟩, ⟨#[]⟩⟩ 6 [.n e.block, .n e.many, .n e.node, .n e.level, .t e.data, .t e.old] = e
  rw [setAll_cons _ _ _ _ (fun h => by rw [no_n h]; rfl)]
  show setAll ⟨e.term, e.index, e.kind, e.client, e.seq, e.block, 0, 0, 0, ⟨#[]⟩, ⟨#[]⟩⟩ 7 [.n e.many, .n e.node, .n e.level, .t e.data, .t e.old] = e
  rw [setAll_cons _ _ _ _ (fun h => by rw [no_n h]; rfl)]
  show setAll ⟨e.term, e.index, e.kind, e.client, e.seq, e.block, e.many, 0, 0, ⟨#[]⟩, ⟨#[]⟩⟩ 8 [.n e.node, .n e.level, .t e.data, .t e.old] = e
  rw [setAll_cons _ _ _ _ (fun h => by rw [no_n h]; rfl)]
  show setAll ⟨e.term, e.index, e.kind, e.client, e.seq, e.block, e.many, e.node, 0, ⟨#[]⟩, ⟨#[]⟩⟩ 9 [.n e.level, .t e.data, .t e.old] = e
  rw [setAll_cons _ _ _ _ (fun h => by rw [no_n h]; rfl)]
  show setAll ⟨e.term, e.index, e.kind, e.client, e.seq, e.block, e.many, e.node, e.level, ⟨#[]⟩, ⟨#[]⟩⟩ 10 [.t e.data, .t e.old] = e
  rw [setAll_cons _ _ _ _ (fun h => by rw [no_t h]; rfl)]
  show setAll ⟨e.term, e.index, e.kind, e.client, e.seq, e.block, e.many, e.node, e.level, e.data, ⟨#[]⟩⟩ 11 [.t e.old] = e
  rw [setAll_cons _ _ _ _ (fun h => by rw [no_t h]; rfl)]
  rfl
/-- What an entry that is right keeps to. -/
structure En.small (e : En) : Prop where
  kind : 0 ≤ e.kind ∧ e.kind < 9223372036854775808
  term : 0 ≤ e.term ∧ e.term < 18446744073709551616
  index : 0 ≤ e.index ∧ e.index < 18446744073709551616
  client : 0 ≤ e.client ∧ e.client < 18446744073709551616
  seq : 0 ≤ e.seq ∧ e.seq < 18446744073709551616
  block : 0 ≤ e.block ∧ e.block < 18446744073709551616
  many : 0 ≤ e.many ∧ e.many < 18446744073709551616
  node : 0 ≤ e.node ∧ e.node < 9223372036854775808
  level : 0 ≤ e.level ∧ e.level < 9223372036854775808
  data : e.data.size ≤ 64
  old : e.old.size ≤ 64
theorem fvs_ok {e : En} (h : e.small) : okAll 1 e.fvs := by
  unfold En.fvs
  simp only [okAll, FV.okAt, tagInt]
  have := h.kind; have := h.term; have := h.index; have := h.client; have := h.seq; have := h.block; have := h.many; have := h.node; have := h.level; have := h.data; have := h.old
  simp
  omega
theorem get_secPut {e : En} (h : e.small) (rest : List UInt8) : getF 12 0 En.zero ⟨bs (secPut e ++ rest), false⟩ = (e, ⟨bs rest, false⟩) := by
  have := get_put e.fvs 1 12 0 En.zero rest (by decide) (by rfl) (Nat.le_refl _) (fvs_ok h)
  rw [setAll_fvs] at this
  unfold secPut
  rw [List.append_assoc]
  exact this
theorem secGet_put {e : En} (h : e.small) (hr : e.right = true) (rest : List UInt8) : secGet ⟨bs (secPut e ++ rest), false⟩ = (e, ⟨bs rest, false⟩) := by
  unfold secGet
  rw [get_secPut h, if_pos ⟨rfl, hr⟩]
theorem secPut_inj {e f : En} (he : e.small) (hf : f.small) (a b : List UInt8) (h : secPut e ++ a = secPut f ++ b) : e = f ∧ a = b := by
  have h1 := get_secPut he a
  rw [h, get_secPut hf b] at h1
  injection h1 with h2 h3
  injection h3 with h4
  exact ⟨h2.symm, (bs_inj h4).symm⟩
end Go.Pin
