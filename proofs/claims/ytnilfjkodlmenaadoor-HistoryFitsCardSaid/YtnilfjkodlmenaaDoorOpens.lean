/- Opening what came in: whole numbers, texts, truth values, slices of these and of structs of them, to any depth. -/
import Derived.Deep.Slices
import Derived.Deep.Fields
import Derived.SizedLaws
import Derived.ProofKit
namespace Go.Pin
open Go.RowKit Go.ChangeShapes Go.WideShapes Go.Deep
set_option linter.unusedVariables false
abbrev Pred := World → Value → Prop
def isInt (k : IntKind) : Pred := fun _ v => ∃ n, v = .int k n ∧ (Lit.int k n).wf = true
def isStr : Pred := fun _ v => ∃ s : ByteArray, v = .string s ∧ s.size ≤ 140737488351232
def isBool : Pred := fun _ v => ∃ b : Bool, v = .bool b
def isSlice (ps : List Pred) : Pred := fun w v => ∃ (a : Option Addr) (len cap : Nat), v = .slice a len cap ∧ len ≤ cap ∧ cap ≤ 9223372036854775807 ∧
  (0 < len → ∃ b o : Nat, a = some ⟨b, o, none⟩ ∧ ∀ i, i < len → ∀ j p, ps[j]? = some p → ∃ x, w.cell? ⟨b, o + i * ps.length + j, none⟩ = some x ∧ p w x)
/-- A type whose one cell is as p tells. -/
def Opens (P : Program) (t : TypeId) (p : Pred) : Prop :=
  ∀ (H : Type) (enc : TypeId × Value → H) (w : World) (base : Nat) (spare : Nat → Bool) (held : Bool) (fuel : Nat) (cs : List Value) (x : DataW H × List MemPlace),
    DataW.trod enc P w base spare held fuel t cs = some x → (∀ n ∈ x.1.weights P t, n ≤ reachBytes) → ∃ v, cs = [v] ∧ p w v
structure FieldsOpen (P : Program) (fs : Array Field) (ps : List Pred) : Prop where
  len : ps.length = fs.size
  one : oneCellFields P fs = true
  each : ∀ (j : Nat) (f : Field) (p : Pred), fs[j]? = some f → ps[j]? = some p → Opens P f.type p
section
variable {P : Program} {t e : TypeId}
theorem Opens.int {k : IntKind} (ht : P.underlying t = some (.int k)) : Opens P t (isInt k) := by
  intro H enc w base spare held fuel cs x h _
  obtain ⟨n, rfl, _, hw⟩ := DataW.trod_int ht h
  exact ⟨_, rfl, n, rfl, hw⟩
theorem Opens.str (ht : P.underlying t = some .string) : Opens P t isStr := by
  intro H enc w base spare held fuel cs x h hn
  obtain ⟨s, rfl, rfl, hw⟩ := DataW.trod_string ht h
  refine ⟨_, rfl, s, rfl, ?_⟩
  have := hn s.data.toList.length (by simp [DataW.weights])
  simpa [reachBytes] using this
theorem Opens.bool (ht : P.underlying t = some .bool) : Opens P t isBool := by
  intro H enc w base spare held fuel cs x h _
  obtain ⟨b, rfl, _⟩ := DataW.trod_bool ht h
  exact ⟨_, rfl, b, rfl⟩
theorem weights_all_mem {H : Type} {ds : List (DataW H)} {d : DataW H} (hd : d ∈ ds) : ∀ n ∈ d.weights P e, n ∈ DataW.weightsAll P e ds := by
  induction ds with
  | nil => cases hd
  | cons a ds ih =>
    intro n hn
    simp only [DataW.weightsAll, List.mem_append]
    rcases List.mem_cons.1 hd with rfl | hd
    · exact .inl hn
    · exact .inr (ih hd n hn)
theorem add_spot {x : Addr} (h : x.spot = none) (i : Nat) : x.add i = ⟨x.block, x.off + i, none⟩ := by
  unfold Addr.add; split
  · rename_i hi; subst hi; cases x; simp_all
  · rfl
theorem spot_of_cell {w : World} {x : Addr} {v : Value} (h : w.cell? x = some v) : x.spot = none := by
  unfold World.cell? at h
  split at h
  · cases hs : x.spot with
    | none => rfl
    | some _ => simp [hs] at h
  · cases h
theorem Opens.fields {H : Type} {enc : TypeId × Value → H} {w : World} {base : Nat} {spare : Nat → Bool} {held : Bool} {fuel : Nat} {cs : List Value} {x : DataW H × List MemPlace} {fs : Array Field} {ps : List Pred}
    (he : P.underlying e = some (.struct fs)) (hf : FieldsOpen P fs ps) (h : DataW.trod enc P w base spare held fuel e cs = some x) (hw : ∀ n ∈ x.1.weights P e, n ≤ reachBytes) :
    cs.length = P.cellsOf e ∧ ∀ j p, ps[j]? = some p → j < cs.length → ∃ v, cs[j]? = some v ∧ p w v := by
  obtain ⟨xs, n, rfl, hx, hlen, hxl, hg⟩ := DataW.trod_struct he h
  refine ⟨hlen, fun j p hp hjc => ?_⟩
  have hjl : j < ps.length := (List.getElem?_eq_some_iff.1 hp).1
  have hjf : j < fs.size := by rw [← hf.len]; exact hjl
  obtain ⟨f, hff⟩ : ∃ f, fs[j]? = some f := ⟨fs[j], Array.getElem?_eq_getElem hjf⟩
  obtain ⟨ho, hk⟩ := hone_of hf.one j f hff
  have h1 := hg j f hff
  have hxj : xs[j]? = some (xs[j]'(by omega)) := List.getElem?_eq_getElem (by omega)
  rw [ho, hk, hxj] at h1
  have hdt : (cs.drop j).take 1 = [cs[j]'hjc] := by rw [List.drop_eq_getElem_cons hjc]; rfl
  rw [hdt] at h1
  obtain ⟨v, hv, hpv⟩ := hf.each j f p hff hp _ _ _ _ _ _ _ _ _ h1 (fun m hm => hw m (by
    rw [hx]
    simp only [DataW.weights, he]
    refine DataW.weights_mem_each (j := j) (t := f.type) (d := (xs[j]'(by omega)).1) ?_ ?_ m hm
    · rw [List.getElem?_map]
      have : fs.toList[j]? = some f := by simpa using hff
      rw [this]; rfl
    · rw [List.getElem?_map, hxj]; rfl))
  refine ⟨cs[j]'hjc, List.getElem?_eq_getElem hjc, ?_⟩
  have : cs[j]'hjc = v := by simpa using hv
  rw [this]; exact hpv
theorem Opens.structs {fs : Array Field} {ps : List Pred} (ht : P.underlying t = some (.slice e)) (he : P.underlying e = some (.struct fs)) (hC : P.cellsOf e = fs.size) (h0 : 0 < ps.length) (hf : FieldsOpen P fs ps) :
    Opens P t (isSlice ps) := by
  intro H enc w base spare held fuel cs x h hn
  rcases open_slice ht h with ⟨rfl, _⟩ | ⟨a, len, cap, m, n, D, Pl, rfl, _, hl, hc, hm, hx, hi⟩
  · exact ⟨_, rfl, none, 0, 0, rfl, Nat.le_refl _, by omega, fun h => by omega⟩
  · refine ⟨_, rfl, some a, len, cap, rfl, hl, by simpa [maxLen] using hc, fun hpos => ?_⟩
    have hmlen : len ≤ m := by rw [hm]; split <;> omega
    have key : ∀ i, i < len → ∀ j p, ps[j]? = some p → ∃ y, w.cell? (a.add (i * fs.size + j)) = some y ∧ p w y := by
      intro i him j p hp
      obtain ⟨cs', hcs, htr⟩ := hi i (by omega)
      obtain ⟨hlen, hfld⟩ := Opens.fields he hf htr (fun q hq => hn q (by
        rw [hx]
        simp only [DataW.weights, ht, List.mem_cons, List.mem_append]
        exact .inr (.inl (weights_all_mem (List.mem_map.2 ⟨i, List.mem_range.2 him, rfl⟩) q hq))))
      have hjl : j < ps.length := (List.getElem?_eq_some_iff.1 hp).1
      have hjc : j < cs'.length := by rw [hlen, hC, ← hf.len]; exact hjl
      obtain ⟨v, hv, hpv⟩ := hfld j p hp hjc
      obtain ⟨_, _, hat⟩ := World.cells?_some hcs
      have := hat (i := j) (by rw [hlen] at hjc; exact hjc)
      rw [hv, Go.Deep.add_add, hC] at this
      exact ⟨v, this, hpv⟩
    obtain ⟨p0, hp0⟩ : ∃ p, ps[0]? = some p := ⟨ps[0], List.getElem?_eq_getElem h0⟩
    obtain ⟨y, hy, _⟩ := key 0 hpos 0 p0 hp0
    have e0 : a.add (0 * fs.size + 0) = a := by simp [Addr.add]
    rw [e0] at hy
    have hs := spot_of_cell hy
    refine ⟨a.block, a.off, by cases a; simp_all, fun i him j p hp => ?_⟩
    obtain ⟨y, hy, hpy⟩ := key i him j p hp
    rw [add_spot hs, ← hf.len, ← Nat.add_assoc] at hy
    exact ⟨y, hy, hpy⟩
theorem Opens.slice {p : Pred} (ht : P.underlying t = some (.slice e)) (hC : P.cellsOf e = 1) (hp : Opens P e p) : Opens P t (isSlice [p]) := by
  intro H enc w base spare held fuel cs x h hn
  rcases open_slice ht h with ⟨rfl, _⟩ | ⟨a, len, cap, m, n, D, Pl, rfl, _, hl, hc, hm, hx, hi⟩
  · exact ⟨_, rfl, none, 0, 0, rfl, Nat.le_refl _, by omega, fun h => by omega⟩
  · refine ⟨_, rfl, some a, len, cap, rfl, hl, by simpa [maxLen] using hc, fun hpos => ?_⟩
    have hmlen : len ≤ m := by rw [hm]; split <;> omega
    have key : ∀ i, i < len → ∃ y, w.cell? (a.add i) = some y ∧ p w y := by
      intro i him
      obtain ⟨cs', hcs, htr⟩ := hi i (by omega)
      obtain ⟨v, rfl, hpv⟩ := hp _ _ _ _ _ _ _ _ _ htr (fun q hq => hn q (by
        rw [hx]
        simp only [DataW.weights, ht, List.mem_cons, List.mem_append]
        exact .inr (.inl (weights_all_mem (List.mem_map.2 ⟨i, List.mem_range.2 him, rfl⟩) q hq))))
      obtain ⟨_, _, hat⟩ := World.cells?_some hcs
      have := hat (i := 0) (by rw [hC]; omega)
      rw [Go.Deep.add_add, hC] at this
      simp at this
      exact ⟨v, this, hpv⟩
    obtain ⟨y, hy, _⟩ := key 0 hpos
    have e0 : a.add 0 = a := by simp [Addr.add]
    rw [e0] at hy
    have hs := spot_of_cell hy
    refine ⟨a.block, a.off, by cases a; simp_all, fun i him j q hq => ?_⟩
    obtain ⟨y, hy, hpy⟩ := key i him
    rw [add_spot hs] at hy
    have hj : j = 0 := by
      have := (List.getElem?_eq_some_iff.1 hq).1
      simp at this; exact this
    subst hj
    have hq' : p = q := by simpa using hq
    subst hq'
    exact ⟨y, by simpa using hy, hpy⟩
/-- An argument of one cell. -/
theorem Opens.arg {H : Type} {enc : TypeId × Value → H} {w : World} {base : Nat} {spare : Nat → Bool} {held : Bool} {p : Pred} {v : Value} {d : DataW H} {pl : List MemPlace} (hp : Opens P t p) (h : DataW.Trod enc P w base spare held t v d pl)
    (hc : v.cells = #[v]) (hw : ∀ n ∈ d.weights P t, n ≤ reachBytes) : p w v := by
  obtain ⟨fuel, hf⟩ := h
  obtain ⟨u, hu, hpu⟩ := hp _ _ _ _ _ _ _ _ _ hf hw
  rw [hc] at hu
  have : v = u := by simpa using hu
  rw [this]; exact hpu
end

/-! ### Structs of structs -/
/-- A type whose cells are as the list tells. -/
def OpensC (P : Program) (t : TypeId) (ps : List Pred) : Prop :=
  ∀ (H : Type) (enc : TypeId × Value → H) (w : World) (base : Nat) (spare : Nat → Bool) (held : Bool) (fuel : Nat) (cs : List Value) (x : DataW H × List MemPlace),
    DataW.trod enc P w base spare held fuel t cs = some x → (∀ n ∈ x.1.weights P t, n ≤ reachBytes) → cs.length = ps.length ∧ ∀ (j : Nat) (p : Pred), ps[j]? = some p → ∃ v, cs[j]? = some v ∧ p w v
structure FieldsC (P : Program) (fs : Array Field) (pss : List (List Pred)) : Prop where
  len : pss.length = fs.size
  each : ∀ (j : Nat) (f : Field) (qs : List Pred), fs[j]? = some f → pss[j]? = some qs → f.offset = (pss.take j).flatten.length ∧ P.cellsOf f.type = qs.length ∧ OpensC P f.type qs
theorem flatten_at {α : Type} : ∀ (pss : List (List α)) (J : Nat) (p : α), pss.flatten[J]? = some p → ∃ k i qs, pss[k]? = some qs ∧ qs[i]? = some p ∧ J = (pss.take k).flatten.length + i
  | [], J, p, h => by simp at h
  | q :: pss, J, p, h => by
    rw [List.flatten_cons] at h
    by_cases hJ : J < q.length
    · rw [List.getElem?_append_left hJ] at h
      exact ⟨0, J, q, rfl, h, by simp⟩
    · rw [List.getElem?_append_right (by omega)] at h
      obtain ⟨k, i, qs, h1, h2, h3⟩ := flatten_at pss (J - q.length) p h
      exact ⟨k + 1, i, qs, by simpa using h1, h2, by rw [List.take_succ_cons, List.flatten_cons, List.length_append]; omega⟩
section
variable {P : Program} {t e : TypeId}
theorem OpensC.one {p : Pred} (h : Opens P t p) : OpensC P t [p] := by
  intro H enc w base spare held fuel cs x hx hn
  obtain ⟨v, rfl, hv⟩ := h H enc w base spare held fuel cs x hx hn
  refine ⟨rfl, fun j q hq => ?_⟩
  have hj : j = 0 := by have := (List.getElem?_eq_some_iff.1 hq).1; simp at this; exact this
  subst hj
  have : p = q := by simpa using hq
  subst this
  exact ⟨v, rfl, hv⟩
theorem OpensC.struct {fs : Array Field} {pss : List (List Pred)} (ht : P.underlying t = some (.struct fs)) (hC : P.cellsOf t = pss.flatten.length) (hf : FieldsC P fs pss) : OpensC P t pss.flatten := by
  intro H enc w base spare held fuel cs x hx hn
  obtain ⟨xs, n, rfl, hxa, hlen, hxl, hg⟩ := DataW.trod_struct ht hx
  refine ⟨hlen.trans hC, fun J p hp => ?_⟩
  obtain ⟨k, i, qs, h1, h2, h3⟩ := flatten_at pss J p hp
  have hk : k < pss.length := (List.getElem?_eq_some_iff.1 h1).1
  have hkf : k < fs.size := by rw [← hf.len]; exact hk
  obtain ⟨f, hff⟩ : ∃ f, fs[k]? = some f := ⟨fs[k], Array.getElem?_eq_getElem hkf⟩
  obtain ⟨ho, hc, hop⟩ := hf.each k f qs hff h1
  have hg1 := hg k f hff
  have hxk : xs[k]? = some (xs[k]'(by omega)) := List.getElem?_eq_getElem (by omega)
  rw [hxk] at hg1
  obtain ⟨_, hat⟩ := hop _ _ _ _ _ _ _ _ _ hg1 (fun m hm => hn m (by
    rw [hxa]
    simp only [DataW.weights, ht]
    refine DataW.weights_mem_each (j := k) (t := f.type) (d := (xs[k]'(by omega)).1) ?_ ?_ m hm
    · rw [List.getElem?_map]
      have : fs.toList[k]? = some f := by simpa using hff
      rw [this]; rfl
    · rw [List.getElem?_map, hxk]; rfl))
  obtain ⟨v, hv, hpv⟩ := hat i p h2
  refine ⟨v, ?_, hpv⟩
  have hi : i < qs.length := (List.getElem?_eq_some_iff.1 h2).1
  rw [List.getElem?_take, if_pos (by omega), List.getElem?_drop, ho] at hv
  rw [h3]; exact hv
theorem OpensC.slice {ps : List Pred} (ht : P.underlying t = some (.slice e)) (hC : P.cellsOf e = ps.length) (h0 : 0 < ps.length) (hf : OpensC P e ps) : Opens P t (isSlice ps) := by
  intro H enc w base spare held fuel cs x h hn
  rcases open_slice ht h with ⟨rfl, _⟩ | ⟨a, len, cap, m, n, D, Pl, rfl, _, hl, hc, hm, hx, hi⟩
  · exact ⟨_, rfl, none, 0, 0, rfl, Nat.le_refl _, by omega, fun h => by omega⟩
  · refine ⟨_, rfl, some a, len, cap, rfl, hl, by simpa [maxLen] using hc, fun hpos => ?_⟩
    have hmlen : len ≤ m := by rw [hm]; split <;> omega
    have key : ∀ i, i < len → ∀ j p, ps[j]? = some p → ∃ y, w.cell? (a.add (i * ps.length + j)) = some y ∧ p w y := by
      intro i him j p hp
      obtain ⟨cs', hcs, htr⟩ := hi i (by omega)
      obtain ⟨hlen, hfld⟩ := hf _ _ _ _ _ _ _ _ _ htr (fun q hq => hn q (by
        rw [hx]
        simp only [DataW.weights, ht, List.mem_cons, List.mem_append]
        exact .inr (.inl (weights_all_mem (List.mem_map.2 ⟨i, List.mem_range.2 him, rfl⟩) q hq))))
      have hjl : j < ps.length := (List.getElem?_eq_some_iff.1 hp).1
      obtain ⟨v, hv, hpv⟩ := hfld j p hp
      obtain ⟨_, _, hat⟩ := World.cells?_some hcs
      have := hat (i := j) (by rw [hC]; exact hjl)
      rw [hv, Go.Deep.add_add, hC] at this
      exact ⟨v, this, hpv⟩
    obtain ⟨p0, hp0⟩ : ∃ p, ps[0]? = some p := ⟨ps[0], List.getElem?_eq_getElem h0⟩
    obtain ⟨y, hy, _⟩ := key 0 hpos 0 p0 hp0
    have e0 : a.add (0 * ps.length + 0) = a := by simp [Addr.add]
    rw [e0] at hy
    have hs := spot_of_cell hy
    refine ⟨a.block, a.off, by cases a; simp_all, fun i him j p hp => ?_⟩
    obtain ⟨y, hy, hpy⟩ := key i him j p hp
    rw [add_spot hs, ← Nat.add_assoc] at hy
    exact ⟨y, hy, hpy⟩
/-- Cells, one after the other. -/
def CellsAre (w : World) : List Pred → List Value → Prop
  | [], vs => vs = []
  | p :: ps, vs => ∃ v vs', vs = v :: vs' ∧ p w v ∧ CellsAre w ps vs'
theorem CellsAre.of {w : World} : ∀ (ps : List Pred) (vs : List Value), vs.length = ps.length → (∀ (j : Nat) (p : Pred), ps[j]? = some p → ∃ v, vs[j]? = some v ∧ p w v) → CellsAre w ps vs
  | [], vs, hl, _ => List.eq_nil_of_length_eq_zero hl
  | p :: ps, [], hl, _ => by cases hl
  | p :: ps, v :: vs, hl, h => by
    obtain ⟨v', h1, h2⟩ := h 0 p rfl
    have : v = v' := by simpa using h1
    subst this
    exact ⟨v, vs, rfl, h2, CellsAre.of ps vs (by simpa using hl) fun j q hq => by simpa using h (j + 1) q (by simpa using hq)⟩
/-- A struct that came in by value. -/
theorem OpensC.arg {H : Type} {enc : TypeId × Value → H} {w : World} {base : Nat} {spare : Nat → Bool} {held : Bool} {fs : Array Field} {ps : List Pred} {v : Value} {d : DataW H} {pl : List MemPlace} {r : Reach} {b0 : Nat} (hp : OpensC P t ps) (ht : P.underlying t = some (.struct fs))
    (hv : Value.okWide P w r b0 t v) (h : DataW.Trod enc P w base spare held t v d pl) (hw : ∀ n ∈ d.weights P t, n ≤ reachBytes) : ∃ cs : List Value, v = .agg cs.toArray ∧ CellsAre w ps cs := by
  obtain ⟨cs, rfl, hsz⟩ := okWide_struct ht hv
  obtain ⟨fuel, hf⟩ := h
  obtain ⟨h1, h2⟩ := hp _ _ _ _ _ _ _ _ _ hf hw
  exact ⟨cs.toList, rfl, CellsAre.of _ _ h1 h2⟩
end
end Go.Pin
