/- Maps whose keys are whole numbers, told entry by entry: a block reads as a list of keys and values. -/
import Derived.Test.YtnilfjkodlmenaaDoorBytes
import Derived.MapKept
import Derived.Maps.RangeWalk
import Derived.Maps.RangeRun
namespace Go.Pin
open Go.RowKit Go.MapKept
set_option linter.unusedVariables false
set_option linter.unusedSimpArgs false

abbrev Ent := Int × Value
/-- The entries of a map are the list's. -/
def Ents (kk : IntKind) (es : List MapEntry) (L : List Ent) : Prop := es.map (fun e => (e.key, e.val)) = L.map (fun p => (Value.int kk p.1, p.2))
/-- Block m is a map whose entries are L, in the order in which they came. -/
def MapAt (w : World) (m : Nat) (kk : IntKind) (L : List Ent) : Prop :=
  ∃ es clock, w.heap[m]? = some (.map es clock) ∧ Stamped es clock ∧ Ents kk es.toList L

theorem Ents.cons {kk : IntKind} {e : MapEntry} {es : List MapEntry} {L : List Ent} (h : Ents kk (e :: es) L) : ∃ n L', L = (n, e.val) :: L' ∧ e.key = .int kk n ∧ Ents kk es L' := by
  cases L with
  | nil => simp [Ents] at h
  | cons p L' =>
    simp only [Ents, List.map_cons, List.cons.injEq, Prod.mk.injEq] at h
    exact ⟨p.1, L', by rw [h.1.2], h.1.1, h.2⟩
theorem Ents.keys {kk : IntKind} : ∀ {es : List MapEntry} {L : List Ent}, Ents kk es L → ∀ x ∈ es, IsKey (.int kk) x.key
  | [], _, _, _, hx => by cases hx
  | e :: es, L, h, x, hx => by
    obtain ⟨n, L', rfl, hk, h'⟩ := h.cons
    cases hx with
    | head => rw [hk]; exact rfl
    | tail _ hx => exact h'.keys x hx
theorem Ents.keyList {kk : IntKind} {es : List MapEntry} {L : List Ent} (h : Ents kk es L) : es.map (·.key) = (L.map (·.1)).map (Value.int kk) := by
  have := congrArg (List.map Prod.fst) h
  simpa [List.map_map, Function.comp_def] using this
theorem Ents.len {kk : IntKind} {es : List MapEntry} {L : List Ent} (h : Ents kk es L) : es.length = L.length := by
  have := congrArg List.length h
  simpa using this

theorem MapAt.keep {S : Nat → Prop} {a w : World} {m : Nat} {kk : IntKind} {L : List Ent} (h : MapAt a m kk L) (hk : Keep S a w) (hn : ¬ S m) : MapAt w m kk L := by
  obtain ⟨es, c, h1, h2⟩ := h
  have hm : m < a.heap.size := (Array.getElem?_eq_some_iff.1 h1).1
  exact ⟨es, c, by rw [hk.block m hm hn]; exact h1, h2⟩
theorem MapAt.lt {w : World} {m : Nat} {kk : IntKind} {L : List Ent} (h : MapAt w m kk L) : m < w.heap.size := by
  obtain ⟨es, c, h1, h2⟩ := h
  exact (Array.getElem?_eq_some_iff.1 h1).1
theorem MapAt.drew {w : World} {m : Nat} {kk : IntKind} {L : List Ent} (h : MapAt w m kk L) : MapAt w.drew m kk L := h
theorem MapAt.drewN {w : World} {m : Nat} {kk : IntKind} {L : List Ent} (h : MapAt w m kk L) (n : Nat) : MapAt (w.drewN n) m kk L := h
theorem MapAt.nodup {w : World} {m : Nat} {kk : IntKind} {L : List Ent} (h : MapAt w m kk L) : (L.map (·.1)).Nodup := by
  obtain ⟨es, c, h1, h2, h3⟩ := h
  have := h2.2.2
  rw [h3.keyList] at this
  exact (List.nodup_iff_pairwise_ne.1 (List.nodup_iff_pairwise_ne.2 (List.Pairwise.of_map (Value.int kk) (fun a b h q => h (by rw [q])) this)))
theorem MapAt.made (w : World) (kk : IntKind) : MapAt (w.alloc (.map #[] 0)) w.heap.size kk [] := ⟨#[], 0, (heap_alloc w _).1, stamped_empty 0, rfl⟩
theorem MapAt.alloc {w : World} {m : Nat} {kk : IntKind} {L : List Ent} (h : MapAt w m kk L) (o : Obj) : MapAt (w.alloc o) m kk L := h.keep ((Keep.refl (fun _ => False) w).alloc o) id

/-- What the list tells of a key. -/
def mget (L : List Ent) (k : Int) : Option Value := (L.find? fun p => p.1 = k).map (·.2)
/-- A key's value set: where it stands, or behind. -/
def mset (L : List Ent) (k : Int) (v : Value) : List Ent :=
  if k ∈ L.map (·.1) then L.map (fun p => if p.1 = k then (k, v) else p) else L ++ [(k, v)]

section
variable {P : Program} {w : World} {m : Nat} {kk : IntKind} {L : List Ent} {t kt et : TypeId}

theorem findNow_get (k : Int) : ∀ (es : List MapEntry) (L : List Ent) (i : Nat), Ents kk es L →
    (Instr.findNow (.int kk) (.int kk k) es i = some none ∧ mget L k = none ∧ k ∉ L.map (·.1)) ∨
      ∃ j e, Instr.findNow (.int kk) (.int kk k) es i = some (some (i + j, e.val)) ∧ es[j]? = some e ∧ e.key = .int kk k ∧ mget L k = some e.val ∧ k ∈ L.map (·.1)
  | [], L, i, h => by
    have : L = [] := by have := h.len; exact List.eq_nil_of_length_eq_zero this.symm
    subst this
    exact .inl ⟨rfl, rfl, by simp⟩
  | e :: es, L, i, h => by
    obtain ⟨n, L', rfl, hk, h'⟩ := h.cons
    obtain ⟨r, hr, hiff⟩ := sameNow_of_keys (d := .int kk) (a := .int kk k) (b := e.key) rfl (by rw [hk]; exact rfl)
    cases r with
    | true =>
      have he : e.key = .int kk k := (hiff.1 rfl).symm
      have hn : n = k := by rw [hk] at he; simpa using he
      subst hn
      exact .inr ⟨0, e, by simp [Instr.findNow, hr], rfl, he, by simp [mget], by simp⟩
    | false =>
      have hne : n ≠ k := fun q => by have := hiff.2 (by rw [hk, q]); cases this
      rcases findNow_get k es L' (i + 1) h' with ⟨h1, h2, h3⟩ | ⟨j, e', h1, h2, h3, h4, h5⟩
      · refine .inl ⟨by simp [Instr.findNow, hr, h1], by simpa [mget, hne] using h2, by simpa [Ne.symm hne] using h3⟩
      · refine .inr ⟨j + 1, e', by simp [Instr.findNow, hr, h1]; omega, by simpa using h2, h3, by simpa [mget, hne] using h4, ?_⟩
        rw [List.map_cons]; exact List.mem_cons_of_mem _ h5

theorem run_map_lookup (h : MapAt w m kk L) (ht : P.underlying t = some (.map kt et)) (hd : P.underlying kt = some (.int kk)) (k : Int) {z : Value} (hz : (zeroValue et).run P w = .ok z w) :
    (Instr.lookup t (.map (some m)) (.int kk k) false).run P w = .ok ((mget L k).getD z) w := by
  obtain ⟨es, c, h1, h2, h3⟩ := h
  have hk : IsKey (.int kk) (.int kk k) := rfl
  rcases findNow_get k es.toList L 0 h3 with ⟨g1, g2, _⟩ | ⟨j, e, g1, g2, g3, g4, _⟩
  · rw [g2]
    simp [Instr.lookup, run_underlying ht, Go.MapKept.run_getObj_map h1, run_checkKey hd hk, run_findKey hd g1, hz, Result.andThen]
  · rw [g4]
    simp [Instr.lookup, run_underlying ht, Go.MapKept.run_getObj_map h1, run_checkKey hd hk, run_findKey hd g1, Result.andThen]
theorem run_map_lookup_ok (h : MapAt w m kk L) (ht : P.underlying t = some (.map kt et)) (hd : P.underlying kt = some (.int kk)) (k : Int) {z : Value} (hz : (zeroValue et).run P w = .ok z w) :
    (Instr.lookup t (.map (some m)) (.int kk k) true).run P w = .ok (.tuple #[(mget L k).getD z, .bool (mget L k).isSome]) w := by
  obtain ⟨es, c, h1, h2, h3⟩ := h
  have hk : IsKey (.int kk) (.int kk k) := rfl
  rcases findNow_get k es.toList L 0 h3 with ⟨g1, g2, _⟩ | ⟨j, e, g1, g2, g3, g4, _⟩
  · rw [g2]
    simp [Instr.lookup, run_underlying ht, Go.MapKept.run_getObj_map h1, run_checkKey hd hk, run_findKey hd g1, hz, Result.andThen]
  · rw [g4]
    simp [Instr.lookup, run_underlying ht, Go.MapKept.run_getObj_map h1, run_checkKey hd hk, run_findKey hd g1, Result.andThen]
theorem run_map_len (h : MapAt w m kk L) (ht : P.underlying t = some (.map kt et)) (ty : TypeId) : (Builtin.len_ #[t] ty #[.map (some m)]).run P w = .ok (goInt L.length) w := by
  obtain ⟨es, c, h1, h2, h3⟩ := h
  have := h3.len
  simp at this
  simp [Builtin.len_, run_underlying ht, Go.MapKept.run_getObj_map h1, Result.andThen, this]

theorem keep_setObj {o o' : Obj} (h : w.heap[m]? = some o) : Keep (fun k => k = m) w { w with heap := w.heap.setIfInBounds m o' } :=
  ⟨rfl, rfl, rfl, by simp, fun k hk hn => (heap_set h).2 k hn⟩

theorem mset_eq : ∀ (es : List MapEntry) (L : List Ent) (j : Nat) (e : MapEntry) (k : Int) (v : Value), Ents kk es L → es[j]? = some e → e.key = .int kk k → (L.map (·.1)).Nodup →
    Ents kk (es.modify j fun e => { e with key := .int kk k, val := v }) (L.map fun p => if p.1 = k then (k, v) else p)
  | [], _, _, _, _, _, _, h, _, _ => by simp at h
  | e0 :: es, L, 0, e, k, v, h, hj, hk, hn => by
    obtain ⟨n, L', rfl, hk0, h'⟩ := h.cons
    have : e0 = e := by simpa using hj
    subst this
    have hnk : n = k := by rw [hk0] at hk; simpa using hk
    subst hnk
    have hno : n ∉ L'.map (·.1) := (List.nodup_cons.1 hn).1
    have hmap : (L'.map fun p => if p.1 = n then (n, v) else p) = L' := by
      conv => rhs; rw [← List.map_id L']
      apply List.map_congr_left
      intro p hp
      rw [if_neg (fun q => hno (List.mem_map.2 ⟨p, hp, q⟩))]; rfl
    simp only [Ents, List.modify_zero_cons, List.map_cons, if_pos]
    rw [hmap]
    simp only [Ents] at h'
    rw [h']
  | e0 :: es, L, j + 1, e, k, v, h, hj, hk, hn => by
    obtain ⟨n, L', rfl, hk0, h'⟩ := h.cons
    have hj' : es[j]? = some e := by simpa using hj
    have hmem : k ∈ L'.map (·.1) := by
      have h1 := h'.keyList
      have h2 : e.key ∈ es.map (·.key) := List.mem_map.2 ⟨e, List.mem_of_getElem? hj', rfl⟩
      rw [h1, hk] at h2
      obtain ⟨q, hq, hq'⟩ := List.mem_map.1 h2
      have : q = k := by simpa using hq'
      rw [← this]; exact hq
    have hne : n ≠ k := fun q => (List.nodup_cons.1 hn).1 (q ▸ hmem)
    have ih := mset_eq es L' j e k v h' hj' hk (List.nodup_cons.1 hn).2
    simp only [Ents, List.modify_succ_cons, List.map_cons, if_neg hne] at ih ⊢
    rw [ih, hk0]

theorem run_map_update (h : MapAt w m kk L) (ht : P.underlying t = some (.map kt et)) (hd : P.underlying kt = some (.int kk)) (k : Int) (v : Value) :
    ∃ w', (Instr.mapUpdate t (.map (some m)) (.int kk k) v).run P w = .ok () w' ∧ MapAt w' m kk (mset L k v) ∧ Keep (fun k => k = m) w w' ∧ w'.heap.size = w.heap.size := by
  have hnd := h.nodup
  obtain ⟨es, c, h1, h2, h3⟩ := h
  have hk : IsKey (.int kk) (.int kk k) := rfl
  rcases findNow_get k es.toList L 0 h3 with ⟨g1, g2, g3⟩ | ⟨j, e, g1, g2, g3, g4, g5⟩
  · refine ⟨{ w with heap := w.heap.setIfInBounds m (.map (es.push { key := .int kk k, val := v, born := c }) (c + 1)) }, by simp [Instr.mapUpdate, run_underlying ht, Go.MapKept.run_getObj_map h1, run_checkKey hd hk, run_findKey hd g1, run_setObj_map _ h1, Result.andThen], ?_, keep_setObj h1, by simp⟩
    refine ⟨_, _, (heap_set h1).1, stamped_push h2 ?_, ?_⟩
    · intro x hx hxk
      have h4 : x.key ∈ es.toList.map (·.key) := List.mem_map.2 ⟨x, hx, rfl⟩
      rw [h3.keyList, hxk] at h4
      obtain ⟨q, hq, hq'⟩ := List.mem_map.1 h4
      have : q = k := by simpa using hq'
      exact g3 (this ▸ hq)
    · unfold mset
      rw [if_neg g3]
      simp only [Ents, Array.toList_push, List.map_append, List.map_cons, List.map_nil] at h3 ⊢
      rw [h3]
  · have hj : es[j]? = some e := by simpa using g2
    have g1' : Instr.findNow (.int kk) (.int kk k) es.toList 0 = some (some (j, e.val)) := by simpa using g1
    refine ⟨{ w with heap := w.heap.setIfInBounds m (.map (es.modify j fun e => { e with key := .int kk k, val := v }) c) }, by simp [Instr.mapUpdate, run_underlying ht, Go.MapKept.run_getObj_map h1, run_checkKey hd hk, run_findKey hd g1', hj, g3, run_keyThatStays hk, run_setObj_map _ h1, Result.andThen], ?_, keep_setObj h1, by simp⟩
    have hkey : ∀ e', es[j]? = some e' → ({ e' with key := .int kk k, val := v } : MapEntry).key = e'.key := fun e' he' => by rw [hj] at he'; cases he'; exact g3.symm
    refine ⟨_, _, (heap_set h1).1, stamped_modify h2 _ _ (fun _ _ => rfl) (fun e' _ he' => hkey e' he'), ?_⟩
    rw [Array.toList_modify]
    unfold mset
    rw [if_pos g5]
    exact mset_eq es.toList L j e k v h3 g2 g3 hnd

theorem run_map_clear (h : MapAt w m kk L) (ht : P.underlying t = some (.map kt et)) (ty : TypeId) :
    ∃ w', (Builtin.clear_ #[t] ty #[.map (some m)]).run P w = .ok (.tuple #[]) w' ∧ MapAt w' m kk [] ∧ Keep (fun k => k = m) w w' ∧ w'.heap.size = w.heap.size := by
  obtain ⟨es, c, h1, h2, h3⟩ := h
  exact ⟨{ w with heap := w.heap.setIfInBounds m (.map #[] c) }, by simp [Builtin.clear_, run_underlying ht, Go.MapKept.run_getObj_map h1, run_setObj_map _ h1, Result.andThen], ⟨#[], c, (heap_set h1).1, stamped_empty c, rfl⟩, keep_setObj h1, by simp⟩

/-- A range over map m stands in block r; these entries are still to come. -/
def RangeAt (w : World) (r m : Nat) (kk : IntKind) (L left : List Ent) : Prop :=
  ∃ es clock seen since c0, w.heap[r]? = some (.mapIter (some m) since seen c0) ∧ w.heap[m]? = some (.map es clock) ∧ Stamped es clock ∧ Ents kk es.toList L ∧
    (∀ x ∈ es.toList, x.born < since) ∧ since ≤ c0 ∧ c0 ≤ clock ∧ Ents kk (leftOf es seen).toList left

theorem RangeAt.keep {S : Nat → Prop} {a w : World} {r m : Nat} {kk : IntKind} {L left : List Ent} (h : RangeAt a r m kk L left) (hk : Keep S a w) (hr : ¬ S r) (hm : ¬ S m) : RangeAt w r m kk L left := by
  obtain ⟨es, clock, seen, since, c0, h1, h2, h3⟩ := h
  have g1 : r < a.heap.size := (Array.getElem?_eq_some_iff.1 h1).1
  have g2 : m < a.heap.size := (Array.getElem?_eq_some_iff.1 h2).1
  exact ⟨es, clock, seen, since, c0, by rw [hk.block r g1 hr]; exact h1, by rw [hk.block m g2 hm]; exact h2, h3⟩
theorem RangeAt.map {w : World} {r m : Nat} {kk : IntKind} {L left : List Ent} (h : RangeAt w r m kk L left) : MapAt w m kk L := by
  obtain ⟨es, clock, seen, since, c0, h1, h2, h3, h4, _⟩ := h
  exact ⟨es, clock, h2, h3, h4⟩

theorem run_map_range (h : MapAt w m kk L) (ht : P.underlying t = some (.map kt et)) :
    ∃ w', (Instr.range t (.map (some m))).run P w = .ok (.pointer (some ⟨w.heap.size, 0, none⟩)) w' ∧ RangeAt w' w.heap.size m kk L L ∧ Keep (fun _ => False) w w' ∧ w'.heap.size = w.heap.size + 1 := by
  obtain ⟨es, c, h1, h2, h3⟩ := h
  have hm : m < w.heap.size := (Array.getElem?_eq_some_iff.1 h1).1
  refine ⟨w.alloc (.mapIter (some m) c #[] c), by simp [Instr.range, run_underlying ht, Go.MapKept.run_getObj_map h1, Result.andThen], ?_, (Keep.refl _ _).alloc _, by simp⟩
  refine ⟨es, c, #[], c, c, Go.heap_alloc_new w _, by rw [Go.heap_alloc_old w _ hm]; exact h1, h2, h3, h2.1, Nat.le_refl _, Nat.le_refl _, ?_⟩
  have : (leftOf es #[]).toList = es.toList := by simp [leftOf]
  rw [this]; exact h3

theorem leftOf_push (es : Array MapEntry) (seen : Array Nat) (e : MapEntry) (clock : Nat) (n : Int) (hs : Stamped es clock) (he : e ∈ es.toList) (hk : e.key = .int kk n) :
    (leftOf es (seen.push e.born)).toList = (leftOf es seen).toList.filter (fun x => decide (x.born ≠ e.born)) := by
  unfold leftOf
  simp only [Array.toList_filter, List.filter_filter]
  apply List.filter_congr
  intro x hx
  by_cases h : x.born = e.born
  · simp [h]
  · simp [h]
theorem ents_filter : ∀ (es : List MapEntry) (L : List Ent) (e : MapEntry) (n : Int), Ents kk es L → e.key = .int kk n → (∀ x ∈ es, x.born = e.born ↔ x.key = e.key) →
    Ents kk (es.filter fun x => decide (x.born ≠ e.born)) (L.filter fun p => decide (p.1 ≠ n))
  | [], L, e, n, h, _, _ => by
    have : L = [] := by have := h.len; exact List.eq_nil_of_length_eq_zero this.symm
    subst this; exact rfl
  | e0 :: es, L, e, n, h, hk, hb => by
    obtain ⟨n0, L', rfl, hk0, h'⟩ := h.cons
    have ih := ents_filter es L' e n h' hk fun x hx => hb x (.tail _ hx)
    have h0 := hb e0 (.head _)
    by_cases hq : n0 = n
    · have : e0.born = e.born := h0.2 (by rw [hk0, hk, hq])
      rw [List.filter_cons_of_neg (by simpa using this), List.filter_cons_of_neg (by simpa using hq)]
      exact ih
    · have : e0.born ≠ e.born := fun q => hq (by have := h0.1 q; rw [hk0, hk] at this; simpa using this)
      rw [List.filter_cons_of_pos (by simpa using this), List.filter_cons_of_pos (by simpa using hq)]
      simp only [Ents, List.map_cons] at ih ⊢
      rw [ih, hk0]
theorem ents_mem : ∀ (es : List MapEntry) (L : List Ent) (e : MapEntry), Ents kk es L → e ∈ es → ∃ n, e.key = .int kk n ∧ (n, e.val) ∈ L
  | [], _, _, _, h => by cases h
  | e0 :: es, L, e, h, he => by
    obtain ⟨n0, L', rfl, hk0, h'⟩ := h.cons
    cases he with
    | head => exact ⟨n0, hk0, .head _⟩
    | tail _ he =>
      obtain ⟨n, h1, h2⟩ := ents_mem es L' e h' he
      exact ⟨n, h1, .tail _ h2⟩

theorem run_map_next {r : Nat} {left : List Ent} (h : RangeAt w r m kk L left) (ty : TypeId) :
    (left = [] ∧ (Instr.next (.pointer (some ⟨r, 0, none⟩)) false ty).run P w = .ok (.tuple #[.bool false]) w) ∨
    ∃ n v w', (n, v) ∈ left ∧ (n, v) ∈ L ∧ (Instr.next (.pointer (some ⟨r, 0, none⟩)) false ty).run P w = .ok (.tuple #[.bool true, .int kk n, v]) w' ∧ RangeAt w' r m kk L (left.filter fun p => decide (p.1 ≠ n)) ∧
      (left.filter fun p => decide (p.1 ≠ n)).length < left.length ∧ Keep (fun j => j = r) w w' ∧ w'.heap.size = w.heap.size ∧ (Instr.entry (.pointer (some ⟨r, 0, none⟩))).run P w' = .ok (.tuple #[.int kk n, v]) w' := by
  obtain ⟨es, clock, seen, since, c0, h1, h2, h3, h4, h6, h7, h8, h9⟩ := h
  have hrm : r ≠ m := by rintro rfl; rw [h1] at h2; cases h2
  rcases run_next_at (P := P) w ty r m since c0 seen es clock h1 h2 h6 h7 with ⟨g1, g2⟩ | ⟨e, he, w1, hw1, hrun⟩
  · left
    refine ⟨?_, g2⟩
    have : leftOf es seen = #[] := Array.eq_empty_of_size_eq_zero g1
    rw [this] at h9
    have := h9.len
    exact List.eq_nil_of_length_eq_zero this.symm
  · right
    have hee : e ∈ es.toList := by
      unfold leftOf at he
      rw [Array.toList_filter] at he
      exact (List.mem_filter.1 he).1
    obtain ⟨n, hkn, hmem⟩ := ents_mem _ _ e h4 hee
    obtain ⟨n', hkn', hmem'⟩ := ents_mem _ _ e h9 he
    have : n' = n := by rw [hkn] at hkn'; simpa using hkn'.symm
    subst this
    have hw1h : w1.heap = w.heap := by rcases hw1 with rfl | rfl <;> rfl
    have hrl : r < w.heap.size := (Array.getElem?_eq_some_iff.1 h1).1
    have e1 : (Go.ChangeMaps.setBlock w1 r (.mapIter (some m) since (seen.push e.born) clock)).heap[r]? = some (.mapIter (some m) since (seen.push e.born) clock) := by
      simp [Go.ChangeMaps.setBlock, hw1h, hrl]
    have e2 : (Go.ChangeMaps.setBlock w1 r (.mapIter (some m) since (seen.push e.born) clock)).heap[m]? = some (.map es clock) := by
      simp only [Go.ChangeMaps.setBlock, hw1h]
      rw [Array.getElem?_setIfInBounds_ne hrm]; exact h2
    have hbk : ∀ x ∈ (leftOf es seen).toList, x.born = e.born ↔ x.key = e.key := by
      intro x hx
      have hx' : x ∈ es.toList := by
        unfold leftOf at hx
        rw [Array.toList_filter] at hx
        exact (List.mem_filter.1 hx).1
      obtain ⟨i, hi, rfl⟩ := List.mem_iff_getElem.1 hx'
      obtain ⟨j, hj, rfl⟩ := List.mem_iff_getElem.1 hee
      have a1 := List.getElem_inj (h₀ := by simpa using hi) (h₁ := by simpa using hj) h3.2.1
      have a2 := List.getElem_inj (h₀ := by simpa using hi) (h₁ := by simpa using hj) h3.2.2
      simp only [List.getElem_map] at a1 a2
      rw [a1, a2]
    have hlp := leftOf_push es seen e clock n' h3 hee hkn
    have hfil := ents_filter _ _ e n' h9 hkn hbk
    rw [← hlp] at hfil
    refine ⟨n', e.val, _, hmem', hmem, by rw [← hkn]; exact hrun, ?_, ?_, ?_, ?_, ?_⟩
    · exact ⟨es, clock, seen.push e.born, since, clock, e1, e2, h3, h4, h6, Nat.le_trans h7 h8, Nat.le_refl _, hfil⟩
    · apply List.length_filter_lt_length_iff_exists.2
      exact ⟨(n', e.val), hmem', by simp⟩
    · refine ⟨?_, ?_, ?_, ?_, ?_⟩
      · rcases hw1 with rfl | rfl <;> rfl
      · rcases hw1 with rfl | rfl <;> rfl
      · rcases hw1 with rfl | rfl <;> rfl
      · simp [Go.ChangeMaps.setBlock, hw1h]
      · intro k hk hne
        simp only [Go.ChangeMaps.setBlock, hw1h]
        exact Array.getElem?_setIfInBounds_ne (Ne.symm hne)
    · simp [Go.ChangeMaps.setBlock, hw1h]
    · rw [← hkn]; exact run_entry_at _ r m since seen es clock e e1 e2 hee h3.2.1
end
end Go.Pin
