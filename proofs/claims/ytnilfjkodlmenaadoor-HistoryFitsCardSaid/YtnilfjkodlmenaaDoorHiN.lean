/- history: the search's plain laws (enough steps; the key is one-to-one); a map as a set of texts. -/
import Derived.Test.YtnilfjkodlmenaaDoorHiM
import Derived.Test.YtnilfjkodlmenaaDoorMap
import Derived.Lib.ItoaMem
import Derived.Lib.Join
set_option maxRecDepth 16000
namespace Go.Pin
open Go.RowKit Go.MapKept
set_option linter.unusedVariables false
set_option linter.unusedSimpArgs false
/-! ### Enough steps -/
/-- What one more step makes of op k. -/
def hArm (L : List HOp) (f done : Nat) (B : List ByteArray) (k : Nat) : Option (List Nat) :=
  if hMay L done k && hTold B (hAt L k) then (hs L f (done ||| 1 <<< k) (hdo B (hAt L k)).1).map (k :: ·) else none
theorem hs_succ (L : List HOp) (f done : Nat) (B : List ByteArray) (ho : hOver L done = false) : hs L (f + 1) done B = (List.range L.length).findSome? (hArm L f done B) := by
  rw [hs_eq, if_neg (by rw [ho]; exact Bool.false_ne_true)]
  rfl
theorem range_at (n k : Nat) (hk : k < n) : ∃ r, List.range n = List.range k ++ k :: r := by
  refine ⟨(List.range n).drop (k + 1), ?_⟩
  have h1 := (List.take_append_drop k (List.range n)).symm
  rw [List.take_range, Nat.min_eq_left (by omega), List.drop_eq_getElem_cons (by simpa using hk)] at h1
  simpa using h1
theorem hs_first {L : List HOp} {f done k : Nat} {B : List ByteArray} {r : List Nat} (ho : hOver L done = false) (hk : k < L.length) (hj : ∀ j, j < k → hArm L f done B j = none) (h : hArm L f done B k = some r) : hs L (f + 1) done B = some r := by
  rw [hs_succ L f done B ho, List.findSome?_eq_some_iff]
  obtain ⟨l2, h2⟩ := range_at L.length k hk
  exact ⟨List.range k, k, l2, h2, h, fun x hx => hj x (List.mem_range.1 hx)⟩
theorem hs_last {L : List HOp} {f done : Nat} {B : List ByteArray} (ho : hOver L done = false) (hj : ∀ j, j < L.length → hArm L f done B j = none) : hs L (f + 1) done B = none := by
  rw [hs_succ L f done B ho, List.findSome?_eq_none_iff]
  exact fun x hx => hj x (List.mem_range.1 hx)
theorem hs_full (L : List HOp) : ∀ (r : List Nat) (f done : Nat) (B : List ByteArray), hFits L done B r → r.length ≤ f → ∃ r', hs L f done B = some r'
  | [], f, done, B, h, _ => ⟨[], by rw [hs_eq, if_pos (show hOver L done = true from h)]⟩
  | k :: r, f, done, B, h, hf => by
    by_cases ho : hOver L done = true
    · exact ⟨[], by rw [hs_eq, if_pos ho]⟩
    · have ho' : hOver L done = false := by simpa using ho
      cases f with
      | zero => simp at hf
      | succ f =>
        obtain ⟨h1, h2, h3, h4⟩ := h
        obtain ⟨r', hr'⟩ := hs_full L r f _ _ h4 (by simpa using hf)
        rw [hs_succ L f done B ho']
        cases hfs : (List.range L.length).findSome? (hArm L f done B) with
        | some r'' => exact ⟨r'', rfl⟩
        | none =>
          rw [List.findSome?_eq_none_iff] at hfs
          have := hfs k (List.mem_range.2 h1)
          unfold hArm at this
          rw [h2, h3, hr'] at this
          cases this
/-- How many are left. -/
def hLeft (n done : Nat) : Nat := (List.range n).countP fun k => !done.testBit k
theorem bit_or (done k j : Nat) : (done ||| 1 <<< k).testBit j = (done.testBit j || decide (k = j)) := by
  rw [Nat.testBit_or, Nat.one_shiftLeft, Nat.testBit_two_pow]
theorem hLeft_succ (n done : Nat) : hLeft (n + 1) done = hLeft n done + if done.testBit n then 0 else 1 := by
  unfold hLeft
  rw [List.range_succ, List.countP_append, List.countP_cons, List.countP_nil]
  cases done.testBit n <;> simp
theorem hLeft_far (n done k : Nat) (hk : n ≤ k) : hLeft n (done ||| 1 <<< k) = hLeft n done := by
  induction n with
  | zero => rfl
  | succ n ih => rw [hLeft_succ, hLeft_succ, ih (by omega), bit_or, decide_eq_false (by omega : ¬ k = n), Bool.or_false]
theorem hLeft_set (n done k : Nat) (hk : k < n) (hb : done.testBit k = false) : hLeft n (done ||| 1 <<< k) + 1 = hLeft n done := by
  induction n with
  | zero => omega
  | succ n ih =>
    rw [hLeft_succ, hLeft_succ, bit_or]
    by_cases h : k = n
    · subst h
      rw [hLeft_far _ _ _ (Nat.le_refl _), hb, decide_eq_true rfl]
      rfl
    · rw [decide_eq_false h, Bool.or_false, ← ih (by omega)]
      omega
theorem hLeft_zero (n done : Nat) (h : hLeft n done = 0) : ∀ k, k < n → done.testBit k = true := by
  intro k hk
  unfold hLeft at h
  rw [List.countP_eq_zero] at h
  have := h k (List.mem_range.2 hk)
  simpa using this
theorem hover_of_left {L : List HOp} {done : Nat} (h : hLeft L.length done = 0) : hOver L done = true := by
  unfold hOver
  rw [List.all_eq_true]
  intro k hk
  rw [Bool.or_eq_true]
  exact .inr (hLeft_zero _ _ h k (List.mem_range.1 hk))
theorem hMay_bit {L : List HOp} {done k : Nat} (h : hMay L done k = true) : done.testBit k = false := by
  unfold hMay at h
  rw [Bool.and_eq_true] at h
  simpa using h.2
theorem fits_left (L : List HOp) : ∀ (r : List Nat) (done : Nat) (B : List ByteArray), hFits L done B r → r.length ≤ hLeft L.length done
  | [], _, _, _ => Nat.zero_le _
  | k :: r, done, B, h => by
    obtain ⟨h1, h2, h3, h4⟩ := h
    have := fits_left L r _ _ h4
    rw [← hLeft_set L.length done k h1 (hMay_bit h2), List.length_cons]
    omega
theorem hs_none {L : List HOp} {f done : Nat} {B : List ByteArray} (hl : hLeft L.length done ≤ f) (h : hs L f done B = none) : ∀ r, ¬ hFits L done B r := by
  intro r hr
  obtain ⟨r', hr'⟩ := hs_full L r f done B hr (Nat.le_trans (fits_left L r done B hr) hl)
  rw [h] at hr'
  cases hr'
theorem hs_none_of {L : List HOp} {done : Nat} {B : List ByteArray} (h : ∀ r, ¬ hFits L done B r) (f : Nat) : hs L f done B = none := by
  cases hq : hs L f done B with
  | none => rfl
  | some r => exact absurd (hs_fits L f done B r hq) (h r)
/-! ### The key -/
def hKey (done : Nat) (B : List ByteArray) : ByteArray := (⟨(Lib.decDigits done).toArray⟩ ++ ⟨#[32]⟩ : ByteArray) ++ hJoin B
theorem dec_ne (u : Nat) : Lib.decDigits u ≠ [] := by
  rw [Lib.decDigits]
  split <;> simp
theorem digit_ne (d : Nat) (hd : d < 10) : UInt8.ofNat (48 + d) ≠ 32 := by
  have : d = 0 ∨ d = 1 ∨ d = 2 ∨ d = 3 ∨ d = 4 ∨ d = 5 ∨ d = 6 ∨ d = 7 ∨ d = 8 ∨ d = 9 := by omega
  rcases this with rfl | rfl | rfl | rfl | rfl | rfl | rfl | rfl | rfl | rfl <;> decide
theorem digit_inj (d e : Nat) (hd : d < 10) (he : e < 10) (h : UInt8.ofNat (48 + d) = UInt8.ofNat (48 + e)) : d = e := by
  have h1 := congrArg UInt8.toNat h
  simp at h1
  omega
theorem dec_digits (u : Nat) : ∀ c ∈ Lib.decDigits u, c ≠ 32 := by
  induction u using Nat.strongRecOn with
  | ind u ih =>
    intro c hc
    rw [Lib.decDigits] at hc
    split at hc
    · rename_i h
      obtain rfl := List.mem_singleton.1 hc
      exact digit_ne u h
    · rename_i h
      rcases List.mem_append.1 hc with q | q
      · exact ih (u / 10) (by omega) c q
      · obtain rfl := List.mem_singleton.1 q
        exact digit_ne _ (Nat.mod_lt _ (by omega))
theorem dec_inj (u : Nat) : ∀ v, Lib.decDigits u = Lib.decDigits v → u = v := by
  induction u using Nat.strongRecOn with
  | ind u ih =>
    intro v h
    rw [Lib.decDigits.eq_def u, Lib.decDigits.eq_def v] at h
    by_cases hu : u < 10
    · by_cases hv : v < 10
      · rw [dif_pos hu, dif_pos hv] at h
        exact digit_inj u v hu hv (List.singleton_inj.1 h)
      · rw [dif_pos hu, dif_neg hv] at h
        have h2 := congrArg List.length h
        rw [List.length_append, List.length_singleton, List.length_singleton] at h2
        exact absurd (List.eq_nil_of_length_eq_zero (by omega)) (dec_ne (v / 10))
    · by_cases hv : v < 10
      · rw [dif_neg hu, dif_pos hv] at h
        have h2 := congrArg List.length h
        rw [List.length_append, List.length_singleton, List.length_singleton] at h2
        exact absurd (List.eq_nil_of_length_eq_zero (by omega)) (dec_ne (u / 10))
      · rw [dif_neg hu, dif_neg hv] at h
        obtain ⟨h1, h2⟩ := List.append_inj' h rfl
        have h3 := ih (u / 10) (by omega) _ h1
        have h4 := digit_inj _ _ (Nat.mod_lt _ (by omega)) (Nat.mod_lt _ (by omega)) (List.singleton_inj.1 h2)
        omega
theorem split_at {c : UInt8} : ∀ (a b x y : List UInt8), (∀ d ∈ a, d ≠ c) → (∀ d ∈ b, d ≠ c) → a ++ c :: x = b ++ c :: y → a = b ∧ x = y
  | [], [], x, y, _, _, h => ⟨rfl, by simpa using h⟩
  | [], d :: b, x, y, _, hb, h => by
    rw [List.nil_append, List.cons_append, List.cons.injEq] at h
    exact absurd h.1.symm (hb d (List.mem_cons_self ..))
  | d :: a, [], x, y, ha, _, h => by
    rw [List.nil_append, List.cons_append, List.cons.injEq] at h
    exact absurd h.1 (ha d (List.mem_cons_self ..))
  | d :: a, e :: b, x, y, ha, hb, h => by
    rw [List.cons_append, List.cons_append, List.cons.injEq] at h
    obtain ⟨h1, h2⟩ := split_at a b x y (fun d hd => ha d (List.mem_cons_of_mem _ hd)) (fun d hd => hb d (List.mem_cons_of_mem _ hd)) h.2
    exact ⟨by rw [h.1, h1], h2⟩
theorem hJoin_cons (x : ByteArray) (B : List ByteArray) : (hJoin (x :: B)).data.toList = x.data.toList ++ (hJoin B).data.toList := by
  show (x ++ hJoin B).data.toList = _
  rw [ByteArray.data_append]
  simp
theorem hJoin_inj : ∀ (B C : List ByteArray), (∀ s ∈ B, s.size = 64) → (∀ s ∈ C, s.size = 64) → (hJoin B).data.toList = (hJoin C).data.toList → B = C
  | [], [], _, _, _ => rfl
  | [], y :: C, _, hC, h => by
    rw [hJoin_cons] at h
    have h1 := congrArg List.length h
    have h2 : y.data.toList.length = 64 := hC y (List.mem_cons_self ..)
    rw [List.length_append, h2] at h1
    have h3 : (hJoin []).data.toList.length = 0 := rfl
    omega
  | x :: B, [], hB, _, h => by
    rw [hJoin_cons] at h
    have h1 := congrArg List.length h
    have h2 : x.data.toList.length = 64 := hB x (List.mem_cons_self ..)
    rw [List.length_append, h2] at h1
    have h3 : (hJoin []).data.toList.length = 0 := rfl
    omega
  | x :: B, y :: C, hB, hC, h => by
    rw [hJoin_cons, hJoin_cons] at h
    have h1 : x.data.toList.length = 64 := hB x (List.mem_cons_self ..)
    have h2 : y.data.toList.length = 64 := hC y (List.mem_cons_self ..)
    obtain ⟨h3, h4⟩ := List.append_inj h (by rw [h1, h2])
    have h5 : x = y := by
      apply ByteArray.ext
      apply Array.ext'
      exact h3
    rw [h5, hJoin_inj B C (fun s hs => hB s (List.mem_cons_of_mem _ hs)) (fun s hs => hC s (List.mem_cons_of_mem _ hs)) h4]
theorem hKey_inj {d e : Nat} {B C : List ByteArray} (hB : ∀ s ∈ B, s.size = 64) (hC : ∀ s ∈ C, s.size = 64) (h : hKey d B = hKey e C) : d = e ∧ B = C := by
  have h1 := congrArg (fun s : ByteArray => s.data.toList) h
  unfold hKey at h1
  simp only [ByteArray.data_append, Array.toList_append, List.append_assoc] at h1
  obtain ⟨h2, h3⟩ := split_at _ _ _ _ (dec_digits d) (dec_digits e) h1
  exact ⟨dec_inj d e h2, hJoin_inj B C hB hC h3⟩
/-! ### A set of texts -/
/-- Block m is a map from texts, each of which is Q, to u. -/
def SetAt (w : World) (m : Nat) (u : Value) (Q : ByteArray → Prop) : Prop :=
  ∃ es clock, w.heap[m]? = some (.map es clock) ∧ Stamped es clock ∧ ∀ x ∈ es.toList, (∃ s, x.key = .string s ∧ Q s) ∧ x.val = u
theorem SetAt.keep {S : Nat → Prop} {a w : World} {m : Nat} {u : Value} {Q : ByteArray → Prop} (h : SetAt a m u Q) (hk : Keep S a w) (hn : ¬ S m) : SetAt w m u Q := by
  obtain ⟨es, c, h1, h2⟩ := h
  have hm : m < a.heap.size := (Array.getElem?_eq_some_iff.1 h1).1
  exact ⟨es, c, by rw [hk.block m hm hn]; exact h1, h2⟩
theorem SetAt.lt {w : World} {m : Nat} {u : Value} {Q : ByteArray → Prop} (h : SetAt w m u Q) : m < w.heap.size := by
  obtain ⟨es, c, h1, _⟩ := h
  exact (Array.getElem?_eq_some_iff.1 h1).1
theorem SetAt.made (w : World) (u : Value) (Q : ByteArray → Prop) : SetAt (w.alloc (.map #[] 0)) w.heap.size u Q := ⟨#[], 0, (heap_alloc w _).1, stamped_empty 0, fun x hx => by simp at hx⟩
section
variable {P : Program} {w : World} {m : Nat} {u : Value} {Q : ByteArray → Prop} {t kt et : TypeId}
theorem SetAt.keys {es : Array MapEntry} (h : ∀ x ∈ es.toList, (∃ s, x.key = .string s ∧ Q s) ∧ x.val = u) : ∀ x ∈ es.toList, IsKey .string x.key := fun x hx => by
  obtain ⟨⟨s, q, _⟩, _⟩ := h x hx
  rw [q]; exact True.intro
theorem run_set_lookup_ok (h : SetAt w m u Q) (ht : P.underlying t = some (.map kt et)) (hd : P.underlying kt = some .string) (k : ByteArray) (hz : (zeroValue et).run P w = .ok u w) :
    ∃ b, (Instr.lookup t (.map (some m)) (.string k) true).run P w = .ok (.tuple #[u, .bool b]) w ∧ (b = true → Q k) := by
  obtain ⟨es, c, h1, h2, h3⟩ := h
  have hk : IsKey .string (.string k) := True.intro
  rcases findNow_spec hk es.toList 0 (SetAt.keys h3) with ⟨g1, g2⟩ | ⟨j, e, g1, g2, g3⟩
  · exact ⟨false, by simp [Instr.lookup, run_underlying ht, Go.MapKept.run_getObj_map h1, run_checkKey hd hk, run_findKey hd g1, hz, Result.andThen], fun q => by cases q⟩
  · obtain ⟨⟨s, q1, q2⟩, q3⟩ := h3 e (List.mem_of_getElem? g2)
    rw [g3] at q1
    cases q1
    exact ⟨true, by simp [Instr.lookup, run_underlying ht, Go.MapKept.run_getObj_map h1, run_checkKey hd hk, run_findKey hd g1, q3, Result.andThen], fun _ => q2⟩
theorem run_set_update (h : SetAt w m u Q) (ht : P.underlying t = some (.map kt et)) (hd : P.underlying kt = some .string) (k : ByteArray) (hQ : Q k) :
    ∃ w', (Instr.mapUpdate t (.map (some m)) (.string k) u).run P w = .ok () w' ∧ SetAt w' m u Q ∧ Keep (fun k => k = m) w w' ∧ w'.heap.size = w.heap.size := by
  obtain ⟨es, c, h1, h2, h3⟩ := h
  have hk : IsKey .string (.string k) := True.intro
  rcases findNow_spec hk es.toList 0 (SetAt.keys h3) with ⟨g1, g2⟩ | ⟨j, e, g1, g2, g3⟩
  · refine ⟨{ w with heap := w.heap.setIfInBounds m (.map (es.push { key := .string k, val := u, born := c }) (c + 1)) }, by simp [Instr.mapUpdate, run_underlying ht, Go.MapKept.run_getObj_map h1, run_checkKey hd hk, run_findKey hd g1, run_setObj_map _ h1, Result.andThen], ?_, keep_setObj h1, by simp⟩
    refine ⟨_, _, (heap_set h1).1, stamped_push h2 g2, ?_⟩
    intro x hx
    rw [Array.toList_push, List.mem_append] at hx
    rcases hx with hx | hx
    · exact h3 x hx
    · obtain rfl := List.mem_singleton.1 hx
      exact ⟨⟨k, rfl, hQ⟩, rfl⟩
  · have hj : es[j]? = some e := by simpa using g2
    have g1' : Instr.findNow .string (.string k) es.toList 0 = some (some (j, e.val)) := by simpa using g1
    refine ⟨{ w with heap := w.heap.setIfInBounds m (.map (es.modify j fun e => { e with key := .string k, val := u }) c) }, by simp [Instr.mapUpdate, run_underlying ht, Go.MapKept.run_getObj_map h1, run_checkKey hd hk, run_findKey hd g1', hj, g3, run_keyThatStays hk, run_setObj_map _ h1, Result.andThen], ?_, keep_setObj h1, by simp⟩
    have hkey : ∀ e', es[j]? = some e' → ({ e' with key := .string k, val := u } : MapEntry).key = e'.key := fun e' he' => by rw [hj] at he'; cases he'; exact g3.symm
    refine ⟨_, _, (heap_set h1).1, stamped_modify h2 _ _ (fun _ _ => rfl) (fun e' _ he' => hkey e' he'), ?_⟩
    intro x hx
    rw [Array.toList_modify] at hx
    obtain ⟨i, hi, rfl⟩ := List.mem_iff_getElem.1 hx
    rw [List.getElem_modify]
    split
    · exact ⟨⟨k, rfl, hQ⟩, rfl⟩
    · exact h3 _ (List.getElem_mem _)
end
end Go.Pin
