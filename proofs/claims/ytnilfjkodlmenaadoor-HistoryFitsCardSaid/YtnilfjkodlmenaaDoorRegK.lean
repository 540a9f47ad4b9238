/- A region that draws its order and ends in a store to what it loads: what stays need not stay behind operation s, which waits for it. -/
import Derived.Test.YtnilfjkodlmenaaDoorRegT
set_option maxRecDepth 16000
namespace Go.Pin
open Go.RowKit
set_option linter.unusedVariables false
set_option linter.unusedSimpArgs false
section
variable {P : Program} {ops : Array Oper} {Q : Exit → Act → World → Prop} {md : Region.Mode} {S : World → Prop} {s : Nat}
/-- Whatever order is picked, and S holds behind every operation but s. -/
def wpAnyK (P : Program) (md : Region.Mode) (ops : Array Oper) (Q : Exit → Act → World → Prop) (S : World → Prop) (s : Nat) : Nat → Array Bool → Act → World → Prop
  | 0, listed, a, w => Region.ready md ops listed = [] ∧ Q .normal a w
  | fuel + 1, listed, a, w =>
    (Region.ready md ops listed = [] → Q .normal a w) ∧
    ∀ i ∈ Region.ready md ops listed, wpOp P ops Q i (fun a' w' => (i ≠ s → S w') ∧ wpAnyK P md ops Q S s fuel (listed.setIfInBounds i true) a' w') a w
theorem wpAny_of_K : ∀ (fuel : Nat) (listed : Array Bool) (a : Act) (w : World), wpAnyK P md ops Q S s fuel listed a w → wpAny P md ops Q fuel listed a w
  | 0, _, _, _, h => h
  | fuel + 1, _, _, _, h => ⟨h.1, fun i hi => wpOp_mono (fun a' w' h' => wpAny_of_K fuel _ a' w' h'.2) (h.2 i hi)⟩
theorem Stays.firstK {i : Nat} {oi : Oper} {v : Value} (hi : ops[i]? = some oi) (hsel : ∀ (j : Nat) (o : Oper) cs b, ops[j]? = some o → o.op ≠ .select cs b)
    (hQ : ∀ c a w, Q (.panic c) (a.put oi.dst v) w → Q (.panic c) a w) (hwait : ∀ os, ops[s]? = some os → ∃ e ∈ os.after, Region.binds md e = true ∧ e.on = i) : ∀ (fuel : Nat) (listed : Array Bool) (a : Act) (w : World),
      (∀ j oj, ops[j]? = some oj → j ≠ i → listed.getD j true = false → (∀ e ∈ oj.after, Region.binds md e = true → e.on ≠ i) → oi.apart ops oj = true) →
      i ∈ Region.ready md ops listed → Stays P ops S oi v a → S w →
      wpAnyK P md ops Q S s fuel (listed.setIfInBounds i true) (a.put oi.dst v) w → wpAnyK P md ops Q S s (fuel + 1) listed a w
  | 0, listed, a, w, _, hr, hy, hS, H => by
    refine ⟨fun h => (by rw [h] at hr; cases hr), fun j hj => ?_⟩
    by_cases hji : j = i
    · subst hji; exact hy.wpOp hi hS ⟨fun _ => hS, H⟩
    · have h0 := ready_mono hj hji
      rw [H.1] at h0; cases h0
  | fuel + 1, listed, a, w, hfree, hr, hy, hS, H => by
    refine ⟨fun h => (by rw [h] at hr; cases hr), fun j hj => ?_⟩
    by_cases hji : j = i
    · subst hji; exact hy.wpOp hi hS ⟨fun _ => hS, H⟩
    · obtain ⟨hju, oj, hoj, hall⟩ := mem_ready.1 hj
      have hno : ∀ e ∈ oj.after, Region.binds md e = true → e.on ≠ i := fun e he hb q => by
        have g1 := hall e he hb
        have g2 := (mem_ready.1 hr).1
        rw [q] at g1
        by_cases hl : i < listed.size
        · simp [hl] at g1 g2; rw [g1] at g2; cases g2
        · simp [Array.getElem?_eq_none (Nat.le_of_not_lt hl)] at g1
      have hjs : j ≠ s := by
        rintro rfl
        obtain ⟨e, he, hb, q⟩ := hwait oj hoj
        exact hno e he hb q
      have h2 := Stays.swap hoj (hfree j oj hoj hji hju hno) (fun cs b => hsel i oi cs b hi) (fun cs b => hsel j oj cs b hoj) hQ hy (H.2 j (ready_mono hj hji))
      refine wpOp_mono (fun a' w' h3 => ⟨fun _ => h3.2.1 hjs, Stays.firstK hi hsel hQ hwait fuel (listed.setIfInBounds j true) a' w' (fun k ok hk hki hun hn => hfree k ok hk hki ?_ hn) (ready_mono hr (Ne.symm hji)) h3.1 (h3.2.1 hjs) ?_⟩) h2
      · by_cases hjk : j = k
        · subst hjk; exact hju
        · rw [getD_set_ne true hjk] at hun; exact hun
      · rw [Array.setIfInBounds_comm _ _ hji]; exact h3.2.2
/-- Operation s waits for these. -/
def Region.waitsB (md : Region.Mode) (ops : Array Oper) (s : Nat) : Nat → Nat → Bool
  | 0, _ => true
  | n + 1, k => (match ops[s]? with | some os => os.after.any (fun e => Region.binds md e && e.on == k) | none => false) && waitsB md ops s n (k + 1)
theorem Region.waitsB_spec {k : Nat} (h : (match ops[s]? with | some os => os.after.any (fun e => Region.binds md e && e.on == k) | none => false) = true) : ∀ os, ops[s]? = some os → ∃ e ∈ os.after, Region.binds md e = true ∧ e.on = k := by
  intro os ho
  rw [ho] at h
  simp only [Array.any_eq_true, Bool.and_eq_true, beq_iff_eq] at h
  obtain ⟨i, hi, h1, h2⟩ := h
  exact ⟨_, Array.getElem_mem hi, h1, h2⟩
theorem wpAnyK_stay (hs : Region.noSelect ops = true) (hQ : ∀ d v c a w, Q (.panic c) (Act.put a d v) w → Q (.panic c) a w) {g : Nat} {w : World} : ∀ (l : List Oper) (k : Nat) (listed : Array Bool) (a : Act), (∀ j, j < l.length → l[j]? = ops[k + j]?) →
    Region.headB md ops l.length k listed = true → Region.waitsB md ops s l.length k = true → S w → wpStay P ops S (fun a' => wpAnyK P md ops Q S s g (Region.headL l.length k listed) a' w) l a → wpAnyK P md ops Q S s (l.length + g) listed a w
  | [], k, listed, a, _, _, _, _, h => by rw [List.length_nil, Nat.zero_add]; exact h
  | o :: l, k, listed, a, hl, hB, hW, hS, h => by
    have h0 : ops[k]? = some o := by simpa using (hl 0 (by simp)).symm
    simp only [List.length_cons, Region.headB, Bool.and_eq_true] at hB
    simp only [List.length_cons, Region.waitsB, Bool.and_eq_true] at hW
    obtain ⟨v, hv, h'⟩ := h
    rw [show (o :: l).length + g = (l.length + g) + 1 by simp; omega]
    exact Stays.firstK h0 (Region.noSelect_spec hs) (hQ _ _) (Region.waitsB_spec hW.1) _ _ _ _ (Region.free_spec h0 hB.1.2) (by simpa using hB.1.1) hv hS
      (wpAnyK_stay hs hQ l (k + 1) _ _ (fun j hj => by have := hl (j + 1) (by simp; omega); simpa [Nat.add_assoc, Nat.add_comm 1 j] using this) hB.2 hW.2 hS h')
/-- The beginning: the first n operations stay. -/
theorem wp_region_stayK {id : Nat} {a : Act} {w : World} {l : List Oper} (s n : Nat) (hm : P.follows .mixedOrders = true) (hn : n ≤ l.length) (hs : Region.noSelect l.toArray = true) (hB : (Region.headB .any l.toArray n 0 (Array.replicate l.length false) && Region.waitsB .any l.toArray s n 0) = true) (hS : S w.drew)
    (h : wpStay P l.toArray S (fun a' => wpAnyK P .any l.toArray (NoPanic Q) S s (l.length - n) (Region.headL n 0 (Array.replicate l.length false)) a' w.drew) (l.take n) a) : (Code.region id l.toArray true).wp P Q a w := by
  rw [Bool.and_eq_true] at hB
  refine wp_region_noPanic (wp_region_any hm (wpAny_of_K (S := S) (s := s) _ _ _ _ ?_))
  have hl : (l.take n).length = n := by simp; omega
  have := wpAnyK_stay (md := .any) (Q := NoPanic Q) (S := S) (s := s) (g := l.length - n) (w := w.drew) hs (fun _ _ _ _ _ h => h) (l.take n) 0 (Array.replicate l.length false) a (fun j hj => by simp [hl] at hj; simp [hj]) (by rw [hl]; exact hB.1) (by rw [hl]; exact hB.2) hS (by rw [hl]; exact h)
  rw [hl, show n + (l.length - n) = l.length by omega] at this
  simpa using this
/-- In the midst: n operations from number k on stay. -/
theorem wpAnyK_more {g : Nat} {l0 : List Oper} {listed : Array Bool} {a : Act} {w : World} (k n : Nat) (hn : k + n ≤ l0.length) (hs : Region.noSelect l0.toArray = true) (hB : (Region.headB .any l0.toArray n k listed && Region.waitsB .any l0.toArray s n k) = true) (hS : S w)
    (h : wpStay P l0.toArray S (fun a' => wpAnyK P .any l0.toArray (NoPanic Q) S s g (Region.headL n k listed) a' w) ((l0.drop k).take n) a) : wpAnyK P .any l0.toArray (NoPanic Q) S s (n + g) listed a w := by
  rw [Bool.and_eq_true] at hB
  have hl : ((l0.drop k).take n).length = n := by simp; omega
  have := wpAnyK_stay (md := .any) (Q := NoPanic Q) (S := S) (s := s) (g := g) (w := w) hs (fun _ _ _ _ _ h => h) ((l0.drop k).take n) k listed a (fun j hj => by simp [hl] at hj; simp [hj, List.getElem?_take, List.getElem?_drop]) (by rw [hl]; exact hB.1) (by rw [hl]; exact hB.2) hS (by rw [hl]; exact h)
  rw [hl] at this
  exact this
/-- One operation: behind it S holds, if it is not s. -/
theorem wpAnyK_one {g : Nat} {listed : Array Bool} {a : Act} {w : World} (k : Nat) {o : Oper} (hr : Region.ready md ops listed = [k]) (ho : ops[k]? = some o)
    (h : ∀ K' : Act → World → Prop, Shut (∀ a w, (k ≠ s → S w) → wpAnyK P md ops Q S s g (listed.setIfInBounds k true) a w → K' a w) → if Region.wanted o (yielded ops a.tmps) = true then Oper.wp P o a w K' Q else K' (a.put o.dst undef) w) : wpAnyK P md ops Q S s (g + 1) listed a w := by
  refine ⟨fun h0 => (by rw [hr] at h0; cases h0), fun i hi => ?_⟩
  rw [hr] at hi
  simp only [List.mem_singleton] at hi
  subst hi
  exact wpOp_step ho (fun K' hK => h K' (fun a w hS hW => hK a w ⟨hS, hW⟩))
theorem wpAnyK_done {listed : Array Bool} {a : Act} {w : World} (hr : Region.ready md ops listed = []) (h : Q .normal a w) : ∀ fuel, wpAnyK P md ops Q S s fuel listed a w
  | 0 => ⟨hr, h⟩
  | _ + 1 => ⟨fun _ => h, by rw [hr]; simp⟩
end
end Go.Pin
