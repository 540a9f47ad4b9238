/- A region that draws its order: what stays in every world of a class is taken first, calls that leave the world as it is too; then what makes memory, one by one. -/
import Derived.Test.YtnilfjkodlmenaaDoorBase
set_option maxRecDepth 16000
namespace Go.Pin
open Go.RowKit
set_option linter.unusedVariables false
set_option linter.unusedSimpArgs false
section
variable {P : Program} {ops : Array Oper} {Q : Exit → Act → World → Prop} {md : Region.Mode} {S : World → Prop}
/-- In every world of the class the operation leaves v, and the very world. -/
def Stays (P : Program) (ops : Array Oper) (S : World → Prop) (o : Oper) (v : Value) (a : Act) : Prop :=
  (Region.wanted o (yielded ops a.tmps) = true ∧ ∀ w, S w → o.quietAt P a (fun x => x = w) w v) ∨ (Region.wanted o (yielded ops a.tmps) = false ∧ v = undef)
theorem Stays.wpOp {i : Nat} {o : Oper} {v : Value} {a : Act} (hi : ops[i]? = some o) (hy : Stays P ops S o v a) {K : Act → World → Prop} {w : World} (hS : S w) (h : K (a.put o.dst v) w) : wpOp P ops Q i K a w := by
  unfold Go.wpOp
  rw [hi]
  dsimp only
  rcases hy with ⟨hw, hv⟩ | ⟨hw, rfl⟩
  · rw [if_pos hw]
    exact .inl (Oper.wp_of_quiet (C := fun x => x = w) (K := fun a' => K a' w) rfl (fun a' w' e k => by rw [e]; exact k) ⟨v, fun w' e => by subst e; exact hv _ hS, h⟩)
  · rw [if_neg (by rw [hw]; decide)]; exact h
theorem Stays.same {o : Oper} {v : Value} {a a' : Act} (hy : Stays P ops S o v a) (he : execOp a'.eval o = execOp a.eval o) (hw : Region.wanted o (yielded ops a'.tmps) = Region.wanted o (yielded ops a.tmps)) : Stays P ops S o v a' := by
  unfold Stays Oper.quietAt at *
  rw [he, hw]; exact hy
theorem Stays.swap {j : Nat} {oi oj : Oper} {v : Value} (hj : ops[j]? = some oj) (hap : oi.apart ops oj = true) (hsi : ∀ cs b, oi.op ≠ .select cs b) (hsj : ∀ cs b, oj.op ≠ .select cs b)
    (hQ : ∀ c a w, Q (.panic c) (a.put oi.dst v) w → Q (.panic c) a w) {K : Act → World → Prop} {a : Act} {w : World} (hy : Stays P ops S oi v a) (h : Go.wpOp P ops Q j K (a.put oi.dst v) w) :
    Go.wpOp P ops Q j (fun a' w' => Stays P ops S oi v a' ∧ K (a'.put oi.dst v) w') a w := by
  obtain ⟨h1, h2, h3⟩ := Oper.apart_spec hap
  have stay : ∀ u, Stays P ops S oi v (a.put oj.dst u) := fun u => hy.same (execOp_put oi hsi a oj.dst u h3) (wanted_put oi a oj.dst u h3)
  have put2 : ∀ u w', K ((a.put oi.dst v).put oj.dst u) w' → K ((a.put oj.dst u).put oi.dst v) w' := fun u w' k => by rw [← Act.put_comm a v u h2]; exact k
  unfold Go.wpOp at *
  rw [hj] at h ⊢
  dsimp only at h ⊢
  rw [wanted_put oj a oi.dst v h1] at h
  by_cases hw : Region.wanted oj (yielded ops a.tmps) = true
  · rw [if_pos hw] at h ⊢
    rcases h with h | ⟨ha, hl⟩
    · left
      unfold Oper.wp at *
      rw [execOp_put oj hsj a oi.dst v h1] at h
      generalize (execOp a.eval oj).run P w = r at *
      match r, h with
      | .ok (.value u) w', h => exact ⟨stay u, put2 u w' h⟩
      | .ok .skip w', h => exact ⟨stay _, put2 _ w' h⟩
      | .ok (.defer d) w', h =>
        have hd : Stays P ops S oi v { a with defers := d :: a.defers } := hy.same rfl rfl
        refine ⟨hd.same (execOp_put oi hsi _ oj.dst _ h3) (wanted_put oi _ oj.dst _ h3), ?_⟩
        rw [← Act.put_comm _ v undef h2, ← Act.put_defers]
        exact h
      | .ok (.enter f args) w', h =>
        exact Calls.mono h fun e w'' he => match e, he with
          | .returned u, he => ⟨stay u, put2 u w'' he⟩
          | .panicked c, he => hQ _ _ _ he
          | .outgrown, he => he
      | .ok (.row row args) w', h => exact Rows.mono h fun u w'' he => ⟨stay u, put2 u w'' he⟩
      | .halt (.panic u) w', h => exact hQ _ _ _ h
    · exact .inr ⟨by unfold Oper.asks at *; rw [execOp_put oj hsj a oi.dst v h1] at ha; exact ha, hl⟩
  · rw [if_neg hw] at h ⊢
    exact ⟨stay _, put2 _ w h⟩
theorem Stays.first {i : Nat} {oi : Oper} {v : Value} (hi : ops[i]? = some oi) (hsel : ∀ (j : Nat) (o : Oper) cs b, ops[j]? = some o → o.op ≠ .select cs b)
    (hQ : ∀ c a w, Q (.panic c) (a.put oi.dst v) w → Q (.panic c) a w) : ∀ (fuel : Nat) (listed : Array Bool) (a : Act) (w : World),
      (∀ j oj, ops[j]? = some oj → j ≠ i → listed.getD j true = false → (∀ e ∈ oj.after, Region.binds md e = true → e.on ≠ i) → oi.apart ops oj = true) →
      i ∈ Region.ready md ops listed → Stays P ops S oi v a → S w →
      wpAnyH P md ops Q S fuel (listed.setIfInBounds i true) (a.put oi.dst v) w → wpAnyH P md ops Q S (fuel + 1) listed a w
  | 0, listed, a, w, _, hr, hy, hS, H => by
    refine ⟨fun h => (by rw [h] at hr; cases hr), fun j hj => ?_⟩
    by_cases hji : j = i
    · subst hji; exact hy.wpOp hi hS ⟨hS, H⟩
    · have h0 := ready_mono hj hji
      rw [H.1] at h0; cases h0
  | fuel + 1, listed, a, w, hfree, hr, hy, hS, H => by
    refine ⟨fun h => (by rw [h] at hr; cases hr), fun j hj => ?_⟩
    by_cases hji : j = i
    · subst hji; exact hy.wpOp hi hS ⟨hS, H⟩
    · obtain ⟨hju, oj, hoj, hall⟩ := mem_ready.1 hj
      have hno : ∀ e ∈ oj.after, Region.binds md e = true → e.on ≠ i := fun e he hb q => by
        have g1 := hall e he hb
        have g2 := (mem_ready.1 hr).1
        rw [q] at g1
        by_cases hl : i < listed.size
        · simp [hl] at g1 g2; rw [g1] at g2; cases g2
        · simp [Array.getElem?_eq_none (Nat.le_of_not_lt hl)] at g1
      have h2 := Stays.swap hoj (hfree j oj hoj hji hju hno) (fun cs b => hsel i oi cs b hi) (fun cs b => hsel j oj cs b hoj) hQ hy (H.2 j (ready_mono hj hji))
      refine wpOp_mono (fun a' w' h3 => ⟨h3.2.1, Stays.first hi hsel hQ fuel (listed.setIfInBounds j true) a' w' (fun k ok hk hki hun hn => hfree k ok hk hki ?_ hn) (ready_mono hr (Ne.symm hji)) h3.1 h3.2.1 ?_⟩) h2
      · by_cases hjk : j = k
        · subst hjk; exact hju
        · rw [getD_set_ne true hjk] at hun; exact hun
      · rw [Array.setIfInBounds_comm _ _ hji]; exact h3.2.2
/-- The operations one by one, each of which stays. -/
def wpStay (P : Program) (ops : Array Oper) (S : World → Prop) (F : Act → Prop) : List Oper → Act → Prop
  | [], a => F a
  | o :: r, a => ∃ v, Stays P ops S o v a ∧ wpStay P ops S F r (a.put o.dst v)
def Region.headB (md : Region.Mode) (ops : Array Oper) : Nat → Nat → Array Bool → Bool
  | 0, _, _ => true
  | f + 1, k, listed => (Region.ready md ops listed).contains k && Region.free md ops listed k && headB md ops f (k + 1) (listed.setIfInBounds k true)
def Region.headL : Nat → Nat → Array Bool → Array Bool
  | 0, _, listed => listed
  | f + 1, k, listed => headL f (k + 1) (listed.setIfInBounds k true)
theorem wpAnyH_stay (hs : Region.noSelect ops = true) (hQ : ∀ d v c a w, Q (.panic c) (Act.put a d v) w → Q (.panic c) a w) {g : Nat} {w : World} : ∀ (l : List Oper) (k : Nat) (listed : Array Bool) (a : Act), (∀ j, j < l.length → l[j]? = ops[k + j]?) →
    Region.headB md ops l.length k listed = true → S w → wpStay P ops S (fun a' => wpAnyH P md ops Q S g (Region.headL l.length k listed) a' w) l a → wpAnyH P md ops Q S (l.length + g) listed a w
  | [], k, listed, a, _, _, _, h => by rw [List.length_nil, Nat.zero_add]; exact h
  | o :: l, k, listed, a, hl, hB, hS, h => by
    have h0 : ops[k]? = some o := by simpa using (hl 0 (by simp)).symm
    simp only [List.length_cons, Region.headB, Bool.and_eq_true] at hB
    obtain ⟨v, hv, h'⟩ := h
    rw [show (o :: l).length + g = (l.length + g) + 1 by simp; omega]
    exact Stays.first h0 (Region.noSelect_spec hs) (hQ _ _) _ _ _ _ (Region.free_spec h0 hB.1.2) (by simpa using hB.1.1) hv hS
      (wpAnyH_stay hs hQ l (k + 1) _ _ (fun j hj => by have := hl (j + 1) (by simp; omega); simpa [Nat.add_assoc, Nat.add_comm 1 j] using this) hB.2 hS h')
/-- No call of a Go function, and nothing but a value comes of it. -/
def plainOp : Op → Bool
  | .move _ | .assign _ | .pick .. | .build .. | .load .. | .binOp .. | .unOp .. | .fieldAddr .. | .indexAddr .. | .extract .. | .convert .. => true
  | .call c => match c.callee with
    | .builtin .len => true
    | _ => false
  | _ => false
theorem run_v {s : Sem Value} {w : World} {r : Result Next} (h : (do pure (Next.value (← s)) : Sem Next).run P w = r) : (∃ v w', r = .ok (.value v) w') ∨ ∃ x w', r = .halt x w' := by
  subst h
  rw [Sem.run_bind]
  cases s.run P w with
  | ok v w' => exact .inl ⟨v, w', rfl⟩
  | halt x w' => exact .inr ⟨x, w', rfl⟩
theorem stays_of_quiet {o : Oper} {a : Act} {w : World} {v : Value} (hp : ∀ f args w', (execOp a.eval o).run P w ≠ .ok (.enter f args) w') (h : o.quietAt P a S w v) : o.quietAt P a (fun x => x = w) w v := by
  unfold Oper.quietAt at *
  generalize (execOp a.eval o).run P w = r at *
  match r, h with
  | .ok (.value u) w', h => exact h
  | .ok .skip w', h => exact h
  | .ok (.enter f args) w', h => exact absurd rfl (hp f args w')
theorem plain_noEnter {o : Oper} {a : Act} {w : World} (hp : plainOp o.op = true) : ∀ f args w', (execOp a.eval o).run P w ≠ .ok (.enter f args) w' := by
  intro f args w' h
  have key : ∀ {s : Sem Value}, (do pure (Next.value (← s)) : Sem Next).run P w = .ok (.enter f args) w' → False := fun h => by
    rcases run_v h with ⟨v, w2, q⟩ | ⟨x, w2, q⟩ <;> cases q
  unfold execOp at h
  unfold plainOp at hp
  revert hp h
  cases o.op with
  | pick c x y =>
    intro _ h
    replace h : (do let b ← asBool (a.eval c); pure (Next.value (if b = true then a.eval x else a.eval y)) : Sem Next).run P w = .ok (.enter f args) w' := h
    rw [Sem.run_bind] at h
    cases hq : (asBool (a.eval c)).run P w with
    | ok b w2 => rw [hq] at h; cases h
    | halt x w2 => rw [hq] at h; cases h
  | call c =>
    intro hp h
    obtain ⟨callee, cargs, cts⟩ := c
    cases callee with
    | builtin b =>
      cases b with
      | len => exact key h
      | _ => cases hp
    | _ => cases hp
  | _ => intro hp h; first | exact key h | (cases h; done) | (cases hp; done)
theorem wpStay_quiet {F : Act → Prop} : ∀ (n : Nat) (l : List Oper) (a : Act), (l.take n).all (fun o => plainOp o.op) = true → wpQuiet P ops S (fun a' => wpStay P ops S F (l.drop n) a') (l.take n) a → wpStay P ops S F l a
  | 0, l, a, _, h => h
  | n + 1, [], a, _, h => h
  | n + 1, o :: l, a, hp, h => by
    simp only [List.take_succ_cons, List.drop_succ_cons, List.all_cons, Bool.and_eq_true] at hp h
    unfold wpQuiet at h
    by_cases hw : Region.wanted o (yielded ops a.tmps) = true
    · rw [if_pos hw] at h
      obtain ⟨v, hv, h'⟩ := h
      exact ⟨v, .inl ⟨hw, fun w hw' => stays_of_quiet (plain_noEnter hp.1) (hv w hw')⟩, wpStay_quiet n l _ hp.2 h'⟩
    · rw [if_neg hw] at h
      exact ⟨undef, .inr ⟨by simpa using hw, rfl⟩, wpStay_quiet n l _ hp.2 h⟩
theorem wpStay_call {F : Act → Prop} {o : Oper} {l : List Oper} {a : Act} (v : Value) (hw : Region.wanted o (yielded ops a.tmps) = true) (h : ∀ w, S w → o.quietAt P a (fun x => x = w) w v)
    (h' : wpStay P ops S F l (a.put o.dst v)) : wpStay P ops S F (o :: l) a := ⟨v, .inl ⟨hw, h⟩, h'⟩
/-- The beginning: the first n operations stay. -/
theorem wp_region_stay {id : Nat} {a : Act} {w : World} {l : List Oper} (n : Nat) (hm : P.follows .mixedOrders = true) (hn : n ≤ l.length) (hs : Region.noSelect l.toArray = true) (hB : Region.headB .any l.toArray n 0 (Array.replicate l.length false) = true) (hS : S w.drew)
    (h : wpStay P l.toArray S (fun a' => wpAnyH P .any l.toArray (NoPanic Q) S (l.length - n) (Region.headL n 0 (Array.replicate l.length false)) a' w.drew) (l.take n) a) : (Code.region id l.toArray true).wp P Q a w := by
  refine wp_region_noPanic (wp_region_held (S := S) hm ?_)
  have hl : (l.take n).length = n := by simp; omega
  have := wpAnyH_stay (md := .any) (Q := NoPanic Q) (S := S) (g := l.length - n) (w := w.drew) hs (fun _ _ _ _ _ h => h) (l.take n) 0 (Array.replicate l.length false) a (fun j hj => by simp [hl] at hj; simp [hj]) (by rw [hl]; exact hB) hS (by rw [hl]; exact h)
  rw [hl, show n + (l.length - n) = l.length by omega] at this
  exact this
theorem wpStay_nil {F : Act → Prop} {a : Act} (h : F a) : wpStay P ops S F [] a := h
/-- One operation that makes memory, or calls what does. -/
theorem wpAnyH_one {g : Nat} {listed : Array Bool} {a : Act} {w : World} (k : Nat) {o : Oper} (hr : Region.ready md ops listed = [k]) (ho : ops[k]? = some o)
    (h : ∀ K' : Act → World → Prop, Shut (∀ a w, S w → (S w → wpAnyH P md ops Q S g (listed.setIfInBounds k true) a w) → K' a w) → if Region.wanted o (yielded ops a.tmps) = true then Oper.wp P o a w K' Q else K' (a.put o.dst undef) w) : wpAnyH P md ops Q S (g + 1) listed a w :=
  wpAnyH_ready hr (by simp) (AllReadyH.cons ho h AllReadyH.nil)
end
end Go.Pin
