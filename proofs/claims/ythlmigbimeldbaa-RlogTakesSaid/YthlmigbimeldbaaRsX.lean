/- The law's rising: a log whose terms do not fall. -/
import Derived.Test.YthlmigbimeldbaaRsW
set_option maxRecDepth 16000
namespace Go.Pin
open Go.RowKit
set_option linter.unusedVariables false
set_option linter.unusedSimpArgs false
theorem enCells_set : ∀ (L : List En) (k : Nat) (e e' : En) (i : Nat) (v : Value), L[k]? = some e → i < 11 → e'.cells.toList = e.cells.toList.set i v → enCells (L.set k e') = (enCells L).set (k * 11 + i) v
  | [], k, e, e', i, v, h, _, _ => by simp at h
  | x :: L, 0, e, e', i, v, h, hi, he => by
    simp at h; subst h
    show e'.cells.toList ++ enCells L = (x.cells.toList ++ enCells L).set (0 * 11 + i) v
    rw [Nat.zero_mul, Nat.zero_add, List.set_append, if_pos (by show i < 11; exact hi), he]
  | x :: L, k + 1, e, e', i, v, h, hi, he => by
    show x.cells.toList ++ enCells (L.set k e') = (x.cells.toList ++ enCells L).set ((k + 1) * 11 + i) v
    have hl : x.cells.toList.length = 11 := rfl
    rw [enCells_set L k e e' i v (by simpa using h) hi he, List.set_append, if_neg (by omega), hl, show (k + 1) * 11 + i - 11 = k * 11 + i by omega]
theorem ownE_set {w : World} {N T : Nat} {g n c : Nat} {L : List En} (h : OwnE w N T (.slice (some ⟨g, 0, none⟩) n c) L) (k : Nat) (e e' : En) (i : Nat) (v : Value) (he : L[k]? = some e) (hi : i < 11) (hs : e'.cells.toList = e.cells.toList.set i v) :
    OwnE (w.setCell ⟨g, k * 11 + i, none⟩ v) N T (.slice (some ⟨g, 0, none⟩) n c) (L.set k e') := by
  have hk : k < L.length := (List.getElem?_eq_some_iff.1 he).1
  refine ⟨by rw [enCells_len], ?_⟩
  rcases h.2 with ⟨q, _⟩ | ⟨g', cap, cur, hv, hb, hg, hn, hc, hz, ht⟩
  · cases q
  · have hv' := hv
    simp only [Value.slice.injEq, Option.some.injEq, Addr.mk.injEq] at hv'
    obtain ⟨⟨rfl, _⟩, rfl, rfl⟩ := hv'
    refine .inr ⟨g, c, cur.setIfInBounds (k * 11 + i) v, by rw [List.length_set], hb, Go.heap_setCell_same w g _ cur T v hg, by rw [List.length_set]; exact hn, hc, by simpa using hz, ?_⟩
    rw [List.length_set, enCells_set L k e e' i v he hi hs, ← ht, Array.toList_setIfInBounds, List.take_set]
theorem ownE_frozen {w : World} {N T : Nat} {g n c : Nat} {L : List En} (h : OwnE w N T (.slice (some ⟨g, 0, none⟩) n c) L) (j : Nat) : w.frozen? ⟨g, j, none⟩ = false := by
  rcases h.2 with ⟨q, _⟩ | ⟨g', cap, cur, hv, hb, hg, hn, hc, hz, ht⟩
  · cases q
  · simp only [Value.slice.injEq, Option.some.injEq, Addr.mk.injEq] at hv
    obtain ⟨⟨rfl, _⟩, _⟩ := hv
    simp [World.frozen?, hg]
/-- Terms that do not fall. -/
def lgRise : Int → List En → List En
  | _, [] => []
  | t, e :: r => { e with term := t + e.term % 3 / 2 } :: lgRise (t + e.term % 3 / 2) r
def lgTop (t : Int) (L : List En) : Int := L.foldl (fun t e => t + e.term % 3 / 2) t
theorem lgRise_app : ∀ (A B : List En) (t : Int), lgRise t (A ++ B) = lgRise t A ++ lgRise (lgTop t A) B
  | [], B, t => rfl
  | e :: A, B, t => by
    show _ :: lgRise _ (A ++ B) = _
    rw [lgRise_app A B]; rfl
theorem lgRise_len : ∀ (A : List En) (t : Int), (lgRise t A).length = A.length
  | [], t => rfl
  | e :: A, t => by show (lgRise _ A).length + 1 = _; rw [lgRise_len A]; rfl
theorem lgRise_snoc (L : List En) (k : Nat) (e : En) (t : Int) (h : L[k]? = some e) : lgRise t (L.take (k + 1)) = lgRise t (L.take k) ++ [{ e with term := lgTop t (L.take k) + e.term % 3 / 2 }] := by
  rw [List.take_add_one, h, lgRise_app]; rfl
theorem lgTop_snoc (L : List En) (k : Nat) (e : En) (t : Int) (h : L[k]? = some e) : lgTop t (L.take (k + 1)) = lgTop t (L.take k) + e.term % 3 / 2 := by
  rw [List.take_add_one, h]; unfold lgTop; rw [List.foldl_append]; rfl
theorem lgTop_le : ∀ (L : List En) (t : Int), t ≤ lgTop t L ∧ lgTop t L ≤ t + L.length
  | [], t => ⟨Int.le_refl _, by simp [lgTop]⟩
  | e :: L, t => by
    have h := lgTop_le L (t + e.term % 3 / 2)
    have h2 : lgTop t (e :: L) = lgTop (t + e.term % 3 / 2) L := rfl
    rw [h2]
    constructor
    · omega
    · simp only [List.length_cons]; omega
/-- What rising makes. -/
def lgRising (M : List (En × Bool)) (base term : Int) (most : Nat) : Lg := ⟨base % 100, term % 3, lgRise (max (term % 3) 1) (lgLogged (base % 100) (M.take most))⟩
/-- The entries at round k: those ahead have risen. -/
theorem rise_step (L : List En) (k : Nat) (e : En) (t : Int) (h : L[k]? = some e) :
    (lgRise t (L.take k) ++ L.drop k)[k]? = some e ∧ (lgRise t (L.take k) ++ L.drop k).set k { e with term := lgTop t (L.take k) + e.term % 3 / 2 } = lgRise t (L.take (k + 1)) ++ L.drop (k + 1) := by
  have hk : k < L.length := (List.getElem?_eq_some_iff.1 h).1
  have hl : (lgRise t (L.take k)).length = k := by rw [lgRise_len, List.length_take]; omega
  have hd : L.drop k = e :: L.drop (k + 1) := by
    rw [List.drop_eq_getElem_cons hk]
    rw [List.getElem?_eq_getElem hk] at h
    simp at h; rw [h]
  constructor
  · rw [List.getElem?_append_right (by omega), hl, hd]; simp
  · rw [List.set_append, if_neg (by omega), hl, hd, lgRise_snoc L k e t h]; simp
end Go.Pin
