/- history: plain laws of Do, Right, Order. -/
import Derived.Test.YtnilfjkodlmenaaDoorHiN
set_option maxRecDepth 16000
namespace Go.Pin
open Go.RowKit
set_option linter.unusedVariables false
set_option linter.unusedSimpArgs false
/-- Blocks that may be. -/
structure HBlk (B : List ByteArray) : Prop where
  all : ∀ s ∈ B, s.size = 64
  len : B.length ≤ 128
theorem HBlk.nil : HBlk [] := ⟨fun s h => absurd h (List.not_mem_nil), by decide⟩
theorem hWhole_size (s : ByteArray) (h : s.size ≤ 64) : (hWhole s).size = 64 := by
  show (hWhole s).data.size = 64
  unfold hWhole
  have h2 : s.data.toList.length = s.size := rfl
  rw [List.size_toArray, List.length_append, List.length_replicate, h2]
  omega
theorem hdo_blk {B : List ByteArray} (h : HBlk B) (x : HOp) : HBlk (hdo B x).1 := by
  unfold hdo
  split
  · exact h
  · rename_i h1
    split
    · exact h
    · rename_i h2
      split
      · exact h
      · split
        · refine ⟨fun s hs => ?_, by rw [List.length_mapIdx]; exact h.len⟩
          obtain ⟨i, hi, rfl⟩ := List.mem_mapIdx.1 hs
          split
          · exact hWhole_size _ (by decide)
          · exact h.all _ (List.getElem_mem _)
        · split
          · refine ⟨fun s hs => ?_, ?_⟩
            · rcases List.mem_append.1 hs with q | q
              · exact h.all _ (List.mem_of_mem_take q)
              · rw [(List.mem_replicate.1 q).2]; exact hWhole_size _ (by decide)
            · rename_i h3
              have : ¬ 128 < x.e.many := fun q => h2 (.inr (.inr ⟨h3, q⟩))
              rw [List.length_append, List.length_take, List.length_replicate]
              omega
          · split
            · exact h
            · refine ⟨fun s hs => ?_, by rw [List.length_set]; exact h.len⟩
              rcases List.mem_or_eq_of_mem_set hs with q | q
              · exact h.all _ q
              · rw [q]
                exact hWhole_size _ (by have := fun q => h1 (.inr (.inl q)); omega)
/-- What can't be in a history. -/
def hBad (o : HOp) : Bool := !hKnown o.e.kind || decide (64 < o.e.data.size) || decide (64 < o.e.old.size) || (decide (o.stop ≠ 0) && decide (o.stop ≤ o.start))
def hRight (L : List HOp) : Bool := decide (L.length ≤ 10) && L.all fun o => !hBad o
def hOrder (L : List HOp) : Option (List Nat) := if hRight L then hs L L.length 0 [] else none
theorem hLeft_none (n : Nat) : hLeft n 0 = n := by
  induction n with
  | zero => rfl
  | succ n ih => rw [hLeft_succ, ih, Nat.zero_testBit]; rfl
/-- Has it an order? -/
theorem hOrder_iff (L : List HOp) (hr : hRight L = true) : (hOrder L).isSome = true ↔ ∃ r, hFits L 0 [] r := by
  unfold hOrder
  rw [if_pos hr]
  constructor
  · intro h
    obtain ⟨r, hr⟩ := Option.isSome_iff_exists.1 h
    exact ⟨r, hs_fits L _ _ _ _ hr⟩
  · rintro ⟨r, h⟩
    obtain ⟨r', h'⟩ := hs_full L r L.length 0 [] h (by have := fits_left L r 0 [] h; rw [hLeft_none] at this; exact this)
    rw [h']; rfl
theorem hAt_mem (L : List HOp) (k : Nat) (hk : k < L.length) : hAt L k ∈ L := by
  unfold hAt
  rw [List.getD_eq_getElem?_getD, List.getElem?_eq_getElem hk]
  exact List.getElem_mem hk
/-! ### Later, and told the other way round -/
/-- Two histories whose ops, each at its place, are the same but for their times, and these stand alike. -/
structure HAlike (L M : List HOp) (σ : Nat → Nat) : Prop where
  len : M.length = L.length
  into : ∀ k, k < L.length → σ k < L.length
  inj : ∀ j k, j < L.length → k < L.length → σ j = σ k → j = k
  onto : ∀ j, j < L.length → ∃ k, k < L.length ∧ σ k = j
  e : ∀ k, k < L.length → (hAt M (σ k)).e = (hAt L k).e ∧ (hAt M (σ k)).re = (hAt L k).re ∧ (hAt M (σ k)).rd = (hAt L k).rd
  over : ∀ k, k < L.length → ((hAt M (σ k)).stop = 0 ↔ (hAt L k).stop = 0)
  lt : ∀ j k, j < L.length → k < L.length → (hAt L k).stop ≠ 0 → ((hAt M (σ j)).start < (hAt M (σ k)).stop ↔ (hAt L j).start < (hAt L k).stop)
theorem hover_alike {L M : List HOp} {σ : Nat → Nat} (h : HAlike L M σ) {d e : Nat} (hd : ∀ k, k < L.length → e.testBit (σ k) = d.testBit k) (ho : hOver L d = true) : hOver M e = true := by
  unfold hOver at *
  rw [List.all_eq_true] at *
  intro j hj
  rw [List.mem_range, h.len] at hj
  obtain ⟨k, hk, rfl⟩ := h.onto j hj
  have h1 := ho k (List.mem_range.2 hk)
  rw [Bool.or_eq_true] at *
  rcases h1 with q | q
  · exact .inl (decide_eq_true ((h.over k hk).2 (of_decide_eq_true q)))
  · exact .inr (by rw [hd k hk]; exact q)
theorem hmay_alike {L M : List HOp} {σ : Nat → Nat} (h : HAlike L M σ) {d e : Nat} (hd : ∀ k, k < L.length → e.testBit (σ k) = d.testBit k) {i : Nat} (hi : i < L.length) (ho : hMay L d i = true) : hMay M e (σ i) = true := by
  unfold hMay at *
  rw [Bool.and_eq_true] at *
  refine ⟨?_, by rw [hd i hi]; exact ho.2⟩
  have h0 := ho.1
  rw [List.all_eq_true] at *
  intro j hj
  rw [List.mem_range, h.len] at hj
  obtain ⟨k, hk, rfl⟩ := h.onto j hj
  have h1 := h0 k (List.mem_range.2 hk)
  simp only [Bool.or_eq_true, decide_eq_true_eq] at *
  by_cases hz : (hAt L k).stop = 0
  · exact .inl (.inl (.inr ((h.over k hk).2 hz)))
  · rcases h1 with ((q | q) | q) | q
    · exact .inl (.inl (.inl (by rw [q])))
    · exact absurd q hz
    · exact .inl (.inr (by rw [hd k hk]; exact q))
    · exact .inr ((h.lt i k hi hk hz).2 q)
theorem hdo_alike (B : List ByteArray) (x y : HOp) (h : x.e = y.e) : hdo B x = hdo B y := by
  unfold hdo
  rw [h]
theorem htold_alike {L M : List HOp} {σ : Nat → Nat} (h : HAlike L M σ) (B : List ByteArray) {i : Nat} (hi : i < L.length) (ho : hTold B (hAt L i) = true) : hTold B (hAt M (σ i)) = true := by
  unfold hTold at *
  rw [Bool.or_eq_true] at *
  obtain ⟨h1, h2, h3⟩ := h.e i hi
  rcases ho with q | q
  · exact .inl (decide_eq_true ((h.over i hi).2 (of_decide_eq_true q)))
  · right
    rw [hdo_alike B _ _ h1, h2, h3]
    exact q
theorem hfits_alike {L M : List HOp} {σ : Nat → Nat} (h : HAlike L M σ) : ∀ (r : List Nat) (d e : Nat) (B : List ByteArray), (∀ k, k < L.length → e.testBit (σ k) = d.testBit k) → hFits L d B r → hFits M e B (r.map σ)
  | [], d, e, B, hd, hf => hover_alike h hd hf
  | i :: r, d, e, B, hd, hf => by
    obtain ⟨h1, h2, h3, h4⟩ := hf
    refine ⟨by rw [h.len]; exact h.into i h1, hmay_alike h hd h1 h2, htold_alike h B h1 h3, ?_⟩
    rw [hdo_alike B _ _ (h.e i h1).1]
    refine hfits_alike h r _ _ _ (fun k hk => ?_) h4
    rw [bit_or, bit_or, hd k hk]
    congr 1
    by_cases q : i = k
    · rw [decide_eq_true q, decide_eq_true (by rw [q])]
    · rw [decide_eq_false q, decide_eq_false (fun q2 => q (h.inj i k h1 hk q2))]
theorem findSome_congr {α β : Type} {f g : α → Option β} : ∀ (l : List α), (∀ k ∈ l, f k = g k) → l.findSome? f = l.findSome? g
  | [], _ => rfl
  | x :: l, h => by
    rw [List.findSome?_cons, List.findSome?_cons, h x (List.mem_cons_self ..), findSome_congr l (fun k hk => h k (List.mem_cons_of_mem _ hk))]
/-- At their places: the same order is found. -/
theorem hs_alike {L M : List HOp} (h : HAlike L M id) (h' : HAlike M L id) : ∀ (f d : Nat) (B : List ByteArray), hs M f d B = hs L f d B := by
  have hov : ∀ d, hOver M d = hOver L d := fun d => by
    rw [Bool.eq_iff_iff]
    exact ⟨fun q => hover_alike h' (fun _ _ => rfl) q, fun q => hover_alike h (fun _ _ => rfl) q⟩
  intro f
  induction f with
  | zero =>
    intro d B
    rw [hs_eq, hs_eq L, hov]
  | succ f ih =>
    intro d B
    rw [hs_eq, hs_eq L, hov]
    dsimp only
    split
    · rfl
    · rw [h.len]
      have key : ∀ k ∈ List.range L.length, (fun k => if (hMay M d k && hTold B (hAt M k)) = true then (hs M f (d ||| 1 <<< k) (hdo B (hAt M k)).1).map (k :: ·) else none) k = (fun k => if (hMay L d k && hTold B (hAt L k)) = true then (hs L f (d ||| 1 <<< k) (hdo B (hAt L k)).1).map (k :: ·) else none) k := by
        intro k hk
        have hk' := List.mem_range.1 hk
        have hm : hMay M d k = hMay L d k := by
          rw [Bool.eq_iff_iff]
          exact ⟨fun q => hmay_alike h' (σ := id) (fun _ _ => rfl) (by rw [h.len]; exact hk') q, fun q => hmay_alike h (σ := id) (fun _ _ => rfl) hk' q⟩
        have ht : hTold B (hAt M k) = hTold B (hAt L k) := by
          rw [Bool.eq_iff_iff]
          exact ⟨fun q => htold_alike h' (σ := id) B (by rw [h.len]; exact hk') q, fun q => htold_alike h (σ := id) B hk' q⟩
        dsimp only
        rw [hm, ht, ih, hdo_alike B (hAt M k) (hAt L k) (h.e k hk').1]
      exact findSome_congr _ key
end Go.Pin
