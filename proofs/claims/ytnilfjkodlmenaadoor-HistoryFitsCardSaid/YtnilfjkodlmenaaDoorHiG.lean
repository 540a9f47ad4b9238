/- history: the law's raw ops: opened; what becomes of them, in words. -/
import Derived.Test.YtnilfjkodlmenaaDoorHiP
import Derived.Test.YtnilfjkodlmenaaDoorOpens
import Derived.Test.YtnilfjkodlmenaaDoorHiW
import Derived.OpenShut
set_option maxRecDepth 16000
namespace Go.Pin
open Go.RowKit
set_option linter.unusedVariables false
set_option linter.unusedSimpArgs false
structure HRaw where
  o : HOp
  kind : Int
  block : Int
  many : Int
  data : Int
  old : Int
  start : Int
  long : Int
  after : Int
structure HRaw.ok (r : HRaw) : Prop where
  o : r.o.ok
  kind : 0 ≤ r.kind ∧ r.kind ≤ 255
  block : 0 ≤ r.block ∧ r.block ≤ 255
  many : 0 ≤ r.many ∧ r.many ≤ 255
  data : 0 ≤ r.data ∧ r.data ≤ 255
  old : 0 ≤ r.old ∧ r.old ≤ 255
  start : 0 ≤ r.start ∧ r.start ≤ 255
  long : 0 ≤ r.long ∧ r.long ≤ 255
  after : 0 ≤ r.after ∧ r.after ≤ 255
abbrev HRaw.cells (r : HRaw) : Array Value := #[.int .u64 r.o.e.term, .int .u64 r.o.e.index, .int .i64 r.o.e.kind, .int .u64 r.o.e.client, .int .u64 r.o.e.seq, .int .u64 r.o.e.block, .int .u64 r.o.e.many, .int .i64 r.o.e.node, .int .i64 r.o.e.level, .string r.o.e.data, .string r.o.e.old, .int .u64 r.o.start, .int .u64 r.o.stop, .int .i64 r.o.re, .string r.o.rd, .int .u8 r.kind, .int .u8 r.block, .int .u8 r.many, .int .u8 r.data, .int .u8 r.old, .int .u8 r.start, .int .u8 r.long, .int .u8 r.after]
/-- Raw ops in a slice. -/
structure RawsAt (w : World) (a : Option Addr) (len : Nat) (R : List HRaw) : Prop where
  len : R.length = len
  ok : ∀ r ∈ R, r.ok
  at' : ∀ j r, R[j]? = some r → ∃ A o, a = some ⟨A, o, none⟩ ∧ ∀ (i : Nat) v, r.cells.toList[i]? = some v → w.cell? ⟨A, o + j * 23 + i, none⟩ = some v
theorem RawsAt.keep {S : Nat → Prop} {a w : World} {p : Option Addr} {n : Nat} {R : List HRaw} (h : RawsAt a p n R) (hk : Keep S a w) (hS : ∀ A o, p = some ⟨A, o, none⟩ → A < a.heap.size → ¬ S A) : RawsAt w p n R :=
  ⟨h.len, h.ok, fun j r hr => by
    obtain ⟨A, o, q, h1⟩ := h.at' j r hr
    exact ⟨A, o, q, fun i v hv => hk.cell (h1 i v hv) (hS A o q (World.block_lt_of_cell? _ _ (h1 i v hv)))⟩⟩
abbrev rawPs : List Pred := [isInt .u64, isInt .u64, isInt .i64, isInt .u64, isInt .u64, isInt .u64, isInt .u64, isInt .i64, isInt .i64, isStr, isStr, isInt .u64, isInt .u64, isInt .i64, isStr, isInt .u8, isInt .u8, isInt .u8, isInt .u8, isInt .u8, isInt .u8, isInt .u8, isInt .u8]
theorem raws_of_slice {W : World} {a : Option Addr} {len cap : Nat} (h : isSlice rawPs W (.slice a len cap)) : ∃ R, RawsAt W a len R ∧ len ≤ cap := by
  obtain ⟨a', len', cap', q, h1, h2, h3⟩ := h
  simp only [Value.slice.injEq] at q
  obtain ⟨rfl, rfl, rfl⟩ := q
  have key : ∀ i, i < len → ∃ r : HRaw, r.ok ∧ ∃ A o, a = some ⟨A, o, none⟩ ∧ ∀ (j : Nat) v, r.cells.toList[j]? = some v → W.cell? ⟨A, o + i * 23 + j, none⟩ = some v := by
    intro i hi
    obtain ⟨A, o, rfl, hc⟩ := h3 (by omega)
    have g := hc i hi
    obtain ⟨_, e0, n0, rfl, w0⟩ := g 0 _ rfl
    obtain ⟨_, e1, n1, rfl, w1⟩ := g 1 _ rfl
    obtain ⟨_, e2, n2, rfl, w2⟩ := g 2 _ rfl
    obtain ⟨_, e3, n3, rfl, w3⟩ := g 3 _ rfl
    obtain ⟨_, e4, n4, rfl, w4⟩ := g 4 _ rfl
    obtain ⟨_, e5, n5, rfl, w5⟩ := g 5 _ rfl
    obtain ⟨_, e6, n6, rfl, w6⟩ := g 6 _ rfl
    obtain ⟨_, e7, n7, rfl, w7⟩ := g 7 _ rfl
    obtain ⟨_, e8, n8, rfl, w8⟩ := g 8 _ rfl
    obtain ⟨_, e9, n9, rfl, w9⟩ := g 9 _ rfl
    obtain ⟨_, e10, n10, rfl, w10⟩ := g 10 _ rfl
    obtain ⟨_, e11, n11, rfl, w11⟩ := g 11 _ rfl
    obtain ⟨_, e12, n12, rfl, w12⟩ := g 12 _ rfl
    obtain ⟨_, e13, n13, rfl, w13⟩ := g 13 _ rfl
    obtain ⟨_, e14, n14, rfl, w14⟩ := g 14 _ rfl
    obtain ⟨_, e15, n15, rfl, w15⟩ := g 15 _ rfl
    obtain ⟨_, e16, n16, rfl, w16⟩ := g 16 _ rfl
    obtain ⟨_, e17, n17, rfl, w17⟩ := g 17 _ rfl
    obtain ⟨_, e18, n18, rfl, w18⟩ := g 18 _ rfl
    obtain ⟨_, e19, n19, rfl, w19⟩ := g 19 _ rfl
    obtain ⟨_, e20, n20, rfl, w20⟩ := g 20 _ rfl
    obtain ⟨_, e21, n21, rfl, w21⟩ := g 21 _ rfl
    obtain ⟨_, e22, n22, rfl, w22⟩ := g 22 _ rfl
    refine ⟨⟨⟨⟨n0, n1, n2, n3, n4, n5, n6, n7, n8, n9, n10⟩, n11, n12, n13, n14⟩, n15, n16, n17, n18, n19, n20, n21, n22⟩, ⟨⟨Go.bounds_i64 w2, Go.bounds_u64 w5, Go.bounds_u64 w6, by dsimp only; omega, by dsimp only; omega, Go.bounds_u64 w11, Go.bounds_u64 w12, Go.bounds_i64 w13, by dsimp only; omega⟩, Go.bounds_u8 w15, Go.bounds_u8 w16, Go.bounds_u8 w17, Go.bounds_u8 w18, Go.bounds_u8 w19, Go.bounds_u8 w20, Go.bounds_u8 w21, Go.bounds_u8 w22⟩, A, o, rfl, fun j v hv => ?_⟩
    have hj : j < 23 := (List.getElem?_eq_some_iff.1 hv).1
    have : j = 0 ∨ j = 1 ∨ j = 2 ∨ j = 3 ∨ j = 4 ∨ j = 5 ∨ j = 6 ∨ j = 7 ∨ j = 8 ∨ j = 9 ∨ j = 10 ∨ j = 11 ∨ j = 12 ∨ j = 13 ∨ j = 14 ∨ j = 15 ∨ j = 16 ∨ j = 17 ∨ j = 18 ∨ j = 19 ∨ j = 20 ∨ j = 21 ∨ j = 22 := by omega
    rcases this with rfl | rfl | rfl | rfl | rfl | rfl | rfl | rfl | rfl | rfl | rfl | rfl | rfl | rfl | rfl | rfl | rfl | rfl | rfl | rfl | rfl | rfl | rfl
    · cases hv; exact e0
    · cases hv; exact e1
    · cases hv; exact e2
    · cases hv; exact e3
    · cases hv; exact e4
    · cases hv; exact e5
    · cases hv; exact e6
    · cases hv; exact e7
    · cases hv; exact e8
    · cases hv; exact e9
    · cases hv; exact e10
    · cases hv; exact e11
    · cases hv; exact e12
    · cases hv; exact e13
    · cases hv; exact e14
    · cases hv; exact e15
    · cases hv; exact e16
    · cases hv; exact e17
    · cases hv; exact e18
    · cases hv; exact e19
    · cases hv; exact e20
    · cases hv; exact e21
    · cases hv; exact e22
  have key2 : ∀ i : Fin len, ∃ r : HRaw, r.ok ∧ ∃ A o, a = some ⟨A, o, none⟩ ∧ ∀ (j : Nat) v, r.cells.toList[j]? = some v → W.cell? ⟨A, o + i.1 * 23 + j, none⟩ = some v := fun i => key i.1 i.2
  refine ⟨List.ofFn fun i => Classical.choose (key2 i), ⟨by simp, fun x hx => ?_, fun j x hx => ?_⟩, h1⟩
  · rw [List.mem_ofFn] at hx
    obtain ⟨i, rfl⟩ := hx
    exact (Classical.choose_spec (key2 i)).1
  · have hj : j < len := by have := (List.getElem?_eq_some_iff.1 hx).1; simpa using this
    rw [List.getElem?_ofFn] at hx
    simp only [hj, ↓reduceDIte, Option.some.injEq] at hx
    subst hx
    exact (Classical.choose_spec (key2 ⟨j, hj⟩)).2
/-! ### What becomes of one -/
def rkind (k : Int) : Int := if k % 7 ≤ 1 then 1 else if k % 7 = 2 then 2 else if k % 7 = 3 then 3 else if k % 7 = 4 then 11 else 100
def rtext (k : Int) : ByteArray := if k % 3 = 0 then ⟨#[]⟩ else if k % 3 = 1 then ⟨#[97]⟩ else ⟨#[98]⟩
def rstop (r : HRaw) : Int := if 0 < r.long % 8 then r.start % 12 + r.long % 8 else 0
def rawOp (r : HRaw) : HOp := ⟨⟨0, 0, rkind r.kind, 0, 0, r.block % 3, r.many % 4, 0, 0, rtext r.data, rtext r.old⟩, r.start % 12, rstop r, 0, ⟨#[]⟩⟩
theorem rtext_size (k : Int) : (rtext k).size ≤ 1 := by
  unfold rtext
  split
  · decide
  · split <;> decide
theorem rkind_known (k : Int) : hKnown (rkind k) = true := by
  unfold rkind
  split
  · rfl
  · split
    · rfl
    · split
      · rfl
      · split <;> rfl
theorem rkind_bounds (k : Int) : 1 ≤ rkind k ∧ rkind k ≤ 100 := by
  unfold rkind
  split
  · decide
  · split
    · decide
    · split
      · decide
      · split <;> decide
theorem rstop_bounds (r : HRaw) : 0 ≤ rstop r ∧ rstop r ≤ 18 := by
  unfold rstop
  split <;> omega
theorem rstop_after (r : HRaw) (h : rstop r ≠ 0) : r.start % 12 < rstop r := by
  unfold rstop at *
  split at h
  · rename_i q
    rw [if_pos q]; omega
  · exact absurd rfl h
/-- With whatever answer: right, and within bounds. -/
theorem raw_ok (r : HRaw) (a b e : Int) (d : ByteArray) (ha : 0 ≤ a ∧ a ≤ 1000) (hb : 0 ≤ b ∧ b ≤ 1000) (he : -9223372036854775808 ≤ e ∧ e ≤ 9223372036854775807) (hd : d.size ≤ 9223372036854775807) : HOp.ok ⟨(rawOp r).e, a, b, e, d⟩ := by
  have h1 := rkind_bounds r.kind
  have h2 := rtext_size r.data
  have h3 := rtext_size r.old
  exact ⟨by show -9223372036854775808 ≤ rkind r.kind ∧ rkind r.kind ≤ 9223372036854775807; omega, by show 0 ≤ r.block % 3 ∧ r.block % 3 ≤ 18446744073709551615; omega, by show 0 ≤ r.many % 4 ∧ r.many % 4 ≤ 18446744073709551615; omega, by show (rtext r.data).size ≤ _; omega, by show (rtext r.old).size ≤ _; omega, by show 0 ≤ a ∧ a ≤ _; omega, by show 0 ≤ b ∧ b ≤ _; omega, he, hd⟩
theorem raw_bad (r : HRaw) (a b e : Int) (d : ByteArray) (h : b = 0 ∨ a < b) : hBad ⟨(rawOp r).e, a, b, e, d⟩ = false := by
  have h2 := rtext_size r.data
  have h3 := rtext_size r.old
  have h5 : (decide (b ≠ 0) && decide (b ≤ a)) = false := by
    rcases h with h | h
    · rw [decide_eq_false (fun q => q h : ¬ b ≠ 0)]; rfl
    · rw [decide_eq_false (by omega : ¬ b ≤ a), Bool.and_false]
  unfold hBad
  show (!hKnown (rkind r.kind) || decide (64 < (rtext r.data).size) || decide (64 < (rtext r.old).size) || (decide (b ≠ 0) && decide (b ≤ a))) = false
  rw [rkind_known, decide_eq_false (by omega : ¬ 64 < (rtext r.data).size), decide_eq_false (by omega : ¬ 64 < (rtext r.old).size), h5]
  rfl
/-! ### A story -/
def storyB (B : List ByteArray) (r : HRaw) : List ByteArray := if 0 < r.after % 8 then (hdo B (rawOp r)).1 else B
def storyOp (B : List ByteArray) (r : HRaw) : HOp := if 240 < r.after then { rawOp r with re := r.o.re, rd := r.o.rd } else { rawOp r with re := (hdo B (rawOp r)).2.1, rd := (hdo B (rawOp r)).2.2 }
def hStory : List HRaw → List ByteArray → List HOp
  | [], _ => []
  | r :: l, B => storyOp B r :: hStory l (storyB B r)
def storyBs : List HRaw → List ByteArray → List ByteArray
  | [], B => B
  | r :: l, B => storyBs l (storyB B r)
theorem story_len (l : List HRaw) : ∀ B, (hStory l B).length = l.length := by
  induction l with
  | nil => intro B; rfl
  | cons r l ih => intro B; show (hStory l _).length + 1 = _; rw [ih]; rfl
theorem story_snoc (l : List HRaw) (r : HRaw) : ∀ B, hStory (l ++ [r]) B = hStory l B ++ [storyOp (storyBs l B) r] ∧ storyBs (l ++ [r]) B = storyB (storyBs l B) r := by
  induction l with
  | nil => intro B; exact ⟨rfl, rfl⟩
  | cons x l ih =>
    intro B
    have := ih (storyB B x)
    exact ⟨by show _ :: hStory (l ++ [r]) _ = _; rw [this.1]; rfl, this.2⟩
theorem storyB_blk {B : List ByteArray} (h : HBlk B) (r : HRaw) : HBlk (storyB B r) := by
  unfold storyB
  split
  · exact hdo_blk h _
  · exact h
theorem storyBs_blk (l : List HRaw) : ∀ B, HBlk B → HBlk (storyBs l B) := by
  induction l with
  | nil => intro B h; exact h
  | cons x l ih => intro B h; exact ih _ (storyB_blk h x)
/-- What Do tells: small. -/
theorem hdo_told {B : List ByteArray} (h : HBlk B) (x : HOp) : (0 ≤ (hdo B x).2.1 ∧ (hdo B x).2.1 ≤ 11) ∧ (hdo B x).2.2.size ≤ 8192 := by
  have b0 : (0 : Int) ≤ 0 ∧ (0 : Int) ≤ 11 := by decide
  have b1 : (0 : Int) ≤ 1 ∧ (1 : Int) ≤ 11 := by decide
  have b5 : (0 : Int) ≤ 5 ∧ (5 : Int) ≤ 11 := by decide
  have b11 : (0 : Int) ≤ 11 ∧ (11 : Int) ≤ 11 := by decide
  have hz : (⟨#[]⟩ : ByteArray).size ≤ 8192 := by decide
  unfold hdo
  split
  · exact ⟨b1, hz⟩
  · split
    · exact ⟨b5, hz⟩
    · split
      · refine ⟨b0, ?_⟩
        have hb : HBlk ((B.drop x.e.block.toNat).take x.e.many.toNat) := ⟨fun s hs => h.all s (List.mem_of_mem_drop (List.mem_of_mem_take hs)), by have := h.len; rw [List.length_take, List.length_drop]; omega⟩
        show (hJoin _).size ≤ 8192
        generalize (B.drop x.e.block.toNat).take x.e.many.toNat = C at hb
        have key : ∀ C : List ByteArray, (∀ s ∈ C, s.size = 64) → (hJoin C).size = 64 * C.length := by
          intro C
          induction C with
          | nil => intro _; rfl
          | cons y C ih =>
            intro hC
            show (y ++ hJoin C).size = _
            rw [ByteArray.size_append, ih (fun s hs => hC s (List.mem_cons_of_mem _ hs)), hC y (List.mem_cons_self ..), List.length_cons]
            omega
        rw [key C hb.all]
        have := hb.len
        omega
      · split
        · exact ⟨b0, hz⟩
        · split
          · exact ⟨b0, hz⟩
          · split
            · refine ⟨b11, ?_⟩
              show (B.getD x.e.block.toNat ⟨#[]⟩).size ≤ 8192
              rw [List.getD_eq_getElem?_getD]
              cases hq : B[x.e.block.toNat]? with
              | none => exact hz
              | some y =>
                have := h.all y (List.mem_of_getElem? hq)
                show y.size ≤ 8192
                omega
            · exact ⟨b0, hz⟩
theorem story_mem (l : List HRaw) (hl : ∀ r ∈ l, r.ok) : ∀ B, HBlk B → ∀ x ∈ hStory l B, ∃ r e d, x = ⟨(rawOp r).e, r.start % 12, rstop r, e, d⟩ ∧ (-9223372036854775808 ≤ e ∧ e ≤ 9223372036854775807) ∧ d.size ≤ 9223372036854775807 := by
  induction l with
  | nil => intro B _ x hx; cases hx
  | cons r l ih =>
    intro B hB x hx
    rcases List.mem_cons.1 hx with rfl | hx
    · unfold storyOp
      split
      · exact ⟨r, r.o.re, r.o.rd, rfl, (hl r (List.mem_cons_self ..)).o.re, (hl r (List.mem_cons_self ..)).o.rd⟩
      · obtain ⟨⟨h1, h2⟩, h3⟩ := hdo_told hB (rawOp r)
        exact ⟨r, _, _, rfl, ⟨by omega, by omega⟩, by omega⟩
    · exact ih (fun y hy => hl y (List.mem_cons_of_mem _ hy)) _ (storyB_blk hB r) x hx
theorem story_ok (l : List HRaw) (hl : ∀ r ∈ l, r.ok) : ∀ x ∈ hStory l [], x.ok := by
  intro x hx
  obtain ⟨r, e, d, rfl, he, hd⟩ := story_mem l hl [] HBlk.nil x hx
  exact raw_ok r _ _ e d (by omega) (by have := rstop_bounds r; omega) he hd
theorem story_right (l : List HRaw) (hl : ∀ r ∈ l, r.ok) (hn : l.length ≤ 10) : hRight (hStory l []) = true := by
  unfold hRight
  rw [Bool.and_eq_true]
  refine ⟨decide_eq_true (by rw [story_len]; exact hn), ?_⟩
  rw [List.all_eq_true]
  intro x hx
  obtain ⟨r, e, d, rfl, _, _⟩ := story_mem l hl [] HBlk.nil x hx
  rw [raw_bad r _ _ e d (by by_cases h : rstop r = 0; exact .inl h; exact .inr (rstop_after r h))]
  rfl
end Go.Pin
