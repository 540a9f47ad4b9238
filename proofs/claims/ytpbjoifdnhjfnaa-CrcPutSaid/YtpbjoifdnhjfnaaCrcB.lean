/- The plain law of the burst: up to four bytes in a row that are turned turn the sum. -/
import Derived.Test.YtpbjoifdnhjfnaaCrcL
namespace Go.Pin
set_option linter.unusedVariables false
set_option linter.unusedSimpArgs false

theorem cstep_small (x : BitVec 32) (h : (cstep x).toNat < 2 ^ 31) : x.toNat = 2 * (cstep x).toNat := by
  have hb : (cstep x).getLsbD 31 = x.getLsbD 0 := by
    unfold cstep
    rw [BitVec.getLsbD_xor, BitVec.getLsbD_ushiftRight]
    have h1 : x.getLsbD (1 + 31) = false := BitVec.getLsbD_of_ge x 32 (by omega)
    rw [h1]
    cases x.getLsbD 0
    · decide
    · decide
  have h31 : (cstep x).getLsbD 31 = false := by
    rw [BitVec.getLsbD]; exact Nat.testBit_lt_two_pow h
  rw [h31] at hb
  have hx : cstep x = x >>> 1 := by unfold cstep; rw [← hb]; simp
  rw [hx, BitVec.toNat_ushiftRight, Nat.shiftRight_eq_div_pow]
  have h0 : x.toNat % 2 = 0 := by
    have : x.getLsbD 0 = decide (x.toNat % 2 = 1) := by rw [BitVec.getLsbD, Nat.testBit_zero]
    rw [← hb] at this
    have := of_decide_eq_false this.symm
    omega
  omega

theorem csteps_small (n m : Nat) (h : m + n ≤ 32) (x : BitVec 32) (hx : (csteps n x).toNat < 2 ^ m) : x.toNat = 2 ^ n * (csteps n x).toNat := by
  induction n generalizing m with
  | zero => simp [csteps]
  | succ n ih =>
    have hs : (cstep (csteps n x)).toNat < 2 ^ 31 := Nat.lt_of_lt_of_le hx (Nat.pow_le_pow_right (by omega) (by omega))
    have h1 := cstep_small _ hs
    have hx' : (cstep (csteps n x)).toNat < 2 ^ m := hx
    have h2 := ih (m + 1) (by omega) (by rw [h1, Nat.pow_succ]; omega)
    rw [h2, h1, Nat.pow_succ, Nat.mul_assoc]; rfl

theorem csteps_zero (n : Nat) : csteps n 0#32 = 0#32 := by
  induction n with
  | zero => rfl
  | succ n ih => rw [csteps, ih]; decide
theorem csteps_inj (n : Nat) (x y : BitVec 32) (h : csteps n x = csteps n y) : x = y := by
  have h0 : csteps n (x ^^^ y) = 0#32 := by rw [csteps_xor, h, BitVec.xor_self]
  have hz : ∀ (n : Nat) (z : BitVec 32), csteps n z = 0#32 → z = 0#32 := by
    intro n
    induction n with
    | zero => intro z hz; exact hz
    | succ n ih =>
      intro z hz
      have hz' : cstep (csteps n z) = 0#32 := hz
      have := cstep_small (csteps n z) (by rw [hz']; decide)
      rw [hz'] at this
      exact ih z (BitVec.eq_of_toNat_eq (by simpa using this))
  have := hz n _ h0
  have h2 : (x ^^^ y) ^^^ y = 0#32 ^^^ y := by rw [this]
  rw [BitVec.xor_assoc, BitVec.xor_self] at h2
  simpa using h2
theorem ctake_inj (x y : BitVec 32) (b : UInt8) (h : ctake x b = ctake y b) : x = y := by
  have := csteps_inj 8 _ _ h
  have h2 : (x ^^^ b.toBitVec.zeroExtend 32) ^^^ b.toBitVec.zeroExtend 32 = (y ^^^ b.toBitVec.zeroExtend 32) ^^^ b.toBitVec.zeroExtend 32 := by rw [this]
  rw [BitVec.xor_assoc, BitVec.xor_assoc, BitVec.xor_self] at h2
  simpa using h2
theorem crun_inj (l : List UInt8) (x y : BitVec 32) (h : crun x l = crun y l) : x = y := by
  induction l generalizing x y with
  | nil => exact h
  | cons b l ih => exact ctake_inj _ _ b (ih _ _ h)
theorem ctake_zero : ctake 0#32 0 = 0#32 := by decide
theorem crun_zeros (n : Nat) : crun 0#32 (List.replicate n 0) = 0#32 := by
  induction n with
  | zero => rfl
  | succ n ih => rw [List.replicate_succ]
                 have e : crun 0#32 (0 :: List.replicate n 0) = crun (ctake 0#32 0) (List.replicate n 0) := rfl
                 rw [e, ctake_zero, ih]
theorem zext_lt (b : UInt8) : (b.toBitVec.zeroExtend 32).toNat = b.toNat := by
  rw [BitVec.toNat_setWidth]
  have := b.toNat_lt
  simp only [UInt8.toNat_toBitVec]; omega

theorem crun_small (l : List UInt8) (r : BitVec 32) (hl : l.length ≤ 3) (h : crun r l = 0#32) : r.toNat < 2 ^ (8 * l.length) := by
  induction l generalizing r with
  | nil => have : r = 0#32 := h; subst this; decide
  | cons b l ih =>
    have h1 := ih (ctake r b) (by simp at hl; omega) h
    simp only [List.length_cons] at hl ⊢
    have h2 := csteps_small 8 (8 * l.length) (by omega) (r ^^^ b.toBitVec.zeroExtend 32) h1
    have h3 : (r ^^^ b.toBitVec.zeroExtend 32).toNat < 2 ^ (8 * (l.length + 1)) := by
      rw [h2, show 8 * (l.length + 1) = 8 * l.length + 8 from by omega, Nat.pow_add, Nat.mul_comm]
      exact Nat.mul_lt_mul_of_pos_right h1 (by decide)
    have h4 : (b.toBitVec.zeroExtend 32).toNat < 2 ^ (8 * (l.length + 1)) := by
      rw [zext_lt]
      exact Nat.lt_of_lt_of_le b.toNat_lt (Nat.pow_le_pow_right (by omega) (by omega))
    have e : r = (r ^^^ b.toBitVec.zeroExtend 32) ^^^ b.toBitVec.zeroExtend 32 := by rw [BitVec.xor_assoc, BitVec.xor_self]; simp
    rw [e, BitVec.toNat_xor]
    exact Nat.xor_lt_two_pow h3 h4

theorem crun_burst (l : List UInt8) (hl : l.length ≤ 4) (h : crun 0#32 l = 0#32) : ∀ b ∈ l, b = 0 := by
  induction l with
  | nil => simp
  | cons b l ih =>
    have h1 := crun_small l (ctake 0#32 b) (by simp at hl; omega) h
    simp only [List.length_cons] at hl
    have h2 := csteps_small 8 24 (by omega) (0#32 ^^^ b.toBitVec.zeroExtend 32) (Nat.lt_of_lt_of_le h1 (Nat.pow_le_pow_right (by omega) (by omega)))
    rw [BitVec.zero_xor, zext_lt] at h2
    have h3 := b.toNat_lt
    have h4 : b.toNat = 0 := by omega
    have hb : b = 0 := UInt8.toNat_inj.1 (by simpa using h4)
    subst hb
    have h5 : crun (ctake 0#32 0) l = 0#32 := h
    rw [ctake_zero] at h5
    intro c hc
    rcases List.mem_cons.1 hc with rfl | hc
    · rfl
    · exact ih (by omega) h5 c hc

/-- The bytes from place k on, one by one, turned by D. -/
def turned (L : List UInt8) (k : Nat) (D : Nat → UInt8) : Nat → List UInt8
  | 0 => L
  | m + 1 => (turned L k D m).set (k + m) ((turned L k D m).getD (k + m) 0 ^^^ D m)
theorem turned_length (L : List UInt8) (k : Nat) (D : Nat → UInt8) (m : Nat) : (turned L k D m).length = L.length := by
  induction m with
  | zero => rfl
  | succ m ih => rw [turned, List.length_set, ih]
def burst (k : Nat) (D : Nat → UInt8) (m rest : Nat) : List UInt8 := List.replicate k 0 ++ (List.range m).map D ++ List.replicate rest 0
theorem turned_getD (L : List UInt8) (k : Nat) (D : Nat → UInt8) (m j : Nat) (hj : j < L.length) :
    (turned L k D m).getD j 0 = if k ≤ j ∧ j < k + m then L.getD j 0 ^^^ D (j - k) else L.getD j 0 := by
  induction m generalizing j with
  | zero => rw [if_neg (by omega)]; rfl
  | succ m ih =>
    rw [turned]
    by_cases e : k + m = j
    · subst e
      have h1 : k + m < (turned L k D m).length := by rw [turned_length]; exact hj
      have h2 : ((turned L k D m).set (k + m) ((turned L k D m).getD (k + m) 0 ^^^ D m)).getD (k + m) 0 = (turned L k D m).getD (k + m) 0 ^^^ D m := by
        simp [List.getD, h1]
      rw [h2, ih _ hj, if_neg (by omega), if_pos (by omega)]
      congr 2; omega
    · have h2 : ((turned L k D m).set (k + m) ((turned L k D m).getD (k + m) 0 ^^^ D m)).getD j 0 = (turned L k D m).getD j 0 := by
        simp [List.getD, List.getElem?_set, e]
      rw [h2, ih _ hj]
      by_cases h : k ≤ j ∧ j < k + m
      · rw [if_pos h, if_pos (by omega)]
      · rw [if_neg h, if_neg (by omega)]
theorem turned_xor (L : List UInt8) (k : Nat) (D : Nat → UInt8) (m : Nat) (h : k + m ≤ L.length) : turned L k D m = xorL L (burst k D m (L.length - (k + m))) := by
  have hbl : (burst k D m (L.length - (k + m))).length = L.length := by unfold burst; simp; omega
  apply List.ext_getElem
  · rw [turned_length]; unfold xorL; rw [List.length_zipWith, hbl]; omega
  · intro j h1 h2
    rw [turned_length] at h1
    have := turned_getD L k D m j h1
    rw [List.getD, List.getElem?_eq_getElem (by rw [turned_length]; exact h1), Option.getD_some] at this
    rw [this]
    have hx : (xorL L (burst k D m (L.length - (k + m))))[j] = L[j] ^^^ (burst k D m (L.length - (k + m)))[j]'(by omega) := List.getElem_zipWith
    rw [hx]
    have hL : L.getD j 0 = L[j] := by simp [List.getD, h1]
    rw [hL]
    unfold burst
    by_cases hj : j < k
    · rw [if_neg (by omega)]
      simp [List.getElem_append, hj]
    · by_cases hj2 : j < k + m
      · rw [if_pos (by omega)]
        have : j - k < m := by omega
        simp [List.getElem_append, hj, hj2]
        intro h'; omega
      · rw [if_neg (by omega)]
        have h' : ¬ j - k < m := by omega
        simp [List.getElem_append, hj2, hj, h']

theorem xorL_self_zero (r : BitVec 32) : r ^^^ r = 0#32 := BitVec.xor_self

theorem burst_law (L : List UInt8) (k : Nat) (D : Nat → UInt8) (m : Nat) (h : k + m ≤ L.length) (hm : m ≤ 4) : cmore 0#32 (turned L k D m) = cmore 0#32 L ↔ ∀ j, j < m → D j = 0 := by
  have hbl : L.length = (burst k D m (L.length - (k + m))).length := by unfold burst; simp; omega
  have e : crun (~~~0#32) (turned L k D m) = crun (~~~0#32) L ^^^ crun 0#32 (burst k D m (L.length - (k + m))) := by
    rw [turned_xor L k D m h, ← crun_xor _ _ hbl]; simp
  have e2 : crun 0#32 (burst k D m (L.length - (k + m))) = crun (crun 0#32 ((List.range m).map D)) (List.replicate (L.length - (k + m)) 0) := by
    unfold burst crun
    rw [List.foldl_append, List.foldl_append]
    have := crun_zeros k
    unfold crun at this
    rw [this]
  constructor
  · intro hc j hj
    have hc' : crun (~~~0#32) (turned L k D m) = crun (~~~0#32) L := by
      unfold cmore at hc
      have := congrArg (fun x => ~~~x) hc
      simpa using this
    rw [e] at hc'
    have h0 : crun 0#32 (burst k D m (L.length - (k + m))) = 0#32 := by
      have := congrArg (fun x => crun (~~~0#32) L ^^^ x) hc'
      simp only [← BitVec.xor_assoc, BitVec.xor_self] at this
      simpa using this
    rw [e2] at h0
    have h1 := crun_inj _ (crun 0#32 ((List.range m).map D)) 0#32 (by rw [h0, crun_zeros])
    have h2 := crun_burst _ (by simp; exact hm) h1
    exact h2 (D j) (List.mem_map.2 ⟨j, by simpa using hj, rfl⟩)
  · intro hz
    have : (List.range m).map D = List.replicate m 0 := by
      apply List.ext_getElem
      · simp
      · intro j h1 h2; simp at h1 ⊢; exact hz j h1
    rw [this, crun_zeros, crun_zeros] at e2
    unfold cmore
    rw [e, e2]; simp
end Go.Pin
