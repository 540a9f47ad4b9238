import Derived.Test.YtpfkpaombiikcaaGreatDoorBase
import Derived.Test.YtpfkpaombiikcaaGreatDoorZPlain
/- slots: a super and a hard state, as plain words: what is put, what is got. -/
set_option maxRecDepth 16000
namespace Go.Pin
open Go.RowKit
set_option linter.unusedVariables false
set_option linter.unusedSimpArgs false
structure Sup where
  v : Int
  snap : Int
  log : Int
  area : Int
  half : Int
  goal : Int
  step : Int
def Sup.val (s : Sup) : Value := .agg #[.int .i64 s.v, .int .i64 s.snap, .int .i64 s.log, .int .i64 s.area, .int .i64 s.half, .int .i64 s.goal, .int .i64 s.step]
def Sup.zero : Sup := ⟨0, 0, 0, 0, 0, 0, 0⟩
def Sup.right (s : Sup) : Bool := decide ((1 ≤ s.v ∧ s.v ≤ 2) ∧ (1 ≤ s.snap ∧ s.snap ≤ 1000) ∧ (1 ≤ s.log ∧ s.log ≤ 1000) ∧ (0 ≤ s.area ∧ s.area ≤ 1) ∧ (0 ≤ s.half ∧ s.half ≤ 1) ∧ (0 ≤ s.goal ∧ s.goal ≤ 2) ∧ (0 ≤ s.step ∧ s.step ≤ 9) ∧ (0 < s.goal ∨ s.step = 0))
theorem Sup.right_iff {s : Sup} (h : s.right = true) : (1 ≤ s.v ∧ s.v ≤ 2) ∧ (1 ≤ s.snap ∧ s.snap ≤ 1000) ∧ (1 ≤ s.log ∧ s.log ≤ 1000) ∧ (0 ≤ s.area ∧ s.area ≤ 1) ∧ (0 ≤ s.half ∧ s.half ≤ 1) ∧ (0 ≤ s.goal ∧ s.goal ≤ 2) ∧ (0 ≤ s.step ∧ s.step ≤ 9) ∧ (0 < s.goal ∨ s.step = 0) := by simpa [Sup.right] using h
/-- A number of a version, of so many bytes in the first. -/
def snum (v : Int) (n : Nat) (k : Int) : ByteArray := if v = 1 then fixedS n k else vputS n
def stake (v : Int) (r : Rd) (k : Int) : Nat × Rd := if v = 1 then r.fixed k else r.var
def supS (s : Sup) : ByteArray := fixedS s.v.toNat 1 ++ snum s.v s.snap.toNat 2 ++ snum s.v s.log.toNat 2 ++ snum s.v s.area.toNat 1 ++ snum s.v s.half.toNat 1 ++ snum s.v s.goal.toNat 1 ++ snum s.v s.step.toNat 1
def supput (s : Sup) : ByteArray × Bool := if s.right = true then (supS s, true) else (⟨#[]⟩, false)
/-- One field as the program takes it. -/
def ssmall (v : Int) (r : Rd) (k : Int) : Int × Rd := (IntKind.i64.wrap ((stake v r k).1 : Int), if 1000 < (stake v r k).1 then Rd.fail else (stake v r k).2)
/-- Six fields, one behind the other. -/
def ssix (t : Rd → Int → Int × Rd) (v : Int) (r : Rd) : Sup × Rd :=
  let a := t r 2
  let b := t a.2 2
  let c := t b.2 1
  let d := t c.2 1
  let e := t d.2 1
  let f := t e.2 1
  (⟨v, a.1, b.1, c.1, d.1, e.1, f.1⟩, f.2)
def supget (b : ByteArray) : Sup × Bool :=
  let x := (Rd.mk b false).fixed 1
  if (x.1 : Int) ≠ 1 ∧ (x.1 : Int) ≠ 2 then (Sup.zero, false) else
  let q := ssix (ssmall x.1) x.1 x.2
  if q.2.bad = true ∨ 0 < q.2.s.size ∨ q.1.right = false then (Sup.zero, false) else (q.1, true)
/-- One field as the document takes it. -/
def srsmall (v : Int) (m : Nat → Nat) (r : Rd) (k : Int) : Int × Rd := (((stake v r k).1 % m k.toNat : Nat), (stake v r k).2)
def srmod (k : Nat) : Nat := if k = 2 then 9999 else 99
def suprefget (b : ByteArray) : Sup × Bool :=
  let x := (Rd.mk b false).fixed 1
  let q := ssix (srsmall x.1 srmod) x.1 x.2
  if (supput q.1).2 = false ∨ (supput q.1).1 ≠ b then (Sup.zero, false) else (q.1, true)
structure Hd where
  term : Int
  vote : Int
  commit : Int
def Hd.val (h : Hd) : Value := .agg #[.int .u64 h.term, .int .i64 h.vote, .int .u64 h.commit]
def Hd.zero : Hd := ⟨0, 0, 0⟩
def hardS (v : Int) (h : Hd) : ByteArray := fixedS (16 + v).toNat 1 ++ snum v h.term.toNat 8 ++ snum v h.vote.toNat 1 ++ snum v h.commit.toNat 8
def hardput (v : Int) (h : Hd) : ByteArray × Bool := if (v = 1 ∨ v = 2) ∧ 0 ≤ h.vote ∧ h.vote ≤ 7 then (hardS v h, true) else (⟨#[]⟩, false)
def hthree (v : Int) (r : Rd) : (Nat × Nat × Nat) × Rd :=
  let a := stake v r 8
  let b := stake v a.2 1
  let c := stake v b.2 8
  ((a.1, b.1, c.1), c.2)
def hardget (b : ByteArray) : Hd × Int × Bool :=
  let x := (Rd.mk b false).fixed 1
  let v := (x.1 : Int) - 16
  if v ≠ 1 ∧ v ≠ 2 then (Hd.zero, 0, false) else
  let q := hthree v x.2
  if q.2.bad = true ∨ 0 < q.2.s.size ∨ 7 < q.1.2.1 then (Hd.zero, 0, false) else (⟨q.1.1, q.1.2.1, q.1.2.2⟩, v, true)
def hardrefget (b : ByteArray) : Hd × Int × Bool :=
  let x := (Rd.mk b false).fixed 1
  let v := (x.1 : Int) - 16
  let q := hthree v x.2
  let h : Hd := ⟨q.1.1, ((q.1.2.1 % 99 : Nat) : Int), q.1.2.2⟩
  if (hardput v h).2 = false ∨ (hardput v h).1 ≠ b then (Hd.zero, 0, false) else (h, v, true)
def ssectors (s : Sup) : Int := if s.right = true then 4 + 2 * (s.snap + s.log) else 0
theorem stake_lt (v : Int) (r : Rd) (k : Int) : (stake v r k).1 < 18446744073709551616 := by
  unfold stake
  split
  · unfold Rd.fixed
    refine Nat.lt_of_lt_of_le (beNat_lt _) ?_
    have h8 : (if (8 : Int) < k then Rd.fail else r).bytes k = (if (8 : Int) < k then Rd.fail else r).bytes k := rfl
    by_cases hk : 8 < k
    · rw [if_pos hk]
      have : (Rd.fail.bytes k).1 = ⟨#[]⟩ := by unfold Rd.bytes; rw [if_pos (.inl rfl)]
      rw [this]; decide
    · rw [if_neg hk]
      have h := Rd.bytes_size r k
      have h3 : (r.bytes k).1.data.toList.length ≤ 8 := by rw [Array.length_toList]; show (r.bytes k).1.size ≤ 8; omega
      exact Nat.le_trans (Nat.pow_le_pow_right (by omega) h3) (by omega)
  · exact Rd.var_lt r
theorem stake_le (v : Int) (r : Rd) (k : Int) : (stake v r k).2.s.size ≤ r.s.size := by
  unfold stake
  split
  · unfold Rd.fixed
    refine Nat.le_trans (Rd.bytes_le _ _) ?_
    split
    · exact Nat.zero_le _
    · exact Nat.le_refl _
  · exact Rd.var_le r
theorem snum_size (v : Int) (n : Nat) (k : Int) : (snum v n k).size ≤ 10 := by
  unfold snum
  split
  · unfold fixedS
    split
    · exact Nat.zero_le _
    · rw [size_mk, fixedL_len]; omega
  · exact (vputS_size n).1
end Go.Pin
/- slots: what was put is got, and nothing else; the program's way and the document's come to the same. -/
set_option maxRecDepth 16000
namespace Go.Pin
open Go.RowKit
set_option linter.unusedVariables false
set_option linter.unusedSimpArgs false
def snumL (v : Int) (n k : Nat) : List UInt8 := if v = 1 then fixedL k n else vput n
theorem snum_list (v : Int) (n k : Nat) (hk : k ≤ 8) : (snum v n k).data.toList = snumL v n k := by
  unfold snum snumL
  split
  · exact fixedS_data n k hk
  · exact vputS_data n
theorem stake_put (v : Int) (n k : Nat) (hk : k ≤ 8) (h1 : n < 256 ^ k) (rest : List UInt8) : stake v ⟨bs (snumL v n k ++ rest), false⟩ k = (n, ⟨bs rest, false⟩) := by
  have h2 : n < 18446744073709551616 := Nat.lt_of_lt_of_le h1 (Nat.le_trans (Nat.pow_le_pow_right (by omega) hk) (by omega))
  unfold stake snumL
  split
  · rw [rd_fixed_put k n rest hk, Nat.mod_eq_of_lt h1]
  · exact rd_var_put n rest false h2
theorem stake_inv (v : Int) (r : Rd) (k : Nat) (hk : k ≤ 8) (h : (stake v r k).2.bad = false) : r.bad = false ∧ r.s.data.toList = snumL v (stake v r k).1 k ++ (stake v r k).2.s.data.toList := by
  unfold stake at h ⊢
  unfold snumL
  by_cases hv : v = 1
  · rw [if_pos hv] at h ⊢
    rw [if_pos hv]
    exact Rd.fixed_inv r k hk h
  · rw [if_neg hv] at h ⊢
    rw [if_neg hv]
    exact Rd.var_inv r h
theorem bs_rd (r : Rd) (h : r.bad = false) : r = ⟨bs r.s.data.toList, false⟩ := by
  obtain ⟨s, b⟩ := r
  cases h
  rw [bs_of]
theorem wrap_small (n : Nat) (h : n ≤ 1000) : IntKind.i64.wrap (n : Int) = (n : Int) := by rw [IntKind.wrap_i64]; omega
theorem ssmall_put (v : Int) (n k : Nat) (hk : k ≤ 8) (h1 : n < 256 ^ k) (hn : n ≤ 1000) (rest : List UInt8) : ssmall v ⟨bs (snumL v n k ++ rest), false⟩ k = ((n : Int), ⟨bs rest, false⟩) := by
  unfold ssmall
  rw [stake_put v n k hk h1]
  dsimp only
  rw [wrap_small n hn, if_neg (by omega)]
theorem srsmall_put (v : Int) (m : Nat → Nat) (n k : Nat) (hk : k ≤ 8) (h1 : n < 256 ^ k) (hn : n < m k) (rest : List UInt8) : srsmall v m ⟨bs (snumL v n k ++ rest), false⟩ k = ((n : Int), ⟨bs rest, false⟩) := by
  unfold srsmall
  rw [stake_put v n k hk h1]
  dsimp only
  rw [Int.toNat_natCast, Nat.mod_eq_of_lt hn]
theorem ssmall_inv (v : Int) (r : Rd) (k : Nat) (hk : k ≤ 8) (h : (ssmall v r k).2.bad = false) : r.bad = false ∧ 0 ≤ (ssmall v r k).1 ∧ r.s.data.toList = snumL v (ssmall v r k).1.toNat k ++ (ssmall v r k).2.s.data.toList := by
  unfold ssmall at h ⊢
  dsimp only at h ⊢
  by_cases hb : 1000 < (stake v r k).1
  · rw [if_pos hb] at h; cases h
  · rw [if_neg hb] at h ⊢
    obtain ⟨h1, h2⟩ := stake_inv v r k hk h
    rw [wrap_small _ (by omega)]
    exact ⟨h1, by omega, by rw [Int.toNat_natCast]; exact h2⟩
/-- The bytes of a super, as a list. -/
def supL (s : Sup) : List UInt8 := fixedL 1 s.v.toNat ++ (snumL s.v s.snap.toNat 2 ++ (snumL s.v s.log.toNat 2 ++ (snumL s.v s.area.toNat 1 ++ (snumL s.v s.half.toNat 1 ++ (snumL s.v s.goal.toNat 1 ++ (snumL s.v s.step.toNat 1 ++ []))))))
theorem supS_list (s : Sup) : supS s = bs (supL s) := by
  apply bs_ext
  rw [bs_data]
  unfold supS supL
  simp only [ByteArray.data_append, Array.toList_append, List.append_nil]
  rw [show ((1 : Int)) = ((1 : Nat) : Int) from rfl, show ((2 : Int)) = ((2 : Nat) : Int) from rfl, fixedS_data _ 1 (by omega), snum_list _ _ 2 (by omega), snum_list _ _ 2 (by omega), snum_list _ _ 1 (by omega), snum_list _ _ 1 (by omega), snum_list _ _ 1 (by omega), snum_list _ _ 1 (by omega)]
  simp only [List.append_assoc]
theorem six_put (t : Rd → Int → Int × Rd) (v : Int) (hv : v = 1 ∨ v = 2) (m : Nat → Nat) (ht : ∀ (n k : Nat) (rest : List UInt8), k = 2 ∧ n ≤ 1000 ∨ k = 1 ∧ n ≤ 9 → t ⟨bs (snumL v n k ++ rest), false⟩ k = ((n : Int), ⟨bs rest, false⟩))
    (s : Sup) (hr : s.right = true) (hsv : s.v = v) : ssix t v ⟨bs (snumL s.v s.snap.toNat 2 ++ (snumL s.v s.log.toNat 2 ++ (snumL s.v s.area.toNat 1 ++ (snumL s.v s.half.toNat 1 ++ (snumL s.v s.goal.toNat 1 ++ (snumL s.v s.step.toNat 1 ++ [])))))), false⟩ = (s, ⟨bs [], false⟩) := by
  have h := Sup.right_iff hr
  obtain ⟨sv, snap, log, area, half, goal, step⟩ := s
  dsimp only at h hsv ⊢
  subst hsv
  unfold ssix
  rw [show ((2 : Int)) = ((2 : Nat) : Int) from rfl, show ((1 : Int)) = ((1 : Nat) : Int) from rfl]
  rw [ht _ 2 _ (.inl ⟨rfl, by omega⟩)]
  dsimp only
  rw [ht _ 2 _ (.inl ⟨rfl, by omega⟩)]
  dsimp only
  rw [ht _ 1 _ (.inr ⟨rfl, by omega⟩)]
  dsimp only
  rw [ht _ 1 _ (.inr ⟨rfl, by omega⟩)]
  dsimp only
  rw [ht _ 1 _ (.inr ⟨rfl, by omega⟩)]
  dsimp only
  rw [ht _ 1 _ (.inr ⟨rfl, by omega⟩)]
  simp only [Prod.mk.injEq, Sup.mk.injEq, true_and, and_true]
  omega
theorem first_byte (n : Nat) (hn : n < 256) (rest : List UInt8) : (Rd.mk (bs (fixedL 1 n ++ rest)) false).fixed 1 = (n, ⟨bs rest, false⟩) := by
  have := rd_fixed_put 1 n rest (by omega)
  rw [Nat.mod_eq_of_lt (by omega)] at this
  exact this
theorem supget_put (s : Sup) (hr : s.right = true) : supget (supS s) = (s, true) := by
  have h := Sup.right_iff hr
  obtain ⟨n, hn⟩ := Int.eq_ofNat_of_zero_le (show 0 ≤ s.v by omega)
  have hv : s.v = 1 ∨ s.v = 2 := by omega
  rw [supS_list]
  unfold supL
  unfold supget
  rw [hn, Int.toNat_natCast, first_byte n (by omega), ← hn]
  dsimp only
  rw [if_neg (by omega), ← hn]
  rw [six_put (ssmall s.v) s.v hv (fun _ => 0) (fun n k rest hk => by
    rcases hk with ⟨rfl, hk⟩ | ⟨rfl, hk⟩
    · exact ssmall_put _ n 2 (by omega) (by omega) hk rest
    · exact ssmall_put _ n 1 (by omega) (by omega) (by omega) rest) s hr rfl]
  dsimp only
  rw [if_neg]
  rintro (q | q | q)
  · cases q
  · simp [bs_size] at q
  · rw [hr] at q; cases q
theorem suprefget_put (s : Sup) (hr : s.right = true) : suprefget (supS s) = (s, true) := by
  have h := Sup.right_iff hr
  obtain ⟨n, hn⟩ := Int.eq_ofNat_of_zero_le (show 0 ≤ s.v by omega)
  have hv : s.v = 1 ∨ s.v = 2 := by omega
  have hq : suprefget (supS s) = (if (supput s).2 = false ∨ (supput s).1 ≠ supS s then (Sup.zero, false) else (s, true)) := by
    have e := supS_list s
    unfold suprefget
    have hx : (Rd.mk (supS s) false).fixed 1 = (n, ⟨bs (snumL s.v s.snap.toNat 2 ++ (snumL s.v s.log.toNat 2 ++ (snumL s.v s.area.toNat 1 ++ (snumL s.v s.half.toNat 1 ++ (snumL s.v s.goal.toNat 1 ++ (snumL s.v s.step.toNat 1 ++ [])))))), false⟩) := by
      rw [e]; unfold supL
      rw [hn, Int.toNat_natCast, first_byte n (by omega)]
    rw [hx]
    dsimp only
    rw [← hn]
    rw [six_put (srsmall s.v srmod) s.v hv srmod (fun n k rest hk => by
      rcases hk with ⟨rfl, hk⟩ | ⟨rfl, hk⟩
      · exact srsmall_put _ srmod n 2 (by omega) (by omega) (by unfold srmod; rw [if_pos rfl]; omega) rest
      · exact srsmall_put _ srmod n 1 (by omega) (by omega) (by unfold srmod; rw [if_neg (by omega)]; omega) rest) s hr rfl]
  rw [hq]
  unfold supput
  rw [if_pos hr, if_neg (by simp)]
theorem supget_inv (b : ByteArray) : supget b = (Sup.zero, false) ∨ ∃ s : Sup, s.right = true ∧ b = supS s := by
  unfold supget
  dsimp only
  split
  · exact .inl rfl
  · rename_i hv
    split
    · exact .inl rfl
    · rename_i hno
      right
      obtain ⟨x, hx⟩ : ∃ x, (Rd.mk b false).fixed 1 = x := ⟨_, rfl⟩
      rw [hx] at hv hno
      obtain ⟨q, hq⟩ : ∃ q, ssix (ssmall x.1) x.1 x.2 = q := ⟨_, rfl⟩
      rw [hq] at hno
      have hbad : q.2.bad = false := by cases h : q.2.bad; rfl; exact absurd (.inl h) hno
      have hsz : q.2.s.size = 0 := by
        rcases Nat.eq_zero_or_pos q.2.s.size with h | h
        · exact h
        · exact absurd (.inr (.inl h)) hno
      have hri : q.1.right = true := by cases h : q.1.right; exact absurd (.inr (.inr h)) hno; rfl
      refine ⟨q.1, hri, ?_⟩
      unfold ssix at hq
      dsimp only at hq
      rw [show ((2 : Int)) = ((2 : Nat) : Int) from rfl, show ((1 : Int)) = ((1 : Nat) : Int) from rfl] at hq
      subst hq
      dsimp only at hbad hsz ⊢
      obtain ⟨b6, p6, l6⟩ := ssmall_inv _ _ 1 (by omega) hbad
      obtain ⟨b5, p5, l5⟩ := ssmall_inv _ _ 1 (by omega) b6
      obtain ⟨b4, p4, l4⟩ := ssmall_inv _ _ 1 (by omega) b5
      obtain ⟨b3, p3, l3⟩ := ssmall_inv _ _ 1 (by omega) b4
      obtain ⟨b2, p2, l2⟩ := ssmall_inv _ _ 2 (by omega) b3
      obtain ⟨b1, p1, l1⟩ := ssmall_inv _ _ 2 (by omega) b2
      have hb0 : ((Rd.mk b false).fixed ((1 : Nat) : Int)).2.bad = false := by rw [← hx] at b1; exact b1
      obtain ⟨_, l0⟩ := Rd.fixed_inv (Rd.mk b false) 1 (by omega) hb0
      rw [show ((1 : Nat) : Int) = (1 : Int) from rfl, hx] at l0
      have hnil : ∀ (r : Rd), r.s.size = 0 → r.s.data.toList = [] := fun r h => List.eq_nil_of_length_eq_zero (by rw [Array.length_toList]; exact h)
      rw [supS_list, ← bs_of b]
      congr 1
      show b.data.toList = _
      rw [show b.data.toList = _ from l0]
      unfold supL
      dsimp only
      rw [Int.toNat_natCast]
      congr 1
      rw [l1]; congr 1
      rw [l2]; congr 1
      rw [l3]; congr 1
      rw [l4]; congr 1
      rw [l5]; congr 1
      rw [l6]; congr 1
      exact hnil _ hsz
theorem suprefget_inv (b : ByteArray) : suprefget b = (Sup.zero, false) ∨ ∃ s : Sup, s.right = true ∧ b = supS s := by
  unfold suprefget
  dsimp only
  split
  · exact .inl rfl
  · rename_i hno
    right
    generalize ssix (srsmall ((Rd.mk b false).fixed 1).1 srmod) ((Rd.mk b false).fixed 1).1 ((Rd.mk b false).fixed 1).2 = q at hno
    unfold supput at hno
    by_cases hr : q.1.right = true
    · rw [if_pos hr] at hno
      refine ⟨q.1, hr, ?_⟩
      exact (Classical.not_not.1 fun h => hno (.inr h)).symm
    · rw [if_neg hr] at hno
      exact absurd (.inl rfl) hno
theorem suprefget_eq (b : ByteArray) : suprefget b = supget b := by
  rcases suprefget_inv b with h | ⟨s, hr, rfl⟩
  · rcases supget_inv b with h2 | ⟨s, hr, rfl⟩
    · rw [h, h2]
    · rw [supget_put s hr, suprefget_put s hr]
  · rw [supget_put s hr, suprefget_put s hr]
/-- The bytes of a hard state, as a list. -/
def hardL (v : Int) (h : Hd) : List UInt8 := fixedL 1 (16 + v).toNat ++ (snumL v h.term.toNat 8 ++ (snumL v h.vote.toNat 1 ++ (snumL v h.commit.toNat 8 ++ [])))
theorem hardS_list (v : Int) (h : Hd) : hardS v h = bs (hardL v h) := by
  apply bs_ext
  rw [bs_data]
  unfold hardS hardL
  simp only [ByteArray.data_append, Array.toList_append, List.append_nil]
  rw [show ((1 : Int)) = ((1 : Nat) : Int) from rfl, show ((8 : Int)) = ((8 : Nat) : Int) from rfl, fixedS_data _ 1 (by omega), snum_list _ _ 8 (by omega), snum_list _ _ 1 (by omega), snum_list _ _ 8 (by omega)]
  simp only [List.append_assoc]
structure Hd.ok (h : Hd) : Prop where
  t0 : 0 ≤ h.term
  t1 : h.term ≤ 18446744073709551615
  c0 : 0 ≤ h.commit
  c1 : h.commit ≤ 18446744073709551615
theorem three_put (v : Int) (h : Hd) (hok : h.ok) (hv : 0 ≤ h.vote ∧ h.vote ≤ 7) : hthree v ⟨bs (snumL v h.term.toNat 8 ++ (snumL v h.vote.toNat 1 ++ (snumL v h.commit.toNat 8 ++ []))), false⟩ = ((h.term.toNat, h.vote.toNat, h.commit.toNat), ⟨bs [], false⟩) := by
  have := hok.t1
  have := hok.c1
  unfold hthree
  rw [show ((8 : Int)) = ((8 : Nat) : Int) from rfl, show ((1 : Int)) = ((1 : Nat) : Int) from rfl]
  rw [stake_put v _ 8 (by omega) (by omega)]
  dsimp only
  rw [stake_put v _ 1 (by omega) (by omega)]
  dsimp only
  rw [stake_put v _ 8 (by omega) (by omega)]
theorem hard_first (v : Int) (hv : v = 1 ∨ v = 2) (h : Hd) : (Rd.mk (hardS v h) false).fixed 1 = ((16 + v).toNat, ⟨bs (snumL v h.term.toNat 8 ++ (snumL v h.vote.toNat 1 ++ (snumL v h.commit.toNat 8 ++ []))), false⟩) := by
  rw [hardS_list]; unfold hardL
  exact first_byte _ (by omega) _
theorem hardget_put (v : Int) (hv : v = 1 ∨ v = 2) (h : Hd) (hok : h.ok) (hvo : 0 ≤ h.vote ∧ h.vote ≤ 7) : hardget (hardS v h) = (h, v, true) := by
  have hv2 : (((16 + v).toNat : Nat) : Int) - 16 = v := by omega
  unfold hardget
  rw [hard_first v hv h]
  dsimp only
  rw [hv2, if_neg (by omega), three_put v h hok hvo]
  dsimp only
  rw [if_neg (by rintro (q | q | q); cases q; simp [bs_size] at q; omega)]
  obtain ⟨t, o, c⟩ := h
  have h1 := hok.t0
  have h2 := hok.c0
  dsimp only at h1 h2 hvo ⊢
  rw [Int.toNat_of_nonneg h1, Int.toNat_of_nonneg h2, Int.toNat_of_nonneg hvo.1]
theorem hardrefget_put (v : Int) (hv : v = 1 ∨ v = 2) (h : Hd) (hok : h.ok) (hvo : 0 ≤ h.vote ∧ h.vote ≤ 7) : hardrefget (hardS v h) = (h, v, true) := by
  have hv2 : (((16 + v).toNat : Nat) : Int) - 16 = v := by omega
  have hh : (⟨(h.term.toNat : Int), ((h.vote.toNat % 99 : Nat) : Int), (h.commit.toNat : Int)⟩ : Hd) = h := by
    obtain ⟨t, o, c⟩ := h
    have h1 := hok.t0
    have h2 := hok.c0
    dsimp only at h1 h2 hvo ⊢
    simp only [Hd.mk.injEq]; omega
  have hq : hardrefget (hardS v h) = (if (hardput v h).2 = false ∨ (hardput v h).1 ≠ hardS v h then (Hd.zero, 0, false) else (h, v, true)) := by
    unfold hardrefget
    rw [hard_first v hv h]
    dsimp only
    rw [hv2, three_put v h hok hvo]
    dsimp only
    rw [hh]
  have hp : hardput v h = (hardS v h, true) := by unfold hardput; rw [if_pos ⟨hv, hvo⟩]
  rw [hq, hp, if_neg (by simp)]
theorem hthree_ok (v : Int) (r : Rd) (o : Int) : (⟨((hthree v r).1.1 : Int), o, ((hthree v r).1.2.2 : Int)⟩ : Hd).ok := by
  unfold hthree
  dsimp only
  have h1 := stake_lt v r 8
  have h2 := stake_lt v (stake v (stake v r 8).2 1).2 8
  exact ⟨by dsimp only; omega, by dsimp only; omega, by dsimp only; omega, by dsimp only; omega⟩
theorem hardget_inv (b : ByteArray) : hardget b = (Hd.zero, 0, false) ∨ ∃ (v : Int) (h : Hd), (v = 1 ∨ v = 2) ∧ h.ok ∧ (0 ≤ h.vote ∧ h.vote ≤ 7) ∧ b = hardS v h := by
  unfold hardget
  dsimp only
  split
  · exact .inl rfl
  · rename_i hv
    split
    · exact .inl rfl
    · rename_i hno
      right
      obtain ⟨x, hx⟩ : ∃ x, (Rd.mk b false).fixed 1 = x := ⟨_, rfl⟩
      rw [hx] at hv hno
      obtain ⟨v, hvv⟩ : ∃ v : Int, (x.1 : Int) - 16 = v := ⟨_, rfl⟩
      rw [hvv] at hv hno
      have hok := hthree_ok v x.2 ((hthree v x.2).1.2.1 : Int)
      obtain ⟨q, hq⟩ : ∃ q, hthree v x.2 = q := ⟨_, rfl⟩
      rw [hq] at hno hok
      have hbad : q.2.bad = false := by cases h : q.2.bad; rfl; exact absurd (.inl h) hno
      have hsz : q.2.s.size = 0 := by
        rcases Nat.eq_zero_or_pos q.2.s.size with h | h
        · exact h
        · exact absurd (.inr (.inl h)) hno
      refine ⟨v, ⟨q.1.1, q.1.2.1, q.1.2.2⟩, by omega, hok, ⟨by dsimp only; omega, by dsimp only; omega⟩, ?_⟩
      unfold hthree at hq
      dsimp only at hq
      rw [show ((8 : Int)) = ((8 : Nat) : Int) from rfl, show ((1 : Int)) = ((1 : Nat) : Int) from rfl] at hq
      subst hq
      dsimp only at hbad hsz ⊢
      obtain ⟨b3, l3⟩ := stake_inv _ _ 8 (by omega) hbad
      obtain ⟨b2, l2⟩ := stake_inv _ _ 1 (by omega) b3
      obtain ⟨b1, l1⟩ := stake_inv _ _ 8 (by omega) b2
      have hb0 : ((Rd.mk b false).fixed ((1 : Nat) : Int)).2.bad = false := by rw [← hx] at b1; exact b1
      obtain ⟨_, l0⟩ := Rd.fixed_inv (Rd.mk b false) 1 (by omega) hb0
      rw [show ((1 : Nat) : Int) = (1 : Int) from rfl, hx] at l0
      have hnil : ∀ (r : Rd), r.s.size = 0 → r.s.data.toList = [] := fun r h => List.eq_nil_of_length_eq_zero (by rw [Array.length_toList]; exact h)
      rw [hardS_list, ← bs_of b]
      congr 1
      show b.data.toList = _
      rw [show b.data.toList = _ from l0]
      unfold hardL
      dsimp only
      simp only [Int.toNat_natCast]
      have : x.1 = (16 + v).toNat := by omega
      rw [this]
      congr 1
      rw [l1]; congr 1
      rw [l2]; congr 1
      rw [l3]; congr 1
      exact hnil _ hsz
theorem hardrefget_inv (b : ByteArray) : hardrefget b = (Hd.zero, 0, false) ∨ ∃ (v : Int) (h : Hd), (v = 1 ∨ v = 2) ∧ h.ok ∧ (0 ≤ h.vote ∧ h.vote ≤ 7) ∧ b = hardS v h := by
  unfold hardrefget
  dsimp only
  split
  · exact .inl rfl
  · rename_i hno
    right
    obtain ⟨x, hx⟩ : ∃ x, (Rd.mk b false).fixed 1 = x := ⟨_, rfl⟩
    rw [hx] at hno
    have hok := hthree_ok ((x.1 : Int) - 16) x.2 (((hthree ((x.1 : Int) - 16) x.2).1.2.1 % 99 : Nat) : Int)
    generalize (⟨((hthree ((x.1 : Int) - 16) x.2).1.1 : Int), (((hthree ((x.1 : Int) - 16) x.2).1.2.1 % 99 : Nat) : Int), ((hthree ((x.1 : Int) - 16) x.2).1.2.2 : Int)⟩ : Hd) = h at hno hok
    unfold hardput at hno
    by_cases hr : ((x.1 : Int) - 16 = 1 ∨ (x.1 : Int) - 16 = 2) ∧ 0 ≤ h.vote ∧ h.vote ≤ 7
    · rw [if_pos hr] at hno
      exact ⟨_, h, hr.1, hok, hr.2, (Classical.not_not.1 fun q => hno (.inr q)).symm⟩
    · rw [if_neg hr] at hno
      exact absurd (.inl rfl) hno
theorem hardrefget_eq (b : ByteArray) : hardrefget b = hardget b := by
  rcases hardrefget_inv b with h | ⟨v, s, hv, hok, hr, rfl⟩
  · rcases hardget_inv b with h2 | ⟨v, s, hv, hok, hr, rfl⟩
    · rw [h, h2]
    · rw [hardget_put v hv s hok hr, hardrefget_put v hv s hok hr]
  · rw [hardget_put v hv s hok hr, hardrefget_put v hv s hok hr]
end Go.Pin
