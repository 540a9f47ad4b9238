/- super on a device that is not armed: plain laws; the examples of chapter 8. -/
import Derived.Test.YtpfkpaombiikcaaDoorSuV
import Derived.Test.YtpfkpaombiikcaaDoorDevE
set_option maxRecDepth 16000
namespace Go.Pin
open Go.RowKit
set_option linter.unusedVariables false
set_option linter.unusedSimpArgs false
abbrev Got := Int × ByteArray × Bool
/-- What is read of two cells. -/
def sucells (A B : Got) : ByteArray × Int × Int × Int :=
  if A.1 = 0 ∧ B.1 = 0 then (⟨#[]⟩, 0, 0, 6) else if B.1 ≤ A.1 then (A.2.1, A.1, 0, 0) else (B.2.1, B.1, 1, 0)
/-- The next gen, and which of both it goes to. -/
def suNext (r : ByteArray × Int × Int × Int) : Int × Int := if r.2.2.2 = 6 then (1, 0) else (r.2.1 + 1, 1 - r.2.2.1)
theorem suread_live {d : Dv} (hl : Live d) {a : Nat} (ha : a + 1 < d.n) : suread d a = sucells (sget (d.s a)) (sget (d.s (a + 1))) := by
  have h1 := hl.read (show a < d.n by omega)
  have h2 := hl.read ha
  unfold suread sucells
  rw [h1, if_neg (by simp), show ((a : Int) + 1) = ((a + 1 : Nat) : Int) by omega, h2, if_neg (by simp)]
theorem pad64 (s : ByteArray) (h : s.size = 64) : pad s = s := by
  unfold pad
  rw [h]
  apply ByteArray.ext
  simp [zeros]
theorem sucells_next (A B : Got) (s : ByteArray) (b : Bool) (hA : 0 ≤ A.1) (hB : 0 ≤ B.1) :
    ((suNext (sucells A B)).2 = 0 ∧ sucells ((suNext (sucells A B)).1, s, b) B = (s, (suNext (sucells A B)).1, 0, 0)) ∨
    ((suNext (sucells A B)).2 = 1 ∧ sucells A ((suNext (sucells A B)).1, s, b) = (s, (suNext (sucells A B)).1, 1, 0)) := by
  unfold sucells suNext
  by_cases h0 : A.1 = 0 ∧ B.1 = 0
  · left
    rw [if_pos h0, if_pos rfl]
    refine ⟨rfl, ?_⟩
    rw [if_neg (by simp), if_pos (by simp; omega)]
  · by_cases h1 : B.1 ≤ A.1
    · right
      rw [if_neg h0, if_pos h1, if_neg (by simp)]
      refine ⟨by simp, ?_⟩
      dsimp only
      rw [if_neg (by omega), if_neg (by omega)]
    · left
      rw [if_neg h0, if_neg h1, if_neg (by simp)]
      refine ⟨by simp, ?_⟩
      dsimp only
      rw [if_neg (by omega), if_pos (by omega)]
theorem sucells_range (A B : Got) (hA : 0 ≤ A.1 ∧ A.1 ≤ 18446744073709551615) (hB : 0 ≤ B.1 ∧ B.1 ≤ 18446744073709551615) :
    0 ≤ (sucells A B).2.1 ∧ (sucells A B).2.1 ≤ 18446744073709551615 ∧ ((sucells A B).2.2.2 = 6 ∨ (sucells A B).2.2.2 = 0) ∧ ((sucells A B).2.2.2 = 6 → (sucells A B).2.1 = 0) ∧ ((sucells A B).2.2.1 = 0 ∨ (sucells A B).2.2.1 = 1) := by
  unfold sucells
  split
  · simp
  · split
    · simp; omega
    · simp; omega
/-- Where a body goes that is written next. -/
theorem suwrite_put {d : Dv} (hl : Live d) {a : Nat} (ha : a + 1 < d.n) (s : ByteArray) (hs : s.size ≤ 51) (r : ByteArray × Int × Int × Int) (hr : suread d a = r) (hg : r.2.1 ≠ 18446744073709551615) :
    suwrite d a s = suput d ((a : Int) + (suNext r).2) (suNext r).1 s := by
  have hc := sucells_range (sget (d.s a)) (sget (d.s (a + 1))) ⟨(sget_range _).1, (sget_range _).2.1⟩ ⟨(sget_range _).1, (sget_range _).2.1⟩
  rw [← suread_live hl ha, hr] at hc
  unfold suwrite suput suNext
  rw [if_neg (by omega), hr, if_neg (by rcases hc.2.2.1 with q | q <;> rw [q] <;> simp), if_neg hg]
  rcases hc.2.2.1 with q | q
  · have := hc.2.2.2.1 q
    rw [q, if_pos rfl, if_pos rfl, this]; simp
  · have e6 : ¬ (0 : Int) = 6 := by omega
    rw [q]
    simp only [e6, if_false]
    rw [show (a : Int) + 1 - r.2.2.1 = (a : Int) + (1 - r.2.2.1) by omega]
theorem suput_live {d : Dv} (hl : Live d) {k : Nat} (hk : k < d.n) (n : Nat) (hn : 0 < n) (s : ByteArray) (hs : s.size ≤ 51) : suput d k n s = (0, dsettle (dset k (cput (sbody n s)) d)) := by
  unfold suput
  have hz : (cput (sbody n s)).size ≤ 64 := Nat.le_of_eq (cput_size64 n s hs)
  rw [sput_ok n hn s hs, hl.write hk hz, if_neg (by simp)]
  exact (hl.set k _).flush
theorem suput_cell {d : Dv} (hok : d.ok) {k : Nat} (hk : k < d.n) (n : Nat) (hn : 0 < n) (hn2 : n < 18446744073709551616) (s : ByteArray) (hs : s.size ≤ 51) (i : Nat) :
    (dset k (cput (sbody n s)) d).s i = if i = k then cput (sbody n s) else d.s i := by
  rw [dset_s hok hk, pad64 _ (cput_size64 n s hs)]
/-- A body is written: it is read then; what stands elsewhere stays. -/
theorem su_stepW {d : Dv} (hok : d.ok) (hl : Live d) {a : Nat} (ha : a + 1 < d.n) (s : ByteArray) (hs : s.size ≤ 51) (r : ByteArray × Int × Int × Int) (hr : suread d a = r) (hg : r.2.1 ≠ 18446744073709551615) :
    ∃ D, suwrite d a s = (0, D) ∧ D.ok ∧ Live D ∧ D.n = d.n ∧ suread D a = (s, (suNext r).1, (suNext r).2, 0) ∧ (∀ i, i ≠ a → i ≠ a + 1 → D.s i = d.s i) ∧ ∀ i, D.w i = false := by
  have hA := sget_range (d.s a)
  have hB := sget_range (d.s (a + 1))
  have hc := sucells_range (sget (d.s a)) (sget (d.s (a + 1))) ⟨hA.1, hA.2.1⟩ ⟨hB.1, hB.2.1⟩
  have hw := suwrite_put hl ha s hs r hr hg
  have hrl := suread_live hl ha
  rw [hr] at hrl
  rw [← hrl] at hc
  have hG : 0 < (suNext r).1 ∧ (suNext r).1 < 18446744073709551616 := by
    unfold suNext
    split
    · simp
    · dsimp only; omega
  obtain ⟨n, hn⟩ := Int.eq_ofNat_of_zero_le (show 0 ≤ (suNext r).1 by omega)
  have hn0 : 0 < n := by omega
  have hn1 : n < 18446744073709551616 := by omega
  have hgp := sget_put n hn0 hn1 s hs
  have hx := sucells_next (sget (d.s a)) (sget (d.s (a + 1))) s true hA.1 hB.1
  rw [← hrl, hn] at hx
  rw [hn] at hw
  have hz : (cput (sbody n s)).size ≤ 64 := Nat.le_of_eq (cput_size64 n s hs)
  rcases hx with ⟨h1, h2⟩ | ⟨h1, h2⟩
  · have hk : a < d.n := by omega
    rw [h1, Int.add_zero, suput_live hl hk n hn0 s hs] at hw
    have hnn : (dsettle (dset a (cput (sbody n s)) d)).n = d.n := dsettle_n (dset_ok hok hk hz)
    have hlD := (hl.set a (cput (sbody n s))).settle
    have hsD : ∀ i, (dsettle (dset a (cput (sbody n s)) d)).s i = if i = a then cput (sbody n s) else d.s i := suput_cell hok hk n hn0 hn1 s hs
    refine ⟨_, hw, dsettle_ok (dset_ok hok hk hz), hlD, hnn, ?_, fun i hi _ => by rw [hsD, if_neg hi], fun i => getD_rep _ _ _⟩
    rw [suread_live hlD (by rw [hnn]; exact ha), hsD, hsD, if_pos rfl, if_neg (by omega), hgp, h1, hn]
    exact h2
  · rw [h1, show (a : Int) + 1 = ((a + 1 : Nat) : Int) by omega, suput_live hl ha n hn0 s hs] at hw
    have hnn : (dsettle (dset (a + 1) (cput (sbody n s)) d)).n = d.n := dsettle_n (dset_ok hok ha hz)
    have hlD := (hl.set (a + 1) (cput (sbody n s))).settle
    have hsD : ∀ i, (dsettle (dset (a + 1) (cput (sbody n s)) d)).s i = if i = a + 1 then cput (sbody n s) else d.s i := suput_cell hok ha n hn0 hn1 s hs
    refine ⟨_, hw, dsettle_ok (dset_ok hok ha hz), hlD, hnn, ?_, fun i _ hi => by rw [hsD, if_neg hi], fun i => getD_rep _ _ _⟩
    rw [suread_live hlD (by rw [hnn]; exact ha), hsD, hsD, if_neg (by omega), if_pos rfl, hgp, h1, hn]
    exact h2
theorem su_step {d : Dv} (hok : d.ok) (hl : Live d) {a : Nat} (ha : a + 1 < d.n) (s : ByteArray) (hs : s.size ≤ 51) (r : ByteArray × Int × Int × Int) (hr : suread d a = r) (hg : r.2.1 ≠ 18446744073709551615) :
    ∃ D, suwrite d a s = (0, D) ∧ D.ok ∧ Live D ∧ D.n = d.n ∧ suread D a = (s, (suNext r).1, (suNext r).2, 0) ∧ ∀ i, i ≠ a → i ≠ a + 1 → D.s i = d.s i :=
  let ⟨D, h1, h2, h3, h4, h5, h6, _⟩ := su_stepW hok hl ha s hs r hr hg
  ⟨D, h1, h2, h3, h4, h5, h6⟩
theorem secZ_zero : (sread8 (secZ.extract 4 secZ.size)).1 = 0 := by decide +kernel
theorem sget_none (s : ByteArray) (h : (sread8 (s.extract 4 s.size)).1 = 0) : sget s = (0, ⟨#[]⟩, false) := by
  rcases sget_cases s with q | ⟨n, b, h1, h2, h3, rfl, _⟩
  · exact q
  · rw [cput_extract, sread8_body n h2 b h3] at h
    dsimp only at h; omega
theorem sget_secZ : sget secZ = (0, ⟨#[]⟩, false) := sget_none _ secZ_zero
theorem suread_new (n a : Nat) (ha : a + 1 < n) : suread (dnew n) a = (⟨#[]⟩, 0, 0, 6) := by
  rw [suread_live (live_new n) (by rw [dnew_n]; exact ha)]
  have h : ∀ i, (dnew n).s i = secZ := fun i => getD_rep _ _ _
  rw [h, h, sget_secZ]
  rfl
end Go.Pin
namespace Go.Proofs.YtpfkpaombiikcaaDoor
open Go.RowKit Go.Pin
set_option linter.unusedVariables false
set_option linter.unusedSimpArgs false
/-- Write, Read, whose answers are known. -/
theorem super_write_to (b f m : Nat) (d : Dv) (k : Int) (a : Nat) (hk : k = (a : Int)) (ha : a ≤ 4096) (s : ByteArray) (hs : s.size ≤ 1152921504606846976) (c : Int) (D : Dv) (hE : suwrite d a s = (c, D)) (w : World) (h : DevAt w b f m d) :
    Calls Tryd.prog 19 #[.pointer (some ⟨b, 0, none⟩), .int .i64 k, .string s] w fun e w' => e = .returned (.int .i64 c) ∧ DevAt w' b f m D ∧ Keep (devS b f m) w w' := by
  subst hk
  have := super_write b f m d a s (by omega) hs w h
  rw [hE] at this; exact this
theorem super_read_to (b f m : Nat) (d : Dv) (k : Int) (a : Nat) (hk : k = (a : Int)) (ha : a ≤ 4096) (s : ByteArray) (g i c : Int) (hE : suread d a = (s, g, i, c)) (w : World) (h : DevAt w b f m d) :
    Calls Tryd.prog 20 #[.pointer (some ⟨b, 0, none⟩), .int .i64 k] w fun e w' => e = .returned (.tuple #[.string s, .int .u64 g, .int .i64 i, .int .i64 c]) ∧ Below w.heap.size w w' := by
  subst hk
  have := super_read b f m d a (by omega) w h
  rw [hE] at this; exact this
theorem super_put_to (g : Int) (n : Nat) (hg : g = (n : Int)) (h0 : 0 < n) (h1 : n < 18446744073709551616) (b : ByteArray) (hb : b.size ≤ 51) (w : World) :
    Calls Tryd.prog 12 #[.int .u64 g, .string b] w fun e w' => e = .returned (.tuple #[.string (cput (sbody n b)), .bool true]) ∧ Below w.heap.size w w' := by
  subst hg
  have := super_put n (by omega) b (by omega) w
  rw [sput_ok n h0 b hb] at this; exact this
theorem super_get_to (s : ByteArray) (g : Int) (b : ByteArray) (o : Bool) (hE : sget s = (g, b, o)) (hs : s.size ≤ 64) (w : World) :
    Calls Tryd.prog 15 #[.string s] w fun e w' => e = .returned (.tuple #[.int .u64 g, .string b, .bool o]) ∧ Below w.heap.size w w' := by
  have := super_get s (by omega) w
  rw [hE] at this; exact this
theorem super_put_no (b : ByteArray) (hb : b.size ≤ 64) (w : World) :
    Calls Tryd.prog 12 #[.int .u64 0, .string b] w fun e w' => e = .returned (.tuple #[.string ⟨#[]⟩, .bool false]) ∧ Below w.heap.size w w' :=
  super_put 0 (by omega) b (by omega) w
set_option maxHeartbeats 1600000 in
theorem super_examples (w : World) : Calls Tryd.prog 11 #[] w fun e w' => e = .returned (.bool true) ∧ Below w.heap.size w w' := by
  have hse := str_beq
  have hz : (cput (sbody 1 ⟨#[97, 98]⟩)).size = 64 := cput_size64 1 _ (by decide)
  have hg : sget (cput (sbody 1 ⟨#[97, 98]⟩)) = (1, ⟨#[97, 98]⟩, true) := sget_put 1 (by omega) (by omega) _ (by decide)
  obtain ⟨T, hT⟩ : ∃ T, cput (sbody 1 ⟨#[97, 98]⟩) = T := ⟨_, rfl⟩
  have hp := super_put_to 1 1 rfl (by omega) (by omega) ⟨#[97, 98]⟩ (by decide) w
  rw [hT] at hz hg hp
  have Hg := Aside.mk hg
  obtain ⟨D, hD, hDo, hDl, hDn, hDr, _⟩ := su_step (dnew_ok 2 (by omega) (by omega)) (live_new 2) (a := 0) (by rw [dnew_n]; omega) ⟨#[120]⟩ (by decide) _ (suread_new 2 0 (by omega)) (by simp)
  have HD := Aside.mk hD
  have HDr := Aside.mk hDr
  have hb := Below.refl w.heap.size w
  clear hT hg hD hDr hDn
  go_enter Tryd.func11, Tryd.ntmps11
  go_wp2_with fail
  refine hp.mono ?_
  rintro e w1 ⟨rfl, hbb⟩
  replace hb := Below.next hb hbb
  clear hbb hp
  go_wp2_with fail
  refine (super_get_to T _ _ _ Hg.out (by omega) _).mono ?_
  rintro e w2 ⟨rfl, hbb⟩
  replace hb := Below.next hb hbb
  clear hbb
  go_wp2_with fail
  refine (super_put_no ⟨#[]⟩ (by decide) _).mono ?_
  rintro e w3 ⟨rfl, hbb⟩
  replace hb := Below.next hb hbb
  clear hbb
  go_wp2_with fail
  with_reducible refine (dev_new' 2 2 rfl (by omega) (by omega) _).mono ?_
  rintro e w4 ⟨bA, fA, mA, rfl, hbA, hfA, hmA, dA, hbb⟩
  replace hbA := Nat.le_trans hb.size hbA
  replace hfA := Nat.le_trans hb.size hfA
  replace hmA := Nat.le_trans hb.size hmA
  replace hb := Below.next hb hbb
  clear hbb
  go_wp2_with fail
  refine (super_read_to bA fA mA _ 0 0 rfl (by omega) _ _ _ _ (suread_new 2 0 (by omega)) _ dA).mono ?_
  rintro e w5 ⟨rfl, hbb⟩
  replace dA := dA.below hbb
  replace hb := Below.next hb hbb
  clear hbb
  go_wp2_with fail
  refine (super_write_to bA fA mA _ 0 0 rfl (by omega) ⟨#[120]⟩ (by decide) 0 D HD.out _ dA).mono ?_
  rintro e w6 ⟨rfl, qA, hkk⟩
  replace hb := Below.dev hb hkk hb.size hbA hfA hmA
  clear dA hkk
  go_wp2_with fail
  refine (super_read_to bA fA mA _ 0 0 rfl (by omega) _ _ _ _ HDr.out _ qA).mono ?_
  rintro e w7 ⟨rfl, hbb⟩
  replace hb := Below.next hb hbb
  clear hbb
  go_wp2_with fail
  go_ret
  exact ⟨rfl, hb⟩
end Go.Proofs.YtpfkpaombiikcaaDoor
