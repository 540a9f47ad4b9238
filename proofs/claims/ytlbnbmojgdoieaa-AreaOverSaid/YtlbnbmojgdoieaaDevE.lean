/- The examples of chapter 3, and the statements that need them alone: words. -/
import Derived.Test.YtlbnbmojgdoieaaDevL
import Derived.OpenShut
set_option maxRecDepth 16000
namespace Go.Proofs.Ytlbnbmojgdoieaa
open Go.RowKit Go.Pin
set_option linter.unusedVariables false
set_option linter.unusedSimpArgs false

/-- A new device, its blocks under names of their own. -/
def MadeDev (d : Dv) (w : World) (e : Ending) (w' : World) : Prop :=
  ∃ b f m : Nat, e = .returned (.tuple #[.pointer (some ⟨b, 0, none⟩), .int .i64 0]) ∧ w.heap.size ≤ b ∧ w.heap.size ≤ f ∧ w.heap.size ≤ m ∧ DevAt w' b f m d ∧ Below w.heap.size w w'
/-- .. alone. -/
def MadeDev1 (d : Dv) (w : World) (e : Ending) (w' : World) : Prop :=
  ∃ b f m : Nat, e = .returned (.pointer (some ⟨b, 0, none⟩)) ∧ w.heap.size ≤ b ∧ w.heap.size ≤ f ∧ w.heap.size ≤ m ∧ DevAt w' b f m d ∧ Below w.heap.size w w'
theorem dev_new' (k : Int) (n : Nat) (hk : k = (n : Int)) (h1 : 1 ≤ n) (h2 : n ≤ 4096) (w : World) : Calls Try.prog 16 #[.int .i64 k] w (MadeDev (dnew n) w) := by
  subst hk
  exact (dev_new n h1 h2 w).mono fun e w' ⟨h1, h2, _, h4⟩ => ⟨_, _, _, h1, by omega, by omega, by omega, h2, h4⟩
theorem dev_of' (s : ByteArray) (n : Nat) (hs : s.size = n * 64) (h1 : 1 ≤ n) (h2 : n ≤ 4096) (w : World) : Calls Try.prog 22 #[.string s] w (MadeDev (dofv s) w) :=
  (dev_of s n hs h1 h2 w).mono fun e w' ⟨h1, h2, _, h4⟩ => ⟨_, _, _, h1, by omega, by omega, by omega, h2, h4⟩
theorem dev_after' (b f m : Nat) (d : Dv) (a : Option Addr) (l c0 : Nat) (lost : List Int) (hl : l = lost.length) (w : World) (h : DevAt w b f m d) (hlen : lost.length ≤ 9223372036854775807) (hs : SlI w a lost) :
    Calls Try.prog 26 #[.pointer (some ⟨b, 0, none⟩), .slice a l c0] w (MadeDev1 (dafter d lost) w) := by
  subst hl
  exact (dev_after b f m d a c0 lost w h hlen hs).mono fun e w' ⟨b', f', m', h1, h2, h3, h4, h5, h6⟩ => ⟨b', f', m', h1, h2, h3, h4, h5, h6⟩
/-- The places that wait, as a slice of so many. -/
def WaitsTo (n : Nat) (w : World) (e : Ending) (w' : World) : Prop := ∃ (a : Option Addr) (c : Nat), e = .returned (.slice a n c) ∧ Below w.heap.size w w'
theorem dev_waiting' (b f m : Nat) (d : Dv) (n : Nat) (hn : (dwaiting d).length = n) (w : World) (h : DevAt w b f m d) :
    Calls Try.prog 19 #[.pointer (some ⟨b, 0, none⟩)] w (WaitsTo n w) := by
  subst hn
  exact (dev_waiting b f m d w h).mono fun e w' ⟨a, c, h1, _, h3⟩ => ⟨a, c, h1, h3⟩
theorem dev_write_err (b f m : Nat) (d : Dv) (k : Int) (s : ByteArray) (r : Int) (hr : dwrite d k s = (r, d)) (hk : -9223372036854775808 ≤ k ∧ k ≤ 9223372036854775807) (hsz : s.size ≤ 9223372036854775807) (w : World) (h : DevAt w b f m d) :
    Calls Try.prog 17 #[.pointer (some ⟨b, 0, none⟩), .int .i64 k, .string s] w fun e w' => e = .returned (.int .i64 r) ∧ DevAt w' b f m d ∧ Keep (devS b f m) w w' := by
  have := dev_write b f m d k s hk hsz w h
  rw [hr] at this; exact this
theorem dev_image' (b f m : Nat) (d : Dv) (I : ByteArray) (hI : dimage d = I) (w : World) (h : DevAt w b f m d) :
    Calls Try.prog 21 #[.pointer (some ⟨b, 0, none⟩)] w fun e w' => e = .returned (.string I) ∧ Below w.heap.size w w' := by
  subst hI; exact dev_image b f m d w h
theorem dev_sectors' (b f m : Nat) (d : Dv) (n : Int) (hn : (d.n : Int) = n) (w : World) (h : DevAt w b f m d) :
    Calls Try.prog 20 #[.pointer (some ⟨b, 0, none⟩)] w fun e w' => e = .returned (.int .i64 n) ∧ w' = w := by
  subst hn; exact dev_sectors b f m d w h
theorem dev_read' (b f m : Nat) (d : Dv) (k : Int) (hk : -9223372036854775808 ≤ k ∧ k ≤ 9223372036854775807) (s : ByteArray) (r : Int) (hr : dread d k = (s, r)) (w : World) (h : DevAt w b f m d) :
    Calls Try.prog 18 #[.pointer (some ⟨b, 0, none⟩), .int .i64 k] w fun e w' => e = .returned (.tuple #[.string s, .int .i64 r]) ∧ Below w.heap.size w w' := by
  have := dev_read b f m d k hk w h
  rw [hr] at this; exact this
theorem slI_nil (w : World) (a : Option Addr) : SlI w a [] := fun q => absurd q (by decide)
theorem dwrite_ref {d : Dv} {k : Int} {s : ByteArray} {r : Int} (h : dref d k = r) (hr : r ≠ 0) : dwrite d k s = (r, d) := by unfold dwrite; rw [h, if_pos hr]
theorem dread_ref {d : Dv} {k r : Int} (h : dref d k = r) (hr : r ≠ 0) : dread d k = (⟨#[]⟩, r) := by unfold dread; rw [h, if_pos hr]
theorem ab0 : (pad ⟨#[97, 98]⟩).extract 0 3 = ⟨#[97, 98, 0]⟩ := by decide +kernel
theorem ab_size : (pad ⟨#[97, 98]⟩).size = 64 := by decide +kernel
theorem ab_wait : (dwaiting (dset 1 ⟨#[97, 98]⟩ (dnew 2))).length = 1 := by decide +kernel
theorem ab_read : (dset 1 ⟨#[97, 98]⟩ (dnew 2)).s 1 = pad ⟨#[97, 98]⟩ := by decide +kernel
set_option maxHeartbeats 1600000 in
theorem dev_examples (w : World) : Calls Try.prog 15 #[] w fun e w' => e = .returned (.bool true) ∧ Below w.heap.size w w' := by
  have hx0 := ab0
  have hxs := ab_size
  have hX := Aside.mk ab_read
  have hb := Below.refl w.heap.size w
  have hse := str_beq
  go_enter Try.func15, Try.ntmps15
  go_wp2_with fail
  with_reducible refine (dev_new' 2 2 rfl (by omega) (by omega) _).mono ?_
  rintro e w1 ⟨bA, fA, mA, rfl, hbA, hfA, hmA, dA, hbb⟩
  replace hbA := Nat.le_trans hb.size hbA
  replace hfA := Nat.le_trans hb.size hfA
  replace hmA := Nat.le_trans hb.size hmA
  replace hb := Below.next hb hbb
  clear hbb
  go_wp2_with fail
  with_reducible refine (dev_new_no 0 (by omega) _).mono ?_
  rintro e w' ⟨rfl, rfl⟩
  go_wp2_with fail
  with_reducible refine (dev_write_ok bA fA mA _ 1 1 rfl (by rw [dnew_n]; omega) ⟨#[97, 98]⟩ (by decide) (live_new 2) _ dA).mono ?_
  rintro e w2 ⟨rfl, qA, hkk⟩
  replace hb := Below.dev hb hkk hb.size hbA hfA hmA
  clear dA hkk
  have dA := qA
  clear qA
  go_wp2_with fail
  with_reducible refine (dev_read_ok bA fA mA _ 1 1 rfl (by rw [dset_n, dnew_n]; omega) ((live_new 2).set _ _) _ dA).mono ?_
  rintro e w3 ⟨rfl, hbb⟩
  replace dA := dA.below hbb
  replace hb := Below.next hb hbb
  clear hbb
  rw [hX.out]
  generalize pad ⟨#[97, 98]⟩ = X at *
  have hxz : (64 : Int) ≤ (X.size : Int) := by omega
  go_wp2_with fail
  with_reducible refine (dev_write_err bA fA mA _ 2 ⟨#[]⟩ 5 (dwrite_ref (by decide +kernel) (by decide)) (by omega) (by decide) _ dA).mono ?_
  rintro e w4 ⟨rfl, qA, hkk⟩
  replace hb := Below.dev hb hkk hb.size hbA hfA hmA
  clear dA hkk
  have dA := qA
  clear qA
  go_wp2_with fail
  refine (dev_waiting' bA fA mA _ 1 ab_wait _ dA).mono ?_
  rintro e w5 ⟨aw, cw, rfl, hbb⟩
  replace dA := dA.below hbb
  replace hb := Below.next hb hbb
  clear hbb
  go_wp2_with fail
  with_reducible refine (dev_sectors' bA fA mA _ 2 (by rw [dset_n, dnew_n]; omega) _ dA).mono ?_
  rintro e w' ⟨rfl, rfl⟩
  go_wp2_with fail
  go_ret
  exact ⟨rfl, hb⟩
end Go.Proofs.Ytlbnbmojgdoieaa
