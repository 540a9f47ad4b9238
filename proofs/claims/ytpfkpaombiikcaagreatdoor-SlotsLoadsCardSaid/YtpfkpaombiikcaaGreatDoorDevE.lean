import Derived.Test.YtpfkpaombiikcaaGreatDoorDevL
import Derived.OpenShut
/- The examples of chapter 3, and the statements that need them alone: words. -/
set_option maxRecDepth 16000
namespace Go.Proofs.YtpfkpaombiikcaaGreatDoor
open Go.RowKit Go.Pin
set_option linter.unusedVariables false
set_option linter.unusedSimpArgs false

/-- A new device, its blocks under names of their own. -/
def MadeDev (d : Dv) (w : World) (e : Ending) (w' : World) : Prop :=
  ∃ b f m : Nat, e = .returned (.tuple #[.pointer (some ⟨b, 0, none⟩), .int .i64 0]) ∧ w.heap.size ≤ b ∧ w.heap.size ≤ f ∧ w.heap.size ≤ m ∧ DevAt w' b f m d ∧ Below w.heap.size w w'
/-- .. alone. -/
def MadeDev1 (d : Dv) (w : World) (e : Ending) (w' : World) : Prop :=
  ∃ b f m : Nat, e = .returned (.pointer (some ⟨b, 0, none⟩)) ∧ w.heap.size ≤ b ∧ w.heap.size ≤ f ∧ w.heap.size ≤ m ∧ DevAt w' b f m d ∧ Below w.heap.size w w'
theorem dev_new' (k : Int) (n : Nat) (hk : k = (n : Int)) (h1 : 1 ≤ n) (h2 : n ≤ 4096) (w : World) : Calls Tryz.prog 5 #[.int .i64 k] w (MadeDev (dnew n) w) := by
  subst hk
  exact (dev_new n h1 h2 w).mono fun e w' ⟨h1, h2, _, h4⟩ => ⟨_, _, _, h1, by omega, by omega, by omega, h2, h4⟩
/-- The places that wait, as a slice of so many. -/
def WaitsTo (n : Nat) (w : World) (e : Ending) (w' : World) : Prop := ∃ (a : Option Addr) (c : Nat), e = .returned (.slice a n c) ∧ Below w.heap.size w w'
theorem dev_write_err (b f m : Nat) (d : Dv) (k : Int) (s : ByteArray) (r : Int) (hr : dwrite d k s = (r, d)) (hk : -9223372036854775808 ≤ k ∧ k ≤ 9223372036854775807) (hsz : s.size ≤ 9223372036854775807) (w : World) (h : DevAt w b f m d) :
    Calls Tryz.prog 33 #[.pointer (some ⟨b, 0, none⟩), .int .i64 k, .string s] w fun e w' => e = .returned (.int .i64 r) ∧ DevAt w' b f m d ∧ Keep (devS b f m) w w' := by
  have := dev_write b f m d k s hk hsz w h
  rw [hr] at this; exact this
theorem dev_image' (b f m : Nat) (d : Dv) (I : ByteArray) (hI : dimage d = I) (w : World) (h : DevAt w b f m d) :
    Calls Tryz.prog 22 #[.pointer (some ⟨b, 0, none⟩)] w fun e w' => e = .returned (.string I) ∧ Below w.heap.size w w' := by
  subst hI; exact dev_image b f m d w h
theorem dev_sectors' (b f m : Nat) (d : Dv) (n : Int) (hn : (d.n : Int) = n) (w : World) (h : DevAt w b f m d) :
    Calls Tryz.prog 39 #[.pointer (some ⟨b, 0, none⟩)] w fun e w' => e = .returned (.int .i64 n) ∧ w' = w := by
  subst hn; exact dev_sectors b f m d w h
theorem dev_read' (b f m : Nat) (d : Dv) (k : Int) (hk : -9223372036854775808 ≤ k ∧ k ≤ 9223372036854775807) (s : ByteArray) (r : Int) (hr : dread d k = (s, r)) (w : World) (h : DevAt w b f m d) :
    Calls Tryz.prog 81 #[.pointer (some ⟨b, 0, none⟩), .int .i64 k] w fun e w' => e = .returned (.tuple #[.string s, .int .i64 r]) ∧ Below w.heap.size w w' := by
  have := dev_read b f m d k hk w h
  rw [hr] at this; exact this
theorem slI_nil (w : World) (a : Option Addr) : SlI w a [] := fun q => absurd q (by decide)
theorem dwrite_ref {d : Dv} {k : Int} {s : ByteArray} {r : Int} (h : dref d k = r) (hr : r ≠ 0) : dwrite d k s = (r, d) := by unfold dwrite; rw [h, if_pos hr]
theorem dread_ref {d : Dv} {k r : Int} (h : dref d k = r) (hr : r ≠ 0) : dread d k = (⟨#[]⟩, r) := by unfold dread; rw [h, if_pos hr]
theorem ab0 : (pad ⟨#[97, 98]⟩).extract 0 3 = ⟨#[97, 98, 0]⟩ := by decide +kernel
theorem ab_size : (pad ⟨#[97, 98]⟩).size = 64 := by decide +kernel
theorem ab_wait : (dwaiting (dset 1 ⟨#[97, 98]⟩ (dnew 2))).length = 1 := by decide +kernel
theorem ab_read : (dset 1 ⟨#[97, 98]⟩ (dnew 2)).s 1 = pad ⟨#[97, 98]⟩ := by decide +kernel
end Go.Proofs.YtpfkpaombiikcaaGreatDoor
