import Derived.Test.YtpfkpaombiikcaaGreatDoorDevT
import Derived.Test.YtpfkpaombiikcaaGreatDoorDevO
/- A device that is not armed: what its methods answer; whole sectors of the statements. -/
set_option maxRecDepth 16000
namespace Go.Pin
open Go.RowKit
set_option linter.unusedVariables false
set_option linter.unusedSimpArgs false
structure Live (d : Dv) : Prop where
  arm : d.armed = -1
  dead : d.dead = false
theorem Live.set {d : Dv} (h : Live d) (k : Nat) (s : ByteArray) : Live (dset k s d) := ⟨h.arm, h.dead⟩
theorem Live.settle {d : Dv} (h : Live d) : Live (dsettle d) := ⟨h.arm, h.dead⟩
theorem live_new (n : Nat) : Live (dnew n) := ⟨rfl, rfl⟩
theorem live_of (s : ByteArray) : Live (dofv s) := ⟨rfl, rfl⟩
theorem live_after (d : Dv) (l : List Int) : Live (dafter d l) := ⟨rfl, rfl⟩
theorem Live.ref {d : Dv} (h : Live d) {k : Nat} (hk : k < d.n) : dref d (k : Int) = 0 := by
  unfold dref; rw [if_neg (by rw [h.dead]; simp), if_neg (by omega)]
theorem Live.step {d : Dv} (h : Live d) : dstep d = d := by unfold dstep; rw [h.arm, if_neg (by omega), ← h.arm]
theorem Live.write {d : Dv} (h : Live d) {k : Nat} (hk : k < d.n) {s : ByteArray} (hs : s.size ≤ 64) : dwrite d (k : Int) s = (0, dset k s d) := by
  unfold dwrite dtry
  rw [h.ref hk, if_neg (by simp), if_neg (by omega), if_neg (by rw [h.arm]; omega), h.step, Int.toNat_natCast]
theorem Live.read {d : Dv} (h : Live d) {k : Nat} (hk : k < d.n) : dread d (k : Int) = (d.s k, 0) := by
  unfold dread; rw [h.ref hk, if_neg (by simp), Int.toNat_natCast]
theorem Live.flush {d : Dv} (h : Live d) : dflush d = (0, dsettle d) := by
  unfold dflush dtry; rw [if_neg (by rw [h.dead]; simp), if_neg (by rw [h.arm]; omega), h.step]
/-- Two devices that share no block. -/
def Apart (b f m b' f' m' : Nat) : Prop := ∀ k, devS b f m k → ¬ devS b' f' m' k
theorem Apart.symm {b f m b' f' m' : Nat} (h : Apart b f m b' f' m') : Apart b' f' m' b f m := fun k h1 h2 => h k h2 h1
theorem DevAt.apart {a : World} {b f m b' f' m' : Nat} {d : Dv} (h : DevAt a b f m d) (h1 : a.heap.size ≤ b') (h2 : a.heap.size ≤ f') (h3 : a.heap.size ≤ m') : Apart b f m b' f' m' := by
  have := h.lt
  rintro k (q | q | q) (r | r | r) <;> omega
theorem DevAt.keepA {a w : World} {b f m b' f' m' : Nat} {d : Dv} (h : DevAt a b f m d) (hA : Apart b f m b' f' m') (hk : Keep (devS b' f' m') a w) : DevAt w b f m d :=
  h.keep hk ⟨hA b (.inl rfl), hA f (.inr (.inl rfl)), hA m (.inr (.inr rfl))⟩
theorem Below.dev {a b c : World} {B x f m : Nat} (h : Below B a b) (hk : Keep (devS x f m) b c) (hB : B ≤ b.heap.size) (h1 : B ≤ x) (h2 : B ≤ f) (h3 : B ≤ m) : Below B a c :=
  h.trans (hk.below hB fun k q => by rcases q with q | q | q <;> omega)
theorem dset_n (k : Nat) (s : ByteArray) (d : Dv) : (dset k s d).n = d.n := rfl
theorem dnew_n (n : Nat) : (dnew n).n = n := by simp [dnew, Dv.n]
theorem pad_long (s : ByteArray) (h : s.size ≤ 64) : (s ++ zeros 64).extract 0 64 = pad s := by
  unfold pad
  apply ByteArray.ext
  apply Array.ext'
  have hl : s.data.toList.length = s.size := rfl
  simp only [ByteArray.data_extract, ByteArray.data_append, Array.toList_extract, Array.toList_append, List.extract_eq_take_drop, List.drop_zero, Nat.sub_zero]
  rw [List.take_append, List.take_of_length_le (by rw [hl]; exact h)]
  congr 1
  show List.take (64 - s.data.toList.length) (Array.replicate 64 (0 : UInt8)).toList = (Array.replicate (64 - s.size) (0 : UInt8)).toList
  rw [Array.toList_replicate, Array.toList_replicate, List.take_replicate, hl]
  congr 1
  omega
end Go.Pin
namespace Go.Proofs.YtpfkpaombiikcaaGreatDoor
open Go.RowKit Go.Pin
set_option linter.unusedVariables false
set_option linter.unusedSimpArgs false
theorem dev_write_ok (b f m : Nat) (d : Dv) (k : Int) (kn : Nat) (hkn : k = (kn : Int)) (hk : kn < d.n) (s : ByteArray) (hs : s.size ≤ 64) (hl : Live d) (w : World) (h : DevAt w b f m d) :
    Calls Tryz.prog 33 #[.pointer (some ⟨b, 0, none⟩), .int .i64 k, .string s] w fun e w' => e = .returned (.int .i64 0) ∧ DevAt w' b f m (dset kn s d) ∧ Keep (devS b f m) w w' := by
  subst hkn
  have hn := h.ok.n2
  have := dev_write b f m d kn s (by omega) (by omega) w h
  rw [hl.write hk hs] at this; exact this
theorem dev_read_ok (b f m : Nat) (d : Dv) (k : Int) (kn : Nat) (hkn : k = (kn : Int)) (hk : kn < d.n) (hl : Live d) (w : World) (h : DevAt w b f m d) :
    Calls Tryz.prog 81 #[.pointer (some ⟨b, 0, none⟩), .int .i64 k] w fun e w' => e = .returned (.tuple #[.string (d.s kn), .int .i64 0]) ∧ Below w.heap.size w w' := by
  subst hkn
  have hn := h.ok.n2
  have := dev_read b f m d kn (by omega) w h
  rw [hl.read hk] at this; exact this
theorem dev_flush_ok (b f m : Nat) (d : Dv) (hl : Live d) (w : World) (h : DevAt w b f m d) :
    Calls Tryz.prog 34 #[.pointer (some ⟨b, 0, none⟩)] w fun e w' => e = .returned (.int .i64 0) ∧ DevAt w' b f m (dsettle d) ∧ Keep (devS b f m) w w' := by
  have := dev_flush b f m d w h
  rw [hl.flush] at this; exact this
theorem run_string_zeros (w : World) (n c : Nat) (h : w.heap[c]? = some (.cells (Array.replicate n (.int .u8 0)) 5 (0, 0))) (k : Nat) : (convert 69 9 (.slice (some ⟨c, 0, none⟩) n k)).run Tryz.prog w = .ok (.string (zeros n)) w := by
  have hb : BytesAt w c (List.replicate n 0) := fun j hj => by
    rw [List.length_replicate] at hj
    unfold World.cell?
    simp [h, List.getD, hj]
  have := run_string_bytes (P := Tryz.prog) w 69 9 5 Tryz.underlying69 Tryz.underlying5 Tryz.underlying9 c (List.replicate n 0) n k (by simp) hb
  rw [this]
  unfold zeros
  rw [List.toArray_replicate]
end Go.Proofs.YtpfkpaombiikcaaGreatDoor
