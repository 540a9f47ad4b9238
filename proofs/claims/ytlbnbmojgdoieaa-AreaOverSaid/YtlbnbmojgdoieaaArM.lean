/- A snap on a device: plain words; the sectors of one; one piece. -/
import Derived.Test.YtlbnbmojgdoieaaAreaX
import Derived.Test.YtlbnbmojgdoieaaAreaH
import Derived.Test.YtlbnbmojgdoieaaAreaB
import Derived.Test.YtlbnbmojgdoieaaDevE
import Derived.Test.YtlbnbmojgdoieaaRfX
import Derived.BigRegion
set_option maxRecDepth 16000
namespace Go.Pin
open Go.RowKit
set_option linter.unusedVariables false
set_option linter.unusedSimpArgs false
/-- Sectors that are a device's. -/
def aright (n : Nat) (a m : Int) : Bool := decide (0 ≤ a ∧ 1 ≤ m ∧ a < n ∧ m ≤ n - a)
/-- Sector k's share of bytes. -/
def piece (b : ByteArray) (k : Nat) : ByteArray := b.extract (min (64 * k) b.size) (min (64 * (k + 1)) b.size)
theorem piece_size (b : ByteArray) (k : Nat) : (piece b k).size ≤ 64 := by
  unfold piece; rw [ByteArray.size_extract]; omega
/-- The first k pieces are written, up to the first error. -/
def wrun (b : ByteArray) (a : Nat) (d : Dv) : Nat → Int × Dv
  | 0 => (0, d)
  | k + 1 => if (wrun b a d k).1 ≠ 0 then wrun b a d k else dwrite (wrun b a d k).2 ((a + k : Nat) : Int) (piece b k)
theorem wrun_stuck (b : ByteArray) (a : Nat) (d : Dv) (k : Nat) (h : (wrun b a d k).1 ≠ 0) : ∀ n, k ≤ n → wrun b a d n = wrun b a d k := by
  intro n hn
  induction n with
  | zero => obtain rfl : k = 0 := by omega
            rfl
  | succ n ih =>
    by_cases e : k = n + 1
    · rw [e]
    · have := ih (by omega)
      rw [wrun, this, if_pos h]
def awrite (d : Dv) (a m v : Int) (s : Snap) : Int × Dv :=
  if (aput v s).2 = false ∨ aright d.n a m = false then (1, d) else if 64 * m < (aput v s).1.size then (4, d) else wrun (aput v s).1 a.toNat d m.toNat
/-- What k sectors from a on hold. -/
def rcatL (d : Dv) (a k : Nat) : List UInt8 := ((List.range k).map fun i => (d.s (a + i)).data.toList).flatten
def rcat (d : Dv) (a k : Nat) : ByteArray := ⟨(rcatL d a k).toArray⟩
theorem rcatL_succ (d : Dv) (a k : Nat) : rcatL d a (k + 1) = rcatL d a k ++ (d.s (a + k)).data.toList := by
  unfold rcatL
  rw [List.range_succ, List.map_append, List.flatten_append]; simp
theorem rcatL_len {d : Dv} (h : d.ok) (a : Nat) : ∀ k, (rcatL d a k).length = k * 64
  | 0 => rfl
  | k + 1 => by
    rw [rcatL_succ, List.length_append, rcatL_len h a k]
    have : (d.s (a + k)).data.toList.length = 64 := h.z2 (a + k)
    omega
def aread (d : Dv) (a m : Int) : Snap × Int × Int :=
  if aright d.n a m = false then (snone, 0, 1) else if d.dead = true then (snone, 0, 7) else
  if (aget (rcat d a.toNat m.toNat)).2.2 = true then ((aget (rcat d a.toNat m.toNat)).1, (aget (rcat d a.toNat m.toNat)).2.1, 0) else (snone, 0, 2)
end Go.Pin
namespace Go.Proofs.Ytlbnbmojgdoieaa
open Go.RowKit Go.Pin
set_option linter.unusedVariables false
set_option linter.unusedSimpArgs false
set_option maxHeartbeats 800000 in
theorem area_right (b f m : Nat) (d : Dv) (a k : Int) (ha : -9223372036854775808 ≤ a ∧ a ≤ 9223372036854775807) (hk : -9223372036854775808 ≤ k ∧ k ≤ 9223372036854775807) (w : World) (h : DevAt w b f m d) :
    Calls Try.prog 80 #[.pointer (some ⟨b, 0, none⟩), .int .i64 a, .int .i64 k] w fun e w' => e = .returned (.bool (aright d.n a k)) ∧ w' = w := by
  have hn := h.ok.n2
  have hsec := dev_sectors b f m d w h
  unfold aright
  by_cases h0 : 0 ≤ a
  · by_cases h1 : 1 ≤ k
    · by_cases h2 : a < (d.n : Int)
      · have hw : IntKind.i64.wrap ((d.n : Int) - a) = (d.n : Int) - a := by rw [IntKind.wrap_i64]; omega
        by_cases h3 : k ≤ (d.n : Int) - a
        · rw [decide_eq_true ⟨h0, h1, h2, h3⟩]
          go_enter Try.func80, Try.ntmps80
          go_wp2_with (go_at_call 20; refine hsec.mono ?_; rintro e w' ⟨rfl, rfl⟩)
          go_ret
          exact ⟨rfl, rfl⟩
        · rw [decide_eq_false (by omega)]
          have hd3 : decide (k ≤ (d.n : Int) - a) = false := by simpa using h3
          go_enter Try.func80, Try.ntmps80
          go_wp2_with (go_at_call 20; refine hsec.mono ?_; rintro e w' ⟨rfl, rfl⟩)
          go_ret
          exact ⟨rfl, rfl⟩
      · rw [decide_eq_false (by omega)]
        go_enter Try.func80, Try.ntmps80
        go_wp2_with (go_at_call 20; refine hsec.mono ?_; rintro e w' ⟨rfl, rfl⟩)
        go_ret
        exact ⟨rfl, rfl⟩
    · rw [decide_eq_false (by omega)]
      go_enter Try.func80, Try.ntmps80
      go_wp2_with fail
      go_ret
      exact ⟨rfl, rfl⟩
  · rw [decide_eq_false (by omega)]
    go_enter Try.func80, Try.ntmps80
    go_wp2_with fail
    go_ret
    exact ⟨rfl, rfl⟩
set_option maxHeartbeats 800000 in
theorem area_write1 (b f m PD PA PB : Nat) (d : Dv) (a k : Nat) (ha : a + k ≤ 4096) (s : ByteArray) (hs : s.size ≤ 1152921504606846976) (w : World) (h : DevAt w b f m d) (hD : w.cell? ⟨PD, 0, none⟩ = some (.pointer (some ⟨b, 0, none⟩))) (hA : w.cell? ⟨PA, 0, none⟩ = some (.int .i64 (a : Int))) (hB : w.cell? ⟨PB, 0, none⟩ = some (.string s)) (hx : ∀ k, devS b f m k → k ≠ PD ∧ k ≠ PA ∧ k ≠ PB) :
    Calls Try.prog 82 #[.int .i64 (k : Int), .pointer (some ⟨PD, 0, none⟩), .pointer (some ⟨PA, 0, none⟩), .pointer (some ⟨PB, 0, none⟩)] w fun e w' => e = .returned (.int .i64 (dwrite d ((a + k : Nat) : Int) (piece s k)).1) ∧ DevAt w' b f m (dwrite d ((a + k : Nat) : Int) (piece s k)).2 ∧ Keep (devS b f m) w w' := by
  obtain ⟨m1, hm1, hm1a, hm1b, hm1c⟩ : ∃ m1 : Nat, min (64 * (k : Int)) (s.size : Int) = (m1 : Int) ∧ m1 = min (64 * k) s.size ∧ m1 ≤ s.size ∧ m1 ≤ 64 * k := ⟨min (64 * k) s.size, by omega, rfl, by omega, by omega⟩
  obtain ⟨m2, hm2, hm2a, hm2b, hm2c⟩ : ∃ m2 : Nat, min (64 * ((k : Int) + 1)) (s.size : Int) = (m2 : Int) ∧ m2 = min (64 * (k + 1)) s.size ∧ m2 ≤ s.size ∧ m1 ≤ m2 := ⟨min (64 * (k + 1)) s.size, by omega, rfl, by omega, by omega⟩
  have hpc : s.extract m1 m2 = piece s k := by unfold piece; rw [hm1a, hm2a]
  have hw1 : IntKind.i64.wrap (64 * (k : Int)) = 64 * (k : Int) := by rw [IntKind.wrap_i64]; omega
  have hw2 : IntKind.i64.wrap ((k : Int) + 1) = (k : Int) + 1 := by rw [IntKind.wrap_i64]; omega
  have hw3 : IntKind.i64.wrap (64 * ((k : Int) + 1)) = 64 * ((k : Int) + 1) := by rw [IntKind.wrap_i64]; omega
  have hw4 : IntKind.i64.wrap ((a : Int) + (k : Int)) = (a : Int) + (k : Int) := by rw [IntKind.wrap_i64]; omega
  have hcast : ((a + k : Nat) : Int) = (a : Int) + (k : Int) := by omega
  rw [hcast]
  have hi1 : (m1 : Int) ≤ (m2 : Int) := by omega
  have hi2 : (m2 : Int) ≤ (s.size : Int) := by omega
  have hi0 : (0 : Int) ≤ (m1 : Int) := by omega
  have hps := piece_size s k
  have Hps := Aside.mk hps
  generalize piece s k = T at *
  clear hm1a hm2a hcast hps hm1c
  have Hx := Aside.mk hx
  clear hx
  have Hab := Aside.mk (show -9223372036854775808 ≤ (a : Int) + (k : Int) ∧ (a : Int) + (k : Int) ≤ 9223372036854775807 by omega)
  go_enter Try.func82, Try.ntmps82
  go_wp2_with fail
  go_region_held3 (fun w' => w'.cell? ⟨PD, 0, none⟩ = some (.pointer (some ⟨b, 0, none⟩)) ∧ w'.cell? ⟨PA, 0, none⟩ = some (.int .i64 (a : Int)) ∧ w'.cell? ⟨PB, 0, none⟩ = some (.string s)) (first | go_keep | exact hq2) (first
    | (go_at_call 17
       with_reducible refine (dev_write b f m d ((a : Int) + (k : Int)) T Hab.out (by have := Hps.out; omega) _ h.drew).mono ?_
       rintro e w2 ⟨rfl, hd2, hk2⟩
       have hq2 := And.intro (hk2.cell (p := ⟨PD, 0, none⟩) hD (fun q => (Hx.out _ q).1 rfl)) (And.intro (hk2.cell (p := ⟨PA, 0, none⟩) hA (fun q => (Hx.out _ q).2.1 rfl)) (hk2.cell (p := ⟨PB, 0, none⟩) hB (fun q => (Hx.out _ q).2.2 rfl)))
       have Hd2 := Aside.mk hd2
       have Hk2 := Aside.mk hk2
       clear hd2 hk2))
  all_goals
    go_wp2_with fail
    go_ret
    exact ⟨rfl, Hd2.out, Keep.trans ((Keep.refl _ w).drew) Hk2.out⟩
set_option maxHeartbeats 1600000 in
theorem area_each_write (b f m PD PA PB : Nat) (d : Dv) (a n : Nat) (ha : a + n ≤ 4096) (s : ByteArray) (hs : s.size ≤ 1152921504606846976) (w : World) (h : DevAt w b f m d) (hD : w.cell? ⟨PD, 0, none⟩ = some (.pointer (some ⟨b, 0, none⟩))) (hA : w.cell? ⟨PA, 0, none⟩ = some (.int .i64 (a : Int))) (hB : w.cell? ⟨PB, 0, none⟩ = some (.string s)) (hx : ∀ k, devS b f m k → k ≠ PD ∧ k ≠ PA ∧ k ≠ PB) :
    Calls Try.prog 81 #[.int .i64 (n : Int), .func (.func 82) #[] #[.pointer (some ⟨PD, 0, none⟩), .pointer (some ⟨PA, 0, none⟩), .pointer (some ⟨PB, 0, none⟩)]] w fun e w' => e = .returned (.int .i64 (wrun s a d n).1) ∧ DevAt w' b f m (wrun s a d n).2 ∧ Keep (devS b f m) w w' := by
  have Hx := Aside.mk hx
  clear hx
  go_enter Try.func81, Try.ntmps81
  go_wp2_with fail
  go_loopw [8] (fun i wr => ∃ (k : Nat) (D : Dv), k ≤ n ∧ i = .int .i64 k ∧ wrun s a d k = (0, D) ∧ DevAt wr b f m D ∧ Keep (devS b f m) w wr) (fun i _ => n - (intOf i).toNat)
  case atStart => exact ⟨0, d, by omega, rfl, rfl, h, Keep.refl _ _⟩
  case round =>
    clear h
    obtain ⟨k, D, hk, rfl, hr, hd, hkw⟩ := hrel
    have Hr := Aside.mk hr
    clear hr
    by_cases hlt : k < n
    · have cD := hkw.cell hD (fun q => (Hx.out _ q).1 rfl)
      have cA := hkw.cell hA (fun q => (Hx.out _ q).2.1 rfl)
      have cB := hkw.cell hB (fun q => (Hx.out _ q).2.2 rfl)
      have hcon := area_write1 b f m PD PA PB D a k (by omega) s hs wr hd cD cA cB Hx.out
      have hnext : wrun s a d (k + 1) = dwrite D ((a + k : Nat) : Int) (piece s k) := by
        show (if (wrun s a d k).1 ≠ 0 then _ else _) = _
        rw [Hr.out, if_neg (by simp)]
      rw [← hnext] at hcon
      have Hn := Aside.mk hnext
      clear cD cA cB hnext hd
      obtain ⟨C, hC⟩ : ∃ C, wrun s a d (k + 1) = C := ⟨_, rfl⟩
      rw [hC] at hcon
      have HC := Aside.mk hC
      clear hC
      obtain ⟨c, D1⟩ := C
      go_wp2_with fail
      with_reducible refine hcon.mono ?_
      rintro e w2 ⟨rfl, hd2, hk2⟩
      clear hcon
      by_cases h0 : c = 0
      · subst h0
        have Hd2 := Aside.mk hd2
        clear hd2
        go_wp2_with fail
        go_roundw
        case rel => exact ⟨k + 1, D1, by omega, by go_num, HC.out, Hd2.out, hkw.trans hk2⟩
        case measure => simp [intOf]; omega
      · have hb : (c != 0) = true := by simpa using h0
        have Hd2 := Aside.mk hd2
        have Hs := Aside.mk (wrun_stuck s a d (k + 1) (by rw [HC.out]; exact h0) n (by omega))
        clear hd2
        go_wp2_with fail
        go_ret
        rw [Hs.out, HC.out]
        exact ⟨rfl, Hd2.out, hkw.trans hk2⟩
    · obtain rfl : k = n := by omega
      go_wp2_with fail
      go_ret
      rw [Hr.out]
      exact ⟨rfl, hd, hkw⟩
end Go.Proofs.Ytlbnbmojgdoieaa
