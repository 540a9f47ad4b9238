/- What chapter 3's 'same' and 'does' compute: a deed on a device and on the document's. -/
import Derived.Test.YtlbnbmojgdoieaaDevE
import Derived.Test.YtlbnbmojgdoieaaRfO
import Derived.Test.YtlbnbmojgdoieaaRfA
import Derived.BigRegion
set_option maxRecDepth 16000
namespace Go.Pin
open Go.RowKit
set_option linter.unusedVariables false
set_option linter.unusedSimpArgs false
/-- A device and the document's, both the device D, apart and above B. -/
structure Pair (w : World) (B b f m r N O V : Nat) (D : Dv) : Prop where
  dev : DevAt w b f m D
  ref : RefAt w r N O V D
  apart : ∀ k, devS b f m k → ¬ refS r N O V k
  low1 : ∀ k, devS b f m k → B ≤ k
  low2 : ∀ k, refS r N O V k → B ≤ k
theorem Pair.below {a w : World} {B b f m r N O V : Nat} {D : Dv} (h : Pair a B b f m r N O V D) (hk : Below a.heap.size a w) : Pair w B b f m r N O V D := ⟨h.dev.below hk, h.ref.below hk, h.apart, h.low1, h.low2⟩
theorem dev_off {a w : World} {b f m : Nat} {D : Dv} (h : DevAt a b f m D) {S : Nat → Prop} (hk : Keep S a w) (ha : ∀ k, devS b f m k → ¬ S k) : DevAt w b f m D := h.keep hk ⟨ha b (.inl rfl), ha f (.inr (.inl rfl)), ha m (.inr (.inr rfl))⟩
theorem ref_off {a w : World} {r N O V : Nat} {D : Dv} (h : RefAt a r N O V D) {S : Nat → Prop} (hk : Keep S a w) (ha : ∀ k, refS r N O V k → ¬ S k) : RefAt w r N O V D :=
  h.keep hk ⟨ha r (.inl rfl), ha N (.inr (.inl rfl)), ha O (.inr (.inr (.inl rfl))), ha V (.inr (.inr (.inr rfl)))⟩
theorem Pair.lt1 {w : World} {B b f m r N O V : Nat} {D : Dv} (h : Pair w B b f m r N O V D) {k : Nat} (hk : devS b f m k) : k < w.heap.size := by
  have := h.dev.lt
  rcases hk with rfl | rfl | rfl
  · exact this.1
  · exact this.2.1
  · exact this.2.2
theorem Pair.lt2 {w : World} {B b f m r N O V : Nat} {D : Dv} (h : Pair w B b f m r N O V D) {k : Nat} (hk : refS r N O V k) : k < w.heap.size := by
  have := h.ref.lt
  rcases hk with rfl | rfl | rfl | rfl
  · exact this.1
  · exact this.2.1
  · exact this.2.2.1
  · exact this.2.2.2
theorem dimg_size {d : Dv} (h : d.ok) : (dimage d).size = d.n * 64 := by
  show (dimgL d d.n).toArray.size = _
  rw [List.size_toArray, dimgL_len h]
/-- First the device has turned, then the document's. -/
theorem Pair.step {w0 w1 w2 : World} {B b f m r N O V : Nat} {D D1 : Dv} (h : Pair w0 B b f m r N O V D) (h1 : DevAt w1 b f m D1) (k1 : Keep (devS b f m) w0 w1) (h2 : RefAt w2 r N O V D1) (k2 : Keep (refS r N O V) w1 w2) : Pair w2 B b f m r N O V D1 :=
  ⟨dev_off h1 k2 h.apart, h2, h.apart, h.low1, h.low2⟩
theorem below_keep {B : Nat} {a b c : World} {S : Nat → Prop} (h : Below B a b) (hB : B ≤ b.heap.size) (k : Keep S b c) (hs : ∀ k, S k → B ≤ k) : Below B a c := h.trans (k.below hB hs)
end Go.Pin
namespace Go.Proofs.Ytlbnbmojgdoieaa
open Go.RowKit Go.Pin
set_option linter.unusedVariables false
set_option linter.unusedSimpArgs false
set_option maxHeartbeats 800000 in
theorem law03_same (a b : Option Addr) (c c' : Nat) (zs : List Int) (hz : zs.length ≤ 4096) (w : World) (h : SlI w a zs) (h' : SlI w b zs) :
    Calls Try.prog 31 #[.slice a zs.length c, .slice b zs.length c'] w fun e w' => e = .returned (.bool true) ∧ Below w.heap.size w w' := by
  have H := Aside.mk h
  have H' := Aside.mk h'
  clear h h'
  go_enter Try.func31, Try.ntmps31
  go_wp2_with fail
  go_loopw [5] (fun i wr => ∃ k n : Nat, k ≤ zs.length ∧ i = .int .i64 k ∧ wr = w.drewN n) (fun i _ => zs.length - (intOf i).toNat)
  case atStart => exact ⟨0, 0, by omega, rfl, rfl⟩
  case round =>
    obtain ⟨k, n, hk, rfl, rfl⟩ := hrel
    by_cases hlt : k < zs.length
    · obtain ⟨g, o, rfl, hc⟩ := H.out (by omega)
      obtain ⟨g', o', rfl, hc'⟩ := H'.out (by omega)
      have c1 := hc k hlt
      have c2 := hc' k hlt
      have hk0 : (0 : Int) ≤ (k : Int) := by omega
      have hk1 : (k : Int) < (zs.length : Int) := by omega
      generalize zs.getD k 0 = z at *
      have hzz : (z != z) = false := by simp
      clear hc hc'
      go_wp2_with fail
      go_quiet (fail)
      go_wp2_with fail
      go_roundw
      case rel => exact ⟨k + 1, n + nq, by omega, by go_num, rfl⟩
      case measure => simp [intOf]; omega
    · obtain rfl : k = zs.length := by omega
      go_wp2_with fail
      go_ret
      exact ⟨rfl, below_drewN (Below.refl _ _) n⟩
/-- What a deed leaves. -/
def DoesTo (B : Nat) (D1 : Dv) (w : World) (e : Ending) (w' : World) : Prop :=
  ∃ b f m r N O V : Nat, e = .returned (.tuple #[.pointer (some ⟨b, 0, none⟩), .pointer (some ⟨r, 0, none⟩), .bool true]) ∧ Pair w' B b f m r N O V D1 ∧ Below B w w'
set_option maxHeartbeats 1600000 in
theorem does_read (B b f m r N O V : Nat) (D : Dv) (k at' : Int) (s : ByteArray) (a : Option Addr) (n : Nat) (c : Nat) (w : World) (h3 : (k.tmod 8 == 3) = true) (hat : -9223372036854775808 ≤ at' ∧ at' ≤ 9223372036854775807) (hp : Pair w B b f m r N O V D) (hB : B ≤ w.heap.size) :
    Calls Try.prog 30 #[.pointer (some ⟨b, 0, none⟩), .pointer (some ⟨r, 0, none⟩), .agg #[.int .u8 k, .int .i64 at', .string s, .slice a n c]] w (DoesTo B (D) w) := by
  have c0 : ∀ i, (w.alloc (.cells #[.int .u8 k, .int .i64 at', .string s, .slice a n c] 50)).cell? ⟨w.heap.size, i, none⟩ = (#[.int .u8 k, .int .i64 at', .string s, .slice a n c] : Array Value)[i]? := fun i => World.cell?_alloc_at _ _ _ _ rfl
  have hb : Below w.heap.size w (w.alloc (.cells #[.int .u8 k, .int .i64 at', .string s, .slice a n c] 50)) := (Below.refl _ _).alloc (Nat.le_refl _) _
  have hp1 := hp.below hb
  have ub : w.heap.size < (w.alloc (.cells #[.int .u8 k, .int .i64 at', .string s, .slice a n c] 50)).heap.size := by simp
  have ux : ∀ k, devS b f m k → k ≠ w.heap.size := fun k hk => Nat.ne_of_lt (hp.lt1 hk)
  have uy : ∀ k, refS r N O V k → k ≠ w.heap.size := fun k hk => Nat.ne_of_lt (hp.lt2 hk)
  have d0 := c0 0
  have d1 := c0 1
  have d2 := c0 2
  have d3 := c0 3
  replace d0 : _ = some (Value.int .u8 k) := d0
  replace d1 : _ = some (Value.int .i64 at') := d1
  replace d2 : _ = some (Value.string s) := d2
  replace d3 : _ = some (Value.slice a n c) := d3
  have hse := str_beq
  have Hb := Aside.mk (hb.mono hB)
  have Ux := Aside.mk ux
  have Uy := Aside.mk uy
  have hB1 : B ≤ (w.alloc (.cells #[.int .u8 k, .int .i64 at', .string s, .slice a n c] 50)).heap.size := by omega
  have Hp1 := Aside.mk hp1
  clear c0 hp hb hp1 ux uy
  go_enter Try.func30, Try.ntmps30
  go_wp2_with fail
  generalize (w.alloc (.cells #[.int .u8 k, .int .i64 at', .string s, .slice a n c] 50)) = w1 at *
  with_reducible refine (dev_read b f m D at' hat _ Hp1.out.dev).mono ?_
  rintro e w2 ⟨rfl, hb2⟩
  have Hp2 := Aside.mk (Hp1.out.below hb2)
  have Hb2 := Aside.mk (Hb.out.trans (hb2.mono hB1))
  have hB2 : B ≤ w2.heap.size := Nat.le_trans hB1 hb2.size
  replace d1 := (Keep.of_below (S := fun _ => False) hb2 fun _ hk _ => hk).cell d1 id
  clear hb2 d0 d2 d3
  go_wp2_with fail
  with_reducible refine (ref_read r N O V D at' hat _ Hp2.out.ref).mono ?_
  rintro e w3 ⟨rfl, rfl⟩
  generalize dread D at' = R at *
  obtain ⟨R1, R2⟩ := R
  go_wp2_with fail
  go_ret3
  exact ⟨b, f, m, r, N, O, V, rfl, Hp2.out, Hb2.out⟩
set_option maxHeartbeats 1600000 in
theorem does_flush (B b f m r N O V : Nat) (D : Dv) (k at' : Int) (s : ByteArray) (a : Option Addr) (n : Nat) (c : Nat) (w : World) (h3 : (k.tmod 8 == 3) = false) (h4 : (k.tmod 8 == 4) = true) (hp : Pair w B b f m r N O V D) (hB : B ≤ w.heap.size) :
    Calls Try.prog 30 #[.pointer (some ⟨b, 0, none⟩), .pointer (some ⟨r, 0, none⟩), .agg #[.int .u8 k, .int .i64 at', .string s, .slice a n c]] w (DoesTo B ((dflush D).2) w) := by
  have c0 : ∀ i, (w.alloc (.cells #[.int .u8 k, .int .i64 at', .string s, .slice a n c] 50)).cell? ⟨w.heap.size, i, none⟩ = (#[.int .u8 k, .int .i64 at', .string s, .slice a n c] : Array Value)[i]? := fun i => World.cell?_alloc_at _ _ _ _ rfl
  have hb : Below w.heap.size w (w.alloc (.cells #[.int .u8 k, .int .i64 at', .string s, .slice a n c] 50)) := (Below.refl _ _).alloc (Nat.le_refl _) _
  have hp1 := hp.below hb
  have ub : w.heap.size < (w.alloc (.cells #[.int .u8 k, .int .i64 at', .string s, .slice a n c] 50)).heap.size := by simp
  have ux : ∀ k, devS b f m k → k ≠ w.heap.size := fun k hk => Nat.ne_of_lt (hp.lt1 hk)
  have uy : ∀ k, refS r N O V k → k ≠ w.heap.size := fun k hk => Nat.ne_of_lt (hp.lt2 hk)
  have d0 := c0 0
  have d1 := c0 1
  have d2 := c0 2
  have d3 := c0 3
  replace d0 : _ = some (Value.int .u8 k) := d0
  replace d1 : _ = some (Value.int .i64 at') := d1
  replace d2 : _ = some (Value.string s) := d2
  replace d3 : _ = some (Value.slice a n c) := d3
  have hse := str_beq
  have Hb := Aside.mk (hb.mono hB)
  have Ux := Aside.mk ux
  have Uy := Aside.mk uy
  have hB1 : B ≤ (w.alloc (.cells #[.int .u8 k, .int .i64 at', .string s, .slice a n c] 50)).heap.size := by omega
  have Hp1 := Aside.mk hp1
  clear c0 hp hb hp1 ux uy
  go_enter Try.func30, Try.ntmps30
  go_wp2_with fail
  generalize (w.alloc (.cells #[.int .u8 k, .int .i64 at', .string s, .slice a n c] 50)) = w1 at *
  with_reducible refine (dev_flush b f m D _ Hp1.out.dev).mono ?_
  rintro e w2 ⟨rfl, hd2, hk2⟩
  have Hd2 := Aside.mk hd2
  have Hr2 := Aside.mk (ref_off Hp1.out.ref hk2 fun k q1 q2 => Hp1.out.apart k q2 q1)
  have Hk2 := Aside.mk hk2
  have Hb2 := Aside.mk (below_keep Hb.out hB1 hk2 Hp1.out.low1)
  have hB2 : B ≤ w2.heap.size := Nat.le_trans hB1 hk2.size
  clear d1
  clear hd2 hk2 d0 d2 d3
  go_wp2_with fail
  with_reducible refine (ref_flush r N O V D _ Hr2.out).mono ?_
  rintro e w3 ⟨rfl, hr3, hk3⟩
  have Hp3 := Aside.mk (Hp1.out.step Hd2.out Hk2.out hr3 hk3)
  have Hb3 := Aside.mk (below_keep Hb2.out hB2 hk3 Hp1.out.low2)
  clear hr3 hk3
  go_wp2_with fail
  go_ret3
  exact ⟨b, f, m, r, N, O, V, rfl, Hp3.out, Hb3.out⟩
set_option maxHeartbeats 1600000 in
theorem does_arm (B b f m r N O V : Nat) (D : Dv) (k at' : Int) (s : ByteArray) (a : Option Addr) (n : Nat) (c : Nat) (w : World) (h3 : (k.tmod 8 == 3) = false) (h4 : (k.tmod 8 == 4) = false) (h5 : (k.tmod 8 == 5) = true) (hat : -9223372036854775808 ≤ at' ∧ at' ≤ 9223372036854775807) (hp : Pair w B b f m r N O V D) (hB : B ≤ w.heap.size) :
    Calls Try.prog 30 #[.pointer (some ⟨b, 0, none⟩), .pointer (some ⟨r, 0, none⟩), .agg #[.int .u8 k, .int .i64 at', .string s, .slice a n c]] w (DoesTo B (darm D at') w) := by
  have c0 : ∀ i, (w.alloc (.cells #[.int .u8 k, .int .i64 at', .string s, .slice a n c] 50)).cell? ⟨w.heap.size, i, none⟩ = (#[.int .u8 k, .int .i64 at', .string s, .slice a n c] : Array Value)[i]? := fun i => World.cell?_alloc_at _ _ _ _ rfl
  have hb : Below w.heap.size w (w.alloc (.cells #[.int .u8 k, .int .i64 at', .string s, .slice a n c] 50)) := (Below.refl _ _).alloc (Nat.le_refl _) _
  have hp1 := hp.below hb
  have ub : w.heap.size < (w.alloc (.cells #[.int .u8 k, .int .i64 at', .string s, .slice a n c] 50)).heap.size := by simp
  have ux : ∀ k, devS b f m k → k ≠ w.heap.size := fun k hk => Nat.ne_of_lt (hp.lt1 hk)
  have uy : ∀ k, refS r N O V k → k ≠ w.heap.size := fun k hk => Nat.ne_of_lt (hp.lt2 hk)
  have d0 := c0 0
  have d1 := c0 1
  have d2 := c0 2
  have d3 := c0 3
  replace d0 : _ = some (Value.int .u8 k) := d0
  replace d1 : _ = some (Value.int .i64 at') := d1
  replace d2 : _ = some (Value.string s) := d2
  replace d3 : _ = some (Value.slice a n c) := d3
  have hse := str_beq
  have Hb := Aside.mk (hb.mono hB)
  have Ux := Aside.mk ux
  have Uy := Aside.mk uy
  have hB1 : B ≤ (w.alloc (.cells #[.int .u8 k, .int .i64 at', .string s, .slice a n c] 50)).heap.size := by omega
  have Hp1 := Aside.mk hp1
  clear c0 hp hb hp1 ux uy
  go_enter Try.func30, Try.ntmps30
  go_wp2_with fail
  generalize (w.alloc (.cells #[.int .u8 k, .int .i64 at', .string s, .slice a n c] 50)) = w1 at *
  with_reducible refine (dev_arm b f m D at' hat _ Hp1.out.dev).mono ?_
  rintro e w2 ⟨rfl, hd2, hk2⟩
  have Hd2 := Aside.mk hd2
  have Hr2 := Aside.mk (ref_off Hp1.out.ref hk2 fun k q1 q2 => Hp1.out.apart k q2 q1)
  have Hk2 := Aside.mk hk2
  have Hb2 := Aside.mk (below_keep Hb.out hB1 hk2 Hp1.out.low1)
  have hB2 : B ≤ w2.heap.size := Nat.le_trans hB1 hk2.size
  replace d1 := hk2.cell d1 (fun q => Ux.out _ q rfl)
  clear hd2 hk2 d0 d2 d3
  go_wp2_with fail
  with_reducible refine (ref_arm r N O V D at' hat _ Hr2.out).mono ?_
  rintro e w3 ⟨rfl, hr3, hk3⟩
  have Hp3 := Aside.mk (Hp1.out.step Hd2.out Hk2.out hr3 hk3)
  have Hb3 := Aside.mk (below_keep Hb2.out hB2 hk3 Hp1.out.low2)
  clear hr3 hk3
  go_wp2_with fail
  go_ret3
  exact ⟨b, f, m, r, N, O, V, rfl, Hp3.out, Hb3.out⟩
set_option maxHeartbeats 1600000 in
theorem does_after (B b f m r N O V : Nat) (D : Dv) (k at' : Int) (s : ByteArray) (a : Option Addr) (c : Nat) (w : World) (L : List Int) (h3 : (k.tmod 8 == 3) = false) (h4 : (k.tmod 8 == 4) = false) (h5 : (k.tmod 8 == 5) = false) (h6 : (k.tmod 8 == 6) = true) (hL : SlI w a L) (hlen : L.length ≤ 9223372036854775807) (hp : Pair w B b f m r N O V D) (hB : B ≤ w.heap.size) :
    Calls Try.prog 30 #[.pointer (some ⟨b, 0, none⟩), .pointer (some ⟨r, 0, none⟩), .agg #[.int .u8 k, .int .i64 at', .string s, .slice a L.length c]] w (DoesTo B (dafter D L) w) := by
  have c0 : ∀ i, (w.alloc (.cells #[.int .u8 k, .int .i64 at', .string s, .slice a L.length c] 50)).cell? ⟨w.heap.size, i, none⟩ = (#[.int .u8 k, .int .i64 at', .string s, .slice a L.length c] : Array Value)[i]? := fun i => World.cell?_alloc_at _ _ _ _ rfl
  have hb : Below w.heap.size w (w.alloc (.cells #[.int .u8 k, .int .i64 at', .string s, .slice a L.length c] 50)) := (Below.refl _ _).alloc (Nat.le_refl _) _
  have hp1 := hp.below hb
  have ub : w.heap.size < (w.alloc (.cells #[.int .u8 k, .int .i64 at', .string s, .slice a L.length c] 50)).heap.size := by simp
  have ux : ∀ k, devS b f m k → k ≠ w.heap.size := fun k hk => Nat.ne_of_lt (hp.lt1 hk)
  have uy : ∀ k, refS r N O V k → k ≠ w.heap.size := fun k hk => Nat.ne_of_lt (hp.lt2 hk)
  have d0 := c0 0
  have d1 := c0 1
  have d2 := c0 2
  have d3 := c0 3
  replace d0 : _ = some (Value.int .u8 k) := d0
  replace d1 : _ = some (Value.int .i64 at') := d1
  replace d2 : _ = some (Value.string s) := d2
  replace d3 : _ = some (Value.slice a L.length c) := d3
  have hse := str_beq
  have Hb := Aside.mk (hb.mono hB)
  have Ux := Aside.mk ux
  have Uy := Aside.mk uy
  have hB1 : B ≤ (w.alloc (.cells #[.int .u8 k, .int .i64 at', .string s, .slice a L.length c] 50)).heap.size := by omega
  have Hp1 := Aside.mk hp1
  have HS := Aside.mk (hL.below hb)
  clear hL
  clear c0 hp hb hp1 ux uy
  go_enter Try.func30, Try.ntmps30
  go_upto_region 13 with fail
  generalize (w.alloc (.cells #[.int .u8 k, .int .i64 at', .string s, .slice a L.length c] 50)) = w1 at *
  have HSd := Aside.mk (show SlI w1.drew a L from HS.out)
  clear d0 d1 d2
  go_region_held3 (fun w' => w'.cell? ⟨w.heap.size, 3, none⟩ = some (.slice a L.length c)) (first | go_keep | exact hq2 | exact hq3) (first
    | (go_at_call 26
       with_reducible refine (dev_after' b f m D a L.length c L rfl _ Hp1.out.dev.drew hlen HSd.out).mono ?_
       rintro e w2 ⟨b1, f1, m1, rfl, g1, g2, g3, hd2, hb2⟩
       have hq2 := (Keep.of_below (S := fun _ => False) hb2 fun _ hk _ => hk).cell (p := ⟨w.heap.size, 3, none⟩) d3 id
       have Hr2 := Aside.mk (Hp1.out.ref.drew.below hb2)
       have Hd2 := Aside.mk hd2
       have Hb2 := Aside.mk hb2
       have HS2 := Aside.mk (SlI.below (w := w1.drew) HS.out hb2)
       clear hd2 hb2)
    | (go_at_call 48
       with_reducible refine (ref_after r N O V D a c L _ Hr2.out hlen HS2.out).mono ?_
       rintro e w3 ⟨r1, N1, O1, V1, rfl, g4, g5, g6, g7, hr3, hb3⟩
       have hq3 := (Keep.of_below (S := fun _ => False) hb3 fun _ hk _ => hk).cell (p := ⟨w.heap.size, 3, none⟩) hq2 id
       have Hr3 := Aside.mk hr3
       have Hd3 := Aside.mk (Hd2.out.below hb3)
       have Hb3 := Aside.mk hb3
       clear hr3 hb3))
  go_wp2_with fail
  have hs1 : w1.heap.size ≤ w2.heap.size := Hb2.out.size
  have l1 := Hd2.out.lt
  replace g1 : w1.heap.size ≤ b1 := g1
  replace g2 : w1.heap.size ≤ f1 := g2
  replace g3 : w1.heap.size ≤ m1 := g3
  go_ret3
  refine ⟨b1, f1, m1, r1, N1, O1, V1, rfl, ⟨Hd3.out, Hr3.out, ?_, ?_, ?_⟩, ?_⟩
  · intro k q1 q2
    unfold devS at q1
    unfold refS at q2
    omega
  · intro k q1
    unfold devS at q1
    omega
  · intro k q1
    unfold refS at q1
    omega
  · exact (Below.trans (b := w1.drew) ⟨Hb.out.os, Hb.out.tape, Hb.out.output, Hb.out.size, Hb.out.block⟩ (Below.mono Hb2.out hB1)).trans (Hb3.out.mono (by omega))
set_option maxHeartbeats 1600000 in
theorem does_of (B b f m r N O V : Nat) (D : Dv) (k at' : Int) (s : ByteArray) (a : Option Addr) (n : Nat) (c : Nat) (w : World) (h3 : (k.tmod 8 == 3) = false) (h4 : (k.tmod 8 == 4) = false) (h5 : (k.tmod 8 == 5) = false) (h6 : (k.tmod 8 == 6) = false) (h7 : (k.tmod 8 == 7) = true) (hp : Pair w B b f m r N O V D) (hB : B ≤ w.heap.size) :
    Calls Try.prog 30 #[.pointer (some ⟨b, 0, none⟩), .pointer (some ⟨r, 0, none⟩), .agg #[.int .u8 k, .int .i64 at', .string s, .slice a n c]] w (DoesTo B (dofv (dimage D)) w) := by
  have c0 : ∀ i, (w.alloc (.cells #[.int .u8 k, .int .i64 at', .string s, .slice a n c] 50)).cell? ⟨w.heap.size, i, none⟩ = (#[.int .u8 k, .int .i64 at', .string s, .slice a n c] : Array Value)[i]? := fun i => World.cell?_alloc_at _ _ _ _ rfl
  have hb : Below w.heap.size w (w.alloc (.cells #[.int .u8 k, .int .i64 at', .string s, .slice a n c] 50)) := (Below.refl _ _).alloc (Nat.le_refl _) _
  have hp1 := hp.below hb
  have ub : w.heap.size < (w.alloc (.cells #[.int .u8 k, .int .i64 at', .string s, .slice a n c] 50)).heap.size := by simp
  have ux : ∀ k, devS b f m k → k ≠ w.heap.size := fun k hk => Nat.ne_of_lt (hp.lt1 hk)
  have uy : ∀ k, refS r N O V k → k ≠ w.heap.size := fun k hk => Nat.ne_of_lt (hp.lt2 hk)
  have d0 := c0 0
  have d1 := c0 1
  have d2 := c0 2
  have d3 := c0 3
  replace d0 : _ = some (Value.int .u8 k) := d0
  replace d1 : _ = some (Value.int .i64 at') := d1
  replace d2 : _ = some (Value.string s) := d2
  replace d3 : _ = some (Value.slice a n c) := d3
  have hse := str_beq
  have Hb := Aside.mk (hb.mono hB)
  have Ux := Aside.mk ux
  have Uy := Aside.mk uy
  have hB1 : B ≤ (w.alloc (.cells #[.int .u8 k, .int .i64 at', .string s, .slice a n c] 50)).heap.size := by omega
  have Hp1 := Aside.mk hp1
  clear c0 hp hb hp1 ux uy
  go_enter Try.func30, Try.ntmps30
  go_wp2_with fail
  generalize (w.alloc (.cells #[.int .u8 k, .int .i64 at', .string s, .slice a n c] 50)) = w1 at *
  clear d0 d1 d2 d3
  obtain ⟨I, hI⟩ : ∃ I, dimage D = I := ⟨_, rfl⟩
  have hIz : I.size = D.n * 64 := by rw [← hI]; exact dimg_size Hp1.out.dev.ok
  have HI := Aside.mk hI
  have HIz := Aside.mk hIz
  have hn1 := Hp1.out.dev.ok.n1
  have hn2 := Hp1.out.dev.ok.n2
  clear hI hIz
  with_reducible refine (dev_image' b f m D I HI.out _ Hp1.out.dev).mono ?_
  rintro e w2 ⟨rfl, hb2⟩
  have Hr2 := Aside.mk (Hp1.out.ref.below hb2)
  have Hb2 := Aside.mk (Hb.out.trans (hb2.mono hB1))
  have hB2 : B ≤ w2.heap.size := Nat.le_trans hB1 hb2.size
  clear hb2
  go_wp2_with fail
  with_reducible refine (dev_of' I D.n HIz.out hn1 hn2 _).mono ?_
  rintro e w3 ⟨b1, f1, m1, rfl, g1, g2, g3, hd3, hb3⟩
  have Hr3 := Aside.mk (Hr2.out.below hb3)
  have Hd3 := Aside.mk hd3
  have Hb3 := Aside.mk (Hb2.out.trans (hb3.mono hB2))
  have hB3 : B ≤ w3.heap.size := Nat.le_trans hB2 hb3.size
  clear hb3 hd3
  go_wp2_with fail
  with_reducible refine (ref_image r N O V D _ Hr3.out).mono ?_
  rw [HI.out]
  rintro e w' ⟨rfl, rfl⟩
  go_wp2_with fail
  with_reducible refine (ref_of I D.n HIz.out hn1 hn2 _).mono ?_
  rintro e w4 ⟨r1, N1, O1, V1, rfl, g4, g5, g6, g7, hr4, hb4⟩
  have Hr4 := Aside.mk hr4
  have Hd4 := Aside.mk (Hd3.out.below hb4)
  have Hb4 := Aside.mk (Hb3.out.trans (hb4.mono hB3))
  have l1 := Hd3.out.lt
  clear hr4 hb4
  go_wp2_with fail
  go_ret3
  refine ⟨b1, f1, m1, r1, N1, O1, V1, rfl, ⟨by rw [HI.out]; exact Hd4.out, by rw [HI.out]; exact Hr4.out, ?_, ?_, ?_⟩, Hb4.out⟩
  · intro k q1 q2
    unfold devS at q1
    unfold refS at q2
    omega
  · intro k q1
    unfold devS at q1
    omega
  · intro k q1
    unfold refS at q1
    omega
set_option maxHeartbeats 1600000 in
theorem does_write (B b f m r N O V : Nat) (D : Dv) (k at' : Int) (s : ByteArray) (a : Option Addr) (n : Nat) (c : Nat) (w : World) (h3 : (k.tmod 8 == 3) = false) (h4 : (k.tmod 8 == 4) = false) (h5 : (k.tmod 8 == 5) = false) (h6 : (k.tmod 8 == 6) = false) (h7 : (k.tmod 8 == 7) = false) (hat : -9223372036854775808 ≤ at' ∧ at' ≤ 9223372036854775807) (hs : s.size ≤ 9223372036854775807) (hp : Pair w B b f m r N O V D) (hB : B ≤ w.heap.size) :
    Calls Try.prog 30 #[.pointer (some ⟨b, 0, none⟩), .pointer (some ⟨r, 0, none⟩), .agg #[.int .u8 k, .int .i64 at', .string s, .slice a n c]] w (DoesTo B ((dwrite D at' s).2) w) := by
  have c0 : ∀ i, (w.alloc (.cells #[.int .u8 k, .int .i64 at', .string s, .slice a n c] 50)).cell? ⟨w.heap.size, i, none⟩ = (#[.int .u8 k, .int .i64 at', .string s, .slice a n c] : Array Value)[i]? := fun i => World.cell?_alloc_at _ _ _ _ rfl
  have hb : Below w.heap.size w (w.alloc (.cells #[.int .u8 k, .int .i64 at', .string s, .slice a n c] 50)) := (Below.refl _ _).alloc (Nat.le_refl _) _
  have hp1 := hp.below hb
  have ub : w.heap.size < (w.alloc (.cells #[.int .u8 k, .int .i64 at', .string s, .slice a n c] 50)).heap.size := by simp
  have ux : ∀ k, devS b f m k → k ≠ w.heap.size := fun k hk => Nat.ne_of_lt (hp.lt1 hk)
  have uy : ∀ k, refS r N O V k → k ≠ w.heap.size := fun k hk => Nat.ne_of_lt (hp.lt2 hk)
  have d0 := c0 0
  have d1 := c0 1
  have d2 := c0 2
  have d3 := c0 3
  replace d0 : _ = some (Value.int .u8 k) := d0
  replace d1 : _ = some (Value.int .i64 at') := d1
  replace d2 : _ = some (Value.string s) := d2
  replace d3 : _ = some (Value.slice a n c) := d3
  have hse := str_beq
  have Hb := Aside.mk (hb.mono hB)
  have Ux := Aside.mk ux
  have Uy := Aside.mk uy
  have hB1 : B ≤ (w.alloc (.cells #[.int .u8 k, .int .i64 at', .string s, .slice a n c] 50)).heap.size := by omega
  have Hp1 := Aside.mk hp1
  clear c0 hp hb hp1 ux uy
  go_enter Try.func30, Try.ntmps30
  go_upto_region 18 with fail
  generalize (w.alloc (.cells #[.int .u8 k, .int .i64 at', .string s, .slice a n c] 50)) = w1 at *
  clear d0 d3
  go_region_held3 (fun w' => w'.cell? ⟨w.heap.size, 1, none⟩ = some (.int .i64 at') ∧ w'.cell? ⟨w.heap.size, 2, none⟩ = some (.string s)) (first | go_keep | exact hq2 | exact hq3) (first
    | (go_at_call 17
       with_reducible refine (dev_write b f m D at' s hat hs _ Hp1.out.dev.drew).mono ?_
       rintro e w2 ⟨rfl, hd2, hk2⟩
       have hq2 := And.intro (hk2.cell (p := ⟨w.heap.size, 1, none⟩) d1 (fun q => Ux.out _ q rfl)) (hk2.cell (p := ⟨w.heap.size, 2, none⟩) d2 (fun q => Ux.out _ q rfl))
       have Hd2 := Aside.mk hd2
       have Hr2 := Aside.mk (ref_off Hp1.out.ref.drew hk2 fun k q1 q2 => Hp1.out.apart k q2 q1)
       have Hk2 := Aside.mk hk2
       clear hd2 hk2)
    | (go_at_call 61
       with_reducible refine (ref_write r N O V D at' s hat hs _ Hr2.out).mono ?_
       rintro e w3 ⟨rfl, hr3, hk3⟩
       have hq3 := And.intro (hk3.cell (p := ⟨w.heap.size, 1, none⟩) hq2.1 (fun q => Uy.out _ q rfl)) (hk3.cell (p := ⟨w.heap.size, 2, none⟩) hq2.2 (fun q => Uy.out _ q rfl))
       have Hr3 := Aside.mk hr3
       have Hk3 := Aside.mk hk3
       clear hr3 hk3))
  go_wp2_with fail
  have hB2 : B ≤ w2.heap.size := Nat.le_trans hB1 Hk2.out.size
  go_ret3
  exact ⟨b, f, m, r, N, O, V, rfl, Pair.step ⟨Hp1.out.dev.drew, Hp1.out.ref.drew, Hp1.out.apart, Hp1.out.low1, Hp1.out.low2⟩ Hd2.out Hk2.out Hr3.out Hk3.out, below_keep (below_keep Hb.out hB1 (Keep.trans ((Keep.refl _ w1).drew) Hk2.out) Hp1.out.low1) hB2 Hk3.out Hp1.out.low2⟩
end Go.Proofs.Ytlbnbmojgdoieaa
