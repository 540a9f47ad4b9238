import Derived.Test.YtpfkpaombiikcaaGreatDoorSuM
import Derived.Test.YtpfkpaombiikcaaGreatDoorRdW
/- What super.Get computes. -/
set_option maxRecDepth 16000
namespace Go.Pin
open Go.RowKit
set_option linter.unusedVariables false
set_option linter.unusedSimpArgs false
end Go.Pin
namespace Go.Proofs.YtpfkpaombiikcaaGreatDoor
open Go.RowKit Go.Pin
set_option linter.unusedVariables false
set_option linter.unusedSimpArgs false
set_option maxHeartbeats 1600000 in
theorem super_get (s : ByteArray) (hs : s.size ≤ 1152921504606846976) (w : World) :
    Calls Tryz.prog 82 #[.string s] w fun e w' => e = .returned (.tuple #[.int .u64 (sget s).1, .string (sget s).2.1, .bool (sget s).2.2]) ∧ Below w.heap.size w w' := by
  have hget := crc_get s w hs
  obtain ⟨⟨C, ok⟩, hC⟩ : ∃ C, cget s = C := ⟨_, rfl⟩
  rw [hC] at hget
  have HC := Aside.mk hC
  have hCz : C.size ≤ s.size := by
    have : (cget s).1.size ≤ s.size := by unfold cget; split <;> simp [ByteArray.size_extract]
    rw [hC] at this; exact this
  clear hC
  have hse := str_beq
  cases ok with
  | false =>
    have e1 : sget s = (0, ⟨#[]⟩, false) := by unfold sget; rw [HC.out, if_pos (.inl rfl)]
    rw [e1]
    clear e1
    go_enter Tryz.func82, Tryz.ntmps82
    go_wp2_with fail
    refine hget.mono ?_
    rintro e w1 ⟨rfl, hb1⟩
    go_wp2_with fail
    go_ret3
    exact ⟨rfl, hb1⟩
  | true =>
    by_cases h64 : s.size = 64
    · have e1 : sget s = if (sread8 C).2.2.2.bad = true ∨ (sread8 C).1 = 0 ∨ Lib.trimB (sread8 C).2.2.1.data.toList 0 ≠ [] then ((0 : Int), ⟨#[]⟩, false) else (((sread8 C).1 : Int), (sread8 C).2.1, true) := by
        unfold sget; rw [HC.out, if_neg (by simp [h64])]
      have E1 := Aside.mk e1
      have hz : ((s.size : Int) != 64) = false := by simp [h64]
      have hCz2 : C.size ≤ 64 := by omega
      clear e1
      obtain ⟨x, hx⟩ : ∃ x, (Rd.mk C false).fixed 8 = x := ⟨_, rfl⟩
      obtain ⟨y, hy⟩ : ∃ y, x.2.fixed 1 = y := ⟨_, rfl⟩
      obtain ⟨z, hzz⟩ : ∃ z, y.2.bytes (y.1 : Int) = z := ⟨_, rfl⟩
      obtain ⟨r, hr⟩ : ∃ r, z.2.bytes (z.2.s.size : Int) = r := ⟨_, rfl⟩
      have hq : sread8 C = (x.1, z.1, r.1, r.2) := by unfold sread8; simp only [hx, hy, hzz, hr]
      have hxl : x.2.s.size ≤ 64 := by rw [← hx]; exact Nat.le_trans (Rd.fixed_leS _ 8) hCz2
      have hyl : y.2.s.size ≤ 64 := by rw [← hy]; exact Nat.le_trans (Rd.fixed_leS _ 1) hxl
      have hzl : z.2.s.size ≤ 64 := by rw [← hzz]; exact Nat.le_trans (Rd.bytes_le _ _) hyl
      go_enter Tryz.func82, Tryz.ntmps82
      go_wp2_with fail
      refine hget.mono ?_
      rintro e w1 ⟨rfl, hb1⟩
      go_wp2_with fail
      refine (rd_new C w1).mono ?_
      rintro e w2 ⟨rfl, hr2, hz2, hb2⟩
      have hB1 : w.heap.size ≤ w1.heap.size := hb1.size
      have hb3 := Below.next hb1 hb2
      generalize w1.heap.size = B at *
      clear hb1 hb2 hz2
      go_wp2_with fail
      have hcx := rd_fixed B ⟨C, false⟩ 8 w2 hr2 (by omega) (by show C.size ≤ _; omega)
      rw [hx] at hcx
      refine hcx.mono ?_
      rintro e w3 ⟨rfl, hr3, hk3⟩
      clear hcx
      have hb4 := hb3.trans (hk3.below (Nat.le_of_lt (Nat.lt_of_le_of_lt hB1 hr2.lt)) fun k q => by rw [q]; exact hB1)
      go_wp2_with fail
      have hcy := rd_fixed B x.2 1 w3 hr3 (by omega) (by omega)
      rw [hy] at hcy
      refine hcy.mono ?_
      rintro e w4 ⟨rfl, hr4, hk4⟩
      clear hcy
      have hb5 := hb4.trans (hk4.below (Nat.le_of_lt (Nat.lt_of_le_of_lt hB1 hr3.lt)) fun k q => by rw [q]; exact hB1)
      have hy8 : y.1 < 18446744073709551616 := by
        have : ((x.2.fixed 1).1) < 256 ^ 8 := Nat.lt_of_lt_of_le (Rd.fixed_ltS x.2) (by omega)
        rw [hy] at this; omega
      have hy9 : y.1 < 256 := by have := Rd.fixed_ltS x.2; rw [hy] at this; exact this
      have hwy : IntKind.i64.wrap (y.1 : Int) = (y.1 : Int) := by rw [IntKind.wrap_i64]; omega
      go_wp2_with fail
      have hcz := rd_bytes B y.2 (y.1 : Int) w4 hr4 (by omega) (by omega)
      rw [hzz] at hcz
      refine hcz.mono ?_
      rintro e w5 ⟨rfl, hr5, hk5⟩
      clear hcz
      have hb6 := hb5.trans (hk5.below (Nat.le_of_lt (Nat.lt_of_le_of_lt hB1 hr4.lt)) fun k q => by rw [q]; exact hB1)
      go_wp2_with fail
      refine (rd_left B z.2 w5 hr5).mono ?_
      rintro e w5 ⟨rfl, rfl⟩
      go_wp2_with fail
      have hcr := rd_bytes B z.2 (z.2.s.size : Int) w5 hr5 (by omega) (by omega)
      rw [hr] at hcr
      refine hcr.mono ?_
      rintro e w6 ⟨rfl, hr6, hk6⟩
      clear hcr
      have hb7 := hb6.trans (hk6.below (Nat.le_of_lt (Nat.lt_of_le_of_lt hB1 hr5.lt)) fun k q => by rw [q]; exact hB1)
      have hrl : r.1.size ≤ 9223372036854775807 := by
        have := Rd.bytes_size z.2 (z.2.s.size : Int); rw [hr] at this; omega
      have hok := rd_ok B r.2 w6 hr6
      rw [hq] at E1
      go_wp2_with fail
      refine hok.mono ?_
      rintro e w6 ⟨rfl, rfl⟩
      cases hbad : r.2.bad with
      | true =>
        have HE := Aside.mk (show sget s = (0, ⟨#[]⟩, false) by rw [E1.out, if_pos (.inl hbad)])
        clear hbad E1
        go_wp2_with fail
        go_ret3
        rw [HE.out]
        exact ⟨rfl, hb7⟩
      | false =>
        by_cases hx0 : x.1 = 0
        · have HE := Aside.mk (show sget s = (0, ⟨#[]⟩, false) by rw [E1.out, if_pos (.inr (.inl hx0))])
          have hxb : ((x.1 : Int) == 0) = true := by simp [hx0]
          clear hbad E1 hx0
          go_wp2_with fail
          go_ret3
          rw [HE.out]
          exact ⟨rfl, hb7⟩
        · have hxb : ((x.1 : Int) == 0) = false := by rw [beq_eq_false_iff_ne]; omega
          have htr := YtpfkpaombiikcaaGreatDoorSh.strings_Trim_one r.1 0 (by decide) w6 hrl
          by_cases ht : Lib.trimB r.1.data.toList 0 = []
          · have HE := Aside.mk (show sget s = ((x.1 : Int), z.1, true) by rw [E1.out, if_neg (by simp [hbad, hx0, ht])])
            rw [ht] at htr
            clear hbad E1 hx0 ht
            go_wp2_with fail
            refine htr.mono ?_
            rintro e w7 ⟨rfl, hw7⟩
            have hb8 : Below w.heap.size w w7 := by rcases hw7 with q | q <;> rw [q]; exact hb7; exact ⟨hb7.os, hb7.tape, hb7.output, hb7.size, hb7.block⟩
            go_wp2_with fail
            go_ret3
            rw [HE.out]
            exact ⟨rfl, hb8⟩
          · have HE := Aside.mk (show sget s = (0, ⟨#[]⟩, false) by rw [E1.out, if_pos (.inr (.inr ht))])
            obtain ⟨t, ht2⟩ : ∃ t : ByteArray, (⟨(Lib.trimB r.1.data.toList 0).toArray⟩ : ByteArray) = t := ⟨_, rfl⟩
            have hne : ¬ t = ⟨#[]⟩ := by
              intro q
              rw [← ht2] at q
              have := congrArg (fun u : ByteArray => u.data.toList) q
              exact ht (by simpa using this)
            have hd : t.toList.isEmpty = false := by
              cases hq : t.toList.isEmpty with
              | false => rfl
              | true =>
                rw [ByteArray.toList_eq] at hq
                have h2 := List.isEmpty_iff.1 hq
                exact absurd (by apply ByteArray.ext; apply Array.ext'; exact h2) hne
            rw [ht2] at htr
            clear hbad E1 hx0 ht ht2 hne
            go_wp2_with fail
            refine htr.mono ?_
            rintro e w7 ⟨rfl, hw7⟩
            have hb8 : Below w.heap.size w w7 := by rcases hw7 with q | q <;> rw [q]; exact hb7; exact ⟨hb7.os, hb7.tape, hb7.output, hb7.size, hb7.block⟩
            go_wp2_with fail
            go_ret3
            rw [HE.out]
            exact ⟨rfl, hb8⟩
    · have e1 : sget s = (0, ⟨#[]⟩, false) := by unfold sget; rw [HC.out, if_pos (.inr h64)]
      rw [e1]
      have hz : ((s.size : Int) != 64) = true := by simp; omega
      clear e1
      go_enter Tryz.func82, Tryz.ntmps82
      go_wp2_with fail
      refine hget.mono ?_
      rintro e w1 ⟨rfl, hb1⟩
      go_wp2_with fail
      go_ret3
      exact ⟨rfl, hb1⟩
end Go.Proofs.YtpfkpaombiikcaaGreatDoor
