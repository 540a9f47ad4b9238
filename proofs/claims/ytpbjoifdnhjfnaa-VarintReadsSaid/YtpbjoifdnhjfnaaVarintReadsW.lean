/- VarintReads: its walk. -/
import Derived.Test.YtpbjoifdnhjfnaaVarX
import Derived.Test.YtpbjoifdnhjfnaaRdRefW
import Derived.Test.YtpbjoifdnhjfnaaOpens
import Derived.OpenShut
namespace Go.Pin
open Go.RowKit
set_option linter.unusedVariables false
set_option linter.unusedSimpArgs false
theorem Rd.text_le (r : Rd) : r.text.2.s.size ≤ r.s.size := by
  unfold Rd.text
  split
  · exact Nat.zero_le _
  · exact Nat.le_trans (Rd.bytes_le _ _) (Rd.var_le r)
theorem Rd.fail_le (r : Rd) : Rd.fail.s.size ≤ r.s.size := Nat.zero_le _
theorem Rd.fixed_le (r : Rd) (k : Int) : (r.fixed k).2.s.size ≤ r.s.size := by
  unfold Rd.fixed
  refine Nat.le_trans (Rd.bytes_le _ _) ?_
  split
  · exact Nat.zero_le _
  · exact Nat.le_refl _
theorem RdAt.drewN {a : World} {b : Nat} {r : Rd} (h : RdAt a b r) (n : Nat) : RdAt (a.drewN n) b r := ⟨h.c0, h.c1, h.f0, h.f1⟩
end Go.Pin
namespace Go.Proofs.Ytpbjoifdnhjfnaa
open Go.RowKit Go.Pin
set_option linter.unusedVariables false
set_option linter.unusedSimpArgs false

set_option maxHeartbeats 1600000 in
set_option maxRecDepth 8000 in
theorem varintReads_walk (s : ByteArray) (a : Option Addr) (len cap : Nat) (w : World) (hs : s.size ≤ 140737488351232) (h : isSlice [isInt .u8, isInt .i64] w (.slice a len cap)) :
    Calls Try.prog 12 #[.string s, .slice a len cap] w fun e w' => e = .returned (.bool true) ∧ Below w.heap.size w w' := by
  obtain ⟨_, _, _, h1, hlc, hcap, hdeeds⟩ := h
  cases h1
  have hlen : len ≤ 9223372036854775807 := by omega
  have hse := str_beq
  have hb := Below.refl w.heap.size w
  have Hd := Aside.mk hdeeds
  clear hdeeds
  go_enter Try.func12, Try.ntmps12
  go_wp2_with fail
  refine (var_examples _).mono ?_
  rintro e w0 ⟨rfl, hb'⟩
  replace hb := Below.next hb hb'
  clear hb'
  go_wp2_with fail
  refine (rd_new _ _).mono ?_
  rintro e w1 ⟨rfl, hr1, hz1, hb1⟩
  have hB1 := hb.size
  replace hb := Below.next hb hb1
  have hlt1 := hr1.lt
  generalize w0.heap.size = B1 at *
  clear hb1 hz1
  go_wp2_with fail
  refine (rr_new _ _).mono ?_
  rintro e w2 ⟨rfl, hr2, hz2, hb2⟩
  have hB2 := hb.size
  replace hb := Below.next hb hb2
  replace hr1 := hr1.below hb2
  have hne : B1 ≠ w1.heap.size := by omega
  generalize w1.heap.size = B2 at *
  clear hb2 hz2 hlt1
  go_wp2_with fail
  have hcl : ∀ b x v, w.cell? ⟨b, x, none⟩ = some v → b < w.heap.size ∧ b ≠ B1 ∧ b ≠ B2 := fun b x v h => by have := World.block_lt_of_cell? _ _ h; simp at this; omega
  have Hcl := Aside.mk hcl
  clear hcl
  go_loopw [8] (fun i wr => ∃ (j : Nat) (r : Rd), j ≤ len ∧ i = .int .i64 j ∧ RdAt wr B1 r ∧ RdAt wr B2 r ∧ r.s.size ≤ s.size ∧ Below w.heap.size w wr) (fun i _ => len - (intOf i).toNat)
  case atStart => exact ⟨0, _, by omega, rfl, hr1, hr2, Nat.le_refl _, hb⟩
  case round =>
    clear hr1 hr2 hb
    obtain ⟨j, r, hj, rfl, hr1, hr2, hrs, hbl⟩ := hrel
    by_cases hlt : j < len
    · by_cases h20 : j < 20
      · obtain ⟨b, o, rfl, hcells⟩ := Hd.out (by omega)
        obtain ⟨_, hc0, kd, rfl, hkb⟩ := hcells j hlt 0 _ rfl
        obtain ⟨_, hc1, n, rfl, hnb⟩ := hcells j hlt 1 _ rfl
        obtain ⟨hk0, hk1⟩ := bounds_u8 hkb
        obtain ⟨hn0, hn1⟩ := bounds_i64 hnb
        clear hkb hnb
        replace hc0 : w.cell? ⟨b, o + j * 2, none⟩ = some (.int .u8 kd) := hc0
        replace hc1 : w.cell? ⟨b, o + j * 2 + 1, none⟩ = some (.int .i64 n) := hc1
        obtain ⟨hbw, hbB1, hbB2⟩ := Hcl.out _ _ _ hc0
        have hw0 : wr.cell? ⟨b, o + j * 2, none⟩ = some (.int .u8 kd) := by rw [hbl.cell hbw]; exact hc0
        have hw1 : wr.cell? ⟨b, o + j * 2 + 1, none⟩ = some (.int .i64 n) := by rw [hbl.cell hbw]; exact hc1
        clear hcells hc0 hc1
        have hrz : r.s.size ≤ 1152921504606846976 := by omega
        have H8 : kd % 8 = 0 ∨ kd % 8 = 1 ∨ kd % 8 = 2 ∨ kd % 8 = 3 ∨ kd % 8 = 4 ∨ kd % 8 = 5 ∨ kd % 8 = 6 ∨ kd % 8 = 7 := by omega
        rcases H8 with h8 | h8 | h8 | h8 | h8 | h8 | h8 | h8
        · go_wp2_with fail
          refine (rd_var _ _ _ hr1 hrz).mono ?_
          rintro e w3 ⟨rfl, hq1, hk1⟩
          replace hr2 := hr2.keep hk1 (Ne.symm hne)
          replace hbl := Keep.drop hbl hB1 hk1
          clear hr1 hw0 hw1
          go_wp2_with fail
          refine (rr_var _ _ _ hr2 hrz).mono ?_
          rintro e w4 ⟨rfl, hq2, hk2⟩
          replace hq1 := hq1.keep hk2 hne
          replace hbl := Keep.drop hbl hB2 hk2
          clear hr2 hk1 hk2
          have hqs := Rd.var_le r
          go_wp2_with fail
          obtain ⟨q, hq⟩ : ∃ q, r.var.2 = q := ⟨_, rfl⟩
          rw [hq] at hq1 hq2 hqs
          clear hq
          obtain ⟨qs, qb⟩ := q
          have hqr : ∀ n, RdAt (World.drewN _ n) B2 _ := fun n => hq2.drewN n
          obtain ⟨hqc0, hqc1, hqf0, hqf1⟩ := hq2
          replace hqs : qs.size ≤ r.s.size := hqs
          have hqk : qs.size ≤ 1152921504606846976 := by omega
          cases qb
          all_goals
            go_wp2_with fail
            go_quiet ((first | (go_at_call 33; exact Calls.quiet_of_same (rd_ok _ _ _ (hq1.drewN _))) | (go_at_call 34; exact Calls.quiet_of_same (rd_left _ _ _ (hq1.drewN _)))))
            go_wp2_with fail
            go_roundw
            case rel => exact ⟨j + 1, _, by omega, by go_num, hq1.drewN _, hqr _, by show qs.size ≤ _; omega, below_drewN hbl _⟩
            case measure => simp [intOf]; omega
        · go_wp2_with fail
          have hb1' : ¬ (b = B1) := hbB1
          have hb2' : ¬ (b = B2) := hbB2
          clear hw0
          go_region_held3 (fun w' => w'.cell? ⟨b, o + j * 2 + 1, none⟩ = some (.int .i64 n)) (first | go_keep | exact hw1 | exact hx1 | exact hx2) (first
            | (go_at_call 37; refine (rd_fixed _ _ _ _ (by first | exact hr1.drew | exact hr1) ⟨hn0, hn1⟩ hrz).mono ?_; rintro e w3 ⟨rfl, hq1, hk1⟩; have hx1 := hk1.cell (p := ⟨b, o + j * 2 + 1, none⟩) hw1 hb1'; have hp2 := (show RdAt _ B2 r from hr2.drew).keep hk1 (Ne.symm hne); have hbl1 := Keep.drop hbl.drew hB1 hk1)
            | (go_at_call 38; refine (rr_fixed _ _ _ _ (by first | exact hp2 | exact hp2.drew) ⟨hn0, hn1⟩ hrz).mono ?_; rintro e w4 ⟨rfl, hq2, hk2⟩; have hx2 := hk2.cell (p := ⟨b, o + j * 2 + 1, none⟩) hx1 hb2'))
          replace hq1 := hq1.keep hk2 hne
          clear hbl
          have hbl := Keep.drop hbl1 hB2 hk2
          have hqs := Rd.fixed_le r n
          clear hr1 hr2 hk1 hk2 hx1 hx2 hw1 hp2 hbl1
          go_wp2_with fail
          obtain ⟨q, hq⟩ : ∃ q, (r.fixed n).2 = q := ⟨_, rfl⟩
          rw [hq] at hq1 hq2 hqs
          clear hq
          obtain ⟨qs, qb⟩ := q
          have hqr : ∀ n, RdAt (World.drewN _ n) B2 _ := fun n => hq2.drewN n
          obtain ⟨hqc0, hqc1, hqf0, hqf1⟩ := hq2
          replace hqs : qs.size ≤ r.s.size := hqs
          have hqk : qs.size ≤ 1152921504606846976 := by omega
          cases qb
          all_goals
            go_wp2_with fail
            go_quiet ((first | (go_at_call 33; exact Calls.quiet_of_same (rd_ok _ _ _ (hq1.drewN _))) | (go_at_call 34; exact Calls.quiet_of_same (rd_left _ _ _ (hq1.drewN _)))))
            go_wp2_with fail
            go_roundw
            case rel => exact ⟨j + 1, _, by omega, by go_num, hq1.drewN _, hqr _, by show qs.size ≤ _; omega, below_drewN hbl _⟩
            case measure => simp [intOf]; omega
        · go_wp2_with fail
          refine (rd_text _ _ _ hr1 hrz).mono ?_
          rintro e w3 ⟨rfl, hq1, hk1⟩
          replace hr2 := hr2.keep hk1 (Ne.symm hne)
          replace hbl := Keep.drop hbl hB1 hk1
          clear hr1 hw0 hw1
          go_wp2_with fail
          refine (rr_text _ _ _ hr2 hrz).mono ?_
          rintro e w4 ⟨rfl, hq2, hk2⟩
          replace hq1 := hq1.keep hk2 hne
          replace hbl := Keep.drop hbl hB2 hk2
          clear hr2 hk1 hk2
          have hqs := Rd.text_le r
          go_wp2_with fail
          obtain ⟨q, hq⟩ : ∃ q, r.text.2 = q := ⟨_, rfl⟩
          rw [hq] at hq1 hq2 hqs
          clear hq
          obtain ⟨qs, qb⟩ := q
          have hqr : ∀ n, RdAt (World.drewN _ n) B2 _ := fun n => hq2.drewN n
          obtain ⟨hqc0, hqc1, hqf0, hqf1⟩ := hq2
          replace hqs : qs.size ≤ r.s.size := hqs
          have hqk : qs.size ≤ 1152921504606846976 := by omega
          cases qb
          all_goals
            go_wp2_with fail
            go_quiet ((first | (go_at_call 33; exact Calls.quiet_of_same (rd_ok _ _ _ (hq1.drewN _))) | (go_at_call 34; exact Calls.quiet_of_same (rd_left _ _ _ (hq1.drewN _)))))
            go_wp2_with fail
            go_roundw
            case rel => exact ⟨j + 1, _, by omega, by go_num, hq1.drewN _, hqr _, by show qs.size ≤ _; omega, below_drewN hbl _⟩
            case measure => simp [intOf]; omega
        · go_wp2_with fail
          have hb1' : ¬ (b = B1) := hbB1
          have hb2' : ¬ (b = B2) := hbB2
          clear hw0
          go_region_held3 (fun w' => w'.cell? ⟨b, o + j * 2 + 1, none⟩ = some (.int .i64 n)) (first | go_keep | exact hw1 | exact hx1 | exact hx2) (first
            | (go_at_call 41; refine (rd_bytes _ _ _ _ (by first | exact hr1.drew | exact hr1) ⟨hn0, hn1⟩ hrz).mono ?_; rintro e w3 ⟨rfl, hq1, hk1⟩; have hx1 := hk1.cell (p := ⟨b, o + j * 2 + 1, none⟩) hw1 hb1'; have hp2 := (show RdAt _ B2 r from hr2.drew).keep hk1 (Ne.symm hne); have hbl1 := Keep.drop hbl.drew hB1 hk1)
            | (go_at_call 42; refine (rr_bytes _ _ _ _ (by first | exact hp2 | exact hp2.drew) ⟨hn0, hn1⟩ hrz).mono ?_; rintro e w4 ⟨rfl, hq2, hk2⟩; have hx2 := hk2.cell (p := ⟨b, o + j * 2 + 1, none⟩) hx1 hb2'))
          replace hq1 := hq1.keep hk2 hne
          clear hbl
          have hbl := Keep.drop hbl1 hB2 hk2
          have hqs := Rd.bytes_le r n
          clear hr1 hr2 hk1 hk2 hx1 hx2 hw1 hp2 hbl1
          go_wp2_with fail
          obtain ⟨q, hq⟩ : ∃ q, (r.bytes n).2 = q := ⟨_, rfl⟩
          rw [hq] at hq1 hq2 hqs
          clear hq
          obtain ⟨qs, qb⟩ := q
          have hqr : ∀ n, RdAt (World.drewN _ n) B2 _ := fun n => hq2.drewN n
          obtain ⟨hqc0, hqc1, hqf0, hqf1⟩ := hq2
          replace hqs : qs.size ≤ r.s.size := hqs
          have hqk : qs.size ≤ 1152921504606846976 := by omega
          cases qb
          all_goals
            go_wp2_with fail
            go_quiet ((first | (go_at_call 33; exact Calls.quiet_of_same (rd_ok _ _ _ (hq1.drewN _))) | (go_at_call 34; exact Calls.quiet_of_same (rd_left _ _ _ (hq1.drewN _)))))
            go_wp2_with fail
            go_roundw
            case rel => exact ⟨j + 1, _, by omega, by go_num, hq1.drewN _, hqr _, by show qs.size ≤ _; omega, below_drewN hbl _⟩
            case measure => simp [intOf]; omega
        · go_wp2_with fail
          refine (rd_fail _ _ _ hr1).mono ?_
          rintro e w3 ⟨rfl, hq1, hk1⟩
          replace hr2 := hr2.keep hk1 (Ne.symm hne)
          replace hbl := Keep.drop hbl hB1 hk1
          clear hr1 hw0 hw1
          go_wp2_with fail
          refine (rr_fail _ _ _ hr2).mono ?_
          rintro e w4 ⟨rfl, hq2, hk2⟩
          replace hq1 := hq1.keep hk2 hne
          replace hbl := Keep.drop hbl hB2 hk2
          clear hr2 hk1 hk2
          have hqs := Rd.fail_le r
          go_wp2_with fail
          obtain ⟨q, hq⟩ : ∃ q, Rd.fail = q := ⟨_, rfl⟩
          rw [hq] at hq1 hq2 hqs
          clear hq
          obtain ⟨qs, qb⟩ := q
          have hqr : ∀ n, RdAt (World.drewN _ n) B2 _ := fun n => hq2.drewN n
          obtain ⟨hqc0, hqc1, hqf0, hqf1⟩ := hq2
          replace hqs : qs.size ≤ r.s.size := hqs
          have hqk : qs.size ≤ 1152921504606846976 := by omega
          cases qb
          all_goals
            go_wp2_with fail
            go_quiet ((first | (go_at_call 33; exact Calls.quiet_of_same (rd_ok _ _ _ (hq1.drewN _))) | (go_at_call 34; exact Calls.quiet_of_same (rd_left _ _ _ (hq1.drewN _)))))
            go_wp2_with fail
            go_roundw
            case rel => exact ⟨j + 1, _, by omega, by go_num, hq1.drewN _, hqr _, by show qs.size ≤ _; omega, below_drewN hbl _⟩
            case measure => simp [intOf]; omega
        · go_wp2_with fail
          refine (rd_var _ _ _ hr1 hrz).mono ?_
          rintro e w3 ⟨rfl, hq1, hk1⟩
          replace hr2 := hr2.keep hk1 (Ne.symm hne)
          replace hbl := Keep.drop hbl hB1 hk1
          clear hr1 hw0 hw1
          go_wp2_with fail
          refine (rr_var _ _ _ hr2 hrz).mono ?_
          rintro e w4 ⟨rfl, hq2, hk2⟩
          replace hq1 := hq1.keep hk2 hne
          replace hbl := Keep.drop hbl hB2 hk2
          clear hr2 hk1 hk2
          have hqs := Rd.var_le r
          go_wp2_with fail
          obtain ⟨q, hq⟩ : ∃ q, r.var.2 = q := ⟨_, rfl⟩
          rw [hq] at hq1 hq2 hqs
          clear hq
          obtain ⟨qs, qb⟩ := q
          have hqr : ∀ n, RdAt (World.drewN _ n) B2 _ := fun n => hq2.drewN n
          obtain ⟨hqc0, hqc1, hqf0, hqf1⟩ := hq2
          replace hqs : qs.size ≤ r.s.size := hqs
          have hqk : qs.size ≤ 1152921504606846976 := by omega
          cases qb
          all_goals
            go_wp2_with fail
            go_quiet ((first | (go_at_call 33; exact Calls.quiet_of_same (rd_ok _ _ _ (hq1.drewN _))) | (go_at_call 34; exact Calls.quiet_of_same (rd_left _ _ _ (hq1.drewN _)))))
            go_wp2_with fail
            go_roundw
            case rel => exact ⟨j + 1, _, by omega, by go_num, hq1.drewN _, hqr _, by show qs.size ≤ _; omega, below_drewN hbl _⟩
            case measure => simp [intOf]; omega
        · go_wp2_with fail
          refine (rd_var _ _ _ hr1 hrz).mono ?_
          rintro e w3 ⟨rfl, hq1, hk1⟩
          replace hr2 := hr2.keep hk1 (Ne.symm hne)
          replace hbl := Keep.drop hbl hB1 hk1
          clear hr1 hw0 hw1
          go_wp2_with fail
          refine (rr_var _ _ _ hr2 hrz).mono ?_
          rintro e w4 ⟨rfl, hq2, hk2⟩
          replace hq1 := hq1.keep hk2 hne
          replace hbl := Keep.drop hbl hB2 hk2
          clear hr2 hk1 hk2
          have hqs := Rd.var_le r
          go_wp2_with fail
          obtain ⟨q, hq⟩ : ∃ q, r.var.2 = q := ⟨_, rfl⟩
          rw [hq] at hq1 hq2 hqs
          clear hq
          obtain ⟨qs, qb⟩ := q
          have hqr : ∀ n, RdAt (World.drewN _ n) B2 _ := fun n => hq2.drewN n
          obtain ⟨hqc0, hqc1, hqf0, hqf1⟩ := hq2
          replace hqs : qs.size ≤ r.s.size := hqs
          have hqk : qs.size ≤ 1152921504606846976 := by omega
          cases qb
          all_goals
            go_wp2_with fail
            go_quiet ((first | (go_at_call 33; exact Calls.quiet_of_same (rd_ok _ _ _ (hq1.drewN _))) | (go_at_call 34; exact Calls.quiet_of_same (rd_left _ _ _ (hq1.drewN _)))))
            go_wp2_with fail
            go_roundw
            case rel => exact ⟨j + 1, _, by omega, by go_num, hq1.drewN _, hqr _, by show qs.size ≤ _; omega, below_drewN hbl _⟩
            case measure => simp [intOf]; omega
        · go_wp2_with fail
          refine (rd_var _ _ _ hr1 hrz).mono ?_
          rintro e w3 ⟨rfl, hq1, hk1⟩
          replace hr2 := hr2.keep hk1 (Ne.symm hne)
          replace hbl := Keep.drop hbl hB1 hk1
          clear hr1 hw0 hw1
          go_wp2_with fail
          refine (rr_var _ _ _ hr2 hrz).mono ?_
          rintro e w4 ⟨rfl, hq2, hk2⟩
          replace hq1 := hq1.keep hk2 hne
          replace hbl := Keep.drop hbl hB2 hk2
          clear hr2 hk1 hk2
          have hqs := Rd.var_le r
          go_wp2_with fail
          obtain ⟨q, hq⟩ : ∃ q, r.var.2 = q := ⟨_, rfl⟩
          rw [hq] at hq1 hq2 hqs
          clear hq
          obtain ⟨qs, qb⟩ := q
          have hqr : ∀ n, RdAt (World.drewN _ n) B2 _ := fun n => hq2.drewN n
          obtain ⟨hqc0, hqc1, hqf0, hqf1⟩ := hq2
          replace hqs : qs.size ≤ r.s.size := hqs
          have hqk : qs.size ≤ 1152921504606846976 := by omega
          cases qb
          all_goals
            go_wp2_with fail
            go_quiet ((first | (go_at_call 33; exact Calls.quiet_of_same (rd_ok _ _ _ (hq1.drewN _))) | (go_at_call 34; exact Calls.quiet_of_same (rd_left _ _ _ (hq1.drewN _)))))
            go_wp2_with fail
            go_roundw
            case rel => exact ⟨j + 1, _, by omega, by go_num, hq1.drewN _, hqr _, by show qs.size ≤ _; omega, below_drewN hbl _⟩
            case measure => simp [intOf]; omega
      · obtain ⟨b, o, rfl, hcells⟩ := Hd.out (by omega)
        clear hcells
        go_wp2_with fail
        go_ret
        exact ⟨rfl, hbl⟩
    · obtain rfl : j = len := by omega
      go_wp2_with fail
      go_ret
      exact ⟨rfl, hbl⟩
end Go.Proofs.Ytpbjoifdnhjfnaa
