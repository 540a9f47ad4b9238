/- What package frame computes: the frame that a text begins with. -/
import Derived.Test.YtlbnbmojgdoieaaProg
import Derived.Test.YtlbnbmojgdoieaaFrameM
import Derived.Test.YtlbnbmojgdoieaaFrameW
import Derived.Test.YtlbnbmojgdoieaaCrcW
import Derived.Test.YtlbnbmojgdoieaaRdW
import Derived.Test.YtlbnbmojgdoieaaMap
set_option maxRecDepth 16000
namespace Go.Pin
open Go.RowKit
theorem Keep.drop' {w w1 w2 : World} {B b : Nat} (h : Below B w w1) (hB : B ≤ w1.heap.size) (hb : B ≤ b) (k : Keep (fun j => j = b) w1 w2) : Below B w w2 :=
  h.trans (k.below hB fun j hj => by omega)
theorem RdAt.drewN {a : World} {b : Nat} {r : Rd} (h : RdAt a b r) (n : Nat) : RdAt (a.drewN n) b r := ⟨h.c0, h.c1, h.f0, h.f1⟩
theorem mget_two (f g : Value) (k : Int) : mget (mset (mset [] 1 f) 2 g) k = if k = 1 then some f else if k = 2 then some g else none := by
  by_cases h1 : k = 1
  · subst h1; simp [mget, mset]
  · by_cases h2 : k = 2
    · subst h2; simp [mget, mset]
    · rw [if_neg h1, if_neg h2]; simp [mget, mset, Ne.symm h1, Ne.symm h2]
theorem results4 {fn : Func} {a b c d : Tmp} (h : fn.results = #[.tmp a, .tmp b, .tmp c, .tmp d]) (T : Array Value) (P : Program) (w : World) :
    (results fn T).run P w = .ok (.tuple #[T.getD a undef, T.getD b undef, T.getD c undef, T.getD d undef]) w := by simp [results, h]
theorem RdAt.alloc {a : World} {b : Nat} {r : Rd} (h : RdAt a b r) (o : Obj) : RdAt (a.alloc o) b r := h.keep ((Keep.refl (fun _ => False) a).alloc o) id
theorem Rd.fixed_lt (r : Rd) (k : Nat) : (r.fixed k).1 < 256 ^ k := by
  unfold Rd.fixed
  refine Nat.lt_of_lt_of_le (beNat_lt _) (Nat.pow_le_pow_right (by omega) ?_)
  have h := Rd.bytes_size (if (8 : Int) < k then Rd.fail else r) k
  have : ((if (8 : Int) < k then Rd.fail else r).bytes k).1.data.toList.length = ((if (8 : Int) < k then Rd.fail else r).bytes k).1.size := rfl
  rw [this]; omega
theorem Rd.fixed_le' (r : Rd) (k : Int) : (r.fixed k).2.s.size ≤ r.s.size := by
  unfold Rd.fixed
  refine Nat.le_trans (Rd.bytes_le _ _) ?_
  split
  · exact Nat.zero_le _
  · exact Nat.le_refl _
end Go.Pin
namespace Go.Proofs.Ytlbnbmojgdoieaa
open Go.RowKit Go.Pin
set_option linter.unusedVariables false
set_option linter.unusedSimpArgs false

set_option maxHeartbeats 400000 in
theorem frame_next1 (c b : Nat) (r : Rd) (w : World) (hc : w.cell? ⟨c, 0, none⟩ = some (.pointer (some ⟨b, 0, none⟩))) (h : RdAt w b r) (hs : r.s.size ≤ 1152921504606846976) :
    Calls Try.prog 95 #[.pointer (some ⟨c, 0, none⟩)] w fun e w' => e = .returned (.int .u64 ((r.fixed 4).1 : Int)) ∧ RdAt w' b (r.fixed 4).2 ∧ Keep (fun k => k = b) w w' := by
  go_enter Try.func95, Try.ntmps95
  go_wp2_with fail
  refine (rd_fixed _ _ 4 _ h (by omega) hs).mono ?_
  rintro e w1 ⟨rfl, h1, hk⟩
  go_wp2_with fail
  go_ret
  exact ⟨rfl, h1, hk⟩

set_option maxHeartbeats 3200000 in
theorem frame_next (s : ByteArray) (w : World) (hs : s.size ≤ 1152921504606846976) :
    Calls Try.prog 68 #[.string s] w fun e w' => e = .returned (.tuple #[.int .i64 (fnext s).1, .string (fnext s).2.1, .int .i64 (fnext s).2.2.1, .bool (fnext s).2.2.2]) ∧ Below w.heap.size w w' := by
  have hb := Below.refl w.heap.size w
  have hmf := crc_mf
  have hmm := @run_makeMap Try.prog
  go_enter Try.func68, Try.ntmps68
  go_wp2_with fail
  refine (rd_new _ _).mono ?_
  rintro e w1 ⟨rfl, hr, hz, hb1⟩
  have hB := hb.size
  replace hb := Below.next hb hb1
  have hlt := hr.lt
  generalize hW0 : w.heap.size = W0 at *
  have HW := Aside.mk hW0
  clear hW0
  clear hb1 hz
  have hs1 : (Rd.mk s false).s.size ≤ 1152921504606846976 := hs
  have hCB : W0 ≠ w1.heap.size := by omega
  have hCs : W0 ≤ w1.heap.size := by omega
  go_wp2_with fail
  have hc := World.cell?_alloc_new w1 #[Value.pointer (some ⟨W0, 0, none⟩)] 116 0
  replace hc : (w1.alloc (Obj.cells #[Value.pointer (some ⟨W0, 0, none⟩)] 116)).cell? ⟨w1.heap.size, 0, none⟩ = some (.pointer (some ⟨W0, 0, none⟩)) := hc
  replace hr := hr.alloc (Obj.cells #[Value.pointer (some ⟨W0, 0, none⟩)] 116)
  replace hb := hb.alloc hCs (Obj.cells #[Value.pointer (some ⟨W0, 0, none⟩)] 116)
  have hz : w1.heap.size < (w1.alloc (Obj.cells #[Value.pointer (some ⟨W0, 0, none⟩)] 116)).heap.size := by simp
  generalize w1.alloc (Obj.cells #[Value.pointer (some ⟨W0, 0, none⟩)] 116) = w2 at *
  generalize w1.heap.size = C at *
  refine (rd_fixed _ _ 1 _ hr (by omega) hs1).mono ?_
  rintro e w3 ⟨rfl, hr3, hk⟩
  replace hc := hk.cell hc (fun q => hCB q.symm)
  replace hb := Keep.drop' hb (by omega) (Nat.le_refl _) hk
  have hz3 := hk.size
  clear hr hk hlt
  have hx1 : ((Rd.mk s false).fixed 1).1 < 256 := Rd.fixed_lt ⟨s, false⟩ 1
  obtain ⟨x, hx, hx0⟩ : ∃ x : Int, (((Rd.mk s false).fixed 1).1 : Int) = x ∧ 0 ≤ x ∧ x ≤ 255 := ⟨_, rfl, by omega, by omega⟩
  have hs3 := Rd.fixed_le' ⟨s, false⟩ 1
  replace hs3 : ((Rd.mk s false).fixed 1).2.s.size ≤ 1152921504606846976 := Nat.le_trans hs3 hs
  rw [hx]
  have Hx := Aside.mk hx
  obtain ⟨r3, h3⟩ : ∃ r3, ((Rd.mk s false).fixed 1).2 = r3 := ⟨_, rfl⟩
  rw [h3] at hr3 hs3
  have H3 := Aside.mk h3
  clear hx h3 hx1 hs1
  have hm0 := MapAt.made w3 .i64
  obtain ⟨w4, hu4, hm4, hk4, hz4⟩ := run_map_update (P := Try.prog) (t := 139) hm0 Try.underlying139 Try.underlying3 1 (Value.func (Fn.func 95) #[] #[.pointer (some ⟨C, 0, none⟩)])
  obtain ⟨w5, hu5, hm5, hk5, hz5⟩ := run_map_update (P := Try.prog) (t := 139) hm4 Try.underlying139 Try.underlying3 2 (Value.func (Fn.func 70) #[.pointer (some ⟨W0, 0, none⟩)] #[])
  have hkm : Keep (fun k => k = w3.heap.size) w3 w5 := (((Keep.refl (fun k => k = w3.heap.size) w3).alloc (.map #[] 0)).trans hk4).trans hk5
  have hC3 := World.block_lt_of_cell? _ _ hc
  replace hC3 : C < w3.heap.size := hC3
  have hc4 : w4.cell? ⟨C, 0, none⟩ = some (.pointer (some ⟨W0, 0, none⟩)) := hk4.cell ((Keep.refl (fun _ => False) w3).alloc (.map #[] 0) |>.cell hc id) (by show ¬ (C = w3.heap.size); omega)
  have hc5 := hkm.cell hc (by show ¬ (C = w3.heap.size); omega)
  have hr5 := hr3.keep hkm (by have := hr3.lt; omega)
  replace hb := Keep.drop' hb (by have := hb.size; omega) (by omega) hkm
  clear hm0 hm4 hk4 hk5 hkm hC3 hz4 hr3 hz3 hz
  obtain ⟨z, hzv⟩ : ∃ z, ∀ w, (zeroValue 118).run Try.prog w = .ok z w := ⟨_, fun _ => rfl⟩
  rcases (show x = 161 ∨ x = 162 ∨ (x ≠ 161 ∧ x ≠ 162) by omega) with rfl | rfl | ⟨n1, n2⟩
  · have hl := run_map_lookup_ok (P := Try.prog) (t := 139) hm5 Try.underlying139 Try.underlying3 1 (hzv _)
    rw [mget_two, if_pos rfl] at hl
    simp only [Option.getD_some, Option.isSome_some] at hl
    clear hm5 hzv
    have hC3 := World.block_lt_of_cell? _ _ hc5
    replace hC3 : C < w5.heap.size := hC3
    have hfo : fopen s = (1, (r3.fixed 4).1, (r3.fixed 4).2) := by
      have h1 := Hx.out
      have h3 := H3.out
      unfold fopen
      dsimp only
      rw [h1, h3]; rfl
    have hN : (r3.fixed 4).1 < 18446744073709551616 := by have : (r3.fixed 4).1 < 4294967296 := Rd.fixed_lt r3 4; omega
    have hs6 : (r3.fixed 4).2.s.size ≤ s.size := Nat.le_trans (Rd.fixed_le' r3 4) (by rw [← H3.out]; exact Rd.fixed_le' ⟨s, false⟩ 1)
    obtain ⟨N, hNe, hN0, hN1⟩ : ∃ N : Int, (((r3.fixed 4).1 : Nat) : Int) = N ∧ 0 ≤ N ∧ N ≤ 18446744073709551615 := ⟨_, rfl, by omega, by omega⟩
    have hNn : (r3.fixed 4).1 = N.toNat := by omega
    rw [hNn] at hfo
    clear hN hNn
    have Hfo := Aside.mk hfo
    have HNe := Aside.mk hNe
    have Hs6 := Aside.mk hs6
    clear hfo hNe hs6
    go_wp2_with fail
    refine (frame_next1 C W0 r3 _ hc5 hr5 hs3).mono ?_
    rw [HNe.out]
    rintro e w6 ⟨rfl, hr6, hk6⟩
    have hfo := Hfo.out
    have hs6 := Hs6.out
    clear Hfo Hs6 HNe
    generalize (r3.fixed 4).2 = R6 at *
    replace hc := hk6.cell hc5 (fun q => hCB q.symm)
    replace hb := Keep.drop' hb (by omega) (Nat.le_refl _) hk6
    clear hk6 hr5 hc5 hc4 hu4 hu5 hl hz5
    have Hfo := Aside.mk hfo
    clear hfo Hx H3 hs3 hx0
    have hs6' : R6.s.size ≤ 1152921504606846976 := Nat.le_trans hs6 hs
    go_wp2_with fail
    refine (rd_left W0 R6 _ hr6).mono ?_
    rintro e w7 ⟨rfl, rfl⟩
    go_wp2_with fail
    refine (rd_fixed W0 R6 4 _ hr6 (by omega) hs6').mono ?_
    rintro e w8 ⟨rfl, hr8, hk8⟩
    replace hc := hk8.cell hc (fun q => hCB q.symm)
    replace hb := Keep.drop' hb (by have := hr6.lt; omega) (Nat.le_refl _) hk8
    obtain ⟨S, hSe, hS0, hS1⟩ : ∃ S : Int, (((R6.fixed 4).1 : Nat) : Int) = S ∧ 0 ≤ S ∧ S ≤ 4294967295 := ⟨_, rfl, by omega, by have : (R6.fixed 4).1 < 4294967296 := Rd.fixed_lt R6 4; omega⟩
    have hs8 : (R6.fixed 4).2.s.size ≤ 1152921504606846976 := Nat.le_trans (Rd.fixed_le' R6 4) hs6'
    rw [hSe]
    obtain ⟨R8, hR8⟩ : ∃ R8, (R6.fixed 4).2 = R8 := ⟨_, rfl⟩
    rw [hR8] at hr8 hs8
    have HS := Aside.mk hSe
    have HR8 := Aside.mk hR8
    clear hSe hR8 hk8 hr6
    obtain ⟨s8, b8⟩ := R8
    replace hs8 : s8.size ≤ 1152921504606846976 := hs8
    go_wp2_with fail
    refine (rd_ok _ _ _ hr8).mono ?_
    rintro e w9 ⟨rfl, rfl⟩
    by_cases hbad : b8 = true
    · subst hbad
      go_wp2_with fail
      refine bodyPost_ret (results4 rfl _ _ _) rfl ?_
      have hfn : fnext s = fnone := by
        unfold fnext
        rw [Hfo.out]
        dsimp only
        rw [if_neg (by omega), HR8.out, if_pos (.inl rfl)]
      rw [hfn]
      exact ⟨rfl, by rw [HW.out]; exact hb⟩
    · obtain rfl : b8 = false := by simpa using hbad
      clear hbad
      by_cases hN2 : 1048576 < N
      · go_wp2_with fail
        refine bodyPost_ret (results4 rfl _ _ _) rfl ?_
        have hfn : fnext s = fnone := by
          unfold fnext
          rw [Hfo.out]
          dsimp only
          rw [if_neg (by omega), if_pos (.inr (.inl (by omega)))]
        rw [hfn]
        exact ⟨rfl, by rw [HW.out]; exact hb⟩
      · go_wp2_with fail
        refine (rd_left _ _ _ hr8).mono ?_
        rintro e w10 ⟨rfl, rfl⟩
        by_cases hN3 : (s8.size : Int) < N
        · go_wp2_with fail
          refine bodyPost_ret (results4 rfl _ _ _) rfl ?_
          have hfn : fnext s = fnone := by
            unfold fnext
            rw [Hfo.out]
            dsimp only
            rw [if_neg (by omega), HR8.out, if_pos (.inr (.inr (by show s8.size < N.toNat; omega)))]
          rw [hfn]
          exact ⟨rfl, by rw [HW.out]; exact hb⟩
        · have hN4 : N ≤ (s8.size : Int) := by omega
          clear hN3
          go_wp2_with fail
          refine (rd_bytes _ _ N _ hr8 (by omega) hs8).mono ?_
          rintro e w11 ⟨rfl, hr11, hk11⟩
          have hW8 := hr8.lt
          replace hc := hk11.cell hc (fun q => hCB q.symm)
          replace hb := Keep.drop' hb (by omega) (Nat.le_refl _) hk11
          have hs11 : (Rd.bytes ⟨s8, false⟩ N).2.s.size ≤ s8.size := Rd.bytes_le ⟨s8, false⟩ N
          have hz11 : ((Rd.bytes ⟨s8, false⟩ N).1.size : Int) ≤ max N 0 := Rd.bytes_size ⟨s8, false⟩ N
          obtain ⟨R11, hR11⟩ : ∃ R, Rd.bytes ⟨s8, false⟩ N = R := ⟨_, rfl⟩
          rw [hR11] at hr11 hs11 hz11
          rw [hR11]
          have HR11 := Aside.mk hR11
          obtain ⟨body, r11⟩ := R11
          replace hz11 : body.size ≤ 1152921504606846976 := by have : (body.size : Int) ≤ max N 0 := hz11; omega
          replace hs11 : r11.s.size ≤ s8.size := hs11
          have hs8s : s8.size ≤ s.size := by
            have h1 := Rd.fixed_le' R6 4
            rw [HR8.out] at h1
            exact Nat.le_trans h1 hs6
          replace hr11 : RdAt w11 W0 r11 := hr11
          clear hR11 hk11 hr8 hW8
          have hz0 : (s.extract 0 (s.size - R6.s.size)).size ≤ 1152921504606846976 := by rw [ByteArray.size_extract]; omega
          obtain ⟨hd, hhd⟩ : ∃ hd, s.extract 0 (s.size - R6.s.size) = hd := ⟨_, rfl⟩
          rw [hhd] at hz0
          have Hhd := Aside.mk hhd
          go_wp2_with fail
          clear hhd
          refine (crc_sum hd _ (by unfold maxLen; omega)).mono ?_
          rintro e w12 ⟨rfl, hb1⟩
          have hC11 := World.block_lt_of_cell? _ _ hc
          replace hC11 : C < w11.heap.size := hC11
          replace hr11 := hr11.below hb1
          replace hc : w12.cell? ⟨C, 0, none⟩ = some (.pointer (some ⟨W0, 0, none⟩)) := by rw [hb1.cell hC11]; exact hc
          replace hb := hb.trans (hb1.mono (by omega))
          have hC12 : C < w12.heap.size := by have := hb1.size; omega
          clear hb1 hC11
          go_wp2_with fail
          refine (crc_more _ body _ (by unfold maxLen; omega)).mono ?_
          rintro e w13 ⟨rfl, hb1⟩
          replace hr11 := hr11.below hb1
          replace hc : w13.cell? ⟨C, 0, none⟩ = some (.pointer (some ⟨W0, 0, none⟩)) := by rw [hb1.cell hC12]; exact hc
          replace hb := hb.trans (hb1.mono (by omega))
          clear hb1 hC12
          obtain ⟨Q, hQ, hQ0, hQ1⟩ : ∃ Q : Int, u32v (cmore (cmore 0#32 hd.data.toList) body.data.toList) = Q ∧ 0 ≤ Q ∧ Q < 4294967296 := ⟨_, rfl, u32v_range _⟩
          rw [hQ]
          have HQ := Aside.mk hQ
          clear hQ
          have hfn : fnext s = if Q ≠ S then fnone else (1, body, (s.size : Int) - r11.s.size, true) := by
            unfold fnext
            rw [Hfo.out]
            dsimp only
            have e1 : N = ((N.toNat : Nat) : Int) := by omega
            rw [if_neg (by omega), HR8.out, if_neg (by show ¬ (false = true ∨ 1048576 < N.toNat ∨ s8.size < N.toNat); simp; omega), Hhd.out, ← e1, HR11.out, HS.out]
            have e2 : ((csum hd body).toNat : Int) = Q := HQ.out
            dsimp only
            rw [e2]
          have Hfn := Aside.mk hfn
          clear hfn
          by_cases hQS : Q = S
          · subst hQS
            go_wp2_with fail
            refine (rd_left _ _ _ hr11).mono ?_
            rintro e w14 ⟨rfl, rfl⟩
            go_wp2_with fail
            refine bodyPost_ret (results4 rfl _ _ _) rfl ?_
            rw [Hfn.out, if_neg (by simp)]
            exact ⟨rfl, by rw [HW.out]; exact hb⟩
          · go_wp2_with fail
            refine bodyPost_ret (results4 rfl _ _ _) rfl ?_
            rw [Hfn.out, if_pos hQS]
            exact ⟨rfl, by rw [HW.out]; exact hb⟩
  · have hl := run_map_lookup_ok (P := Try.prog) (t := 139) hm5 Try.underlying139 Try.underlying3 2 (hzv _)
    rw [mget_two, if_neg (by omega), if_pos rfl] at hl
    simp only [Option.getD_some, Option.isSome_some] at hl
    clear hm5 hzv
    have hC3 := World.block_lt_of_cell? _ _ hc5
    replace hC3 : C < w5.heap.size := hC3
    have hfo : fopen s = (2, (r3.var).1, (r3.var).2) := by
      have h1 := Hx.out
      have h3 := H3.out
      unfold fopen
      dsimp only
      rw [h1, h3]; rfl
    have hN : (r3.var).1 < 18446744073709551616 := Rd.var_lt r3
    have hs6 : (r3.var).2.s.size ≤ s.size := Nat.le_trans (Rd.var_le r3) (by rw [← H3.out]; exact Rd.fixed_le' ⟨s, false⟩ 1)
    obtain ⟨N, hNe, hN0, hN1⟩ : ∃ N : Int, (((r3.var).1 : Nat) : Int) = N ∧ 0 ≤ N ∧ N ≤ 18446744073709551615 := ⟨_, rfl, by omega, by omega⟩
    have hNn : (r3.var).1 = N.toNat := by omega
    rw [hNn] at hfo
    clear hN hNn
    have Hfo := Aside.mk hfo
    have HNe := Aside.mk hNe
    have Hs6 := Aside.mk hs6
    clear hfo hNe hs6
    go_wp2_with fail
    refine (rd_var W0 r3 _ hr5 hs3).mono ?_
    rw [HNe.out]
    rintro e w6 ⟨rfl, hr6, hk6⟩
    have hfo := Hfo.out
    have hs6 := Hs6.out
    clear Hfo Hs6 HNe
    generalize (r3.var).2 = R6 at *
    replace hc := hk6.cell hc5 (fun q => hCB q.symm)
    replace hb := Keep.drop' hb (by omega) (Nat.le_refl _) hk6
    clear hk6 hr5 hc5 hc4 hu4 hu5 hl hz5
    have Hfo := Aside.mk hfo
    clear hfo Hx H3 hs3 hx0
    have hs6' : R6.s.size ≤ 1152921504606846976 := Nat.le_trans hs6 hs
    go_wp2_with fail
    refine (rd_left W0 R6 _ hr6).mono ?_
    rintro e w7 ⟨rfl, rfl⟩
    go_wp2_with fail
    refine (rd_fixed W0 R6 4 _ hr6 (by omega) hs6').mono ?_
    rintro e w8 ⟨rfl, hr8, hk8⟩
    replace hc := hk8.cell hc (fun q => hCB q.symm)
    replace hb := Keep.drop' hb (by have := hr6.lt; omega) (Nat.le_refl _) hk8
    obtain ⟨S, hSe, hS0, hS1⟩ : ∃ S : Int, (((R6.fixed 4).1 : Nat) : Int) = S ∧ 0 ≤ S ∧ S ≤ 4294967295 := ⟨_, rfl, by omega, by have : (R6.fixed 4).1 < 4294967296 := Rd.fixed_lt R6 4; omega⟩
    have hs8 : (R6.fixed 4).2.s.size ≤ 1152921504606846976 := Nat.le_trans (Rd.fixed_le' R6 4) hs6'
    rw [hSe]
    obtain ⟨R8, hR8⟩ : ∃ R8, (R6.fixed 4).2 = R8 := ⟨_, rfl⟩
    rw [hR8] at hr8 hs8
    have HS := Aside.mk hSe
    have HR8 := Aside.mk hR8
    clear hSe hR8 hk8 hr6
    obtain ⟨s8, b8⟩ := R8
    replace hs8 : s8.size ≤ 1152921504606846976 := hs8
    go_wp2_with fail
    refine (rd_ok _ _ _ hr8).mono ?_
    rintro e w9 ⟨rfl, rfl⟩
    by_cases hbad : b8 = true
    · subst hbad
      go_wp2_with fail
      refine bodyPost_ret (results4 rfl _ _ _) rfl ?_
      have hfn : fnext s = fnone := by
        unfold fnext
        rw [Hfo.out]
        dsimp only
        rw [if_neg (by omega), HR8.out, if_pos (.inl rfl)]
      rw [hfn]
      exact ⟨rfl, by rw [HW.out]; exact hb⟩
    · obtain rfl : b8 = false := by simpa using hbad
      clear hbad
      by_cases hN2 : 1048576 < N
      · go_wp2_with fail
        refine bodyPost_ret (results4 rfl _ _ _) rfl ?_
        have hfn : fnext s = fnone := by
          unfold fnext
          rw [Hfo.out]
          dsimp only
          rw [if_neg (by omega), if_pos (.inr (.inl (by omega)))]
        rw [hfn]
        exact ⟨rfl, by rw [HW.out]; exact hb⟩
      · go_wp2_with fail
        refine (rd_left _ _ _ hr8).mono ?_
        rintro e w10 ⟨rfl, rfl⟩
        by_cases hN3 : (s8.size : Int) < N
        · go_wp2_with fail
          refine bodyPost_ret (results4 rfl _ _ _) rfl ?_
          have hfn : fnext s = fnone := by
            unfold fnext
            rw [Hfo.out]
            dsimp only
            rw [if_neg (by omega), HR8.out, if_pos (.inr (.inr (by show s8.size < N.toNat; omega)))]
          rw [hfn]
          exact ⟨rfl, by rw [HW.out]; exact hb⟩
        · have hN4 : N ≤ (s8.size : Int) := by omega
          clear hN3
          go_wp2_with fail
          refine (rd_bytes _ _ N _ hr8 (by omega) hs8).mono ?_
          rintro e w11 ⟨rfl, hr11, hk11⟩
          have hW8 := hr8.lt
          replace hc := hk11.cell hc (fun q => hCB q.symm)
          replace hb := Keep.drop' hb (by omega) (Nat.le_refl _) hk11
          have hs11 : (Rd.bytes ⟨s8, false⟩ N).2.s.size ≤ s8.size := Rd.bytes_le ⟨s8, false⟩ N
          have hz11 : ((Rd.bytes ⟨s8, false⟩ N).1.size : Int) ≤ max N 0 := Rd.bytes_size ⟨s8, false⟩ N
          obtain ⟨R11, hR11⟩ : ∃ R, Rd.bytes ⟨s8, false⟩ N = R := ⟨_, rfl⟩
          rw [hR11] at hr11 hs11 hz11
          rw [hR11]
          have HR11 := Aside.mk hR11
          obtain ⟨body, r11⟩ := R11
          replace hz11 : body.size ≤ 1152921504606846976 := by have : (body.size : Int) ≤ max N 0 := hz11; omega
          replace hs11 : r11.s.size ≤ s8.size := hs11
          have hs8s : s8.size ≤ s.size := by
            have h1 := Rd.fixed_le' R6 4
            rw [HR8.out] at h1
            exact Nat.le_trans h1 hs6
          replace hr11 : RdAt w11 W0 r11 := hr11
          clear hR11 hk11 hr8 hW8
          have hz0 : (s.extract 0 (s.size - R6.s.size)).size ≤ 1152921504606846976 := by rw [ByteArray.size_extract]; omega
          obtain ⟨hd, hhd⟩ : ∃ hd, s.extract 0 (s.size - R6.s.size) = hd := ⟨_, rfl⟩
          rw [hhd] at hz0
          have Hhd := Aside.mk hhd
          go_wp2_with fail
          clear hhd
          refine (crc_sum hd _ (by unfold maxLen; omega)).mono ?_
          rintro e w12 ⟨rfl, hb1⟩
          have hC11 := World.block_lt_of_cell? _ _ hc
          replace hC11 : C < w11.heap.size := hC11
          replace hr11 := hr11.below hb1
          replace hc : w12.cell? ⟨C, 0, none⟩ = some (.pointer (some ⟨W0, 0, none⟩)) := by rw [hb1.cell hC11]; exact hc
          replace hb := hb.trans (hb1.mono (by omega))
          have hC12 : C < w12.heap.size := by have := hb1.size; omega
          clear hb1 hC11
          go_wp2_with fail
          refine (crc_more _ body _ (by unfold maxLen; omega)).mono ?_
          rintro e w13 ⟨rfl, hb1⟩
          replace hr11 := hr11.below hb1
          replace hc : w13.cell? ⟨C, 0, none⟩ = some (.pointer (some ⟨W0, 0, none⟩)) := by rw [hb1.cell hC12]; exact hc
          replace hb := hb.trans (hb1.mono (by omega))
          clear hb1 hC12
          obtain ⟨Q, hQ, hQ0, hQ1⟩ : ∃ Q : Int, u32v (cmore (cmore 0#32 hd.data.toList) body.data.toList) = Q ∧ 0 ≤ Q ∧ Q < 4294967296 := ⟨_, rfl, u32v_range _⟩
          rw [hQ]
          have HQ := Aside.mk hQ
          clear hQ
          have hfn : fnext s = if Q ≠ S then fnone else (2, body, (s.size : Int) - r11.s.size, true) := by
            unfold fnext
            rw [Hfo.out]
            dsimp only
            have e1 : N = ((N.toNat : Nat) : Int) := by omega
            rw [if_neg (by omega), HR8.out, if_neg (by show ¬ (false = true ∨ 1048576 < N.toNat ∨ s8.size < N.toNat); simp; omega), Hhd.out, ← e1, HR11.out, HS.out]
            have e2 : ((csum hd body).toNat : Int) = Q := HQ.out
            dsimp only
            rw [e2]
          have Hfn := Aside.mk hfn
          clear hfn
          by_cases hQS : Q = S
          · subst hQS
            go_wp2_with fail
            refine (rd_left _ _ _ hr11).mono ?_
            rintro e w14 ⟨rfl, rfl⟩
            go_wp2_with fail
            refine bodyPost_ret (results4 rfl _ _ _) rfl ?_
            rw [Hfn.out, if_neg (by simp)]
            exact ⟨rfl, by rw [HW.out]; exact hb⟩
          · go_wp2_with fail
            refine bodyPost_ret (results4 rfl _ _ _) rfl ?_
            rw [Hfn.out, if_pos hQS]
            exact ⟨rfl, by rw [HW.out]; exact hb⟩
  · have hl := run_map_lookup_ok (P := Try.prog) (t := 139) hm5 Try.underlying139 Try.underlying3 (x - 160) (hzv _)
    rw [mget_two, if_neg (by omega), if_neg (by omega)] at hl
    simp only [Option.getD_none, Option.isSome_none] at hl
    clear hm5 hzv
    have hfn : fnext s = fnone := by
      unfold fnext
      rw [if_pos]
      have h1 := Hx.out
      show ((((Rd.mk s false).fixed 1).1 : Int) - 160 ≠ 1 ∧ (((Rd.mk s false).fixed 1).1 : Int) - 160 ≠ 2)
      rw [h1]; omega
    have Hfn := Aside.mk hfn
    clear hfn
    go_wp2_with fail
    refine bodyPost_ret (results4 rfl _ _ _) rfl ?_
    rw [Hfn.out]
    exact ⟨rfl, by rw [HW.out]; exact hb⟩
end Go.Proofs.Ytlbnbmojgdoieaa
