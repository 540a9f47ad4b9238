/- VarintMany: its walk. -/
import Derived.Test.YtpbjoifdnhjfnaaVarX
import Derived.Test.YtpbjoifdnhjfnaaRdL
import Derived.OpenShut
namespace Go.Pin
open Go.RowKit
set_option linter.unusedVariables false
set_option linter.unusedSimpArgs false
/-- A slice of whole numbers that came in. -/
def IsRow (k : IntKind) (w : World) (a : Option Addr) (len cap : Nat) (zs : List Int) : Prop :=
  (a = none ∧ len = 0 ∧ cap = 0 ∧ zs = []) ∨
  ∃ x, a = some x ∧ len ≤ cap ∧ cap ≤ maxLen ∧ zs.length = cap ∧ (∀ i, i < zs.length → w.cell? (x.add i) = some (.int k (zs.getD i 0))) ∧ ∀ n ∈ zs, (Lit.int k n).wf = true

/-- The bytes of the numbers, one behind the other. -/
def flat (zs : List Int) : List UInt8 := (zs.map fun z => vput z.toNat).flatten
theorem flat_snoc (zs : List Int) (i : Nat) (h : i < zs.length) : flat (zs.take (i + 1)) = flat (zs.take i) ++ vput (zs.getD i 0).toNat := by
  unfold flat
  rw [List.take_succ_eq_append_getElem h, List.map_append, List.flatten_append]
  simp [List.getD, h]
theorem flat_drop (zs : List Int) (i : Nat) (h : i < zs.length) : flat (zs.drop i) = vput (zs.getD i 0).toNat ++ flat (zs.drop (i + 1)) := by
  unfold flat
  rw [List.drop_eq_getElem_cons h, List.map_cons, List.flatten_cons]
  simp only [List.getD, List.getElem?_eq_getElem h, Option.getD_some]
theorem flat_len (zs : List Int) : (flat zs).length ≤ 10 * zs.length := by
  induction zs with
  | nil => simp [flat]
  | cons z zs ih =>
    have : flat (z :: zs) = vput z.toNat ++ flat zs := rfl
    rw [this, List.length_append, List.length_cons]
    have := vput_len z.toNat
    omega
theorem vput_len_big (n : Nat) (h : 128 ≤ n) (hn : n < 18446744073709551616) : (vput n).length = (vput (n / 128)).length + 1 := by rw [vput_big n h hn]; rfl
theorem vput_len_small (n : Nat) (h : n < 128) : (vput n).length = 1 := by rw [vput_small n h]; rfl
end Go.Pin
namespace Go.Proofs.Ytpbjoifdnhjfnaa
open Go.RowKit Go.Pin
set_option linter.unusedVariables false
set_option linter.unusedSimpArgs false

set_option maxHeartbeats 1600000 in
theorem many_core (a : Option Addr) (len cap n : Nat) (zs : List Int) (w : World) (hlen : len ≤ 9223372036854775807) (hn : (if (20 : Int) < (len : Int) then 20 else (len : Int)) = (n : Int)) (hn20 : n ≤ 20) (hnl : n ≤ len) (hlc : len ≤ cap)
    (hz : zs.length = n) (hr : ∀ i, i < n → 0 ≤ zs.getD i 0 ∧ zs.getD i 0 ≤ 18446744073709551615)
    (hc : 0 < n → ∃ b o, a = some ⟨b, o, none⟩ ∧ ∀ i, i < n → w.cell? ⟨b, o + i, none⟩ = some (.int .u64 (zs.getD i 0))) :
    Calls Try.prog 11 #[.slice a len cap] w fun e w' => e = .returned (.bool true) ∧ Below w.heap.size w w' := by
  have hb := Below.refl w.heap.size w
  have Hz := Aside.mk hz
  have Hr := Aside.mk hr
  have Hc := Aside.mk hc
  clear hz hr hc
  go_enter Try.func11, Try.ntmps11
  go_wp2_with fail
  refine (var_examples _).mono ?_
  rintro e w0 ⟨rfl, hb'⟩
  replace hb := Below.next hb hb'
  clear hb'
  go_wp2_with fail
  clear hn
  go_loopw [4, 5, 6] (fun s m i wr => ∃ k : Nat, k ≤ n ∧ i = .int .i64 k ∧ s = .string (bs (flat (zs.take k))) ∧ m = .int .i64 ((flat (zs.take k)).length : Int) ∧ Below w.heap.size w wr) (fun _ _ i _ => n - (intOf i).toNat)
  case atStart => exact ⟨0, by omega, rfl, rfl, rfl, hb⟩
  case round =>
    clear hb
    obtain ⟨k, hk, rfl, rfl, rfl, hbl⟩ := hrel
    by_cases hlt : k < n
    · obtain ⟨b, o, rfl, hcell⟩ := Hc.out (by omega)
      obtain ⟨z, hz, hz0, hz1⟩ : ∃ z : Int, zs.getD k 0 = z ∧ 0 ≤ z ∧ z ≤ 18446744073709551615 := ⟨_, rfl, Hr.out k hlt⟩
      have hck := hcell k hlt
      have hbk := World.block_lt_of_cell? _ _ hck
      have hcw : wr.cell? ⟨b, o + k, none⟩ = some (.int .u64 z) := by rw [hbl.cell hbk, hck, hz]
      have hsn := flat_snoc zs k (by rw [Hz.out]; exact hlt)
      rw [hz] at hsn
      have Hsn := Aside.mk hsn
      obtain ⟨F, hF⟩ : ∃ F, bs (flat (zs.take k)) = F := ⟨_, rfl⟩
      obtain ⟨M, hM⟩ : ∃ M : Nat, (flat (zs.take k)).length = M := ⟨_, rfl⟩
      obtain ⟨V, hV, hVz⟩ : ∃ V, vputS z.toNat = V ∧ V.size ≤ 10 := ⟨_, rfl, (vputS_size _).1⟩
      have hFz : F.size ≤ 200 := by
        rw [← hF, bs_size]; have h1 := flat_len (zs.take k); rw [List.length_take] at h1; omega
      have hMz : M ≤ 200 := by rw [← hM, ← bs_size, hF]; exact hFz
      rw [hF, hM]
      have HF := Aside.mk hF
      have HM := Aside.mk hM
      have HV := Aside.mk hV
      have Hz2 := Aside.mk hz
      have Hck := Aside.mk hck
      clear hcell hsn hF hM hV hz hck
      go_wp2_with fail
      refine (var_put _ hz0 hz1 _).mono ?_
      rw [HV.out]
      rintro e w1 ⟨rfl, hb1⟩
      have hcw1 : w1.cell? ⟨b, o + k, none⟩ = some (.int .u64 z) := by rw [hb1.cell (World.block_lt_of_cell? _ _ hcw)]; exact hcw
      replace hbl := Below.next hbl hb1
      clear hcw hb1
      go_wp2_with fail
      go_loop [5, 7] (fun m y => ∃ (c : Nat) (q : Int), c ≤ 400 ∧ m = .int .i64 c ∧ y = .int .u64 q ∧ 0 ≤ q ∧ q ≤ 18446744073709551615 ∧ c + (vput q.toNat).length = M + (vput z.toNat).length + 1) (fun _ y => (intOf y).toNat)
      case atStart => exact ⟨M + 1, z, by omega, rfl, rfl, hz0, hz1, by omega⟩
      case round =>
        obtain ⟨c, q, hc4, rfl, rfl, hq0, hq1, hcq⟩ := hrel
        have hlz := vput_len z.toNat
        have hpz := vput_pos q.toNat
        by_cases hq : 128 ≤ q
        · have hstep := vput_len_big q.toNat (by omega) (by omega)
          have hc5 : c + 1 ≤ 400 := by omega
          have Hstep := Aside.mk hstep
          have Hcq := Aside.mk hcq
          clear hstep hcq hlz hpz
          go_wp2_with fail
          go_round
          case rel => exact ⟨c + 1, q / 128, hc5, by go_num, rfl, by omega, by omega, by have h1 := Hstep.out; have h2 := Hcq.out; rw [show (q / 128).toNat = q.toNat / 128 from by omega]; omega⟩
          case measure => simp [intOf]; omega
        · have hstep := vput_len_small q.toNat (by omega)
          have hcfin : c = M + (vput z.toNat).length := by omega
          have Hcfin := Aside.mk hcfin
          clear hstep hcq hcfin hlz hpz
          go_wp2_with fail
          go_roundw
          case rel =>
            refine ⟨k + 1, by omega, by go_num, ?_, ?_, hbl⟩
            · rw [Hsn.out, ← bs_append, HF.out]
              have : bs (vput z.toNat) = V := HV.out
              rw [this]
            · rw [Hsn.out, List.length_append, HM.out, ← Hcfin.out]
          case measure => simp [intOf]; omega
    · obtain rfl : k = n := by omega
      have e0 : zs.take k = zs := List.take_of_length_le (by rw [Hz.out]; omega)
      rw [e0]
      clear e0
      obtain ⟨F, hF⟩ : ∃ F, bs (flat zs) = F := ⟨_, rfl⟩
      obtain ⟨M, hM⟩ : ∃ M : Nat, (flat zs).length = M := ⟨_, rfl⟩
      have hFz : F.size = M := by rw [← hF, bs_size, hM]
      have hMz : M ≤ 200 := by have h1 := flat_len zs; rw [Hz.out] at h1; omega
      rw [hF, hM]
      have HF := Aside.mk hF
      clear hF hM
      go_wp2_with fail
      refine (rd_new _ _).mono ?_
      rintro e w1 ⟨rfl, hr, hz1, hb1⟩
      have hB := hbl.size
      replace hbl := Below.next hbl hb1
      rw [← HF.out] at hr
      generalize wr.heap.size = B at *
      clear hb1 hz1
      have hne : ∀ b x v, w.cell? ⟨b, x, none⟩ = some v → b ≠ B := fun b x v h => by have := World.block_lt_of_cell? _ _ h; simp at this; omega
      have Hne := Aside.mk hne
      clear hne
      go_wp2_with fail
      go_loopw [9] (fun i wx => ∃ j : Nat, j ≤ k ∧ i = .int .i64 j ∧ RdAt wx B ⟨bs (flat (zs.drop j)), false⟩ ∧ Below w.heap.size w wx) (fun i _ => k - (intOf i).toNat)
      case atStart => exact ⟨0, by omega, rfl, hr, hbl⟩
      case round =>
        clear hr hbl
        obtain ⟨j, hj, rfl, hr, hbx⟩ := hrel
        by_cases hlt2 : j < k
        · obtain ⟨b, o, rfl, hcell⟩ := Hc.out (by omega)
          obtain ⟨z, hz, hz0, hz1⟩ : ∃ z : Int, zs.getD j 0 = z ∧ 0 ≤ z ∧ z ≤ 18446744073709551615 := ⟨_, rfl, Hr.out j hlt2⟩
          have hck := hcell j hlt2
          have hbk := World.block_lt_of_cell? _ _ hck
          have hcw : wr.cell? ⟨b, o + j, none⟩ = some (.int .u64 z) := by rw [hbx.cell hbk, hck, hz]
          have hbB := Hne.out _ _ _ hck
          have hsz := flat_len (zs.drop j)
          rw [List.length_drop, Hz.out] at hsz
          have hv := rd_var_put z.toNat (flat (zs.drop (j + 1))) false (by omega)
          rw [← hz, ← flat_drop zs j (by rw [Hz.out]; exact hlt2), hz] at hv
          have Hv := Aside.mk hv
          have Hsz := Aside.mk (show (bs (flat (zs.drop j))).size ≤ 1152921504606846976 by rw [bs_size]; omega)
          clear hcell hck hz hv hsz
          go_wp2_with fail
          go_region_held3 (fun w' => w'.cell? ⟨b, o + j, none⟩ = some (.int .u64 z)) (first | go_keep | (exact hcw2)) ((go_at_call 32; refine (rd_var _ _ _ hr.drew Hsz.out).mono ?_; rw [Hv.out, Int.toNat_of_nonneg hz0]; rintro e w2 ⟨rfl, hr2, hk2⟩; have hcw2 : w2.cell? ⟨b, o + j, none⟩ = some (.int .u64 z) := hk2.cell hcw hbB))
          replace hbx := Keep.drop hbx.drew hB hk2
          clear hk2 hcw hcw2
          go_wp2_with fail
          go_roundw
          case rel => exact ⟨j + 1, by omega, by go_num, hr2, hbx⟩
          case measure => simp [intOf]; omega
        · obtain rfl : j = k := by omega
          have e0 : zs.drop j = [] := List.drop_of_length_le (by rw [Hz.out]; omega)
          rw [e0] at hr
          have hl0 : (Rd.mk (bs (flat [])) false).s.size = 0 := by rfl
          clear e0
          go_wp2_with fail
          refine (rd_ok _ _ _ hr).mono ?_
          rintro e w4 ⟨rfl, rfl⟩
          go_wp2_with fail
          refine (rd_left _ _ _ hr).mono ?_
          rintro e w4 ⟨rfl, rfl⟩
          rw [hl0]
          go_wp2_with fail
          go_ret
          exact ⟨rfl, hbx⟩

theorem varintMany_walk (a0 : Option Addr) (len0 cap0 : Nat) (z0 : List Int) (w : World) (h : IsRow .u64 w a0 len0 cap0 z0) :
    Calls Try.prog 11 #[.slice a0 len0 cap0] w fun e w' => e = .returned (.bool true) ∧ Below w.heap.size w w' := by
  rcases h with ⟨rfl, rfl, rfl, rfl⟩ | ⟨x, rfl, h1, h2, h3, h4, h5⟩
  · exact many_core none 0 0 0 [] w (by omega) (by simp) (by omega) (by omega) (by omega) rfl (fun i hi => by omega) (fun h => by omega)
  · unfold maxLen at h2
    have hr : ∀ i, i < z0.length → 0 ≤ z0.getD i 0 ∧ z0.getD i 0 ≤ 18446744073709551615 := fun i hi => by
      have := h5 (z0.getD i 0) (by simp [List.getD, hi])
      exact bounds_u64 this
    have hmin : (if (20 : Int) < (len0 : Int) then 20 else (len0 : Int)) = ((min 20 len0 : Nat) : Int) := by split <;> omega
    refine many_core (some x) len0 cap0 (min 20 len0) (z0.take (min 20 len0)) w (by omega) hmin (by omega) (by omega) h1 (by rw [List.length_take]; omega) ?_ ?_
    · intro i hi
      have : (z0.take (min 20 len0)).getD i 0 = z0.getD i 0 := by simp only [List.getD, List.getElem?_take, if_pos hi]
      rw [this]; exact hr i (by omega)
    · intro hpos
      have h0 := h4 0 (by omega)
      have hx : x.spot = none := by
        have hx0 : x.add 0 = x := by simp [Addr.add]
        rw [hx0] at h0
        unfold World.cell? at h0
        split at h0
        · cases hs : x.spot with
          | none => rfl
          | some _ => simp [hs] at h0
        · cases h0
      refine ⟨x.block, x.off, by cases x; simp_all, ?_⟩
      intro i hi
      have hi4 := h4 i (by omega)
      have e1 : x.add i = ⟨x.block, x.off + i, none⟩ := by
        unfold Addr.add; split
        · rename_i h; subst h; cases x; simp_all
        · rfl
      have e2 : (z0.take (min 20 len0)).getD i 0 = z0.getD i 0 := by simp only [List.getD, List.getElem?_take, if_pos hi]
      rw [e1] at hi4
      rw [e2]; exact hi4
end Go.Proofs.Ytpbjoifdnhjfnaa
