/- VarintOnce: its walk. -/
import Derived.Test.YtpbjoifdnhjfnaaVarX
import Derived.Test.YtpbjoifdnhjfnaaVarP
namespace Go.Pin
set_option linter.unusedVariables false
set_option linter.unusedSimpArgs false
theorem var_none (s : ByteArray) (h : vget s.data.toList = none) : (Rd.mk s false).var = (0, Rd.fail) := by
  unfold Rd.var
  show (match vget s.data.toList with | some (n, k) => _ | none => _) = _
  rw [h]
theorem vputS_data (n : Nat) : (vputS n).data.toList = vput n := by simp [vputS]
end Go.Pin
namespace Go.Proofs.Ytpbjoifdnhjfnaa
open Go.RowKit Go.Pin
set_option linter.unusedVariables false
set_option linter.unusedSimpArgs false

set_option maxHeartbeats 800000 in
theorem varintOnce_walk (a b : Int) (ha : 0 ≤ a ∧ a ≤ 18446744073709551615) (hb0 : 0 ≤ b ∧ b ≤ 18446744073709551615) (w : World) :
    Calls Try.prog 9 #[.int .u64 a, .int .u64 b] w fun e w' => e = .returned (.bool true) ∧ Below w.heap.size w w' := by
  have hse := str_beq
  obtain ⟨cs, c, hsh, hcs, hc⟩ := vput_shape a.toNat (by omega)
  obtain ⟨q, hq⟩ : ∃ q, q = cs.length := ⟨_, rfl⟩
  have hSd := vputS_data a.toNat
  have hq10 : q ≤ 9 := by have := vput_len a.toNat; rw [hsh] at this; simp at this; omega
  have hmono : a ≤ b → (vputS a.toNat).size ≤ (vputS b.toNat).size := by
    intro h; unfold vputS; rw [size_mk, size_mk]; exact vput_len_mono _ _ (by omega) (by omega)
  have heq : decide (vputS a.toNat = vputS b.toNat) = (a == b) := by
    rw [Bool.eq_iff_iff, decide_eq_true_iff, beq_iff_eq]
    constructor
    · intro h
      have := congrArg (fun x : ByteArray => x.data.toList) h
      simp only [vputS_data] at this
      have := vput_inj _ _ (by omega) (by omega) this
      omega
    · intro h; rw [h]
  obtain ⟨S, hS⟩ : ∃ S, vputS a.toNat = S := ⟨_, rfl⟩
  obtain ⟨T, hT⟩ : ∃ T, vputS b.toNat = T := ⟨_, rfl⟩
  rw [hS] at hSd hmono heq
  rw [hT] at hmono heq
  have hsz : S.size = q + 1 := by
    have : S.data.toList.length = q + 1 := by rw [hSd, hsh]; simp [hq]
    exact this
  have HS := Aside.mk hS
  have HT := Aside.mk hT
  have hcv := fun (w : World) => Lib.run_convert_string_bytes (P := Try.prog) w 9 25 5 S Try.underlying9 Try.underlying25 Try.underlying5
  have hb := Below.refl w.heap.size w
  have HSd := Aside.mk hSd
  have Hsh := Aside.mk hsh
  have Hcs := Aside.mk hcs
  have Hq := Aside.mk hq
  have Hmono := Aside.mk hmono
  have Heq := Aside.mk heq
  clear hSd hsh hcs hq hS hT hmono heq hc
  go_enter Try.func9, Try.ntmps9
  go_wp2_with fail
  refine (var_examples _).mono ?_
  rintro e w0 ⟨rfl, hb'⟩
  replace hb := Below.next hb hb'
  clear hb'
  go_wp2_with fail
  refine (var_put _ ha.1 ha.2 _).mono ?_
  rw [HS.out]
  rintro e w1 ⟨rfl, hb'⟩
  replace hb := Below.next hb hb'
  clear hb'
  go_wp2_with fail
  refine (var_put _ hb0.1 hb0.2 _).mono ?_
  rw [HT.out]
  rintro e w2 ⟨rfl, hb'⟩
  replace hb := Below.next hb hb'
  clear hb'
  have hlS : S.data.toList.length = q + 1 := hsz
  have hgS : S.data.toList.getD q 0 = c := by rw [HSd.out, Hsh.out, Hq.out]; simp [List.getD]
  have hbs := bytesWorld_bytes w2 5 S
  have hcell := hbs q (by omega)
  rw [hgS] at hcell
  have hfr := bytesWorld_frozen w2 5 S q (by omega)
  have hor := or128 c
  obtain ⟨d, hd⟩ : ∃ d, c ||| 128 = d := ⟨_, rfl⟩
  rw [hd] at hor
  have hset := hbs.set q (by omega) d
  obtain ⟨L, hL⟩ : ∃ L : ByteArray, (⟨(S.data.toList.set q d).toArray⟩ : ByteArray) = L := ⟨_, rfl⟩
  have hconv := run_string_bytes (P := Try.prog) ((Lib.bytesWorld w2 5 S).setCell ⟨w2.heap.size, q, none⟩ (.int .u8 d.toNat)) 25 9 5 Try.underlying25 Try.underlying5 Try.underlying9 w2.heap.size (S.data.toList.set q d) (q + 1) (grownCap w2 (q + 1) 0 5)
    (by rw [List.length_set, hlS]) hset
  rw [hL] at hconv
  have hLz : L.size = q + 1 := by rw [← hL, size_mk, List.length_set, hlS]
  have hLd : L.data.toList = cs ++ [d] := by
    rw [← hL, HSd.out, Hsh.out, Hq.out]; simp
  have hk := (bytesWorld_keep (fun _ => False) w2 5 S).below (Nat.le_refl _) (fun _ h => h.elim)
  have hbz := hb.size
  have hb2 := (Below.next hb hk).setCell (p := ⟨w2.heap.size, q, none⟩) hbz (.int .u8 d.toNat)
  have hv1 : (Rd.mk (L ++ ⟨#[0]⟩) false).var = (0, Rd.fail) := by
    apply var_none
    have e : (L ++ (⟨#[0]⟩ : ByteArray)).data.toList = (cs ++ [d]) ++ [0] := by rw [ByteArray.data_append, Array.toList_append, hLd]
    rw [e]
    refine vget_zero _ (by simp) fun x hx => ?_
    rcases List.mem_append.1 hx with h | h
    · exact Hcs.out x h
    · rw [List.mem_singleton] at h; subst h; rw [← hd]; exact or128_ge c
  have hv2 : (Rd.mk (S.extract 0 q) false).var = (0, Rd.fail) := by
    apply var_none
    have e : (S.extract 0 q).data.toList = cs := by
      rw [ByteArray.data_extract]
      simp only [Array.toList_extract, List.extract_eq_take_drop]
      rw [HSd.out, Hsh.out, Hq.out]; simp
    rw [e]
    exact vget_endless _ fun x hx => Hcs.out x (List.mem_of_mem_take hx)
  have HV1 := Aside.mk hv1
  have HV2 := Aside.mk hv2
  have HB2 := Aside.mk hb2
  clear hset hL hLd hk hb2 hbs hgS hd hv1 hv2 hlS hb hbz
  go_wp2_with fail
  refine (rd_new _ _).mono ?_
  rintro e w3 ⟨rfl, hr, hz3, hb3⟩
  have hb := Below.next HB2.out hb3
  have hB : w.heap.size ≤ ((Lib.bytesWorld w2 5 S).setCell ⟨w2.heap.size, q, none⟩ (.int .u8 d.toNat)).heap.size := HB2.out.size
  clear hb3 hconv hcell hfr hcv
  generalize ((Lib.bytesWorld w2 5 S).setCell ⟨w2.heap.size, q, none⟩ (.int .u8 d.toNat)).heap.size = B at *
  clear HB2
  have hBlt := hr.lt
  go_wp2_with fail
  refine (rd_new _ _).mono ?_
  rintro e w4 ⟨rfl, hr', hz4, hb4⟩
  replace hr := hr.below hb4
  replace hb := Below.next hb hb4
  have hne : B ≠ w3.heap.size := by omega
  have hB2 : w.heap.size ≤ w3.heap.size := by omega
  generalize w3.heap.size = B2 at *
  clear hb4 hz3 hz4 hBlt
  go_wp2_with fail
  refine (rd_var _ _ _ hr (by show (L ++ (⟨#[0]⟩ : ByteArray)).size ≤ _; rw [ByteArray.size_append, hLz]; show q + 1 + 1 ≤ _; omega)).mono ?_
  rw [HV1.out]
  rintro e w5 ⟨rfl, hr5, hk5⟩
  replace hr' := hr'.keep hk5 (fun h => hne h.symm)
  replace hb := Keep.drop hb hB hk5
  clear hk5 hr
  go_wp2_with fail
  refine (rd_var _ _ _ hr' (by show (S.extract 0 q).size ≤ _; rw [ByteArray.size_extract]; omega)).mono ?_
  rw [HV2.out]
  rintro e w6 ⟨rfl, hr6, hk6⟩
  replace hr5 := hr5.keep hk6 hne
  replace hb := Keep.drop hb hB2 hk6
  clear hk6 hr'
  have heq := Heq.out
  by_cases hab : b < a
  · go_wp2_with fail
    refine (rd_ok _ _ _ hr5).mono ?_
    rintro e w' ⟨rfl, rfl⟩
    go_wp2_with fail
    refine (rd_ok _ _ _ hr6).mono ?_
    rintro e w' ⟨rfl, rfl⟩
    go_wp2_with fail
    go_ret
    exact ⟨rfl, hb⟩
  · have hml := Hmono.out (by omega)
    rw [hsz] at hml
    go_wp2_with fail
    refine (rd_ok _ _ _ hr5).mono ?_
    rintro e w' ⟨rfl, rfl⟩
    go_wp2_with fail
    refine (rd_ok _ _ _ hr6).mono ?_
    rintro e w' ⟨rfl, rfl⟩
    go_wp2_with fail
    have hfin : (decide (b < a) || decide ((q : Int) + 1 ≤ (T.size : Int))) = true := by simp; omega
    go_ret
    exact ⟨congrArg (fun z => Ending.returned (.bool z)) hfin, hb⟩
end Go.Proofs.Ytpbjoifdnhjfnaa
