/- The document's take and Get of an entry. -/
import Derived.Test.YthlmigbimeldbaaSecN
import Derived.Test.YthlmigbimeldbaaRdRefW
import Derived.Deep.CutBlock
set_option maxRecDepth 16000
namespace Go.Pin
open Go.RowKit
set_option linter.unusedVariables false
set_option linter.unusedSimpArgs false
theorem rtake_n {t : Nat} (h : t ≤ 9) (e : En) (r : Rd) : rtake t e r = (e.setN t (if tagInt t = true then ((r.var.1 % 1000 : Nat) : Int) else (r.var.1 : Int)), r.var.2) := by
  unfold rtake; rw [if_neg (by omega), if_pos h]
theorem rtake_t {t : Nat} (h : t = 10 ∨ t = 11) (e : En) (r : Rd) : rtake t e r = (e.setT t r.text.1, r.text.2) := by
  unfold rtake; rw [if_pos h]
theorem setN_o {t : Nat} (h : 11 < t) (e : En) (x : Int) : e.setN t x = e := by
  unfold En.setN
  split <;> first | omega | rfl
theorem rtake_o {t : Nat} (h : 11 < t) (e : En) (r : Rd) : rtake t e r = (e, Rd.fail) := by
  unfold rtake
  rw [if_neg (by omega), if_neg (show ¬ t ≤ 9 by omega), setN_o h]
/-- What Get may change. -/
abbrev RZ (R Z A : Nat) : Nat → Prop := fun k => k = R ∨ k = Z ∨ k = A
theorem Keep.dropZ {R Z A : Nat} {a b : World} (h : Keep (RZ R Z A) a b) (hZ : a.heap.size ≤ Z) (hA : a.heap.size ≤ A) : Keep (fun k => k = R) a b :=
  ⟨h.os, h.tape, h.output, h.size, fun k hk hn => h.block k hk (by rintro (q | q | q) <;> first | exact hn q | omega)⟩
/-- A reader's rest is the end of its bytes. -/
def Suf (a b : Rd) : Prop := ∃ p, a.s.data.toList = p ++ b.s.data.toList
theorem Suf.trans {a b c : Rd} (h : Suf a b) (h2 : Suf b c) : Suf a c := by
  obtain ⟨p, h⟩ := h; obtain ⟨q, h2⟩ := h2
  exact ⟨p ++ q, by rw [h, h2, List.append_assoc]⟩
theorem suf_fail (a : Rd) : Suf a Rd.fail := ⟨a.s.data.toList, by simp [Rd.fail]⟩
theorem suf_drop (a : Rd) (k : Nat) (b : Bool) : Suf a ⟨a.s.extract k a.s.size, b⟩ := ⟨a.s.data.toList.take k, by rw [extract_end, List.take_append_drop]⟩
theorem suf_var (a : Rd) : Suf a a.var.2 := by
  unfold Rd.var
  split
  · exact suf_drop a _ _
  · exact suf_fail a
theorem suf_bytes (a : Rd) (n : Int) : Suf a (a.bytes n).2 := by
  unfold Rd.bytes
  split
  · exact suf_fail a
  · exact suf_drop a _ _
theorem suf_text (a : Rd) : Suf a a.text.2 := by
  unfold Rd.text
  split
  · exact suf_fail a
  · exact (suf_var a).trans (suf_bytes _ _)
theorem suf_take (t : Nat) (e : En) (a : Rd) : Suf a (rtake t e a).2 := by
  unfold rtake
  split
  · exact suf_text a
  · dsimp only
    split
    · exact suf_var a
    · exact suf_fail a
theorem suf_go : ∀ (f : Nat) (e : En) (a : Rd), Suf a (rgo f e a).2
  | 0, _, a => ⟨[], rfl⟩
  | f + 1, e, a => by
    rw [rgo_succ]
    split
    · exact ⟨[], rfl⟩
    · split
      · exact suf_var a
      · exact ((suf_var a).trans (suf_take _ _ _)).trans (suf_go f _ _)
theorem secPutS_le {e : En} (ho : e.ok) : (secPutS e).size ≤ 400 := by
  unfold secPutS
  split
  · rename_i h
    have hs := (right_small h ho).1
    have := congrArg ByteArray.size (secPut_parts e)
    simp only [ByteArray.size_append, bs_size] at this
    rw [bs_size, this]
    have := hs.data
    have := hs.old
    have := part_len_n 1 e.kind
    have := part_len_n 2 e.term
    have := part_len_n 3 e.index
    have := part_len_n 4 e.client
    have := part_len_n 5 e.seq
    have := part_len_n 6 e.block
    have := part_len_n 7 e.many
    have := part_len_n 8 e.node
    have := part_len_n 9 e.level
    have := part_len_t 10 e.data
    have := part_len_t 11 e.old
    have k2 : (⟨#[0]⟩ : ByteArray).size = 1 := rfl
    omega
  · exact Nat.zero_le _
theorem take_ext (s t : ByteArray) (h : s.extract 0 t.size = t) : s.data.toList.take t.size = t.data.toList := by
  rw [← extract_begin, h]
/-- What Get tells, by its tests. -/
theorem refGet_if (r : Rd) : refGet r = if (rgo 12 En.zero r).2.bad = false ∧ (rgo 12 En.zero r).1.right = true ∧ (secPutS (rgo 12 En.zero r).1).size ≤ r.s.size ∧ r.s.extract 0 (secPutS (rgo 12 En.zero r).1).size = secPutS (rgo 12 En.zero r).1 ∧ r.s.size - (secPutS (rgo 12 En.zero r).1).size = (rgo 12 En.zero r).2.s.size then rgo 12 En.zero r else (En.zero, Rd.fail) := by
  have hs := suf_go 12 En.zero r
  unfold refGet
  generalize rgo 12 En.zero r = G at *
  obtain ⟨p, hp⟩ := hs
  by_cases h1 : G.2.bad = false
  case neg => rw [if_neg (fun q => h1 q.1), if_neg (fun q => h1 q.1)]
  by_cases h2 : G.1.right = true
  case neg => rw [if_neg (fun q => h2 q.2.1), if_neg (fun q => h2 q.2.1)]
  have hS : secPutS G.1 = bs (secPut G.1) := by unfold secPutS; rw [if_pos h2]
  rw [hS]
  have hl : r.s.data.toList.length = r.s.size := rfl
  have hl2 : G.2.s.data.toList.length = G.2.s.size := rfl
  have hlp := congrArg List.length hp
  rw [List.length_append, hl, hl2] at hlp
  by_cases h3 : secPut G.1 ++ G.2.s.data.toList = r.s.data.toList
  · rw [if_pos ⟨h1, h2, h3⟩, if_pos]
    have hlq := congrArg List.length h3
    rw [List.length_append, hl, hl2] at hlq
    refine ⟨h1, h2, by rw [bs_size]; omega, ?_, by rw [bs_size]; omega⟩
    apply bs_ext
    rw [extract_begin, bs_size, bs_data, ← h3, List.take_left']
    rfl
  · rw [if_neg (fun q => h3 q.2.2), if_neg]
    rintro ⟨_, _, q1, q2, q3⟩
    apply h3
    have ht := take_ext _ _ q2
    rw [bs_size, bs_data] at ht
    rw [bs_size] at q1 q3
    have hd : r.s.data.toList.drop (secPut G.1).length = G.2.s.data.toList := by
      rw [hp, List.drop_append_of_le_length (by omega), List.drop_of_length_le (by omega)]
      rfl
    rw [← ht, ← hd, List.take_append_drop]
theorem refGet_fail {r : Rd} {e : En} {r9 : Rd} (h : rgo 12 En.zero r = (e, r9)) (hn : ¬ (r9.bad = false ∧ e.right = true ∧ (secPutS e).size ≤ r.s.size ∧ r.s.extract 0 (secPutS e).size = secPutS e ∧ r.s.size - (secPutS e).size = r9.s.size)) : refGet r = (En.zero, Rd.fail) := by
  rw [refGet_if, h, if_neg hn]
theorem refGet_ok {r : Rd} {e : En} {r9 : Rd} (h : rgo 12 En.zero r = (e, r9)) (hn : r9.bad = false ∧ e.right = true ∧ (secPutS e).size ≤ r.s.size ∧ r.s.extract 0 (secPutS e).size = secPutS e ∧ r.s.size - (secPutS e).size = r9.s.size) : refGet r = (e, r9) := by
  rw [refGet_if, h, if_pos hn]
end Go.Pin
namespace Go.Proofs.Ythlmigbimeldbaa
open Go.RowKit Go.Pin
set_option linter.unusedVariables false
set_option linter.unusedSimpArgs false

set_option maxHeartbeats 1600000 in
theorem r6_take_1 (R A : Nat) (e : En) (r : Rd) (w : World) (hE : EnW w A e) (hR : RdAt w R r) (hs : r.s.size ≤ 1152921504606846976) (hRA : R ≠ A) :
    Calls Try.prog 69 #[.pointer (some ⟨R, 0, none⟩), .pointer (some ⟨A, 0, none⟩), .int .u64 1] w fun x w' => x = .returned (.tuple #[]) ∧ RdAt w' R (rtake 1 e r).2 ∧ EnW w' A (rtake 1 e r).1 ∧ Keep (RA R A) w w' := by
  have HV := Pin.Aside.mk (rr_var R r w hR hs)
  have HE := Pin.Aside.mk hE
  have HT := Pin.Aside.mk (rtake_n (t := 1) (by decide) e r)
  have hlt := Rd.var_lt r
  generalize r.var.1 = v0 at *
  generalize r.var.2 = r1 at *
  obtain ⟨v, hv, hv0, hv1⟩ : ∃ v : Int, (v0 : Int) = v ∧ 0 ≤ v ∧ v ≤ 18446744073709551615 := ⟨_, rfl, by omega, by omega⟩
  rw [hv] at HV
  rw [show (if tagInt 1 = true then ((v0 % 1000 : Nat) : Int) else (v0 : Int)) = v % 1000 from by rw [if_pos (by decide)]; omega] at HT
  obtain ⟨k, hk⟩ : ∃ k : Int, v % 1000 = k := ⟨_, rfl⟩
  have hk2 : v.tmod 1000 = k := by rw [Int.tmod_eq_emod_of_nonneg hv0]; exact hk
  have hw : IntKind.i64.wrap k = k := by rw [IntKind.wrap_i64]; omega
  rw [hk] at HT
  clear hE hR hlt hv
  go_enter Try.func69, Try.ntmps69
  go_wp2_with fail
  refine HV.out.mono ?_
  rintro x w1 ⟨rfl, hr1, hk1⟩
  have HR := Pin.Aside.mk hr1
  have HK := Pin.Aside.mk (hk1.mono (T := RA R A) fun _ q => .inl q)
  replace HE := Pin.Aside.mk (HE.out.keep hk1 (fun q => hRA q.symm))
  obtain ⟨c0, c1, c2, c3, c4, c5, c6, c7, c8, c9, c10⟩ := HE.out.cells
  have hfi := HE.out.fr 2
  clear hk1 hr1 HV
  go_wp2_with fail
  go_end0
  rw [HT.out]
  have hks := (Keep.refl (fun k => k = A) w1).setCell (p := ⟨A, 2, none⟩) (.inl rfl) (.int .i64 k)
  exact ⟨rfl, HR.out.keep hks (by exact hRA), HE.out.set (e' := e.setN 1 k) 2 (by decide) (.int .i64 k) rfl, HK.out.trans (hks.mono (T := RA R A) fun _ q => .inr q)⟩
set_option maxHeartbeats 1600000 in
theorem r6_take_2 (R A : Nat) (e : En) (r : Rd) (w : World) (hE : EnW w A e) (hR : RdAt w R r) (hs : r.s.size ≤ 1152921504606846976) (hRA : R ≠ A) :
    Calls Try.prog 69 #[.pointer (some ⟨R, 0, none⟩), .pointer (some ⟨A, 0, none⟩), .int .u64 2] w fun x w' => x = .returned (.tuple #[]) ∧ RdAt w' R (rtake 2 e r).2 ∧ EnW w' A (rtake 2 e r).1 ∧ Keep (RA R A) w w' := by
  have HV := Pin.Aside.mk (rr_var R r w hR hs)
  have HE := Pin.Aside.mk hE
  have HT := Pin.Aside.mk (rtake_n (t := 2) (by decide) e r)
  have hlt := Rd.var_lt r
  generalize r.var.1 = v0 at *
  generalize r.var.2 = r1 at *
  obtain ⟨v, hv, hv0, hv1⟩ : ∃ v : Int, (v0 : Int) = v ∧ 0 ≤ v ∧ v ≤ 18446744073709551615 := ⟨_, rfl, by omega, by omega⟩
  rw [hv] at HV
  rw [show (if tagInt 2 = true then ((v0 % 1000 : Nat) : Int) else (v0 : Int)) = v from by rw [if_neg (by decide)]; exact hv] at HT
  clear hE hR hlt hv
  go_enter Try.func69, Try.ntmps69
  go_wp2_with fail
  refine HV.out.mono ?_
  rintro x w1 ⟨rfl, hr1, hk1⟩
  have HR := Pin.Aside.mk hr1
  have HK := Pin.Aside.mk (hk1.mono (T := RA R A) fun _ q => .inl q)
  replace HE := Pin.Aside.mk (HE.out.keep hk1 (fun q => hRA q.symm))
  obtain ⟨c0, c1, c2, c3, c4, c5, c6, c7, c8, c9, c10⟩ := HE.out.cells
  have hfi := HE.out.fr 0
  clear hk1 hr1 HV
  go_wp2_with fail
  go_end0
  rw [HT.out]
  have hks := (Keep.refl (fun k => k = A) w1).setCell (p := ⟨A, 0, none⟩) (.inl rfl) (.int .u64 v)
  exact ⟨rfl, HR.out.keep hks (by exact hRA), HE.out.set (e' := e.setN 2 v) 0 (by decide) (.int .u64 v) rfl, HK.out.trans (hks.mono (T := RA R A) fun _ q => .inr q)⟩
set_option maxHeartbeats 1600000 in
theorem r6_take_3 (R A : Nat) (e : En) (r : Rd) (w : World) (hE : EnW w A e) (hR : RdAt w R r) (hs : r.s.size ≤ 1152921504606846976) (hRA : R ≠ A) :
    Calls Try.prog 69 #[.pointer (some ⟨R, 0, none⟩), .pointer (some ⟨A, 0, none⟩), .int .u64 3] w fun x w' => x = .returned (.tuple #[]) ∧ RdAt w' R (rtake 3 e r).2 ∧ EnW w' A (rtake 3 e r).1 ∧ Keep (RA R A) w w' := by
  have HV := Pin.Aside.mk (rr_var R r w hR hs)
  have HE := Pin.Aside.mk hE
  have HT := Pin.Aside.mk (rtake_n (t := 3) (by decide) e r)
  have hlt := Rd.var_lt r
  generalize r.var.1 = v0 at *
  generalize r.var.2 = r1 at *
  obtain ⟨v, hv, hv0, hv1⟩ : ∃ v : Int, (v0 : Int) = v ∧ 0 ≤ v ∧ v ≤ 18446744073709551615 := ⟨_, rfl, by omega, by omega⟩
  rw [hv] at HV
  rw [show (if tagInt 3 = true then ((v0 % 1000 : Nat) : Int) else (v0 : Int)) = v from by rw [if_neg (by decide)]; exact hv] at HT
  clear hE hR hlt hv
  go_enter Try.func69, Try.ntmps69
  go_wp2_with fail
  refine HV.out.mono ?_
  rintro x w1 ⟨rfl, hr1, hk1⟩
  have HR := Pin.Aside.mk hr1
  have HK := Pin.Aside.mk (hk1.mono (T := RA R A) fun _ q => .inl q)
  replace HE := Pin.Aside.mk (HE.out.keep hk1 (fun q => hRA q.symm))
  obtain ⟨c0, c1, c2, c3, c4, c5, c6, c7, c8, c9, c10⟩ := HE.out.cells
  have hfi := HE.out.fr 1
  clear hk1 hr1 HV
  go_wp2_with fail
  go_end0
  rw [HT.out]
  have hks := (Keep.refl (fun k => k = A) w1).setCell (p := ⟨A, 1, none⟩) (.inl rfl) (.int .u64 v)
  exact ⟨rfl, HR.out.keep hks (by exact hRA), HE.out.set (e' := e.setN 3 v) 1 (by decide) (.int .u64 v) rfl, HK.out.trans (hks.mono (T := RA R A) fun _ q => .inr q)⟩
set_option maxHeartbeats 1600000 in
theorem r6_take_4 (R A : Nat) (e : En) (r : Rd) (w : World) (hE : EnW w A e) (hR : RdAt w R r) (hs : r.s.size ≤ 1152921504606846976) (hRA : R ≠ A) :
    Calls Try.prog 69 #[.pointer (some ⟨R, 0, none⟩), .pointer (some ⟨A, 0, none⟩), .int .u64 4] w fun x w' => x = .returned (.tuple #[]) ∧ RdAt w' R (rtake 4 e r).2 ∧ EnW w' A (rtake 4 e r).1 ∧ Keep (RA R A) w w' := by
  have HV := Pin.Aside.mk (rr_var R r w hR hs)
  have HE := Pin.Aside.mk hE
  have HT := Pin.Aside.mk (rtake_n (t := 4) (by decide) e r)
  have hlt := Rd.var_lt r
  generalize r.var.1 = v0 at *
  generalize r.var.2 = r1 at *
  obtain ⟨v, hv, hv0, hv1⟩ : ∃ v : Int, (v0 : Int) = v ∧ 0 ≤ v ∧ v ≤ 18446744073709551615 := ⟨_, rfl, by omega, by omega⟩
  rw [hv] at HV
  rw [show (if tagInt 4 = true then ((v0 % 1000 : Nat) : Int) else (v0 : Int)) = v from by rw [if_neg (by decide)]; exact hv] at HT
  clear hE hR hlt hv
  go_enter Try.func69, Try.ntmps69
  go_wp2_with fail
  refine HV.out.mono ?_
  rintro x w1 ⟨rfl, hr1, hk1⟩
  have HR := Pin.Aside.mk hr1
  have HK := Pin.Aside.mk (hk1.mono (T := RA R A) fun _ q => .inl q)
  replace HE := Pin.Aside.mk (HE.out.keep hk1 (fun q => hRA q.symm))
  obtain ⟨c0, c1, c2, c3, c4, c5, c6, c7, c8, c9, c10⟩ := HE.out.cells
  have hfi := HE.out.fr 3
  clear hk1 hr1 HV
  go_wp2_with fail
  go_end0
  rw [HT.out]
  have hks := (Keep.refl (fun k => k = A) w1).setCell (p := ⟨A, 3, none⟩) (.inl rfl) (.int .u64 v)
  exact ⟨rfl, HR.out.keep hks (by exact hRA), HE.out.set (e' := e.setN 4 v) 3 (by decide) (.int .u64 v) rfl, HK.out.trans (hks.mono (T := RA R A) fun _ q => .inr q)⟩
set_option maxHeartbeats 1600000 in
theorem r6_take_5 (R A : Nat) (e : En) (r : Rd) (w : World) (hE : EnW w A e) (hR : RdAt w R r) (hs : r.s.size ≤ 1152921504606846976) (hRA : R ≠ A) :
    Calls Try.prog 69 #[.pointer (some ⟨R, 0, none⟩), .pointer (some ⟨A, 0, none⟩), .int .u64 5] w fun x w' => x = .returned (.tuple #[]) ∧ RdAt w' R (rtake 5 e r).2 ∧ EnW w' A (rtake 5 e r).1 ∧ Keep (RA R A) w w' := by
  have HV := Pin.Aside.mk (rr_var R r w hR hs)
  have HE := Pin.Aside.mk hE
  have HT := Pin.Aside.mk (rtake_n (t := 5) (by decide) e r)
  have hlt := Rd.var_lt r
  generalize r.var.1 = v0 at *
  generalize r.var.2 = r1 at *
  obtain ⟨v, hv, hv0, hv1⟩ : ∃ v : Int, (v0 : Int) = v ∧ 0 ≤ v ∧ v ≤ 18446744073709551615 := ⟨_, rfl, by omega, by omega⟩
  rw [hv] at HV
  rw [show (if tagInt 5 = true then ((v0 % 1000 : Nat) : Int) else (v0 : Int)) = v from by rw [if_neg (by decide)]; exact hv] at HT
  clear hE hR hlt hv
  go_enter Try.func69, Try.ntmps69
  go_wp2_with fail
  refine HV.out.mono ?_
  rintro x w1 ⟨rfl, hr1, hk1⟩
  have HR := Pin.Aside.mk hr1
  have HK := Pin.Aside.mk (hk1.mono (T := RA R A) fun _ q => .inl q)
  replace HE := Pin.Aside.mk (HE.out.keep hk1 (fun q => hRA q.symm))
  obtain ⟨c0, c1, c2, c3, c4, c5, c6, c7, c8, c9, c10⟩ := HE.out.cells
  have hfi := HE.out.fr 4
  clear hk1 hr1 HV
  go_wp2_with fail
  go_end0
  rw [HT.out]
  have hks := (Keep.refl (fun k => k = A) w1).setCell (p := ⟨A, 4, none⟩) (.inl rfl) (.int .u64 v)
  exact ⟨rfl, HR.out.keep hks (by exact hRA), HE.out.set (e' := e.setN 5 v) 4 (by decide) (.int .u64 v) rfl, HK.out.trans (hks.mono (T := RA R A) fun _ q => .inr q)⟩
set_option maxHeartbeats 1600000 in
theorem r6_take_6 (R A : Nat) (e : En) (r : Rd) (w : World) (hE : EnW w A e) (hR : RdAt w R r) (hs : r.s.size ≤ 1152921504606846976) (hRA : R ≠ A) :
    Calls Try.prog 69 #[.pointer (some ⟨R, 0, none⟩), .pointer (some ⟨A, 0, none⟩), .int .u64 6] w fun x w' => x = .returned (.tuple #[]) ∧ RdAt w' R (rtake 6 e r).2 ∧ EnW w' A (rtake 6 e r).1 ∧ Keep (RA R A) w w' := by
  have HV := Pin.Aside.mk (rr_var R r w hR hs)
  have HE := Pin.Aside.mk hE
  have HT := Pin.Aside.mk (rtake_n (t := 6) (by decide) e r)
  have hlt := Rd.var_lt r
  generalize r.var.1 = v0 at *
  generalize r.var.2 = r1 at *
  obtain ⟨v, hv, hv0, hv1⟩ : ∃ v : Int, (v0 : Int) = v ∧ 0 ≤ v ∧ v ≤ 18446744073709551615 := ⟨_, rfl, by omega, by omega⟩
  rw [hv] at HV
  rw [show (if tagInt 6 = true then ((v0 % 1000 : Nat) : Int) else (v0 : Int)) = v from by rw [if_neg (by decide)]; exact hv] at HT
  clear hE hR hlt hv
  go_enter Try.func69, Try.ntmps69
  go_wp2_with fail
  refine HV.out.mono ?_
  rintro x w1 ⟨rfl, hr1, hk1⟩
  have HR := Pin.Aside.mk hr1
  have HK := Pin.Aside.mk (hk1.mono (T := RA R A) fun _ q => .inl q)
  replace HE := Pin.Aside.mk (HE.out.keep hk1 (fun q => hRA q.symm))
  obtain ⟨c0, c1, c2, c3, c4, c5, c6, c7, c8, c9, c10⟩ := HE.out.cells
  have hfi := HE.out.fr 5
  clear hk1 hr1 HV
  go_wp2_with fail
  go_end0
  rw [HT.out]
  have hks := (Keep.refl (fun k => k = A) w1).setCell (p := ⟨A, 5, none⟩) (.inl rfl) (.int .u64 v)
  exact ⟨rfl, HR.out.keep hks (by exact hRA), HE.out.set (e' := e.setN 6 v) 5 (by decide) (.int .u64 v) rfl, HK.out.trans (hks.mono (T := RA R A) fun _ q => .inr q)⟩
set_option maxHeartbeats 1600000 in
theorem r6_take_7 (R A : Nat) (e : En) (r : Rd) (w : World) (hE : EnW w A e) (hR : RdAt w R r) (hs : r.s.size ≤ 1152921504606846976) (hRA : R ≠ A) :
    Calls Try.prog 69 #[.pointer (some ⟨R, 0, none⟩), .pointer (some ⟨A, 0, none⟩), .int .u64 7] w fun x w' => x = .returned (.tuple #[]) ∧ RdAt w' R (rtake 7 e r).2 ∧ EnW w' A (rtake 7 e r).1 ∧ Keep (RA R A) w w' := by
  have HV := Pin.Aside.mk (rr_var R r w hR hs)
  have HE := Pin.Aside.mk hE
  have HT := Pin.Aside.mk (rtake_n (t := 7) (by decide) e r)
  have hlt := Rd.var_lt r
  generalize r.var.1 = v0 at *
  generalize r.var.2 = r1 at *
  obtain ⟨v, hv, hv0, hv1⟩ : ∃ v : Int, (v0 : Int) = v ∧ 0 ≤ v ∧ v ≤ 18446744073709551615 := ⟨_, rfl, by omega, by omega⟩
  rw [hv] at HV
  rw [show (if tagInt 7 = true then ((v0 % 1000 : Nat) : Int) else (v0 : Int)) = v from by rw [if_neg (by decide)]; exact hv] at HT
  clear hE hR hlt hv
  go_enter Try.func69, Try.ntmps69
  go_wp2_with fail
  refine HV.out.mono ?_
  rintro x w1 ⟨rfl, hr1, hk1⟩
  have HR := Pin.Aside.mk hr1
  have HK := Pin.Aside.mk (hk1.mono (T := RA R A) fun _ q => .inl q)
  replace HE := Pin.Aside.mk (HE.out.keep hk1 (fun q => hRA q.symm))
  obtain ⟨c0, c1, c2, c3, c4, c5, c6, c7, c8, c9, c10⟩ := HE.out.cells
  have hfi := HE.out.fr 6
  clear hk1 hr1 HV
  go_wp2_with fail
  go_end0
  rw [HT.out]
  have hks := (Keep.refl (fun k => k = A) w1).setCell (p := ⟨A, 6, none⟩) (.inl rfl) (.int .u64 v)
  exact ⟨rfl, HR.out.keep hks (by exact hRA), HE.out.set (e' := e.setN 7 v) 6 (by decide) (.int .u64 v) rfl, HK.out.trans (hks.mono (T := RA R A) fun _ q => .inr q)⟩
set_option maxHeartbeats 1600000 in
theorem r6_take_8 (R A : Nat) (e : En) (r : Rd) (w : World) (hE : EnW w A e) (hR : RdAt w R r) (hs : r.s.size ≤ 1152921504606846976) (hRA : R ≠ A) :
    Calls Try.prog 69 #[.pointer (some ⟨R, 0, none⟩), .pointer (some ⟨A, 0, none⟩), .int .u64 8] w fun x w' => x = .returned (.tuple #[]) ∧ RdAt w' R (rtake 8 e r).2 ∧ EnW w' A (rtake 8 e r).1 ∧ Keep (RA R A) w w' := by
  have HV := Pin.Aside.mk (rr_var R r w hR hs)
  have HE := Pin.Aside.mk hE
  have HT := Pin.Aside.mk (rtake_n (t := 8) (by decide) e r)
  have hlt := Rd.var_lt r
  generalize r.var.1 = v0 at *
  generalize r.var.2 = r1 at *
  obtain ⟨v, hv, hv0, hv1⟩ : ∃ v : Int, (v0 : Int) = v ∧ 0 ≤ v ∧ v ≤ 18446744073709551615 := ⟨_, rfl, by omega, by omega⟩
  rw [hv] at HV
  rw [show (if tagInt 8 = true then ((v0 % 1000 : Nat) : Int) else (v0 : Int)) = v % 1000 from by rw [if_pos (by decide)]; omega] at HT
  obtain ⟨k, hk⟩ : ∃ k : Int, v % 1000 = k := ⟨_, rfl⟩
  have hk2 : v.tmod 1000 = k := by rw [Int.tmod_eq_emod_of_nonneg hv0]; exact hk
  have hw : IntKind.i64.wrap k = k := by rw [IntKind.wrap_i64]; omega
  rw [hk] at HT
  clear hE hR hlt hv
  go_enter Try.func69, Try.ntmps69
  go_wp2_with fail
  refine HV.out.mono ?_
  rintro x w1 ⟨rfl, hr1, hk1⟩
  have HR := Pin.Aside.mk hr1
  have HK := Pin.Aside.mk (hk1.mono (T := RA R A) fun _ q => .inl q)
  replace HE := Pin.Aside.mk (HE.out.keep hk1 (fun q => hRA q.symm))
  obtain ⟨c0, c1, c2, c3, c4, c5, c6, c7, c8, c9, c10⟩ := HE.out.cells
  have hfi := HE.out.fr 7
  clear hk1 hr1 HV
  go_wp2_with fail
  go_end0
  rw [HT.out]
  have hks := (Keep.refl (fun k => k = A) w1).setCell (p := ⟨A, 7, none⟩) (.inl rfl) (.int .i64 k)
  exact ⟨rfl, HR.out.keep hks (by exact hRA), HE.out.set (e' := e.setN 8 k) 7 (by decide) (.int .i64 k) rfl, HK.out.trans (hks.mono (T := RA R A) fun _ q => .inr q)⟩
set_option maxHeartbeats 1600000 in
theorem r6_take_9 (R A : Nat) (e : En) (r : Rd) (w : World) (hE : EnW w A e) (hR : RdAt w R r) (hs : r.s.size ≤ 1152921504606846976) (hRA : R ≠ A) :
    Calls Try.prog 69 #[.pointer (some ⟨R, 0, none⟩), .pointer (some ⟨A, 0, none⟩), .int .u64 9] w fun x w' => x = .returned (.tuple #[]) ∧ RdAt w' R (rtake 9 e r).2 ∧ EnW w' A (rtake 9 e r).1 ∧ Keep (RA R A) w w' := by
  have HV := Pin.Aside.mk (rr_var R r w hR hs)
  have HE := Pin.Aside.mk hE
  have HT := Pin.Aside.mk (rtake_n (t := 9) (by decide) e r)
  have hlt := Rd.var_lt r
  generalize r.var.1 = v0 at *
  generalize r.var.2 = r1 at *
  obtain ⟨v, hv, hv0, hv1⟩ : ∃ v : Int, (v0 : Int) = v ∧ 0 ≤ v ∧ v ≤ 18446744073709551615 := ⟨_, rfl, by omega, by omega⟩
  rw [hv] at HV
  rw [show (if tagInt 9 = true then ((v0 % 1000 : Nat) : Int) else (v0 : Int)) = v % 1000 from by rw [if_pos (by decide)]; omega] at HT
  obtain ⟨k, hk⟩ : ∃ k : Int, v % 1000 = k := ⟨_, rfl⟩
  have hk2 : v.tmod 1000 = k := by rw [Int.tmod_eq_emod_of_nonneg hv0]; exact hk
  have hw : IntKind.i64.wrap k = k := by rw [IntKind.wrap_i64]; omega
  rw [hk] at HT
  clear hE hR hlt hv
  go_enter Try.func69, Try.ntmps69
  go_wp2_with fail
  refine HV.out.mono ?_
  rintro x w1 ⟨rfl, hr1, hk1⟩
  have HR := Pin.Aside.mk hr1
  have HK := Pin.Aside.mk (hk1.mono (T := RA R A) fun _ q => .inl q)
  replace HE := Pin.Aside.mk (HE.out.keep hk1 (fun q => hRA q.symm))
  obtain ⟨c0, c1, c2, c3, c4, c5, c6, c7, c8, c9, c10⟩ := HE.out.cells
  have hfi := HE.out.fr 8
  clear hk1 hr1 HV
  go_wp2_with fail
  go_end0
  rw [HT.out]
  have hks := (Keep.refl (fun k => k = A) w1).setCell (p := ⟨A, 8, none⟩) (.inl rfl) (.int .i64 k)
  exact ⟨rfl, HR.out.keep hks (by exact hRA), HE.out.set (e' := e.setN 9 k) 8 (by decide) (.int .i64 k) rfl, HK.out.trans (hks.mono (T := RA R A) fun _ q => .inr q)⟩
set_option maxHeartbeats 1600000 in
theorem r6_take_10 (R A : Nat) (e : En) (r : Rd) (w : World) (hE : EnW w A e) (hR : RdAt w R r) (hs : r.s.size ≤ 1152921504606846976) (hRA : R ≠ A) :
    Calls Try.prog 69 #[.pointer (some ⟨R, 0, none⟩), .pointer (some ⟨A, 0, none⟩), .int .u64 10] w fun x w' => x = .returned (.tuple #[]) ∧ RdAt w' R (rtake 10 e r).2 ∧ EnW w' A (rtake 10 e r).1 ∧ Keep (RA R A) w w' := by
  have HV := Pin.Aside.mk (rr_text R r w hR hs)
  have HE := Pin.Aside.mk hE
  have HT := Pin.Aside.mk (rtake_t (t := 10) (by decide) e r)
  generalize r.text.1 = v at *
  generalize r.text.2 = r1 at *
  clear hE hR
  go_enter Try.func69, Try.ntmps69
  go_wp2_with fail
  refine HV.out.mono ?_
  rintro x w1 ⟨rfl, hr1, hk1⟩
  have HR := Pin.Aside.mk hr1
  have HK := Pin.Aside.mk (hk1.mono (T := RA R A) fun _ q => .inl q)
  replace HE := Pin.Aside.mk (HE.out.keep hk1 (fun q => hRA q.symm))
  obtain ⟨c0, c1, c2, c3, c4, c5, c6, c7, c8, c9, c10⟩ := HE.out.cells
  have hfi := HE.out.fr 9
  clear hk1 hr1 HV
  go_wp2_with fail
  (try simp only [Exit.inBlock, Exit.then]); refine bodyPost_ret (results_none rfl _ _ _) rfl ?_
  rw [HT.out]
  have hks := (Keep.refl (fun k => k = A) w1).setCell (p := ⟨A, 9, none⟩) (.inl rfl) (.string v)
  exact ⟨rfl, HR.out.keep hks (by exact hRA), HE.out.set (e' := e.setT 10 v) 9 (by decide) (.string v) rfl, HK.out.trans (hks.mono (T := RA R A) fun _ q => .inr q)⟩
set_option maxHeartbeats 1600000 in
theorem r6_take_11 (R A : Nat) (e : En) (r : Rd) (w : World) (hE : EnW w A e) (hR : RdAt w R r) (hs : r.s.size ≤ 1152921504606846976) (hRA : R ≠ A) :
    Calls Try.prog 69 #[.pointer (some ⟨R, 0, none⟩), .pointer (some ⟨A, 0, none⟩), .int .u64 11] w fun x w' => x = .returned (.tuple #[]) ∧ RdAt w' R (rtake 11 e r).2 ∧ EnW w' A (rtake 11 e r).1 ∧ Keep (RA R A) w w' := by
  have HV := Pin.Aside.mk (rr_text R r w hR hs)
  have HE := Pin.Aside.mk hE
  have HT := Pin.Aside.mk (rtake_t (t := 11) (by decide) e r)
  generalize r.text.1 = v at *
  generalize r.text.2 = r1 at *
  clear hE hR
  go_enter Try.func69, Try.ntmps69
  go_wp2_with fail
  refine HV.out.mono ?_
  rintro x w1 ⟨rfl, hr1, hk1⟩
  have HR := Pin.Aside.mk hr1
  have HK := Pin.Aside.mk (hk1.mono (T := RA R A) fun _ q => .inl q)
  replace HE := Pin.Aside.mk (HE.out.keep hk1 (fun q => hRA q.symm))
  obtain ⟨c0, c1, c2, c3, c4, c5, c6, c7, c8, c9, c10⟩ := HE.out.cells
  have hfi := HE.out.fr 10
  clear hk1 hr1 HV
  go_wp2_with fail
  (try simp only [Exit.inBlock, Exit.then]); refine bodyPost_ret (results_none rfl _ _ _) rfl ?_
  rw [HT.out]
  have hks := (Keep.refl (fun k => k = A) w1).setCell (p := ⟨A, 10, none⟩) (.inl rfl) (.string v)
  exact ⟨rfl, HR.out.keep hks (by exact hRA), HE.out.set (e' := e.setT 11 v) 10 (by decide) (.string v) rfl, HK.out.trans (hks.mono (T := RA R A) fun _ q => .inr q)⟩
set_option maxHeartbeats 1600000 in
theorem r6_take_o (t : Int) (ht : 12 ≤ t ∧ t ≤ 18446744073709551615) (R A : Nat) (e : En) (r : Rd) (w : World) (hE : EnW w A e) (hR : RdAt w R r) (hs : r.s.size ≤ 1152921504606846976) (hRA : R ≠ A) :
    Calls Try.prog 69 #[.pointer (some ⟨R, 0, none⟩), .pointer (some ⟨A, 0, none⟩), .int .u64 t] w fun x w' => x = .returned (.tuple #[]) ∧ RdAt w' R Rd.fail ∧ EnW w' A e ∧ Keep (RA R A) w w' := by
  have HV := Pin.Aside.mk (rr_var R r w hR hs)
  have HE := Pin.Aside.mk hE
  generalize r.var.1 = v0 at *
  generalize r.var.2 = r1 at *
  obtain ⟨v, hv⟩ : ∃ v : Int, (v0 : Int) = v := ⟨_, rfl⟩
  rw [hv] at HV
  clear hE hR hv
  go_enter Try.func69, Try.ntmps69
  go_wp2_with fail
  refine HV.out.mono ?_
  rintro x w1 ⟨rfl, hr1, hk1⟩
  have HR := Pin.Aside.mk hr1
  have HK := Pin.Aside.mk (hk1.mono (T := RA R A) fun _ q => .inl q)
  replace HE := Pin.Aside.mk (HE.out.keep hk1 (fun q => hRA q.symm))
  clear hk1 hr1 HV
  go_wp2_with fail
  refine (rr_fail R _ _ HR.out).mono ?_
  rintro x w2 ⟨rfl, hr2, hk2⟩
  go_wp2_with fail
  go_end0
  exact ⟨rfl, hr2, HE.out.keep hk2 (fun q => hRA q.symm), HK.out.trans (hk2.mono (T := RA R A) fun _ q => .inl q)⟩
theorem r6_take (t : Nat) (h0 : 0 < t) (ht : t < 18446744073709551616) (R A : Nat) (e : En) (r : Rd) (w : World) (hE : EnW w A e) (hR : RdAt w R r) (hs : r.s.size ≤ 1152921504606846976) (hRA : R ≠ A) :
    Calls Try.prog 69 #[.pointer (some ⟨R, 0, none⟩), .pointer (some ⟨A, 0, none⟩), .int .u64 (t : Int)] w fun x w' => x = .returned (.tuple #[]) ∧ RdAt w' R (rtake t e r).2 ∧ EnW w' A (rtake t e r).1 ∧ Keep (RA R A) w w' := by
  have hways : t = 1 ∨ t = 2 ∨ t = 3 ∨ t = 4 ∨ t = 5 ∨ t = 6 ∨ t = 7 ∨ t = 8 ∨ t = 9 ∨ t = 10 ∨ t = 11 ∨ 12 ≤ t := by omega
  rcases hways with rfl | rfl | rfl | rfl | rfl | rfl | rfl | rfl | rfl | rfl | rfl | h

  · exact r6_take_1 R A e r w hE hR hs hRA
  · exact r6_take_2 R A e r w hE hR hs hRA
  · exact r6_take_3 R A e r w hE hR hs hRA
  · exact r6_take_4 R A e r w hE hR hs hRA
  · exact r6_take_5 R A e r w hE hR hs hRA
  · exact r6_take_6 R A e r w hE hR hs hRA
  · exact r6_take_7 R A e r w hE hR hs hRA
  · exact r6_take_8 R A e r w hE hR hs hRA
  · exact r6_take_9 R A e r w hE hR hs hRA
  · exact r6_take_10 R A e r w hE hR hs hRA
  · exact r6_take_11 R A e r w hE hR hs hRA
  · rw [rtake_o (by omega)]
    exact r6_take_o t (by omega) R A e r w hE hR hs hRA

set_option maxHeartbeats 6400000 in
theorem r6_Get (R : Nat) (r0 : Rd) (w : World) (hR : RdAt w R r0) (hs0 : r0.s.size ≤ 1152921504606846976) :
    Calls Try.prog 37 #[.pointer (some ⟨R, 0, none⟩)] w fun x w' => x = .returned (.agg (refGet r0).1.cells) ∧ RdAt w' R (refGet r0).2 ∧ Keep (fun k => k = R) w w' := by
  have hse := str_beq
  have hRl := hR.lt
  have hk0 := (Keep.refl (fun _ => False) w).alloc (.cells En.zero.cells 32)
  have HZ := Pin.Aside.mk (EnW.new w 32 En.zero)
  have HR := Pin.Aside.mk (hR.keep hk0 id)
  have HK : Pin.Aside (Keep (fun _ => False) w (w.alloc (.cells En.zero.cells 32))) := Pin.Aside.mk hk0
  clear hk0 hR
  have hok := Pin.Aside.mk (rgo_ok 12 En.zero r0 zero_ok hs0)
  obtain ⟨⟨E9, R9⟩, hQ⟩ : ∃ G, rgo 12 En.zero r0 = G := ⟨_, rfl⟩
  have HQ := Pin.Aside.mk hQ
  rw [hQ] at hok
  clear hQ
  unfold En.zero En.cells at HZ HR HK
  dsimp only at HZ HR HK
  go_enter Try.func37, Try.ntmps37
  go_upto_region 1 with fail
  generalize w.alloc (.cells #[.int .u64 0, .int .u64 0, .int .i64 0, .int .u64 0, .int .u64 0, .int .u64 0, .int .u64 0, .int .i64 0, .int .i64 0, .string ⟨#[]⟩, .string ⟨#[]⟩] 32) = w1 at *
  obtain ⟨Z, hZ⟩ : ∃ Z, w.heap.size = Z := ⟨_, rfl⟩
  rw [hZ] at HZ hRl
  try rw [hZ]
  have HN0 := Pin.Aside.mk hZ
  clear hZ
  have hZl : Z < w1.heap.size := HZ.out.lt
  have r0c := HR.out.c0
  have hka := (Keep.refl (fun _ => False) w1).alloc (.cells En.zero.cells 32)
  have HE := Pin.Aside.mk (EnW.new w1 32 En.zero)
  replace HZ := Pin.Aside.mk (HZ.out.keep hka id)
  have HR1 := Pin.Aside.mk (HR.out.keep hka id)
  replace HK := Pin.Aside.mk (HK.out.trans hka)
  unfold En.zero En.cells at HE HZ HR1 HK
  dsimp only at HE HZ HR1 HK
  clear hka
  go_upto_region 3 with fail
  clear r0c HR
  generalize w1.alloc (.cells #[.int .u64 0, .int .u64 0, .int .i64 0, .int .u64 0, .int .u64 0, .int .u64 0, .int .u64 0, .int .i64 0, .int .i64 0, .string ⟨#[]⟩, .string ⟨#[]⟩] 32) = w2 at *
  generalize w1.heap.size = A at *
  have HN : Pin.Aside (w.heap.size = Z ∧ Z < A) := Pin.Aside.mk ⟨HN0.out, hZl⟩
  clear HN0
  replace HK : Pin.Aside (Keep (RZ R Z A) w w2) := Pin.Aside.mk (HK.out.mono fun _ q => q.elim)
  go_upto_block 0 with fail
  go_cut [5, 6] from 14 to 31 (fun _ _ wx => Pin.Aside (RdAt wx R R9) ∧ Pin.Aside (EnW wx A E9) ∧ Pin.Aside (EnW wx Z ⟨0, 0, 0, 0, 0, 0, 0, 0, 0, ⟨#[]⟩, ⟨#[]⟩⟩) ∧ Pin.Aside (Keep (RZ R Z A) w wx))
  case first =>
    go_wp2_with fail
    go_loopw [5] (fun x wr => ∃ (f : Nat) (i : Int) (e : En) (r : Rd), i + f = 12 ∧ 0 ≤ i ∧ x = .int .i64 i ∧ r.s.size ≤ 1152921504606846976 ∧ Pin.Aside (RdAt wr R r) ∧ Pin.Aside (EnW wr A e) ∧ Pin.Aside (EnW wr Z ⟨0, 0, 0, 0, 0, 0, 0, 0, 0, ⟨#[]⟩, ⟨#[]⟩⟩) ∧ Pin.Aside (Keep (RZ R Z A) w wr) ∧ Pin.Aside ((E9, R9) = rgo f e r)) (fun x _ => 12 - (intOf x).toNat)
    case atStart => exact ⟨12, 0, ⟨0, 0, 0, 0, 0, 0, 0, 0, 0, ⟨#[]⟩, ⟨#[]⟩⟩, r0, by omega, by omega, rfl, hs0, HR1, HE, HZ, HK, Pin.Aside.mk HQ.out.symm⟩
    case round =>
      clear HR1 HE HZ HK
      obtain ⟨f, i, e, r, hfi, hi0, rfl, hrs, HR, HE, HZ, HK, HX⟩ := hrel
      have hRA : R ≠ A := by omega
      rename_i wr
      have r0c := HR.out.c0
      have r1c := HR.out.c1
      by_cases hgo : 1 ≤ f ∧ r.bad = false
      · obtain ⟨f', rfl⟩ : ∃ f', f = f' + 1 := ⟨f - 1, by omega⟩
        obtain ⟨hf1, hbf⟩ := hgo
        have hi12 : i < 12 := by omega
        rw [hbf] at r1c
        have HV := Pin.Aside.mk (rr_var R r wr HR.out hrs)
        have HS := Pin.Aside.mk (rgo_succ f' e r)
        rw [if_neg (by rw [hbf]; decide)] at HS
        have hvl := Rd.var_lt r
        have hvs := Rd.var_le r
        obtain ⟨t, ht⟩ : ∃ t : Nat, r.var.1 = t := ⟨_, rfl⟩
        obtain ⟨q, hq⟩ : ∃ q : Rd, r.var.2 = q := ⟨_, rfl⟩
        rw [ht] at HV HS hvl
        rw [hq] at HV HS hvs
        rw [HS.out] at HX
        clear ht hq HS
        obtain ⟨ti, hti⟩ : ∃ ti : Int, (t : Int) = ti := ⟨_, rfl⟩
        rw [hti] at HV
        by_cases h0 : t = 0
        · subst h0
          rw [if_pos rfl] at HX
          obtain rfl : ti = 0 := by omega
          obtain ⟨e1, e2⟩ := Prod.mk.inj HX.out
          clear HX
          subst e1 e2
          clear hti hvl hfi hf1
          go_wp2_with fail
          refine HV.out.mono ?_
          rintro x w3 ⟨rfl, hr3, hk3⟩
          have HR3 := Pin.Aside.mk hr3
          replace HE := Pin.Aside.mk (HE.out.keep hk3 (fun q => hRA q.symm))
          replace HZ := Pin.Aside.mk (HZ.out.keep hk3 (by omega))
          replace HK := Pin.Aside.mk (HK.out.trans (hk3.mono (T := RZ R Z A) fun _ q => .inl q))
          clear hr3 hk3 HV r0c r1c HR
          go_wp2_with fail
          go_meet
          exact ⟨HR3, HE, HZ, HK⟩
        · rw [if_neg h0] at HX
          have hti0 : 0 < ti := by omega
          have htn : ¬ ti = 0 := by omega
          go_wp2_with fail
          refine HV.out.mono ?_
          rintro x w3 ⟨rfl, hr3, hk3⟩
          replace HE := Pin.Aside.mk (HE.out.keep hk3 (fun q => hRA q.symm))
          replace HZ := Pin.Aside.mk (HZ.out.keep hk3 (by omega))
          replace HK := Pin.Aside.mk (HK.out.trans (hk3.mono (T := RZ R Z A) fun _ q => .inl q))
          have HT := Pin.Aside.mk (r6_take t (by omega) hvl R A e q w3 HE.out hr3 (by omega) hRA)
          rw [hti] at HT
          have hle := rtake_le t e q
          generalize rtake t e q = D at *
          clear hr3 hk3 HV r0c r1c hvl HE HR hti
          go_wp2_with fail
          refine HT.out.mono ?_
          rintro x w4 ⟨rfl, hr4, he4, hk4⟩
          replace HZ := Pin.Aside.mk (HZ.out.keep hk4 (by rintro (q | q) <;> omega))
          replace HK := Pin.Aside.mk (HK.out.trans (hk4.mono (T := RZ R Z A) fun _ q => q.elim .inl fun q => .inr (.inr q)))
          have HR := Pin.Aside.mk hr4
          have HE := Pin.Aside.mk he4
          clear hr4 he4 hk4 HT hti0 htn
          go_wp2_with fail
          go_roundw
          case rel => exact ⟨f', i + 1, D.1, D.2, by omega, by omega, rfl, by omega, HR, HE, HZ, HK, HX⟩
          case measure => simp [intOf]; omega
      · have hst : rgo f e r = (e, r) := by
          cases f with
          | zero => rfl
          | succ f =>
            rw [rgo_succ, if_pos]
            by_cases hb : r.bad = true
            · exact hb
            · exact absurd ⟨by omega, by simpa using hb⟩ hgo
        obtain ⟨e1, e2⟩ := Prod.mk.inj (HX.out.trans hst)
        clear HX hst
        subst e1 e2
        by_cases hi12 : i < 12
        · have hbt : R9.bad = true := by
            by_cases hb : R9.bad = true
            · exact hb
            · exact absurd ⟨by omega, by simpa using hb⟩ hgo
          rw [hbt] at r1c
          clear hgo hfi
          go_wp2_with fail
          go_meet
          exact ⟨HR, HE, HZ, HK⟩
        · clear hgo hfi r0c r1c
          have hi13 : 12 ≤ i := by omega
          go_wp2_with fail
          go_meet
          exact ⟨HR, HE, HZ, HK⟩
  case rest =>
    clear HR1 HE HZ HK
    obtain ⟨HR, HE, HZ, HK⟩ := hcut
    have HPu := Pin.Aside.mk (fun W => r6_Put E9 hok.out W)
    unfold En.cells at HPu
    have FN := Pin.Aside.mk (fun h => refGet_fail HQ.out h)
    have FO := Pin.Aside.mk (fun h => refGet_ok HQ.out h)
    have hT9s := secPutS_le hok.out
    obtain ⟨T9, hT9⟩ : ∃ T9, secPutS E9 = T9 := ⟨_, rfl⟩
    rw [hT9] at HPu FN FO hT9s
    clear hT9
    obtain ⟨c0, c1, c2, c3, c4, c5, c6, c7, c8, c9, c10⟩ := HE.out.cells
    go_wp2_with fail
    refine (HPu.out _).mono ?_
    rintro x w4 ⟨rfl, hb4⟩
    have hk4 : Keep (fun _ => False) _ w4 := Keep.of_below hb4 fun _ q _ => q
    replace HE := Pin.Aside.mk (HE.out.keep hk4 id)
    replace HZ := Pin.Aside.mk (HZ.out.keep hk4 id)
    replace HR := Pin.Aside.mk (HR.out.keep hk4 id)
    replace HK := Pin.Aside.mk (HK.out.trans (hk4.mono (T := RZ R Z A) fun _ q => q.elim))
    clear c0 c1 c2 c3 c4 c5 c6 c7 c8 c9 c10 hb4 hk4 HPu
    have r0c := HR.out.c0
    have r1c := HR.out.c1
    by_cases hbad : R9.bad = true
    · rw [hbad] at r1c
      have HG : Pin.Aside (refGet r0 = (En.zero, Rd.fail)) := Pin.Aside.mk (FN.out (by rw [hbad]; rintro ⟨q, _⟩; cases q))
      go_wp2_with fail
      refine (rr_fail R _ _ HR.out).mono ?_
      rintro x w5 ⟨rfl, hr5, hk5⟩
      replace HZ := Pin.Aside.mk (HZ.out.keep hk5 (by omega))
      replace HK := Pin.Aside.mk (HK.out.trans (hk5.mono (T := RZ R Z A) fun _ q => .inl q))
      replace HR := Pin.Aside.mk hr5
      clear hr5 hk5 r0c r1c HE
      have hz := HZ.out
      obtain ⟨d0, d1, d2, d3, d4, d5, d6, d7, d8, d9, d10⟩ := hz.cells
      have hfr := hz.fr
      have f0 := hfr 0
      have f1 := hfr 1
      have f2 := hfr 2
      have f3 := hfr 3
      have f4 := hfr 4
      have f5 := hfr 5
      have f6 := hfr 6
      have f7 := hfr 7
      have f8 := hfr 8
      have f9 := hfr 9
      have f10 := hfr 10
      clear hfr hz
      go_wp2_with fail
      rw [HG.out]
      have hk6 := (((((((((((HK.out.setCell (p := ⟨Z, 0, none⟩) (.inl (.inr (.inl rfl))) (.int .u64 0)).setCell (p := ⟨Z, 1, none⟩) (.inl (.inr (.inl rfl))) (.int .u64 0)).setCell (p := ⟨Z, 2, none⟩) (.inl (.inr (.inl rfl))) (.int .i64 0)).setCell (p := ⟨Z, 3, none⟩) (.inl (.inr (.inl rfl))) (.int .u64 0)).setCell (p := ⟨Z, 4, none⟩) (.inl (.inr (.inl rfl))) (.int .u64 0)).setCell (p := ⟨Z, 5, none⟩) (.inl (.inr (.inl rfl))) (.int .u64 0)).setCell (p := ⟨Z, 6, none⟩) (.inl (.inr (.inl rfl))) (.int .u64 0)).setCell (p := ⟨Z, 7, none⟩) (.inl (.inr (.inl rfl))) (.int .i64 0)).setCell (p := ⟨Z, 8, none⟩) (.inl (.inr (.inl rfl))) (.int .i64 0)).setCell (p := ⟨Z, 9, none⟩) (.inl (.inr (.inl rfl))) (.string ⟨#[]⟩)).setCell (p := ⟨Z, 10, none⟩) (.inl (.inr (.inl rfl))) (.string ⟨#[]⟩))
      refine bodyPost_ret (v := .agg #[.int .u64 0, .int .u64 0, .int .i64 0, .int .u64 0, .int .u64 0, .int .u64 0, .int .u64 0, .int .i64 0, .int .i64 0, .string ⟨#[]⟩, .string ⟨#[]⟩]) (by simp [results, Try.results37, go_sem, d0, d1, d2, d3, d4, d5, d6, d7, d8, d9, d10]) rfl ⟨rfl, ?_, hk6.dropZ (by rw [HN.out.1]; omega) (by rw [HN.out.1]; omega)⟩
      exact HR.out.keep (S := fun k => k = Z) ((((((((((((Keep.refl (fun k => k = Z) _).setCell (p := ⟨Z, 0, none⟩) (.inl rfl) (.int .u64 0)).setCell (p := ⟨Z, 1, none⟩) (.inl rfl) (.int .u64 0)).setCell (p := ⟨Z, 2, none⟩) (.inl rfl) (.int .i64 0)).setCell (p := ⟨Z, 3, none⟩) (.inl rfl) (.int .u64 0)).setCell (p := ⟨Z, 4, none⟩) (.inl rfl) (.int .u64 0)).setCell (p := ⟨Z, 5, none⟩) (.inl rfl) (.int .u64 0)).setCell (p := ⟨Z, 6, none⟩) (.inl rfl) (.int .u64 0)).setCell (p := ⟨Z, 7, none⟩) (.inl rfl) (.int .i64 0)).setCell (p := ⟨Z, 8, none⟩) (.inl rfl) (.int .i64 0)).setCell (p := ⟨Z, 9, none⟩) (.inl rfl) (.string ⟨#[]⟩)).setCell (p := ⟨Z, 10, none⟩) (.inl rfl) (.string ⟨#[]⟩)) (by omega)
    · have hbf : R9.bad = false := by simpa using hbad
      rw [hbf] at r1c
      by_cases hri : E9.right = true
      case neg =>
        have hrf : E9.right = false := by simpa using hri
        rw [hrf]
        have HG : Pin.Aside (refGet r0 = (En.zero, Rd.fail)) := Pin.Aside.mk (FN.out (by rw [hrf]; rintro ⟨_, q, _⟩; cases q))
        go_wp2_with fail
        refine (rr_fail R _ _ HR.out).mono ?_
        rintro x w5 ⟨rfl, hr5, hk5⟩
        replace HZ := Pin.Aside.mk (HZ.out.keep hk5 (by omega))
        replace HK := Pin.Aside.mk (HK.out.trans (hk5.mono (T := RZ R Z A) fun _ q => .inl q))
        replace HR := Pin.Aside.mk hr5
        clear hr5 hk5 r0c r1c HE
        have hz := HZ.out
        obtain ⟨d0, d1, d2, d3, d4, d5, d6, d7, d8, d9, d10⟩ := hz.cells
        have hfr := hz.fr
        have f0 := hfr 0
        have f1 := hfr 1
        have f2 := hfr 2
        have f3 := hfr 3
        have f4 := hfr 4
        have f5 := hfr 5
        have f6 := hfr 6
        have f7 := hfr 7
        have f8 := hfr 8
        have f9 := hfr 9
        have f10 := hfr 10
        clear hfr hz
        go_wp2_with fail
        rw [HG.out]
        have hk6 := (((((((((((HK.out.setCell (p := ⟨Z, 0, none⟩) (.inl (.inr (.inl rfl))) (.int .u64 0)).setCell (p := ⟨Z, 1, none⟩) (.inl (.inr (.inl rfl))) (.int .u64 0)).setCell (p := ⟨Z, 2, none⟩) (.inl (.inr (.inl rfl))) (.int .i64 0)).setCell (p := ⟨Z, 3, none⟩) (.inl (.inr (.inl rfl))) (.int .u64 0)).setCell (p := ⟨Z, 4, none⟩) (.inl (.inr (.inl rfl))) (.int .u64 0)).setCell (p := ⟨Z, 5, none⟩) (.inl (.inr (.inl rfl))) (.int .u64 0)).setCell (p := ⟨Z, 6, none⟩) (.inl (.inr (.inl rfl))) (.int .u64 0)).setCell (p := ⟨Z, 7, none⟩) (.inl (.inr (.inl rfl))) (.int .i64 0)).setCell (p := ⟨Z, 8, none⟩) (.inl (.inr (.inl rfl))) (.int .i64 0)).setCell (p := ⟨Z, 9, none⟩) (.inl (.inr (.inl rfl))) (.string ⟨#[]⟩)).setCell (p := ⟨Z, 10, none⟩) (.inl (.inr (.inl rfl))) (.string ⟨#[]⟩))
        refine bodyPost_ret (v := .agg #[.int .u64 0, .int .u64 0, .int .i64 0, .int .u64 0, .int .u64 0, .int .u64 0, .int .u64 0, .int .i64 0, .int .i64 0, .string ⟨#[]⟩, .string ⟨#[]⟩]) (by simp [results, Try.results37, go_sem, d0, d1, d2, d3, d4, d5, d6, d7, d8, d9, d10]) rfl ⟨rfl, ?_, hk6.dropZ (by rw [HN.out.1]; omega) (by rw [HN.out.1]; omega)⟩
        exact HR.out.keep (S := fun k => k = Z) ((((((((((((Keep.refl (fun k => k = Z) _).setCell (p := ⟨Z, 0, none⟩) (.inl rfl) (.int .u64 0)).setCell (p := ⟨Z, 1, none⟩) (.inl rfl) (.int .u64 0)).setCell (p := ⟨Z, 2, none⟩) (.inl rfl) (.int .i64 0)).setCell (p := ⟨Z, 3, none⟩) (.inl rfl) (.int .u64 0)).setCell (p := ⟨Z, 4, none⟩) (.inl rfl) (.int .u64 0)).setCell (p := ⟨Z, 5, none⟩) (.inl rfl) (.int .u64 0)).setCell (p := ⟨Z, 6, none⟩) (.inl rfl) (.int .u64 0)).setCell (p := ⟨Z, 7, none⟩) (.inl rfl) (.int .i64 0)).setCell (p := ⟨Z, 8, none⟩) (.inl rfl) (.int .i64 0)).setCell (p := ⟨Z, 9, none⟩) (.inl rfl) (.string ⟨#[]⟩)).setCell (p := ⟨Z, 10, none⟩) (.inl rfl) (.string ⟨#[]⟩)) (by omega)
      case pos =>
        rw [hri]
        have hsz0 : (0 : Int) ≤ (T9.size : Int) := by omega
        by_cases hsz : T9.size ≤ r0.s.size
        case neg =>
          have hsz1 : (r0.s.size : Int) < (T9.size : Int) := by omega
          have HG : Pin.Aside (refGet r0 = (En.zero, Rd.fail)) := Pin.Aside.mk (FN.out (by rintro ⟨_, _, q, _⟩; exact hsz q))
          go_wp2_with fail
          refine (rr_fail R _ _ HR.out).mono ?_
          rintro x w5 ⟨rfl, hr5, hk5⟩
          replace HZ := Pin.Aside.mk (HZ.out.keep hk5 (by omega))
          replace HK := Pin.Aside.mk (HK.out.trans (hk5.mono (T := RZ R Z A) fun _ q => .inl q))
          replace HR := Pin.Aside.mk hr5
          clear hr5 hk5 r0c r1c HE
          have hz := HZ.out
          obtain ⟨d0, d1, d2, d3, d4, d5, d6, d7, d8, d9, d10⟩ := hz.cells
          have hfr := hz.fr
          have f0 := hfr 0
          have f1 := hfr 1
          have f2 := hfr 2
          have f3 := hfr 3
          have f4 := hfr 4
          have f5 := hfr 5
          have f6 := hfr 6
          have f7 := hfr 7
          have f8 := hfr 8
          have f9 := hfr 9
          have f10 := hfr 10
          clear hfr hz
          go_wp2_with fail
          rw [HG.out]
          have hk6 := (((((((((((HK.out.setCell (p := ⟨Z, 0, none⟩) (.inl (.inr (.inl rfl))) (.int .u64 0)).setCell (p := ⟨Z, 1, none⟩) (.inl (.inr (.inl rfl))) (.int .u64 0)).setCell (p := ⟨Z, 2, none⟩) (.inl (.inr (.inl rfl))) (.int .i64 0)).setCell (p := ⟨Z, 3, none⟩) (.inl (.inr (.inl rfl))) (.int .u64 0)).setCell (p := ⟨Z, 4, none⟩) (.inl (.inr (.inl rfl))) (.int .u64 0)).setCell (p := ⟨Z, 5, none⟩) (.inl (.inr (.inl rfl))) (.int .u64 0)).setCell (p := ⟨Z, 6, none⟩) (.inl (.inr (.inl rfl))) (.int .u64 0)).setCell (p := ⟨Z, 7, none⟩) (.inl (.inr (.inl rfl))) (.int .i64 0)).setCell (p := ⟨Z, 8, none⟩) (.inl (.inr (.inl rfl))) (.int .i64 0)).setCell (p := ⟨Z, 9, none⟩) (.inl (.inr (.inl rfl))) (.string ⟨#[]⟩)).setCell (p := ⟨Z, 10, none⟩) (.inl (.inr (.inl rfl))) (.string ⟨#[]⟩))
          refine bodyPost_ret (v := .agg #[.int .u64 0, .int .u64 0, .int .i64 0, .int .u64 0, .int .u64 0, .int .u64 0, .int .u64 0, .int .i64 0, .int .i64 0, .string ⟨#[]⟩, .string ⟨#[]⟩]) (by simp [results, Try.results37, go_sem, d0, d1, d2, d3, d4, d5, d6, d7, d8, d9, d10]) rfl ⟨rfl, ?_, hk6.dropZ (by rw [HN.out.1]; omega) (by rw [HN.out.1]; omega)⟩
          exact HR.out.keep (S := fun k => k = Z) ((((((((((((Keep.refl (fun k => k = Z) _).setCell (p := ⟨Z, 0, none⟩) (.inl rfl) (.int .u64 0)).setCell (p := ⟨Z, 1, none⟩) (.inl rfl) (.int .u64 0)).setCell (p := ⟨Z, 2, none⟩) (.inl rfl) (.int .i64 0)).setCell (p := ⟨Z, 3, none⟩) (.inl rfl) (.int .u64 0)).setCell (p := ⟨Z, 4, none⟩) (.inl rfl) (.int .u64 0)).setCell (p := ⟨Z, 5, none⟩) (.inl rfl) (.int .u64 0)).setCell (p := ⟨Z, 6, none⟩) (.inl rfl) (.int .u64 0)).setCell (p := ⟨Z, 7, none⟩) (.inl rfl) (.int .i64 0)).setCell (p := ⟨Z, 8, none⟩) (.inl rfl) (.int .i64 0)).setCell (p := ⟨Z, 9, none⟩) (.inl rfl) (.string ⟨#[]⟩)).setCell (p := ⟨Z, 10, none⟩) (.inl rfl) (.string ⟨#[]⟩)) (by omega)
        case pos =>
          have hsz1 : (T9.size : Int) ≤ (r0.s.size : Int) := by omega
          have hsz2 : ¬ (r0.s.size : Int) < (T9.size : Int) := by omega
          by_cases hx : r0.s.extract 0 T9.size = T9
          case neg =>
            have HG : Pin.Aside (refGet r0 = (En.zero, Rd.fail)) := Pin.Aside.mk (FN.out (by rintro ⟨_, _, _, q, _⟩; exact hx q))
            go_wp2_with fail
            refine (rr_fail R _ _ HR.out).mono ?_
            rintro x w5 ⟨rfl, hr5, hk5⟩
            replace HZ := Pin.Aside.mk (HZ.out.keep hk5 (by omega))
            replace HK := Pin.Aside.mk (HK.out.trans (hk5.mono (T := RZ R Z A) fun _ q => .inl q))
            replace HR := Pin.Aside.mk hr5
            clear hr5 hk5 r0c r1c HE
            have hz := HZ.out
            obtain ⟨d0, d1, d2, d3, d4, d5, d6, d7, d8, d9, d10⟩ := hz.cells
            have hfr := hz.fr
            have f0 := hfr 0
            have f1 := hfr 1
            have f2 := hfr 2
            have f3 := hfr 3
            have f4 := hfr 4
            have f5 := hfr 5
            have f6 := hfr 6
            have f7 := hfr 7
            have f8 := hfr 8
            have f9 := hfr 9
            have f10 := hfr 10
            clear hfr hz
            go_wp2_with fail
            rw [HG.out]
            have hk6 := (((((((((((HK.out.setCell (p := ⟨Z, 0, none⟩) (.inl (.inr (.inl rfl))) (.int .u64 0)).setCell (p := ⟨Z, 1, none⟩) (.inl (.inr (.inl rfl))) (.int .u64 0)).setCell (p := ⟨Z, 2, none⟩) (.inl (.inr (.inl rfl))) (.int .i64 0)).setCell (p := ⟨Z, 3, none⟩) (.inl (.inr (.inl rfl))) (.int .u64 0)).setCell (p := ⟨Z, 4, none⟩) (.inl (.inr (.inl rfl))) (.int .u64 0)).setCell (p := ⟨Z, 5, none⟩) (.inl (.inr (.inl rfl))) (.int .u64 0)).setCell (p := ⟨Z, 6, none⟩) (.inl (.inr (.inl rfl))) (.int .u64 0)).setCell (p := ⟨Z, 7, none⟩) (.inl (.inr (.inl rfl))) (.int .i64 0)).setCell (p := ⟨Z, 8, none⟩) (.inl (.inr (.inl rfl))) (.int .i64 0)).setCell (p := ⟨Z, 9, none⟩) (.inl (.inr (.inl rfl))) (.string ⟨#[]⟩)).setCell (p := ⟨Z, 10, none⟩) (.inl (.inr (.inl rfl))) (.string ⟨#[]⟩))
            refine bodyPost_ret (v := .agg #[.int .u64 0, .int .u64 0, .int .i64 0, .int .u64 0, .int .u64 0, .int .u64 0, .int .u64 0, .int .i64 0, .int .i64 0, .string ⟨#[]⟩, .string ⟨#[]⟩]) (by simp [results, Try.results37, go_sem, d0, d1, d2, d3, d4, d5, d6, d7, d8, d9, d10]) rfl ⟨rfl, ?_, hk6.dropZ (by rw [HN.out.1]; omega) (by rw [HN.out.1]; omega)⟩
            exact HR.out.keep (S := fun k => k = Z) ((((((((((((Keep.refl (fun k => k = Z) _).setCell (p := ⟨Z, 0, none⟩) (.inl rfl) (.int .u64 0)).setCell (p := ⟨Z, 1, none⟩) (.inl rfl) (.int .u64 0)).setCell (p := ⟨Z, 2, none⟩) (.inl rfl) (.int .i64 0)).setCell (p := ⟨Z, 3, none⟩) (.inl rfl) (.int .u64 0)).setCell (p := ⟨Z, 4, none⟩) (.inl rfl) (.int .u64 0)).setCell (p := ⟨Z, 5, none⟩) (.inl rfl) (.int .u64 0)).setCell (p := ⟨Z, 6, none⟩) (.inl rfl) (.int .u64 0)).setCell (p := ⟨Z, 7, none⟩) (.inl rfl) (.int .i64 0)).setCell (p := ⟨Z, 8, none⟩) (.inl rfl) (.int .i64 0)).setCell (p := ⟨Z, 9, none⟩) (.inl rfl) (.string ⟨#[]⟩)).setCell (p := ⟨Z, 10, none⟩) (.inl rfl) (.string ⟨#[]⟩)) (by omega)
          case pos =>
            by_cases hl : r0.s.size - T9.size = R9.s.size
            case neg =>
              have hl1 : ¬ (r0.s.size : Int) - (T9.size : Int) = (R9.s.size : Int) := by omega
              have hl2 : ((r0.s.size : Int) - (T9.size : Int) == (R9.s.size : Int)) = false := by simpa using hl1
              have hl3 : ((r0.s.size : Int) - (T9.size : Int) != (R9.s.size : Int)) = true := by simp [bne, hl2]
              have HG : Pin.Aside (refGet r0 = (En.zero, Rd.fail)) := Pin.Aside.mk (FN.out (by rintro ⟨_, _, _, _, q⟩; exact hl q))
              go_wp2_with fail
              refine (rr_fail R _ _ HR.out).mono ?_
              rintro x w5 ⟨rfl, hr5, hk5⟩
              replace HZ := Pin.Aside.mk (HZ.out.keep hk5 (by omega))
              replace HK := Pin.Aside.mk (HK.out.trans (hk5.mono (T := RZ R Z A) fun _ q => .inl q))
              replace HR := Pin.Aside.mk hr5
              clear hr5 hk5 r0c r1c HE
              have hz := HZ.out
              obtain ⟨d0, d1, d2, d3, d4, d5, d6, d7, d8, d9, d10⟩ := hz.cells
              have hfr := hz.fr
              have f0 := hfr 0
              have f1 := hfr 1
              have f2 := hfr 2
              have f3 := hfr 3
              have f4 := hfr 4
              have f5 := hfr 5
              have f6 := hfr 6
              have f7 := hfr 7
              have f8 := hfr 8
              have f9 := hfr 9
              have f10 := hfr 10
              clear hfr hz
              go_wp2_with fail
              rw [HG.out]
              have hk6 := (((((((((((HK.out.setCell (p := ⟨Z, 0, none⟩) (.inl (.inr (.inl rfl))) (.int .u64 0)).setCell (p := ⟨Z, 1, none⟩) (.inl (.inr (.inl rfl))) (.int .u64 0)).setCell (p := ⟨Z, 2, none⟩) (.inl (.inr (.inl rfl))) (.int .i64 0)).setCell (p := ⟨Z, 3, none⟩) (.inl (.inr (.inl rfl))) (.int .u64 0)).setCell (p := ⟨Z, 4, none⟩) (.inl (.inr (.inl rfl))) (.int .u64 0)).setCell (p := ⟨Z, 5, none⟩) (.inl (.inr (.inl rfl))) (.int .u64 0)).setCell (p := ⟨Z, 6, none⟩) (.inl (.inr (.inl rfl))) (.int .u64 0)).setCell (p := ⟨Z, 7, none⟩) (.inl (.inr (.inl rfl))) (.int .i64 0)).setCell (p := ⟨Z, 8, none⟩) (.inl (.inr (.inl rfl))) (.int .i64 0)).setCell (p := ⟨Z, 9, none⟩) (.inl (.inr (.inl rfl))) (.string ⟨#[]⟩)).setCell (p := ⟨Z, 10, none⟩) (.inl (.inr (.inl rfl))) (.string ⟨#[]⟩))
              refine bodyPost_ret (v := .agg #[.int .u64 0, .int .u64 0, .int .i64 0, .int .u64 0, .int .u64 0, .int .u64 0, .int .u64 0, .int .i64 0, .int .i64 0, .string ⟨#[]⟩, .string ⟨#[]⟩]) (by simp [results, Try.results37, go_sem, d0, d1, d2, d3, d4, d5, d6, d7, d8, d9, d10]) rfl ⟨rfl, ?_, hk6.dropZ (by rw [HN.out.1]; omega) (by rw [HN.out.1]; omega)⟩
              exact HR.out.keep (S := fun k => k = Z) ((((((((((((Keep.refl (fun k => k = Z) _).setCell (p := ⟨Z, 0, none⟩) (.inl rfl) (.int .u64 0)).setCell (p := ⟨Z, 1, none⟩) (.inl rfl) (.int .u64 0)).setCell (p := ⟨Z, 2, none⟩) (.inl rfl) (.int .i64 0)).setCell (p := ⟨Z, 3, none⟩) (.inl rfl) (.int .u64 0)).setCell (p := ⟨Z, 4, none⟩) (.inl rfl) (.int .u64 0)).setCell (p := ⟨Z, 5, none⟩) (.inl rfl) (.int .u64 0)).setCell (p := ⟨Z, 6, none⟩) (.inl rfl) (.int .u64 0)).setCell (p := ⟨Z, 7, none⟩) (.inl rfl) (.int .i64 0)).setCell (p := ⟨Z, 8, none⟩) (.inl rfl) (.int .i64 0)).setCell (p := ⟨Z, 9, none⟩) (.inl rfl) (.string ⟨#[]⟩)).setCell (p := ⟨Z, 10, none⟩) (.inl rfl) (.string ⟨#[]⟩)) (by omega)
            case pos =>
              have hl1 : (r0.s.size : Int) - (T9.size : Int) = (R9.s.size : Int) := by omega
              have hl2 : ((r0.s.size : Int) - (T9.size : Int) == (R9.s.size : Int)) = true := by simpa using hl1
              have hl3 : ((r0.s.size : Int) - (T9.size : Int) != (R9.s.size : Int)) = false := by simp [bne, hl2]
              have HG : Pin.Aside (refGet r0 = (E9, R9)) := Pin.Aside.mk (FO.out ⟨hbf, hri, hsz, hx, hl⟩)
              obtain ⟨c0, c1, c2, c3, c4, c5, c6, c7, c8, c9, c10⟩ := HE.out.cells
              have hz := HZ.out
              obtain ⟨d0, d1, d2, d3, d4, d5, d6, d7, d8, d9, d10⟩ := hz.cells
              have hfr := hz.fr
              have f0 := hfr 0
              have f1 := hfr 1
              have f2 := hfr 2
              have f3 := hfr 3
              have f4 := hfr 4
              have f5 := hfr 5
              have f6 := hfr 6
              have f7 := hfr 7
              have f8 := hfr 8
              have f9 := hfr 9
              have f10 := hfr 10
              clear hfr hz
              go_wp2_with fail
              rw [HG.out]
              have hk6 := (((((((((((HK.out.setCell (p := ⟨Z, 0, none⟩) (.inl (.inr (.inl rfl))) (.int .u64 E9.term)).setCell (p := ⟨Z, 1, none⟩) (.inl (.inr (.inl rfl))) (.int .u64 E9.index)).setCell (p := ⟨Z, 2, none⟩) (.inl (.inr (.inl rfl))) (.int .i64 E9.kind)).setCell (p := ⟨Z, 3, none⟩) (.inl (.inr (.inl rfl))) (.int .u64 E9.client)).setCell (p := ⟨Z, 4, none⟩) (.inl (.inr (.inl rfl))) (.int .u64 E9.seq)).setCell (p := ⟨Z, 5, none⟩) (.inl (.inr (.inl rfl))) (.int .u64 E9.block)).setCell (p := ⟨Z, 6, none⟩) (.inl (.inr (.inl rfl))) (.int .u64 E9.many)).setCell (p := ⟨Z, 7, none⟩) (.inl (.inr (.inl rfl))) (.int .i64 E9.node)).setCell (p := ⟨Z, 8, none⟩) (.inl (.inr (.inl rfl))) (.int .i64 E9.level)).setCell (p := ⟨Z, 9, none⟩) (.inl (.inr (.inl rfl))) (.string E9.data)).setCell (p := ⟨Z, 10, none⟩) (.inl (.inr (.inl rfl))) (.string E9.old))
              refine bodyPost_ret (v := .agg #[.int .u64 E9.term, .int .u64 E9.index, .int .i64 E9.kind, .int .u64 E9.client, .int .u64 E9.seq, .int .u64 E9.block, .int .u64 E9.many, .int .i64 E9.node, .int .i64 E9.level, .string E9.data, .string E9.old]) (by simp [results, Try.results37, go_sem, d0, d1, d2, d3, d4, d5, d6, d7, d8, d9, d10]) rfl ⟨rfl, ?_, hk6.dropZ (by rw [HN.out.1]; omega) (by rw [HN.out.1]; omega)⟩
              exact HR.out.keep (S := fun k => k = Z) ((((((((((((Keep.refl (fun k => k = Z) _).setCell (p := ⟨Z, 0, none⟩) (.inl rfl) (.int .u64 E9.term)).setCell (p := ⟨Z, 1, none⟩) (.inl rfl) (.int .u64 E9.index)).setCell (p := ⟨Z, 2, none⟩) (.inl rfl) (.int .i64 E9.kind)).setCell (p := ⟨Z, 3, none⟩) (.inl rfl) (.int .u64 E9.client)).setCell (p := ⟨Z, 4, none⟩) (.inl rfl) (.int .u64 E9.seq)).setCell (p := ⟨Z, 5, none⟩) (.inl rfl) (.int .u64 E9.block)).setCell (p := ⟨Z, 6, none⟩) (.inl rfl) (.int .u64 E9.many)).setCell (p := ⟨Z, 7, none⟩) (.inl rfl) (.int .i64 E9.node)).setCell (p := ⟨Z, 8, none⟩) (.inl rfl) (.int .i64 E9.level)).setCell (p := ⟨Z, 9, none⟩) (.inl rfl) (.string E9.data)).setCell (p := ⟨Z, 10, none⟩) (.inl rfl) (.string E9.old)) (by omega)

end Go.Proofs.Ythlmigbimeldbaa
