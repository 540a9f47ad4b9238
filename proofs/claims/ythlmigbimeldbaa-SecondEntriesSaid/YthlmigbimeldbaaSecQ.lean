/- second: Put of an entry. -/
import Derived.Test.YthlmigbimeldbaaSecP
set_option maxRecDepth 16000
namespace Go.Pin
open Go.RowKit
set_option linter.unusedVariables false
set_option linter.unusedSimpArgs false
theorem fit_cases {s : ByteArray} {c : UInt8} {th ri : Bool} (h : enFit s c th ri = true) : ri = true ∨ th = false := by
  unfold enFit at h
  split at h
  · exact .inl h
  · exact .inr (by simpa using h)
theorem right_small {e : En} (h : e.right = true) (ho : e.ok) : e.small ∧ e.term ≠ 0 := by
  unfold En.right at h
  simp only [Bool.and_eq_true, decide_eq_true_eq] at h
  obtain ⟨⟨⟨h1, h2⟩, h3⟩, ⟨⟨⟨⟨⟨⟨g1, g2⟩, g3⟩, g4⟩, g5⟩, g6⟩, g7⟩⟩ := h
  have hk : 0 ≤ e.kind ∧ e.kind ≤ 11 := by
    by_cases q : 0 ≤ e.kind ∧ e.kind ≤ 11
    · exact q
    · have : enF e.kind = (⟨#[]⟩, false) := by
        unfold enF
        rw [if_neg (by omega), if_neg (by omega), if_neg (by omega), if_neg (by omega), if_neg (by omega), if_neg (by omega), if_neg (by omega), if_neg (by omega)]
      rw [this] at h1; cases h1
  have hn : 0 ≤ e.node ∧ e.node ≤ 7 := by
    rcases fit_cases g4 with q | q
    · have := of_decide_eq_true q; omega
    · have : e.node = 0 := by simpa using q
      omega
  have hl : 0 ≤ e.level ∧ e.level ≤ 2 := by
    rcases fit_cases g5 with q | q
    · have := of_decide_eq_true q; omega
    · have : e.level = 0 := by simpa using q
      omega
  have hd : e.data.size ≤ 64 := by
    rcases fit_cases g6 with q | q
    · exact of_decide_eq_true q
    · have : e.data = ⟨#[]⟩ := by simpa using q
      rw [this]; exact Nat.zero_le _
  have hol : e.old.size ≤ 64 := by
    rcases fit_cases g7 with q | q
    · exact of_decide_eq_true q
    · have : e.old = ⟨#[]⟩ := by simpa using q
      rw [this]; exact Nat.zero_le _
  have := ho.term; have := ho.index; have := ho.client; have := ho.seq; have := ho.block; have := ho.many
  exact ⟨⟨by omega, by omega, by omega, by omega, by omega, by omega, by omega, by omega, by omega, hd, hol⟩, by omega⟩
/-- What Put answers. -/
def secPutS (e : En) : ByteArray := if e.right = true then bs (secPut e) else ⟨#[]⟩
end Go.Pin
namespace Go.Proofs.Ythlmigbimeldbaa
open Go.RowKit Go.Pin
set_option linter.unusedVariables false
set_option linter.unusedSimpArgs false
set_option maxHeartbeats 1600000 in
theorem sec_Put (e : En) (ho : e.ok) (w : World) :
    Calls Try.prog 30 #[.agg e.cells] w fun x w' => x = .returned (.tuple #[.string (secPutS e), .bool e.right]) ∧ Below w.heap.size w w' := by
  have hk0 := (Keep.refl (fun _ => False) w).alloc (.cells e.cells 32)
  have HE := Pin.Aside.mk (EnAt.new w 32 e)
  have HW := Pin.Aside.mk (hk0.below (Nat.le_refl _) fun _ q => q.elim)
  have HR := Pin.Aside.mk (fun W => en_right e ho W)
  clear hk0
  unfold En.cells at *
  go_enter Try.func30, Try.ntmps30
  go_upto_region 1 with fail
  generalize w.alloc (.cells #[.int .u64 e.term, .int .u64 e.index, .int .i64 e.kind, .int .u64 e.client, .int .u64 e.seq, .int .u64 e.block, .int .u64 e.many, .int .i64 e.node, .int .i64 e.level, .string e.data, .string e.old] 32) = w1 at *
  obtain ⟨A, hA⟩ : ∃ A, w.heap.size = A := ⟨_, rfl⟩
  rw [hA] at HE
  try rw [hA]
  have HA := Pin.Aside.mk hA
  clear hA
  obtain ⟨c0, c1, c2, c3, c4, c5, c6, c7, c8, c9, c10⟩ := HE.out
  simp only [Nat.zero_add] at c1 c2 c3 c4 c5 c6 c7 c8 c9 c10
  go_wp2_with fail
  refine (HR.out _).mono ?_
  rintro x w2 ⟨rfl, hb2⟩
  have hk2 : Keep (fun _ => False) w1 w2 := Keep.of_below hb2 fun _ q _ => q
  replace HE := Pin.Aside.mk (HE.out.keep hk2 id)
  replace HW := Pin.Aside.mk (HW.out.trans (hb2.mono (by have := HW.out.size; omega)))
  clear c0 c1 c2 c3 c4 c5 c6 c7 c8 c9 c10 hk2 hb2 HR
  by_cases hr : e.right = true
  · have HS := Pin.Aside.mk (right_small hr ho)
    have HP : Pin.Aside (secPutS e = bs (secPut e)) := Pin.Aside.mk (by unfold secPutS; rw [if_pos hr])
    go_wp2_with fail
    refine (sec_fields A _).mono ?_
    rintro x w3 ⟨F, P, rfl, hF, hP, hS, hb3⟩
    have hk3 : Keep (fun _ => False) w2 w3 := Keep.of_below hb3 fun _ q _ => q
    replace HE := Pin.Aside.mk (HE.out.keep hk3 id)
    replace HW := Pin.Aside.mk (HW.out.trans (hb3.mono (by have := HW.out.size; omega)))
    have HC := Pin.Aside.mk (sec_put F A P e HS.out.1 HS.out.2 w3 hS HE.out)
    clear hF hP hS hb3 hk3
    go_wp2_with fail
    refine HC.out.mono ?_
    rintro x w4 ⟨rfl, hb4⟩
    go_wp2_with fail
    go_ret2
    exact ⟨by rw [HP.out, hr]; rfl, HW.out.trans (hb4.mono (by have := HW.out.size; omega))⟩
  · have hr' : e.right = false := by simpa using hr
    have HP : Pin.Aside (secPutS e = ⟨#[]⟩) := Pin.Aside.mk (by unfold secPutS; rw [if_neg hr])
    clear hr
    go_wp2_with fail
    go_ret2
    exact ⟨by rw [HP.out, hr']; rfl, HW.out⟩
end Go.Proofs.Ythlmigbimeldbaa
