/- VarintFails: its walk. -/
import Derived.Test.YtpbjoifdnhjfnaaVarX
namespace Go.Proofs.Ytpbjoifdnhjfnaa
open Go.RowKit Go.Pin
set_option linter.unusedVariables false
set_option linter.unusedSimpArgs false
theorem fail_fixed1 : Rd.fail.fixed 1 = (0, Rd.fail) := by rfl
theorem fail_text : Rd.fail.text = (⟨#[]⟩, Rd.fail) := by rfl

set_option maxHeartbeats 800000 in
theorem varintFails_walk (s : ByteArray) (n : Int) (hs : s.size ≤ 140737488351232) (hn : 0 ≤ n ∧ n ≤ 255) (w : World) :
    Calls Try.prog 14 #[.string s, .int .u8 n] w fun e w' => e = .returned (.bool true) ∧ Below w.heap.size w w' := by
  have hse := str_beq
  have e1 : (Rd.mk s false).bytes ((s.size : Int) + 1 + n) = (⟨#[]⟩, Rd.fail) := by unfold Rd.bytes; rw [if_pos (.inr (.inr (by show (s.size : Int) < _; omega)))]
  have E1 := Aside.mk e1
  clear e1
  go_enter Try.func14, Try.ntmps14
  go_wp2_with fail
  refine (var_examples _).mono ?_
  rintro e w0 ⟨rfl, hb⟩
  go_wp2_with fail
  refine (rd_new _ _).mono ?_
  rintro e w1 ⟨rfl, hr, hz1, hb1⟩
  have hB := hb.size
  replace hb := Below.next hb hb1
  generalize w0.heap.size = B at *
  clear hb1 hz1
  go_wp2_with fail
  refine (rd_bytes _ _ _ _ hr (by omega) (by show s.size ≤ _; omega)).mono ?_
  rw [E1.out]
  rintro e w2 ⟨rfl, hr2, hk2⟩
  replace hb := Keep.drop hb hB hk2
  clear hk2
  go_wp2_with fail
  refine (rd_bytes _ _ _ _ hr2 (by omega) (by decide)).mono ?_
  rw [rd_fail_bytes]
  rintro e w3 ⟨rfl, hr3, hk2⟩
  replace hb := Keep.drop hb hB hk2
  clear hk2
  go_wp2_with fail
  refine (rd_fixed _ _ _ _ hr3 (by omega) (by decide)).mono ?_
  rw [fail_fixed1]
  rintro e w4 ⟨rfl, hr4, hk2⟩
  replace hb := Keep.drop hb hB hk2
  clear hk2
  go_wp2_with fail
  refine (rd_text _ _ _ hr4 (by decide)).mono ?_
  rw [fail_text]
  rintro e w5 ⟨rfl, hr5, hk2⟩
  replace hb := Keep.drop hb hB hk2
  clear hk2
  go_wp2_with fail
  refine (rd_ok _ _ _ hr5).mono ?_
  rintro e w6 ⟨rfl, rfl⟩
  go_wp2_with fail
  refine (rd_left _ _ _ hr5).mono ?_
  rintro e w6 ⟨rfl, rfl⟩
  go_wp2_with fail
  go_ret
  exact ⟨rfl, hb⟩
end Go.Proofs.Ytpbjoifdnhjfnaa
