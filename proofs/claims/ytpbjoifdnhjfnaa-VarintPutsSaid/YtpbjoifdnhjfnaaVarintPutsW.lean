/- VarintPuts: its walk. -/
import Derived.Test.YtpbjoifdnhjfnaaVarX
import Derived.Test.YtpbjoifdnhjfnaaRdRefW
namespace Go.Proofs.Ytpbjoifdnhjfnaa
open Go.RowKit Go.Pin
set_option linter.unusedVariables false
set_option linter.unusedSimpArgs false

set_option maxHeartbeats 800000 in
theorem varintPuts_walk (n k : Int) (s : ByteArray) (hn : 0 ≤ n ∧ n ≤ 18446744073709551615) (hk : -9223372036854775808 ≤ k ∧ k ≤ 9223372036854775807) (hs : s.size ≤ 140737488351232) (w : World) :
    Calls Try.prog 8 #[.int .u64 n, .int .i64 k, .string s] w fun e w' => e = .returned (.bool true) ∧ Below w.heap.size w w' := by
  have hse := str_beq
  have hb := Below.refl w.heap.size w
  by_cases hout : k < 0 ∨ 8 < k
  · have Hout := Aside.mk hout
    clear hout
    go_enter Try.func8, Try.ntmps8
    go_wp2_with (first
    | (go_at_call 24; refine (var_examples _).mono ?_; rintro e w' ⟨rfl, hb'⟩; replace hb := Below.next hb hb'; clear hb')
    | (go_at_call 25; refine (var_put _ hn.1 hn.2 _).mono ?_; rintro e w' ⟨rfl, hb'⟩; replace hb := Below.next hb hb'; clear hb')
    | (go_at_call 26; refine (varref_put _ hn.1 hn.2 _).mono ?_; rintro e w' ⟨rfl, hb'⟩; replace hb := Below.next hb hb'; clear hb')
    | (go_at_call 27; refine (var_fixed_out _ _ Hout.out _).mono ?_; rintro e w' ⟨rfl, rfl⟩)
    | (go_at_call 28; refine (varref_fixed_out _ _ Hout.out _).mono ?_; rintro e w' ⟨rfl, rfl⟩)
    | (go_at_call 29; refine (var_text _ (by omega) _).mono ?_; rintro e w' ⟨rfl, hb'⟩; replace hb := Below.next hb hb'; clear hb')
    | (go_at_call 30; refine (varref_text _ (by omega) _).mono ?_; rintro e w' ⟨rfl, hb'⟩; replace hb := Below.next hb hb'; clear hb'))
    go_ret
    exact ⟨rfl, hb⟩
  · have Hk0 := Aside.mk (show 0 ≤ k by omega)
    have Hk1 := Aside.mk (show k ≤ 8 by omega)
    clear hout
    go_enter Try.func8, Try.ntmps8
    go_wp2_with (first
    | (go_at_call 24; refine (var_examples _).mono ?_; rintro e w' ⟨rfl, hb'⟩; replace hb := Below.next hb hb'; clear hb')
    | (go_at_call 25; refine (var_put _ hn.1 hn.2 _).mono ?_; rintro e w' ⟨rfl, hb'⟩; replace hb := Below.next hb hb'; clear hb')
    | (go_at_call 26; refine (varref_put _ hn.1 hn.2 _).mono ?_; rintro e w' ⟨rfl, hb'⟩; replace hb := Below.next hb hb'; clear hb')
    | (go_at_call 27; refine (var_fixed _ _ hn.1 hn.2 Hk0.out Hk1.out _).mono ?_; rintro e w' ⟨rfl, hb'⟩; replace hb := Below.next hb hb'; clear hb')
    | (go_at_call 28; refine (varref_fixed _ _ hn.1 hn.2 Hk0.out Hk1.out _).mono ?_; rintro e w' ⟨rfl, hb'⟩; replace hb := Below.next hb hb'; clear hb')
    | (go_at_call 29; refine (var_text _ (by omega) _).mono ?_; rintro e w' ⟨rfl, hb'⟩; replace hb := Below.next hb hb'; clear hb')
    | (go_at_call 30; refine (varref_text _ (by omega) _).mono ?_; rintro e w' ⟨rfl, hb'⟩; replace hb := Below.next hb hb'; clear hb'))
    go_ret
    exact ⟨rfl, hb⟩
end Go.Proofs.Ytpbjoifdnhjfnaa
