/- SuperCells: its walk. -/
import Derived.Test.YtpfkpaombiikcaaDoorSuE
import Derived.Test.YtpfkpaombiikcaaDoorSuB
import Derived.Test.YtpfkpaombiikcaaDoorSuH
set_option maxRecDepth 16000
namespace Go.Proofs.YtpfkpaombiikcaaDoor
open Go.RowKit Go.Pin
set_option linter.unusedVariables false
set_option linter.unusedSimpArgs false
set_option maxHeartbeats 3200000 in
theorem superCells_walk (g : Int) (body s0 : ByteArray) (own : Bool) (at' b : Int) (hg : 0 ≤ g ∧ g ≤ 18446744073709551615) (hbody : body.size ≤ 140737488351232) (hs0 : s0.size ≤ 140737488351232) (hat : -9223372036854775808 ≤ at' ∧ at' ≤ 9223372036854775807) (hb0 : 0 ≤ b ∧ b ≤ 255) (w : World) :
    Calls Tryd.prog 3 #[.int .u64 g, .string body, .string s0, .bool own, .int .i64 at', .int .u8 b] w fun e w' => e = .returned (.bool true) ∧ Below w.heap.size w w' := by
  obtain ⟨c, rfl⟩ : ∃ c : UInt8, (c.toNat : Int) = b := ⟨UInt8.ofNat b.toNat, by rw [UInt8.toNat_ofNat']; omega⟩
  have hse := str_beq
  obtain ⟨⟨T, ok⟩, hT⟩ : ∃ T, sput g body = T := ⟨_, rfl⟩
  have hTz : T.size ≤ 64 := by have := sput_size g body; rw [hT] at this; exact this
  have hp := fun W => super_put g hg body (by omega) W
  have hq := fun W => superref_put g hg body (by omega) W
  rw [hT] at hp hq
  have Hp := Aside.mk hp
  have Hq := Aside.mk hq
  have Hbd := Aside.mk fun W => bend08 T at' c hat (by omega) W
  have hb := Below.refl w.heap.size w
  have Hg := Aside.mk fun (s : ByteArray) (hs : s.size ≤ 1152921504606846976) (r : Int × ByteArray × Bool) (hr : sget s = r) (W : World) => show Calls Tryd.prog 15 #[.string s] W fun e w' => e = .returned (.tuple #[.int .u64 r.1, .string r.2.1, .bool r.2.2]) ∧ Below W.heap.size W w' from by subst hr; exact super_get s hs W
  have Hh := Aside.mk fun (s : ByteArray) (hs : s.size ≤ 1152921504606846976) (r : Int × ByteArray × Bool) (hr : sget s = r) (W : World) => show Calls Tryd.prog 16 #[.string s] W fun e w' => e = .returned (.tuple #[.int .u64 r.1, .string r.2.1, .bool r.2.2]) ∧ Below W.heap.size W w' from by subst hr; exact superref_get s hs W
  clear hT hp hq
  cases own with
  | true =>
    go_enter Tryd.func3, Tryd.ntmps3
    go_wp2_with fail
    refine (super_examples _).mono ?_
    rintro e w1 ⟨rfl, hbb⟩
    replace hb := Below.next hb hbb
    clear hbb
    go_wp2_with fail
    refine (Hp.out _).mono ?_
    rintro e w2 ⟨rfl, hbb⟩
    replace hb := Below.next hb hbb
    clear hbb
    go_wp2_with fail
    refine (Hq.out _).mono ?_
    rintro e w3 ⟨rfl, hbb⟩
    replace hb := Below.next hb hbb
    clear hbb
    go_wp2_with fail
    refine (Hbd.out _).mono ?_
    rintro e w4 ⟨⟨s, hsz, rfl⟩, hbb⟩
    replace hb := Below.next hb hbb
    clear hbb
    obtain ⟨⟨rg, rb, ro⟩, hr⟩ : ∃ r, sget s = r := ⟨_, rfl⟩
    have hg1 := fun W => Hg.out s (by omega) _ hr W
    have hg2 := fun W => Hh.out s (by omega) _ hr W
    have Hg1 := Aside.mk hg1
    have Hg2 := Aside.mk hg2
    clear hr hg1 hg2
    go_wp2_with fail
    refine (Hg1.out _).mono ?_
    rintro e w5 ⟨rfl, hbb⟩
    replace hb := Below.next hb hbb
    clear hbb
    go_wp2_with fail
    refine (Hg2.out _).mono ?_
    rintro e w6 ⟨rfl, hbb⟩
    replace hb := Below.next hb hbb
    clear hbb
    go_wp2_with fail
    go_ret
    exact ⟨rfl, hb⟩
  | false =>
    obtain ⟨⟨rg, rb, ro⟩, hr⟩ : ∃ r, sget s0 = r := ⟨_, rfl⟩
    have hg1 := fun W => Hg.out s0 (by omega) _ hr W
    have hg2 := fun W => Hh.out s0 (by omega) _ hr W
    have Hg1 := Aside.mk hg1
    have Hg2 := Aside.mk hg2
    clear hr hg1 hg2
    go_enter Tryd.func3, Tryd.ntmps3
    go_wp2_with fail
    refine (super_examples _).mono ?_
    rintro e w1 ⟨rfl, hbb⟩
    replace hb := Below.next hb hbb
    clear hbb
    go_wp2_with fail
    refine (Hp.out _).mono ?_
    rintro e w2 ⟨rfl, hbb⟩
    replace hb := Below.next hb hbb
    clear hbb
    go_wp2_with fail
    refine (Hq.out _).mono ?_
    rintro e w3 ⟨rfl, hbb⟩
    replace hb := Below.next hb hbb
    clear hbb
    go_wp2_with fail
    refine (Hg1.out _).mono ?_
    rintro e w5 ⟨rfl, hbb⟩
    replace hb := Below.next hb hbb
    clear hbb
    go_wp2_with fail
    refine (Hg2.out _).mono ?_
    rintro e w6 ⟨rfl, hbb⟩
    replace hb := Below.next hb hbb
    clear hbb
    go_wp2_with fail
    go_ret
    exact ⟨rfl, hb⟩
end Go.Proofs.YtpfkpaombiikcaaDoor
