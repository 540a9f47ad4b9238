/- SecondTags: its walk. -/
import Derived.Test.YthlmigbimeldbaaSecondTagsM
import Derived.Test.YthlmigbimeldbaaSecE
import Derived.Test.YthlmigbimeldbaaSecL
set_option maxRecDepth 16000
namespace Go.Pin
open Go.RowKit
set_option linter.unusedVariables false
set_option linter.unusedSimpArgs false
def SecBad (s : ByteArray) : Prop := (secGet ⟨s, false⟩).2.bad = true
structure SecRow (w : World) (Q : Nat) : Prop where
  lt : Q < w.heap.size
  row : ∀ k, k < 7 → ∃ s, w.cell? ⟨Q, k, none⟩ = some (.string s) ∧ SecBad s ∧ s.size ≤ 200
theorem SecRow.keep {a w : World} {Q : Nat} {S : Nat → Prop} (h : SecRow a Q) (hk : Keep S a w) (hS : ¬ S Q) : SecRow w Q :=
  ⟨Nat.lt_of_lt_of_le h.lt hk.size, fun k q => by obtain ⟨s, h1, h2⟩ := h.row k q; exact ⟨s, hk.cell h1 hS, h2⟩⟩

theorem tagsB_1 (m n t : Nat) (hm : 0 < m ∧ m < 4294967297) (hn : 0 < n ∧ n < 4294967297) (ht : 11 < t ∧ t < 18446744073709551616) : SecBad (⟨#[3]⟩ ++ bs (vput n) ++ ⟨#[2]⟩ ++ bs (vput m) ++ ⟨#[0]⟩) := by
  have h : ⟨#[3]⟩ ++ bs (vput n) ++ ⟨#[2]⟩ ++ bs (vput m) ++ ⟨#[0]⟩ = bs ([3] ++ (vput n) ++ [2] ++ (vput m) ++ [0]) := by
    show bs [3] ++ bs (vput n) ++ bs [2] ++ bs (vput m) ++ bs [0] = _
    rw [bs_append, bs_append, bs_append, bs_append]
  unfold SecBad
  rw [h]
  exact tags_1 m n hn
theorem tagsB_2 (m n t : Nat) (hm : 0 < m ∧ m < 4294967297) (hn : 0 < n ∧ n < 4294967297) (ht : 11 < t ∧ t < 18446744073709551616) : SecBad (⟨#[2]⟩ ++ bs (vput m) ++ ⟨#[2]⟩ ++ bs (vput m) ++ ⟨#[3]⟩ ++ bs (vput n) ++ ⟨#[0]⟩) := by
  have h : ⟨#[2]⟩ ++ bs (vput m) ++ ⟨#[2]⟩ ++ bs (vput m) ++ ⟨#[3]⟩ ++ bs (vput n) ++ ⟨#[0]⟩ = bs ([2] ++ (vput m) ++ [2] ++ (vput m) ++ [3] ++ (vput n) ++ [0]) := by
    show bs [2] ++ bs (vput m) ++ bs [2] ++ bs (vput m) ++ bs [3] ++ bs (vput n) ++ bs [0] = _
    rw [bs_append, bs_append, bs_append, bs_append, bs_append, bs_append]
  unfold SecBad
  rw [h]
  exact tags_2 m n hm
theorem tagsB_3 (m n t : Nat) (hm : 0 < m ∧ m < 4294967297) (hn : 0 < n ∧ n < 4294967297) (ht : 11 < t ∧ t < 18446744073709551616) : SecBad (⟨#[1, 0, 2]⟩ ++ bs (vput m) ++ ⟨#[3]⟩ ++ bs (vput n) ++ ⟨#[0]⟩) := by
  have h : ⟨#[1, 0, 2]⟩ ++ bs (vput m) ++ ⟨#[3]⟩ ++ bs (vput n) ++ ⟨#[0]⟩ = bs ([1, 0, 2] ++ (vput m) ++ [3] ++ (vput n) ++ [0]) := by
    show bs [1, 0, 2] ++ bs (vput m) ++ bs [3] ++ bs (vput n) ++ bs [0] = _
    rw [bs_append, bs_append, bs_append, bs_append]
  unfold SecBad
  rw [h]
  have := tags_3 (vput m ++ ([3] ++ (vput n ++ [0])))
  simp only [List.append_assoc] at this ⊢
  exact this
theorem tagsB_4 (m n t : Nat) (hm : 0 < m ∧ m < 4294967297) (hn : 0 < n ∧ n < 4294967297) (ht : 11 < t ∧ t < 18446744073709551616) : SecBad (⟨#[2]⟩ ++ bs (vput m) ++ ⟨#[3]⟩ ++ bs (vput n) ++ bs (vput t) ++ ⟨#[1, 0]⟩) := by
  have h : ⟨#[2]⟩ ++ bs (vput m) ++ ⟨#[3]⟩ ++ bs (vput n) ++ bs (vput t) ++ ⟨#[1, 0]⟩ = bs ([2] ++ (vput m) ++ [3] ++ (vput n) ++ (vput t) ++ [1, 0]) := by
    show bs [2] ++ bs (vput m) ++ bs [3] ++ bs (vput n) ++ bs (vput t) ++ bs [1, 0] = _
    rw [bs_append, bs_append, bs_append, bs_append, bs_append]
  unfold SecBad
  rw [h]
  exact tags_4 m n hm hn t ht
theorem tagsB_5 (m n t : Nat) (hm : 0 < m ∧ m < 4294967297) (hn : 0 < n ∧ n < 4294967297) (ht : 11 < t ∧ t < 18446744073709551616) : SecBad (⟨#[2]⟩ ++ bs (vput m) ++ ⟨#[3]⟩ ++ bs (vput n)) := by
  have h : ⟨#[2]⟩ ++ bs (vput m) ++ ⟨#[3]⟩ ++ bs (vput n) = bs ([2] ++ (vput m) ++ [3] ++ (vput n)) := by
    show bs [2] ++ bs (vput m) ++ bs [3] ++ bs (vput n) = _
    rw [bs_append, bs_append, bs_append]
  unfold SecBad
  rw [h]
  exact tags_5 m n hm hn
theorem tagsB_6 (m n t : Nat) (hm : 0 < m ∧ m < 4294967297) (hn : 0 < n ∧ n < 4294967297) (ht : 11 < t ∧ t < 18446744073709551616) : SecBad (⟨#[2]⟩ ++ bs (vput m) ++ ⟨#[0]⟩) := by
  have h : ⟨#[2]⟩ ++ bs (vput m) ++ ⟨#[0]⟩ = bs ([2] ++ (vput m) ++ [0]) := by
    show bs [2] ++ bs (vput m) ++ bs [0] = _
    rw [bs_append, bs_append]
  unfold SecBad
  rw [h]
  exact tags_6 m hm
theorem tagsB_7 (m n t : Nat) (hm : 0 < m ∧ m < 4294967297) (hn : 0 < n ∧ n < 4294967297) (ht : 11 < t ∧ t < 18446744073709551616) : SecBad (⟨#[2]⟩ ++ bs (vput m) ++ ⟨#[3]⟩ ++ bs (vput n) ++ ⟨#[10, 0, 0]⟩) := by
  have h : ⟨#[2]⟩ ++ bs (vput m) ++ ⟨#[3]⟩ ++ bs (vput n) ++ ⟨#[10, 0, 0]⟩ = bs ([2] ++ (vput m) ++ [3] ++ (vput n) ++ [10, 0, 0]) := by
    show bs [2] ++ bs (vput m) ++ bs [3] ++ bs (vput n) ++ bs [10, 0, 0] = _
    rw [bs_append, bs_append, bs_append, bs_append]
  unfold SecBad
  rw [h]
  exact tags_7 m n hm hn
theorem tagsB_8 (m n t : Nat) (hm : 0 < m ∧ m < 4294967297) (hn : 0 < n ∧ n < 4294967297) (ht : 11 < t ∧ t < 18446744073709551616) : secGet ⟨⟨#[2]⟩ ++ bs (vput m) ++ ⟨#[3]⟩ ++ bs (vput n) ++ ⟨#[0]⟩, false⟩ = ((En.zero.setN 2 m).setN 3 n, ⟨bs [], false⟩) := by
  have h : ⟨#[2]⟩ ++ bs (vput m) ++ ⟨#[3]⟩ ++ bs (vput n) ++ ⟨#[0]⟩ = bs ([2] ++ (vput m) ++ [3] ++ (vput n) ++ [0]) := by
    show bs [2] ++ bs (vput m) ++ bs [3] ++ bs (vput n) ++ bs [0] = _
    rw [bs_append, bs_append, bs_append, bs_append]
  rw [h]
  exact tags_8 m n hm hn
end Go.Pin
namespace Go.Proofs.Ythlmigbimeldbaa
open Go.RowKit Go.Pin
set_option linter.unusedVariables false
set_option linter.unusedSimpArgs false
set_option maxHeartbeats 3200000 in
theorem secondTags_walk (a b c : Int) (ha : 0 ≤ a ∧ a ≤ 4294967295) (hb' : 0 ≤ b ∧ b ≤ 4294967295) (hc : 0 ≤ c ∧ c ≤ 255) (w : World) :
    Calls Try.prog 11 #[.int .u32 a, .int .u32 b, .int .u8 c] w fun x w' => x = .returned (.bool true) ∧ Below w.heap.size w w' := by
  have hwa : IntKind.u64.wrap (a + 1) = a + 1 := by rw [IntKind.wrap_u64]; omega
  have hwb : IntKind.u64.wrap (b + 1) = b + 1 := by rw [IntKind.wrap_u64]; omega
  have hwc : IntKind.u64.wrap (c + 12) = c + 12 := by rw [IntKind.wrap_u64]; omega
  have PM := Pin.Aside.mk (fun W => var_put (a + 1) (by omega) (by omega) W)
  have PN := Pin.Aside.mk (fun W => var_put (b + 1) (by omega) (by omega) W)
  have PT := Pin.Aside.mk (fun W => var_put (c + 12) (by omega) (by omega) W)
  obtain ⟨m, hm⟩ : ∃ m : Nat, (a + 1).toNat = m := ⟨_, rfl⟩
  obtain ⟨n, hn⟩ : ∃ m : Nat, (b + 1).toNat = m := ⟨_, rfl⟩
  obtain ⟨t, ht⟩ : ∃ m : Nat, (c + 12).toNat = m := ⟨_, rfl⟩
  rw [hm] at PM
  rw [hn] at PN
  rw [ht] at PT
  have q1 : 0 < m ∧ m < 4294967297 := by omega
  have q2 : 0 < n ∧ n < 4294967297 := by omega
  have q3 : 11 < t ∧ t < 18446744073709551616 := by omega

  have F1 := Pin.Aside.mk (tagsB_1 m n t q1 q2 q3)
  have F2 := Pin.Aside.mk (tagsB_2 m n t q1 q2 q3)
  have F3 := Pin.Aside.mk (tagsB_3 m n t q1 q2 q3)
  have F4 := Pin.Aside.mk (tagsB_4 m n t q1 q2 q3)
  have F5 := Pin.Aside.mk (tagsB_5 m n t q1 q2 q3)
  have F6 := Pin.Aside.mk (tagsB_6 m n t q1 q2 q3)
  have F7 := Pin.Aside.mk (tagsB_7 m n t q1 q2 q3)
  have F8 := Pin.Aside.mk (tagsB_8 m n t q1 q2 q3)
  rw [show ((En.zero.setN 2 (m : Int)).setN 3 (n : Int)) = ⟨a + 1, b + 1, 0, 0, 0, 0, 0, 0, 0, ⟨#[]⟩, ⟨#[]⟩⟩ from by rw [show (m : Int) = a + 1 by omega, show (n : Int) = b + 1 by omega]; rfl] at F8
  have l1 : (vputS m).size ≤ 10 := by rw [show vputS m = bs (vput m) from rfl, bs_size]; exact vput_len m
  have l2 : (vputS n).size ≤ 10 := by rw [show vputS n = bs (vput n) from rfl, bs_size]; exact vput_len n
  have l3 : (vputS t).size ≤ 10 := by rw [show vputS t = bs (vput t) from rfl, bs_size]; exact vput_len t

  change Pin.Aside (∀ W, Calls _ _ _ W fun x w' => x = .returned (.string (bs (vput m))) ∧ _) at PM
  change Pin.Aside (∀ W, Calls _ _ _ W fun x w' => x = .returned (.string (bs (vput n))) ∧ _) at PN
  change Pin.Aside (∀ W, Calls _ _ _ W fun x w' => x = .returned (.string (bs (vput t))) ∧ _) at PT
  change (bs (vput m)).size ≤ 10 at l1
  change (bs (vput n)).size ≤ 10 at l2
  change (bs (vput t)).size ≤ 10 at l3
  generalize bs (vput m) = M at *
  generalize bs (vput n) = N at *
  generalize bs (vput t) = T at *
  clear hm hn ht q1 q2 q3

  obtain ⟨g0, e0⟩ : ∃ g : ByteArray, ⟨#[3]⟩ ++ N = g := ⟨_, rfl⟩
  have ze0 : g0.size ≤ 11 := by rw [← e0, ByteArray.size_append]; have k1 : (⟨#[3]⟩ : ByteArray).size = 1 := rfl; omega
  obtain ⟨g1, e1⟩ : ∃ g : ByteArray, g0 ++ ⟨#[2]⟩ = g := ⟨_, rfl⟩
  have ze1 : g1.size ≤ 12 := by rw [← e1, ByteArray.size_append]; have k2 : (⟨#[2]⟩ : ByteArray).size = 1 := rfl; omega
  obtain ⟨g2, e2⟩ : ∃ g : ByteArray, g1 ++ M = g := ⟨_, rfl⟩
  have ze2 : g2.size ≤ 22 := by rw [← e2, ByteArray.size_append]; omega
  obtain ⟨g3, e3⟩ : ∃ g : ByteArray, g2 ++ ⟨#[0]⟩ = g := ⟨_, rfl⟩
  have ze3 : g3.size ≤ 23 := by rw [← e3, ByteArray.size_append]; have k2 : (⟨#[0]⟩ : ByteArray).size = 1 := rfl; omega
  simp only [e0, e1, e2, e3] at F1
  have S1 : g3.size ≤ 200 := by omega
  obtain ⟨g4, e4⟩ : ∃ g : ByteArray, ⟨#[2]⟩ ++ M = g := ⟨_, rfl⟩
  have ze4 : g4.size ≤ 11 := by rw [← e4, ByteArray.size_append]; have k1 : (⟨#[2]⟩ : ByteArray).size = 1 := rfl; omega
  obtain ⟨g5, e5⟩ : ∃ g : ByteArray, g4 ++ ⟨#[2]⟩ = g := ⟨_, rfl⟩
  have ze5 : g5.size ≤ 12 := by rw [← e5, ByteArray.size_append]; have k2 : (⟨#[2]⟩ : ByteArray).size = 1 := rfl; omega
  obtain ⟨g6, e6⟩ : ∃ g : ByteArray, g5 ++ M = g := ⟨_, rfl⟩
  have ze6 : g6.size ≤ 22 := by rw [← e6, ByteArray.size_append]; omega
  obtain ⟨g7, e7⟩ : ∃ g : ByteArray, g6 ++ ⟨#[3]⟩ = g := ⟨_, rfl⟩
  have ze7 : g7.size ≤ 23 := by rw [← e7, ByteArray.size_append]; have k2 : (⟨#[3]⟩ : ByteArray).size = 1 := rfl; omega
  obtain ⟨g8, e8⟩ : ∃ g : ByteArray, g7 ++ N = g := ⟨_, rfl⟩
  have ze8 : g8.size ≤ 33 := by rw [← e8, ByteArray.size_append]; omega
  obtain ⟨g9, e9⟩ : ∃ g : ByteArray, g8 ++ ⟨#[0]⟩ = g := ⟨_, rfl⟩
  have ze9 : g9.size ≤ 34 := by rw [← e9, ByteArray.size_append]; have k2 : (⟨#[0]⟩ : ByteArray).size = 1 := rfl; omega
  simp only [e0, e1, e2, e3, e4, e5, e6, e7, e8, e9] at F2
  have S2 : g9.size ≤ 200 := by omega
  obtain ⟨g10, e10⟩ : ∃ g : ByteArray, ⟨#[1, 0, 2]⟩ ++ M = g := ⟨_, rfl⟩
  have ze10 : g10.size ≤ 13 := by rw [← e10, ByteArray.size_append]; have k1 : (⟨#[1, 0, 2]⟩ : ByteArray).size = 3 := rfl; omega
  obtain ⟨g11, e11⟩ : ∃ g : ByteArray, g10 ++ ⟨#[3]⟩ = g := ⟨_, rfl⟩
  have ze11 : g11.size ≤ 14 := by rw [← e11, ByteArray.size_append]; have k2 : (⟨#[3]⟩ : ByteArray).size = 1 := rfl; omega
  obtain ⟨g12, e12⟩ : ∃ g : ByteArray, g11 ++ N = g := ⟨_, rfl⟩
  have ze12 : g12.size ≤ 24 := by rw [← e12, ByteArray.size_append]; omega
  obtain ⟨g13, e13⟩ : ∃ g : ByteArray, g12 ++ ⟨#[0]⟩ = g := ⟨_, rfl⟩
  have ze13 : g13.size ≤ 25 := by rw [← e13, ByteArray.size_append]; have k2 : (⟨#[0]⟩ : ByteArray).size = 1 := rfl; omega
  simp only [e0, e1, e10, e11, e12, e13, e2, e3, e4, e5, e6, e7, e8, e9] at F3
  have S3 : g13.size ≤ 200 := by omega
  obtain ⟨g14, e14⟩ : ∃ g : ByteArray, g4 ++ ⟨#[3]⟩ = g := ⟨_, rfl⟩
  have ze14 : g14.size ≤ 12 := by rw [← e14, ByteArray.size_append]; have k2 : (⟨#[3]⟩ : ByteArray).size = 1 := rfl; omega
  obtain ⟨g15, e15⟩ : ∃ g : ByteArray, g14 ++ N = g := ⟨_, rfl⟩
  have ze15 : g15.size ≤ 22 := by rw [← e15, ByteArray.size_append]; omega
  obtain ⟨g16, e16⟩ : ∃ g : ByteArray, g15 ++ T = g := ⟨_, rfl⟩
  have ze16 : g16.size ≤ 32 := by rw [← e16, ByteArray.size_append]; omega
  obtain ⟨g17, e17⟩ : ∃ g : ByteArray, g16 ++ ⟨#[1, 0]⟩ = g := ⟨_, rfl⟩
  have ze17 : g17.size ≤ 34 := by rw [← e17, ByteArray.size_append]; have k2 : (⟨#[1, 0]⟩ : ByteArray).size = 2 := rfl; omega
  simp only [e0, e1, e10, e11, e12, e13, e14, e15, e16, e17, e2, e3, e4, e5, e6, e7, e8, e9] at F4
  have S4 : g17.size ≤ 200 := by omega
  simp only [e0, e1, e10, e11, e12, e13, e14, e15, e16, e17, e2, e3, e4, e5, e6, e7, e8, e9] at F5
  have S5 : g15.size ≤ 200 := by omega
  obtain ⟨g18, e18⟩ : ∃ g : ByteArray, g4 ++ ⟨#[0]⟩ = g := ⟨_, rfl⟩
  have ze18 : g18.size ≤ 12 := by rw [← e18, ByteArray.size_append]; have k2 : (⟨#[0]⟩ : ByteArray).size = 1 := rfl; omega
  simp only [e0, e1, e10, e11, e12, e13, e14, e15, e16, e17, e18, e2, e3, e4, e5, e6, e7, e8, e9] at F6
  have S6 : g18.size ≤ 200 := by omega
  obtain ⟨g19, e19⟩ : ∃ g : ByteArray, g15 ++ ⟨#[10, 0, 0]⟩ = g := ⟨_, rfl⟩
  have ze19 : g19.size ≤ 25 := by rw [← e19, ByteArray.size_append]; have k2 : (⟨#[10, 0, 0]⟩ : ByteArray).size = 3 := rfl; omega
  simp only [e0, e1, e10, e11, e12, e13, e14, e15, e16, e17, e18, e19, e2, e3, e4, e5, e6, e7, e8, e9] at F7
  have S7 : g19.size ≤ 200 := by omega
  obtain ⟨g20, e20⟩ : ∃ g : ByteArray, g15 ++ ⟨#[0]⟩ = g := ⟨_, rfl⟩
  have ze20 : g20.size ≤ 23 := by rw [← e20, ByteArray.size_append]; have k2 : (⟨#[0]⟩ : ByteArray).size = 1 := rfl; omega
  simp only [e0, e1, e10, e11, e12, e13, e14, e15, e16, e17, e18, e19, e2, e20, e3, e4, e5, e6, e7, e8, e9] at F8
  have S8 : g20.size ≤ 1152921504606846976 := by omega
  have E0 := Pin.Aside.mk sec_examples
  have hb := Below.refl w.heap.size w
  obtain ⟨B, hB⟩ : ∃ B, w.heap.size = B := ⟨_, rfl⟩
  rw [hB] at hb
  have HBE := Pin.Aside.mk hB
  clear hB
  go_enter Try.func11, Try.ntmps11
  go_wp2_with fail
  refine (E0.out _).mono ?_
  rintro x w0 ⟨rfl, hbb⟩
  replace hb := hb.trans (hbb.mono (by have := hb.size; have := HBE.out; omega))
  clear hbb
  go_wp2_with fail
  refine (PM.out _).mono ?_
  rintro x w1 ⟨rfl, hbb⟩
  replace hb := hb.trans (hbb.mono (by have := hb.size; have := HBE.out; omega))
  clear hbb
  go_wp2_with fail
  refine (PN.out _).mono ?_
  rintro x w2 ⟨rfl, hbb⟩
  replace hb := hb.trans (hbb.mono (by have := hb.size; have := HBE.out; omega))
  clear hbb
  go_wp2_with fail
  refine (PT.out _).mono ?_
  rintro x w3 ⟨rfl, hbb⟩
  replace hb := hb.trans (hbb.mono (by have := hb.size; have := HBE.out; omega))
  clear hbb
  have HR : SecRow (w3.alloc (.cells #[.string g3, .string g9, .string g13, .string g17, .string g15, .string g18, .string g19] 9)) w3.heap.size := by
    refine ⟨by simp, fun k hk => ?_⟩
    have : k = 0 ∨ k = 1 ∨ k = 2 ∨ k = 3 ∨ k = 4 ∨ k = 5 ∨ k = 6 := by omega
    rcases this with rfl | rfl | rfl | rfl | rfl | rfl | rfl
    · exact ⟨g3, by simp, F1.out, S1⟩
    · exact ⟨g9, by simp, F2.out, S2⟩
    · exact ⟨g13, by simp, F3.out, S3⟩
    · exact ⟨g17, by simp, F4.out, S4⟩
    · exact ⟨g15, by simp, F5.out, S5⟩
    · exact ⟨g18, by simp, F6.out, S6⟩
    · exact ⟨g19, by simp, F7.out, S7⟩
  replace HR := Pin.Aside.mk HR
  have hka := (Keep.refl (fun _ => False) w3).alloc (.cells #[.string g3, .string g9, .string g13, .string g17, .string g15, .string g18, .string g19] 9)
  have hQB : B ≤ w3.heap.size := by have := hb.size; have := HBE.out; omega
  have HB := Pin.Aside.mk (hb.trans (hka.below (B := B) hQB fun _ q => q.elim))
  clear hka hb
  go_upto_region 7 with fail
  generalize w3.alloc (.cells #[.string g3, .string g9, .string g13, .string g17, .string g15, .string g18, .string g19] 9) = w4 at *
  generalize w3.heap.size = Q at *
  clear F1 F2 F3 F4 F5 F6 F7 S1 S2 S3 S4 S5 S6 S7
  go_wp2_with fail
  go_loopw [11] (fun x wr => ∃ k : Nat, k ≤ 7 ∧ x = .int .i64 k ∧ Pin.Aside (SecRow wr Q) ∧ Pin.Aside (Below B w wr)) (fun x _ => 7 - (intOf x).toNat)
  case atStart => exact ⟨0, by omega, rfl, HR, HB⟩
  case round =>
    clear HR HB
    obtain ⟨k, hk, rfl, HR, HB⟩ := hrel
    rename_i wr
    have hk0 : (0 : Int) ≤ (k : Int) := by omega
    have hQB2 : B ≤ wr.heap.size := by have := HB.out.size; have := HBE.out; omega
    by_cases hlt : k < 7
    · obtain ⟨s, hc, hbad, hsz⟩ := HR.out.row k hlt
      have hk1 : (k : Int) < 7 := by omega
      go_wp2_with fail
      refine (rd_new s _).mono ?_
      rintro x v1 ⟨rfl, hr, hz, hbb⟩
      have HB1 := Pin.Aside.mk (HB.out.trans (hbb.mono hQB2))
      have HR1 := Pin.Aside.mk (HR.out.keep (Keep.of_below hbb fun _ q _ => q) (S := fun _ => False) id)
      have hRQ : Q < wr.heap.size := HR.out.lt
      clear hz hbb HB HR hc
      generalize wr.heap.size = R at *
      go_wp2_with fail
      refine (sec_Get R _ _ hr (by show s.size ≤ _; omega)).mono ?_
      rintro x v2 ⟨rfl, hr2, hk2⟩
      have HB2 := Pin.Aside.mk (HB1.out.trans (hk2.below (B := B) (by have := HB1.out.size; have := HBE.out; omega) (by rintro k rfl; exact hQB2)))
      have HR2 := Pin.Aside.mk (HR1.out.keep hk2 (by omega))
      clear HB1 HR1 hk2 hr
      go_wp2_with fail
      have := rd_ok R _ _ hr2
      rw [show (secGet ⟨s, false⟩).2.bad = true from hbad] at this
      refine this.mono ?_
      rintro x v3 ⟨rfl, rfl⟩
      clear this
      go_wp2_with fail
      go_roundw
      case rel => exact ⟨k + 1, by omega, by go_num, HR2, HB2⟩
      case measure => simp [intOf]; omega
    · obtain rfl : k = 7 := by omega
      clear hlt hk hk0
      go_wp2_with fail
      refine (rd_new g20 _).mono ?_
      rintro x v1 ⟨rfl, hr, hz, hbb⟩
      have HB1 := Pin.Aside.mk (HB.out.trans (hbb.mono hQB2))
      clear hz hbb HB HR
      generalize wr.heap.size = R at *
      have hg := sec_Get R _ v1 hr S8
      rw [F8.out] at hg
      dsimp only [En.cells] at hg
      have HG := Pin.Aside.mk hg
      clear hg hr F8
      go_wp2_with fail
      refine HG.out.mono ?_
      rintro x v2 ⟨rfl, hr2, hk2⟩
      have HB2 := HB1.out.trans (hk2.below (B := B) (by have := HB1.out.size; have := HBE.out; omega) (by rintro k rfl; exact hQB2))
      have hka := (Keep.refl (fun _ => False) v2).alloc (.cells #[.int .u64 (a + 1), .int .u64 (b + 1), .int .i64 0, .int .u64 0, .int .u64 0, .int .u64 0, .int .u64 0, .int .i64 0, .int .i64 0, .string ⟨#[]⟩, .string ⟨#[]⟩] 32)
      have HB3 := Pin.Aside.mk (HB2.trans (hka.below (B := B) (by have := HB2.size; have := HBE.out; omega) fun _ q => q.elim))
      have hr3 := Pin.Aside.mk (RdAt.keep hr2 hka id)
      have c0 : (v2.alloc (.cells #[.int .u64 (a + 1), .int .u64 (b + 1), .int .i64 0, .int .u64 0, .int .u64 0, .int .u64 0, .int .u64 0, .int .i64 0, .int .i64 0, .string ⟨#[]⟩, .string ⟨#[]⟩] 32)).cell? ⟨v2.heap.size, 0, none⟩ = some (.int .u64 (a + 1)) := by simp
      have c1 : (v2.alloc (.cells #[.int .u64 (a + 1), .int .u64 (b + 1), .int .i64 0, .int .u64 0, .int .u64 0, .int .u64 0, .int .u64 0, .int .i64 0, .int .i64 0, .string ⟨#[]⟩, .string ⟨#[]⟩] 32)).cell? ⟨v2.heap.size, 1, none⟩ = some (.int .u64 (b + 1)) := by simp
      have c2 : (v2.alloc (.cells #[.int .u64 (a + 1), .int .u64 (b + 1), .int .i64 0, .int .u64 0, .int .u64 0, .int .u64 0, .int .u64 0, .int .i64 0, .int .i64 0, .string ⟨#[]⟩, .string ⟨#[]⟩] 32)).cell? ⟨v2.heap.size, 2, none⟩ = some (.int .i64 0) := by simp
      clear hk2 hka HB2 HB1 hr2 HG
      go_upto_region 20 with fail
      generalize v2.alloc (.cells #[.int .u64 (a + 1), .int .u64 (b + 1), .int .i64 0, .int .u64 0, .int .u64 0, .int .u64 0, .int .u64 0, .int .i64 0, .int .i64 0, .string ⟨#[]⟩, .string ⟨#[]⟩] 32) = v3 at *
      generalize v2.heap.size = E at *
      go_wp2_with fail
      refine (rd_ok R _ _ hr3.out).mono ?_
      rintro x v4 ⟨rfl, rfl⟩
      go_wp2_with fail
      go_ret
      exact ⟨rfl, by rw [HBE.out]; exact HB3.out⟩
end Go.Proofs.Ythlmigbimeldbaa
