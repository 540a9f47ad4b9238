/- entry.fit: slices.ContainsFunc over fields. -/
import Derived.Test.YthlmigbimeldbaaEnT
set_option maxRecDepth 16000
namespace Go.Pin
open Go.RowKit
set_option linter.unusedVariables false
set_option linter.unusedSimpArgs false
/-- Fields: a letter, whether it is there, whether it is right. -/
structure FieldsAt (w : World) (A : Nat) (L : List (UInt8 × Bool × Bool)) : Prop where
  at' : ∀ j (x : UInt8 × Bool × Bool), L[j]? = some x → w.cell? ⟨A, j * 3, none⟩ = some (.string ⟨#[x.1]⟩) ∧ w.cell? ⟨A, j * 3 + 1, none⟩ = some (.bool x.2.1) ∧ w.cell? ⟨A, j * 3 + 2, none⟩ = some (.bool x.2.2)
theorem FieldsAt.keep {S : Nat → Prop} {a w : World} {A : Nat} {L : List (UInt8 × Bool × Bool)} (h : FieldsAt a A L) (hk : Keep S a w) (hn : ¬ S A) : FieldsAt w A L :=
  ⟨fun j x hx => ⟨hk.cell (h.at' j x hx).1 hn, hk.cell (h.at' j x hx).2.1 hn, hk.cell (h.at' j x hx).2.2 hn⟩⟩
def enBad (s : ByteArray) (x : UInt8 × Bool × Bool) : Bool := if enHas s x.1 = true then !x.2.2 else x.2.1
end Go.Pin
namespace Go.Proofs.Ythlmigbimeldbaa
open Go.RowKit Go.Pin
set_option linter.unusedVariables false
set_option linter.unusedSimpArgs false
set_option maxHeartbeats 1600000 in
theorem en_findF (s : ByteArray) (A M n : Nat) (L : List (UInt8 × Bool × Bool)) (hn : L.length = n) (hn2 : n ≤ 1000) (w : World) (hF : FieldsAt w A L) (hM : w.cell? ⟨M, 0, none⟩ = some (.string s)) :
    Calls Try.prog 116 #[.slice (some ⟨A, 0, none⟩) n n, .func (.func 99) #[] #[.pointer (some ⟨M, 0, none⟩)]] w fun e w' => (∃ r : Int, e = .returned (.int .i64 r) ∧ (0 ≤ r ↔ L.any (enBad s) = true)) ∧ Below w.heap.size w w' := by
  have hb := Below.refl w.heap.size w
  have HF := Pin.Aside.mk hF
  have HM := Pin.Aside.mk hM
  clear hF hM
  go_enter Try.func116, Try.ntmps116
  go_wp2_with fail
  go_loopw [8] (fun x wr => ∃ k : Nat, k ≤ n ∧ x = .int .i64 k ∧ Below w.heap.size w wr ∧ Pin.Aside (∀ j x, j < k → L[j]? = some x → enBad s x = false)) (fun x _ => n - (intOf x).toNat)
  case atStart => exact ⟨0, by omega, rfl, hb, Pin.Aside.mk fun j x hj => by omega⟩
  case round =>
    clear hb
    obtain ⟨k, hk, rfl, hb, HA⟩ := hrel
    have hkw : Keep (fun _ => False) w wr := Keep.of_below hb fun _ hk _ => hk
    have HFw := Pin.Aside.mk (HF.out.keep hkw id)
    have hMw := hkw.cell HM.out id
    clear hkw
    by_cases hlt : k < n
    · obtain ⟨x, hx⟩ : ∃ x, L[k]? = some x := ⟨L[k], List.getElem?_eq_getElem (by omega)⟩
      obtain ⟨c0, c1, c2⟩ := HFw.out.at' k x hx
      obtain ⟨ch, th, ri⟩ := x
      dsimp only at c0 c1 c2
      have hcon := fun W hW => en_fit1 s ch th ri M W hW
      rw [enHas_index] at hcon
      have hB : (if enHas s ch = true then !ri else th) = enBad s (ch, th, ri) := rfl
      rw [hB] at hcon
      have Hc := Pin.Aside.mk hcon
      have Hx := Pin.Aside.mk hx
      have hk0 : (0 : Int) ≤ (k : Int) := by omega
      have hk1 : (k : Int) < (n : Int) := by omega
      have hM2 := Pin.Aside.mk hMw
      clear hcon hx hB hMw
      obtain ⟨B, hB⟩ : ∃ B, enBad s (ch, th, ri) = B := ⟨_, rfl⟩
      rw [hB] at Hc
      have HB := Pin.Aside.mk hB
      clear hB
      cases B with
      | true =>
        go_wp2_with fail
        refine (Hc.out _ hM2.out).mono ?_
        rintro e w1 ⟨rfl, hbb⟩
        replace hb := hb.trans (hbb.mono hb.size)
        clear hbb c0 c1 c2
        go_wp2_with fail
        go_ret
        refine ⟨⟨(k : Int), rfl, fun _ => List.any_eq_true.2 ⟨_, List.mem_of_getElem? Hx.out, HB.out⟩, fun _ => by omega⟩, hb⟩
      | false =>
        go_wp2_with fail
        refine (Hc.out _ hM2.out).mono ?_
        rintro e w1 ⟨rfl, hbb⟩
        replace hb := hb.trans (hbb.mono hb.size)
        clear hbb c0 c1 c2
        go_wp2_with fail
        go_roundw
        case rel =>
          refine ⟨k + 1, by omega, by simp, hb, Pin.Aside.mk fun j x hj hx => ?_⟩
          by_cases q : j = k
          · subst q
            have := Hx.out.symm.trans hx
            cases this
            exact HB.out
          · exact HA.out j x (by omega) hx
        case measure => simp [intOf]; omega
    · have hk2 : k = n := by omega
      go_wp2_with fail
      go_ret
      refine ⟨⟨-1, rfl, fun q => by omega, fun q => ?_⟩, hb⟩
      obtain ⟨x, hx1, hx2⟩ := List.any_eq_true.1 q
      obtain ⟨j, hj⟩ := List.getElem?_of_mem hx1
      have hjl := (List.getElem?_eq_some_iff.1 hj).1
      rw [HA.out j x (by omega) hj] at hx2
      cases hx2
theorem en_anyF (s : ByteArray) (A M n : Nat) (L : List (UInt8 × Bool × Bool)) (hn : L.length = n) (hn2 : n ≤ 1000) (w : World) (hF : FieldsAt w A L) (hM : w.cell? ⟨M, 0, none⟩ = some (.string s)) :
    Calls Try.prog 98 #[.slice (some ⟨A, 0, none⟩) n n, .func (.func 99) #[] #[.pointer (some ⟨M, 0, none⟩)]] w fun e w' => e = .returned (.bool (L.any (enBad s))) ∧ Below w.heap.size w w' := by
  have Hc := Pin.Aside.mk (en_findF s A M n L hn hn2 w hF hM)
  clear hF hM
  go_enter Try.func98, Try.ntmps98
  go_wp2_with fail
  refine Hc.out.mono ?_
  rintro e w1 ⟨⟨r, rfl, hr⟩, hb⟩
  have HE := Pin.Aside.mk (show L.any (enBad s) = decide (0 ≤ r) by by_cases q : 0 ≤ r; rw [hr.1 q]; simpa using q; cases h : L.any (enBad s); simpa using q; exact absurd (hr.2 h) q)
  clear hr Hc
  go_wp2_with fail
  go_ret
  exact ⟨by rw [HE.out]; rfl, hb⟩
end Go.Proofs.Ythlmigbimeldbaa
