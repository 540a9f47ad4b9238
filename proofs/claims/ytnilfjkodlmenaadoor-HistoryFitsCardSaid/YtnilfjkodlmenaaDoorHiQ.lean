/- history: Order's may. -/
import Derived.Test.YtnilfjkodlmenaaDoorHiO
import Derived.BigQuiet
set_option maxRecDepth 16000
namespace Go.Pin
open Go.RowKit
set_option linter.unusedVariables false
set_option linter.unusedSimpArgs false
def HGo (L : List HOp) (done at' k : Nat) : Prop := k = at' ∨ (hAt L k).stop = 0 ∨ done.testBit k = true ∨ (hAt L at').start < (hAt L k).stop
theorem hMay_all {L : List HOp} {done at' : Nat} (h : ∀ j, j < L.length → HGo L done at' j) : hMay L done at' = !done.testBit at' := by
  unfold hMay
  rw [List.all_eq_true.2]
  · rfl
  · intro k hk
    rcases h k (List.mem_range.1 hk) with q | q | q | q
    · simp [q]
    · simp [q]
    · simp [q]
    · simp [q]
theorem hMay_not {L : List HOp} {done at' k : Nat} (hk : k < L.length) (h : ¬ HGo L done at' k) : hMay L done at' = false := by
  cases hm : hMay L done at' with
  | false => rfl
  | true =>
    exfalso
    apply h
    unfold hMay at hm
    rw [Bool.and_eq_true] at hm
    have := List.all_eq_true.1 hm.1 k (List.mem_range.2 hk)
    simp only [Bool.or_eq_true, decide_eq_true_eq] at this
    unfold HGo
    rcases this with ((q | q) | q) | q
    · exact .inl q
    · exact .inr (.inl q)
    · exact .inr (.inr (.inl q))
    · exact .inr (.inr (.inr q))
end Go.Pin
namespace Go.Proofs.YtnilfjkodlmenaaDoor
open Go.RowKit Go.Pin
set_option linter.unusedVariables false
set_option linter.unusedSimpArgs false
set_option maxHeartbeats 3200000 in
theorem hi_may (L : List HOp) (hL : L.length ≤ 10) (a : Option Addr) (c Q : Nat) (done : Nat) (hd : done < 1024) (at' : Nat) (hat : at' < L.length) (w : World) (hO : OpsAt w a L) (hQ : w.cell? ⟨Q, 0, none⟩ = some (.slice a L.length c)) :
    Calls Tryd.prog 21 #[.int .i64 (done : Int), .int .i64 (at' : Int), .pointer (some ⟨Q, 0, none⟩)] w fun x w' => x = .returned (.bool (hMay L done at')) ∧ Below w.heap.size w w' := by
  have HO := Pin.Aside.mk hO
  clear hO
  obtain ⟨n, hn⟩ : ∃ n, L.length = n := ⟨_, rfl⟩
  have HN := Pin.Aside.mk hn
  rw [hn] at hQ hL hat
  clear hn
  obtain ⟨di, hdi⟩ : ∃ d : Int, (done : Int) = d := ⟨_, rfl⟩
  rw [hdi]
  have hd0 : 0 ≤ di ∧ di < 1024 := by omega
  have HD := Pin.Aside.mk hdi
  have hd' := Pin.Aside.mk hd
  clear hdi hd
  obtain ⟨y, hy⟩ : ∃ y, L[at']? = some y := ⟨L[at']'(by rw [HN.out]; exact hat), List.getElem?_eq_getElem _⟩
  obtain ⟨A, o, ha, hAy⟩ := HO.out.at' at' y hy
  have HY : Pin.Aside (hAt L at' = y) := Pin.Aside.mk (by unfold hAt; rw [List.getD, hy]; rfl)
  have HAy := Pin.Aside.mk hAy
  subst ha
  clear hy hAy
  have hat0 : (0 : Int) ≤ (at' : Int) := by omega
  have hat1 : (at' : Int) < (n : Int) := by omega
  go_enter Tryd.func21, Tryd.ntmps21
  go_wp2_with fail
  go_loopw [10] (fun x wr => ∃ (k : Nat), k ≤ n ∧ x = .int .i64 k ∧ Pin.Aside (Below w.heap.size w wr) ∧ Pin.Aside (∀ j, j < k → HGo L done at' j)) (fun x _ => n - (intOf x).toNat)
  case atStart => exact ⟨0, by omega, rfl, Pin.Aside.mk (Below.refl _ _), Pin.Aside.mk fun j h => by omega⟩
  case round =>
    obtain ⟨k, hk, rfl, HB, HJ⟩ := hrel
    rename_i wr
    have hkk : Keep (fun _ => False) w wr := Keep.of_below HB.out fun _ q _ => q
    have hQ1 := hkk.cell hQ id
    by_cases hlt : k < n
    · obtain ⟨x, hx⟩ : ∃ x, L[k]? = some x := ⟨L[k]'(by rw [HN.out]; exact hlt), List.getElem?_eq_getElem _⟩
      obtain ⟨A', o', ha, hA⟩ := HO.out.at' k x hx
      have haa : A' = A ∧ o' = o := by
        injection ha with ha
        injection ha with h1 h2
        exact ⟨h1.symm, h2.symm⟩
      obtain ⟨rfl, rfl⟩ := haa
      replace hA := hA.keep hkk id
      have hAy := HAy.out.keep hkk id
      obtain ⟨c0, c1, c2, c3, c4, c5, c6, c7, c8, c9, c10, c11, c12, c13, c14⟩ := hA.cells
      have hk0 : (0 : Int) ≤ (k : Int) := by omega
      have hk1 : (k : Int) < (n : Int) := by omega
      have hka := (Keep.refl (fun _ => False) wr).alloc (.cells x.cells 33)
      have hNew := Pin.Aside.mk (HOpAt.new wr 33 x)
      have hQ2 := hka.cell hQ1 id
      have hAy2 := hAy.keep hka id
      unfold HOp.cells at hka hNew hQ2 hAy2
      have HX := Pin.Aside.mk hx
      clear hx hA hkk ha hAy
      go_upto_region 4 with fail
      generalize wr.alloc (.cells #[.int .u64 x.e.term, .int .u64 x.e.index, .int .i64 x.e.kind, .int .u64 x.e.client, .int .u64 x.e.seq, .int .u64 x.e.block, .int .u64 x.e.many, .int .i64 x.e.node, .int .i64 x.e.level, .string x.e.data, .string x.e.old, .int .u64 x.start, .int .u64 x.stop, .int .i64 x.re, .string x.rd] 33) = w1 at *
      have HB1 := Pin.Aside.mk (HB.out.trans (hka.below (B := w.heap.size) HB.out.size fun _ q => q.elim))
      clear c0 c1 c2 c3 c4 c5 c6 c7 c8 c9 c10 c11 c12 c13 c14 hQ1
      obtain ⟨c0, c1, c2, c3, c4, c5, c6, c7, c8, c9, c10, c11, c12, c13, c14⟩ := hNew.out.cells
      obtain ⟨d0, d1, d2, d3, d4, d5, d6, d7, d8, d9, d10, d11, d12, d13, d14⟩ := hAy2.cells
      generalize wr.heap.size = U at *
      have HAt : Pin.Aside (hAt L k = x) := Pin.Aside.mk (by unfold hAt; rw [List.getD, HX.out]; rfl)
      simp only [Nat.zero_add] at c12
      clear c0 c1 c2 c3 c4 c5 c6 c7 c8 c9 c10 c11 c13 c14 hka hNew HX HB d0 d1 d2 d3 d4 d5 d6 d7 d8 d9 d10 d12 d13 d14 hAy2
      by_cases hka : k = at'
      · have hne0 : ((k : Int) != (at' : Int)) = false := by simp [hka]
        have HK := Pin.Aside.mk hka
        clear hka
        go_upto_region 4 with fail
        go_quiet (fail)
        go_wp2_with fail
        go_roundw
        case rel => exact ⟨k + 1, by omega, by go_num, Pin.Aside.mk (by first | exact HB1.out | exact below_drewN HB1.out _), Pin.Aside.mk fun j hj => by
          by_cases hjk : j < k
          · exact HJ.out j hjk
          · obtain rfl : j = k := by omega
            exact .inl HK.out⟩
        case measure => simp [intOf]; omega
      · have hne0 : ((k : Int) != (at' : Int)) = true := by simp; omega
        have HK := Pin.Aside.mk hka
        clear hka
        by_cases hs : x.stop = 0
        · have hne : (x.stop != 0) = false := by simp [hs]
          have HS := Pin.Aside.mk hs
          clear hs
          go_upto_region 4 with fail
          go_quiet (fail)
          go_wp2_with fail
          go_roundw
          case rel => exact ⟨k + 1, by omega, by go_num, Pin.Aside.mk (by first | exact HB1.out | exact below_drewN HB1.out _), Pin.Aside.mk fun j hj => by
            by_cases hjk : j < k
            · exact HJ.out j hjk
            · obtain rfl : j = k := by omega
              exact .inr (.inl (by rw [HAt.out]; exact HS.out))⟩
          case measure => simp [intOf]; omega
        · have hne : (x.stop != 0) = true := by simp [hs]
          have HS := Pin.Aside.mk hs
          have hbt := bit_test done k hd'.out
          rw [HD.out] at hbt
          clear hs
          by_cases ht : done.testBit k = true
          · rw [ht] at hbt
            have HT := Pin.Aside.mk ht
            replace hbt : (bits .and .i64 (di / 2 ^ k) 1 == 0) = false := hbt
            clear ht
            go_upto_region 4 with fail
            go_quiet (fail)
            go_wp2_with fail
            go_roundw
            case rel => exact ⟨k + 1, by omega, by go_num, Pin.Aside.mk (by first | exact HB1.out | exact below_drewN HB1.out _), Pin.Aside.mk fun j hj => by
              by_cases hjk : j < k
              · exact HJ.out j hjk
              · obtain rfl : j = k := by omega
                exact .inr (.inr (.inl HT.out))⟩
            case measure => simp [intOf]; omega
          · have hf : done.testBit k = false := by simpa using ht
            rw [hf] at hbt
            replace hbt : (bits .and .i64 (di / 2 ^ k) 1 == 0) = true := hbt
            have HF := Pin.Aside.mk hf
            clear ht hf
            by_cases hl : x.stop ≤ y.start
            · have hl2 : decide (x.stop ≤ y.start) = true := decide_eq_true hl
              have HG := Pin.Aside.mk (hMay_not (L := L) (done := done) (at' := at') (k := k) (by rw [HN.out]; exact hlt) (by
                rintro (q | q | q | q)
                · exact HK.out q
                · rw [HAt.out] at q; exact HS.out q
                · rw [HF.out] at q; cases q
                · rw [HAt.out, HY.out] at q; omega))
              go_upto_region 4 with fail
              go_quiet (fail)
              go_wp2_with fail
              go_ret
              exact ⟨by rw [HG.out]; rfl, by first | exact HB1.out | exact below_drewN HB1.out _⟩
            · have hl2 : decide (x.stop ≤ y.start) = false := decide_eq_false hl
              have HL2 := Pin.Aside.mk hl
              clear hl
              go_upto_region 4 with fail
              go_quiet (fail)
              go_wp2_with fail
              go_roundw
              case rel => exact ⟨k + 1, by omega, by go_num, Pin.Aside.mk (by first | exact HB1.out | exact below_drewN HB1.out _), Pin.Aside.mk fun j hj => by
                by_cases hjk : j < k
                · exact HJ.out j hjk
                · obtain rfl : j = k := by omega
                  exact .inr (.inr (.inr (by rw [HAt.out, HY.out]; have := HL2.out; omega)))⟩
              case measure => simp [intOf]; omega
    · obtain rfl : k = n := by omega
      have HG := Pin.Aside.mk (hMay_all (L := L) (done := done) (at' := at') (by rw [HN.out]; exact HJ.out))
      have hbt := bit_test done at' hd'.out
      rw [HD.out] at hbt
      obtain ⟨tb, htb⟩ : ∃ b, (!done.testBit at') = b := ⟨_, rfl⟩
      rw [htb] at HG hbt
      clear htb
      go_wp2_with fail
      go_ret
      exact ⟨by rw [HG.out]; rfl, HB.out⟩
end Go.Proofs.YtnilfjkodlmenaaDoor
