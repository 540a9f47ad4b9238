/- history: Order's over and may. -/
import Derived.Test.YtnilfjkodlmenaaDoorHiW
set_option maxRecDepth 16000
namespace Go.Pin
open Go.RowKit
set_option linter.unusedVariables false
set_option linter.unusedSimpArgs false
/-- Ops in a slice. -/
structure OpsAt (w : World) (a : Option Addr) (L : List HOp) : Prop where
  at' : ∀ j x, L[j]? = some x → ∃ A o, a = some ⟨A, o, none⟩ ∧ HOpAt w A (o + j * 15) x
theorem OpsAt.below {a w : World} {p : Option Addr} {L : List HOp} (h : OpsAt a p L) (hk : Below a.heap.size a w) : OpsAt w p L := by
  have hq : Keep (fun _ => False) a w := Keep.of_below hk fun _ q _ => q
  exact ⟨fun j x hx => by obtain ⟨A, o, q, h1⟩ := h.at' j x hx; exact ⟨A, o, q, h1.keep hq id⟩⟩
theorem HOpAt.cells {w : World} {A o : Nat} {x : HOp} (h : HOpAt w A o x) : w.cell? ⟨A, o, none⟩ = some (.int .u64 x.e.term) ∧ w.cell? ⟨A, o + 1, none⟩ = some (.int .u64 x.e.index) ∧ w.cell? ⟨A, o + 2, none⟩ = some (.int .i64 x.e.kind) ∧ w.cell? ⟨A, o + 3, none⟩ = some (.int .u64 x.e.client) ∧ w.cell? ⟨A, o + 4, none⟩ = some (.int .u64 x.e.seq) ∧ w.cell? ⟨A, o + 5, none⟩ = some (.int .u64 x.e.block) ∧ w.cell? ⟨A, o + 6, none⟩ = some (.int .u64 x.e.many) ∧ w.cell? ⟨A, o + 7, none⟩ = some (.int .i64 x.e.node) ∧ w.cell? ⟨A, o + 8, none⟩ = some (.int .i64 x.e.level) ∧ w.cell? ⟨A, o + 9, none⟩ = some (.string x.e.data) ∧ w.cell? ⟨A, o + 10, none⟩ = some (.string x.e.old) ∧ w.cell? ⟨A, o + 11, none⟩ = some (.int .u64 x.start) ∧ w.cell? ⟨A, o + 12, none⟩ = some (.int .u64 x.stop) ∧ w.cell? ⟨A, o + 13, none⟩ = some (.int .i64 x.re) ∧ w.cell? ⟨A, o + 14, none⟩ = some (.string x.rd) :=
  ⟨h.row 0 _ rfl, h.row 1 _ rfl, h.row 2 _ rfl, h.row 3 _ rfl, h.row 4 _ rfl, h.row 5 _ rfl, h.row 6 _ rfl, h.row 7 _ rfl, h.row 8 _ rfl, h.row 9 _ rfl, h.row 10 _ rfl, h.row 11 _ rfl, h.row 12 _ rfl, h.row 13 _ rfl, h.row 14 _ rfl⟩
theorem bits_one (m : Nat) (hm : m < 1024) : bits .and .i64 (m : Int) 1 = ((m % 2 : Nat) : Int) := by
  show IntKind.i64.wrap ((BitVec.ofInt 64 (m : Int) &&& BitVec.ofInt 64 1).toNat : Int) = _
  have h1 : (BitVec.ofInt 64 (1 : Int)) = BitVec.ofNat 64 1 := rfl
  rw [h1, BitVec.ofInt_natCast, BitVec.toNat_and, BitVec.toNat_ofNat, BitVec.toNat_ofNat, Nat.mod_eq_of_lt (by omega : m < 2 ^ 64), Nat.mod_eq_of_lt (by decide : 1 < 2 ^ 64), Nat.and_one_is_mod, IntKind.wrap_i64]
  omega
theorem bit_test (done k : Nat) (hd : done < 1024) : (bits .and .i64 ((done : Int) / 2 ^ k) 1 == 0) = !done.testBit k := by
  have h1 : (done : Int) / 2 ^ k = ((done / 2 ^ k : Nat) : Int) := by simp
  have h2 : done / 2 ^ k < 1024 := Nat.lt_of_le_of_lt (Nat.div_le_self _ _) hd
  rw [h1, bits_one _ h2, Nat.testBit_eq_decide_div_mod_eq]
  rcases Nat.mod_two_eq_zero_or_one (done / 2 ^ k) with h | h <;> rw [h] <;> rfl
theorem hOver_all {L : List HOp} {done : Nat} (h : ∀ j, j < L.length → (hAt L j).stop = 0 ∨ done.testBit j = true) : hOver L done = true := by
  unfold hOver
  rw [List.all_eq_true]
  intro k hk
  rcases h k (List.mem_range.1 hk) with q | q
  · rw [Bool.or_eq_true]; exact .inl (decide_eq_true q)
  · rw [Bool.or_eq_true]; exact .inr q
theorem hOver_not {L : List HOp} {done k : Nat} (hk : k < L.length) (h1 : ¬ (hAt L k).stop = 0) (h2 : done.testBit k = false) : hOver L done = false := by
  cases h : hOver L done with
  | false => rfl
  | true =>
    unfold hOver at h
    have := List.all_eq_true.1 h k (List.mem_range.2 hk)
    rw [Bool.or_eq_true] at this
    rcases this with q | q
    · exact absurd (of_decide_eq_true q) h1
    · rw [h2] at q; cases q
end Go.Pin
namespace Go.Proofs.YtnilfjkodlmenaaDoor
open Go.RowKit Go.Pin
set_option linter.unusedVariables false
set_option linter.unusedSimpArgs false
set_option maxHeartbeats 1600000 in
theorem hi_over (L : List HOp) (hL : L.length ≤ 10) (a : Option Addr) (c Q : Nat) (done : Nat) (hd : done < 1024) (w : World) (hO : OpsAt w a L) (hQ : w.cell? ⟨Q, 0, none⟩ = some (.slice a L.length c)) :
    Calls Tryd.prog 20 #[.int .i64 (done : Int), .pointer (some ⟨Q, 0, none⟩)] w fun x w' => x = .returned (.bool (hOver L done)) ∧ Below w.heap.size w w' := by
  have HO := Pin.Aside.mk hO
  clear hO
  obtain ⟨n, hn⟩ : ∃ n, L.length = n := ⟨_, rfl⟩
  have HN := Pin.Aside.mk hn
  rw [hn] at hQ hL
  clear hn
  obtain ⟨di, hdi⟩ : ∃ d : Int, (done : Int) = d := ⟨_, rfl⟩
  rw [hdi]
  have hd0 : 0 ≤ di ∧ di < 1024 := by omega
  have HD := Pin.Aside.mk hdi
  have hd' := Pin.Aside.mk hd
  clear hdi hd
  go_enter Tryd.func20, Tryd.ntmps20
  go_wp2_with fail
  go_loopw [8] (fun x wr => ∃ (k : Nat), k ≤ n ∧ x = .int .i64 k ∧ Pin.Aside (Below w.heap.size w wr) ∧ Pin.Aside (∀ j, j < k → (hAt L j).stop = 0 ∨ done.testBit j = true)) (fun x _ => n - (intOf x).toNat)
  case atStart => exact ⟨0, by omega, rfl, Pin.Aside.mk (Below.refl _ _), Pin.Aside.mk fun j h => by omega⟩
  case round =>
    obtain ⟨k, hk, rfl, HB, HJ⟩ := hrel
    rename_i wr
    by_cases hlt : k < n
    · obtain ⟨x, hx⟩ : ∃ x, L[k]? = some x := ⟨L[k]'(by rw [HN.out]; exact hlt), List.getElem?_eq_getElem _⟩
      obtain ⟨A, o, ha, hA⟩ := HO.out.at' k x hx
      have hkk : Keep (fun _ => False) w wr := Keep.of_below HB.out fun _ q _ => q
      replace hA := hA.keep hkk id
      obtain ⟨c0, c1, c2, c3, c4, c5, c6, c7, c8, c9, c10, c11, c12, c13, c14⟩ := hA.cells
      subst ha
      have hk0 : (0 : Int) ≤ (k : Int) := by omega
      have hk1 : (k : Int) < (n : Int) := by omega
      have hka := (Keep.refl (fun _ => False) wr).alloc (.cells x.cells 33)
      have hNew := Pin.Aside.mk (HOpAt.new wr 33 x)
      unfold HOp.cells at hka hNew
      have HX := Pin.Aside.mk hx
      clear hx hA hkk
      go_upto_region 4 with fail
      generalize wr.alloc (.cells #[.int .u64 x.e.term, .int .u64 x.e.index, .int .i64 x.e.kind, .int .u64 x.e.client, .int .u64 x.e.seq, .int .u64 x.e.block, .int .u64 x.e.many, .int .i64 x.e.node, .int .i64 x.e.level, .string x.e.data, .string x.e.old, .int .u64 x.start, .int .u64 x.stop, .int .i64 x.re, .string x.rd] 33) = w1 at *
      have HB1 := Pin.Aside.mk (HB.out.trans (hka.below (B := w.heap.size) HB.out.size fun _ q => q.elim))
      clear c0 c1 c2 c3 c4 c5 c6 c7 c8 c9 c10 c11 c12 c13 c14
      obtain ⟨c0, c1, c2, c3, c4, c5, c6, c7, c8, c9, c10, c11, c12, c13, c14⟩ := hNew.out.cells
      generalize wr.heap.size = U at *
      have HAt : Pin.Aside (hAt L k = x) := Pin.Aside.mk (by unfold hAt; rw [List.getD, HX.out]; rfl)
      simp only [Nat.zero_add] at c12
      clear c0 c1 c2 c3 c4 c5 c6 c7 c8 c9 c10 c11 c13 c14 hka hNew HX HB
      by_cases hs : x.stop = 0
      · have hne : (x.stop != 0) = false := by simp [hs]
        go_wp2_with fail
        go_roundw
        case rel => exact ⟨k + 1, by omega, by go_num, HB1, Pin.Aside.mk fun j hj => by
          by_cases hjk : j < k
          · exact HJ.out j hjk
          · obtain rfl : j = k := by omega
            rw [HAt.out]; exact .inl hs⟩
        case measure => simp [intOf]; omega
      · have hne : (x.stop != 0) = true := by simp [hs]
        have hbt := bit_test done k hd'.out
        rw [HD.out] at hbt
        by_cases ht : done.testBit k = true
        · rw [ht] at hbt
          have HT := Pin.Aside.mk ht
          replace hbt : (bits .and .i64 (di / 2 ^ k) 1 == 0) = false := hbt
          clear ht
          go_wp2_with fail
          go_roundw
          case rel => exact ⟨k + 1, by omega, by go_num, HB1, Pin.Aside.mk fun j hj => by
            by_cases hjk : j < k
            · exact HJ.out j hjk
            · obtain rfl : j = k := by omega
              exact .inr HT.out⟩
          case measure => simp [intOf]; omega
        · have hf : done.testBit k = false := by simpa using ht
          rw [hf] at hbt
          replace hbt : (bits .and .i64 (di / 2 ^ k) 1 == 0) = true := hbt
          have HG := Pin.Aside.mk (hOver_not (by rw [HN.out]; exact hlt) (by rw [HAt.out]; exact hs) hf)
          clear ht hf
          go_wp2_with fail
          go_ret
          exact ⟨by rw [HG.out]; rfl, HB1.out⟩
    · obtain rfl : k = n := by omega
      have HG := Pin.Aside.mk (hOver_all (L := L) (done := done) (by rw [HN.out]; exact HJ.out))
      go_wp2_with fail
      go_ret
      exact ⟨by rw [HG.out]; rfl, HB.out⟩
end Go.Proofs.YtnilfjkodlmenaaDoor
