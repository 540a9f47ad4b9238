/- The examples of chapter 11. -/
import Derived.Test.YtlbnbmojgdoieaaAreaH
import Derived.Test.YtlbnbmojgdoieaaAreaR
set_option maxRecDepth 16000
namespace Go.Pin
open Go.RowKit
set_option linter.unusedVariables false
def snap0 : Snap := ⟨300, 2, ⟨#[97, 98]⟩⟩
theorem _root_.Go.RowKit.Below.old {a b : World} (h : Below a.heap.size a b) {p : Addr} {v : Value} (hc : a.cell? p = some v) : b.cell? p = some v := (Keep.of_below (S := fun _ => False) h fun _ hk _ => hk).cell hc id
theorem snap0_ok : snap0.ok := ⟨by decide, by decide, by decide, by decide, by decide⟩
theorem ex_put1 : (aput 1 snap0).1.size = 27 ∧ (aput 1 snap0).2 = true := by decide +kernel
theorem ex_put2 : (aput 2 snap0).1.size = 11 ∧ (aput 2 snap0).2 = true := by decide +kernel
theorem ex_get : (aget ((aput 2 snap0).1 ++ ⟨#[109, 111, 114, 101]⟩)).1.i = 300 ∧ (aget ((aput 2 snap0).1 ++ ⟨#[109, 111, 114, 101]⟩)).1.t = 2 ∧ (aget ((aput 2 snap0).1 ++ ⟨#[109, 111, 114, 101]⟩)).1.d.data = #[97, 98] ∧ (aget ((aput 2 snap0).1 ++ ⟨#[109, 111, 114, 101]⟩)).2 = (2, true) := by decide +kernel
theorem ex_get_eq : aget ((aput 2 snap0).1 ++ ⟨#[109, 111, 114, 101]⟩) = (snap0, 2, true) := by
  obtain ⟨h1, h2, h3, h4⟩ := ex_get
  generalize aget ((aput 2 snap0).1 ++ ⟨#[109, 111, 114, 101]⟩) = g at *
  obtain ⟨⟨i, t, d⟩, r⟩ := g
  dsimp only at h1 h2 h3 h4
  subst h1 h2 h4
  have : d = ⟨#[97, 98]⟩ := ByteArray.ext h3
  rw [this]; rfl
theorem ex_none : aget ⟨#[]⟩ = (snone, 0, false) := by rfl
theorem ex_room : aroom 2 1 snap0 = true := by decide +kernel
end Go.Pin
namespace Go.Proofs.Ytlbnbmojgdoieaa
open Go.RowKit Go.Pin
set_option linter.unusedVariables false
set_option linter.unusedSimpArgs false

set_option maxHeartbeats 3200000 in
theorem area_examples (w : World) : Calls Try.prog 34 #[] w fun e w' => e = .returned (.bool true) ∧ Below w.heap.size w w' := by
  have hb := Below.refl w.heap.size w
  go_enter Try.func34, Try.ntmps34
  go_wp2_with fail
  have a0 : (w.alloc (Obj.cells #[Value.int .u64 300, Value.int .u64 2, Value.string ⟨#[97, 98]⟩] 61)).cell? ⟨w.heap.size, 0, none⟩ = some (.int .u64 300) := World.cell?_alloc_new w _ _ 0
  have a1 : (w.alloc (Obj.cells #[Value.int .u64 300, Value.int .u64 2, Value.string ⟨#[97, 98]⟩] 61)).cell? ⟨w.heap.size, 1, none⟩ = some (.int .u64 2) := World.cell?_alloc_new w _ _ 1
  have a2 : (w.alloc (Obj.cells #[Value.int .u64 300, Value.int .u64 2, Value.string ⟨#[97, 98]⟩] 61)).cell? ⟨w.heap.size, 2, none⟩ = some (.string ⟨#[97, 98]⟩) := World.cell?_alloc_new w _ _ 2
  replace hb := hb.alloc (Nat.le_refl _) (Obj.cells #[Value.int .u64 300, Value.int .u64 2, Value.string ⟨#[97, 98]⟩] 61)
  generalize w.alloc (Obj.cells #[Value.int .u64 300, Value.int .u64 2, Value.string ⟨#[97, 98]⟩] 61) = wa at *
  generalize hW0 : w.heap.size = A at *
  have HW := Aside.mk hW0
  clear hW0
  refine (area_put 1 (by omega) snap0 snap0_ok _).mono ?_
  rintro e w1 ⟨rfl, hb1⟩
  have hla : A ≤ wa.heap.size := (by have := hb.size; rw [HW.out] at this; exact this)
  replace a0 := (Keep.of_below (S := fun _ => False) hb1 fun _ hk _ => hk).cell a0 id
  replace a1 := (Keep.of_below (S := fun _ => False) hb1 fun _ hk _ => hk).cell a1 id
  replace a2 := (Keep.of_below (S := fun _ => False) hb1 fun _ hk _ => hk).cell a2 id
  replace hb := hb.trans (hb1.mono hla)
  have hl1 : A ≤ w1.heap.size := Nat.le_trans hla hb1.size
  clear hb1 hla
  obtain ⟨p1s, p1o⟩ := ex_put1
  generalize aput 1 snap0 = P1 at *
  obtain ⟨P1, o1⟩ := P1
  replace p1s : P1.size = 27 := p1s
  replace p1o : o1 = true := p1o
  subst p1o
  go_wp2_with fail
  refine (area_put 2 (by omega) snap0 snap0_ok _).mono ?_
  rintro e w2 ⟨rfl, hb1⟩
  replace a0 := (Keep.of_below (S := fun _ => False) hb1 fun _ hk _ => hk).cell a0 id
  replace a1 := (Keep.of_below (S := fun _ => False) hb1 fun _ hk _ => hk).cell a1 id
  replace a2 := (Keep.of_below (S := fun _ => False) hb1 fun _ hk _ => hk).cell a2 id
  replace hb := hb.trans (hb1.mono hl1)
  have hl2 : A ≤ w2.heap.size := Nat.le_trans hl1 hb1.size
  clear hb1 hl1
  obtain ⟨p2s, p2o⟩ := ex_put2
  have hget := ex_get_eq
  generalize aput 2 snap0 = P2 at *
  obtain ⟨P2, o2⟩ := P2
  replace p2s : P2.size = 11 := p2s
  replace p2o : o2 = true := p2o
  subst p2o
  replace hget : aget (P2 ++ ⟨#[109, 111, 114, 101]⟩) = (snap0, 2, true) := hget
  have Hget := Aside.mk hget
  clear hget
  go_wp2_with fail
  have hg := area_get (P2 ++ ⟨#[109, 111, 114, 101]⟩) w2 (by rw [ByteArray.size_append, p2s]; decide)
  rw [Hget.out] at hg
  replace hg : Calls Try.prog 39 #[.string (P2 ++ ⟨#[109, 111, 114, 101]⟩)] w2 fun e w' => e = .returned (.tuple #[.agg #[.int .u64 300, .int .u64 2, .string ⟨#[97, 98]⟩], .int .i64 2, .bool true]) ∧ Below w2.heap.size w2 w' := hg
  refine hg.mono ?_
  clear hg
  rintro e w3 ⟨rfl, hb1⟩
  replace a0 := (Keep.of_below (S := fun _ => False) hb1 fun _ hk _ => hk).cell a0 id
  replace a1 := (Keep.of_below (S := fun _ => False) hb1 fun _ hk _ => hk).cell a1 id
  replace a2 := (Keep.of_below (S := fun _ => False) hb1 fun _ hk _ => hk).cell a2 id
  replace hb := hb.trans (hb1.mono hl2)
  have hl3 : A ≤ w3.heap.size := Nat.le_trans hl2 hb1.size
  clear hb1 hl2
  go_wp2_with fail
  have hg := area_get ⟨#[]⟩ (w3.alloc (Obj.cells #[Value.int .u64 300, Value.int .u64 2, Value.string ⟨#[97, 98]⟩] 61)) (by decide)
  rw [ex_none] at hg
  replace hg : Calls Try.prog 39 #[.string ⟨#[]⟩] (w3.alloc (Obj.cells #[Value.int .u64 300, Value.int .u64 2, Value.string ⟨#[97, 98]⟩] 61)) fun e w' => e = .returned (.tuple #[.agg #[.int .u64 0, .int .u64 0, .string ⟨#[]⟩], .int .i64 0, .bool false]) ∧ Below (w3.alloc (Obj.cells #[Value.int .u64 300, Value.int .u64 2, Value.string ⟨#[97, 98]⟩] 61)).heap.size (w3.alloc (Obj.cells #[Value.int .u64 300, Value.int .u64 2, Value.string ⟨#[97, 98]⟩] 61)) w' := hg
  have b0 : (w3.alloc (Obj.cells #[Value.int .u64 300, Value.int .u64 2, Value.string ⟨#[97, 98]⟩] 61)).cell? ⟨w3.heap.size, 0, none⟩ = some (.int .u64 300) := World.cell?_alloc_new w3 _ _ 0
  have b1 : (w3.alloc (Obj.cells #[Value.int .u64 300, Value.int .u64 2, Value.string ⟨#[97, 98]⟩] 61)).cell? ⟨w3.heap.size, 1, none⟩ = some (.int .u64 2) := World.cell?_alloc_new w3 _ _ 1
  have b2 : (w3.alloc (Obj.cells #[Value.int .u64 300, Value.int .u64 2, Value.string ⟨#[97, 98]⟩] 61)).cell? ⟨w3.heap.size, 2, none⟩ = some (.string ⟨#[97, 98]⟩) := World.cell?_alloc_new w3 _ _ 2
  have hka : Keep (fun _ => False) w3 (w3.alloc (Obj.cells #[Value.int .u64 300, Value.int .u64 2, Value.string ⟨#[97, 98]⟩] 61)) := (Keep.refl _ _).alloc _
  replace a0 := hka.cell a0 id
  replace a1 := hka.cell a1 id
  replace a2 := hka.cell a2 id
  replace hb := hb.alloc hl3 (Obj.cells #[Value.int .u64 300, Value.int .u64 2, Value.string ⟨#[97, 98]⟩] 61)
  have hl4 : A ≤ (w3.alloc (Obj.cells #[Value.int .u64 300, Value.int .u64 2, Value.string ⟨#[97, 98]⟩] 61)).heap.size := Nat.le_trans hl3 hka.size
  clear hka hl3
  refine hg.mono ?_
  clear hg
  generalize w3.alloc (Obj.cells #[Value.int .u64 300, Value.int .u64 2, Value.string ⟨#[97, 98]⟩] 61) = w4 at *
  generalize w3.heap.size = B at *
  rintro e w5 ⟨rfl, hb1⟩
  replace a0 := hb1.old a0
  replace a1 := hb1.old a1
  replace a2 := hb1.old a2
  replace b0 := hb1.old b0
  replace b1 := hb1.old b1
  replace b2 := hb1.old b2
  replace hb := hb.trans (hb1.mono hl4)
  have hl5 : A ≤ w5.heap.size := Nat.le_trans hl4 hb1.size
  clear hb1 hl4
  have hk5 : Keep (fun _ => False) w5 (w5.alloc (Obj.cells #[Value.int .u64 0, Value.int .u64 0, Value.string ⟨#[]⟩] 61)) := (Keep.refl _ _).alloc _
  have a0' := hk5.cell a0 id
  have a1' := hk5.cell a1 id
  have a2' := hk5.cell a2 id
  have b0' := hk5.cell b0 id
  have b1' := hk5.cell b1 id
  have b2' := hk5.cell b2 id
  have hr := (area_room 2 1 (by omega) (by omega) snap0 snap0_ok (w5.alloc (Obj.cells #[Value.int .u64 0, Value.int .u64 0, Value.string ⟨#[]⟩] 61)))
  rw [ex_room] at hr
  replace hr : Calls Try.prog 41 #[.int .i64 2, .int .i64 1, .agg #[.int .u64 300, .int .u64 2, .string ⟨#[97, 98]⟩]] (w5.alloc (Obj.cells #[Value.int .u64 0, Value.int .u64 0, Value.string ⟨#[]⟩] 61)) fun e w' => e = .returned (.bool true) ∧ Below (w5.alloc (Obj.cells #[Value.int .u64 0, Value.int .u64 0, Value.string ⟨#[]⟩] 61)).heap.size (w5.alloc (Obj.cells #[Value.int .u64 0, Value.int .u64 0, Value.string ⟨#[]⟩] 61)) w' := hr
  go_wp2_with ((go_at_call 41; refine hr.mono ?_; rintro e w6 ⟨rfl, hb1⟩))
  go_ret
  exact ⟨rfl, by rw [HW.out]; exact (hb.alloc hl5 _).trans (hb1.mono (Nat.le_trans hl5 hk5.size))⟩
end Go.Proofs.Ytlbnbmojgdoieaa
