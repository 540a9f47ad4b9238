/- pintlelaw16: examples. -/
import Derived.Test.YthlmigbimeldbaaLgT
set_option maxRecDepth 16000
namespace Go.Pin
open Go.RowKit
set_option linter.unusedVariables false
set_option linter.unusedSimpArgs false
def exE (t i : Int) : En := ⟨t, i, 0, 0, 0, 0, 0, 0, 0, ⟨#[]⟩, ⟨#[]⟩⟩
theorem exE_ok (t i : Int) (ht : 0 ≤ t ∧ t ≤ 100) (hi : 0 ≤ i ∧ i ≤ 100) : (exE t i).ok := by
  constructor <;> simp [exE] <;> first | omega | decide
def exL : Lg := ⟨2, 1, [exE 3 3]⟩
theorem exL_ok : exL.ok := ⟨by simp [exL], by simp [exL], fun e he => by simp [exL] at he; subst he; exact exE_ok 3 3 (by omega) (by omega)⟩
theorem ex_take1 : exL.take 3 3 [exE 4 4] = (⟨2, 1, [exE 3 3, exE 4 4]⟩, 4, true) := by rfl
theorem ex_take2 : exL.take 3 4 [] = (exL, 0, false) := by rfl
theorem ex_right : exL.right = true := by rfl
theorem ex_newer1 : exL.newer 3 3 = true := by rfl
theorem ex_newer2 : exL.newer 9 2 = false := by rfl
theorem ex_hint : exL.hint 9 = 3 := by rfl
theorem EntsAt.one {w : World} {A : Nat} {e : En} (h : EnAt w A 0 e) : EntsAt w (some ⟨A, 0, none⟩) 1 [e] :=
  ⟨rfl, fun j x hx => by
    have hj : j < 1 := (List.getElem?_eq_some_iff.1 hx).1
    have : j = 0 := by omega
    subst this
    cases hx
    exact ⟨A, 0, rfl, h⟩⟩
end Go.Pin
namespace Go.Proofs.Ythlmigbimeldbaa
open Go.RowKit Go.Pin
set_option linter.unusedVariables false
set_option linter.unusedSimpArgs false
set_option maxHeartbeats 3200000 in
theorem mk_examples (w : World) : Calls Try.prog 15 #[] w fun x w' => x = .returned (.bool true) ∧ Below w.heap.size w w' := by
  have hb := Below.refl w.heap.size w
  have Hl := Pin.Aside.mk (lg_last ⟨0, 0, []⟩ none 0 0 (by omega) w (EntsAt.nil _ _))
  have hB0 : w.heap.size = w.heap.size := rfl
  generalize hB : w.heap.size = B at hb hB0 Hl ⊢
  clear hB0
  go_enter Try.func15, Try.ntmps15
  go_wp2_with fail
  refine Hl.out.mono ?_
  rintro x w1 ⟨rfl, hbb⟩
  replace hb := hb.trans hbb
  clear hbb Hl
  have hka := (Keep.refl (fun _ => False) w1).alloc (.cells #[.int .u64 3, .int .u64 3, .int .i64 0, .int .u64 0, .int .u64 0, .int .u64 0, .int .u64 0, .int .i64 0, .int .i64 0, .string ⟨#[]⟩, .string ⟨#[]⟩] 32)
  have hE : EnAt (w1.alloc (.cells #[.int .u64 3, .int .u64 3, .int .i64 0, .int .u64 0, .int .u64 0, .int .u64 0, .int .u64 0, .int .i64 0, .int .i64 0, .string ⟨#[]⟩, .string ⟨#[]⟩] 32)) w1.heap.size 0 (exE 3 3) := EnAt.new w1 32 (exE 3 3)
  have hb2 := hb.trans (hka.below (by first | exact hb.size | (rw [← hB]; exact hb.size)) fun _ q => q.elim)
  have HL := Pin.Aside.mk (EntsAt.one hE)
  have hkl := (Keep.refl (fun _ => False) (w1.alloc (.cells #[.int .u64 3, .int .u64 3, .int .i64 0, .int .u64 0, .int .u64 0, .int .u64 0, .int .u64 0, .int .i64 0, .int .i64 0, .string ⟨#[]⟩, .string ⟨#[]⟩] 32))).alloc (.cells #[.int .u64 2, .int .u64 1, .slice (some ⟨w1.heap.size, 0, none⟩) 1 1] 27)
  have hLC : LgCells ((w1.alloc (.cells #[.int .u64 3, .int .u64 3, .int .i64 0, .int .u64 0, .int .u64 0, .int .u64 0, .int .u64 0, .int .i64 0, .int .i64 0, .string ⟨#[]⟩, .string ⟨#[]⟩] 32)).alloc (.cells #[.int .u64 2, .int .u64 1, .slice (some ⟨w1.heap.size, 0, none⟩) 1 1] 27)) (w1.heap.size + 1) exL (some ⟨w1.heap.size, 0, none⟩) 1 1 := by
    have := LgCells.new (w1.alloc (.cells #[.int .u64 3, .int .u64 3, .int .i64 0, .int .u64 0, .int .u64 0, .int .u64 0, .int .u64 0, .int .i64 0, .int .i64 0, .string ⟨#[]⟩, .string ⟨#[]⟩] 32)) 27 exL (some ⟨w1.heap.size, 0, none⟩) 1 1
    rw [show (w1.alloc (.cells #[.int .u64 3, .int .u64 3, .int .i64 0, .int .u64 0, .int .u64 0, .int .u64 0, .int .u64 0, .int .i64 0, .int .i64 0, .string ⟨#[]⟩, .string ⟨#[]⟩] 32)).heap.size = w1.heap.size + 1 by simp] at this
    exact this
  have hb3 := hb2.trans (hkl.below (by first | exact hb2.size | (rw [← hB]; exact hb2.size)) fun _ q => q.elim)
  have HL3 := Pin.Aside.mk (HL.out.keep' hkl)
  clear hka hb hE hb2 hkl HL
  go_upto_region 3 with fail
  generalize World.alloc (World.alloc w1 _) _ = w3 at *
  generalize w1.heap.size = E1 at *
  obtain ⟨cb, ct, cs⟩ := hLC
  dsimp only [exL] at cb ct cs
  have hkd := (Keep.refl (fun _ => False) w3).alloc (.cells #[.int .u64 4, .int .u64 4, .int .i64 0, .int .u64 0, .int .u64 0, .int .u64 0, .int .u64 0, .int .i64 0, .int .i64 0, .string ⟨#[]⟩, .string ⟨#[]⟩] 32)
  have hD : EnAt (w3.alloc (.cells #[.int .u64 4, .int .u64 4, .int .i64 0, .int .u64 0, .int .u64 0, .int .u64 0, .int .u64 0, .int .i64 0, .int .i64 0, .string ⟨#[]⟩, .string ⟨#[]⟩] 32)) w3.heap.size 0 (exE 4 4) := EnAt.new w3 32 (exE 4 4)
  have hb4 := hb3.trans (hkd.below (by first | exact hb3.size | (rw [← hB]; exact hb3.size)) fun _ q => q.elim)
  have Ht := Pin.Aside.mk (lg_take exL exL_ok 3 3 (by omega) (by omega) [exE 4 4] (fun e he => by simp at he; subst he; exact exE_ok 4 4 (by omega) (by omega)) (some ⟨E1, 0, none⟩) (some ⟨w3.heap.size, 0, none⟩) 1 1 1 1 (by omega) (by omega) (by omega) (by omega) _ (HL3.out.keep' hkd) (EntsAt.one hD))
  rw [ex_take1] at Ht
  have HL4 := Pin.Aside.mk (HL3.out.keep' hkd)
  have HK := Pin.Aside.mk hkd
  clear hkd hD hb3 HL3
  go_wp2_with fail
  refine Ht.out.mono ?_
  rintro x w5 ⟨⟨p', n', c', rfl, hnc, hE5⟩, hbb⟩
  have hn' : n' = 2 := by rw [← hE5.len]; rfl
  subst hn'
  have hkk := HK.out.trans (Keep.of_below (S := fun _ => False) hbb fun _ q _ => q)
  replace cb := hkk.cell cb id
  replace ct := hkk.cell ct id
  replace cs := hkk.cell cs id
  have hb5 := hb4.trans (hbb.mono (by first | exact hb4.size | (rw [← hB]; exact hb4.size)))
  have HL5 := Pin.Aside.mk (HL4.out.below hbb)
  clear hE5 hkk hbb hb4 HL4 HK Ht hnc
  have hkm := (Keep.refl (fun _ => False) w5).alloc (.cells #[.int .u64 2, .int .u64 1, .slice p' 2 c'] 27)
  have hm2 : (w5.alloc (.cells #[.int .u64 2, .int .u64 1, .slice p' 2 c'] 27)).cell? ⟨w5.heap.size, 2, none⟩ = some (.slice p' 2 c') := World.cell?_alloc_new w5 _ _ _
  replace cb := hkm.cell cb id
  replace ct := hkm.cell ct id
  replace cs := hkm.cell cs id
  have hb6 := hb5.trans (hkm.below (by first | exact hb5.size | (rw [← hB]; exact hb5.size)) fun _ q => q.elim)
  have HL6 := Pin.Aside.mk (HL5.out.keep' hkm)
  clear hkm hb5 HL5
  go_upto_region 4 with fail
  generalize World.alloc w5 _ = w6 at *
  generalize w5.heap.size = M at *
  have Ht := Pin.Aside.mk (lg_take exL exL_ok 3 4 (by omega) (by omega) [] (fun e he => by simp at he) (some ⟨E1, 0, none⟩) none 1 1 0 0 (by omega) (by omega) (by omega) (by omega) w6 HL6.out (EntsAt.nil _ _))
  rw [ex_take2] at Ht
  go_wp2_with fail
  refine Ht.out.mono ?_
  rintro x w7 ⟨⟨p2, n2, c2, rfl, _, _⟩, hbb⟩
  have hkk : Keep (fun _ => False) w6 w7 := Keep.of_below hbb fun _ q _ => q
  replace cb := hkk.cell cb id
  replace ct := hkk.cell ct id
  replace cs := hkk.cell cs id
  replace hm2 := hkk.cell hm2 id
  have hb7 := hb6.trans (hbb.mono (by first | exact hb6.size | (rw [← hB]; exact hb6.size)))
  have HL7 := Pin.Aside.mk (HL6.out.below hbb)
  clear hbb hkk hb6 HL6 Ht
  dsimp only [exL]
  have hkn := (Keep.refl (fun _ => False) w7).alloc (.cells #[.int .u64 2, .int .u64 1, .slice p2 n2 c2] 27)
  replace cb := hkn.cell cb id
  replace ct := hkn.cell ct id
  replace cs := hkn.cell cs id
  replace hm2 := hkn.cell hm2 id
  have hb := hb7.trans (hkn.below (by first | exact hb7.size | (rw [← hB]; exact hb7.size)) fun _ q => q.elim)
  have HL := Pin.Aside.mk (HL7.out.keep' hkn)
  clear hkn hb7 HL7
  go_upto_region 5 with fail
  generalize World.alloc w7 _ = w8 at *
  have H1 := Pin.Aside.mk (fun W hW => lg_right exL exL_ok (some ⟨E1, 0, none⟩) 1 1 (by omega) W hW)
  have H2 := Pin.Aside.mk (fun W hW => lg_newer exL 3 3 (some ⟨E1, 0, none⟩) 1 1 (by omega) W hW)
  have H3 := Pin.Aside.mk (fun W hW => lg_newer exL 9 2 (some ⟨E1, 0, none⟩) 1 1 (by omega) W hW)
  have H4 := Pin.Aside.mk (fun W hW => lg_hint exL exL_ok 9 (by omega) (some ⟨E1, 0, none⟩) 1 1 (by omega) W hW)
  rw [ex_right] at H1
  rw [ex_newer1] at H2
  rw [ex_newer2] at H3
  rw [ex_hint] at H4
  go_wp2_with fail
  refine (H1.out _ HL.out).mono ?_
  rintro x w9 ⟨rfl, hbb⟩
  have hkk : Keep (fun _ => False) w8 w9 := Keep.of_below hbb fun _ q _ => q
  replace cb := hkk.cell cb id
  replace ct := hkk.cell ct id
  replace cs := hkk.cell cs id
  replace hb := hb.trans (hbb.mono (by first | exact hb.size | (rw [← hB]; exact hb.size)))
  replace HL := Pin.Aside.mk (HL.out.below hbb)
  replace hm2 := hkk.cell hm2 id
  clear hbb hkk
  go_wp2_with fail
  refine (H2.out _ HL.out).mono ?_
  rintro x w10 ⟨rfl, hbb⟩
  have hkk : Keep (fun _ => False) w9 w10 := Keep.of_below hbb fun _ q _ => q
  replace cb := hkk.cell cb id
  replace ct := hkk.cell ct id
  replace cs := hkk.cell cs id
  replace hb := hb.trans (hbb.mono (by first | exact hb.size | (rw [← hB]; exact hb.size)))
  replace HL := Pin.Aside.mk (HL.out.below hbb)
  clear hbb hkk
  go_wp2_with fail
  refine (H3.out _ HL.out).mono ?_
  rintro x w11 ⟨rfl, hbb⟩
  have hkk : Keep (fun _ => False) w10 w11 := Keep.of_below hbb fun _ q _ => q
  replace cb := hkk.cell cb id
  replace ct := hkk.cell ct id
  replace cs := hkk.cell cs id
  replace hb := hb.trans (hbb.mono (by first | exact hb.size | (rw [← hB]; exact hb.size)))
  replace HL := Pin.Aside.mk (HL.out.below hbb)
  clear hbb hkk
  go_wp2_with fail
  refine (H4.out _ HL.out).mono ?_
  rintro x w12 ⟨rfl, hbb⟩
  have hkk : Keep (fun _ => False) w11 w12 := Keep.of_below hbb fun _ q _ => q
  replace cb := hkk.cell cb id
  replace ct := hkk.cell ct id
  replace cs := hkk.cell cs id
  replace hb := hb.trans (hbb.mono (by first | exact hb.size | (rw [← hB]; exact hb.size)))
  replace HL := Pin.Aside.mk (HL.out.below hbb)
  clear hbb hkk
  go_wp2_with fail
  go_ret
  exact ⟨rfl, by first | exact hb | (rw [hB]; exact hb)⟩
end Go.Proofs.Ythlmigbimeldbaa
