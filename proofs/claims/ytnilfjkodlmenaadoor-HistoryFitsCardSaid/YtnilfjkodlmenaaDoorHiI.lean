/- history: the law's story. -/
import Derived.Test.YtnilfjkodlmenaaDoorHiH
import Derived.Test.YtnilfjkodlmenaaDoorHiZ
import Derived.BigQuiet
import Derived.Deep.AppendLies
import Derived.Deep.CutBlock
import Derived.Deep.MidRow
set_option maxRecDepth 16000
namespace Go.Pin
open Go.RowKit
set_option linter.unusedVariables false
set_option linter.unusedSimpArgs false
/-- The blocks' slice lies apart from the ops' row. -/
def BApart (vo vb : Value) : Prop := ∀ p n c, vb = .slice p n c → ∀ b o, p = some ⟨b, o, none⟩ → vo.ownBlock ≠ some b
theorem take_snoc {α : Type} {L : List α} {k : Nat} {x : α} (h : L[k]? = some x) : L.take (k + 1) = L.take k ++ [x] := by
  rw [List.take_add_one, h]; rfl
theorem story_take {R : List HRaw} {k : Nat} {r : HRaw} (h : R[k]? = some r) : hStory (R.take (k + 1)) [] = hStory (R.take k) [] ++ [storyOp (storyBs (R.take k) []) r] ∧ storyBs (R.take (k + 1)) [] = storyB (storyBs (R.take k) []) r := by
  rw [take_snoc h]
  exact story_snoc _ _ _
theorem hRow.keepO {S : Nat → Prop} {a w : World} {H : Nat} {v : Value} {L : List HOp} (h : hRow a H v L) (hk : Keep S a w) (hn : ∀ g, v.ownBlock = some g → ¬ S g) : hRow w H v L := by
  refine ⟨h.1, ?_⟩
  rcases h.2 with q | ⟨g, cap, cur, rfl, h1, h2, h3⟩
  · exact .inl q
  · exact .inr ⟨g, cap, cur, rfl, h1, by rw [hk.block g (Array.getElem?_eq_some_iff.1 h2).1 (hn g rfl)]; exact h2, h3⟩
theorem BlkAt.keepV {S : Nat → Prop} {a w : World} {v : Value} {B : List ByteArray} (h : BlkAt a v B) (hk : Keep S a w) (hn : ∀ p n c b o, v = .slice p n c → p = some ⟨b, o, none⟩ → ¬ S b) : BlkAt w v B := by
  rcases h.of with q | ⟨b, o, c, h1, h2, h3, h4⟩
  · exact ⟨.inl q⟩
  · exact ⟨.inr ⟨b, o, c, h1, h2, Nat.lt_of_lt_of_le h3 hk.size, fun j x hx => hk.cell (h4 j x hx) (hn _ _ _ b o h1 rfl)⟩⟩
end Go.Pin
namespace Go.Proofs.YtnilfjkodlmenaaDoor
open Go.RowKit Go.Pin
set_option linter.unusedVariables false
set_option linter.unusedSimpArgs false
theorem op_size : (Tryd.prog.info? 33).map (·.size) = some 15 := by kernel_rfl
theorem raw_info : (Tryd.prog.info? 35).map (·.size) = some 23 := by kernel_rfl
set_option maxHeartbeats 12800000 in
theorem hi_story (a : Option Addr) (len cap : Nat) (R : List HRaw) (most : Nat) (hm : most ≤ 10) (hlc : len ≤ 9223372036854775807) (w : World) (hR : RawsAt w a len R) :
    Calls Tryd.prog 10 #[.slice a len cap, .int .i64 (most : Int)] w fun e w' => ∃ v, e = .returned v ∧ hRow w' w.heap.size v (hStory (R.take most) []) ∧ Below w.heap.size w w' := by
  have HR := Pin.Aside.mk hR
  have hlen := hR.len
  clear hR
  have HL := Pin.Aside.mk hlen
  clear hlen
  obtain ⟨i0, hif, hz0, hzs, hzb⟩ := info_parts op_info
  go_enter Tryd.func10, Tryd.ntmps10
  go_upto_region 4 with fail
  go_loopw [5, 6, 7] (fun x y z wr => ∃ (k : Nat) (vo vb : Value), k ≤ len ∧ k ≤ most ∧ x = vo ∧ y = vb ∧ z = .int .i64 k ∧ Pin.Aside (hRow wr w.heap.size vo (hStory (R.take k) [])) ∧ Pin.Aside (BlkAt wr vb (storyBs (R.take k) [])) ∧ Pin.Aside (BApart vo vb) ∧ Pin.Aside (Below w.heap.size w wr)) (fun x y z _ => most - (intOf z).toNat)
  case atStart => exact ⟨0, .slice none 0 0, .slice none 0 0, by omega, by omega, rfl, rfl, rfl, Pin.Aside.mk (hRow.nil _ _), Pin.Aside.mk ⟨.inl ⟨rfl, rfl⟩⟩, Pin.Aside.mk (fun p n c q b o q2 => by injection q with q; rw [q2] at q; cases q), Pin.Aside.mk (Below.refl _ _)⟩
  case round =>
    obtain ⟨k, vo, vb, hkl, hkm, e5, e6, rfl, HO, HV, HAp, HB⟩ := hrel
    replace e5 := e5.symm
    replace e6 := e6.symm
    subst e5 e6
    by_cases h1 : k < len ∧ k < most
    · obtain ⟨h1, h2⟩ := h1
      have i1 : (k : Int) < (len : Int) := by omega
      have i2 : (k : Int) < (most : Int) := by omega
      obtain ⟨r, hr⟩ : ∃ r, R[k]? = some r := ⟨R[k]'(by rw [HL.out]; exact h1), List.getElem?_eq_getElem _⟩
      obtain ⟨A, oo, ha, hA⟩ := HR.out.at' k r hr
      have hrok := HR.out.ok r (List.mem_of_getElem? hr)
      have HHr := Pin.Aside.mk hr
      have HRok := Pin.Aside.mk hrok
      subst ha
      have hk0 : (0 : Int) ≤ (k : Int) := by omega
      have hkw : Keep (fun _ => False) w wr := Keep.of_below HB.out fun _ q _ => q
      have HA : Pin.Aside (∀ W, Below w.heap.size w W → ∀ (i : Nat) v, r.cells.toList[i]? = some v → W.cell? ⟨A, oo + k * 23 + i, none⟩ = some v) := Pin.Aside.mk fun W hW i v hv => (Keep.of_below hW fun _ q _ => q : Keep (fun _ => False) w W).cell (hA i v hv) id
      have hrg : wr.rangeAt A (oo + k * 23) r.cells.toList := fun i v hv => HA.out wr HB.out i v hv
      have hri : (Tryd.prog.info? 35).map (·.size) = some r.cells.toList.length := raw_info
      have HOp := Pin.Aside.mk (raw_op r hrok wr)
      clear hA hr hrok hkw
      obtain ⟨pb, cb, hvb⟩ : ∃ p c, vb = .slice p (storyBs (R.take k) []).length c := by
        rcases HV.out.of with ⟨q, q2⟩ | ⟨b, o, c, q, _⟩
        · exact ⟨none, 0, by rw [q, q2]; rfl⟩
        · exact ⟨_, _, q⟩
      obtain ⟨po, co, hvo⟩ := HO.out.slice
      have HVb := Pin.Aside.mk hvb
      have HVo := Pin.Aside.mk hvo
      clear hvb hvo
      go_upto_region 6 with fail
      go_wp2_with (with_reducible refine wpList_load_mid rfl 35 (.tmp 24) rfl A (oo + k * 23) rfl r.cells.toList _ hrg Tryd.underlying35 rfl hri ?_)
      refine HOp.out.mono ?_
      rintro y w1 ⟨rfl, hb1⟩
      clear hrg hri
      have hx := Pin.Aside.mk (raw_ok r (r.start % 12) (rstop r) 0 ⟨#[]⟩ (by omega) (by have := rstop_bounds r; omega) (by decide) (by decide))
      obtain ⟨x, hxq⟩ : ∃ x, rawOp r = x := ⟨_, rfl⟩
      have hxo : x.ok := by rw [← hxq]; exact hx.out
      have HXq := Pin.Aside.mk hxq
      rw [hxq]
      clear hx hxq
      have hB1 := HB.out.trans (hb1.mono HB.out.size)
      have hO1 := HO.out.below hb1
      have hV1 := HV.out.below hb1
      have hXb := BoxAt.new w1 33 x
      have hka := (Keep.refl (fun _ => False) w1).alloc (.cells x.cells 33)
      have HO1 := Pin.Aside.mk (hO1.keep hka fun _ _ _ => id)
      have HV1 := Pin.Aside.mk (hV1.keep hka)
      have HB1 := Pin.Aside.mk (hB1.trans (hka.below hB1.size fun _ q => q.elim))
      have hEw : w.heap.size ≤ w1.heap.size := hB1.size
      have hOE : ∀ g, vo.ownBlock = some g → g < w1.heap.size := fun g hg => (World.ownsRow.lt hO1 g hg).2
      have hVE : ∀ b o, pb = some ⟨b, o, none⟩ → b < w1.heap.size := fun b o q => by
        rcases hV1.of with ⟨q1, _⟩ | ⟨b', o', c', q1, _, q3, _⟩
        · rw [HVb.out] at q1; injection q1 with q1; rw [q] at q1; cases q1
        · rw [HVb.out] at q1; injection q1 with q1; rw [q] at q1; injection q1 with q1; injection q1 with q1; rw [q1]; exact q3
      clear hka hO1 hV1 hB1 HO HV HB hb1 HOp
      have HXo := Pin.Aside.mk hxo
      clear hxo
      unfold HOp.cells at *
      go_upto_region 7 with fail
      generalize w1.alloc (.cells #[.int .u64 x.e.term, .int .u64 x.e.index, .int .i64 x.e.kind, .int .u64 x.e.client, .int .u64 x.e.seq, .int .u64 x.e.block, .int .u64 x.e.many, .int .i64 x.e.node, .int .i64 x.e.level, .string x.e.data, .string x.e.old, .int .u64 x.start, .int .u64 x.stop, .int .i64 x.re, .string x.rd] 33) = w2 at *
      generalize w1.heap.size = E at *
      have hrg : w2.rangeAt E 0 x.cells.toList := fun i v hv => hXb.op.row i v hv
      have hri : (Tryd.prog.info? 33).map (·.size) = some x.cells.toList.length := op_size
      have HBk := Pin.Aside.mk (storyBs_blk (R.take k) [] HBlk.nil)
      obtain ⟨B, hBq⟩ : ∃ B, storyBs (R.take k) [] = B := ⟨_, rfl⟩
      rw [hBq] at HBk HV1
      have HBq := Pin.Aside.mk hBq
      have HDo := Pin.Aside.mk (hi_do B HBk.out.len HBk.out.all x HXo.out vb w2 HV1.out)
      have HXb := Pin.Aside.mk hXb
      clear hXb hBq
      unfold HOp.cells at HDo
      go_wp2_with (with_reducible refine wpList_load_mid rfl 33 (.tmp 8) rfl E 0 rfl x.cells.toList _ hrg Tryd.underlying33 rfl hri ?_)
      refine HDo.out.mono ?_
      rintro y w3 ⟨v', rfl, hV3, hfr, hb3⟩
      clear hrg
      obtain ⟨pv, cv, hv'⟩ : ∃ p c, v' = .slice p (hdo B x).1.length c := by
        rcases hV3.of with ⟨q, q2⟩ | ⟨b, o, c, q, _⟩
        · exact ⟨none, 0, by rw [q, q2]; rfl⟩
        · exact ⟨_, _, q⟩
      have HV' := Pin.Aside.mk hv'
      clear hv'
      obtain ⟨e1, hd1⟩ : ∃ e1, (hdo B x).2.1 = e1 := ⟨_, rfl⟩
      obtain ⟨r1, hd2⟩ : ∃ r1, (hdo B x).2.2 = r1 := ⟨_, rfl⟩
      rw [hd1, hd2]
      have hk3 : Keep (fun _ => False) w2 w3 := Keep.of_below hb3 fun _ q _ => q
      have hka := hk3.trans ((Keep.refl (fun _ => False) w3).alloc (.cells #[.int .i64 e1, .string r1] 31))
      have HX4 := Pin.Aside.mk (HXb.out.keep hka id)
      have HO4 := Pin.Aside.mk (HO1.out.keep hka fun _ _ _ => id)
      have HVo4 := Pin.Aside.mk (HV1.out.keep hka)
      have HVn4 := Pin.Aside.mk (hV3.keep ((Keep.refl (fun _ => False) w3).alloc (.cells #[.int .i64 e1, .string r1] 31)))
      have HB4 := Pin.Aside.mk (HB1.out.trans (hka.below HB1.out.size fun _ q => q.elim))
      have q0 : (w3.alloc (.cells #[.int .i64 e1, .string r1] 31)).cell? ⟨w3.heap.size, 0, none⟩ = some (.int .i64 e1) := by simp
      have q1 : (w3.alloc (.cells #[.int .i64 e1, .string r1] 31)).cell? ⟨w3.heap.size, 1, none⟩ = some (.string r1) := by simp
      have hw23 : w2.heap.size ≤ w3.heap.size := hk3.size
      have hEl : E < w2.heap.size := HXb.out.lt
      have hv3 : ∀ b o, pv = some ⟨b, o, none⟩ → b < w3.heap.size ∧ vo.ownBlock ≠ some b ∧ b ≠ E := fun b o q => by
        refine ⟨?_, ?_⟩
        · rcases hV3.of with ⟨q1, _⟩ | ⟨b', o', c', q1, _, q3, _⟩
          · rw [HV'.out] at q1; injection q1 with q1; rw [q] at q1; cases q1
          · rw [HV'.out] at q1; injection q1 with q1; rw [q] at q1; injection q1 with q1; injection q1 with q1; rw [q1]; exact q3
        · rcases hfr with h | h
          · rw [HV'.out] at h
            have h2 := HVb.out
            rw [← h] at h2
            injection h2 with h2
            exact ⟨HAp.out _ _ _ h.symm b o q, by have := hVE b o (by rw [← h2]; exact q); omega⟩
          · have h3 := h _ _ _ HV'.out b o q
            exact ⟨fun h4 => by have := hOE b h4; omega, by omega⟩
      have Hv3 := Pin.Aside.mk hv3
      have HVE := Pin.Aside.mk hVE
      have HOE := Pin.Aside.mk hOE
      clear HXb HO1 HV1 HB1 hk3 hka hV3 hfr hb3 hv3 hVE hOE HDo
      go_upto_region 8 with fail
      generalize w3.alloc (.cells #[.int .i64 e1, .string r1] 31) = w4 at *
      generalize w3.heap.size = Q at *
      have c22 := HA.out w4 HB4.out 22 (.int .u8 r.after) rfl
      obtain ⟨a8, ha8, ha80, ha81⟩ : ∃ q : Int, r.after % 8 = q ∧ 0 ≤ q ∧ q < 8 := ⟨_, rfl, by omega, by omega⟩
      have ta8 : Int.tmod r.after 8 = a8 := by rw [Int.tmod_eq_emod_of_nonneg HRok.out.after.1]; exact ha8
      have HA8 := Pin.Aside.mk ha8
      clear ha8
      go_upto_if 39 with fail
      go_cut [6] from 11 to 59 (fun v wx => v = (if 0 < a8 then v' else vb) ∧ wx = w4)
      case first =>
        by_cases hq : 0 < a8
        · have HQ := Pin.Aside.mk hq
          go_wp2_with fail
          go_meet
          exact ⟨by rw [if_pos HQ.out], rfl⟩
        · have HQ := Pin.Aside.mk hq
          go_wp2_with fail
          go_meet
          exact ⟨by rw [if_neg (Int.not_lt.2 HQ.out)], rfl⟩
      case rest =>
        obtain ⟨rfl, rfl⟩ := hcut
        clear c22 ta8
        have HV2 : Pin.Aside (BlkAt wc (if 0 < a8 then v' else vb) (storyB B r)) := Pin.Aside.mk (by
          unfold storyB
          rw [HA8.out, HXq.out]
          by_cases hq : 0 < a8
          · rw [if_pos hq, if_pos hq]; exact HVn4.out
          · rw [if_neg hq, if_neg hq]; exact HVo4.out)
        have HS2 : Pin.Aside (∃ p2 n2 c2, (if 0 < a8 then v' else vb) = .slice p2 n2 c2 ∧ ∀ b o, p2 = some ⟨b, o, none⟩ → b < wc.heap.size ∧ vo.ownBlock ≠ some b ∧ b ≠ E) := Pin.Aside.mk (by
          by_cases hq : 0 < a8
          · rw [if_pos hq]
            refine ⟨_, _, _, HV'.out, fun b o q => ?_⟩
            obtain ⟨h1, h2, h3⟩ := Hv3.out b o q
            exact ⟨Nat.lt_of_lt_of_le h1 (by have := World.block_lt_of_cell? _ _ q0; exact Nat.le_of_lt this), h2, h3⟩
          · rw [if_neg hq]
            refine ⟨_, _, _, HVb.out, fun b o q => ?_⟩
            have h1 := HVE.out b o q
            exact ⟨by have := World.block_lt_of_cell? _ _ q0; dsimp only at this; omega, HAp.out _ _ _ HVb.out b o q, by omega⟩)
        obtain ⟨v2, hv2⟩ : ∃ v2, (if 0 < a8 then v' else vb) = v2 := ⟨_, rfl⟩
        rw [hv2] at HV2 HS2 ⊢
        clear hv2 HVn4 HVo4 HA8 HAp Hv3 HVE HV' HVb
        have x13 := HX4.out.cell 13 (.int .i64 x.re) rfl
        have x14 := HX4.out.cell 14 (.string x.rd) rfl
        have f13 := HX4.out.fr 13
        have f14 := HX4.out.fr 14
        have hks := ((Keep.refl (fun j => j = E) wc).setCell (p := ⟨E, 13, none⟩) (.inl rfl) (.int .i64 e1)).setCell (p := ⟨E, 14, none⟩) (.inl rfl) (.string r1)
        have HX5 := Pin.Aside.mk ((HX4.out.set (y := { x with re := e1 }) (i := 13) (v := .int .i64 e1) (by decide) rfl).set (y := { x with re := e1, rd := r1 }) (i := 14) (v := .string r1) (by decide) rfl)
        have hnO : ∀ g, vo.ownBlock = some g → ¬ g = E := fun g hg => by have := HOE.out g hg; omega
        have HO5 := Pin.Aside.mk (hRow.keepO HO4.out hks hnO)
        have hnV : ∀ p n c b o, v2 = .slice p n c → p = some ⟨b, o, none⟩ → ¬ b = E := fun p n c b o q q2 => by
          obtain ⟨p2, n2, c2, q3, q4⟩ := HS2.out
          rw [q3] at q; injection q with q
          exact (q4 b o (by rw [q]; exact q2)).2.2
        have HV5 := Pin.Aside.mk (BlkAt.keepV HV2.out hks hnV)
        have HB5 := Pin.Aside.mk (HB4.out.trans (hks.below HB4.out.size (by rintro j rfl; omega)))
        have hsz5 : wc.heap.size ≤ ((wc.setCell ⟨E, 13, none⟩ (.int .i64 e1)).setCell ⟨E, 14, none⟩ (.string r1)).heap.size := hks.size
        clear hks
        have HnO := Pin.Aside.mk hnO
        have HnV := Pin.Aside.mk hnV
        clear hnO hnV
        go_upto_region 11 with fail
        clear x13 x14 f13 f14 HX4 HO4 HV2 HB4 q0 q1
        have HS5 : Pin.Aside (∃ p2 n2 c2, v2 = .slice p2 n2 c2 ∧ ∀ b o, p2 = some ⟨b, o, none⟩ → b < ((wc.setCell ⟨E, 13, none⟩ (.int .i64 e1)).setCell ⟨E, 14, none⟩ (.string r1)).heap.size ∧ vo.ownBlock ≠ some b ∧ b ≠ E) := Pin.Aside.mk (by
          obtain ⟨p2, n2, c2, q3, q4⟩ := HS2.out
          exact ⟨p2, n2, c2, q3, fun b o q => by obtain ⟨h1, h2, h3⟩ := q4 b o q; exact ⟨by omega, h2, h3⟩⟩)
        clear hsz5 HS2
        generalize (wc.setCell ⟨E, 13, none⟩ (.int .i64 e1)).setCell ⟨E, 14, none⟩ (.string r1) = w5 at *
        have c22 := HA.out w5 HB5.out 22 (.int .u8 r.after) rfl
        have y13 := HA.out w5 HB5.out 13 (.int .i64 r.o.re) rfl
        have y14 := HA.out w5 HB5.out 14 (.string r.o.rd) rfl
        have x13 := HX5.out.cell 13 (.int .i64 e1) rfl
        have x14 := HX5.out.cell 14 (.string r1) rfl
        have f13 := HX5.out.fr 13
        have f14 := HX5.out.fr 14
        go_upto_if 48 with fail
        go_cut [5] from 11 to 59 (fun v wx => v = vo ∧ Pin.Aside (BoxAt wx E (storyOp B r)) ∧ Pin.Aside (hRow wx w.heap.size vo (hStory (R.take k) [])) ∧ Pin.Aside (BlkAt wx v2 (storyB B r)) ∧ Pin.Aside (Below w.heap.size w wx) ∧ Pin.Aside (w5.heap.size ≤ wx.heap.size))
        case first =>
          by_cases hq : 240 < r.after
          · have HQ := Pin.Aside.mk hq
            have hks := ((Keep.refl (fun j => j = E) w5).setCell (p := ⟨E, 13, none⟩) (.inl rfl) (.int .i64 r.o.re)).setCell (p := ⟨E, 14, none⟩) (.inl rfl) (.string r.o.rd)
            have HX6 := Pin.Aside.mk ((HX5.out.set (y := { x with re := r.o.re, rd := r1 }) (i := 13) (v := .int .i64 r.o.re) (by decide) rfl).set (y := { x with re := r.o.re, rd := r.o.rd }) (i := 14) (v := .string r.o.rd) (by decide) rfl)
            have HO6 := Pin.Aside.mk (hRow.keepO HO5.out hks HnO.out)
            have HV6 := Pin.Aside.mk (BlkAt.keepV HV5.out hks HnV.out)
            have HB6 := Pin.Aside.mk (HB5.out.trans (hks.below HB5.out.size (by rintro j rfl; omega)))
            have HZ6 := Pin.Aside.mk hks.size
            clear hks
            have HSt : Pin.Aside (storyOp B r = { x with re := r.o.re, rd := r.o.rd }) := Pin.Aside.mk (by unfold storyOp; rw [if_pos HQ.out, HXq.out])
            go_wp2_with fail
            go_meet
            exact ⟨rfl, Pin.Aside.mk (by rw [HSt.out]; exact HX6.out), HO6, HV6, HB6, HZ6⟩
          · have HSt : Pin.Aside (storyOp B r = { x with re := e1, rd := r1 }) := Pin.Aside.mk (by unfold storyOp; rw [if_neg hq, HXq.out, hd1, hd2])
            go_wp2_with fail
            go_meet
            exact ⟨rfl, Pin.Aside.mk (by rw [HSt.out]; exact HX5.out), HO5, HV5, HB5, Pin.Aside.mk (Nat.le_refl _)⟩
        case rest =>
          clear c22 y13 y14 x13 x14 f13 f14 HX5 HO5 HV5 HB5
          obtain ⟨e5, HX7, HO7, HV7, HB7, HZ7⟩ := hcut
          replace e5 := e5.symm
          subst e5
          rename World => w7
          obtain ⟨y, hy⟩ : ∃ y, storyOp B r = y := ⟨_, rfl⟩
          rw [hy] at HX7
          have HY := Pin.Aside.mk hy
          clear hy
          have hrg : w7.rangeAt E 0 y.cells.toList := fun i v hv => HX7.out.op.row i v hv
          have hri7 : (Tryd.prog.info? 33).map (·.size) = some y.cells.toList.length := op_size
          have hEl7 : E < w7.heap.size := HX7.out.lt
          obtain ⟨nL, hnL⟩ : ∃ n, (hStory (R.take k) []).length = n := ⟨_, rfl⟩
          have hnk : nL = k := by rw [← hnL, story_len, List.length_take, HL.out]; omega
          subst hnk
          have HnL := Pin.Aside.mk hnL
          have hown0 : w7.ownsRow w.heap.size 33 15 vo nL (hFlat (hStory (R.take nL) [])) := by have := HO7.out; unfold hRow at this; rw [hnL] at this; exact this
          have hka := (Keep.refl (fun _ => False) w7).alloc (.cells y.cells 33)
          have hown : (w7.alloc (.cells y.cells 33)).ownsRow w.heap.size 33 15 vo nL (hFlat (hStory (R.take nL) [])) := World.ownsRow.alloc hown0 _
          have hnew : (w7.alloc (.cells y.cells 33)).heap[w7.heap.size]? = some (.cells y.cells 33) := Go.heap_alloc_new w7 _
          have hbs := HB7.out.size
          clear hnL hown0
          go_upto_region 13 with fail
          go_wp2_with (first | (with_reducible refine wpList_load_mid rfl 33 (.tmp 8) rfl E 0 rfl y.cells.toList _ hrg Tryd.underlying33 rfl hri7 ?_) | (at_builtin; refine wpList_append_lies _ rfl _ _ _ rfl w.heap.size 33 i0 _ 15 144 Tryd.underlying24 hif hz0 hzs hzb rfl (by omega) _ nL (hFlat (hStory (R.take nL) [])) rfl hown ⟨w7.heap.size, 0, none⟩ 1 1 y.cells.toList rfl rfl (World.news_of_block (cs := y.cells) (t := 33) (fr := (0, 0)) hnew) (hCells_one y) (by omega) (by unfold maxLen; omega) (by omega) (by simp; omega) _ rfl ?_))
          intro g cap9 w8 hown8 hgrow hat hlt8
          have hst := story_take HHr.out
          rw [HBq.out] at hst
          have HO8 : Pin.Aside (hRow w8 w.heap.size (.slice (some ⟨g, 0, none⟩) (nL + 1) cap9) (hStory (R.take (nL + 1)) [])) := Pin.Aside.mk (by
            rw [hst.1, HY.out]
            exact hRow.snoc (by rw [HnL.out]) hown8)
          have HV8 : Pin.Aside (BlkAt w8 v2 (storyBs (R.take (nL + 1)) [])) := Pin.Aside.mk (by
            rw [hst.2]
            refine BlkAt.keepV (HV7.out.keep hka) (keep_grownBy hgrow) (fun p n c b o q q2 => ?_)
            obtain ⟨p2, n2, c2, q3, q4⟩ := HS5.out
            rw [q3] at q; injection q with q
            exact (q4 b o (by rw [q]; exact q2)).2.1)
          have HAp8 : Pin.Aside (BApart (.slice (some ⟨g, 0, none⟩) (nL + 1) cap9) v2) := Pin.Aside.mk (by
            intro p n c q b o q2 h
            obtain ⟨p2, n2, c2, q3, q4⟩ := HS5.out
            rw [q3] at q; injection q with q
            obtain ⟨h1, h2, h3⟩ := q4 b o (by rw [q]; exact q2)
            have h' : some g = some b := h
            injection h' with h'
            have hz := HZ7.out
            rcases hat with q5 | q5
            · exact h2 (by rw [q5, h'])
            · omega)
          have HB8 := Pin.Aside.mk ((HB7.out.trans (hka.below HB7.out.size fun _ q => q.elim)).grown hgrow (by simp; omega) (fun j hj => (World.ownsRow.lt hown j hj).1))
          clear hown hnew hown8 hgrow hat hka hst hrg hbs HX7 HO7 HV7 HB7 HZ7 hEl7
          go_wp2_with fail
          go_roundw
          case rel => exact ⟨nL + 1, .slice (some ⟨g, 0, none⟩) (nL + 1) cap9, v2, by omega, by omega, rfl, rfl, by go_num, HO8, HV8, HAp8, HB8⟩
          case measure => simp [intOf]; omega
    · have HEq : Pin.Aside (R.take k = R.take most) := Pin.Aside.mk (by
        by_cases h2 : k < most
        · rw [List.take_of_length_le (by rw [HL.out]; omega), List.take_of_length_le (by rw [HL.out]; omega)]
        · rw [show k = most by omega])
      obtain ⟨po, co, hvo⟩ := HO.out.slice
      have HVo := Pin.Aside.mk hvo
      clear hvo
      by_cases h2 : k < len
      · have i1 : (k : Int) < (len : Int) := by omega
        have i2 : ¬ (k : Int) < (most : Int) := by omega
        clear h1
        go_wp2_with fail
        go_ret
        exact ⟨vo, rfl, by rw [← HEq.out]; exact HO.out, HB.out⟩
      · have i1 : ¬ (k : Int) < (len : Int) := by omega
        clear h1
        go_wp2_with fail
        go_ret
        exact ⟨vo, rfl, by rw [← HEq.out]; exact HO.out, HB.out⟩
end Go.Proofs.YtnilfjkodlmenaaDoor
