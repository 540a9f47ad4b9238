/- HistoryOne: walk. -/
import Derived.Test.YtnilfjkodlmenaaDoorHistoryOneN
import Derived.Test.YtnilfjkodlmenaaDoorHiI
import Derived.Test.YtnilfjkodlmenaaDoorHiJ
import Derived.Test.YtnilfjkodlmenaaDoorHiX
import Derived.Test.YtnilfjkodlmenaaDoorHiT
import Derived.BigQuiet
import Derived.Deep.AppendLies
import Derived.Deep.CutBlock
import Derived.Deep.MidRow
set_option maxRecDepth 16000
namespace Go.Pin
open Go.RowKit
theorem hRow.one' (w : World) (H : Nat) (hH : H ≤ w.heap.size) (y : HOp) : hRow (w.alloc (.cells y.cells 33)) H (.slice (some ⟨w.heap.size, 0, none⟩) 1 1) [y] := by
  have := hRow.made w H [y] hH (by show (1 : Nat) ≤ maxLen; unfold maxLen; omega)
  have h2 : (hFlat [y]).toArray = y.cells := by
    rw [hFlat_cons]
    show (y.cells.toList ++ []).toArray = y.cells
    rw [List.append_nil]
  rw [h2] at this
  exact this
theorem hRow.range' {w : World} {H g n c : Nat} {L : List HOp} (h : hRow w H (.slice (some ⟨g, 0, none⟩) n c) L) {k : Nat} {x : HOp} (hx : L[k]? = some x) (i : Nat) (v : Value) (hv : x.cells.toList[i]? = some v) : w.cell? ⟨g, k * 15 + i, none⟩ = some v := by
  obtain ⟨A, o, q, h1⟩ := h.ops.at' k x hx
  injection q with q
  injection q with q1 q2
  subst q1 q2
  have := h1.row i v hv
  rw [Nat.zero_add] at this; exact this
end Go.Pin
namespace Go.Proofs.YtnilfjkodlmenaaDoor
open Go.RowKit Go.Pin
set_option linter.unusedVariables false
set_option linter.unusedSimpArgs false
set_option maxHeartbeats 12800000 in
theorem historyOne_walk (a0 : Option Addr) (len0 cap0 : Nat) (b : Int) (tn : Bool) (w : World) (H0 : isSlice rawPs w (.slice a0 len0 cap0)) (hb : 0 ≤ b ∧ b ≤ 255) (hT : HTab w) :
    Calls Tryd.prog 4 #[.slice a0 len0 cap0, .int .u8 b, .bool tn] w fun e w' => e = .returned (.bool true) ∧ Below w.heap.size w w' := by
  obtain ⟨R0, hR, _⟩ := raws_of_slice H0
  have hl63 : len0 ≤ 9223372036854775807 := by
    obtain ⟨a', l', c', q, h1, h2, _⟩ := H0
    injection q with q1 q2 q3
    omega
  have HE := Pin.Aside.mk (fun W => law21_examples W)
  have HR := Pin.Aside.mk hR
  have HL := Pin.Aside.mk hR.len
  have HT := Pin.Aside.mk hT
  clear H0 hR hT
  obtain ⟨i0, hif, hz0, hzs, hzb⟩ := info_parts op_info
  have HB0 := Pin.Aside.mk (Below.refl w.heap.size w)
  go_enter Tryd.func4, Tryd.ntmps4
  go_wp2_with fail
  refine (HE.out _).mono ?_
  rintro x w1 ⟨rfl, hb1⟩
  replace HB0 := Pin.Aside.mk (HB0.out.trans (hb1.mono HB0.out.size))
  clear hb1 HE
  go_upto_region 7 with fail
  go_loopw [8, 9, 10] (fun x y z wr => ∃ (k : Nat) (vo vb : Value), k ≤ len0 ∧ k ≤ 8 ∧ x = vo ∧ y = vb ∧ z = .int .i64 k ∧ Pin.Aside (hRow wr w.heap.size vo (oneL (R0.take k) 0 [])) ∧ Pin.Aside (BlkAt wr vb (oneBs (R0.take k) 0 [])) ∧ Pin.Aside (BApart vo vb) ∧ Pin.Aside (Below w.heap.size w wr)) (fun x y z _ => 8 - (intOf z).toNat)
  case atStart => exact ⟨0, .slice none 0 0, .slice none 0 0, by omega, by omega, rfl, rfl, rfl, Pin.Aside.mk (hRow.nil _ _), Pin.Aside.mk ⟨.inl ⟨rfl, rfl⟩⟩, Pin.Aside.mk (fun p n c q b o q2 => by injection q with q; rw [q2] at q; cases q), HB0⟩
  case round =>
    clear HB0
    obtain ⟨k, vo, vb, hkl, hkm, e5, e6, rfl, HO, HV, HAp, HB⟩ := hrel
    replace e5 := e5.symm
    replace e6 := e6.symm
    subst e5 e6
    by_cases h1 : k < len0 ∧ k < 8
    · obtain ⟨h1, h2⟩ := h1
      have i1 : (k : Int) < (len0 : Int) := by omega
      have i2 : (k : Int) < 8 := by omega
      obtain ⟨r, hr⟩ : ∃ r, R0[k]? = some r := ⟨R0[k]'(by rw [HL.out]; exact h1), List.getElem?_eq_getElem _⟩
      obtain ⟨A, oo, ha, hA⟩ := HR.out.at' k r hr
      have hrok := HR.out.ok r (List.mem_of_getElem? hr)
      have HHr := Pin.Aside.mk hr
      have HRok := Pin.Aside.mk hrok
      subst ha
      have hk0 : (0 : Int) ≤ (k : Int) := by omega
      have HA : Pin.Aside (∀ W, Below w.heap.size w W → ∀ (i : Nat) v, r.cells.toList[i]? = some v → W.cell? ⟨A, oo + k * 23 + i, none⟩ = some v) := Pin.Aside.mk fun W hW i v hv => (Keep.of_below hW fun _ q _ => q : Keep (fun _ => False) w W).cell (hA i v hv) id
      have hrg : wr.rangeAt A (oo + k * 23) r.cells.toList := fun i v hv => HA.out wr HB.out i v hv
      have hri : (Tryd.prog.info? 35).map (·.size) = some r.cells.toList.length := raw_info
      have HOpc := Pin.Aside.mk (raw_op r hrok wr)
      clear hA hr hrok
      obtain ⟨pb, cb, hvb⟩ : ∃ p c, vb = .slice p (oneBs (R0.take k) 0 []).length c := by
        rcases HV.out.of with ⟨q, q2⟩ | ⟨b, o, c, q, _⟩
        · exact ⟨none, 0, by rw [q, q2]; rfl⟩
        · exact ⟨_, _, q⟩
      have HVb := Pin.Aside.mk hvb
      clear hvb
      go_upto_region 9 with fail
      go_wp2_with (with_reducible refine wpList_load_mid rfl 35 (.tmp 34) rfl A (oo + k * 23) rfl r.cells.toList _ hrg Tryd.underlying35 rfl hri ?_)
      refine HOpc.out.mono ?_
      rintro y w1 ⟨rfl, hb1⟩
      clear hrg hri
      have hx := Pin.Aside.mk (raw_ok r (10 * (k : Int) + 1) (10 * (k : Int) + 6) 0 ⟨#[]⟩ (by omega) (by omega) (by decide) (by decide))
      obtain ⟨x, hxq⟩ : ∃ x, rawOp r = x := ⟨_, rfl⟩
      have hXX : Pin.Aside (oneX k r = { x with start := 10 * (k : Int) + 1, stop := 10 * (k : Int) + 6 }) := Pin.Aside.mk (by unfold oneX; rw [hxq])
      have hre : x.re = 0 := by rw [← hxq]; rfl
      have hrd : x.rd = ⟨#[]⟩ := by rw [← hxq]; rfl
      have hx0 : ({ x with start := 10 * (k : Int) + 1, stop := 10 * (k : Int) + 6 } : HOp).ok := by
        have := hx.out
        rw [hxq] at this
        have h3 : ({ x with start := 10 * (k : Int) + 1, stop := 10 * (k : Int) + 6 } : HOp) = ⟨x.e, 10 * (k : Int) + 1, 10 * (k : Int) + 6, 0, ⟨#[]⟩⟩ := by
          rw [← hre, ← hrd]
        rw [h3]; exact this
      have HXok := Pin.Aside.mk hx0
      rw [hxq]
      clear hx hxq hx0 hre hrd
      have hB1 := HB.out.trans (hb1.mono HB.out.size)
      have hO1 := HO.out.below hb1
      have hV1 := HV.out.below hb1
      have hXb := BoxAt.new w1 33 x
      have hka := (Keep.refl (fun _ => False) w1).alloc (.cells x.cells 33)
      have HO1 := Pin.Aside.mk (hO1.keep hka fun _ _ _ => id)
      have HV1 := Pin.Aside.mk (hV1.keep hka)
      have HB1 := Pin.Aside.mk (hB1.trans (hka.below hB1.size fun _ q => q.elim))
      have hEw : w.heap.size ≤ w1.heap.size := hB1.size
      have hOE : ∀ g, vo.ownBlock = some g → g < w1.heap.size := fun g hg => (World.ownsRow.lt hO1 g hg).2
      have hVE : ∀ b o, pb = some ⟨b, o, none⟩ → b < w1.heap.size := fun b o q => by
        rcases hV1.of with ⟨q1, _⟩ | ⟨b', o', c', q1, _, q3, _⟩
        · rw [HVb.out] at q1; injection q1 with q1; rw [q] at q1; cases q1
        · rw [HVb.out] at q1; injection q1 with q1; rw [q] at q1; injection q1 with q1; injection q1 with q1; rw [q1]; exact q3
      clear hka hO1 hV1 hB1 HO HV HB hb1 HOpc
      unfold HOp.cells at *
      go_upto_region 10 with fail
      generalize w1.alloc (.cells #[.int .u64 x.e.term, .int .u64 x.e.index, .int .i64 x.e.kind, .int .u64 x.e.client, .int .u64 x.e.seq, .int .u64 x.e.block, .int .u64 x.e.many, .int .i64 x.e.node, .int .i64 x.e.level, .string x.e.data, .string x.e.old, .int .u64 x.start, .int .u64 x.stop, .int .i64 x.re, .string x.rd] 33) = w2 at *
      generalize w1.heap.size = E at *
      have c11 := hXb.cell 11 (.int .u64 x.start) rfl
      have c12 := hXb.cell 12 (.int .u64 x.stop) rfl
      have f11 := hXb.fr 11
      have f12 := hXb.fr 12
      have m1 : IntKind.u64.wrap (10 * (k : Int) + 1) = 10 * (k : Int) + 1 := by rw [IntKind.wrap_u64]; omega
      have m2 : IntKind.u64.wrap (10 * (k : Int) + 1 + 5) = 10 * (k : Int) + 6 := by rw [IntKind.wrap_u64]; omega
      have m3 : IntKind.i64.wrap (10 * (k : Int)) = 10 * (k : Int) := by rw [IntKind.wrap_i64]; omega
      have m4 : IntKind.i64.wrap (10 * (k : Int) + 1) = 10 * (k : Int) + 1 := by rw [IntKind.wrap_i64]; omega
      have hks := ((Keep.refl (fun j => j = E) w2).setCell (p := ⟨E, 11, none⟩) (.inl rfl) (.int .u64 (10 * (k : Int) + 1))).setCell (p := ⟨E, 12, none⟩) (.inl rfl) (.int .u64 (10 * (k : Int) + 6))
      have hX2 := (hXb.set (y := { x with start := 10 * (k : Int) + 1 }) (i := 11) (v := .int .u64 (10 * (k : Int) + 1)) (by decide) rfl).set (y := { x with start := 10 * (k : Int) + 1, stop := 10 * (k : Int) + 6 }) (i := 12) (v := .int .u64 (10 * (k : Int) + 6)) (by decide) rfl
      have hnO : ∀ g, vo.ownBlock = some g → ¬ g = E := fun g hg => by have := hOE g hg; omega
      have HO2 := Pin.Aside.mk (hRow.keepO HO1.out hks hnO)
      have hnV : ∀ p n c b o, vb = .slice p n c → p = some ⟨b, o, none⟩ → ¬ b = E := fun p n c b o q q2 => by
        rw [HVb.out] at q; injection q with q
        have := hVE b o (by rw [q]; exact q2)
        omega
      have HV2 := Pin.Aside.mk (BlkAt.keepV HV1.out hks hnV)
      have HB2 := Pin.Aside.mk (HB1.out.trans (hks.below HB1.out.size (by rintro j rfl; omega)))
      have HX2 := Pin.Aside.mk hX2
      clear hks hX2 hXb hnV
      go_upto_region 12 with fail
      clear c11 c12 f11 f12 m1 m2 m3 m4 HO1 HV1 HB1
      generalize (w2.setCell ⟨E, 11, none⟩ (.int .u64 (10 * (k : Int) + 1))).setCell ⟨E, 12, none⟩ (.int .u64 (10 * (k : Int) + 6)) = w3 at *
      obtain ⟨z, hz⟩ : ∃ z, ({ x with start := 10 * (k : Int) + 1, stop := 10 * (k : Int) + 6 } : HOp) = z := ⟨_, rfl⟩
      rw [hz] at HX2 hXX HXok
      have HZ := Pin.Aside.mk hz
      clear hz
      have hrg : w3.rangeAt E 0 z.cells.toList := fun i v hv => HX2.out.op.row i v hv
      have hri : (Tryd.prog.info? 33).map (·.size) = some z.cells.toList.length := op_size
      have HBk := Pin.Aside.mk (oneBs_blk (R0.take k) 0 [] HBlk.nil)
      obtain ⟨B, hBq⟩ : ∃ B, oneBs (R0.take k) 0 [] = B := ⟨_, rfl⟩
      rw [hBq] at HBk HV2
      have HBq := Pin.Aside.mk hBq
      clear hBq
      have HDo := Pin.Aside.mk (hi_do B HBk.out.len HBk.out.all z HXok.out vb w3 HV2.out)
      unfold HOp.cells at HDo
      go_wp2_with (with_reducible refine wpList_load_mid rfl 33 (.tmp 11) rfl E 0 rfl z.cells.toList _ hrg Tryd.underlying33 rfl hri ?_)
      refine HDo.out.mono ?_
      rintro y w4 ⟨v', rfl, hV3, hfr, hb3⟩
      clear hrg
      obtain ⟨pv, cv, hv'⟩ : ∃ p c, v' = .slice p (hdo B z).1.length c := by
        rcases hV3.of with ⟨q, q2⟩ | ⟨b, o, c, q, _⟩
        · exact ⟨none, 0, by rw [q, q2]; rfl⟩
        · exact ⟨_, _, q⟩
      obtain ⟨e1, hd1⟩ : ∃ e1, (hdo B z).2.1 = e1 := ⟨_, rfl⟩
      obtain ⟨r1, hd2⟩ : ∃ r1, (hdo B z).2.2 = r1 := ⟨_, rfl⟩
      rw [hd1, hd2]
      have HOne : Pin.Aside (oneOp k B r = { z with re := e1, rd := r1 }) := Pin.Aside.mk (by unfold oneOp; rw [hXX.out, hd1, hd2])
      have HOB : Pin.Aside ((hdo B z).1 = oneB B k r) := Pin.Aside.mk (by unfold oneB; rw [hXX.out])
      clear hd1 hd2
      have hk3 : Keep (fun _ => False) w3 w4 := Keep.of_below hb3 fun _ q _ => q
      have hka := hk3.trans ((Keep.refl (fun _ => False) w4).alloc (.cells #[.int .i64 e1, .string r1] 31))
      have HX4 := Pin.Aside.mk (HX2.out.keep hka id)
      have HO4 := Pin.Aside.mk (HO2.out.keep hka fun _ _ _ => id)
      have HVn4 := Pin.Aside.mk (hV3.keep ((Keep.refl (fun _ => False) w4).alloc (.cells #[.int .i64 e1, .string r1] 31)))
      have HB4 := Pin.Aside.mk (HB2.out.trans (hka.below HB2.out.size fun _ q => q.elim))
      have q0 : (w4.alloc (.cells #[.int .i64 e1, .string r1] 31)).cell? ⟨w4.heap.size, 0, none⟩ = some (.int .i64 e1) := by simp
      have q1 : (w4.alloc (.cells #[.int .i64 e1, .string r1] 31)).cell? ⟨w4.heap.size, 1, none⟩ = some (.string r1) := by simp
      have hw34 : w3.heap.size ≤ w4.heap.size := hk3.size
      have hEl : E < w3.heap.size := HX2.out.lt
      have hv3 : ∀ b o, pv = some ⟨b, o, none⟩ → b < w4.heap.size ∧ vo.ownBlock ≠ some b ∧ b ≠ E := fun b o q => by
        refine ⟨?_, ?_⟩
        · rcases hV3.of with ⟨q1, _⟩ | ⟨b', o', c', q1, _, q3, _⟩
          · rw [hv'] at q1; injection q1 with q1; rw [q] at q1; cases q1
          · rw [hv'] at q1; injection q1 with q1; rw [q] at q1; injection q1 with q1; injection q1 with q1; rw [q1]; exact q3
        · rcases hfr with h | h
          · rw [hv'] at h
            have h2 := HVb.out
            rw [← h] at h2
            injection h2 with h2
            exact ⟨HAp.out _ _ _ h.symm b o q, by have := hVE b o (by rw [← h2]; exact q); omega⟩
          · have h3 := h _ _ _ hv' b o q
            exact ⟨fun h4 => by have := hOE b h4; omega, by omega⟩
      have Hv3 := Pin.Aside.mk hv3
      have HV' := Pin.Aside.mk hv'
      have HOE := Pin.Aside.mk hOE
      have HnO := Pin.Aside.mk hnO
      have hxe := HX4.out
      have x13 := hxe.cell 13 (.int .i64 z.re) rfl
      have x14 := hxe.cell 14 (.string z.rd) rfl
      have f13 := hxe.fr 13
      have f14 := hxe.fr 14
      have hks := ((Keep.refl (fun j => j = E) (w4.alloc (.cells #[.int .i64 e1, .string r1] 31))).setCell (p := ⟨E, 13, none⟩) (.inl rfl) (.int .i64 e1)).setCell (p := ⟨E, 14, none⟩) (.inl rfl) (.string r1)
      have HX5 := Pin.Aside.mk ((hxe.set (y := { z with re := e1 }) (i := 13) (v := .int .i64 e1) (by decide) rfl).set (y := { z with re := e1, rd := r1 }) (i := 14) (v := .string r1) (by decide) rfl)
      have HO5 := Pin.Aside.mk (hRow.keepO HO4.out hks hnO)
      have HV5 := Pin.Aside.mk (BlkAt.keepV HVn4.out hks (fun p n c b o q q2 => by
        rw [hv'] at q; injection q with q
        exact (hv3 b o (by rw [q]; exact q2)).2.2))
      have HB5 := Pin.Aside.mk (HB4.out.trans (hks.below HB4.out.size (by rintro j rfl; omega)))
      have HZ5 : Pin.Aside (w4.heap.size ≤ (((w4.alloc (.cells #[.int .i64 e1, .string r1] 31)).setCell ⟨E, 13, none⟩ (.int .i64 e1)).setCell ⟨E, 14, none⟩ (.string r1)).heap.size) := Pin.Aside.mk (Nat.le_trans (by simp) hks.size)
      clear HX2 HO2 HV2 HB2 hk3 hka hV3 hfr hb3 hv3 hVE hOE hnO HDo hxe hks hv' HO4 HVn4 HB4 HX4
      go_upto_region 13 with fail
      go_upto_region 15 with fail
      clear x13 x14 f13 f14 q0 q1
      generalize ((w4.alloc (.cells #[.int .i64 e1, .string r1] 31)).setCell ⟨E, 13, none⟩ (.int .i64 e1)).setCell ⟨E, 14, none⟩ (.string r1) = w7 at *
      obtain ⟨y, hy⟩ : ∃ y, ({ z with re := e1, rd := r1 } : HOp) = y := ⟨_, rfl⟩
      rw [hy] at HX5 HOne
      clear hy
      have hrg : w7.rangeAt E 0 y.cells.toList := fun i v hv => HX5.out.op.row i v hv
      have hri7 : (Tryd.prog.info? 33).map (·.size) = some y.cells.toList.length := op_size
      have hbs := HB5.out.size
      have hka := (Keep.refl (fun _ => False) w7).alloc (.cells y.cells 33)
      have hr7 : hRow (w7.alloc (.cells y.cells 33)) w.heap.size vo (oneL (R0.take k) 0 []) := hRow.keep HO5.out hka fun _ _ _ => id
      have hr1 := hRow.one' w7 w.heap.size hbs y
      have hbsa : w.heap.size ≤ (w7.alloc (.cells y.cells 33)).heap.size := Nat.le_trans hbs hka.size
      have hLk : (oneL (R0.take k) 0 []).length ≤ 1000 := by rw [oneL_len, List.length_take]; omega
      go_wp2_with (first | (with_reducible refine wpList_load_mid rfl 33 (.tmp 11) rfl E 0 rfl y.cells.toList _ hrg Tryd.underlying33 rfl hri7 ?_) | (at_builtin; refine wpList_op_append rfl _ _ rfl w.heap.size hbsa vo _ _ _ rfl rfl hr7 hr1 hLk (by show (1 : Nat) ≤ 1000; decide) ?_; intro vo' w8 hr8 hg8 hat8))
      have hst := one_take HHr.out
      rw [HBq.out] at hst
      have HO8 : Pin.Aside (hRow w8 w.heap.size vo' (oneL (R0.take (k + 1)) 0 [])) := Pin.Aside.mk (by rw [hst.1, HOne.out]; exact hr8)
      have HV8 : Pin.Aside (BlkAt w8 v' (oneBs (R0.take (k + 1)) 0 [])) := Pin.Aside.mk (by
        rw [hst.2, ← HOB.out]
        refine BlkAt.keepV (HV5.out.keep hka) (keep_grownBy hg8) (fun p n c b o q q2 => ?_)
        rw [HV'.out] at q; injection q with q
        exact (Hv3.out b o (by rw [q]; exact q2)).2.1)
      have HAp8 : Pin.Aside (BApart vo' v') := Pin.Aside.mk (by
        intro p n c q b o q2 h
        rw [HV'.out] at q; injection q with q
        obtain ⟨h1, h2, h3⟩ := Hv3.out b o (by rw [q]; exact q2)
        have hz := HZ5.out
        have hsa := World.size_alloc' w7 (.cells y.cells 33)
        rcases hat8 with q5 | q5
        · exact h2 (by rw [← q5]; exact h)
        · rw [q5] at h
          injection h with h
          have h' : (w7.alloc (.cells y.cells 33)).heap.size = b := h
          omega)
      have HB8 := Pin.Aside.mk ((HB5.out.trans (hka.below HB5.out.size fun _ q => q.elim)).trans ((keep_grownBy hg8).below hbsa (fun j q => (World.ownsRow.lt hr7 j q).1)))
      obtain ⟨q8, d8, hvo8⟩ := hr8.slice
      obtain ⟨n8, hn8⟩ : ∃ n8, (oneL (R0.take k) 0 [] ++ [y]).length = n8 := ⟨_, rfl⟩
      rw [hn8] at hvo8
      have hvp := HV'.out
      obtain ⟨n9, hn9⟩ : ∃ n9, (hdo B z).1.length = n9 := ⟨_, rfl⟩
      rw [hn9] at hvp
      clear hn8 hn9 hr7 hr1 hr8 hg8 hat8 hka hst hrg hbs hbsa HX5 HO5 HV5 HB5 HZ5 hLk HV'
      subst hvo8 hvp
      go_wp2_with fail
      go_roundw
      case rel => exact ⟨k + 1, .slice q8 n8 d8, .slice pv n9 cv, by omega, by omega, rfl, rfl, by go_num, HO8, HV8, HAp8, HB8⟩
      case measure => simp [intOf]; omega
    · have HEq : Pin.Aside (R0.take k = R0.take 8) := Pin.Aside.mk (by
        by_cases h2 : k < 8
        · rw [List.take_of_length_le (by rw [HL.out]; omega), List.take_of_length_le (by rw [HL.out]; omega)]
        · rw [show k = 8 by omega])
      have HO' := Pin.Aside.mk (show hRow wr w.heap.size vo (oneL (R0.take 8) 0 []) by rw [← HEq.out]; exact HO.out)
      have hR8 : (R0.take 8).length ≤ 8 := by rw [List.length_take]; omega
      obtain ⟨R, hRq⟩ : ∃ R, R0.take 8 = R := ⟨_, rfl⟩
      rw [hRq] at HO' hR8
      clear hRq HO HV HAp HEq
      have h3 : (k < len0 ∧ k = 8) ∨ ¬ k < len0 := by omega
      rcases h3 with ⟨h4, h5⟩ | h4
      · have i1 : (k : Int) < (len0 : Int) := by omega
        have i2 : ¬ (k : Int) < 8 := by omega
        clear h1
        go_upto_region 16 with fail
        have hLn := oneL_len R 0 []
        obtain ⟨po, co, hvo⟩ := HO'.out.slice
        rw [hLn] at hvo
        obtain ⟨n, hn⟩ : ∃ n, R.length = n := ⟨_, rfl⟩
        rw [hn] at hvo hLn hR8
        have HN := Pin.Aside.mk hn
        have HLn := Pin.Aside.mk hLn
        subst hvo
        have HItA : Pin.Aside (∀ W, Below w.heap.size w W → ItoaOk n W.heap.size W) := Pin.Aside.mk fun W hW => itoa_tab n (by omega) W (HT.out.below hW)
        have HOr := Pin.Aside.mk (hi_order (oneL R 0 []) (by rw [hLn]; omega) (one_ok R (by omega)) po co wr HO'.out.ops (by rw [hLn]; exact HItA.out wr HB.out))
        unfold OrderMade at HOr
        rw [one_found R (by omega), hLn, hn] at HOr
        clear hLn hn
        go_wp2_with fail
        refine HOr.out.mono ?_
        rintro y w2 ⟨va, rfl, hva, hb2⟩
        have HO2 := Pin.Aside.mk (HO'.out.below hb2)
        have HB2 := Pin.Aside.mk (HB.out.trans (hb2.mono HB.out.size))
        have HVa := Pin.Aside.mk (show NumsAt w2 wr.heap.size va (List.range' 0 n) from hva)
        obtain ⟨pa, ca, hvaq, _, _⟩ := HVa.out.of
        rw [List.length_range'] at hvaq
        clear hva hb2 HO' HB HOr
        subst hvaq
        have hne0 : ((n : Int) != (n : Int)) = false := by simp
        go_upto_region 20 with fail
        go_loopw [16] (fun x wx => ∃ i : Nat, i ≤ n ∧ x = .int .i64 i ∧ wx = w2) (fun x _ => n - (intOf x).toNat)
        case atStart => exact ⟨0, by omega, rfl, rfl⟩
        case round =>
          obtain ⟨i, hi, rfl, hwx⟩ := hrel
          replace hwx := hwx.symm
          subst hwx
          by_cases hil : i < n
          · obtain ⟨pa', ca', qa, _, ha3⟩ := HVa.out.of
            obtain ⟨ga, hga, hca⟩ := ha3 i i (by rw [List.getElem?_range' hil]; simp)
            injection qa with qa1 qa2 qa3
            rw [← qa1] at hga
            clear qa1 qa2 qa3 ha3
            subst hga
            have hi0 : (0 : Int) ≤ (i : Int) := by omega
            have hi1 : (i : Int) < (n : Int) := by omega
            have hne : ((i : Int) != (i : Int)) = false := by simp
            go_wp2_with fail
            go_roundw
            case rel => exact ⟨i + 1, by omega, by go_num, by first | rfl | trivial⟩
            case measure => simp [intOf]; omega
          · obtain rfl : i = n := by omega
            have hLl := HLn.out
            have hok8 : R.length ≤ 10 := by rw [HN.out]; omega
            by_cases hn0 : i = 0
            · have hz : ((i : Int) == 0) = true := by simp [hn0]
              go_wp2_with fail
              go_ret
              exact ⟨rfl, HB2.out⟩
            · have hz : ((i : Int) == 0) = false := by simp; omega
              have hz2 : ¬ (i : Int) = 0 := by omega
              obtain ⟨kk, hkk, hkki⟩ : ∃ kk : Nat, Int.tmod b (i : Int) = (kk : Int) ∧ kk < i := by
                refine ⟨(b % (i : Int)).toNat, ?_, ?_⟩
                · rw [Int.tmod_eq_emod_of_nonneg hb.1]
                  have := Int.emod_nonneg b hz2
                  omega
                · have := Int.emod_lt_of_pos b (show 0 < (i : Int) by omega)
                  have := Int.emod_nonneg b hz2
                  omega
              have hbw : IntKind.i64.wrap b = b := by rw [IntKind.wrap_i64]; omega
              have hkR : kk < R.length := by rw [HN.out]; exact hkki
              obtain ⟨G, hG, hGn, hG1, hG2⟩ := HO2.out.form (by rw [hLl]; omega)
              clear hGn
              subst hG
              have hx : (oneL R 0 [])[kk]? = some (hAt (oneL R 0 []) kk) := by
                have h1 : kk < (oneL R 0 []).length := by rw [hLl]; exact hkki
                unfold hAt
                rw [List.getD, List.getElem?_eq_getElem h1]; rfl
              have HTn := Pin.Aside.mk (turned_none R kk hkR)
              have HTo := Pin.Aside.mk (turned_ok R hok8 kk hkR)
              have HOs := Pin.Aside.mk (fun h => opened_some R hok8 kk h)
              obtain ⟨rr, re, rd, hform, hre, _⟩ := one_form hkR
              obtain ⟨x, hxq⟩ : ∃ x, hAt (oneL R 0 []) kk = x := ⟨_, rfl⟩
              have hxre : 0 ≤ x.re ∧ x.re ≤ 11 := by rw [← hxq, hform]; exact hre
              rw [hxq] at hx
              have HTq : Pin.Aside (turned (oneL R 0 []) kk = (oneL R 0 []).set kk { x with re := x.re + 100 }) := Pin.Aside.mk (by unfold turned; rw [hxq])
              have HOq : Pin.Aside (opened (oneL R 0 []) kk = ((oneL R 0 []).set kk { x with re := x.re + 100 }).set kk { x with re := x.re + 100, stop := 0 }) := Pin.Aside.mk (by unfold opened turned; rw [hxq])
              clear hform hre hxq
              obtain ⟨M, hM⟩ : ∃ M, oneL R 0 [] = M := ⟨_, rfl⟩
              rw [hM] at HO2 hx HTn HTo HOs HTq HOq hLl
              have c13 := HO2.out.range' hx 13 (.int .i64 x.re) rfl
              have f13 := HO2.out.there hLl.symm (kk * 15 + 13)
              have hw1 : IntKind.i64.wrap (x.re + 100) = x.re + 100 := by rw [IntKind.wrap_i64]; omega
              have hk0 : (0 : Int) ≤ (kk : Int) := by omega
              have hk1 : (kk : Int) < (i : Int) := by omega
              have hT1 := HO2.out.store hLl.symm (j := kk) (i := 13) (x := x) (y := { x with re := x.re + 100 }) (v := .int .i64 (x.re + 100)) hx (by decide) rfl
              have HT1 := Pin.Aside.mk hT1
              have hBs := ((Keep.refl (fun j => j = G) w2).setCell (p := ⟨G, kk * 15 + 13, none⟩) (.inl rfl) (.int .i64 (x.re + 100))).below HB2.out.size (by rintro j rfl; exact hG1)
              have HB3 := Pin.Aside.mk (HB2.out.trans hBs)
              have HMl := Pin.Aside.mk hLl
              clear hT1 hBs
              go_upto_region 28 with fail
              clear c13 f13 hw1
              generalize w2.setCell ⟨G, kk * 15 + 13, none⟩ (.int .i64 (x.re + 100)) = w3 at *
              rw [← HTq.out] at HT1
              have HLg := Pin.Aside.mk (hi_legal (turned M kk) (by rw [turned_len, HMl.out]; omega) HTo.out.1 (some ⟨G, 0, none⟩) co w3 HT1.out.ops (by rw [turned_len, HMl.out]; exact HItA.out w3 HB3.out))
              rw [HTn.out, turned_len, HMl.out] at HLg
              rw [HTq.out] at HT1
              go_wp2_with fail
              refine HLg.out.mono ?_
              rintro y w4 ⟨rfl, hb4⟩
              have HT4 := Pin.Aside.mk (HT1.out.below hb4)
              have HB4 := Pin.Aside.mk (HB3.out.trans (hb4.mono HB3.out.size))
              clear hb4 HLg HT1 HB3
              have hx4 : (M.set kk { x with re := x.re + 100 })[kk]? = some { x with re := x.re + 100 } := by
                rw [List.getElem?_set, if_pos rfl, if_pos (by rw [HMl.out]; exact hkki)]
              have hl4 : (M.set kk { x with re := x.re + 100 }).length = i := by rw [List.length_set]; exact HMl.out
              have c12 := HT4.out.range' hx4 12 (.int .u64 x.stop) rfl
              have f12 := HT4.out.there hl4.symm (kk * 15 + 12)
              have HT5 := Pin.Aside.mk (HT4.out.store hl4.symm (j := kk) (i := 12) (x := { x with re := x.re + 100 }) (y := { x with re := x.re + 100, stop := 0 }) (v := .int .u64 0) hx4 (by decide) rfl)
              have HB5 := Pin.Aside.mk (HB4.out.trans (((Keep.refl (fun j => j = G) w4).setCell (p := ⟨G, kk * 15 + 12, none⟩) (.inl rfl) (.int .u64 0)).below HB4.out.size (by rintro j rfl; exact hG1)))
              clear hx4 hl4 HT4 HB4
              go_upto_if 112 with fail
              clear c12 f12
              generalize w4.setCell ⟨G, kk * 15 + 12, none⟩ (.int .u64 0) = w5 at *
              rw [← HOq.out] at HT5
              have HLo := Pin.Aside.mk (hi_legal (opened M kk) (by rw [opened_len, HMl.out]; omega) HTo.out.2 (some ⟨G, 0, none⟩) co w5 HT5.out.ops (by rw [opened_len, HMl.out]; exact HItA.out w5 HB5.out))
              rw [opened_len, HMl.out] at HLo
              have hsub : IntKind.i64.wrap ((i : Int) - 1) = (i : Int) - 1 := by rw [IntKind.wrap_i64]; omega
              have HFin : Pin.Aside (∀ bo, (hOrder (opened M kk)).isSome = bo → bo = true ∨ kk + 1 ≠ i) := Pin.Aside.mk fun bo hbo => by
                by_cases h : kk + 1 = i
                · left; rw [← hbo]; exact HOs.out (by rw [HN.out]; exact h)
                · exact .inr h
              obtain ⟨bo, hbo⟩ : ∃ bo, (hOrder (opened M kk)).isSome = bo := ⟨_, rfl⟩
              rw [hbo] at HLo
              have hfin := HFin.out bo hbo
              clear hbo
              by_cases hlast : (kk : Int) < (i : Int) - 1
              · cases tn
                · go_wp2_with fail
                  go_ret
                  exact ⟨rfl, HB5.out⟩
                · cases bo
                  · go_wp2_with fail
                    refine HLo.out.mono ?_
                    rintro y w6 ⟨rfl, hb6⟩
                    have HBf := Pin.Aside.mk (HB5.out.trans (hb6.mono HB5.out.size))
                    go_wp2_with fail
                    go_ret
                    exact ⟨rfl, HBf.out⟩
                  · go_wp2_with fail
                    refine HLo.out.mono ?_
                    rintro y w6 ⟨rfl, hb6⟩
                    have HBf := Pin.Aside.mk (HB5.out.trans (hb6.mono HB5.out.size))
                    go_wp2_with fail
                    go_ret
                    exact ⟨rfl, HBf.out⟩
              · have hb1 : bo = true := by
                  rcases hfin with h | h
                  · exact h
                  · omega
                subst hb1
                cases tn
                · go_wp2_with fail
                  refine HLo.out.mono ?_
                  rintro y w6 ⟨rfl, hb6⟩
                  have HBf := Pin.Aside.mk (HB5.out.trans (hb6.mono HB5.out.size))
                  go_wp2_with fail
                  go_ret
                  exact ⟨rfl, HBf.out⟩
                · go_wp2_with fail
                  refine HLo.out.mono ?_
                  rintro y w6 ⟨rfl, hb6⟩
                  have HBf := Pin.Aside.mk (HB5.out.trans (hb6.mono HB5.out.size))
                  go_wp2_with fail
                  go_ret
                  exact ⟨rfl, HBf.out⟩
      · have i1 : ¬ (k : Int) < (len0 : Int) := by omega
        clear h1
        go_upto_region 16 with fail
        have hLn := oneL_len R 0 []
        obtain ⟨po, co, hvo⟩ := HO'.out.slice
        rw [hLn] at hvo
        obtain ⟨n, hn⟩ : ∃ n, R.length = n := ⟨_, rfl⟩
        rw [hn] at hvo hLn hR8
        have HN := Pin.Aside.mk hn
        have HLn := Pin.Aside.mk hLn
        subst hvo
        have HItA : Pin.Aside (∀ W, Below w.heap.size w W → ItoaOk n W.heap.size W) := Pin.Aside.mk fun W hW => itoa_tab n (by omega) W (HT.out.below hW)
        have HOr := Pin.Aside.mk (hi_order (oneL R 0 []) (by rw [hLn]; omega) (one_ok R (by omega)) po co wr HO'.out.ops (by rw [hLn]; exact HItA.out wr HB.out))
        unfold OrderMade at HOr
        rw [one_found R (by omega), hLn, hn] at HOr
        clear hLn hn
        go_wp2_with fail
        refine HOr.out.mono ?_
        rintro y w2 ⟨va, rfl, hva, hb2⟩
        have HO2 := Pin.Aside.mk (HO'.out.below hb2)
        have HB2 := Pin.Aside.mk (HB.out.trans (hb2.mono HB.out.size))
        have HVa := Pin.Aside.mk (show NumsAt w2 wr.heap.size va (List.range' 0 n) from hva)
        obtain ⟨pa, ca, hvaq, _, _⟩ := HVa.out.of
        rw [List.length_range'] at hvaq
        clear hva hb2 HO' HB HOr
        subst hvaq
        have hne0 : ((n : Int) != (n : Int)) = false := by simp
        go_upto_region 20 with fail
        go_loopw [16] (fun x wx => ∃ i : Nat, i ≤ n ∧ x = .int .i64 i ∧ wx = w2) (fun x _ => n - (intOf x).toNat)
        case atStart => exact ⟨0, by omega, rfl, rfl⟩
        case round =>
          obtain ⟨i, hi, rfl, hwx⟩ := hrel
          replace hwx := hwx.symm
          subst hwx
          by_cases hil : i < n
          · obtain ⟨pa', ca', qa, _, ha3⟩ := HVa.out.of
            obtain ⟨ga, hga, hca⟩ := ha3 i i (by rw [List.getElem?_range' hil]; simp)
            injection qa with qa1 qa2 qa3
            rw [← qa1] at hga
            clear qa1 qa2 qa3 ha3
            subst hga
            have hi0 : (0 : Int) ≤ (i : Int) := by omega
            have hi1 : (i : Int) < (n : Int) := by omega
            have hne : ((i : Int) != (i : Int)) = false := by simp
            go_wp2_with fail
            go_roundw
            case rel => exact ⟨i + 1, by omega, by go_num, by first | rfl | trivial⟩
            case measure => simp [intOf]; omega
          · obtain rfl : i = n := by omega
            have hLl := HLn.out
            have hok8 : R.length ≤ 10 := by rw [HN.out]; omega
            by_cases hn0 : i = 0
            · have hz : ((i : Int) == 0) = true := by simp [hn0]
              go_wp2_with fail
              go_ret
              exact ⟨rfl, HB2.out⟩
            · have hz : ((i : Int) == 0) = false := by simp; omega
              have hz2 : ¬ (i : Int) = 0 := by omega
              obtain ⟨kk, hkk, hkki⟩ : ∃ kk : Nat, Int.tmod b (i : Int) = (kk : Int) ∧ kk < i := by
                refine ⟨(b % (i : Int)).toNat, ?_, ?_⟩
                · rw [Int.tmod_eq_emod_of_nonneg hb.1]
                  have := Int.emod_nonneg b hz2
                  omega
                · have := Int.emod_lt_of_pos b (show 0 < (i : Int) by omega)
                  have := Int.emod_nonneg b hz2
                  omega
              have hbw : IntKind.i64.wrap b = b := by rw [IntKind.wrap_i64]; omega
              have hkR : kk < R.length := by rw [HN.out]; exact hkki
              obtain ⟨G, hG, hGn, hG1, hG2⟩ := HO2.out.form (by rw [hLl]; omega)
              clear hGn
              subst hG
              have hx : (oneL R 0 [])[kk]? = some (hAt (oneL R 0 []) kk) := by
                have h1 : kk < (oneL R 0 []).length := by rw [hLl]; exact hkki
                unfold hAt
                rw [List.getD, List.getElem?_eq_getElem h1]; rfl
              have HTn := Pin.Aside.mk (turned_none R kk hkR)
              have HTo := Pin.Aside.mk (turned_ok R hok8 kk hkR)
              have HOs := Pin.Aside.mk (fun h => opened_some R hok8 kk h)
              obtain ⟨rr, re, rd, hform, hre, _⟩ := one_form hkR
              obtain ⟨x, hxq⟩ : ∃ x, hAt (oneL R 0 []) kk = x := ⟨_, rfl⟩
              have hxre : 0 ≤ x.re ∧ x.re ≤ 11 := by rw [← hxq, hform]; exact hre
              rw [hxq] at hx
              have HTq : Pin.Aside (turned (oneL R 0 []) kk = (oneL R 0 []).set kk { x with re := x.re + 100 }) := Pin.Aside.mk (by unfold turned; rw [hxq])
              have HOq : Pin.Aside (opened (oneL R 0 []) kk = ((oneL R 0 []).set kk { x with re := x.re + 100 }).set kk { x with re := x.re + 100, stop := 0 }) := Pin.Aside.mk (by unfold opened turned; rw [hxq])
              clear hform hre hxq
              obtain ⟨M, hM⟩ : ∃ M, oneL R 0 [] = M := ⟨_, rfl⟩
              rw [hM] at HO2 hx HTn HTo HOs HTq HOq hLl
              have c13 := HO2.out.range' hx 13 (.int .i64 x.re) rfl
              have f13 := HO2.out.there hLl.symm (kk * 15 + 13)
              have hw1 : IntKind.i64.wrap (x.re + 100) = x.re + 100 := by rw [IntKind.wrap_i64]; omega
              have hk0 : (0 : Int) ≤ (kk : Int) := by omega
              have hk1 : (kk : Int) < (i : Int) := by omega
              have hT1 := HO2.out.store hLl.symm (j := kk) (i := 13) (x := x) (y := { x with re := x.re + 100 }) (v := .int .i64 (x.re + 100)) hx (by decide) rfl
              have HT1 := Pin.Aside.mk hT1
              have hBs := ((Keep.refl (fun j => j = G) w2).setCell (p := ⟨G, kk * 15 + 13, none⟩) (.inl rfl) (.int .i64 (x.re + 100))).below HB2.out.size (by rintro j rfl; exact hG1)
              have HB3 := Pin.Aside.mk (HB2.out.trans hBs)
              have HMl := Pin.Aside.mk hLl
              clear hT1 hBs
              go_upto_region 28 with fail
              clear c13 f13 hw1
              generalize w2.setCell ⟨G, kk * 15 + 13, none⟩ (.int .i64 (x.re + 100)) = w3 at *
              rw [← HTq.out] at HT1
              have HLg := Pin.Aside.mk (hi_legal (turned M kk) (by rw [turned_len, HMl.out]; omega) HTo.out.1 (some ⟨G, 0, none⟩) co w3 HT1.out.ops (by rw [turned_len, HMl.out]; exact HItA.out w3 HB3.out))
              rw [HTn.out, turned_len, HMl.out] at HLg
              rw [HTq.out] at HT1
              go_wp2_with fail
              refine HLg.out.mono ?_
              rintro y w4 ⟨rfl, hb4⟩
              have HT4 := Pin.Aside.mk (HT1.out.below hb4)
              have HB4 := Pin.Aside.mk (HB3.out.trans (hb4.mono HB3.out.size))
              clear hb4 HLg HT1 HB3
              have hx4 : (M.set kk { x with re := x.re + 100 })[kk]? = some { x with re := x.re + 100 } := by
                rw [List.getElem?_set, if_pos rfl, if_pos (by rw [HMl.out]; exact hkki)]
              have hl4 : (M.set kk { x with re := x.re + 100 }).length = i := by rw [List.length_set]; exact HMl.out
              have c12 := HT4.out.range' hx4 12 (.int .u64 x.stop) rfl
              have f12 := HT4.out.there hl4.symm (kk * 15 + 12)
              have HT5 := Pin.Aside.mk (HT4.out.store hl4.symm (j := kk) (i := 12) (x := { x with re := x.re + 100 }) (y := { x with re := x.re + 100, stop := 0 }) (v := .int .u64 0) hx4 (by decide) rfl)
              have HB5 := Pin.Aside.mk (HB4.out.trans (((Keep.refl (fun j => j = G) w4).setCell (p := ⟨G, kk * 15 + 12, none⟩) (.inl rfl) (.int .u64 0)).below HB4.out.size (by rintro j rfl; exact hG1)))
              clear hx4 hl4 HT4 HB4
              go_upto_if 112 with fail
              clear c12 f12
              generalize w4.setCell ⟨G, kk * 15 + 12, none⟩ (.int .u64 0) = w5 at *
              rw [← HOq.out] at HT5
              have HLo := Pin.Aside.mk (hi_legal (opened M kk) (by rw [opened_len, HMl.out]; omega) HTo.out.2 (some ⟨G, 0, none⟩) co w5 HT5.out.ops (by rw [opened_len, HMl.out]; exact HItA.out w5 HB5.out))
              rw [opened_len, HMl.out] at HLo
              have hsub : IntKind.i64.wrap ((i : Int) - 1) = (i : Int) - 1 := by rw [IntKind.wrap_i64]; omega
              have HFin : Pin.Aside (∀ bo, (hOrder (opened M kk)).isSome = bo → bo = true ∨ kk + 1 ≠ i) := Pin.Aside.mk fun bo hbo => by
                by_cases h : kk + 1 = i
                · left; rw [← hbo]; exact HOs.out (by rw [HN.out]; exact h)
                · exact .inr h
              obtain ⟨bo, hbo⟩ : ∃ bo, (hOrder (opened M kk)).isSome = bo := ⟨_, rfl⟩
              rw [hbo] at HLo
              have hfin := HFin.out bo hbo
              clear hbo
              by_cases hlast : (kk : Int) < (i : Int) - 1
              · cases tn
                · go_wp2_with fail
                  go_ret
                  exact ⟨rfl, HB5.out⟩
                · cases bo
                  · go_wp2_with fail
                    refine HLo.out.mono ?_
                    rintro y w6 ⟨rfl, hb6⟩
                    have HBf := Pin.Aside.mk (HB5.out.trans (hb6.mono HB5.out.size))
                    go_wp2_with fail
                    go_ret
                    exact ⟨rfl, HBf.out⟩
                  · go_wp2_with fail
                    refine HLo.out.mono ?_
                    rintro y w6 ⟨rfl, hb6⟩
                    have HBf := Pin.Aside.mk (HB5.out.trans (hb6.mono HB5.out.size))
                    go_wp2_with fail
                    go_ret
                    exact ⟨rfl, HBf.out⟩
              · have hb1 : bo = true := by
                  rcases hfin with h | h
                  · exact h
                  · omega
                subst hb1
                cases tn
                · go_wp2_with fail
                  refine HLo.out.mono ?_
                  rintro y w6 ⟨rfl, hb6⟩
                  have HBf := Pin.Aside.mk (HB5.out.trans (hb6.mono HB5.out.size))
                  go_wp2_with fail
                  go_ret
                  exact ⟨rfl, HBf.out⟩
                · go_wp2_with fail
                  refine HLo.out.mono ?_
                  rintro y w6 ⟨rfl, hb6⟩
                  have HBf := Pin.Aside.mk (HB5.out.trans (hb6.mono HB5.out.size))
                  go_wp2_with fail
                  go_ret
                  exact ⟨rfl, HBf.out⟩
end Go.Proofs.YtnilfjkodlmenaaDoor
