/- HistoryShift: walk. -/
import Derived.Test.YtnilfjkodlmenaaDoorHistoryShiftM
import Derived.Test.YtnilfjkodlmenaaDoorHiI
import Derived.Test.YtnilfjkodlmenaaDoorHiJ
import Derived.Test.YtnilfjkodlmenaaDoorHiX
import Derived.BigQuiet
import Derived.Deep.AppendLies
import Derived.Deep.CutBlock
import Derived.Deep.MidRow
set_option maxRecDepth 16000
namespace Go.Pin
open Go.RowKit
theorem hRow.range {w : World} {H g n c : Nat} {L : List HOp} (h : hRow w H (.slice (some ⟨g, 0, none⟩) n c) L) {k : Nat} {x : HOp} (hx : L[k]? = some x) : w.rangeAt g (k * 15) x.cells.toList := by
  intro i v hv
  obtain ⟨A, o, q, h1⟩ := h.ops.at' k x hx
  injection q with q
  injection q with q1 q2
  subst q1 q2
  have := h1.row i v hv
  rw [Nat.zero_add] at this; exact this
theorem hRow.one (w : World) (H : Nat) (hH : H ≤ w.heap.size) (y : HOp) : hRow (w.alloc (.cells y.cells 33)) H (.slice (some ⟨w.heap.size, 0, none⟩) 1 1) [y] := by
  have := hRow.made w H [y] hH (by show (1 : Nat) ≤ maxLen; unfold maxLen; omega)
  have h2 : (hFlat [y]).toArray = y.cells := by
    rw [hFlat_cons]
    show (y.cells.toList ++ []).toArray = y.cells
    rw [List.append_nil]
  rw [h2] at this
  exact this
end Go.Pin
namespace Go.Proofs.YtnilfjkodlmenaaDoor
open Go.RowKit Go.Pin
set_option linter.unusedVariables false
set_option linter.unusedSimpArgs false
set_option maxHeartbeats 12800000 in
theorem historyShift_walk (a0 : Option Addr) (len0 cap0 : Nat) (b : Int) (w : World) (H0 : isSlice rawPs w (.slice a0 len0 cap0)) (hb : 0 ≤ b ∧ b ≤ 255) :
    Calls Tryd.prog 7 #[.slice a0 len0 cap0, .int .u8 b] w fun e w' => e = .returned (.bool true) ∧ Below w.heap.size w w' := by
  obtain ⟨R, hR, _⟩ := raws_of_slice H0
  have hl63 : len0 ≤ 9223372036854775807 := by
    obtain ⟨a', l', c', q, h1, h2, _⟩ := H0
    injection q with q1 q2 q3
    omega
  have hRo : ∀ r ∈ R.take 6, r.ok := fun r hr => hR.ok r (List.mem_of_mem_take hr)
  have hl6 : (R.take 6).length ≤ 6 := by rw [List.length_take]; omega
  have HE := Pin.Aside.mk (fun W => law21_examples W)
  have HSt := Pin.Aside.mk (fun W hW => hi_story a0 len0 cap0 R 6 (by omega) hl63 W hW)
  have HR := Pin.Aside.mk hR
  have HLok := Pin.Aside.mk (story_ok (R.take 6) hRo)
  have HLr := Pin.Aside.mk (story_right (R.take 6) hRo (by omega))
  have HSok := Pin.Aside.mk (story_shift_ok (R.take 6) hRo b hb)
  have HSr := Pin.Aside.mk (story_shift_right (R.take 6) hRo (by omega) b hb)
  have HSt0 := Pin.Aside.mk (story_stop (R.take 6) hRo)
  have hsmall := Pin.Aside.mk (story_small (R.take 6) hRo)
  have hLl : (hStory (R.take 6) []).length ≤ 6 := by rw [story_len]; exact hl6
  have HB := Pin.Aside.mk (Below.refl w.heap.size w)
  clear H0 hR hRo hl6 hl63
  obtain ⟨L, hLq⟩ : ∃ L, hStory (R.take 6) [] = L := ⟨_, rfl⟩
  rw [hLq] at HSt HLok HLr HSok HSr HSt0 hLl hsmall
  clear hLq
  have HO := Pin.Aside.mk (shift_order b hb.1 L HSt0.out HLr.out HSr.out)
  have HRev := Pin.Aside.mk (rev_legal L HLr.out)
  obtain ⟨n, hn⟩ : ∃ n, L.length = n := ⟨_, rfl⟩
  have HN := Pin.Aside.mk hn
  rw [hn] at hLl
  clear hn
  go_enter Tryd.func7, Tryd.ntmps7
  go_wp2_with fail
  refine (HE.out _).mono ?_
  rintro x w1 ⟨rfl, hb1⟩
  replace HB := Pin.Aside.mk (HB.out.trans (hb1.mono HB.out.size))
  have HSt1 := Pin.Aside.mk (HSt.out w1 (HR.out.keep (Keep.of_below hb1 fun _ q _ => q : Keep (fun _ => False) w w1) fun _ _ _ _ => id))
  clear hb1 HE HSt
  go_wp2_with fail
  refine HSt1.out.mono ?_
  rintro y w2 ⟨v6, rfl, hrow, hb2⟩
  obtain ⟨p6, c6, rfl⟩ := hrow.slice
  rw [HN.out]
  replace HB := Pin.Aside.mk (HB.out.trans (hb2.mono HB.out.size))
  have HW6 := Pin.Aside.mk (show hRow w2 w1.heap.size (.slice p6 n c6) L by rw [← HN.out]; exact hrow)
  clear hrow hb2 HSt1
  have hp6 : ∀ g o, p6 = some ⟨g, o, none⟩ → g < w2.heap.size := fun g o q => (World.ownsRow.lt HW6.out g (by rw [q]; rfl)).2
  have HP6 := Pin.Aside.mk hp6
  clear hp6
  obtain ⟨H1, hH1⟩ : ∃ H, w2.heap.size = H := ⟨_, rfl⟩
  have HH1 := Pin.Aside.mk hH1
  rw [hH1] at HP6
  have hwH : w.heap.size ≤ H1 := by rw [← hH1]; exact HB.out.size
  clear hH1
  go_upto_region 8 with fail
  go_loopw [7, 8, 9] (fun x y z wr => ∃ (k : Nat) (v7 v8 : Value), k ≤ n ∧ x = v7 ∧ y = v8 ∧ z = .int .i64 k ∧ Pin.Aside (hRow wr H1 v7 ((L.take k).map (hShift b))) ∧ Pin.Aside (hRow wr H1 v8 (L.take k).reverse) ∧ Pin.Aside (∀ g, v7.ownBlock = some g → v8.ownBlock ≠ some g) ∧ Pin.Aside (hRow wr w1.heap.size (.slice p6 n c6) L) ∧ Pin.Aside (Below w.heap.size w wr) ∧ Pin.Aside (H1 ≤ wr.heap.size)) (fun x y z _ => n - (intOf z).toNat)
  case atStart => exact ⟨0, .slice none 0 0, .slice none 0 0, by omega, rfl, rfl, rfl, Pin.Aside.mk (hRow.nil _ _), Pin.Aside.mk (hRow.nil _ _), Pin.Aside.mk (fun g q => by cases q), HW6, HB, Pin.Aside.mk (Nat.le_of_eq HH1.out.symm)⟩
  case round =>
    clear HW6 HB HH1
    obtain ⟨k, v7, v8, hk, e7, e8, rfl, H7, H8, HSep, H6, HB, HHr⟩ := hrel
    replace e7 := e7.symm
    replace e8 := e8.symm
    subst e7 e8
    by_cases hlt : k < n
    · obtain ⟨x, hx⟩ : ∃ x, L[k]? = some x := ⟨L[k]'(by rw [HN.out]; exact hlt), List.getElem?_eq_getElem _⟩
      have HX := Pin.Aside.mk hx
      obtain ⟨G, hG, hGn, hG1, hG2⟩ := H6.out.form (by rw [HN.out]; omega)
      clear hGn
      have hGH : G < H1 := HP6.out G 0 hG
      subst hG
      have hrg : wr.rangeAt G (k * 15) x.cells.toList := H6.out.range hx
      have hri : (Tryd.prog.info? 33).map (·.size) = some x.cells.toList.length := op_size
      have hk0 : (0 : Int) ≤ (k : Int) := by omega
      have hk1 : (k : Int) < (n : Int) := by omega
      have hxo := HLok.out x (List.mem_of_getElem? hx)
      have hxs : 0 ≤ x.start ∧ x.start ≤ 1000 ∧ 0 ≤ x.stop ∧ x.stop ≤ 1000 := hsmall.out x (List.mem_of_getElem? hx)
      have hXb := BoxAt.new wr 33 x
      have hka := (Keep.refl (fun _ => False) wr).alloc (.cells x.cells 33)
      have H7a := Pin.Aside.mk (H7.out.keep hka fun _ _ _ => id)
      have H8a := Pin.Aside.mk (H8.out.keep hka fun _ _ _ => id)
      have H6a := Pin.Aside.mk (H6.out.keep hka fun _ _ _ => id)
      have HBa := Pin.Aside.mk (HB.out.trans (hka.below HB.out.size fun _ q => q.elim))
      have hE7 : ∀ g, v7.ownBlock = some g → H1 ≤ g ∧ g < wr.heap.size := fun g hg => World.ownsRow.lt H7.out g hg
      have hE8 : ∀ g, v8.ownBlock = some g → H1 ≤ g ∧ g < wr.heap.size := fun g hg => World.ownsRow.lt H8.out g hg
      have HE7 := Pin.Aside.mk hE7
      have HE8 := Pin.Aside.mk hE8
      have hHE := HHr.out
      clear hx hka hxo hE7 hE8 H7 H8 H6 HB
      unfold HOp.cells at *
      go_upto_region 10 with fail
      go_upto_region 11 with (with_reducible refine wpList_load_mid rfl 33 (.tmp 29) rfl G (k * 15) rfl x.cells.toList _ hrg Tryd.underlying33 rfl hri ?_)
      generalize wr.alloc (.cells #[.int .u64 x.e.term, .int .u64 x.e.index, .int .i64 x.e.kind, .int .u64 x.e.client, .int .u64 x.e.seq, .int .u64 x.e.block, .int .u64 x.e.many, .int .i64 x.e.node, .int .i64 x.e.level, .string x.e.data, .string x.e.old, .int .u64 x.start, .int .u64 x.stop, .int .i64 x.re, .string x.rd] 33) = w5 at *
      generalize wr.heap.size = E at *
      have hbw : IntKind.u64.wrap b = b := by rw [IntKind.wrap_u64]; omega
      have hadd : IntKind.u64.wrap (x.start + b) = x.start + b := by rw [IntKind.wrap_u64]; omega
      have hadd2 : IntKind.u64.wrap (x.stop + b) = x.stop + b := by rw [IntKind.wrap_u64]; omega
      have e11 := hXb.cell 11 (.int .u64 x.start) rfl
      have e12 := hXb.cell 12 (.int .u64 x.stop) rfl
      have f11 := hXb.fr 11
      have f12 := hXb.fr 12
      have HXb := Pin.Aside.mk hXb
      have HGE : Pin.Aside (¬ G = E) := Pin.Aside.mk (by omega)
      have H7E : Pin.Aside (∀ g, v7.ownBlock = some g → ¬ g = E) := Pin.Aside.mk fun g hg => by have := HE7.out g hg; omega
      have H8E : Pin.Aside (∀ g, v8.ownBlock = some g → ¬ g = E) := Pin.Aside.mk fun g hg => by have := HE8.out g hg; omega
      have hwE : w.heap.size ≤ E := by omega
      clear hXb hrg
      go_upto_if 39 with fail
      go_cut [9] from 21 to 56 (fun v wx => v = .int .i64 k ∧ Pin.Aside (BoxAt wx E (hShift b x)) ∧ Pin.Aside (hRow wx H1 v7 ((L.take k).map (hShift b))) ∧ Pin.Aside (hRow wx H1 v8 (L.take k).reverse) ∧ Pin.Aside (hRow wx w1.heap.size (.slice (some ⟨G, 0, none⟩) n c6) L) ∧ Pin.Aside (Below w.heap.size w wx) ∧ Pin.Aside (E ≤ wx.heap.size))
      case first =>
        have hks := (Keep.refl (fun j => j = E) w5).setCell (p := ⟨E, 11, none⟩) (.inl rfl) (.int .u64 (x.start + b))
        have hX1 := HXb.out.set (y := { x with start := x.start + b }) (i := 11) (v := .int .u64 (x.start + b)) (by decide) rfl
        by_cases hz : 0 < x.stop
        · have hks2 := hks.setCell (p := ⟨E, 12, none⟩) (.inl rfl) (.int .u64 (x.stop + b))
          have HX2 := Pin.Aside.mk (hX1.set (y := { x with start := x.start + b, stop := x.stop + b }) (i := 12) (v := .int .u64 (x.stop + b)) (by decide) rfl)
          have HSh : Pin.Aside (hShift b x = { x with start := x.start + b, stop := x.stop + b }) := Pin.Aside.mk (by unfold hShift; rw [if_pos hz])
          have K7 := Pin.Aside.mk (hRow.keepO H7a.out hks2 H7E.out)
          have K8 := Pin.Aside.mk (hRow.keepO H8a.out hks2 H8E.out)
          have K6 := Pin.Aside.mk (hRow.keepB H6a.out hks2 HGE.out)
          have KB := Pin.Aside.mk (HBa.out.trans (hks2.below HBa.out.size (by rintro j rfl; exact hwE)))
          have KZ := Pin.Aside.mk (Nat.le_trans (Nat.le_of_lt HXb.out.lt) hks2.size)
          clear hks hks2 hX1
          go_wp2_with fail
          go_meet
          exact ⟨rfl, Pin.Aside.mk (by rw [HSh.out]; exact HX2.out), K7, K8, K6, KB, KZ⟩
        · have HX2 := Pin.Aside.mk hX1
          have HSh : Pin.Aside (hShift b x = { x with start := x.start + b }) := Pin.Aside.mk (by unfold hShift; rw [if_neg hz])
          have K7 := Pin.Aside.mk (hRow.keepO H7a.out hks H7E.out)
          have K8 := Pin.Aside.mk (hRow.keepO H8a.out hks H8E.out)
          have K6 := Pin.Aside.mk (hRow.keepB H6a.out hks HGE.out)
          have KB := Pin.Aside.mk (HBa.out.trans (hks.below HBa.out.size (by rintro j rfl; exact hwE)))
          have KZ := Pin.Aside.mk (Nat.le_trans (Nat.le_of_lt HXb.out.lt) hks.size)
          clear hks hX1
          go_wp2_with fail
          go_meet
          exact ⟨rfl, Pin.Aside.mk (by rw [HSh.out]; exact HX2.out), K7, K8, K6, KB, KZ⟩
      case rest =>
        clear e11 e12 f11 f12 HXb H7a H8a H6a HBa
        obtain ⟨rfl, HXb, H7, H8, H6, HB, HZ⟩ := hcut
        rename World => w6
        obtain ⟨y, hy⟩ : ∃ y, hShift b x = y := ⟨_, rfl⟩
        rw [hy] at HXb
        have HY := Pin.Aside.mk hy
        clear hy
        have hrg : w6.rangeAt E 0 y.cells.toList := fun i v hv => HXb.out.op.row i v hv
        have hri : (Tryd.prog.info? 33).map (·.size) = some y.cells.toList.length := op_size
        have hri' : (Tryd.prog.info? 33).map (·.size) = some x.cells.toList.length := op_size
        have hH6 : H1 ≤ w6.heap.size := by have := HZ.out; omega
        have hka := (Keep.refl (fun _ => False) w6).alloc (.cells y.cells 33)
        have hr7 := H7.out.keep hka fun _ _ _ => id
        have hr1 := hRow.one w6 H1 hH6 y
        have hH6a : H1 ≤ (w6.alloc (.cells y.cells 33)).heap.size := Nat.le_trans hH6 hka.size
        go_upto_region 14 with fail
        go_upto_region 15 with (first | (with_reducible refine wpList_load_mid rfl 33 (.tmp 10) rfl E 0 rfl y.cells.toList _ hrg Tryd.underlying33 rfl hri ?_) | (at_builtin; refine wpList_op_append rfl _ _ rfl H1 hH6a v7 _ _ _ rfl rfl hr7 hr1 (by rw [List.length_map, List.length_take]; omega) (by show (1 : Nat) ≤ 1000; decide) ?_; intro v7' w7 hr7' hg7 hat7))
        have hL1 : ((L.take (k + 1)).map (hShift b)) = (L.take k).map (hShift b) ++ [y] := by rw [take_snoc HX.out, List.map_append, ← HY.out]; rfl
        have K7 := Pin.Aside.mk (show hRow w7 H1 v7' ((L.take (k + 1)).map (hShift b)) by rw [hL1]; exact hr7')
        have hkg := keep_grownBy hg7
        have K8 := Pin.Aside.mk (hRow.keepO (H8.out.keep hka fun _ _ _ => id) hkg (fun g hg q => HSep.out g q hg))
        have K6 := Pin.Aside.mk (hRow.keepB (H6.out.keep hka fun _ _ _ => id) hkg (fun q => by have := (HE7.out G q).1; omega))
        have KB := Pin.Aside.mk ((HB.out.trans (hka.below HB.out.size fun _ q => q.elim)).trans (hkg.below (B := w.heap.size) (Nat.le_trans hwH hH6a) (fun j q => by have := (HE7.out j q).1; omega)))
        have KZ := Pin.Aside.mk (Nat.le_trans hH6a hkg.size)
        have K7o : Pin.Aside (∀ g, v7'.ownBlock = some g → g < w7.heap.size) := Pin.Aside.mk fun g hg => (World.ownsRow.lt hr7' g hg).2
        clear hrg hka hr7 hr1 hH6a hr7' hg7 hat7 hL1 hkg H7 H8 H6 HB HZ HXb
        have hH7 := KZ.out
        have hrg : w7.rangeAt G (k * 15) x.cells.toList := K6.out.range HX.out
        have hka := (Keep.refl (fun _ => False) w7).alloc (.cells x.cells 33)
        have hr8 := K8.out.keep hka fun _ _ _ => id
        have hr1 := hRow.one w7 H1 hH7 x
        have hH7a : H1 ≤ (w7.alloc (.cells x.cells 33)).heap.size := Nat.le_trans hH7 hka.size
        go_wp2_with (first | (with_reducible refine wpList_load_mid rfl 33 (.tmp 52) rfl G (k * 15) rfl x.cells.toList _ hrg Tryd.underlying33 rfl hri' ?_) | (at_builtin; refine wpList_op_append rfl _ _ rfl H1 hH7a _ v8 _ _ rfl rfl hr1 hr8 (by show (1 : Nat) ≤ 1000; decide) (by rw [List.length_reverse, List.length_take]; omega) ?_; intro v8' w8 hr8' hg8 hat8))
        have hL2 : (L.take (k + 1)).reverse = [x] ++ (L.take k).reverse := by rw [take_snoc HX.out, List.reverse_append]; rfl
        have M8 := Pin.Aside.mk (show hRow w8 H1 v8' (L.take (k + 1)).reverse by rw [hL2]; exact hr8')
        have hkg := keep_grownBy hg8
        have h8o : Value.ownBlock (.slice (some ⟨w7.heap.size, 0, none⟩) 1 1) = some w7.heap.size := rfl
        have M7 := Pin.Aside.mk (hRow.keepO (K7.out.keep hka fun _ _ _ => id) hkg (fun g hg q => by
          have h1 := K7o.out g hg
          have q' : some w7.heap.size = some g := q
          injection q' with q'; omega))
        have M6 := Pin.Aside.mk (hRow.keepB (K6.out.keep hka fun _ _ _ => id) hkg (fun q => by
          have q' : some w7.heap.size = some G := q
          injection q' with q'; omega))
        have MB := Pin.Aside.mk ((KB.out.trans (hka.below KB.out.size fun _ q => q.elim)).trans (hkg.below (B := w.heap.size) (Nat.le_trans hwH hH7a) (fun j q => by
          have q' : some w7.heap.size = some j := q
          injection q' with q'; omega)))
        have MZ := Pin.Aside.mk (Nat.le_trans hH7a hkg.size)
        have MSep : Pin.Aside (∀ g, v7'.ownBlock = some g → v8'.ownBlock ≠ some g) := Pin.Aside.mk fun g hg q => by
          have h1 := K7o.out g hg
          have h2 := World.size_alloc' w7 (.cells x.cells 33)
          rcases hat8 with h | h
          · rw [h] at q
            have q' : some w7.heap.size = some g := q
            injection q' with q'; omega
          · rw [h] at q
            injection q with q
            have q' : (w7.alloc (.cells x.cells 33)).heap.size = g := q
            omega
        clear hrg hka hr8 hr1 hH7a hr8' hg8 hat8 hL2 hkg K7 K8 K6 KB KZ K7o
        obtain ⟨q7, d7, hv7'⟩ := M7.out.slice
        obtain ⟨q8, d8, hv8'⟩ := M8.out.slice
        obtain ⟨n7, hn7⟩ : ∃ n7, (List.map (hShift b) (L.take (k + 1))).length = n7 := ⟨_, rfl⟩
        obtain ⟨n8, hn8⟩ : ∃ n8, (L.take (k + 1)).reverse.length = n8 := ⟨_, rfl⟩
        rw [hn7] at hv7'
        rw [hn8] at hv8'
        clear hn7 hn8
        subst hv7' hv8'
        go_wp2_with fail
        go_roundw
        case rel => exact ⟨k + 1, .slice q7 n7 d7, .slice q8 n8 d8, by omega, rfl, rfl, by go_num, M7, M8, MSep, M6, MB, MZ⟩
        case measure => simp [intOf]; omega
    · obtain rfl : k = n := by omega
      rw [List.take_of_length_le (by rw [HN.out]; exact Nat.le_refl _)] at H7 H8
      obtain ⟨p7, c7, hv7⟩ := H7.out.slice
      obtain ⟨p8, c8, hv8⟩ := H8.out.slice
      rw [List.length_map, HN.out] at hv7
      rw [List.length_reverse, HN.out] at hv8
      subst hv7 hv8
      have HO1 := Pin.Aside.mk (hi_order L (by rw [HN.out]; omega) HLok.out p6 c6 wr H6.out.ops (itoa_small _ (by rw [HN.out]; omega) _ _))
      rw [HN.out] at HO1
      unfold OrderMade at HO1
      obtain ⟨bo, hbo⟩ : ∃ b, (hOrder L).isSome = b := ⟨_, rfl⟩
      obtain ⟨r, hr⟩ : ∃ r, (hOrder L).getD [] = r := ⟨_, rfl⟩
      rw [hbo, hr] at HO1
      have HO' := HO.out
      go_wp2_with fail
      refine HO1.out.mono ?_
      rintro y w3 ⟨va, rfl, hva, hb3⟩
      have K7 := Pin.Aside.mk (H7.out.below hb3)
      have K8 := Pin.Aside.mk (H8.out.below hb3)
      have KB := Pin.Aside.mk (HB.out.trans (hb3.mono HB.out.size))
      have KA := Pin.Aside.mk hva
      obtain ⟨pa, ca, hvaq, _, _⟩ := hva.of
      have HO2 := Pin.Aside.mk (hi_order (L.map (hShift b)) (by rw [List.length_map, HN.out]; omega) HSok.out p7 c7 w3 K7.out.ops (itoa_small _ (by rw [List.length_map, HN.out]; omega) _ _))
      rw [List.length_map, HN.out] at HO2
      unfold OrderMade at HO2
      rw [HO', hbo, hr] at HO2
      clear hva hb3 HO1 H7 H8 H6 HB HO'
      subst hvaq
      go_wp2_with fail
      refine HO2.out.mono ?_
      rintro y w4 ⟨vb, rfl, hvb, hb4⟩
      have hk4 : Keep (fun _ => False) w3 w4 := Keep.of_below hb4 fun _ q _ => q
      have M8 := Pin.Aside.mk (K8.out.below hb4)
      have MB := Pin.Aside.mk (KB.out.trans (hb4.mono KB.out.size))
      have MA := Pin.Aside.mk (KA.out.keep hk4 fun _ _ _ => id)
      have MV := Pin.Aside.mk hvb
      obtain ⟨pb, cb, hvbq, _, _⟩ := hvb.of
      clear hvb hb4 hk4 HO2 K7 K8 KB KA
      subst hvbq
      obtain ⟨m, hm⟩ : ∃ m, r.length = m := ⟨_, rfl⟩
      rw [hm] at MA MV
      rw [hm]
      have HM := Pin.Aside.mk hm
      clear hm
      have hne0 : ((m : Int) != (m : Int)) = false := by simp
      have HRev2 := Pin.Aside.mk (hi_legal L.reverse (by rw [List.length_reverse, HN.out]; omega) (fun x hx => HLok.out x (List.mem_reverse.1 hx)) p8 c8)
      rw [List.length_reverse, HN.out, HRev.out, hbo] at HRev2
      have hm63 : (m : Int) ≤ 1000 := by
        rw [← HM.out, ← hr]
        cases hq : hOrder L with
        | none => simp
        | some r' =>
          have h1 : hs L L.length 0 [] = some r' := by unfold hOrder at hq; rw [if_pos HLr.out] at hq; exact hq
          have h2 := fits_left L r' 0 [] (hs_fits L _ _ _ _ h1)
          rw [hLeft_none, HN.out] at h2
          show ((r'.length : Nat) : Int) ≤ 1000
          omega
      clear hr hbo
      go_upto_region 21 with fail
      go_loopw [15] (fun x wx => ∃ i : Nat, i ≤ m ∧ x = .int .i64 i ∧ Pin.Aside (NumsAt wx wr.heap.size (.slice pa m ca) r) ∧ Pin.Aside (NumsAt wx w3.heap.size (.slice pb m cb) r) ∧ Pin.Aside (hRow wx H1 (.slice p8 k c8) L.reverse) ∧ Pin.Aside (Below w.heap.size w wx)) (fun x _ => m - (intOf x).toNat)
      case atStart => exact ⟨0, by omega, rfl, MA, MV, M8, MB⟩
      case round =>
        clear MA MV M8 MB
        obtain ⟨i, hi, rfl, MA, MV, M8, MB⟩ := hrel
        rename World => wx
        by_cases hil : i < m
        · obtain ⟨q, hq⟩ : ∃ q, r[i]? = some q := ⟨r[i]'(by rw [HM.out]; exact hil), List.getElem?_eq_getElem _⟩
          obtain ⟨pa', ca', qa, _, ha3⟩ := MA.out.of
          obtain ⟨ga, hga, hca⟩ := ha3 i q hq
          injection qa with qa1 qa2 qa3
          rw [← qa1] at hga
          obtain ⟨pb', cb', qb, _, hb3⟩ := MV.out.of
          obtain ⟨gb, hgb, hcb⟩ := hb3 i q hq
          injection qb with qb1 qb2 qb3
          rw [← qb1] at hgb
          clear qa1 qa2 qa3 qb1 qb2 qb3 ha3 hb3 hq
          subst hga hgb
          have hi0 : (0 : Int) ≤ (i : Int) := by omega
          have hi1 : (i : Int) < (m : Int) := by omega
          have hne : ((q : Int) != (q : Int)) = false := by simp
          go_upto_region 23 with fail
          go_quiet (fail)
          go_wp2_with fail
          go_roundw
          case rel => exact ⟨i + 1, by omega, by go_num, Pin.Aside.mk (by first | exact MA.out | exact MA.out.keep ((Keep.refl (fun _ => False) wx).drewN _) fun _ _ _ => id), Pin.Aside.mk (by first | exact MV.out | exact MV.out.keep ((Keep.refl (fun _ => False) wx).drewN _) fun _ _ _ => id), Pin.Aside.mk (by first | exact M8.out | exact hRow.keep M8.out ((Keep.refl (fun _ => False) wx).drewN _) fun _ _ _ => id), Pin.Aside.mk (by first | exact MB.out | exact below_drewN MB.out _)⟩
          case measure => simp [intOf]; omega
        · obtain rfl : i = m := by omega
          have HRv := Pin.Aside.mk (HRev2.out wx M8.out.ops (itoa_small _ (by omega) _ _))
          cases bo
          · go_wp2_with fail
            refine HRv.out.mono ?_
            rintro y w6 ⟨rfl, hb6⟩
            have HBf := Pin.Aside.mk (MB.out.trans (hb6.mono MB.out.size))
            go_wp2_with fail
            go_ret
            exact ⟨rfl, HBf.out⟩
          · go_wp2_with fail
            refine HRv.out.mono ?_
            rintro y w6 ⟨rfl, hb6⟩
            have HBf := Pin.Aside.mk (MB.out.trans (hb6.mono MB.out.size))
            go_wp2_with fail
            go_ret
            exact ⟨rfl, HBf.out⟩
end Go.Proofs.YtnilfjkodlmenaaDoor
