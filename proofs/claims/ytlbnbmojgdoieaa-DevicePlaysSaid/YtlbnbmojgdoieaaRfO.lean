/- What the document's device computes: Waiting, Of. -/
import Derived.Test.YtlbnbmojgdoieaaRfN
import Derived.Test.YtlbnbmojgdoieaaRfF
import Derived.BigRegion
set_option maxRecDepth 16000
namespace Go.Pin
open Go.RowKit
set_option linter.unusedVariables false
set_option linter.unusedSimpArgs false
/-- The places below k that wait. -/
def dwaitK (d : Dv) (k : Nat) : List Nat := (List.range k).filter d.w
theorem dwaitK_yes (d : Dv) (k : Nat) (h : d.w k = true) : dwaitK d (k + 1) = dwaitK d k ++ [k] := by
  unfold dwaitK; rw [List.range_succ, List.filter_append]; simp [h]
theorem dwaitK_no (d : Dv) (k : Nat) (h : d.w k = false) : dwaitK d (k + 1) = dwaitK d k := by
  unfold dwaitK; rw [List.range_succ, List.filter_append]; simp [h]
theorem dwaitK_le (d : Dv) (k : Nat) : (dwaitK d k).length ≤ k := by
  unfold dwaitK
  exact Nat.le_trans (List.length_filter_le _ _) (by rw [List.length_range]; exact Nat.le_refl _)
def wVals (l : List Nat) : List Value := l.map fun (i : Nat) => Value.int .i64 (i : Int)
theorem ints_of_owns {w : World} {B e n : Nat} {v : Value} {l : List Nat} (h : w.ownsRow B e 1 v n (wVals l)) (hn : n = l.length) :
    ∃ a c, v = .slice a n c ∧ (0 < n → ∃ g, a = some ⟨g, 0, none⟩ ∧ B ≤ g ∧ IntsAt w g 0 (l.map fun (i : Nat) => (i : Int))) := by
  obtain ⟨a, c, rfl, hp⟩ := owns_form h
  refine ⟨a, c, rfl, fun q => ?_⟩
  obtain ⟨g, cur, rfl, hg, _, hc⟩ := hp q
  refine ⟨g, rfl, hg, fun j hj => ?_⟩
  rw [List.length_map] at hj
  rw [Nat.zero_add]
  refine hc j _ ?_
  unfold wVals
  rw [List.getElem?_map, List.getElem?_eq_getElem hj]
  simp [List.getD, hj]
/-- The document's device of a text. -/
theorem RefAt.filled {a w : World} {b N O V n : Nat} {s : ByteArray} (h : RefAt a b N O V (dnew n)) (hk : Keep (fun k => k = N ∨ k = O) a w) (hs : s.size = n * 64) (h1 : 1 ≤ n) (h2 : n ≤ 4096)
    (hN : RowAt w N n fun i => .string (chunk s i)) (hO : RowAt w O n fun i => .string (chunk s i)) : RefAt w b N O V (dofv s) := by
  obtain ⟨x0, p0, q0, r0⟩ := h.c0
  obtain ⟨x1, p1, q1, r1⟩ := h.c1
  obtain ⟨x2, p2, q2, r2⟩ := h.c2
  have hn : (dofv s).n = n := by rw [dofv_n]; omega
  have hd : (dnew n).n = n := dnew_n n
  have nb : ¬ (b = N ∨ b = O) := by rintro (q | q); exact h.bN q; exact h.bO q
  have nV : ¬ (V = N ∨ V = O) := by rintro (q | q); exact h.NV q.symm; exact h.OV q.symm
  rw [hd] at p0 p1 p2 r0 r1 r2
  have hb : b < a.heap.size := World.block_lt_of_cell? (a := ⟨b, 3, none⟩) _ h.c3
  refine ⟨dofv_ok s n hs h1 h2, ⟨x0, by rw [hn]; exact p0, q0, by rw [hn]; exact hk.cell r0 nb⟩, ⟨x1, by rw [hn]; exact p1, q1, by rw [hn]; exact hk.cell r1 nb⟩, ⟨x2, by rw [hn]; exact p2, q2, by rw [hn]; exact hk.cell r2 nb⟩,
    hk.cell h.c3 nb, hk.cell h.c4 nb, fun i hi => by rw [hk.frozen (p := ⟨b, i, none⟩) hb nb]; exact h.fr i hi, ?_, ?_, ?_, h.bN, h.bO, h.bV, h.NO, h.NV, h.OV⟩
  · rw [hn]; exact hN.congr fun i hi => by rw [show (dofv s).s i = (dofv s).o i from rfl, dofv_o s i (by omega)]
  · rw [hn]; exact hO.congr fun i hi => by rw [dofv_o s i (by omega)]
  · rw [hn]
    have := h.rV
    rw [hd] at this
    exact (this.keep hk nV).congr fun i _ => by rw [dofv_w, show (dnew n).w i = false from getD_rep _ _ _]
end Go.Pin
namespace Go.Proofs.Ytlbnbmojgdoieaa
open Go.RowKit Go.Pin
set_option linter.unusedVariables false
set_option linter.unusedSimpArgs false
/-- The places that wait, in a slice of the call's own. -/
def WaitL (d : Dv) (w : World) (e : Ending) (w' : World) : Prop := ∃ (a : Option Addr) (c : Nat), e = .returned (.slice a (dwaiting d).length c) ∧ (0 < (dwaiting d).length → ∃ g, a = some ⟨g, 0, none⟩ ∧ w.heap.size ≤ g ∧ IntsAt w' g 0 (dwaitI d)) ∧ Below w.heap.size w w'
set_option maxHeartbeats 1600000 in
theorem ref_waiting (b N O V : Nat) (d : Dv) (w : World) (h : RefAt w b N O V d) :
    Calls Try.prog 32 #[.pointer (some ⟨b, 0, none⟩)] w (WaitL d w) := by
  obtain ⟨x2, p2, q2, r2⟩ := h.c2
  have hn := h.ok.n2
  obtain ⟨i0, hi, hz0, hzs, hzb⟩ := info_parts int_info
  have HR := Aside.mk h
  clear h
  go_enter Try.func32, Try.ntmps32
  go_wp2_with fail
  go_loopw [3, 4] (fun v i wr => ∃ k : Nat, k ≤ d.n ∧ i = .int .i64 k ∧ wr.ownsRow w.heap.size 3 1 v (dwaitK d k).length (wVals (dwaitK d k)) ∧ Below w.heap.size w wr) (fun _ i _ => d.n - (intOf i).toNat)
  case atStart => exact ⟨0, by omega, rfl, ⟨by simp [wVals, dwaitK], .inl ⟨rfl, rfl⟩⟩, Below.refl _ _⟩
  case round =>
    obtain ⟨k, hk, rfl, hown, hb⟩ := hrel
    have hR := HR.out.below hb
    obtain ⟨x2, p2, q2, r2⟩ := hR.c2
    have hwl := dwaitK_le d k
    by_cases hlt : k < d.n
    · have hk0 : (0 : Int) ≤ (k : Int) := by omega
      have hk1 : (k : Int) < (d.n : Int) := by omega
      have cV := hR.rV.at' k hlt
      clear hR
      cases hw : d.w k with
      | false =>
        rw [hw] at cV
        have e1 := dwaitK_no d k hw
        have E1 := Aside.mk e1
        clear e1 hw
        go_wp2_with fail
        go_roundw
        case rel => exact ⟨k + 1, by omega, by go_num, by rw [E1.out]; exact hown, hb⟩
        case measure => simp [intOf]; omega
      | true =>
        rw [hw] at cV
        have e1 := dwaitK_yes d k hw
        have E1 := Aside.mk e1
        have hsz := hb.size
        have hnew : (wr.alloc (.cells #[.int .i64 (k : Int)] 3)).heap[wr.heap.size]? = some (.cells #[.int .i64 (k : Int)] 3) := Go.heap_alloc_new wr (.cells #[.int .i64 (k : Int)] 3)
        clear e1 hw
        go_wp2_with (at_builtin; refine wpList_append_lies _ rfl _ _ _ rfl w.heap.size 3 i0 _ 1 8 Try.underlying30 hi hz0 hzs hzb rfl (by omega) _ (dwaitK d k).length (wVals (dwaitK d k)) rfl (hown.alloc _) ⟨wr.heap.size, 0, none⟩ 1 1 [.int .i64 (k : Int)] rfl rfl (World.news_of_block (cs := #[.int .i64 (k : Int)]) (t := 3) (fr := (0, 0)) hnew) (by simp [Value.oneCell']) (by omega) (by unfold maxLen; omega) (by omega) (by simp; omega) (wr.heap.size + 1) (by simp) ?_)
        intro g cap w4 hown4 hgrow _ _
        have hb4 := (hb.alloc hsz (.cells #[.int .i64 (k : Int)] 3)).grown hgrow (by simp; omega) (fun k hk => (hown.lt k hk).1)
        clear hown hgrow hnew cV r2
        go_wp2_with fail
        go_roundw
        case rel =>
          refine ⟨k + 1, by omega, by go_num, ?_, hb4⟩
          rw [E1.out]
          unfold wVals at hown4 ⊢
          rw [List.map_append, List.length_append]
          exact hown4
        case measure => simp [intOf]; omega
    · obtain rfl : k = d.n := by omega
      clear hR
      obtain ⟨a, c, rfl, hp⟩ := ints_of_owns hown rfl
      have HP := Aside.mk hp
      clear hp hown
      go_wp2_with fail
      go_ret
      exact ⟨a, c, rfl, HP.out, hb⟩
theorem ref_of_no (s : ByteArray) (hs : s.size ≤ 1152921504606846976) (h : s.size % 64 ≠ 0 ∨ s.size / 64 < 1 ∨ 4096 < s.size / 64) (w : World) :
    Calls Try.prog 23 #[.string s] w fun e w' => e = .returned (.pointer none) ∧ w' = w := by
  by_cases h0 : s.size % 64 = 0
  · have hb : ((s.size : Int) % 64 == 0) = true := by rw [beq_iff_eq]; omega
    have hq : (s.size : Int) / 64 < 1 ∨ 4096 < (s.size : Int) / 64 := by omega
    have hcon := ref_new_bad ((s.size : Int) / 64) hq w
    have hz : (s.size : Int) % 64 = 0 := by omega
    clear h h0 hq
    go_enter Try.func23, Try.ntmps23
    go_wp2_with fail
    refine hcon.mono ?_
    rintro e w' ⟨rfl, rfl⟩
    go_wp2_with fail
    refine wp_loop_rounds 1 ?_
    rw [rounds_succ]
    go_wp2_with fail
    go_ret
    exact ⟨rfl, rfl⟩
  · have hz : ¬ ((s.size : Int) % 64 = 0) := by omega
    have hb : ((s.size : Int) % 64 == 0) = false := by rw [beq_eq_false_iff_ne]; exact hz
    have hb2 : ((s.size : Int) % 64 != 0) = true := by simpa using hz
    clear h h0
    go_enter Try.func23, Try.ntmps23
    go_wp2_with fail
    go_ret
    exact ⟨rfl, rfl⟩
set_option maxHeartbeats 1600000 in
theorem ref_of (s : ByteArray) (n : Nat) (hs : s.size = n * 64) (h1 : 1 ≤ n) (h2 : n ≤ 4096) (w : World) :
    Calls Try.prog 23 #[.string s] w fun e w' => ∃ b N O V, e = .returned (.pointer (some ⟨b, 0, none⟩)) ∧ w.heap.size ≤ b ∧ w.heap.size ≤ N ∧ w.heap.size ≤ O ∧ w.heap.size ≤ V ∧ RefAt w' b N O V (dofv s) ∧ Below w.heap.size w w' := by
  have hz : (s.size : Int) % 64 = 0 := by omega
  have hd : (s.size : Int) / 64 = (n : Int) := by omega
  have hcon := ref_new n h1 h2 w
  have Hs := Aside.mk hs
  have hsz : s.size ≤ 262144 := by omega
  clear hs
  go_enter Try.func23, Try.ntmps23
  go_wp2_with fail
  refine hcon.mono ?_
  rintro e w1 ⟨b, N, O, V, rfl, hB1, hB2, hB3, hB4, hR, hb1⟩
  clear hcon hz hd
  have hdn : (dnew n).n = n := dnew_n n
  obtain ⟨x0, p0, q0, r0⟩ := hR.c0
  obtain ⟨x1, p1, q1, r1⟩ := hR.c1
  have rN := hR.rN
  have rO := hR.rO
  rw [hdn] at p0 p1 r0 r1 rN rO
  have hbN := hR.bN
  have hbO := hR.bO
  have hNO := hR.NO
  have hON := Ne.symm hR.NO
  have HR := Aside.mk hR
  have hN0 : RowAt w1 N n fun i => .string (if i < 0 then chunk s i else secZ) := rN.congr fun i hi => by rw [if_neg (by omega), show (dnew n).s i = secZ from by unfold dnew Dv.s; simp [List.getD, hi]]
  have hO0 : RowAt w1 O n fun i => .string (if i < 0 then chunk s i else secZ) := rO.congr fun i hi => by rw [if_neg (by omega), show (dnew n).o i = secZ from by unfold dnew Dv.o; simp [List.getD, hi]]
  have Hdn := Aside.mk hdn
  clear hR rN rO hdn
  go_wp2_with fail
  go_loopw [4] (fun i wr => ∃ k : Nat, k ≤ n ∧ i = .int .i64 k ∧ RowAt wr N n (fun i => .string (if i < k then chunk s i else secZ)) ∧ RowAt wr O n (fun i => .string (if i < k then chunk s i else secZ)) ∧ Keep (fun j => j = N ∨ j = O) w1 wr) (fun i _ => n - (intOf i).toNat)
  case atStart => exact ⟨0, by omega, rfl, hN0, hO0, Keep.refl _ _⟩
  case round =>
    clear hN0 hO0
    obtain ⟨k, hk, rfl, hN, hO, hkw⟩ := hrel
    have nb : ¬ (b = N ∨ b = O) := by rintro (q | q); exact hbN q; exact hbO q
    replace r0 := hkw.cell r0 (nb)
    replace r1 := hkw.cell r1 (nb)
    by_cases hlt : k < n
    · have hk0 : (0 : Int) ≤ (k : Int) := by omega
      have hkD : (k : Int) < (n : Int) := by omega
      have cN := hN.at' k hlt
      have fN := hN.fr k hlt
      have cO := hO.at' k hlt
      have fO := hO.fr k hlt
      have hN1 := (hN.set k hlt (.string (chunk s k))).drew
      have k1 : Keep (fun j => j = N) wr (wr.setCell ⟨N, k, none⟩ (.string (chunk s k))).drew := ((Keep.refl (fun j => j = N) wr).setCell (p := ⟨N, k, none⟩) (.inl rfl) _).drew
      have hO1 := hO.keep k1 hON
      have cN1 : (wr.setCell ⟨N, k, none⟩ (.string (chunk s k))).drew.cell? ⟨N, k, none⟩ = some (.string (chunk s k)) := by
        rw [hN1.at' k hlt]; exact congrArg some (if_pos rfl)
      have t0 := k1.cell r0 hbN
      have t1 := k1.cell r1 hbN
      have cO1 := k1.cell cO hON
      have fO1 : ((wr.setCell ⟨N, k, none⟩ (.string (chunk s k))).drew).frozen? ⟨O, k, none⟩ = false := by
        rw [k1.frozen (p := ⟨O, k, none⟩) (World.block_lt_of_cell? _ _ cO) hON]; exact fO
      have hsl : s.extract (64 * k) (64 * k + 64) = chunk s k := rfl
      have w1' : IntKind.i64.wrap (64 * (k : Int)) = 64 * (k : Int) := by rw [IntKind.wrap_i64]; omega
      have w2' : IntKind.i64.wrap (64 * (k : Int) + 64) = 64 * (k : Int) + 64 := by rw [IntKind.wrap_i64]; omega
      have w3' : (64 * (k : Int)).toNat = 64 * k := by omega
      have w4' : (64 * (k : Int) + 64).toNat = 64 * k + 64 := by omega
      have b1' : (64 * (k : Int) + 64) ≤ (s.size : Int) := by have := Hs.out; omega
      have b2' : (0 : Int) ≤ 64 * (k : Int) := by omega
      have HN1 := Aside.mk hN1
      have HO1 := Aside.mk hO1
      generalize hC : chunk s k = C at *
      have HC := Aside.mk hC
      clear hC hN hO hN1 hO1
      go_wp2_with fail
      go_region
      clear cN fN cO fO r0 r1
      generalize (wr.setCell ⟨N, k, none⟩ (.string C)).drew = w3 at *
      go_wp2_with fail
      go_region
      go_wp2_with fail
      go_roundw
      case rel =>
        have k2 : Keep (fun j => j = O) w3 (w3.setCell ⟨O, k, none⟩ (.string C)).drew := ((Keep.refl (fun j => j = O) w3).setCell (p := ⟨O, k, none⟩) (.inl rfl) _).drew
        refine ⟨k + 1, by omega, by go_num, ?_, ?_, (hkw.trans (k1.mono fun _ q => .inl q)).trans (k2.mono fun _ q => .inr q)⟩
        · refine (HN1.out.keep k2 hNO).congr fun i hi => ?_
          by_cases e : i = k
          · rw [if_pos e, if_pos (by omega), e, HC.out]
          · rw [if_neg e]
            by_cases q : i < k
            · rw [if_pos q, if_pos (by omega)]
            · rw [if_neg q, if_neg (by omega)]
        · refine ((HO1.out.set k hlt (.string C)).drew).congr fun i hi => ?_
          by_cases e : i = k
          · rw [if_pos e, if_pos (by omega), e, HC.out]
          · rw [if_neg e]
            by_cases q : i < k
            · rw [if_pos q, if_pos (by omega)]
            · rw [if_neg q, if_neg (by omega)]
      case measure => simp [intOf]; omega
    · obtain rfl : k = n := by omega
      go_wp2_with fail
      go_ret
      exact ⟨b, N, O, V, rfl, hB1, hB2, hB3, hB4, HR.out.filled hkw Hs.out h1 h2 (hN.congr fun i hi => by rw [if_pos hi]) (hO.congr fun i hi => by rw [if_pos hi]), hb1.trans (hkw.below hb1.size fun j q => by rcases q with q | q <;> omega)⟩
end Go.Proofs.Ytlbnbmojgdoieaa
