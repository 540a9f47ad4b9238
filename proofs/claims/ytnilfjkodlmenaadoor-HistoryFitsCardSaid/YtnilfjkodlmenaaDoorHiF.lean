/- history: Order, Legal. -/
import Derived.Test.YtnilfjkodlmenaaDoorHiE
import Derived.Test.YtnilfjkodlmenaaDoorHiR
import Derived.Laws.EntriesVeiled
set_option maxRecDepth 16000
namespace Go.Pin
open Go.RowKit
set_option linter.unusedVariables false
set_option linter.unusedSimpArgs false
/-- A slice of numbers, below the heap's end, none of the caller's. -/
structure NumsAt (w : World) (H : Nat) (v : Value) (r : List Nat) : Prop where
  of : ∃ p c, v = .slice p r.length c ∧ (∀ g o, p = some ⟨g, o, none⟩ → H ≤ g ∧ g < w.heap.size) ∧ ∀ (j k : Nat), r[j]? = some k → ∃ g, p = some ⟨g, 0, none⟩ ∧ w.cell? ⟨g, j, none⟩ = some (.int .i64 (k : Int))
theorem NumsAt.nil (w : World) (H : Nat) : NumsAt w H (.slice none 0 0) [] := ⟨⟨none, 0, rfl, fun g o q => (by cases q), fun j k h => (by cases h)⟩⟩
theorem NumsAt.keep {S : Nat → Prop} {a w : World} {H : Nat} {v : Value} {r : List Nat} (h : NumsAt a H v r) (hk : Keep S a w) (hS : ∀ k, H ≤ k → k < a.heap.size → ¬ S k) : NumsAt w H v r := by
  obtain ⟨p, c, h1, h2, h3⟩ := h.of
  refine ⟨⟨p, c, h1, fun g o q => ⟨(h2 g o q).1, Nat.lt_of_lt_of_le (h2 g o q).2 hk.size⟩, fun j k hj => ?_⟩⟩
  obtain ⟨g, q, hc⟩ := h3 j k hj
  obtain ⟨q1, q2⟩ := h2 g 0 q
  exact ⟨g, q, hk.cell hc (hS g q1 q2)⟩
theorem World.size_alloc' (w : World) (o : Obj) : (w.alloc o).heap.size = w.heap.size + 1 := by simp
theorem cell_new (w : World) (v : Value) (t : TypeId) (n : Nat) (hn : w.heap.size = n) : (w.alloc (.cells #[v] t)).cell? ⟨n, 0, none⟩ = some v ∧ (w.alloc (.cells #[v] t)).frozen? ⟨n, 0, none⟩ = false := by
  subst hn
  exact ⟨World.cell?_alloc_new _ _ _ _, by simp⟩
/-- What Order answers. -/
def OrderMade (L : List HOp) (w : World) (e : Ending) (w' : World) : Prop := ∃ v, e = .returned (.tuple #[v, .bool (hOrder L).isSome]) ∧ NumsAt w' w.heap.size v ((hOrder L).getD []) ∧ Below w.heap.size w w'
end Go.Pin
namespace Go.Proofs.YtnilfjkodlmenaaDoor
open Go.RowKit Go.Pin
set_option linter.unusedVariables false
set_option linter.unusedSimpArgs false
theorem itoa_small (n : Nat) (hn : n ≤ 6) (U : Nat) (w0 : World) : ItoaOk n U w0 := by
  intro d hd W _
  have h64 : 2 ^ n ≤ 2 ^ 6 := Nat.pow_le_pow_right (by decide) hn
  refine (YtnilfjkodlmenaaDoorSh.strconv_Itoa_small d (by have : (2 : Nat) ^ 6 = 64 := rfl; omega) W).mono ?_
  rintro e w' ⟨rfl, rfl⟩
  exact ⟨rfl, Below.refl _ _⟩
set_option maxHeartbeats 3200000 in
theorem hi_order (L : List HOp) (hn2 : L.length ≤ 1000) (hok : ∀ x ∈ L, x.ok) (a : Option Addr) (c : Nat) (w : World) (hO : OpsAt w a L) (hIt : ItoaOk L.length w.heap.size w) :
    Calls Tryd.prog 12 #[.slice a L.length c] w (OrderMade L w) := by
  have hk1 := (Keep.refl (fun _ => False) w).alloc (.cells #[.slice a L.length c] 24)
  have hl1 : (w.alloc (.cells #[.slice a L.length c] 24)).cell? ⟨w.heap.size, 0, none⟩ = some (.slice a L.length c) := by simp
  have hO1 := hO.below (hk1.below (Nat.le_refl _) fun _ q => q.elim)
  have HR := Pin.Aside.mk (hi_right a c L hn2 hok _ hO1)
  have HO := Pin.Aside.mk hO
  have HO1 := Pin.Aside.mk hO1
  have HIt := Pin.Aside.mk hIt
  have HOk := Pin.Aside.mk hok
  obtain ⟨n, hn⟩ : ∃ n, L.length = n := ⟨_, rfl⟩
  have HN := Pin.Aside.mk hn
  rw [hn] at HR hl1 hn2 hk1 ⊢
  rw [hn] at HO1
  clear hO hO1 hIt hok hn
  go_enter Tryd.func12, Tryd.ntmps12
  go_upto_region 1 with fail
  generalize w.alloc (.cells #[.slice a n c] 24) = w1 at *
  obtain ⟨U, hU⟩ : ∃ U, w.heap.size = U := ⟨_, rfl⟩
  rw [hU] at hl1
  try rw [hU]
  have HU := Pin.Aside.mk hU
  clear hU
  go_wp2_with fail
  refine HR.out.mono ?_
  rintro x w2 ⟨rfl, hb2⟩
  have hk2 := hk1.trans (Keep.of_below hb2 fun _ q _ => q)
  have hl2 := (Keep.of_below hb2 fun _ q _ => q : Keep (fun _ => False) w1 w2).cell hl1 id
  have HO2 := Pin.Aside.mk (HO1.out.below hb2)
  clear HR hb2 hk1 hl1 HO1
  obtain ⟨br, hbr⟩ : ∃ b, hRight L = b := ⟨_, rfl⟩
  rw [hbr]
  have HBr := Pin.Aside.mk hbr
  clear hbr
  cases br with
  | false =>
    go_wp2_with fail
    have hno : hOrder L = none := by unfold hOrder; rw [HBr.out]; rfl
    go_ret2
    refine ⟨_, by rw [hno]; rfl, by rw [hno]; exact NumsAt.nil _ _, hk2.below (Nat.le_refl _) fun _ q => q.elim⟩
  | true =>
    have hmk : ∀ W : World, (Instr.makeMap 61 none).run Tryd.prog W = .ok (.map (some W.heap.size)) (W.alloc (.map #[] 0)) := fun W => by simp [Instr.makeMap, Result.andThen]
    go_upto_region 5 with fail
    obtain ⟨V, hV⟩ : ∃ V, w2.heap.size = V := ⟨_, rfl⟩
    have hV1 : (w2.alloc (.map #[] 0)).heap.size = V + 1 := by rw [← hV]; simp
    have hV2 : ((w2.alloc (.map #[] 0)).alloc (.cells #[.map (some V)] 61)).heap.size = V + 2 := by rw [World.size_alloc', hV1]
    have hV3 : (((w2.alloc (.map #[] 0)).alloc (.cells #[.map (some V)] 61)).alloc (.cells #[.slice none 0 0] 42)).heap.size = V + 3 := by rw [World.size_alloc', hV2]
    have hk3 := (((Keep.refl (fun _ => False) w2).alloc (.map #[] 0)).alloc (.cells #[.map (some V)] 61)).alloc (.cells #[.slice none 0 0] 42)
    have hSet : SetAt (((w2.alloc (.map #[] 0)).alloc (.cells #[.map (some V)] 61)).alloc (.cells #[.slice none 0 0] 42)) V (.agg #[]) (hQ L) := by
      rw [← hV]
      exact ((SetAt.made w2 _ _).keep ((Keep.refl (fun _ => False) _).alloc _) id).keep ((Keep.refl (fun _ => False) _).alloc _) id
    have hme := ((Keep.refl (fun _ => False) _).alloc (.cells #[.slice none 0 0] 42)).cell (cell_new _ (.map (some V)) 61 _ hV1).1 id
    obtain ⟨hq, hfq⟩ := cell_new _ (.slice none 0 0) 42 _ hV2
    rw [hV]
    generalize ((w2.alloc (.map #[] 0)).alloc (.cells #[.map (some V)] 61)).alloc (.cells #[.slice none 0 0] 42) = w3 at *
    obtain ⟨o1, o2⟩ := cell_new w3 .nilFunc 62 _ hV3
    go_upto_region 6 with fail
    obtain ⟨hov, _⟩ := cell_new w3 (.func (.func 20) #[] #[.pointer (some ⟨U, 0, none⟩)]) 62 _ hV3
    have hka := (Keep.refl (fun _ => False) w3).alloc (.cells #[.func (.func 20) #[] #[.pointer (some ⟨U, 0, none⟩)]] 62)
    have hV4 : (w3.alloc (.cells #[.func (.func 20) #[] #[.pointer (some ⟨U, 0, none⟩)]] 62)).heap.size = V + 4 := by rw [World.size_alloc', hV3]
    replace hk3 := hk3.trans hka
    replace hSet := hSet.keep hka id
    replace hme := hka.cell hme id
    have hfq' := (hka.frozen_at (q := ⟨V + 2, 0, none⟩) hq rfl id).trans hfq
    replace hq := hka.cell hq id
    clear o1 o2 hka hV1 hV2 hfq
    generalize w3.alloc (.cells #[.func (.func 20) #[] #[.pointer (some ⟨U, 0, none⟩)]] 62) = w4 at *
    obtain ⟨o1, o2⟩ := cell_new w4 .nilFunc 63 _ hV4
    go_upto_region 7 with fail
    obtain ⟨hma, _⟩ := cell_new w4 (.func (.func 21) #[] #[.pointer (some ⟨U, 0, none⟩)]) 63 _ hV4
    have hka := (Keep.refl (fun _ => False) w4).alloc (.cells #[.func (.func 21) #[] #[.pointer (some ⟨U, 0, none⟩)]] 63)
    have hV5 : (w4.alloc (.cells #[.func (.func 21) #[] #[.pointer (some ⟨U, 0, none⟩)]] 63)).heap.size = V + 5 := by rw [World.size_alloc', hV4]
    replace hk3 := hk3.trans hka
    replace hSet := hSet.keep hka id
    replace hme := hka.cell hme id
    replace hov := hka.cell hov id
    have hfq := (hka.frozen_at (q := ⟨V + 2, 0, none⟩) hq rfl id).trans hfq'
    replace hq := hka.cell hq id
    clear o1 o2 hka hV3 hfq'
    generalize w4.alloc (.cells #[.func (.func 21) #[] #[.pointer (some ⟨U, 0, none⟩)]] 63) = w5 at *
    obtain ⟨o1, o2⟩ := cell_new w5 .nilFunc 64 _ hV5
    go_upto_region 8 with fail
    have hka := (Keep.refl (fun _ => False) w5).alloc (.cells #[.nilFunc] 64)
    have hV6 : (w5.alloc (.cells #[.nilFunc] 64)).heap.size = V + 6 := by rw [World.size_alloc', hV5]
    replace hk3 := hk3.trans hka
    replace hSet := hSet.keep hka id
    replace hme := hka.cell hme id
    replace hov := hka.cell hov id
    replace hma := hka.cell hma id
    have hfq' := (hka.frozen_at (q := ⟨V + 2, 0, none⟩) hq rfl id).trans hfq
    replace hq := hka.cell hq id
    generalize w5.alloc (.cells #[.nilFunc] 64) = w6 at *
    clear hka hV4 hV5 hfq
    have hks := (Keep.refl (fun j => j = V + 5) w6).setCell (p := ⟨V + 5, 0, none⟩) (.inl rfl) (.func (.func 22) #[] #[.pointer (some ⟨V + 3, 0, none⟩), .pointer (some ⟨V + 1, 0, none⟩), .pointer (some ⟨U, 0, none⟩), .pointer (some ⟨V + 4, 0, none⟩), .pointer (some ⟨V + 1 + 1, 0, none⟩), .pointer (some ⟨V + 5, 0, none⟩)])
    have hUV : U < V := by rw [← hV]; exact World.block_lt_of_cell? _ _ hl2
    have hl6 := hk3.cell hl2 id
    have hse := World.cell?_setCell_same (w := w6) (a := ⟨V + 5, 0, none⟩) (.func (.func 22) #[] #[.pointer (some ⟨V + 3, 0, none⟩), .pointer (some ⟨V + 1, 0, none⟩), .pointer (some ⟨U, 0, none⟩), .pointer (some ⟨V + 4, 0, none⟩), .pointer (some ⟨V + 1 + 1, 0, none⟩), .pointer (some ⟨V + 5, 0, none⟩)]) o1
    have hopsA : L ≠ [] → ∀ A o, a = some ⟨A, o, none⟩ → A < V := fun hne A o hA => by
      obtain ⟨x, hx⟩ : ∃ x, L[0]? = some x := by
        cases L with
        | nil => exact absurd rfl hne
        | cons x l => exact ⟨x, rfl⟩
      obtain ⟨A', o', q1, q2⟩ := HO2.out.at' 0 x hx
      rw [q1] at hA
      injection hA with hA
      injection hA with hA
      rw [← hV, ← hA]
      exact World.block_lt_of_cell? _ _ q2.cells.1
    have HBx : Pin.Aside ((⟨V + 3, V + 1, U, V + 4, V + 1 + 1, V + 5, V, V + 6⟩ : HBox).ok L a) := Pin.Aside.mk
      { o := ⟨by show V + 3 < V + 6; omega, by show V + 3 ≠ V + 1 + 1; omega, by show V + 3 ≠ V; omega⟩
        m := ⟨by show V + 1 < V + 6; omega, by show V + 1 ≠ V + 1 + 1; omega, by show V + 1 ≠ V; omega⟩
        l := ⟨by show U < V + 6; omega, by show U ≠ V + 1 + 1; omega, by show U ≠ V; omega⟩
        a := ⟨by show V + 4 < V + 6; omega, by show V + 4 ≠ V + 1 + 1; omega, by show V + 4 ≠ V; omega⟩
        s := ⟨by show V + 5 < V + 6; omega, by show V + 5 ≠ V + 1 + 1; omega, by show V + 5 ≠ V; omega⟩
        q := ⟨by show V + 1 + 1 < V + 6; omega, by show V + 1 + 1 ≠ V; omega⟩
        M := by show V < V + 6; omega
        ops := fun hne A o hA => by
          have := hopsA hne A o hA
          exact ⟨by show A < V + 6; omega, by show A ≠ V + 1 + 1; omega, by show A ≠ V; omega⟩ }
    have hk7 := (hk2.mono (T := fun j => U ≤ j) fun _ q => q.elim).trans ((hk3.mono (T := fun j => U ≤ j) fun _ q => q.elim).trans (hks.mono (T := fun j => U ≤ j) fun j q => by show U ≤ j; omega))
    have HB7 := Pin.Aside.mk hk7
    have HUV := Pin.Aside.mk hUV
    have HSr7 := Pin.Aside.mk (show SrAt _ (⟨V + 3, V + 1, U, V + 4, V + 1 + 1, V + 5, V, V + 6⟩ : HBox) L a c from
      ⟨hks.cell hov (by show ¬ V + 3 = V + 5; omega), hks.cell hme (by show ¬ V + 1 = V + 5; omega), hks.cell (by rw [HN.out]; exact hl6) (by show ¬ U = V + 5; omega), hks.cell hma (by show ¬ V + 4 = V + 5; omega), hse,
        ⟨fun j x hx => by
          obtain ⟨A, o, q, h1⟩ := HO2.out.at' j x hx
          have := hopsA (fun e => by rw [e] at hx; cases hx) A o q
          exact ⟨A, o, q, (h1.keep hk3 id).keep hks (by show ¬ A = V + 5; omega)⟩⟩⟩)
    have HSet7 := Pin.Aside.mk (hSet.keep hks (by show ¬ V = V + 5; omega))
    have hq7 := hks.cell hq (by show ¬ V + 2 = V + 5; omega)
    have hfq7 := (hks.frozen_at (q := ⟨V + 2, 0, none⟩) hq rfl (by show ¬ V + 2 = V + 5; omega)).trans hfq'
    have hs7 : V + 6 ≤ (w6.setCell ⟨V + 5, 0, none⟩ (.func (.func 22) #[] #[.pointer (some ⟨V + 3, 0, none⟩), .pointer (some ⟨V + 1, 0, none⟩), .pointer (some ⟨U, 0, none⟩), .pointer (some ⟨V + 4, 0, none⟩), .pointer (some ⟨V + 1 + 1, 0, none⟩), .pointer (some ⟨V + 5, 0, none⟩)])).heap.size := Nat.le_trans (Nat.le_of_eq hV6.symm) hks.size
    go_upto_region 9 with fail
    generalize w6.setCell ⟨V + 5, 0, none⟩ (.func (.func 22) #[] #[.pointer (some ⟨V + 3, 0, none⟩), .pointer (some ⟨V + 1, 0, none⟩), .pointer (some ⟨U, 0, none⟩), .pointer (some ⟨V + 4, 0, none⟩), .pointer (some ⟨V + 1 + 1, 0, none⟩), .pointer (some ⟨V + 5, 0, none⟩)]) = w7 at *
    have HO7 : Pin.Aside (OrdAt w7 (⟨V + 3, V + 1, U, V + 4, V + 1 + 1, V + 5, V, V + 6⟩ : HBox) none []) := Pin.Aside.mk ⟨.slice none 0 0, rfl, hq7, hfq7, World.ownsRow_nil _ _ _ _⟩
    have hL10 : L.length ≤ 10 := by
      have := HBr.out
      unfold hRight at this
      rw [Bool.and_eq_true] at this
      exact of_decide_eq_true this.1
    have HIt' : ItoaOk L.length U w := by have := HIt.out; rw [HU.out] at this; exact this
    have HS := Pin.Aside.mk (hi_search L hL10 HOk.out (⟨V + 3, V + 1, U, V + 4, V + 1 + 1, V + 5, V, V + 6⟩ : HBox) a c HBx.out U w HIt' ⟨by show U ≤ V + 1 + 1; omega, by show U ≤ V; omega, by show U ≤ V + 6; omega⟩ L.length 0 [] (.slice none 0 0) w7 [] none
      (by rw [hLeft_none]; exact Nat.le_refl _) (Nat.two_pow_pos _) HBlk.nil ⟨.inl ⟨rfl, rfl⟩⟩ (fun p n c q g o q2 => by injection q with q; rw [q2] at q; cases q) HSr7.out HO7.out (by rw [List.length_nil]; omega) HSet7.out HB7.out hs7)
    clear hks hUV hl6 hse hopsA hk7 hq7 hfq7 HIt' hL10 hov hma hme hq hfq' hSet hk3 o1 o2 hl2 hk2
    have hse7 := HSr7.out.se
    dsimp only at hse7
    go_wp2_with fail
    refine HS.out.mono ?_
    rintro y w8 ⟨rfl, R, hR, hO8, hSe8, hk8⟩
    clear hse7 HS
    have HOr : Pin.Aside (hOrder L = hs L L.length 0 []) := Pin.Aside.mk (by unfold hOrder; rw [HBr.out]; rfl)
    obtain ⟨xo, hxo⟩ : ∃ xo, hs L L.length 0 [] = xo := ⟨_, rfl⟩
    rw [hxo] at HOr hO8
    rw [hxo]
    have hUV := HUV.out
    have HB8 : Pin.Aside (Below w.heap.size w w8) := Pin.Aside.mk (by
      rw [HU.out]
      refine (HB7.out.below (B := U) (Nat.le_of_eq HU.out.symm) fun _ q => q).trans (hk8.below (B := U) (by omega) fun j q => ?_)
      rcases q with q | q | q
      · have : j = V + 1 + 1 := q; omega
      · have : j = V := q; omega
      · cases q)
    clear hk8 hUV
    cases xo with
    | none =>
      simp only [Option.isSome_none]
      go_wp2_with fail
      go_ret2
      exact ⟨_, by rw [HOr.out]; rfl, by rw [HOr.out]; exact NumsAt.nil _ _, HB8.out⟩
    | some r =>
      simp only [Option.isSome_some]
      rw [show ([] : List Nat) ++ (some r).getD [] = r from rfl] at hO8
      obtain ⟨v, hvR, hv, hfv, hown⟩ := hO8
      obtain ⟨p, cc, hvs, hnum⟩ : ∃ p cc, v = .slice p r.length cc ∧ NumsAt w8 w.heap.size v r := by
        rcases hown.2 with ⟨q, q2⟩ | ⟨g, cap, cur, q, q2, q3, q4⟩
        · refine ⟨none, 0, by rw [q, q2], ?_⟩
          rw [q, List.eq_nil_of_length_eq_zero q2]
          exact NumsAt.nil _ _
        · refine ⟨_, _, q, ⟨⟨_, _, q, fun g' o q5 => ?_, fun j k hj => ⟨g, rfl, ?_⟩⟩⟩⟩
          · injection q5 with q5
            injection q5 with q5
            rw [← q5]
            have h6 : V + 6 ≤ g := q2
            have := HUV.out
            have := HU.out
            exact ⟨by omega, (Array.getElem?_eq_some_iff.1 q3).1⟩
          · rw [q] at hown
            have hjl : j < r.length := (List.getElem?_eq_some_iff.1 hj).1
            rw [World.ownsRow.cellAt hown j (by omega), List.getElem?_map, hj]
            rfl
      subst hvs
      have HNum := Pin.Aside.mk hnum
      have hv' : w8.cell? ⟨V + 1 + 1, 0, none⟩ = some (.slice p r.length cc) := hv
      clear hown hnum hvR hv hfv hSe8 hR
      go_wp2_with fail
      go_ret2
      exact ⟨_, by rw [HOr.out]; rfl, by rw [HOr.out]; exact HNum.out, HB8.out⟩
set_option maxHeartbeats 1600000 in
theorem hi_legal (L : List HOp) (hn2 : L.length ≤ 1000) (hok : ∀ x ∈ L, x.ok) (a : Option Addr) (c : Nat) (w : World) (hO : OpsAt w a L) (hIt : ItoaOk L.length w.heap.size w) :
    Calls Tryd.prog 14 #[.slice a L.length c] w fun e w' => e = .returned (.bool (hOrder L).isSome) ∧ Below w.heap.size w w' := by
  have HC := Pin.Aside.mk (hi_order L hn2 hok a c w hO hIt)
  obtain ⟨n, hn⟩ : ∃ n, L.length = n := ⟨_, rfl⟩
  rw [hn] at HC ⊢
  clear hO hIt hn hn2 hok
  go_enter Tryd.func14, Tryd.ntmps14
  go_wp2_with fail
  refine HC.out.mono ?_
  rintro u w1 ⟨v, rfl, hv, hb⟩
  obtain ⟨p, cc, rfl, _⟩ := hv.of
  go_wp2_with fail
  go_ret
  exact ⟨rfl, hb⟩
end Go.Proofs.YtnilfjkodlmenaaDoor
