/- pintleref16: chain, Right, Term. -/
import Derived.Test.YthlmigbimeldbaaRrR
import Derived.Test.YthlmigbimeldbaaLgR
set_option maxRecDepth 16000
namespace Go.Proofs.Ythlmigbimeldbaa
open Go.RowKit Go.Pin
set_option linter.unusedVariables false
set_option linter.unusedSimpArgs false
set_option maxHeartbeats 3200000 in
theorem r16_chain (base term : Int) (L : List En) (hL0 : ∀ e ∈ L, e.ok) (p : Option Addr) (n c : Nat) (hn2 : n ≤ 1000) (w : World) (hL : EntsAt w p n L) :
    Calls Try.prog 55 #[.int .u64 base, .int .u64 term, .slice p n c] w fun x w' => x = .returned (.bool (lgChain base term L 0 && decide (base < 4611686018427387904))) ∧ Below w.heap.size w w' := by
  have hb := Below.refl w.heap.size w
  have HL := Pin.Aside.mk hL
  have hn := hL.len
  have HO := Pin.Aside.mk hL0
  have hR := lgChain_fits base L term 0
  simp only [Nat.zero_add] at hR
  have HR := Pin.Aside.mk hR
  clear hL hL0 hR
  have hB0 : w.heap.size = w.heap.size := rfl
  generalize hB : w.heap.size = B at hb hB0 ⊢
  clear hB0
  by_cases h2 : base < 4611686018427387904
  case neg =>
    have HX := Pin.Aside.mk (show (lgChain base term L 0 && decide (base < 4611686018427387904)) = false by rw [decide_eq_false h2]; simp)
    go_enter Try.func55, Try.ntmps55
    go_wp2_with fail
    go_ret
    exact ⟨by rw [HX.out]; rfl, by first | exact hb | (rw [hB]; exact hb)⟩
  rw [decide_eq_true h2, Bool.and_true]
  go_enter Try.func55, Try.ntmps55
  go_wp2_with fail
  clear h2
  go_loopw [1, 7] (fun tv x wr => ∃ k : Nat, k ≤ n ∧ x = .int .i64 k ∧ tv = .int .u64 (lgBefore term L k) ∧ Below B w wr ∧ Pin.Aside (∀ j x, j < k → L[j]? = some x → lgFits base (lgBefore term L j) j x = true)) (fun _ x _ => n - (intOf x).toNat)
  case atStart => exact ⟨0, by omega, rfl, rfl, hb, Pin.Aside.mk fun j x hj => by omega⟩
  case round =>
    clear hb
    obtain ⟨k, hk, rfl, rfl, hb, HA⟩ := hrel
    by_cases hlt : k < n
    · obtain ⟨e, he⟩ : ∃ x, L[k]? = some x := ⟨L[k], List.getElem?_eq_getElem (by omega)⟩
      obtain ⟨A, o, rfl, hE⟩ := HL.out.at' k e he
      have hkr : Keep (fun _ => False) w wr := Keep.of_below (S := fun _ => False) hb fun _ q _ => by rw [← hB]; exact q
      have Hr := Pin.Aside.mk (fun W => rr4_right e (HO.out e (List.mem_of_getElem? he)) W)
      obtain ⟨c0, c1, c2, c3, c4, c5, c6, c7, c8, c9, c10⟩ := hE.keep hkr id
      have Hx := Pin.Aside.mk he
      have hk0 : (0 : Int) ≤ (k : Int) := by omega
      have hk1 : (k : Int) < (n : Int) := by omega
      obtain ⟨F, hF⟩ : ∃ F, lgFits base (lgBefore term L k) k e = F := ⟨_, rfl⟩
      have HF := Pin.Aside.mk hF
      obtain ⟨tb, htb⟩ : ∃ tb, lgBefore term L k = tb := ⟨_, rfl⟩
      have Hs := Pin.Aside.mk (show lgFits base tb k e = (e.right && (e.index == (base + k + 1) % 18446744073709551616) && decide (tb ≤ e.term)) from rfl)
      rw [htb] at hF
      rw [hF] at Hs
      obtain ⟨R, hR⟩ : ∃ R, e.right = R := ⟨_, rfl⟩
      rw [hR] at Hr Hs
      rw [htb]
      have hwr : (base + k + 1) % 18446744073709551616 = IntKind.u64.wrap (IntKind.u64.wrap (base + k) + 1) := by rw [IntKind.wrap_u64, IntKind.wrap_u64]; omega
      rw [hwr] at Hs
      clear hF he hE hkr hwr hR htb
      go_wp2_with fail
      refine (Hr.out _).mono ?_
      rintro x w1 ⟨rfl, hbb⟩
      have hkk : Keep (fun _ => False) wr w1 := Keep.of_below hbb fun _ q _ => q
      replace c0 := hkk.cell c0 id
      replace c1 := hkk.cell c1 id
      replace hb := hb.trans (hbb.mono (by first | exact hb.size | (rw [← hB]; exact hb.size)))
      clear hkk hbb c2 c3 c4 c5 c6 c7 c8 c9 c10 Hr
      have HBAD : Pin.Aside (F = false → lgChain base term L 0 = false) := Pin.Aside.mk (by
        intro hf
        rw [Bool.eq_false_iff]; intro q
        have := (HR.out.1 q) k e Hx.out
        rw [HF.out, hf] at this; cases this)
      have HGOOD : Pin.Aside (F = true → ∀ j x, j < k + 1 → L[j]? = some x → lgFits base (lgBefore term L j) j x = true) := Pin.Aside.mk (fun hf j x hj hx => by
        by_cases q : j = k
        · subst q
          have := Hx.out.symm.trans hx
          cases this
          rw [HF.out]; exact hf
        · exact HA.out j x (by omega) hx)
      have HNX : Pin.Aside (lgBefore term L (k + 1) = e.term) := Pin.Aside.mk (by
        show (L.getD k En.zero).term = e.term
        rw [List.getD_eq_getElem?_getD, Hx.out]; rfl)
      clear HF Hx HA
      cases R with
      | false =>
        have hF : F = false := by rw [Hs.out]; simp
        have HQ := Pin.Aside.mk (HBAD.out hF)
        clear hF Hs HBAD HGOOD HNX
        go_wp2_with fail
        go_ret
        exact ⟨by rw [HQ.out]; rfl, by first | exact hb | (rw [hB]; exact hb)⟩
      | true =>
        by_cases h1 : e.index = IntKind.u64.wrap (IntKind.u64.wrap (base + k) + 1)
        · by_cases h2 : tb ≤ e.term
          · have hF : F = true := by rw [Hs.out]; simp [h1, h2]
            have HQ := Pin.Aside.mk (HGOOD.out hF)
            clear hF Hs HBAD HGOOD
            go_wp2_with fail
            go_roundw
            case rel => exact ⟨k + 1, by omega, by go_num, by rw [HNX.out], hb, HQ⟩
            case measure => simp [intOf]; omega
          · have hF : F = false := by rw [Hs.out]; simp [h1, h2]
            have HQ := Pin.Aside.mk (HBAD.out hF)
            clear hF Hs HBAD HGOOD HNX
            go_wp2_with fail
            go_ret
            exact ⟨by rw [HQ.out]; rfl, by first | exact hb | (rw [hB]; exact hb)⟩
        · have hF : F = false := by rw [Hs.out]; simp [h1]
          have HQ := Pin.Aside.mk (HBAD.out hF)
          clear hF Hs HBAD HGOOD HNX
          go_wp2_with fail
          go_ret
          exact ⟨by rw [HQ.out]; rfl, by first | exact hb | (rw [hB]; exact hb)⟩
    · have hk2 : k = n := by omega
      have HR2 := Pin.Aside.mk (show lgChain base term L 0 = true from HR.out.2 fun j x hx => HA.out j x (by have := (List.getElem?_eq_some_iff.1 hx).1; omega) hx)
      clear HA
      go_wp2_with fail
      go_ret
      exact ⟨by rw [HR2.out]; rfl, by first | exact hb | (rw [hB]; exact hb)⟩
set_option maxHeartbeats 1600000 in
theorem r16_right (g : Lg) (ho : g.ok) (p : Option Addr) (n c : Nat) (hn2 : n ≤ 1000) (w : World) (hL : EntsAt w p n g.l) :
    Calls Try.prog 54 #[g.val p n c] w fun x w' => x = .returned (.bool g.right) ∧ Below w.heap.size w w' := by
  have hk := (Keep.refl (fun _ => False) w).alloc (.cells #[.int .u64 g.base, .int .u64 g.bt, .slice p n c] 35)
  have hb := hk.below (Nat.le_refl _) fun _ q => q.elim
  obtain ⟨cb, ct, cs⟩ := LgCells.new w 35 g p n c
  have Hc := Pin.Aside.mk (r16_chain g.base g.bt g.l ho.l p n c hn2 _ (hL.keep' hk))
  have HR := Pin.Aside.mk (show g.right = (lgChain g.base g.bt g.l 0 && decide (g.base < 4611686018427387904)) from rfl)
  rw [← HR.out] at Hc
  generalize g.right = R at *
  clear hk hL ho HR
  obtain ⟨base, bt, L⟩ := g
  dsimp only [Lg.val] at *
  go_enter Try.func54, Try.ntmps54
  go_upto_region 1 with fail
  generalize World.alloc _ _ = wa at *
  generalize hB : w.heap.size = B at *
  go_wp2_with fail
  refine Hc.out.mono ?_
  rintro x w1 ⟨rfl, hbb⟩
  replace hb := hb.trans (hbb.mono (by first | exact hb.size | (rw [← hB]; exact hb.size)))
  go_wp2_with fail
  go_ret
  exact ⟨rfl, by first | exact hb | (rw [hB]; exact hb)⟩
theorem find_upto {L : List En} {i : Int} (k : Nat) (e : En) (he : L[k]? = some e) (hi : e.index = i) (hn : ∀ j x, j < k → L[j]? = some x → x.index ≠ i) : (L.find? fun e => decide (e.index = i)) = some e := by
  have hk := List.getElem?_eq_some_iff.1 he
  rw [List.find?_eq_some_iff_getElem]
  refine ⟨by rw [decide_eq_true_eq]; exact hi, k, hk.1, hk.2, fun j hj => ?_⟩
  have hjl : j < L.length := Nat.lt_trans hj hk.1
  have := hn j _ hj (List.getElem?_eq_getElem hjl)
  simpa using this
theorem find_nowhere {L : List En} {i : Int} (hn : ∀ (j : Nat) (x : En), j < L.length → L[j]? = some x → x.index ≠ i) : (L.find? fun e => decide (e.index = i)) = none := by
  rw [List.find?_eq_none]
  intro x hx
  obtain ⟨j, hj⟩ := List.getElem?_of_mem hx
  have := hn j x (List.getElem?_eq_some_iff.1 hj).1 hj
  simpa using this
set_option maxHeartbeats 1600000 in
theorem r16_term (g : Lg) (i : Int) (p : Option Addr) (n c : Nat) (hn2 : n ≤ 1000) (w : World) (hL : EntsAt w p n g.l) :
    Calls Try.prog 56 #[g.val p n c, .int .u64 i] w fun x w' => x = .returned (.tuple #[.int .u64 ((g.term i).getD 0), .bool (g.term i).isSome]) ∧ Below w.heap.size w w' := by
  have hk := (Keep.refl (fun _ => False) w).alloc (.cells #[.int .u64 g.base, .int .u64 g.bt, .slice p n c] 35)
  have hb := hk.below (Nat.le_refl _) fun _ q => q.elim
  obtain ⟨cb, ct, cs⟩ := LgCells.new w 35 g p n c
  have HL := Pin.Aside.mk (hL.keep' hk)
  have hn := hL.len
  clear hk hL
  by_cases hi : i = g.base
  · have HR := Pin.Aside.mk (show g.term i = some g.bt by unfold Lg.term; rw [if_pos hi])
    subst hi
    obtain ⟨base, bt, L⟩ := g
    dsimp only [Lg.val] at *
    go_enter Try.func56, Try.ntmps56
    go_upto_region 1 with fail
    generalize World.alloc _ _ = wa at *
    generalize hB : w.heap.size = B at *
    go_wp2_with fail
    go_ret2
    exact ⟨by rw [HR.out]; rfl, by first | exact hb | (rw [hB]; exact hb)⟩
  · have HR := Pin.Aside.mk (show g.term i = (g.l.find? fun e => decide (e.index = i)).map (·.term) by unfold Lg.term; rw [if_neg hi])
    obtain ⟨base, bt, L⟩ := g
    dsimp only [Lg.val] at *
    obtain ⟨T, hT⟩ : ∃ T, (Lg.mk base bt L).term i = T := ⟨_, rfl⟩
    rw [hT] at HR ⊢
    clear hT
    go_enter Try.func56, Try.ntmps56
    go_upto_region 1 with fail
    generalize World.alloc _ _ = wa at *
    generalize hB : w.heap.size = B at *
    have HW := Pin.Aside.mk (show B + 0 ≤ wa.heap.size from by rw [Nat.add_zero, ← hB]; exact hb.size)
    go_wp2_with fail
    go_loopw [6] (fun x wr => ∃ k : Nat, k ≤ n ∧ x = .int .i64 k ∧ wr = wa ∧ Pin.Aside (∀ j x, j < k → L[j]? = some x → x.index ≠ i)) (fun x _ => n - (intOf x).toNat)
    case atStart => exact ⟨0, by omega, rfl, rfl, Pin.Aside.mk fun j x hj => by omega⟩
    case round =>
      obtain ⟨k, hk, rfl, rfl, HN⟩ := hrel
      by_cases hlt : k < n
      · obtain ⟨e, he⟩ : ∃ x, L[k]? = some x := ⟨L[k], List.getElem?_eq_getElem (by omega)⟩
        obtain ⟨A, o, rfl, hE⟩ := HL.out.at' k e he
        have c0 := hE.c0
        have c1 := hE.c1
        have hk0 : (0 : Int) ≤ (k : Int) := by omega
        have hk1 : (k : Int) < (n : Int) := by omega
        clear hE
        by_cases h1 : e.index = i
        · have HX := Pin.Aside.mk (show T = some e.term by rw [HR.out, find_upto k e he h1 HN.out]; rfl)
          clear HR HN he
          go_wp2_with fail
          go_ret2
          exact ⟨by rw [HX.out]; rfl, by first | exact hb | (rw [hB]; exact hb)⟩
        · have HQ := Pin.Aside.mk (fun (j : Nat) (x : En) (hj : j < k + 1) (hx : L[j]? = some x) => (by
            by_cases q : j = k
            · subst q
              have := he.symm.trans hx
              cases this
              exact h1
            · exact HN.out j x (by omega) hx : x.index ≠ i))
          clear HN he
          go_wp2_with fail
          go_roundw
          case rel => exact ⟨k + 1, by omega, by go_num, trivial, HQ⟩
          case measure => simp [intOf]; omega
      · have hk2 : k = n := by omega
        have HX := Pin.Aside.mk (show T = none by rw [HR.out, find_nowhere (fun j x hj hx => HN.out j x (by omega) hx)]; rfl)
        clear HR HN
        go_wp2_with fail
        go_ret2
        exact ⟨by rw [HX.out]; rfl, by first | exact hb | (rw [hB]; exact hb)⟩
end Go.Proofs.Ythlmigbimeldbaa
