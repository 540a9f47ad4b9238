/- rlog: Take$1, slices.Clone of entries. -/
import Derived.Test.YthlmigbimeldbaaLgP
import Derived.Lib.SliceRun
set_option maxRecDepth 16000
namespace Go.Proofs.Ythlmigbimeldbaa
open Go.RowKit Go.Pin
set_option linter.unusedVariables false
set_option linter.unusedSimpArgs false
set_option maxHeartbeats 1600000 in
theorem lg_miss1 (g : Lg) (e : En) (G : Nat) (p : Option Addr) (n c : Nat) (hn2 : n ≤ 1000) (w : World) (hG : LgCells w G g p n c) (hL : EntsAt w p n g.l) :
    Calls Try.prog 52 #[.agg e.cells, .pointer (some ⟨G, 0, none⟩)] w fun x w' => x = .returned (.bool (lgMiss g e)) ∧ Below w.heap.size w w' := by
  have hk := (Keep.refl (fun _ => False) w).alloc (.cells e.cells 32)
  have hb := hk.below (Nat.le_refl _) fun _ q => q.elim
  have hE := EnAt.new w 32 e
  obtain ⟨cb, ct, cs⟩ := hG.keep hk id
  have Hs := Pin.Aside.mk (lg_same g e.index e.term p n c hn2 _ (hL.keep' hk))
  clear hk hG hL
  have HR := Pin.Aside.mk (show lgMiss g e = (decide (g.base < e.index) && !g.same e.index e.term) from rfl)
  generalize g.same e.index e.term = S at *
  obtain ⟨term, index, kind, client, seq, block, many, node, level, data, old⟩ := e
  obtain ⟨base, bt, L⟩ := g
  dsimp only [En.cells, Lg.val] at *
  go_enter Try.func52, Try.ntmps52
  go_upto_region 1 with fail
  generalize World.alloc _ _ = wa at *
  generalize hB : w.heap.size = B at *
  have c0 := hE.c0
  have c1 := hE.c1
  clear hE
  dsimp only at c0 c1
  try simp only [Nat.zero_add] at c0 c1
  by_cases h1 : base < index
  · go_wp2_with fail
    refine Hs.out.mono ?_
    rintro x w1 ⟨rfl, hbb⟩
    replace hb := hb.trans (hbb.mono (by first | exact hb.size | (rw [← hB]; exact hb.size)))
    clear hbb Hs c0 c1 cb ct cs
    go_wp2_with fail
    go_ret
    exact ⟨by rw [HR.out]; simp [h1], by first | exact hb | (rw [hB]; exact hb)⟩
  · clear Hs
    go_wp2_with fail
    go_ret
    exact ⟨by rw [HR.out, show decide (base < index) = false from decide_eq_false (by omega)]; rfl, by first | exact hb | (rw [hB]; exact hb)⟩
set_option maxHeartbeats 1600000 in
theorem lg_idxMiss (q : En → Bool) (M : Nat) (p : Option Addr) (n c : Nat) (L : List En) (hn2 : n ≤ 1000) (w : World) (hL : EntsAt w p n L)
    (Hq : ∀ e ∈ L, ∀ W, Below w.heap.size w W → Calls Try.prog 52 #[.agg e.cells, .pointer (some ⟨M, 0, none⟩)] W fun x W' => x = .returned (.bool (q e)) ∧ Below W.heap.size W W') :
    Calls Try.prog 51 #[.slice p n c, .func (.func 52) #[] #[.pointer (some ⟨M, 0, none⟩)]] w fun x w' => x = .returned (.int .i64 (lgIdx q L)) ∧ Below w.heap.size w w' := by
  have hn := hL.len
  have hb := Below.refl w.heap.size w
  have HL := Pin.Aside.mk hL
  have HQ := Pin.Aside.mk Hq
  clear hL Hq
  go_enter Try.func51, Try.ntmps51
  go_wp2_with fail
  go_loopw [8] (fun x wr => ∃ k : Nat, k ≤ n ∧ x = .int .i64 k ∧ Below w.heap.size w wr ∧ Pin.Aside (∀ j x, j < k → L[j]? = some x → q x = false)) (fun x _ => n - (intOf x).toNat)
  case atStart => exact ⟨0, by omega, rfl, hb, Pin.Aside.mk fun j x hj => by omega⟩
  case round =>
    clear hb
    obtain ⟨k, hk, rfl, hb, HA⟩ := hrel
    have hkw : Keep (fun _ => False) w wr := Keep.of_below hb fun _ hk _ => hk
    by_cases hlt : k < n
    · obtain ⟨e, he⟩ : ∃ x, L[k]? = some x := ⟨L[k], List.getElem?_eq_getElem (by omega)⟩
      have Hc := Pin.Aside.mk (HQ.out e (List.mem_of_getElem? he) wr hb)
      obtain ⟨A, o, rfl, hE⟩ := HL.out.at' k e he
      obtain ⟨c0, c1, c2, c3, c4, c5, c6, c7, c8, c9, c10⟩ := hE.keep hkw id
      clear hE hkw
      have Hx := Pin.Aside.mk he
      have hk0 : (0 : Int) ≤ (k : Int) := by omega
      have hk1 : (k : Int) < (n : Int) := by omega
      obtain ⟨B, hB⟩ : ∃ B, q e = B := ⟨_, rfl⟩
      rw [hB] at Hc
      have HB := Pin.Aside.mk hB
      clear hB he
      cases B with
      | true =>
        go_wp2_with fail
        refine (Hc.out).mono ?_
        rintro x w1 ⟨rfl, hbb⟩
        replace hb := hb.trans (hbb.mono hb.size)
        clear hbb c0 c1 c2 c3 c4 c5 c6 c7 c8 c9 c10
        go_wp2_with fail
        go_ret
        refine ⟨?_, hb⟩
        rw [lgIdx_at Hx.out HB.out HA.out]; rfl
      | false =>
        go_wp2_with fail
        refine (Hc.out).mono ?_
        rintro x w1 ⟨rfl, hbb⟩
        replace hb := hb.trans (hbb.mono hb.size)
        clear hbb c0 c1 c2 c3 c4 c5 c6 c7 c8 c9 c10
        go_wp2_with fail
        go_roundw
        case rel =>
          refine ⟨k + 1, by omega, by simp, hb, Pin.Aside.mk fun j x hj hx => ?_⟩
          by_cases q : j = k
          · subst q
            have := Hx.out.symm.trans hx
            cases this
            exact HB.out
          · exact HA.out j x (by omega) hx
        case measure => simp [intOf]; omega
    · have hk2 : k = n := by omega
      go_wp2_with fail
      go_ret
      refine ⟨?_, hb⟩
      rw [lgIdx_none (fun j x hx => HA.out j x (by have := (List.getElem?_eq_some_iff.1 hx).1; omega) hx)]; rfl
set_option maxHeartbeats 1600000 in
theorem lg_clone (p : Option Addr) (n c : Nat) (L : List En) (hn2 : n ≤ 1000) (w : World) (hL : EntsAt w p n L) :
    Calls Try.prog 53 #[.slice p n c] w fun x w' => (∃ v, x = .returned v ∧ OwnE w' w.heap.size 32 v L) ∧ Below w.heap.size w w' := by
  obtain ⟨i0, hi, hz0, hzs, hzb⟩ := info_parts en_info
  have hb0 := Below.refl w.heap.size w
  have hnil := Go.Lib.run_eql_slice_nil (P := Try.prog) w 25 32 p n c 0 0 Try.underlying25
  cases p with
  | none =>
    have hl : L = [] := by
      cases L with
      | nil => rfl
      | cons e L => obtain ⟨A, o, q, _⟩ := hL.at' 0 e rfl; cases q
    subst hl
    have hn : n = 0 := by rw [← hL.len]; rfl
    subst hn
    clear hL
    go_enter Try.func53, Try.ntmps53
    go_wp2_with fail
    go_ret
    exact ⟨⟨_, rfl, ownE_nil _ _ _⟩, hb0⟩
  | some ad =>
    have hka := (Keep.refl (fun _ => False) w).alloc (.cells #[] 32)
    have hb := hka.below (Nat.le_refl _) fun _ q => q.elim
    have hown : (w.alloc (.cells #[] 32)).ownsRow w.heap.size 32 11 (.slice (some ⟨w.heap.size, 0, none⟩) 0 0) 0 [] := ⟨rfl, .inr ⟨w.heap.size, 0, #[], rfl, Nat.le_refl _, Go.heap_alloc_new w _, Nat.le_refl _, by unfold maxLen; omega, rfl, rfl⟩⟩
    have hnews : ∀ (j : Nat) (u : Value), (enCells L)[j]? = some u → (w.alloc (.cells #[] 32)).cell? (ad.add j) = some u := fun j u hu => hka.cell (hL.news j u hu) id
    have hlen : (enCells L).length = n * 11 := by rw [enCells_len, hL.len]
    have hn := hL.len
    have Hn := Pin.Aside.mk hnews
    clear hnews hka hL
    go_enter Try.func53, Try.ntmps53
    go_wp2_with (at_builtin; refine wpList_append_own _ rfl _ _ 25 rfl w.heap.size 32 i0 En.zero.val 11 104 Try.underlying25 hi hz0 hzs hzb rfl (by decide) _ _ _ rfl hown ad n c (enCells L) rfl hlen Hn.out (enCells_one L) ?c3 ?c4 ?c5 ?_)
    case c3 => unfold maxLen; omega
    case c4 => omega
    case c5 => simp
    intro v' w4 hown4 hgrow _
    have hb4 := hb.grown hgrow (by simp) (fun k hk => (hown.lt k hk).1)
    have Ho := Pin.Aside.mk (show OwnE w4 w.heap.size 32 v' L by
      unfold OwnE; rw [hn]
      exact hown4)
    clear hown hown4 hgrow hb
    go_wp2_with fail
    go_ret
    exact ⟨⟨_, rfl, Ho.out⟩, hb4⟩
end Go.Proofs.Ythlmigbimeldbaa
