/- rlog: Right. -/
import Derived.Test.YthlmigbimeldbaaLgW
set_option maxRecDepth 16000
namespace Go.Pin
open Go.RowKit
set_option linter.unusedVariables false
set_option linter.unusedSimpArgs false
/-- Numbers of their size, in the base and in each entry. -/
structure Lg.ok (g : Lg) : Prop where
  base : 0 ≤ g.base ∧ g.base ≤ 18446744073709551615
  bt : 0 ≤ g.bt ∧ g.bt ≤ 18446744073709551615
  l : ∀ e ∈ g.l, e.ok
/-- What an entry has to be at place k behind a term. -/
def lgFits (base term : Int) (k : Nat) (e : En) : Bool := e.right && decide (e.index = (base + k + 1) % 18446744073709551616) && decide (term ≤ e.term)
/-- The term ahead of entry k. -/
def lgBefore (bt : Int) (L : List En) : Nat → Int
  | 0 => bt
  | k + 1 => (L.getD k En.zero).term
theorem lgChain_fits (base : Int) : ∀ (L : List En) (term : Int) (i : Nat), lgChain base term L i = true ↔ ∀ k e, L[k]? = some e → lgFits base (lgBefore term L k) (i + k) e = true
  | [], term, i => by simp [lgChain]
  | e :: L, term, i => by
    have ih := lgChain_fits base L e.term (i + 1)
    unfold lgChain
    rw [Bool.and_eq_true, ih]
    constructor
    · rintro ⟨h1, h2⟩ k x hx
      cases k with
      | zero => simp at hx; subst hx; exact h1
      | succ k =>
        have := h2 k x (by simpa using hx)
        rw [show i + 1 + k = i + (k + 1) by omega] at this
        cases k with
        | zero => exact this
        | succ k => exact this
    · intro h
      refine ⟨h 0 e rfl, fun k x hx => ?_⟩
      have := h (k + 1) x (by simpa using hx)
      rw [show i + (k + 1) = i + 1 + k by omega] at this
      cases k with
      | zero => exact this
      | succ k => exact this
end Go.Pin
namespace Go.Proofs.Ythlmigbimeldbaa
open Go.RowKit Go.Pin
set_option linter.unusedVariables false
set_option linter.unusedSimpArgs false
set_option maxHeartbeats 1600000 in
theorem lg_wrong (base bt term : Int) (k : Nat) (hk2 : k ≤ 1000) (hbase : 0 ≤ base ∧ base ≤ 18446744073709551615) (e : En) (ho : e.ok) (G M : Nat) (w : World) (hG : w.cell? ⟨G, 0, none⟩ = some (.int .u64 base)) (hM : w.cell? ⟨M, 0, none⟩ = some (.int .u64 term)) (hf : w.frozen? ⟨M, 0, none⟩ = false) :
    Calls Try.prog 57 #[.int .i64 k, .agg e.cells, .pointer (some ⟨G, 0, none⟩), .pointer (some ⟨M, 0, none⟩)] w fun x w' => x = .returned (.bool (!lgFits base term k e)) ∧ Keep (fun b => b = M) w w' ∧ w'.cell? ⟨M, 0, none⟩ = some (.int .u64 e.term) ∧ w'.frozen? ⟨M, 0, none⟩ = false := by
  have hk := (Keep.refl (fun _ => False) w).alloc (.cells e.cells 32)
  have hE := EnAt.new w 32 e
  have hG2 := hk.cell hG id
  have hM2 := hk.cell hM id
  have hf2 : (w.alloc (.cells e.cells 32)).frozen? ⟨M, 0, none⟩ = false := by rw [hk.frozen (World.block_lt_of_cell? _ _ hM) id]; exact hf
  have Hr := Pin.Aside.mk (en_right e ho (w.alloc (.cells e.cells 32)))
  have Hs := Pin.Aside.mk (show lgFits base term k e = (e.right && (e.index == (base + k + 1) % 18446744073709551616) && decide (term ≤ e.term)) from rfl)
  have hMlt : M < w.heap.size := World.block_lt_of_cell? _ _ hM
  generalize e.right = R at *
  clear hG hM hf
  have hd1 := ho.index
  obtain ⟨eterm, index, kind, client, seq, block, many, node, level, data, old⟩ := e
  dsimp only [En.cells] at *
  clear ho
  go_enter Try.func57, Try.ntmps57
  go_upto_region 1 with fail
  generalize World.alloc _ _ = wa at *
  generalize hB : w.heap.size = B at *
  obtain ⟨c0, c1, c2, c3, c4, c5, c6, c7, c8, c9, c10⟩ := hE
  dsimp only at c0 c1 c2 c3 c4 c5 c6 c7 c8 c9 c10
  simp only [Nat.zero_add] at c0 c1 c2 c3 c4 c5 c6 c7 c8 c9 c10
  go_wp2_with fail
  refine Hr.out.mono ?_
  rintro x w1 ⟨rfl, hbb⟩
  have hkk : Keep (fun _ => False) wa w1 := Keep.of_below hbb fun _ q _ => q
  replace c0 := hkk.cell c0 id
  replace c1 := hkk.cell c1 id
  replace hG2 := hkk.cell hG2 id
  replace hf2 : w1.frozen? ⟨M, 0, none⟩ = false := by rw [hkk.frozen (World.block_lt_of_cell? _ _ hM2) id]; exact hf2
  replace hM2 := hkk.cell hM2 id
  replace hk := (hk.trans hkk).mono (T := fun b => b = M) fun _ q => q.elim
  clear hkk hbb c2 c3 c4 c5 c6 c7 c8 c9 c10 Hr
  cases R with
  | false =>
    go_wp2_with fail
    go_ret
    exact ⟨by rw [Hs.out]; simp, hk.setCell (.inl rfl) _, World.cell?_setCell_same _ _ _ hM2, by simpa using hf2⟩
  | true =>
    have hwr : (base + k + 1) % 18446744073709551616 = IntKind.u64.wrap (IntKind.u64.wrap (base + k) + 1) := by rw [IntKind.wrap_u64, IntKind.wrap_u64]; omega
    rw [hwr] at Hs
    clear hwr
    by_cases h1 : index = IntKind.u64.wrap (IntKind.u64.wrap (base + k) + 1)
    · by_cases h2 : term ≤ eterm
      · have Hs2 := Pin.Aside.mk (show lgFits base term k ⟨eterm, index, kind, client, seq, block, many, node, level, data, old⟩ = true by rw [Hs.out]; simp [h1, h2])
        clear Hs
        go_wp2_with fail
        go_ret
        exact ⟨by rw [Hs2.out]; simp [h2], hk.setCell (.inl rfl) _, World.cell?_setCell_same _ _ _ hM2, by simpa using hf2⟩
      · have Hs2 := Pin.Aside.mk (show lgFits base term k ⟨eterm, index, kind, client, seq, block, many, node, level, data, old⟩ = false by rw [Hs.out]; simp [h1, h2])
        clear Hs
        go_wp2_with fail
        go_ret
        exact ⟨by rw [Hs2.out]; simp; omega, hk.setCell (.inl rfl) _, World.cell?_setCell_same _ _ _ hM2, by simpa using hf2⟩
    · have Hs2 := Pin.Aside.mk (show lgFits base term k ⟨eterm, index, kind, client, seq, block, many, node, level, data, old⟩ = false by rw [Hs.out]; simp [h1])
      clear Hs
      go_wp2_with fail
      go_ret
      exact ⟨by rw [Hs2.out]; simp, hk.setCell (.inl rfl) _, World.cell?_setCell_same _ _ _ hM2, by simpa using hf2⟩
set_option maxHeartbeats 1600000 in
theorem lg_right (g : Lg) (ho : g.ok) (p : Option Addr) (n c : Nat) (hn2 : n ≤ 1000) (w : World) (hL : EntsAt w p n g.l) :
    Calls Try.prog 22 #[g.val p n c] w fun x w' => x = .returned (.bool g.right) ∧ Below w.heap.size w w' := by
  have hk := (Keep.refl (fun _ => False) w).alloc (.cells #[.int .u64 g.base, .int .u64 g.bt, .slice p n c] 27)
  obtain ⟨cb, ct, cs⟩ := LgCells.new w 27 g p n c
  have hk2 := (Keep.refl (fun _ => False) (w.alloc (.cells #[.int .u64 g.base, .int .u64 g.bt, .slice p n c] 27))).alloc (.cells #[.int .u64 g.bt] 23)
  have cb2 := hk2.cell cb id
  have cs2 := hk2.cell cs id
  have hM : ((w.alloc (.cells #[.int .u64 g.base, .int .u64 g.bt, .slice p n c] 27)).alloc (.cells #[.int .u64 g.bt] 23)).cell? ⟨w.heap.size + 1, 0, none⟩ = some (.int .u64 g.bt) := by simp
  have hf : ((w.alloc (.cells #[.int .u64 g.base, .int .u64 g.bt, .slice p n c] 27)).alloc (.cells #[.int .u64 g.bt] 23)).frozen? ⟨w.heap.size + 1, 0, none⟩ = false := by simp
  have hb := (hk.trans hk2).below (Nat.le_refl _) fun _ q => q.elim
  have HL := Pin.Aside.mk hL
  have hn := hL.len
  have HO := Pin.Aside.mk ho
  have hbase := ho.base
  have hR := lgChain_fits g.base g.l g.bt 0
  simp only [Nat.zero_add] at hR
  have HR := Pin.Aside.mk hR
  clear hk hL hk2 ho hR
  unfold Lg.right
  obtain ⟨base, bt, L⟩ := g
  dsimp only [Lg.val] at *
  go_enter Try.func22, Try.ntmps22
  go_upto_region 1 with fail
  go_upto_region 2 with fail
  generalize World.alloc (World.alloc _ _) _ = wa at *
  generalize hB : w.heap.size = B at *
  clear cb ct cs
  go_wp2_with fail
  clear cs2
  go_loopw [13] (fun x wr => ∃ k : Nat, k ≤ n ∧ x = .int .i64 k ∧ Below B w wr ∧ wr.cell? ⟨B, 0, none⟩ = some (.int .u64 base) ∧ wr.cell? ⟨B + 1, 0, none⟩ = some (.int .u64 (lgBefore bt L k)) ∧ wr.frozen? ⟨B + 1, 0, none⟩ = false ∧ Pin.Aside (∀ j x, j < k → L[j]? = some x → lgFits base (lgBefore bt L j) j x = true)) (fun x _ => n - (intOf x).toNat)
  case atStart => exact ⟨0, by omega, rfl, hb, cb2, hM, hf, Pin.Aside.mk fun j x hj => by omega⟩
  case round =>
    clear hb cb2 hM hf
    obtain ⟨k, hk, rfl, hb, cb2, hM, hf, HA⟩ := hrel
    by_cases hlt : k < n
    · obtain ⟨e, he⟩ : ∃ x, L[k]? = some x := ⟨L[k], List.getElem?_eq_getElem (by omega)⟩
      obtain ⟨A, o, rfl, hE⟩ := HL.out.at' k e he
      replace hE := hE.keep (Keep.of_below (S := fun _ => False) hb fun _ q _ => by rw [← hB]; exact q) id
      have hke := (Keep.refl (fun _ => False) wr).alloc (.cells e.cells 32)
      have hE2 := EnAt.new wr 32 e
      have cb3 := hke.cell cb2 id
      have hM3 := hke.cell hM id
      have hf3 : (wr.alloc (.cells e.cells 32)).frozen? ⟨B + 1, 0, none⟩ = false := by rw [hke.frozen (World.block_lt_of_cell? _ _ hM) id]; exact hf
      have hsz := World.block_lt_of_cell? _ _ hM
      dsimp only at hsz
      have hbe := hb.trans (hke.below (by rw [← hB]; exact hb.size) fun _ q => q.elim)
      have Hc := Pin.Aside.mk (lg_wrong base bt (lgBefore bt L k) k (by omega) hbase e (HO.out.l e (List.mem_of_getElem? he)) B (B + 1) (wr.alloc (.cells e.cells 32)) cb3 hM3 hf3)
      have hk0 : (0 : Int) ≤ (k : Int) := by omega
      have hk1 : (k : Int) < (n : Int) := by omega
      have Hx := Pin.Aside.mk he
      have HE2 := Pin.Aside.mk hE2
      obtain ⟨c0, c1, c2, c3, c4, c5, c6, c7, c8, c9, c10⟩ := hE
      clear he hE2 hke hM3 hf3 hM hf
      have HS := Pin.Aside.mk hsz
      clear hsz
      generalize hF : lgFits base (lgBefore bt L k) k e = F at *
      have HF := Pin.Aside.mk hF
      clear hF
      go_upto_region 6 with fail
      clear c0 c1 c2 c3 c4 c5 c6 c7 c8 c9 c10 cb2 hb
      generalize hwe : World.alloc wr _ = we at *
      generalize hE3 : wr.heap.size = E at *
      clear hwe
      obtain ⟨c0, c1, c2, c3, c4, c5, c6, c7, c8, c9, c10⟩ := HE2.out
      simp only [Nat.zero_add] at c0 c1 c2 c3 c4 c5 c6 c7 c8 c9 c10
      go_wp2_with fail
      refine Hc.out.mono ?_
      rintro x w1 ⟨rfl, hkk, hM, hf⟩
      have cb2 := hkk.cell cb3 (by simp)
      have hb := hbe.trans (hkk.below (by rw [← hB]; exact hbe.size) fun q h => by rw [h]; omega)
      clear c0 c1 c2 c3 c4 c5 c6 c7 c8 c9 c10 hkk cb3 hbe HE2 Hc hE3
      cases F with
      | false =>
        have HR2 := Pin.Aside.mk (show lgChain base bt L 0 = false by
          rw [Bool.eq_false_iff]; intro q
          have := (HR.out.1 q) k e Hx.out
          rw [HF.out] at this; cases this)
        clear hM hf cb2
        go_wp2_with fail
        go_ret
        exact ⟨by rw [HR2.out]; simp, by first | exact hb | (rw [hB]; exact hb)⟩
      | true =>
        go_wp2_with fail
        go_roundw
        case rel =>
          refine ⟨k + 1, by omega, by simp, hb, cb2, ?_, hf, Pin.Aside.mk fun j x hj hx => ?_⟩
          · rw [hM]
            show _ = some (Value.int .u64 (L.getD k En.zero).term)
            rw [List.getD_eq_getElem?_getD, Hx.out]; rfl
          · by_cases q : j = k
            · subst q
              have := Hx.out.symm.trans hx
              cases this
              exact HF.out
            · exact HA.out j x (by omega) hx
        case measure => simp [intOf]; omega
    · have hk2 : k = n := by omega
      subst hk2
      have HR2 := Pin.Aside.mk (show lgChain base bt L 0 = true from HR.out.2 fun j x hx => HA.out j x (by rw [← hn]; exact (List.getElem?_eq_some_iff.1 hx).1) hx)
      clear hM hf
      by_cases h2 : base < 4611686018427387904
      · go_wp2_with fail
        go_ret
        exact ⟨by rw [HR2.out]; simp [h2], by first | exact hb | (rw [hB]; exact hb)⟩
      · go_wp2_with fail
        go_ret
        exact ⟨by rw [HR2.out]; simp; omega, by first | exact hb | (rw [hB]; exact hb)⟩
end Go.Proofs.Ythlmigbimeldbaa
