/- RlogHints: the walk. -/
import Derived.Test.YthlmigbimeldbaaRlogNewerW
set_option maxRecDepth 16000
namespace Go.Pin
open Go.RowKit
set_option linter.unusedVariables false
set_option linter.unusedSimpArgs false
theorem enPut_ok {e : En} (he : e.ok) (c : UInt8) {o : En} (ho : o.ok) : (enPut e c o).ok := by
  have h1 := he.client
  have h2 := he.seq
  have h3 := he.block
  have h4 := he.many
  have h5 := he.data
  have h6 := he.old
  have c1 : ∀ s : ByteArray, s.size ≤ 9223372036854775807 → (cut64 s).size ≤ 9223372036854775807 := fun s hs => by
    unfold cut64; rw [ByteArray.size_extract]; omega
  unfold enPut
  split
  · exact ⟨ho.term, ho.index, ho.kind, by dsimp only; omega, by dsimp only; omega, ho.block, ho.many, ho.node, ho.level, ho.data, ho.old⟩
  split
  · exact ⟨ho.term, ho.index, ho.kind, ho.client, ho.seq, by dsimp only; omega, ho.many, ho.node, ho.level, ho.data, ho.old⟩
  split
  · exact ⟨ho.term, ho.index, ho.kind, ho.client, ho.seq, ho.block, by dsimp only; omega, ho.node, ho.level, ho.data, ho.old⟩
  split
  · exact ⟨ho.term, ho.index, ho.kind, ho.client, ho.seq, ho.block, ho.many, by dsimp only; omega, ho.level, ho.data, ho.old⟩
  split
  · exact ⟨ho.term, ho.index, ho.kind, ho.client, ho.seq, ho.block, ho.many, ho.node, by dsimp only; omega, ho.data, ho.old⟩
  split
  · exact ⟨ho.term, ho.index, ho.kind, ho.client, ho.seq, ho.block, ho.many, ho.node, ho.level, c1 _ h5, ho.old⟩
  split
  · exact ⟨ho.term, ho.index, ho.kind, ho.client, ho.seq, ho.block, ho.many, ho.node, ho.level, ho.data, c1 _ h6⟩
  exact ho
theorem En.own_ok {e : En} (he : e.ok) : e.own.ok := by
  have hs : (enStart e).ok := by
    have h1 := enKind_in e.kind
    have h2 := he.term
    have h3 := he.index
    unfold enStart En.zero
    constructor <;> dsimp only <;> first | omega | decide
  have key : ∀ (l : List UInt8) (o : En), o.ok → (l.foldl (fun o c => enPut e c o) o).ok := by
    intro l
    induction l with
    | nil => exact fun o h => h
    | cons c l ih => exact fun o h => ih _ (enPut_ok he c h)
  exact key _ _ hs
theorem lgRising_ok (M : List (En × Bool)) (base term : Int) (h1 : 0 ≤ base) (h2 : 0 ≤ term) (hM : ∀ x ∈ M, x.1.ok) : (lgRising M base term 10).ok := by
  have hn := lgRising_neat M base term h1 h2
  have hb := hn.base
  have ht := hn.bt
  refine ⟨by omega, by omega, fun e he => ?_⟩
  have h3 := hn.term e he
  obtain ⟨k, hk⟩ := List.getElem?_of_mem he
  have h4 := hn.index k e hk
  have h5 := (List.getElem?_eq_some_iff.1 hk).1
  have h6 := hn.len
  obtain ⟨x, hx, rfl⟩ := lgRise_get _ _ _ _ hk
  unfold lgLogged at hx
  rw [List.getElem?_mapIdx] at hx
  cases hq : (M.take 10)[k]? with
  | none => rw [hq] at hx; cases hx
  | some y =>
    rw [hq] at hx
    simp only [Option.map_some, Option.some.injEq] at hx
    subst hx
    have ho := En.own_ok (hM y (List.mem_of_mem_take (List.mem_of_getElem? hq)))
    exact ⟨by omega, by omega, ho.kind, ho.client, ho.seq, ho.block, ho.many, ho.node, ho.level, ho.data, ho.old⟩
theorem Lg.neat.term_some {g : Lg} (h : g.neat) (i : Int) (h1 : g.base ≤ i) (h2 : i ≤ g.base + g.l.length) : (g.term i).isSome = true := by
  unfold Lg.term
  by_cases q : i = g.base
  · rw [if_pos q]; rfl
  · rw [if_neg q]
    have hk : (i - g.base - 1).toNat < g.l.length := by omega
    have he := h.index _ _ (List.getElem?_eq_getElem hk)
    rw [Option.isSome_map, List.find?_isSome]
    exact ⟨_, List.getElem_mem hk, by rw [decide_eq_true_eq, he]; omega⟩
theorem hint_law {g : Lg} (h : g.neat) (prev : Int) (h1 : g.base < prev) : (g.term (g.hint prev)).isSome = true ∧ g.hint prev < prev ∧ g.base ≤ g.hint prev := by
  have hb := h.base
  have hl := h.len
  have hla := h.last.2.2.2.2
  have key : ∀ x, g.hint prev = x → g.base ≤ x → x < prev → x ≤ g.base + g.l.length → (g.term (g.hint prev)).isSome = true ∧ g.hint prev < prev ∧ g.base ≤ g.hint prev := by
    intro x hx h2 h3 h4
    rw [hx]; exact ⟨h.term_some x h2 h4, h3, h2⟩
  by_cases q : g.last.1 < prev
  · refine key g.last.1 (by unfold Lg.hint; rw [if_pos q]) (by omega) q (by omega)
  · have hk : (prev - g.base - 1).toNat < g.l.length := by omega
    have he := h.index _ _ (List.getElem?_eq_getElem hk)
    have hs := h.term_some prev (by omega) (by omega)
    obtain ⟨t, ht⟩ := Option.isSome_iff_exists.1 hs
    have ht' := ht
    unfold Lg.term at ht'
    rw [if_neg (by omega)] at ht'
    obtain ⟨x, hx, hxt⟩ := Option.map_eq_some_iff.1 ht'
    rw [List.find?_eq_some_iff_getElem] at hx
    obtain ⟨hx1, j, hj, rfl, _⟩ := hx
    have hj2 := h.index _ _ (List.getElem?_eq_getElem hj)
    rw [decide_eq_true_eq] at hx1
    cases hf : g.l.find? fun e => decide (e.term = t) with
    | none =>
      rw [List.find?_eq_none] at hf
      exact absurd (by simpa using hxt) (hf _ (List.getElem_mem hj))
    | some y =>
      have hf2 := hf
      rw [List.find?_eq_some_iff_getElem] at hf2
      obtain ⟨_, m, hm, rfl, hmin⟩ := hf2
      have hm2 := h.index _ _ (List.getElem?_eq_getElem hm)
      have hmj : m ≤ j := by
        rcases Nat.lt_or_ge j m with q2 | q2
        · have := hmin j q2
          simp [hxt] at this
        · exact q2
      refine key (g.base + m) ?_ (by omega) (by omega) (by omega)
      unfold Lg.hint
      rw [if_neg q, ht]
      dsimp only
      rw [if_neg (by omega), hf]
      dsimp only
      rw [hm2]
      omega
end Go.Pin
namespace Go.Proofs.Ythlmigbimeldbaa
open Go.RowKit Go.Pin
set_option linter.unusedVariables false
set_option linter.unusedSimpArgs false
set_option maxHeartbeats 3200000 in
theorem rlogHints_walk (a0 : Option Addr) (len0 cap0 : Nat) (base term at' : Int) (w : World) (H0 : isSlice madePs w (.slice a0 len0 cap0)) (hb0 : 0 ≤ base ∧ base ≤ 18446744073709551615) (ht0 : 0 ≤ term ∧ term ≤ 18446744073709551615) (ha0 : 0 ≤ at' ∧ at' ≤ 255) :
    Calls Try.prog 6 #[.slice a0 len0 cap0, .int .u64 base, .int .u64 term, .int .u8 at'] w fun e w' => e = .returned (.bool true) ∧ Below w.heap.size w w' := by
  obtain ⟨M0, hM0⟩ := mades_of_slice H0
  have G0 := Pin.Aside.mk (fun W hW => mk_rising M0 base term hb0 ht0 10 (by omega) a0 len0 cap0 W hW)
  have HM0 := Pin.Aside.mk hM0
  have N0 := Pin.Aside.mk (lgRising_neat M0 base term hb0.1 ht0.1)
  have OK0 := Pin.Aside.mk (lgRising_ok M0 base term hb0.1 ht0.1 hM0.ok)
  generalize lgRising M0 base term 10 = X at *
  clear H0 hM0
  have hb := Below.refl w.heap.size w
  have hB0 : w.heap.size = w.heap.size := rfl
  have He := Pin.Aside.mk (mk_examples w)
  generalize hB : w.heap.size = B at hb hB0 He ⊢
  clear hB0
  go_enter Try.func6, Try.ntmps6
  go_wp2_with fail
  refine He.out.mono ?_
  rintro x w1 ⟨rfl, hbb⟩
  replace hb := hb.trans hbb
  clear hbb He
  go_wp2_with fail
  refine (G0.out w1 (HM0.out.below (by rw [hB]; exact hb))).mono ?_
  rintro x w2 ⟨⟨p0, n0, c0, rfl, hO0⟩, hbb⟩
  replace hb := hb.trans (hbb.mono (by first | exact hb.size | (rw [← hB]; exact hb.size)))
  have hE0 := Pin.Aside.mk (OwnE.ents hO0).1
  have hn0 : n0 ≤ 10 := by rw [← hE0.out.len]; exact N0.out.len
  clear hbb hO0
  have hka := (Keep.refl (fun _ => False) w2).alloc (.cells #[.int .u64 X.base, .int .u64 X.bt, .slice p0 n0 c0] 27)
  obtain ⟨xb, xt, xs⟩ := LgCells.new w2 27 X p0 n0 c0
  replace hb := hb.trans (hka.below (by first | exact hb.size | (rw [← hB]; exact hb.size)) fun _ q => q.elim)
  replace hE0 := Pin.Aside.mk (hE0.out.keep' hka)
  clear hka
  go_upto_region 5 with fail
  generalize World.alloc w2 _ = w3 at *
  generalize w2.heap.size = BX at *
  have hxb := N0.out.base
  have hw1 : IntKind.u64.wrap (X.base + 1) = X.base + 1 := by rw [IntKind.wrap_u64]; omega
  have hw2 : IntKind.u64.wrap (X.base + 1 + at') = X.base + 1 + at' := by rw [IntKind.wrap_u64]; omega
  obtain ⟨q1, q2, q3⟩ := hint_law N0.out (X.base + 1 + at') (by omega)
  have K1 := Pin.Aside.mk (fun W hW => lg_hint X OK0.out (X.base + 1 + at') (by omega) p0 n0 c0 (by omega) W hW)
  obtain ⟨h, hh⟩ : ∃ h, X.hint (X.base + 1 + at') = h := ⟨_, rfl⟩
  rw [hh] at q1 q2 q3 K1
  have K2 := Pin.Aside.mk (fun W hW => lg_term X h p0 n0 c0 (by omega) W hW)
  rw [q1] at K2
  obtain ⟨T, hT⟩ : ∃ T, (X.term h).getD 0 = T := ⟨_, rfl⟩
  rw [hT] at K2
  clear hh hT q1
  dsimp only [Lg.val] at *
  go_wp2_with fail
  refine (K1.out _ hE0.out).mono ?_
  rintro x w4 ⟨rfl, hbb⟩
  have hkk : Keep (fun _ => False) w3 w4 := Keep.of_below hbb fun _ q _ => q
  replace xb := hkk.cell xb id
  replace xt := hkk.cell xt id
  replace xs := hkk.cell xs id
  replace hb := hb.trans (hbb.mono (by first | exact hb.size | (rw [← hB]; exact hb.size)))
  replace hE0 := Pin.Aside.mk (hE0.out.below hbb)
  clear hbb hkk
  go_wp2_with fail
  refine (K2.out _ hE0.out).mono ?_
  rintro x w5 ⟨rfl, hbb⟩
  have hkk : Keep (fun _ => False) w4 w5 := Keep.of_below hbb fun _ q _ => q
  replace xb := hkk.cell xb id
  replace xt := hkk.cell xt id
  replace xs := hkk.cell xs id
  replace hb := hb.trans (hbb.mono (by first | exact hb.size | (rw [← hB]; exact hb.size)))
  replace hE0 := Pin.Aside.mk (hE0.out.below hbb)
  clear hbb hkk
  go_wp2_with fail
  go_ret
  exact ⟨by simp, by first | exact hb | (rw [hB]; exact hb)⟩
end Go.Proofs.Ythlmigbimeldbaa
