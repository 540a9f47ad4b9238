/- What slices.Clone of sectors and device.Device's After compute. -/
import Derived.Test.YtpfkpaombiikcaaDoorDevN
import Derived.Test.YtpfkpaombiikcaaDoorDevI
import Derived.Test.YtpfkpaombiikcaaDoorDevQ
import Derived.Test.YtpfkpaombiikcaaDoorIdx
set_option maxRecDepth 16000
namespace Go.Pin
open Go.RowKit
set_option linter.unusedVariables false
set_option linter.unusedSimpArgs false
/-- n sectors, one behind the other, as cells. -/
def rowCells (o : Nat → ByteArray) (n : Nat) : List Value := (List.range (n * 64)).map fun j => Value.int .u8 (((o (j / 64)).data.toList.getD (j % 64) 0).toNat : Int)
theorem rowCells_len (o : Nat → ByteArray) (n : Nat) : (rowCells o n).length = n * 64 := by unfold rowCells; rw [List.length_map, List.length_range]
theorem rowCells_at (o : Nat → ByteArray) (n j : Nat) (hj : j < n * 64) : (rowCells o n)[j]? = some (Value.int .u8 (((o (j / 64)).data.toList.getD (j % 64) 0).toNat : Int)) := by
  unfold rowCells
  rw [List.getElem?_map, List.getElem?_range hj]; rfl
theorem rowCells_one (o : Nat → ByteArray) (n : Nat) : ∀ u ∈ rowCells o n, u.oneCell' = true := by
  intro u hu
  unfold rowCells at hu
  obtain ⟨x, _, rfl⟩ := List.mem_map.1 hu
  rfl
theorem sec_of_cells {w : World} {g : Nat} {s : ByteArray} (i : Nat) (hz : s.size = 64) (h : ∀ r, r < 64 → w.cell? ⟨g, i * 64 + r, none⟩ = some (.int .u8 ((s.data.toList.getD r 0).toNat : Int))) (hf : ∀ j, w.frozen? ⟨g, j, none⟩ = false) : SecAt w g (i * 64) s := by
  refine ⟨hz, fun j v hv => ?_, fun j hj => hf _⟩
  have hj : j < (secCells s).length := (List.getElem?_eq_some_iff.1 hv).1
  rw [secCells_length, hz] at hj
  rw [h j hj, ← hv]
  have hl : j < s.data.toList.length := by rw [show s.data.toList.length = 64 from hz]; exact hj
  unfold secCells
  rw [List.getElem?_map, List.getElem?_eq_getElem hl]
  simp only [List.getD, List.getElem?_eq_getElem hl, Option.map_some, Option.getD_some]
/-- Sectors that a call has laid down anew. -/
def ClonedTo (o : Nat → ByteArray) (n B : Nat) (w : World) (e : Ending) (w' : World) : Prop :=
  ∃ g c : Nat, e = .returned (.slice (some ⟨g, 0, none⟩) n c) ∧ n ≤ c ∧ c ≤ 9223372036854775807 ∧ B ≤ g ∧ g < w'.heap.size ∧ (∀ i, i < n → SecAt w' g (i * 64) (o i)) ∧ Below B w w'
/-- What is left of sector i behind a crash. -/
def aft (d : Dv) (lost : List Int) (i : Nat) : ByteArray := if d.w i = true ∧ (i : Int) ∈ lost then d.o i else d.s i
def Aftering (w : World) (f : Nat) (d : Dv) (lost : List Int) (left : List Ent) : Prop := ∀ i, i < d.n → SecAt w f (i * 64) (if (i : Int) ∈ left.map (·.1) then d.o i else aft d lost i)
theorem Aftering.start {w : World} {f : Nat} {d : Dv} (hok : d.ok) (lost : List Int) {L : List Ent} (hL : ∀ k : Int, mget L k = d.waits k) (h : ∀ i, i < d.n → SecAt w f (i * 64) (d.o i)) : Aftering w f d lost L := by
  intro i hi
  have h1 := h i hi
  split
  · exact h1
  · rename_i hne
    have hw : d.w i = false := waits_none (by rw [← hL]; exact mget_none L _ hne)
    unfold aft
    rw [if_neg (by rw [hw]; rintro ⟨q, _⟩; cases q), hok.same i hw]
    exact h1
theorem Aftering.keep {S : Nat → Prop} {a w : World} {f : Nat} {d : Dv} {lost : List Int} {left : List Ent} (h : Aftering a f d lost left) (hk : Keep S a w) (hn : ¬ S f) : Aftering w f d lost left := fun i hi => (h i hi).keep hk hn
theorem left_iff {left : List Ent} {i j : Nat} (hij : i ≠ j) : ((i : Int) ∈ (left.filter fun p => decide (p.1 ≠ (j : Int))).map (·.1)) ↔ (i : Int) ∈ left.map (·.1) := by
  simp only [List.mem_map, List.mem_filter]
  constructor
  · rintro ⟨p, ⟨hp, _⟩, e⟩; exact ⟨p, hp, e⟩
  · rintro ⟨p, hp, e⟩; exact ⟨p, ⟨hp, by rw [e]; simp; omega⟩, e⟩
theorem Aftering.skip {w : World} {f : Nat} {d : Dv} {lost : List Int} {left : List Ent} (h : Aftering w f d lost left) (j : Nat) (hj : (j : Int) ∈ left.map (·.1)) (hw : d.w j = true) (hl : (j : Int) ∈ lost) : Aftering w f d lost (left.filter fun p => decide (p.1 ≠ (j : Int))) := by
  intro i hi
  by_cases hij : i = j
  · subst hij
    have h1 := h i hi
    rw [if_pos hj] at h1
    rw [if_neg (by simp)]
    unfold aft
    rw [if_pos ⟨hw, hl⟩]; exact h1
  · simp only [left_iff hij]
    exact h i hi
theorem Aftering.step {w : World} {f : Nat} {d : Dv} {lost : List Int} {left : List Ent} (h : Aftering w f d lost left) (hok : d.ok) (j : Nat) (hl : (j : Int) ∉ lost) : Aftering (w.setSec f (j * 64) (d.s j)) f d lost (left.filter fun p => decide (p.1 ≠ (j : Int))) := by
  intro i hi
  by_cases hij : i = j
  · subst hij
    rw [if_neg (by simp)]
    unfold aft
    rw [if_neg (by rintro ⟨_, q⟩; exact hl q)]
    exact (h i hi).set _ (hok.z2 i)
  · simp only [left_iff hij]
    exact (h i hi).set_other _ (hok.z2 j) (.inr (by omega))
theorem dafter_n (d : Dv) (lost : List Int) : (dafter d lost).n = d.n := by
  show (dafter d lost).old.length = _
  simp [dafter]
theorem dafter_o (d : Dv) (lost : List Int) (i : Nat) (hi : i < d.n) : (dafter d lost).o i = aft d lost i := by
  unfold Dv.o dafter aft
  simp [List.getD, hi]
theorem dafter_s (d : Dv) (lost : List Int) (i : Nat) : (dafter d lost).s i = (dafter d lost).o i := rfl
theorem dafter_w (d : Dv) (lost : List Int) (i : Nat) : (dafter d lost).w i = false := getD_rep _ _ _
theorem dafter_ok {d : Dv} (h : d.ok) (lost : List Int) : (dafter d lost).ok := by
  have hn := dafter_n d lost
  have hz : ∀ i, ((dafter d lost).o i).size = 64 := fun i => by
    by_cases hi : i < d.n
    · rw [dafter_o d lost i hi]
      unfold aft
      split
      · exact h.z1 i
      · exact h.z2 i
    · unfold Dv.o
      have : (dafter d lost).old.length ≤ i := by have : (dafter d lost).n ≤ i := by rw [hn]; omega
                                                  exact this
      rw [List.getD, List.getElem?_eq_none this]; rfl
  exact ⟨by rw [hn]; exact h.n1, by rw [hn]; exact h.n2, by rw [hn]; simp [dafter], by rw [hn]; simp [dafter], hz, hz, fun _ _ => rfl, by simp [dafter], by simp [dafter]⟩
/-- The new device's blocks, once all is laid down. -/
theorem DevAt.afterwards {w : World} {bo g M cg : Nat} {d : Dv} (hok : d.ok) (lost : List Int) (h0 : w.cell? ⟨bo, 0, none⟩ = some (.slice (some ⟨g, 0, none⟩) d.n cg)) (hc1 : d.n ≤ cg) (hc2 : cg ≤ 9223372036854775807) (h1 : w.cell? ⟨bo, 1, none⟩ = some (.map (some M))) (h2 : w.cell? ⟨bo, 2, none⟩ = some (.int .i64 (-1))) (h3 : w.cell? ⟨bo, 3, none⟩ = some (.bool false))
    (hf : ∀ i, i < 4 → w.frozen? ⟨bo, i, none⟩ = false) (hM : MapAt w M .i64 []) (hs : Aftering w g d lost []) (e1 : bo ≠ g) (e2 : bo ≠ M) (e3 : g ≠ M) : DevAt w bo g M (dafter d lost) := by
  have hn := dafter_n d lost
  refine ⟨dafter_ok hok lost, ⟨cg, by rw [hn]; exact hc1, hc2, by rw [hn]; exact h0⟩, h1, h2, h3, hf, ⟨[], hM, fun k => ?_⟩, fun i hi => ?_, e1, e2, e3⟩
  · have : (dafter d lost).waits k = none := by unfold Dv.waits; rw [dafter_w]; simp
    rw [this]; rfl
  · rw [hn] at hi
    have h1 := hs i hi
    rw [if_neg (by simp)] at h1
    rw [dafter_o d lost i hi]; exact h1
end Go.Pin
namespace Go.Proofs.YtpfkpaombiikcaaDoor
open Go.RowKit Go.Pin
set_option linter.unusedVariables false
set_option linter.unusedSimpArgs false
set_option maxHeartbeats 1600000 in
theorem sec_clone (f n c : Nat) (o : Nat → ByteArray) (h1 : 1 ≤ n) (h2 : n ≤ 4096) (hz : ∀ i, (o i).size = 64) (w : World) (hs : ∀ i, i < n → SecAt w f (i * 64) (o i)) :
    Calls Tryd.prog 62 #[.slice (some ⟨f, 0, none⟩) n c] w (ClonedTo o n w.heap.size w) := by
  have hp : (Tryd.prog.info? 94).map (fun i => (i.zero, i.size, i.bytes)) = some (some (secVal secZ), 64, 64) := by kernel_rfl
  obtain ⟨i0, hi, hz0, hzs, hzb⟩ := info_parts hp
  have hzc : (secVal secZ).cells.size = 64 := by rw [secZ_cells]; simp
  have hnews : ∀ (j : Nat) (u : Value), (rowCells o n)[j]? = some u → w.cell? ((⟨f, 0, none⟩ : Addr).add j) = some u := fun j u hu => by
    have hj : j < n * 64 := by have := (List.getElem?_eq_some_iff.1 hu).1; rw [rowCells_len] at this; exact this
    rw [rowCells_at o n j hj] at hu
    rw [Addr.add_mid, Nat.zero_add, ← hu]
    have := (hs (j / 64) (by omega)).byte (j % 64) (Nat.mod_lt _ (by omega))
    rw [show j / 64 * 64 + j % 64 = j from by omega] at this
    exact this
  have hnil := Go.run_eql_slice_nil (P := Tryd.prog) w 87 94 (some ⟨f, 0, none⟩) n c Tryd.underlying87
  have Hnews := Aside.mk hnews
  have Hone := Aside.mk (rowCells_one o n)
  have Hs := Aside.mk hs
  have Hz := Aside.mk hz
  clear hnews hs hz
  go_enter Tryd.func62, Tryd.ntmps62
  have hown : (w.alloc (.cells #[] 94)).ownsRow w.heap.size 94 64 (.slice (some ⟨w.heap.size, 0, none⟩) 0 0) 0 [] :=
    ⟨by simp, .inr ⟨w.heap.size, 0, #[], rfl, Nat.le_refl _, Go.heap_alloc_new w _, by omega, by unfold maxLen; omega, rfl, rfl⟩⟩
  have hnews2 : ∀ (j : Nat) (u : Value), (rowCells o n)[j]? = some u → (w.alloc (.cells #[] 94)).cell? ((⟨f, 0, none⟩ : Addr).add j) = some u := fun j u hu => ((Keep.refl (fun _ => False) w).alloc _).cell (Hnews.out j u hu) id
  have Hn2 := Aside.mk hnews2
  have hba : Below w.heap.size w (w.alloc (.cells #[] 94)) := (Below.refl _ _).alloc (Nat.le_refl _) _
  clear hnews2
  go_wp2_with (at_builtin; refine wpList_append_own _ rfl _ _ 87 rfl w.heap.size 94 i0 (secVal secZ) 64 64 Tryd.underlying87 hi hz0 hzs hzb hzc (by decide) _ _ _ rfl hown ⟨f, 0, none⟩ n c (rowCells o n) rfl (rowCells_len o n) Hn2.out Hone.out ?c3 ?c4 ?c5 ?_)
  case c3 => unfold maxLen; omega
  case c4 => omega
  case c5 => simp
  intro v' w4 hown4 hgrow _
  have hb4 := hba.grown hgrow (by simp) (fun k hk => (hown.lt k hk).1)
  rcases hown4.2 with ⟨_, hn0⟩ | ⟨g, cap, cur, rfl, hgB, hgg, hnc, hcm, _, _⟩
  · omega
  have hcells := fun j u hu => hown4.cells (g := g) rfl j u hu
  unfold maxLen at hcm
  clear hown hown4 hgrow hba
  have Hc := Aside.mk hcells
  clear hcells
  go_wp2_with fail
  go_ret
  refine ⟨g, cap, rfl, hnc, by omega, hgB, (Array.getElem?_eq_some_iff.1 hgg).1, fun i hi => ?_, hb4⟩
  refine sec_of_cells i (Hz.out i) (fun r hr => ?_) (fun j => Lib.frozen_of_heap hgg j)
  have := Hc.out (i * 64 + r) _ (rowCells_at o n (i * 64 + r) (by omega))
  rw [Addr.add_mid, Nat.zero_add, show (i * 64 + r) / 64 = i from by omega, show (i * 64 + r) % 64 = r from by omega] at this
  exact this
/-- The numbers that a slice holds. -/
def SlI (w : World) (a : Option Addr) (zs : List Int) : Prop := 0 < zs.length → ∃ b o, a = some ⟨b, o, none⟩ ∧ ∀ i, i < zs.length → w.cell? ⟨b, o + i, none⟩ = some (.int .i64 (zs.getD i 0))
theorem SlI.below {w w' : World} {a : Option Addr} {zs : List Int} (h : SlI w a zs) (hk : Below w.heap.size w w') : SlI w' a zs := fun hp => by
  obtain ⟨b, o, ha, hc⟩ := h hp
  exact ⟨b, o, ha, fun i hi => (Keep.of_below (S := fun _ => False) hk fun _ hk _ => hk).cell (hc i hi) id⟩
/-- A device behind a crash, in blocks of its own. -/
def AfterTo (d : Dv) (lost : List Int) (B : Nat) (w : World) (e : Ending) (w' : World) : Prop :=
  ∃ b f m : Nat, e = .returned (.pointer (some ⟨b, 0, none⟩)) ∧ B ≤ b ∧ B ≤ f ∧ B ≤ m ∧ DevAt w' b f m (dafter d lost) ∧ Below B w w'
set_option maxHeartbeats 1600000 in
theorem dev_after (b f m : Nat) (d : Dv) (a : Option Addr) (c0 : Nat) (lost : List Int) (w : World) (h : DevAt w b f m d) (hlen : lost.length ≤ 9223372036854775807) (hl : SlI w a lost) :
    Calls Tryd.prog 25 #[.pointer (some ⟨b, 0, none⟩), .slice a lost.length c0] w (AfterTo d lost w.heap.size w) := by
  have hc1 := h.c1
  obtain ⟨cc, hcc1, hcc2, hc0⟩ := h.c0
  obtain ⟨L, hL1, hL2⟩ := h.mp
  have hn1 := h.ok.n1
  have hn2 := h.ok.n2
  have hcl := sec_clone f d.n cc d.o hn1 hn2 h.ok.z1 w h.secs
  have hmm := @run_makeMap Tryd.prog
  go_enter Tryd.func25, Tryd.ntmps25
  go_wp2_with fail
  refine hcl.mono ?_
  rintro e w1 ⟨g, cg, rfl, hg1, hg2, hgB, hgl, hsec, hb1⟩
  clear hcl
  have h1 := h.below hb1
  have hL3 : MapAt w1 m .i64 L := hL1.keep (Keep.of_below (S := fun _ => False) hb1 fun _ hk _ => hk) id
  have hka : Keep (fun _ => False) w1 ((w1.alloc (.map #[] 0)).alloc (.cells #[.slice (some ⟨g, 0, none⟩) d.n cg, .map (some w1.heap.size), .int .i64 (-1), .bool false] 90)) := ((Keep.refl _ _).alloc _).alloc _
  have hzz : (w1.alloc (.map #[] 0)).heap.size = w1.heap.size + 1 := by simp
  have o0 : ∀ i, ((w1.alloc (.map #[] 0)).alloc (.cells #[.slice (some ⟨g, 0, none⟩) d.n cg, .map (some w1.heap.size), .int .i64 (-1), .bool false] 90)).cell? ⟨w1.heap.size + 1, i, none⟩ = (#[.slice (some ⟨g, 0, none⟩) d.n cg, .map (some w1.heap.size), .int .i64 (-1), .bool false] : Array Value)[i]? := fun i => World.cell?_alloc_at _ _ _ _ hzz.symm
  have f0 : ∀ i, ((w1.alloc (.map #[] 0)).alloc (.cells #[.slice (some ⟨g, 0, none⟩) d.n cg, .map (some w1.heap.size), .int .i64 (-1), .bool false] 90)).frozen? ⟨w1.heap.size + 1, i, none⟩ = false := fun i => World.frozen?_alloc_at _ _ _ _ hzz.symm
  have oM : MapAt ((w1.alloc (.map #[] 0)).alloc (.cells #[.slice (some ⟨g, 0, none⟩) d.n cg, .map (some w1.heap.size), .int .i64 (-1), .bool false] 90)) w1.heap.size .i64 [] := (MapAt.made w1 .i64).alloc _
  have hL4 := hL3.keep hka id
  have hc1' := hka.cell h1.c1 id
  have hz2 : ((w1.alloc (.map #[] 0)).alloc (.cells #[.slice (some ⟨g, 0, none⟩) d.n cg, .map (some w1.heap.size), .int .i64 (-1), .bool false] 90)).heap.size = w1.heap.size + 2 := by simp
  have hst := Aftering.start h.ok lost hL2 (fun i hi => (hsec i hi).keep hka id)
  have hb2 : Below w.heap.size w ((w1.alloc (.map #[] 0)).alloc (.cells #[.slice (some ⟨g, 0, none⟩) d.n cg, .map (some w1.heap.size), .int .i64 (-1), .bool false] 90)) := hb1.trans (hka.below hb1.size fun _ h => h.elim)
  have c0' := o0 0
  have c1' := o0 1
  have c2' := o0 2
  have c3' := o0 3
  replace c0' : _ = some (Value.slice (some ⟨g, 0, none⟩) d.n cg) := c0'
  replace c1' : _ = some (Value.map (some w1.heap.size)) := c1'
  replace c2' : _ = some (Value.int .i64 (-1)) := c2'
  replace c3' : _ = some (Value.bool false) := c3'
  have Hok := Aside.mk h.ok
  have HL2 := Aside.mk hL2
  have Hnd := Aside.mk hL1.nodup
  have hlt := h.lt
  have hw1 := hb1.size
  have hmlt : m < w.heap.size := hlt.2.2
  obtain ⟨w3, hr, hR, hkr, hz3⟩ := run_map_range (P := Tryd.prog) hL4 Tryd.underlying88
  rw [hz2] at hr hR
  replace c0' := hkr.cell c0' id
  replace c1' := hkr.cell c1' id
  replace c2' := hkr.cell c2' id
  replace c3' := hkr.cell c3' id
  have f0' : ∀ i, w3.frozen? ⟨w1.heap.size + 1, i, none⟩ = false := fun i => by rw [hkr.frozen (p := ⟨w1.heap.size + 1, i, none⟩) (by rw [hz2]; exact Nat.lt_succ_self _) id]; exact f0 i
  replace oM := oM.keep hkr id
  replace hst := hst.keep hkr id
  replace hb2 := hb2.trans (hkr.below (by rw [hz2]; omega) fun _ h => h.elim)
  have hMw := World.block_lt_of_cell? _ _ c0'
  replace hMw : w1.heap.size + 1 < w3.heap.size := hMw
  clear hL1 hL2 hL3 h1 hka o0 hzz hsec hc0 hc1 h f0 hL4 hz3 hz2
  go_wp2_with fail
  clear hr hkr hmm hc1'
  generalize w1.heap.size = M at *
  have hgM : g ≠ M := by omega
  have F0 := Aside.mk f0'
  have OM := Aside.mk oM
  clear f0' oM
  go_loopg [6] L.length (fun gg _ wr => ∃ left, gg = left.length ∧ (∀ p ∈ left, p ∈ L) ∧ RangeAt wr (M + 2) m .i64 L left ∧ Aftering wr g d lost left ∧ Below w.heap.size w wr ∧ Keep (fun k => k = g ∨ k = M + 2) w3 wr)
  case atStart => exact ⟨L, rfl, fun _ h => h, hR, hst, hb2, Keep.refl _ _⟩
  case round =>
    clear hR hst hb2
    obtain ⟨left, hg, hsub, hRr, hsr, hbl, hkw⟩ := hrel
    have nb : ∀ k, k = M + 1 → ¬ (k = g ∨ k = M + 2) := fun k hk => by omega
    replace c0' := hkw.cell c0' (nb _ rfl)
    replace c1' := hkw.cell c1' (nb _ rfl)
    replace c2' := hkw.cell c2' (nb _ rfl)
    replace c3' := hkw.cell c3' (nb _ rfl)
    have hbs := hbl.size
    rcases run_map_next (P := Tryd.prog) hRr 0 with ⟨hll, hrun⟩ | ⟨k, v, w4, hmem, hmemL, hrun, hR2, hlt2, hk2, hz2, hent⟩
    · subst hll
      have Hs := Aside.mk hsr
      clear hsr hRr hsub hg
      go_wp2_with fail
      go_ret
      refine ⟨M + 1, g, M, rfl, by omega, hgB, hw1, ?_, hbl⟩
      refine DevAt.afterwards Hok.out lost c0' hg1 hg2 c1' c2' c3' (fun i _ => ?_) ?_ Hs.out (by omega) (by omega) hgM
      · rw [hkw.frozen (p := ⟨M + 1, i, none⟩) hMw (nb _ rfl)]; exact F0.out i
      · exact OM.out.keep hkw (by omega)
    · obtain ⟨j, rfl, hj, hwj, rfl⟩ := waits_some Hok.out (by rw [← HL2.out]; exact mget_mem L k v Hnd.out hmemL)
      have z2 := Hok.out.z2 j
      have hj0 : (0 : Int) ≤ (j : Int) := by omega
      have hj1 : (j : Int) < (d.n : Int) := by omega
      have hjm : (j : Int) ∈ left.map (·.1) := List.mem_map.2 ⟨_, hmem, rfl⟩
      have hal := sec_lit
      have q1 := SecAt.new w4 94 secZ rfl
      have q2 := setSec_new w4 94 secZ (d.s j) rfl z2
      have q3 := SecAt.new w4 94 (d.s j) z2
      have Q2 := Aside.mk q2
      have hka : Keep (fun _ => False) w4 (w4.alloc (secObj 94 (d.s j))) := (Keep.refl _ _).alloc _
      have nR : ¬ (M + 1 = M + 2) := by omega
      have nM : ¬ (M = M + 2) := by omega
      have ngR : ¬ (g = M + 2) := by omega
      have e0' := hka.cell (hk2.cell (p := ⟨M + 1, 0, none⟩) c0' nR) id
      have hs2 := (hsr.keep hk2 ngR).keep hka id
      have hR3 := hR2.keep hka id id
      have hth := (hs2 j hj).there
      have hra := q3.at'
      have hi : (Tryd.prog.info? 94).map (·.size) = some (secCells (d.s j)).length := by rw [sec_info, secCells_length, z2]
      have hi2 : (secCells (d.s j)).length = 64 := by rw [secCells_length, z2]
      have h1 := secCells_one (d.s j)
      have hu := Tryd.underlying94
      have Hs2 := Aside.mk hs2
      have hb4 : Below w.heap.size w w4 := hbl.trans (hk2.below hbl.size fun k q => by rw [q]; omega)
      have hb5 := hb4.alloc hb4.size (secObj 94 (d.s j))
      have hkw4 : Keep (fun k => k = g ∨ k = M + 2) w3 (w4.alloc (secObj 94 (d.s j))) := (hkw.trans (hk2.mono fun _ q => .inr q)).trans (hka.mono fun _ q => q.elim)
      have hgN : g ≠ w4.heap.size := by have := hkw.size; have := hk2.size; omega
      have hcon := slices_contains a c0 lost (j : Int) _ hlen (hl.below hb5)
      clear q2 hs2 hsr hz2 hbl hb4 hka
      by_cases hin : (j : Int) ∈ lost
      · have hd : decide ((j : Int) ∈ lost) = true := by simpa using hin
        rw [hd] at hcon
        have Hin := Aside.mk hin
        clear hin hd hth hra
        go_wp2_with (first | (with_reducible refine wpList_store_sec rfl (.tmp 7) (.tmp 25) rfl q1 z2 Q2.out rfl rfl ?_) | (go_at_call 63; refine hcon.mono ?_; rintro e w' ⟨rfl, rfl⟩))
        go_roundg (left.filter fun p => decide (p.1 ≠ (j : Int))).length
        case rel => exact ⟨left.filter fun p => decide (p.1 ≠ (j : Int)), rfl, fun p hp => hsub p (List.mem_filter.1 hp).1, hR3, Hs2.out.skip j hjm hwj Hin.out, hb5, hkw4⟩
        case measure => rw [hg]; exact hlt2
      · have hd : decide ((j : Int) ∈ lost) = false := by simpa using hin
        rw [hd] at hcon
        have Hin := Aside.mk hin
        clear hin hd
        go_wp2_with (first | (with_reducible refine wpList_store_sec rfl (.tmp 7) (.tmp 25) rfl q1 z2 Q2.out rfl rfl ?_) | (go_at_call 63; refine hcon.mono ?_; rintro e w' ⟨rfl, rfl⟩))
        clear q1 q3 hent hrun hal hR2 hcon
        generalize w4.alloc (secObj 94 (d.s j)) = w5 at *
        generalize w4.heap.size = N at *
        have hkf : Keep (fun k => k = g) w5 (w5.drew.setSec g (j * 64) (d.s j)) := ((Keep.refl _ w5).drew).setSec (.inl rfl)
        have e9 : (w5.drew.setCells g (j * 64) (secCells (d.s j))).cell? ⟨M + 1, 0, none⟩ = some (.slice (some ⟨g, 0, none⟩) d.n cg) := hkf.cell e0' (show ¬ (M + 1 = g) by omega)
        go_region_held3 (fun w' => w'.cell? ⟨M + 1, 0, none⟩ = some (.slice (some ⟨g, 0, none⟩) d.n cg) ∧ w'.rangeAt N 0 (secCells (d.s j)) ∧ w'.there g (j * 64) 64) (first | go_keep_ranges | (go_split_ands <;> first | exact e9 | go_keep_ranges)) (fail)
        go_wp2_with fail
        go_roundg (left.filter fun p => decide (p.1 ≠ (j : Int))).length
        case rel =>
          refine ⟨left.filter fun p => decide (p.1 ≠ (j : Int)), rfl, fun p hp => hsub p (List.mem_filter.1 hp).1, ?_, ?_, ?_, ?_⟩
          · exact hR3.keep (S := fun k => k = g) hkf (fun q => ngR q.symm) (by omega)
          · show Aftering (w5.drew.setSec g (j * 64) (d.s j)) g d lost _
            have := Hs2.out.step Hok.out j Hin.out
            unfold World.setSec at this ⊢
            rw [setCells_drew]
            exact fun i hi => (this i hi).drew
          · exact hb5.trans (hkf.below hb5.size fun k q => by rw [q]; exact hgB)
          · exact hkw4.drew.setSec (s := d.s j) (.inl (.inl rfl))
        case measure => rw [hg]; exact hlt2
end Go.Proofs.YtpfkpaombiikcaaDoor
