/- What the document's device computes: After. -/
import Derived.Test.YtpfkpaombiikcaaDoorRfN
import Derived.Test.YtpfkpaombiikcaaDoorRfF
import Derived.BigRegion
set_option maxRecDepth 16000
namespace Go.Pin
open Go.RowKit
set_option linter.unusedVariables false
set_option linter.unusedSimpArgs false
theorem run_make_bools {P : Program} (w : World) (t e : TypeId) (i : TypeInfo) (ht : P.underlying t = some (.slice e)) (hi : P.info? e = some i) (hz : i.zero = some (.bool false)) (hs : i.size = 1) (hb : i.bytes = 1)
    (n : Nat) (hn : n ≤ 281474976710656) :
    (Instr.makeSlice t (.int .i64 (n : Int)) (.int .i64 (n : Int))).run P w = .ok (.slice (some ⟨w.heap.size, 0, none⟩) n n) (w.alloc (.cells (Array.replicate n (.bool false)) e)) := by
  have h := run_make (P := P) w t e i (.bool false) ht hi hz .i64 .i64 n n (by omega) (Int.le_refl _) (by rw [hb]; omega) (by omega)
  rw [h, hs]
  have : madeCells (Value.bool false).cells ((n : Int).toNat * 1) = Array.replicate n (.bool false) := by
    apply Array.ext
    · simp [madeCells]
    · intro j h1 h2
      have hj : j < n := by simpa [madeCells] using h1
      simp [madeCells, Value.cells, Nat.mod_one]
  rw [this]; simp
theorem RowAt.of_slice {w : World} {B e n g c : Nat} {xs : List Value} (h : w.ownsRow B e 1 (.slice (some ⟨g, 0, none⟩) n c) n xs) (hn : 0 < n) {f : Nat → Value} (hf : ∀ i, i < n → xs[i]? = some (f i)) : n ≤ c ∧ c ≤ 9223372036854775807 ∧ B ≤ g ∧ RowAt w g n f := by
  obtain ⟨g', c', e', q1, q2, q3, _, q5⟩ := RowAt.of_owns h hn
  injection e' with e1 _ e3
  injection e1 with e1
  injection e1 with e1
  subst e1 e3
  exact ⟨q1, q2, q3, q5 f hf⟩
/-- A device behind a crash, while it is made. -/
structure HalfAt (w : World) (b N V n c : Nat) (f : Nat → ByteArray) : Prop where
  hc1 : n ≤ c
  hc2 : c ≤ 9223372036854775807
  c0 : w.cell? ⟨b, 0, none⟩ = some (.slice (some ⟨N, 0, none⟩) n c)
  c1 : w.cell? ⟨b, 1, none⟩ = some (.slice none 0 0)
  c2 : w.cell? ⟨b, 2, none⟩ = some (.slice (some ⟨V, 0, none⟩) n n)
  c3 : w.cell? ⟨b, 3, none⟩ = some (.int .i64 (-1))
  c4 : w.cell? ⟨b, 4, none⟩ = some (.bool false)
  fr : ∀ i, i < 5 → w.frozen? ⟨b, i, none⟩ = false
  rN : RowAt w N n fun i => .string (f i)
  rV : RowAt w V n fun _ => .bool false
  bN : b ≠ N
  bV : b ≠ V
  NV : N ≠ V
theorem HalfAt.lt {w : World} {b N V n c : Nat} {f : Nat → ByteArray} (h : HalfAt w b N V n c f) : b < w.heap.size := World.block_lt_of_cell? (a := ⟨b, 3, none⟩) _ h.c3
theorem HalfAt.keep {S : Nat → Prop} {a w : World} {b N V n c : Nat} {f : Nat → ByteArray} (h : HalfAt a b N V n c f) (hk : Keep S a w) (hn : ¬ S b ∧ ¬ S N ∧ ¬ S V) : HalfAt w b N V n c f :=
  ⟨h.hc1, h.hc2, hk.cell h.c0 hn.1, hk.cell h.c1 hn.1, hk.cell h.c2 hn.1, hk.cell h.c3 hn.1, hk.cell h.c4 hn.1, fun i hi => by rw [hk.frozen (p := ⟨b, i, none⟩) h.lt hn.1]; exact h.fr i hi, h.rN.keep hk hn.2.1, h.rV.keep hk hn.2.2, h.bN, h.bV, h.NV⟩
theorem HalfAt.congr {w : World} {b N V n c : Nat} {f f' : Nat → ByteArray} (h : HalfAt w b N V n c f) (he : ∀ i, i < n → f i = f' i) : HalfAt w b N V n c f' :=
  ⟨h.hc1, h.hc2, h.c0, h.c1, h.c2, h.c3, h.c4, h.fr, h.rN.congr fun i hi => by rw [he i hi], h.rV, h.bN, h.bV, h.NV⟩
theorem HalfAt.set {a : World} {b N V n c : Nat} {f : Nat → ByteArray} (h : HalfAt a b N V n c f) (k : Nat) (hk : k < n) (s : ByteArray) : HalfAt (a.setCell ⟨N, k, none⟩ (.string s)) b N V n c (fun i => if i = k then s else f i) := by
  have hks : Keep (fun j => j = N) a (a.setCell ⟨N, k, none⟩ (.string s)) := (Keep.refl (fun j => j = N) a).setCell (p := ⟨N, k, none⟩) (.inl rfl) _
  refine ⟨h.hc1, h.hc2, hks.cell h.c0 h.bN, hks.cell h.c1 h.bN, hks.cell h.c2 h.bN, hks.cell h.c3 h.bN, hks.cell h.c4 h.bN, fun i hi => by rw [World.frozen?_setCell]; exact h.fr i hi, ?_, h.rV.keep hks (fun q => h.NV q.symm), h.bN, h.bV, h.NV⟩
  exact (h.rN.set k hk _).congr fun i hi => by by_cases e : i = k <;> simp [e]
theorem below_drewN {B : Nat} {a w : World} (h : Below B a w) (n : Nat) : Below B a (w.drewN n) := ⟨h.os, h.tape, h.output, h.size, h.block⟩
theorem aft_case {d : Dv} {x : Int} {i j : Nat} (hx : x = (j : Int)) (hw : d.w j = false) : (i : Int) ≠ x ∨ d.w i = false := by
  by_cases e : i = j
  · right; rw [e]; exact hw
  · left; omega
def sVals (f : Nat → ByteArray) (n : Nat) : List Value := (List.range n).map fun i => Value.string (f i)
theorem sVals_len (f : Nat → ByteArray) (n : Nat) : (sVals f n).length = n := by simp [sVals]
theorem sVals_at (f : Nat → ByteArray) (n i : Nat) (hi : i < n) : (sVals f n)[i]? = some (.string (f i)) := by unfold sVals; rw [List.getElem?_map, List.getElem?_range hi]; rfl
theorem sVals_one (f : Nat → ByteArray) (n : Nat) : ∀ u ∈ sVals f n, u.oneCell' = true := by
  intro u hu
  obtain ⟨x, _, rfl⟩ := List.mem_map.1 hu
  rfl
theorem sVals_news {w : World} {g n : Nat} {f : Nat → ByteArray} (h : RowAt w g n fun i => .string (f i)) : ∀ j u, (sVals f n)[j]? = some u → w.cell? ((⟨g, 0, none⟩ : Addr).add j) = some u := fun j u hu => by
  have hj : j < n := by have := (List.getElem?_eq_some_iff.1 hu).1; rw [sVals_len] at this; exact this
  rw [sVals_at f n j hj] at hu
  rw [Addr.add_mid, Nat.zero_add, ← hu]
  exact h.at' j hj
/-- What is left of sector i, once the first k of those that are lost have been seen. -/
def aftK (d : Dv) (lost : List Int) (k i : Nat) : ByteArray := aft d (lost.take k) i
theorem aftK_skip (d : Dv) (lost : List Int) (k i : Nat) (hk : k < lost.length) (h : (i : Int) ≠ lost.getD k 0 ∨ d.w i = false) : aftK d lost k i = aftK d lost (k + 1) i := by
  unfold aftK aft
  have ht : lost.take (k + 1) = lost.take k ++ [lost.getD k 0] := by rw [List.take_add_one]; simp [List.getD, hk]
  rw [ht]
  rcases h with h | h
  · have : ((i : Int) ∈ lost.take k ++ [lost.getD k 0]) ↔ (i : Int) ∈ lost.take k := by rw [List.mem_append, List.mem_singleton]; exact ⟨fun q => q.resolve_right h, .inl⟩
    simp only [this]
  · simp [h]
theorem aftK_hit (d : Dv) (lost : List Int) (k i : Nat) (hk : k < lost.length) (h : (i : Int) = lost.getD k 0) (hw : d.w i = true) : d.o i = aftK d lost (k + 1) i := by
  unfold aftK aft
  have ht : lost.take (k + 1) = lost.take k ++ [lost.getD k 0] := by rw [List.take_add_one]; simp [List.getD, hk]
  rw [ht, if_pos ⟨hw, by rw [← h]; simp⟩]
end Go.Pin
namespace Go.Proofs.YtpfkpaombiikcaaDoor
open Go.RowKit Go.Pin
set_option linter.unusedVariables false
set_option linter.unusedSimpArgs false
theorem make_bools (w : World) (n : Nat) (hn : n ≤ 4096) : (Instr.makeSlice 111 (.int .i64 (n : Int)) (.int .i64 (n : Int))).run Tryd.prog w = .ok (.slice (some ⟨w.heap.size, 0, none⟩) n n) (w.alloc (.cells (Array.replicate n (.bool false)) 4)) := by
  obtain ⟨i0, hi, hz0, hz1, hz2⟩ := info_parts bool_info
  exact run_make_bools (P := Tryd.prog) w 111 4 i0 Tryd.underlying111 hi hz0 hz1 hz2 n (by omega)
set_option maxHeartbeats 1600000 in
theorem ref_after (b N O V : Nat) (d : Dv) (a : Option Addr) (c0 : Nat) (lost : List Int) (w : World) (h : RefAt w b N O V d) (hlen : lost.length ≤ 9223372036854775807) (hl : SlI w a lost) :
    Calls Tryd.prog 30 #[.pointer (some ⟨b, 0, none⟩), .slice a lost.length c0] w fun e w' => ∃ b' N' O' V', e = .returned (.pointer (some ⟨b', 0, none⟩)) ∧ w.heap.size ≤ b' ∧ w.heap.size ≤ N' ∧ w.heap.size ≤ O' ∧ w.heap.size ≤ V' ∧ RefAt w' b' N' O' V' (dafter d lost) ∧ Below w.heap.size w w' := by
  obtain ⟨x0, p0, q0, r0⟩ := h.c0
  have h1 := h.ok.n1
  have h2 := h.ok.n2
  have hmk := fun W : World => make_bools W d.n h2
  obtain ⟨i0, hi0, hz0, hzs0, hzb0⟩ := info_parts str_info
  have Hh := Aside.mk h
  have Hl := Aside.mk hl
  clear h hl
  generalize hM : Array.replicate d.n (Value.bool false) = M at *
  have HM := Aside.mk hM
  clear hM
  go_enter Tryd.func30, Tryd.ntmps30
  go_upto_region 2 with fail
  have hsz0 : (w.alloc (.cells M 4)).heap.size = w.heap.size + 1 := by simp
  have cb : ∀ i, ((w.alloc (.cells M 4)).alloc (.cells #[.slice none 0 0, .slice none 0 0, .slice (some ⟨w.heap.size, 0, none⟩) d.n d.n, .int .i64 (-1), .bool false] 113)).cell? ⟨w.heap.size + 1, i, none⟩ = (#[.slice none 0 0, .slice none 0 0, .slice (some ⟨w.heap.size, 0, none⟩) d.n d.n, .int .i64 (-1), .bool false] : Array Value)[i]? := fun i => World.cell?_alloc_at _ _ _ _ hsz0.symm
  have fb : ∀ i, ((w.alloc (.cells M 4)).alloc (.cells #[.slice none 0 0, .slice none 0 0, .slice (some ⟨w.heap.size, 0, none⟩) d.n d.n, .int .i64 (-1), .bool false] 113)).frozen? ⟨w.heap.size + 1, i, none⟩ = false := fun i => World.frozen?_alloc_at _ _ _ _ hsz0.symm
  have hkb : Keep (fun _ => False) w ((w.alloc (.cells M 4)).alloc (.cells #[.slice none 0 0, .slice none 0 0, .slice (some ⟨w.heap.size, 0, none⟩) d.n d.n, .int .i64 (-1), .bool false] 113)) := ((Keep.refl _ w).alloc _).alloc _
  have rV : RowAt ((w.alloc (.cells M 4)).alloc (.cells #[.slice none 0 0, .slice none 0 0, .slice (some ⟨w.heap.size, 0, none⟩) d.n d.n, .int .i64 (-1), .bool false] 113)) w.heap.size d.n fun _ => .bool false := by
    have q : RowAt (w.alloc (.cells M 4)) w.heap.size d.n fun _ => .bool false := ⟨fun i hi => by rw [World.cell?_alloc_at _ _ _ _ rfl, ← HM.out, Array.getElem?_replicate, if_pos hi], fun i _ => World.frozen?_alloc_at _ _ _ _ rfl⟩
    exact q.keep ((Keep.refl (fun _ => False) _).alloc _) id
  have hzb : ((w.alloc (.cells M 4)).alloc (.cells #[.slice none 0 0, .slice none 0 0, .slice (some ⟨w.heap.size, 0, none⟩) d.n d.n, .int .i64 (-1), .bool false] 113)).heap.size = w.heap.size + 2 := by simp
  generalize (w.alloc (.cells M 4)).alloc (.cells #[.slice none 0 0, .slice none 0 0, .slice (some ⟨w.heap.size, 0, none⟩) d.n d.n, .int .i64 (-1), .bool false] 113) = wb at *
  have b0 : wb.cell? ⟨w.heap.size + 1, 0, none⟩ = some (.slice none 0 0) := cb 0
  have b1 : wb.cell? ⟨w.heap.size + 1, 1, none⟩ = some (.slice none 0 0) := cb 1
  have b2 : wb.cell? ⟨w.heap.size + 1, 2, none⟩ = some (.slice (some ⟨w.heap.size, 0, none⟩) d.n d.n) := cb 2
  have b3 : wb.cell? ⟨w.heap.size + 1, 3, none⟩ = some (.int .i64 (-1)) := cb 3
  have b4 : wb.cell? ⟨w.heap.size + 1, 4, none⟩ = some (.bool false) := cb 4
  have f0 := fb 0
  have r0' := hkb.cell r0 id
  have rNb := Hh.out.rN.keep hkb id
  have Hfb := Aside.mk fb
  have HrV := Aside.mk rV
  have Hkb := Aside.mk hkb
  have Hzb := Aside.mk hzb
  have hzb2 : w.heap.size + 2 ≤ wb.heap.size := by omega
  have Hnews := Aside.mk (sVals_news rNb)
  have H1 := Aside.mk b1
  have H2 := Aside.mk b2
  have H3 := Aside.mk b3
  have H4 := Aside.mk b4
  clear hsz0 cb fb rV hmk hkb r0 rNb hzb b1 b2 b3 b4
  go_cut [] from 15 (fun wx => ∃ g c : Nat, w.heap.size + 2 ≤ g ∧ HalfAt wx (w.heap.size + 1) g w.heap.size d.n c d.s ∧ Below w.heap.size w wx)
  case first =>
    go_region_law ((refine step_append_lies _ (by rfl) _ _ _ (by rfl) (w.heap.size + 2) 9 i0 _ 1 16 Tryd.underlying30 hi0 hz0 hzs0 hzb0 rfl (by omega) (.slice none 0 0) 0 [] (by rfl) ⟨rfl, .inl ⟨rfl, rfl⟩⟩ ⟨N, 0, none⟩ d.n x0 (sVals d.s d.n) (by rfl) (by rw [sVals_len]; omega) Hnews.out (sVals_one d.s d.n) (by omega) (by unfold maxLen; omega) (by omega) (by simpa using hzb2) wb.heap.size (by rfl) ?_; intro g cap w1 hown1 hgrow hat hltg; obtain ⟨t0, u0⟩ := grown_held hgrow (held_keep ((Keep.refl (fun _ => False) wb).drew) ⟨b0, f0⟩ id) (by simp [Value.ownBlock])))
    all_goals
      go_wp2_with fail
      go_meet
      rw [Nat.zero_add, List.nil_append] at hown1
      have hkg : Keep (fun _ => False) wb w1 := ((Keep.refl _ wb).drew).trans ((keep_of_grown hgrow).mono fun _ q => by simp [Value.ownBlock] at q)
      obtain ⟨q1, q2, q3, q4⟩ := RowAt.of_slice hown1 (by omega) (fun i hi => sVals_at d.s d.n i hi)
      have hks : Keep (fun j => j = w.heap.size + 1) w1 (w1.setCell ⟨w.heap.size + 1, 0, none⟩ (.slice (some ⟨g, 0, none⟩) d.n cap)) := (Keep.refl (fun j => j = w.heap.size + 1) w1).setCell (p := ⟨w.heap.size + 1, 0, none⟩) (.inl rfl) _
      have ob : w.heap.size + 1 < wb.heap.size := by omega
      refine ⟨g, cap, q3, ⟨q1, q2, ?_, ?_, ?_, ?_, ?_, fun i _ => ?_, ?_, ?_, by omega, by omega, by omega⟩, ?_⟩
      · exact World.cell?_setCell_same _ _ _ t0
      · rw [World.cell?_setCell_other _ _ _ _ (by simp)]; exact hkg.cell H1.out id
      · rw [World.cell?_setCell_other _ _ _ _ (by simp)]; exact hkg.cell H2.out id
      · rw [World.cell?_setCell_other _ _ _ _ (by simp)]; exact hkg.cell H3.out id
      · rw [World.cell?_setCell_other _ _ _ _ (by simp)]; exact hkg.cell H4.out id
      · rw [World.frozen?_setCell, hkg.frozen (p := ⟨w.heap.size + 1, i, none⟩) ob id]; exact Hfb.out i
      · exact q4.keep hks (by omega)
      · exact (HrV.out.keep hkg id).keep hks (by omega)
      · exact ((Hkb.out.trans hkg).below (Nat.le_refl _) fun _ q => q.elim).setCell (p := ⟨w.heap.size + 1, 0, none⟩) (Nat.le_succ _) _
  case rest =>
    have Hi0 := Aside.mk hi0
    clear b0 f0 r0' hzb2 Hnews H1 H2 H3 H4 HrV Hkb Hfb Hzb hi0
    obtain ⟨g, c, hgB, hH, hb⟩ := hcut
    go_wp2_with fail
    go_loopw [6] (fun i wr => ∃ k : Nat, k ≤ lost.length ∧ i = .int .i64 k ∧ HalfAt wr (w.heap.size + 1) g w.heap.size d.n c (aftK d lost k) ∧ Below w.heap.size w wr) (fun i _ => lost.length - (intOf i).toNat)
    case atStart => exact ⟨0, by omega, rfl, hH.congr fun i _ => by unfold aftK aft; simp, hb⟩
    case round =>
      clear hH hb
      obtain ⟨k, hk, rfl, hH, hb⟩ := hrel
      by_cases hlt : k < lost.length
      · have hR := Hh.out.below hb
        obtain ⟨x0, p0, q0, r0⟩ := hR.c0
        obtain ⟨x1, p1, q1, r1⟩ := hR.c1
        obtain ⟨x2, p2, q2, r2⟩ := hR.c2
        obtain ⟨lb, lo, rfl, hc⟩ := Hl.out.below hb (by omega)
        have cx := hc k hlt
        obtain ⟨x, hx⟩ : ∃ x, lost.getD k 0 = x := ⟨_, rfl⟩
        rw [hx] at cx
        have Hx := Aside.mk hx
        have hk0 : (0 : Int) ≤ (k : Int) := by omega
        have hk1 : (k : Int) < (lost.length : Int) := by omega
        have HH := Aside.mk hH
        clear hc hx hH
        by_cases hx0 : x < 0
        · have hd : decide ((0 : Int) ≤ x) = false := by simp; omega
          clear hR
          go_wp2_with fail
          go_quiet (fail)
          go_wp2_with fail
          go_roundw
          case rel => exact ⟨k + 1, by omega, by go_num, (HH.out.congr fun i hi => aftK_skip d lost k i hlt (.inl (by have := Hx.out; omega))).keep ((Keep.refl (fun _ => False) wr).drewN _) ⟨id, id, id⟩, below_drewN hb _⟩
          case measure => simp [intOf]; omega
        · by_cases hx1 : (d.n : Int) ≤ x
          · have hd : decide ((0 : Int) ≤ x) = true := by simp; omega
            have hd2 : decide (x < (d.n : Int)) = false := by simp; omega
            clear hR
            go_wp2_with fail
            go_quiet (fail)
            go_wp2_with fail
            go_roundw
            case rel => exact ⟨k + 1, by omega, by go_num, (HH.out.congr fun i hi => aftK_skip d lost k i hlt (.inl (by have := Hx.out; omega))).keep ((Keep.refl (fun _ => False) wr).drewN _) ⟨id, id, id⟩, below_drewN hb _⟩
            case measure => simp [intOf]; omega
          · obtain ⟨j, rfl⟩ := Int.eq_ofNat_of_zero_le (show 0 ≤ x by omega)
            have hj : j < d.n := by omega
            have hd : decide ((0 : Int) ≤ (j : Int)) = true := by simp
            have hd2 : decide ((j : Int) < (d.n : Int)) = true := by simp; omega
            have hj0 : (0 : Int) ≤ (j : Int) := by omega
            have hj1 : (j : Int) < (d.n : Int) := by omega
            have cV := hR.rV.at' j hj
            cases hw : d.w j with
            | false =>
              rw [hw] at cV
              have Hw := Aside.mk hw
              clear hR hw
              go_wp2_with fail
              go_quiet (fail)
              go_wp2_with fail
              go_roundw
              case rel => exact ⟨k + 1, by omega, by go_num, (HH.out.congr fun i hi => aftK_skip d lost k i hlt (aft_case Hx.out Hw.out)).keep ((Keep.refl (fun _ => False) wr).drewN _) ⟨id, id, id⟩, below_drewN hb _⟩
              case measure => simp [intOf]; omega
            | true =>
              rw [hw] at cV
              have Hw := Aside.mk hw
              have HR := Aside.mk hR
              clear hR hw
              go_wp2_with fail
              go_quiet (fail)
              go_wp2_with fail
              have hH3 := HH.out.keep ((Keep.refl (fun _ => False) wr).drewN nq) ⟨id, id, id⟩
              have hR3 := HR.out.drewN nq
              have hb3 := below_drewN hb nq
              replace cx := ((Keep.refl (fun _ => False) wr).drewN nq).cell cx id
              generalize wr.drewN nq = w3 at *
              obtain ⟨x0, p0, q0, r0⟩ := hR3.c0
              obtain ⟨x1, p1, q1, r1⟩ := hR3.c1
              have s0 := hH3.c0
              have cO := hR3.rO.at' j hj
              have cN := hH3.rN.at' j hj
              have fN := hH3.rN.fr j hj
              have HH3 := Aside.mk hH3
              have hgl : w.heap.size ≤ g := by omega
              clear cV hR3 hH3
              go_wp2_with fail
              go_region
              go_wp2_with fail
              go_roundw
              case rel =>
                refine ⟨k + 1, by omega, by go_num, ((HH3.out.set j hj (d.o j)).congr fun i hi => ?_).keep ((Keep.refl (fun _ => False) _).drew) ⟨id, id, id⟩, ?_⟩
                · by_cases e : i = j
                  · rw [if_pos e, e]; exact aftK_hit d lost k j hlt Hx.out.symm Hw.out
                  · rw [if_neg e]; exact aftK_skip d lost k i hlt (.inl (by have := Hx.out; omega))
                · exact below_drewN (hb3.setCell (p := ⟨g, j, none⟩) hgl _) 1
              case measure => simp [intOf]; omega
      · obtain rfl : k = lost.length := by omega
        clear Hl
        have s0 := hH.c0
        have s1 := hH.c1
        have f1 := hH.fr 1 (by omega)
        have Hnews := Aside.mk (sVals_news hH.rN)
        have hsz := hb.size
        have hHl := hH.lt
        have HH := Aside.mk hH
        clear hH
        go_upto_region 8 with fail
        have hAK : ∀ i, aftK d lost lost.length i = aft d lost i := fun i => by unfold aftK; rw [List.take_length]
        have HAK := Aside.mk hAK
        have Hok := Aside.mk Hh.out.ok
        clear hAK
        go_cut [] from 27 (fun wx => ∃ O' : Nat, w.heap.size ≤ O' ∧ RefAt wx (w.heap.size + 1) g O' w.heap.size (dafter d lost) ∧ Below w.heap.size w wx)
        case first =>
          go_region_law ((refine step_append_lies _ (by rfl) _ _ _ (by rfl) (w.heap.size + 2) 9 i0 _ 1 16 Tryd.underlying30 Hi0.out hz0 hzs0 hzb0 rfl (by omega) (.slice none 0 0) 0 [] (by rfl) ⟨rfl, .inl ⟨rfl, rfl⟩⟩ ⟨g, 0, none⟩ d.n c (sVals (aftK d lost lost.length) d.n) (by rfl) (by rw [sVals_len]; omega) Hnews.out (sVals_one _ d.n) (by omega) (by unfold maxLen; omega) (by omega) (by have := hHl; simp; omega) wr.heap.size (by rfl) ?_; intro o cap w1 hown1 hgrow hat hltg; obtain ⟨t0, u0⟩ := grown_held hgrow (held_keep ((Keep.refl (fun _ => False) wr).drew) ⟨s1, f1⟩ id) (by simp [Value.ownBlock])))
          all_goals
            go_wp2_with fail
            go_meet
            rw [Nat.zero_add, List.nil_append] at hown1
            have hkg : Keep (fun _ => False) wr w1 := ((Keep.refl _ wr).drew).trans ((keep_of_grown hgrow).mono fun _ q => by simp [Value.ownBlock] at q)
            obtain ⟨q1, q2, q3, q4⟩ := RowAt.of_slice hown1 (by omega) (fun i hi => sVals_at (aftK d lost lost.length) d.n i hi)
            have hks : Keep (fun j => j = w.heap.size + 1) w1 (w1.setCell ⟨w.heap.size + 1, 1, none⟩ (.slice (some ⟨o, 0, none⟩) d.n cap)) := (Keep.refl (fun j => j = w.heap.size + 1) w1).setCell (p := ⟨w.heap.size + 1, 1, none⟩) (.inl rfl) _
            have hH := HH.out
            have hgo : g ≠ o := by
              rcases hat with q | q
              · simp [Value.ownBlock] at q
              · have := World.block_lt_of_cell? _ _ (hH.rN.at' 0 (by omega))
                dsimp only at this; omega
            have hn := dafter_n d lost
            have es : ∀ i, i < d.n → (dafter d lost).s i = aftK d lost lost.length i := fun i hi => by rw [HAK.out, dafter_s, dafter_o d lost i hi]
            have eo : ∀ i, i < d.n → (dafter d lost).o i = aftK d lost lost.length i := fun i hi => by rw [HAK.out, dafter_o d lost i hi]
            refine ⟨o, by omega, ⟨dafter_ok Hok.out lost, ⟨c, by rw [hn]; exact hH.hc1, hH.hc2, ?_⟩, ⟨cap, by rw [hn]; exact q1, q2, ?_⟩, ⟨d.n, by rw [hn]; exact Nat.le_refl _, by omega, ?_⟩, ?_, ?_, fun i hi => ?_, ?_, ?_, ?_, hH.bN, by omega, hH.bV, hgo, hH.NV, by omega⟩, ?_⟩
            · rw [hn, World.cell?_setCell_other _ _ _ _ (by simp)]; exact hkg.cell hH.c0 id
            · rw [hn]; exact World.cell?_setCell_same _ _ _ t0
            · rw [hn, World.cell?_setCell_other _ _ _ _ (by simp)]; exact hkg.cell hH.c2 id
            · rw [World.cell?_setCell_other _ _ _ _ (by simp)]; exact hkg.cell hH.c3 id
            · rw [World.cell?_setCell_other _ _ _ _ (by simp)]; exact hkg.cell hH.c4 id
            · rw [World.frozen?_setCell, hkg.frozen (p := ⟨w.heap.size + 1, i, none⟩) hHl id]; exact hH.fr i hi
            · rw [hn]; exact ((hH.rN.keep hkg id).keep hks (fun q => hH.bN q.symm)).congr fun i hi => by rw [es i hi]
            · rw [hn]; exact (q4.keep hks (by omega)).congr fun i hi => by rw [eo i hi]
            · rw [hn]; exact ((hH.rV.keep hkg id).keep hks (by omega)).congr fun i _ => by rw [dafter_w]
            · exact (hb.trans (hkg.below hb.size fun _ q => q.elim)).setCell (p := ⟨w.heap.size + 1, 1, none⟩) (Nat.le_succ _) _
        case rest =>
          obtain ⟨o, hoB, hR, hb2⟩ := hcut
          have HR := Aside.mk hR
          clear hR s0 s1 f1 Hnews
          go_wp2_with fail
          go_ret
          exact ⟨_, g, o, w.heap.size, rfl, by omega, by omega, hoB, Nat.le_refl _, HR.out, hb2⟩
end Go.Proofs.YtpfkpaombiikcaaDoor
