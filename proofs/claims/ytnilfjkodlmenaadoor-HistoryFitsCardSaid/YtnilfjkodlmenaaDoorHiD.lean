/- history: Do. -/
import Derived.Test.YtnilfjkodlmenaaDoorHiC
import Derived.Test.YtnilfjkodlmenaaDoorRegK
import Derived.Deep.AppendLies
import Derived.BigQuiet
set_option maxRecDepth 16000
namespace Go.Pin
open Go.RowKit
set_option linter.unusedVariables false
set_option linter.unusedSimpArgs false
theorem join_none (L : List (List UInt8)) : Lib.join L [] = L.flatten := by
  cases L with
  | nil => rfl
  | cons x r =>
    rw [Lib.join_cons]
    unfold Lib.joinTail
    simp
theorem hJoin_eq (B : List ByteArray) : (⟨(Lib.join (B.map (·.data.toList)) []).toArray⟩ : ByteArray) = hJoin B := by
  rw [join_none]
  induction B with
  | nil => rfl
  | cons x r ih =>
    unfold hJoin at ih ⊢
    rw [List.foldr_cons, ← ih]
    apply ByteArray.ext
    apply Array.ext'
    rw [ByteArray.data_append]
    simp
theorem flat_len (B : List ByteArray) (h : ∀ s ∈ B, s.size = 64) : ((B.map (·.data.toList)).flatten).length = 64 * B.length := by
  induction B with
  | nil => rfl
  | cons x r ih =>
    have hx : x.data.toList.length = 64 := h x (List.mem_cons_self ..)
    rw [List.map_cons, List.flatten_cons, List.length_append, hx, ih (fun s hs => h s (List.mem_cons_of_mem _ hs)), List.length_cons]
    omega
/-- Blocks i, .. (k of them) are trimmed. -/
def trimTo (B : List ByteArray) (i k : Nat) : List ByteArray := B.mapIdx fun j y => if i ≤ j ∧ j < i + k then hWhole ⟨#[]⟩ else y
theorem trimTo_zero (B : List ByteArray) (i : Nat) : trimTo B i 0 = B := by
  unfold trimTo
  apply List.ext_getElem?
  intro j
  rw [List.getElem?_mapIdx]
  cases B[j]? with
  | none => rfl
  | some y => rw [Option.map_some, if_neg (by omega)]
theorem trimTo_len (B : List ByteArray) (i k : Nat) : (trimTo B i k).length = B.length := List.length_mapIdx ..
theorem trimTo_succ (B : List ByteArray) (i k : Nat) : (trimTo B i k).set (i + k) (hWhole ⟨#[]⟩) = trimTo B i (k + 1) := by
  apply List.ext_getElem?
  intro j
  rw [List.getElem?_set, trimTo_len]
  unfold trimTo
  rw [List.getElem?_mapIdx, List.getElem?_mapIdx]
  by_cases h : i + k = j
  · subst h
    rw [if_pos rfl]
    by_cases hl : i + k < B.length
    · rw [if_pos hl, List.getElem?_eq_getElem hl, Option.map_some, if_pos (by omega)]
    · rw [if_neg hl, List.getElem?_eq_none (by omega)]; rfl
  · rw [if_neg h]
    cases B[j]? with
    | none => rfl
    | some y =>
      rw [Option.map_some, Option.map_some]
      by_cases q : i ≤ j ∧ j < i + k
      · rw [if_pos q, if_pos (by omega)]
      · rw [if_neg q, if_neg (by omega)]
/-- The first mn blocks, and fresh ones up to k. -/
def rezTo (B : List ByteArray) (mn k : Nat) : List ByteArray := B.take mn ++ List.replicate (k - mn) (hWhole ⟨#[]⟩)
theorem rezTo_at (B : List ByteArray) (mn : Nat) : rezTo B mn mn = B.take mn := by unfold rezTo; rw [Nat.sub_self]; simp
theorem rezTo_len (B : List ByteArray) {mn k : Nat} (h : (B.take mn).length = mn) (hk : mn ≤ k) : (rezTo B mn k).length = k := by unfold rezTo; rw [List.length_append, h, List.length_replicate]; omega
theorem rezTo_succ (B : List ByteArray) {mn k : Nat} (hk : mn ≤ k) : rezTo B mn (k + 1) = rezTo B mn k ++ [hWhole ⟨#[]⟩] := by
  unfold rezTo
  rw [show k + 1 - mn = (k - mn) + 1 by omega, List.replicate_succ', List.append_assoc]
def slen : Value → Nat
  | .slice _ n _ => n
  | _ => 0
/-- What Do answers. -/
def DoMade (B : List ByteArray) (x : HOp) (v0 : Value) (w : World) (e : Ending) (w' : World) : Prop := ∃ v, e = .returned (.tuple #[v, .agg #[.int .i64 (hdo B x).2.1, .string (hdo B x).2.2]]) ∧ BlkAt w' v (hdo B x).1 ∧ (v = v0 ∨ ∀ p n c, v = .slice p n c → ∀ b o, p = some ⟨b, o, none⟩ → w.heap.size ≤ b) ∧ Below w.heap.size w w'
theorem BlkAt.keepS {S : Nat → Prop} {a w : World} {p : Option Addr} {n c : Nat} {B : List ByteArray} (h : BlkAt a (.slice p n c) B) (hq : Keep S a w) (hn : ∀ b o, p = some ⟨b, o, none⟩ → ¬ S b) : BlkAt w (.slice p n c) B := by
  rcases h.of with q | ⟨b, o, c', h1, h2, h3, h4⟩
  · exact ⟨.inl q⟩
  · have hp : p = some ⟨b, o, none⟩ := by injection h1
    exact ⟨.inr ⟨b, o, c', h1, h2, Nat.lt_of_lt_of_le h3 hq.size, fun j x hx => hq.cell (h4 j x hx) (hn b o hp)⟩⟩
/-- The copies that Do keeps: the entry, the answer. -/
structure DoAt (w : World) (E Z : Nat) (x : HOp) : Prop where
  row : ∀ i v, (hEnC x.e).toList[i]? = some v → w.cell? ⟨E, i, none⟩ = some v
  z0 : w.cell? ⟨Z, 0, none⟩ = some (.int .i64 0)
  z1 : w.cell? ⟨Z, 1, none⟩ = some (.string ⟨#[]⟩)
  g0 : w.frozen? ⟨Z, 0, none⟩ = false
  g1 : w.frozen? ⟨Z, 1, none⟩ = false
theorem DoAt.keep {S : Nat → Prop} {a w : World} {E Z : Nat} {x : HOp} (h : DoAt a E Z x) (hk : Keep S a w) (h1 : ¬ S E) (h2 : ¬ S Z) : DoAt w E Z x :=
  ⟨fun i v hv => hk.cell (h.row i v hv) h1, hk.cell h.z0 h2, hk.cell h.z1 h2, (hk.frozen_at (q := ⟨Z, 0, none⟩) h.z0 rfl h2).trans h.g0, (hk.frozen_at (q := ⟨Z, 1, none⟩) h.z1 rfl h2).trans h.g1⟩
theorem DoAt.cells {w : World} {E Z : Nat} {x : HOp} (h : DoAt w E Z x) : w.cell? ⟨E, 0, none⟩ = some (.int .u64 x.e.term) ∧ w.cell? ⟨E, 1, none⟩ = some (.int .u64 x.e.index) ∧ w.cell? ⟨E, 2, none⟩ = some (.int .i64 x.e.kind) ∧ w.cell? ⟨E, 3, none⟩ = some (.int .u64 x.e.client) ∧ w.cell? ⟨E, 4, none⟩ = some (.int .u64 x.e.seq) ∧ w.cell? ⟨E, 5, none⟩ = some (.int .u64 x.e.block) ∧ w.cell? ⟨E, 6, none⟩ = some (.int .u64 x.e.many) ∧ w.cell? ⟨E, 7, none⟩ = some (.int .i64 x.e.node) ∧ w.cell? ⟨E, 8, none⟩ = some (.int .i64 x.e.level) ∧ w.cell? ⟨E, 9, none⟩ = some (.string x.e.data) ∧ w.cell? ⟨E, 10, none⟩ = some (.string x.e.old) :=
  ⟨h.row 0 _ rfl, h.row 1 _ rfl, h.row 2 _ rfl, h.row 3 _ rfl, h.row 4 _ rfl, h.row 5 _ rfl, h.row 6 _ rfl, h.row 7 _ rfl, h.row 8 _ rfl, h.row 9 _ rfl, h.row 10 _ rfl⟩
end Go.Pin
namespace Go.Proofs.YtnilfjkodlmenaaDoor
open Go.RowKit Go.Pin
set_option linter.unusedVariables false
set_option linter.unusedSimpArgs false
theorem str_info : (Tryd.prog.info? 9).map (fun i => (i.zero, i.size, i.bytes)) = some (some (.string ⟨#[]⟩), 1, 16) := by kernel_rfl
set_option maxHeartbeats 6400000 in
theorem hi_do (B : List ByteArray) (hB : B.length ≤ 128) (h64 : ∀ s ∈ B, s.size = 64) (x : HOp) (hx : x.ok) (v : Value) (w : World) (hV : BlkAt w v B) :
    Calls Tryd.prog 18 #[v, .agg x.cells] w (DoMade B x v w) := by
  obtain ⟨va, vc, rfl⟩ : ∃ a c, v = .slice a B.length c := by
    rcases hV.of with ⟨q, q2⟩ | ⟨b, o, c, q, _⟩
    · exact ⟨none, 0, by rw [q, q2]; rfl⟩
    · exact ⟨_, _, q⟩
  have hva : ∀ b o, va = some ⟨b, o, none⟩ → b < w.heap.size := fun b o q => by
    rcases hV.of with ⟨q1, q2⟩ | ⟨b', o', c', q1, q2, q3, _⟩
    · injection q1 with q1
      rw [q] at q1; cases q1
    · injection q1 with q1
      rw [q] at q1
      injection q1 with q1
      injection q1 with q1
      rw [q1]; exact q3
  have HVa := Pin.Aside.mk hva
  clear hva
  have hk1 := (Keep.refl (fun _ => False) w).alloc (.cells x.cells 33)
  have hk2 := (Keep.refl (fun _ => False) (w.alloc (.cells x.cells 33))).alloc (.cells #[.int .i64 0, .string ⟨#[]⟩] 31)
  have hk3 := (Keep.refl (fun _ => False) ((w.alloc (.cells x.cells 33)).alloc (.cells #[.int .i64 0, .string ⟨#[]⟩] 31))).alloc (.cells (hEnC x.e) 28)
  have HBl := Pin.Aside.mk (((hV.keep hk1).keep hk2).keep hk3)
  have hb := ((hk1.trans hk2).trans hk3).below (Nat.le_refl w.heap.size) fun _ q => q.elim
  have HD0 : DoAt (((w.alloc (.cells x.cells 33)).alloc (.cells #[.int .i64 0, .string ⟨#[]⟩] 31)).alloc (.cells (hEnC x.e) 28)) (w.heap.size + 2) (w.heap.size + 1) x := by
    have hz : (w.alloc (.cells x.cells 33)).heap.size = w.heap.size + 1 := by simp
    have hz2 : ((w.alloc (.cells x.cells 33)).alloc (.cells #[.int .i64 0, .string ⟨#[]⟩] 31)).heap.size = w.heap.size + 2 := by simp
    refine ⟨fun i u hu => ?_, ?_, ?_, ?_, ?_⟩
    · rw [← hz2]
      have hi : i < 11 := (List.getElem?_eq_some_iff.1 hu).1
      have : i = 0 ∨ i = 1 ∨ i = 2 ∨ i = 3 ∨ i = 4 ∨ i = 5 ∨ i = 6 ∨ i = 7 ∨ i = 8 ∨ i = 9 ∨ i = 10 := by omega
      rcases this with rfl | rfl | rfl | rfl | rfl | rfl | rfl | rfl | rfl | rfl | rfl <;> (cases hu; exact World.cell?_alloc_new _ _ _ _)
    · rw [← hz]; exact hk3.cell (World.cell?_alloc_new _ _ _ _) id
    · rw [← hz]; exact hk3.cell (World.cell?_alloc_new _ _ _ _) id
    · rw [← hz]; exact (hk3.frozen (p := ⟨(w.alloc (.cells x.cells 33)).heap.size, 0, none⟩) (by simp) id).trans (by simp)
    · rw [← hz]; exact (hk3.frozen (p := ⟨(w.alloc (.cells x.cells 33)).heap.size, 1, none⟩) (by simp) id).trans (by simp)
  have HD := Pin.Aside.mk HD0
  clear hk1 hk2 hk3 hV HD0
  obtain ⟨n, hn⟩ : ∃ n, B.length = n := ⟨_, rfl⟩
  have HN := Pin.Aside.mk hn
  have HX := Pin.Aside.mk hx
  have H64 := Pin.Aside.mk h64
  rw [hn] at hB HBl ⊢
  clear hn hx h64
  unfold HOp.cells hEnC at *
  go_enter Tryd.func18, Tryd.ntmps18
  go_upto_region 2 with fail
  generalize ((w.alloc (.cells #[.int .u64 x.e.term, .int .u64 x.e.index, .int .i64 x.e.kind, .int .u64 x.e.client, .int .u64 x.e.seq, .int .u64 x.e.block, .int .u64 x.e.many, .int .i64 x.e.node, .int .i64 x.e.level, .string x.e.data, .string x.e.old, .int .u64 x.start, .int .u64 x.stop, .int .i64 x.re, .string x.rd] 33)).alloc (.cells #[.int .i64 0, .string ⟨#[]⟩] 31)).alloc (.cells #[.int .u64 x.e.term, .int .u64 x.e.index, .int .i64 x.e.kind, .int .u64 x.e.client, .int .u64 x.e.seq, .int .u64 x.e.block, .int .u64 x.e.many, .int .i64 x.e.node, .int .i64 x.e.level, .string x.e.data, .string x.e.old] 28) = w1 at *
  obtain ⟨U, hU⟩ : ∃ U, w.heap.size = U := ⟨_, rfl⟩
  rw [hU] at hb HD
  try rw [hU]
  have HU := Pin.Aside.mk hU
  clear hU
  obtain ⟨Z, hZ, hUZ⟩ : ∃ Z, U + 1 = Z ∧ U < Z := ⟨_, rfl, Nat.lt_succ_self _⟩
  obtain ⟨E, hE, hZE⟩ : ∃ E, U + 2 = E ∧ Z < E := ⟨_, rfl, by omega⟩
  rw [hZ, hE] at HD
  try rw [show U + 1 + 1 = E from hE, hZ]
  clear hZ hE
  have HB1 := Pin.Aside.mk (fun W => hi_bounds n va vc x.e 1 (by omega) HX.out.block (by decide) W)
  have HB2 := Pin.Aside.mk (fun W => hi_bounds n va vc x.e x.e.many (by omega) HX.out.block HX.out.many W)
  unfold hEnC at HB1 HB2
  obtain ⟨d0, d1, d2, d3, d4, d5, d6, d7, d8, d9, d10⟩ := HD.out.cells
  have l0 : ∀ s' : KW (fun _ => False) w1, s'.w.cell? ⟨E, 0, none⟩ = some (.int .u64 x.e.term) := fun s' => s'.keep.cell d0 id
  have l1 : ∀ s' : KW (fun _ => False) w1, s'.w.cell? ⟨E, 1, none⟩ = some (.int .u64 x.e.index) := fun s' => s'.keep.cell d1 id
  have l2 : ∀ s' : KW (fun _ => False) w1, s'.w.cell? ⟨E, 2, none⟩ = some (.int .i64 x.e.kind) := fun s' => s'.keep.cell d2 id
  have l3 : ∀ s' : KW (fun _ => False) w1, s'.w.cell? ⟨E, 3, none⟩ = some (.int .u64 x.e.client) := fun s' => s'.keep.cell d3 id
  have l4 : ∀ s' : KW (fun _ => False) w1, s'.w.cell? ⟨E, 4, none⟩ = some (.int .u64 x.e.seq) := fun s' => s'.keep.cell d4 id
  have l5 : ∀ s' : KW (fun _ => False) w1, s'.w.cell? ⟨E, 5, none⟩ = some (.int .u64 x.e.block) := fun s' => s'.keep.cell d5 id
  have l6 : ∀ s' : KW (fun _ => False) w1, s'.w.cell? ⟨E, 6, none⟩ = some (.int .u64 x.e.many) := fun s' => s'.keep.cell d6 id
  have l7 : ∀ s' : KW (fun _ => False) w1, s'.w.cell? ⟨E, 7, none⟩ = some (.int .i64 x.e.node) := fun s' => s'.keep.cell d7 id
  have l8 : ∀ s' : KW (fun _ => False) w1, s'.w.cell? ⟨E, 8, none⟩ = some (.int .i64 x.e.level) := fun s' => s'.keep.cell d8 id
  have l9 : ∀ s' : KW (fun _ => False) w1, s'.w.cell? ⟨E, 9, none⟩ = some (.string x.e.data) := fun s' => s'.keep.cell d9 id
  have l10 : ∀ s' : KW (fun _ => False) w1, s'.w.cell? ⟨E, 10, none⟩ = some (.string x.e.old) := fun s' => s'.keep.cell d10 id
  clear d0 d1 d2 d3 d4 d5 d6 d7 d8 d9 d10
  refine wp_region_keep (fun _ => False) (by kernel_rfl) (by kernel_rfl) ?_
  repeat (go_big_quiet_step ((first | (go_at_call 30; with_reducible exact KW.calls (HB1.out _)) | (go_at_call 30; with_reducible exact KW.calls (HB2.out _)))))
  refine wpQuiet_nil ?_
  intro s4
  have hb4 := s4.below
  replace HD := Pin.Aside.mk (HD.out.keep s4.keep id id)
  replace HBl := Pin.Aside.mk (HBl.out.keep s4.keep)
  replace hb := hb.trans (hb4.mono (by have := hb.size; have := HU.out; omega))
  clear l0 l1 l2 l3 l4 l5 l6 l7 l8 l9 l10 hb4 HB1 HB2
  generalize s4.w = w2 at *
  go_upto_region 3 with fail
  obtain ⟨d0, d1, d2, d3, d4, d5, d6, d7, d8, d9, d10⟩ := HD.out.cells
  go_wp2_with fail
  refine (hi_known x.e.kind _).mono ?_
  rintro u w3 ⟨rfl, hb3⟩
  clear d0 d1 d2 d3 d4 d5 d6 d7 d8 d9 d10
  have hk3 : Keep (fun _ => False) w2 w3 := Keep.of_below hb3 fun _ q _ => q
  replace HD := Pin.Aside.mk (HD.out.keep hk3 id id)
  replace HBl := Pin.Aside.mk (HBl.out.keep hk3)
  replace hb := hb.trans (hb3.mono (by have := hb.size; have := HU.out; omega))
  clear hk3 hb3
  have hEl : E < w3.heap.size := World.block_lt_of_cell? _ _ (HD.out.row 0 _ rfl)
  obtain ⟨d0, d1, d2, d3, d4, d5, d6, d7, d8, d9, d10⟩ := HD.out.cells
  by_cases hkn : hKnown x.e.kind = true
  case neg =>
    have hkf : hKnown x.e.kind = false := by simpa using hkn
    have HDo : Pin.Aside (hdo B x = (B, 1, ⟨#[]⟩)) := Pin.Aside.mk (by unfold hdo; rw [if_pos (.inl hkf)])
    clear hkn
    go_wp2_with fail
    refine (hi_wrong (.slice va n vc) 1 _ ⟨_, _, _, rfl⟩).mono ?_
    rintro u w4 ⟨rfl, hb4⟩
    clear d0 d1 d2 d3 d4 d5 d6 d7 d8 d9 d10
    have hk4 : Keep (fun _ => False) w3 w4 := Keep.of_below hb4 fun _ q _ => q
    replace HD := Pin.Aside.mk (HD.out.keep hk4 id id)
    replace HBl := Pin.Aside.mk (HBl.out.keep hk4)
    replace hb := hb.trans (hb4.mono (by have := hb.size; have := HU.out; omega))
    clear hk4 hb4
    have c0 := HD.out.z0
    have c1 := HD.out.z1
    have f0 := HD.out.g0
    have f1 := HD.out.g1
    go_wp2_with fail
    have hkz := ((Keep.refl (fun k => k = Z) w4).setCell (p := ⟨Z, 0, none⟩) (.inl rfl) (.int .i64 1)).setCell (p := ⟨Z, 1, none⟩) (.inl rfl) (.string ⟨#[]⟩)
    refine bodyPost_ret (v := .tuple #[.slice va n vc, .agg #[.int .i64 1, .string ⟨#[]⟩]]) (by simp [results, Tryd.results18, go_sem, c0, c1]) rfl ?_
    refine ⟨_, by rw [HDo.out], by rw [HDo.out]; exact HBl.out.keepS hkz (fun b o q => by have := HVa.out b o q; have := HU.out; show ¬ b = Z; omega), .inl rfl, ?_⟩
    rw [HU.out]
    exact hb.trans (hkz.below (B := U) (by have := hb.size; have := HU.out; omega) (by rintro k rfl; omega))
  case pos =>
    by_cases hd : 64 < x.e.data.size
    · have hdi : (64 : Int) < (x.e.data.size : Int) := by omega
      have HDo : Pin.Aside (hdo B x = (B, 1, ⟨#[]⟩)) := Pin.Aside.mk (by unfold hdo; rw [if_pos (.inr (.inl hd))])
      go_wp2_with fail
      refine (hi_wrong (.slice va n vc) 1 _ ⟨_, _, _, rfl⟩).mono ?_
      rintro u w4 ⟨rfl, hb4⟩
      clear d0 d1 d2 d3 d4 d5 d6 d7 d8 d9 d10
      have hk4 : Keep (fun _ => False) w3 w4 := Keep.of_below hb4 fun _ q _ => q
      replace HD := Pin.Aside.mk (HD.out.keep hk4 id id)
      replace HBl := Pin.Aside.mk (HBl.out.keep hk4)
      replace hb := hb.trans (hb4.mono (by have := hb.size; have := HU.out; omega))
      clear hk4 hb4
      have c0 := HD.out.z0
      have c1 := HD.out.z1
      have f0 := HD.out.g0
      have f1 := HD.out.g1
      go_wp2_with fail
      have hkz := ((Keep.refl (fun k => k = Z) w4).setCell (p := ⟨Z, 0, none⟩) (.inl rfl) (.int .i64 1)).setCell (p := ⟨Z, 1, none⟩) (.inl rfl) (.string ⟨#[]⟩)
      refine bodyPost_ret (v := .tuple #[.slice va n vc, .agg #[.int .i64 1, .string ⟨#[]⟩]]) (by simp [results, Tryd.results18, go_sem, c0, c1]) rfl ?_
      refine ⟨_, by rw [HDo.out], by rw [HDo.out]; exact HBl.out.keepS hkz (fun b o q => by have := HVa.out b o q; have := HU.out; show ¬ b = Z; omega), .inl rfl, ?_⟩
      rw [HU.out]
      exact hb.trans (hkz.below (B := U) (by have := hb.size; have := HU.out; omega) (by rintro k rfl; omega))
    have hdi : ¬ (64 : Int) < (x.e.data.size : Int) := by omega
    by_cases ho : 64 < x.e.old.size
    · have hoi : (64 : Int) < (x.e.old.size : Int) := by omega
      have HDo : Pin.Aside (hdo B x = (B, 1, ⟨#[]⟩)) := Pin.Aside.mk (by unfold hdo; rw [if_pos (.inr (.inr ho))])
      go_wp2_with fail
      refine (hi_wrong (.slice va n vc) 1 _ ⟨_, _, _, rfl⟩).mono ?_
      rintro u w4 ⟨rfl, hb4⟩
      clear d0 d1 d2 d3 d4 d5 d6 d7 d8 d9 d10
      have hk4 : Keep (fun _ => False) w3 w4 := Keep.of_below hb4 fun _ q _ => q
      replace HD := Pin.Aside.mk (HD.out.keep hk4 id id)
      replace HBl := Pin.Aside.mk (HBl.out.keep hk4)
      replace hb := hb.trans (hb4.mono (by have := hb.size; have := HU.out; omega))
      clear hk4 hb4
      have c0 := HD.out.z0
      have c1 := HD.out.z1
      have f0 := HD.out.g0
      have f1 := HD.out.g1
      go_wp2_with fail
      have hkz := ((Keep.refl (fun k => k = Z) w4).setCell (p := ⟨Z, 0, none⟩) (.inl rfl) (.int .i64 1)).setCell (p := ⟨Z, 1, none⟩) (.inl rfl) (.string ⟨#[]⟩)
      refine bodyPost_ret (v := .tuple #[.slice va n vc, .agg #[.int .i64 1, .string ⟨#[]⟩]]) (by simp [results, Tryd.results18, go_sem, c0, c1]) rfl ?_
      refine ⟨_, by rw [HDo.out], by rw [HDo.out]; exact HBl.out.keepS hkz (fun b o q => by have := HVa.out b o q; have := HU.out; show ¬ b = Z; omega), .inl rfl, ?_⟩
      rw [HU.out]
      exact hb.trans (hkz.below (B := U) (by have := hb.size; have := HU.out; omega) (by rintro k rfl; omega))
    have hoi : ¬ (64 : Int) < (x.e.old.size : Int) := by omega
    have HDo0 : Pin.Aside (hdo B x = if ((x.e.kind = 1 ∨ x.e.kind = 11) ∧ hBounds B.length x.e 1 = false) ∨ ((x.e.kind = 2 ∨ x.e.kind = 100) ∧ hBounds B.length x.e x.e.many = false) ∨ (x.e.kind = 3 ∧ 128 < x.e.many) then (B, 5, ⟨#[]⟩)
      else if x.e.kind = 100 then (B, 0, hJoin ((B.drop x.e.block.toNat).take x.e.many.toNat))
      else if x.e.kind = 2 then (B.mapIdx (fun i y => if x.e.block.toNat ≤ i ∧ i < x.e.block.toNat + x.e.many.toNat then hWhole ⟨#[]⟩ else y), 0, ⟨#[]⟩)
      else if x.e.kind = 3 then (B.take x.e.many.toNat ++ List.replicate (x.e.many.toNat - B.length) (hWhole ⟨#[]⟩), 0, ⟨#[]⟩)
      else if x.e.kind = 11 ∧ B.getD x.e.block.toNat ⟨#[]⟩ ≠ hWhole x.e.old then (B, 11, B.getD x.e.block.toNat ⟨#[]⟩)
      else (B.set x.e.block.toNat (hWhole x.e.data), 0, ⟨#[]⟩)) := Pin.Aside.mk (by
        conv => lhs; unfold hdo
        rw [if_neg (by rintro (q | q | q) <;> first | exact hd q | exact ho q | (rw [hkn] at q; cases q))])
    rw [HN.out] at HDo0
    have hk5 : x.e.kind = 1 ∨ x.e.kind = 2 ∨ x.e.kind = 3 ∨ x.e.kind = 11 ∨ x.e.kind = 100 := of_decide_eq_true hkn
    rcases hk5 with hk | hk | hk | hk | hk
    · by_cases hbn : hBounds n x.e 1 = true
      · obtain ⟨i, hi⟩ : ∃ i : Nat, (i : Int) = x.e.block := ⟨x.e.block.toNat, by have := HX.out.block; omega⟩
        have hin : i < B.length := by
          unfold hBounds at hbn
          rw [Bool.and_eq_true] at hbn
          have h1 := of_decide_eq_true hbn.1
          have h2 := of_decide_eq_true hbn.2
          rw [HN.out]; omega
        have HDo : Pin.Aside (hdo B x = (B.set i (hWhole x.e.data), 0, ⟨#[]⟩)) := Pin.Aside.mk (by
          rw [HDo0.out, if_neg, if_neg (by omega), if_neg (by omega), if_neg (by omega), if_neg (by omega), show x.e.block.toNat = i by omega]
          rintro (⟨_, q⟩ | ⟨q, _⟩ | ⟨q, _⟩)
          · rw [hbn] at q; cases q
          · omega
          · omega)
        have HSet := Pin.Aside.mk (hi_set B (by rw [HN.out]; exact hB) i hin x.e.data (by omega) (.slice va n vc) w3 HBl.out)
        rw [hi] at HSet
        clear hi hin
        go_wp2_with fail
        refine HSet.out.mono ?_
        rintro u w4 ⟨v', rfl, hV4, hfr, hb4⟩
        clear d0 d1 d2 d3 d4 d5 d6 d7 d8 d9 d10
        have hk4 : Keep (fun _ => False) w3 w4 := Keep.of_below hb4 fun _ q _ => q
        replace HD := Pin.Aside.mk (HD.out.keep hk4 id id)
        replace hb := hb.trans (hb4.mono (by have := hb.size; have := HU.out; omega))
        obtain ⟨va', vn', vc', rfl⟩ : ∃ a n c, v' = .slice a n c := by
          rcases hV4.of with ⟨q, _⟩ | ⟨b, o, c, q, _⟩
          · exact ⟨_, _, _, q⟩
          · exact ⟨_, _, _, q⟩
        have HV4 := Pin.Aside.mk hV4
        have HFr := Pin.Aside.mk (hfr _ _ _ rfl)
        clear hk4 hb4 hV4 hfr HSet
        have c0 := HD.out.z0
        have c1 := HD.out.z1
        have f0 := HD.out.g0
        have f1 := HD.out.g1
        go_wp2_with fail
        have hkz := ((Keep.refl (fun k => k = Z) w4).setCell (p := ⟨Z, 0, none⟩) (.inl rfl) (.int .i64 0)).setCell (p := ⟨Z, 1, none⟩) (.inl rfl) (.string ⟨#[]⟩)
        refine bodyPost_ret (v := .tuple #[.slice va' vn' vc', .agg #[.int .i64 0, .string ⟨#[]⟩]]) (by simp [results, Tryd.results18, go_sem, c0, c1]) rfl ?_
        refine ⟨_, by rw [HDo.out], by rw [HDo.out]; exact HV4.out.keepS hkz (fun b o q => by have := HFr.out b o q; show ¬ b = Z; omega), .inr (fun p n c q b o q2 => by injection q with q; rw [q2] at q; have := HFr.out b o q; have := hb.size; have := HU.out; omega), ?_⟩
        rw [HU.out]
        exact hb.trans (hkz.below (B := U) (by have := hb.size; have := HU.out; omega) (by rintro k rfl; omega))
      · have hbf : hBounds n x.e 1 = false := by simpa using hbn
        have HDo : Pin.Aside (hdo B x = (B, 5, ⟨#[]⟩)) := Pin.Aside.mk (by rw [HDo0.out, if_pos (.inl ⟨.inl hk, hbf⟩)])
        clear hbn
        go_wp2_with fail
        refine (hi_wrong (.slice va n vc) 5 _ ⟨_, _, _, rfl⟩).mono ?_
        rintro u w4 ⟨rfl, hb4⟩
        clear d0 d1 d2 d3 d4 d5 d6 d7 d8 d9 d10
        have hk4 : Keep (fun _ => False) w3 w4 := Keep.of_below hb4 fun _ q _ => q
        replace HD := Pin.Aside.mk (HD.out.keep hk4 id id)
        replace HBl := Pin.Aside.mk (HBl.out.keep hk4)
        replace hb := hb.trans (hb4.mono (by have := hb.size; have := HU.out; omega))
        clear hk4 hb4
        have c0 := HD.out.z0
        have c1 := HD.out.z1
        have f0 := HD.out.g0
        have f1 := HD.out.g1
        go_wp2_with fail
        have hkz := ((Keep.refl (fun k => k = Z) w4).setCell (p := ⟨Z, 0, none⟩) (.inl rfl) (.int .i64 5)).setCell (p := ⟨Z, 1, none⟩) (.inl rfl) (.string ⟨#[]⟩)
        refine bodyPost_ret (v := .tuple #[.slice va n vc, .agg #[.int .i64 5, .string ⟨#[]⟩]]) (by simp [results, Tryd.results18, go_sem, c0, c1]) rfl ?_
        refine ⟨_, by rw [HDo.out], by rw [HDo.out]; exact HBl.out.keepS hkz (fun b o q => by have := HVa.out b o q; have := HU.out; show ¬ b = Z; omega), .inl rfl, ?_⟩
        rw [HU.out]
        exact hb.trans (hkz.below (B := U) (by have := hb.size; have := HU.out; omega) (by rintro k rfl; omega))
    · by_cases hbn : hBounds n x.e x.e.many = true
      · obtain ⟨i, hi⟩ : ∃ i : Nat, (i : Int) = x.e.block := ⟨x.e.block.toNat, by have := HX.out.block; omega⟩
        obtain ⟨m, hm⟩ : ∃ i : Nat, (i : Int) = x.e.many := ⟨x.e.many.toNat, by have := HX.out.many; omega⟩
        have him : i + m ≤ n := by
          unfold hBounds at hbn
          rw [Bool.and_eq_true] at hbn
          have h1 := of_decide_eq_true hbn.1
          have h2 := of_decide_eq_true hbn.2
          omega
        have HDo : Pin.Aside (hdo B x = (trimTo B i m, 0, ⟨#[]⟩)) := Pin.Aside.mk (by
          rw [HDo0.out, if_neg, if_neg (by omega), if_pos hk, show x.e.block.toNat = i by omega, show x.e.many.toNat = m by omega]
          · rfl
          · rintro (⟨q, _⟩ | ⟨_, q⟩ | ⟨q, _⟩)
            · omega
            · rw [hbn] at q; cases q
            · omega)
        have HCl := Pin.Aside.mk (hi_clone B (by rw [HN.out]; exact hB) (.slice va n vc) w3 HBl.out)
        have HIM := Pin.Aside.mk him
        clear him
        go_wp2_with fail
        refine HCl.out.mono ?_
        rintro u w4 ⟨v2, rfl, hO, hb4⟩
        clear d0 d1 d2 d3 d4 d5 d6 d7 d8 d9 d10 HCl
        have hk4 : Keep (fun _ => False) w3 w4 := Keep.of_below hb4 fun _ q _ => q
        replace HD := Pin.Aside.mk (HD.out.keep hk4 id id)
        replace hb := hb.trans (hb4.mono (by have := hb.size; have := HU.out; omega))
        obtain ⟨p2, c2, hv2⟩ := hO.slice
        rw [HN.out] at hv2
        subst hv2
        have HO := Pin.Aside.mk (show hOwn w4 w3.heap.size (.slice p2 n c2) (trimTo B i 0) by rw [trimTo_zero]; exact hO)
        obtain ⟨H, hH⟩ : ∃ H, w3.heap.size = H := ⟨_, rfl⟩
        rw [hH] at HO hEl
        have HUH : Pin.Aside (U ≤ H) := Pin.Aside.mk (by omega)
        clear hk4 hb4 hO hH HBl
        obtain ⟨d0, d1, d2, d3, d4, d5, d6, d7, d8, d9, d10⟩ := HD.out.cells
        rw [← hm] at d6
        go_upto_region 17 with fail
        go_loopw [99] (fun y wr => ∃ k : Nat, k ≤ m ∧ y = .int .u64 k ∧ Pin.Aside (hOwn wr H (.slice p2 n c2) (trimTo B i k)) ∧ Pin.Aside (DoAt wr E Z x) ∧ Pin.Aside (Below U w wr)) (fun y _ => m - (intOf y).toNat)
        case atStart => exact ⟨0, by omega, rfl, HO, HD, Pin.Aside.mk hb⟩
        case round =>
          clear d0 d1 d2 d3 d4 d5 d6 d7 d8 d9 d10 hb
          obtain ⟨k, hk', rfl, HOr, HDr, HBr⟩ := hrel
          rename_i wr
          obtain ⟨d0, d1, d2, d3, d4, d5, d6, d7, d8, d9, d10⟩ := HDr.out.cells
          by_cases hkm : k < m
          · have hk0 : (k : Int) < (m : Int) := by omega
            have hlt : i + k < (trimTo B i k).length := by rw [trimTo_len, HN.out]; have := HIM.out; omega
            obtain ⟨g, hg, hgn, hgH, hgl⟩ := HOr.out.form (by omega)
            subst hg
            clear hgn
            have hx0 : 0 ≤ x.e.block + (k : Int) := by omega
            have hx1 : x.e.block + (k : Int) < (n : Int) := by have := HIM.out; omega
            have hix : (x.e.block + (k : Int)).toNat = i + k := by omega
            have hk64 : IntKind.u64.wrap ((k : Int) + 1) = ((k + 1 : Nat) : Int) := by rw [IntKind.wrap_u64]; have := HIM.out; omega
            obtain ⟨hci, hfi⟩ := HOr.out.cell (by rw [trimTo_len, HN.out]) (i + k) hlt
            have hadd : IntKind.u64.wrap (x.e.block + (k : Int)) = x.e.block + (k : Int) := by rw [IntKind.wrap_u64]; have := HIM.out; omega
            go_upto_region 19 with fail
            have l5 : ∀ s' : KW (fun _ => False) wr, s'.w.cell? ⟨E, 5, none⟩ = some (.int .u64 x.e.block) := fun s' => s'.keep.cell d5 id
            have hS0 : ∃ s' : KW (fun _ => False) wr, wr.drew = s'.w := ⟨⟨wr.drew, (Keep.refl _ wr).drew⟩, rfl⟩
            have HWh := Pin.Aside.mk (fun W => hi_whole ⟨#[]⟩ (by decide) W)
            obtain ⟨t, ht⟩ : ∃ t, hWhole ⟨#[]⟩ = t := ⟨_, rfl⟩
            rw [ht] at HWh
            clear d0 d1 d2 d3 d4 d5 d6 d7 d8 d9 d10
            refine wp_region_stayK (S := fun w' => ∃ s' : KW (fun _ => False) wr, w' = s'.w) 7 5 (by kernel_rfl) (by simp) (by kernel_rfl) (by kernel_rfl) hS0 ?_
            simp only [List.take_succ_cons, List.take_zero]
            refine wpStay_quietS 5 _ _ (by kernel_rfl) ?_
            simp only [List.take_succ_cons, List.take_zero, List.drop_succ_cons, List.drop_zero]
            repeat (go_big_quiet_step (fail))
            refine wpQuiet_nil ?_
            refine wpStay_nil ?_
            refine wpAnyK_one 5 (by kernel_rfl) rfl (fun K' hK' => ?_)
            go_simp
            refine (HWh.out _).mono ?_
            rintro u w5 ⟨rfl, hb5⟩
            have hk5 : Keep (fun _ => False) wr w5 := ((Keep.refl _ wr).drew).trans (Keep.of_below hb5 fun _ q _ => q)
            dsimp only
            refine hK'.out _ _ (fun _ => ⟨⟨w5, hk5⟩, rfl⟩) ?_
            clear hK' K'
            refine wpAnyK_more (g := 1) 6 1 (by simp) (by kernel_rfl) (by kernel_rfl) ⟨⟨w5, hk5⟩, rfl⟩ ?_
            simp only [List.take_succ_cons, List.take_zero, List.drop_succ_cons, List.drop_zero]
            refine wpStay_quietS 1 _ _ (by kernel_rfl) ?_
            simp only [List.take_succ_cons, List.take_zero, List.drop_succ_cons, List.drop_zero]
            repeat (go_big_quiet_step (fail))
            refine wpQuiet_nil ?_
            refine wpStay_nil ?_
            have hf5 := (hk5.frozen_at (q := ⟨g, i + k, none⟩) hci rfl id).trans hfi
            have hc5 := hk5.cell hci id
            have HO5 := HOr.out.keep hk5 fun _ _ => id
            have HD5 := HDr.out.keep hk5 id id
            have hks := (Keep.refl (fun j => j = g) w5).setCell (p := ⟨g, i + k, none⟩) (.inl rfl) (.string t)
            have HO6 := Pin.Aside.mk (show hOwn (w5.setCell ⟨g, i + k, none⟩ (.string t)) H (.slice (some ⟨g, 0, none⟩) n c2) (trimTo B i (k + 1)) by rw [← trimTo_succ, ht]; exact HO5.store (by rw [trimTo_len, HN.out]) (i + k) t)
            have HD6 := Pin.Aside.mk (HD5.keep hks (by show ¬ E = g; omega) (by show ¬ Z = g; omega))
            have HB6 := Pin.Aside.mk ((HBr.out.trans (hk5.below (B := U) (by have := HBr.out.size; have := HU.out; omega) fun _ q => q.elim)).trans (hks.below (B := U) (by have := HBr.out.size; have := hk5.size; have := HU.out; omega) (by have := HUH.out; rintro j rfl; omega)))
            clear HO5 HD5 hks l5 hS0 HWh
            refine wpAnyK_one 7 (by kernel_rfl) rfl (fun K' hK' => ?_)
            go_simp
            refine hK'.out _ _ (fun q => absurd rfl q) ?_
            clear hK' K'
            refine wpAnyK_done (by kernel_rfl) (NoPanic.normal ?_) _
            go_wp2_with fail
            go_roundw
            case rel => exact ⟨k + 1, by omega, by go_num, HO6, HD6, HB6⟩
            case measure => simp [intOf]; omega
          · obtain rfl : k = m := by omega
            have c0 := HDr.out.z0
            have c1 := HDr.out.z1
            have f0 := HDr.out.g0
            have f1 := HDr.out.g1
            go_wp2_with fail
            have hkz := ((Keep.refl (fun k => k = Z) wr).setCell (p := ⟨Z, 0, none⟩) (.inl rfl) (.int .i64 0)).setCell (p := ⟨Z, 1, none⟩) (.inl rfl) (.string ⟨#[]⟩)
            refine bodyPost_ret (v := .tuple #[.slice p2 n c2, .agg #[.int .i64 0, .string ⟨#[]⟩]]) (by simp [results, Tryd.results18, go_sem, c0, c1]) rfl ?_
            refine ⟨_, by rw [HDo.out], by rw [HDo.out]; exact (HOr.out.keep' hkz (fun k q => by show ¬ k = Z; omega)).blk, .inr (fun p n c q b o q2 => by have := HOr.out.fresh p n c q b o q2; have := HUH.out; have := HU.out; omega), ?_⟩
            rw [HU.out]
            exact HBr.out.trans (hkz.below (B := U) (by have := HBr.out.size; have := HU.out; omega) (by rintro k rfl; omega))
      · have hbf : hBounds n x.e x.e.many = false := by simpa using hbn
        have HDo : Pin.Aside (hdo B x = (B, 5, ⟨#[]⟩)) := Pin.Aside.mk (by rw [HDo0.out, if_pos (.inr (.inl ⟨.inl hk, hbf⟩))])
        clear hbn
        go_wp2_with fail
        refine (hi_wrong (.slice va n vc) 5 _ ⟨_, _, _, rfl⟩).mono ?_
        rintro u w4 ⟨rfl, hb4⟩
        clear d0 d1 d2 d3 d4 d5 d6 d7 d8 d9 d10
        have hk4 : Keep (fun _ => False) w3 w4 := Keep.of_below hb4 fun _ q _ => q
        replace HD := Pin.Aside.mk (HD.out.keep hk4 id id)
        replace HBl := Pin.Aside.mk (HBl.out.keep hk4)
        replace hb := hb.trans (hb4.mono (by have := hb.size; have := HU.out; omega))
        clear hk4 hb4
        have c0 := HD.out.z0
        have c1 := HD.out.z1
        have f0 := HD.out.g0
        have f1 := HD.out.g1
        go_wp2_with fail
        have hkz := ((Keep.refl (fun k => k = Z) w4).setCell (p := ⟨Z, 0, none⟩) (.inl rfl) (.int .i64 5)).setCell (p := ⟨Z, 1, none⟩) (.inl rfl) (.string ⟨#[]⟩)
        refine bodyPost_ret (v := .tuple #[.slice va n vc, .agg #[.int .i64 5, .string ⟨#[]⟩]]) (by simp [results, Tryd.results18, go_sem, c0, c1]) rfl ?_
        refine ⟨_, by rw [HDo.out], by rw [HDo.out]; exact HBl.out.keepS hkz (fun b o q => by have := HVa.out b o q; have := HU.out; show ¬ b = Z; omega), .inl rfl, ?_⟩
        rw [HU.out]
        exact hb.trans (hkz.below (B := U) (by have := hb.size; have := HU.out; omega) (by rintro k rfl; omega))
    · by_cases hmn : 128 < x.e.many
      · have HDo : Pin.Aside (hdo B x = (B, 5, ⟨#[]⟩)) := Pin.Aside.mk (by rw [HDo0.out, if_pos (.inr (.inr ⟨hk, hmn⟩))])
        go_wp2_with fail
        refine (hi_wrong (.slice va n vc) 5 _ ⟨_, _, _, rfl⟩).mono ?_
        rintro u w4 ⟨rfl, hb4⟩
        clear d0 d1 d2 d3 d4 d5 d6 d7 d8 d9 d10
        have hk4 : Keep (fun _ => False) w3 w4 := Keep.of_below hb4 fun _ q _ => q
        replace HD := Pin.Aside.mk (HD.out.keep hk4 id id)
        replace HBl := Pin.Aside.mk (HBl.out.keep hk4)
        replace hb := hb.trans (hb4.mono (by have := hb.size; have := HU.out; omega))
        clear hk4 hb4
        have c0 := HD.out.z0
        have c1 := HD.out.z1
        have f0 := HD.out.g0
        have f1 := HD.out.g1
        go_wp2_with fail
        have hkz := ((Keep.refl (fun k => k = Z) w4).setCell (p := ⟨Z, 0, none⟩) (.inl rfl) (.int .i64 5)).setCell (p := ⟨Z, 1, none⟩) (.inl rfl) (.string ⟨#[]⟩)
        refine bodyPost_ret (v := .tuple #[.slice va n vc, .agg #[.int .i64 5, .string ⟨#[]⟩]]) (by simp [results, Tryd.results18, go_sem, c0, c1]) rfl ?_
        refine ⟨_, by rw [HDo.out], by rw [HDo.out]; exact HBl.out.keepS hkz (fun b o q => by have := HVa.out b o q; have := HU.out; show ¬ b = Z; omega), .inl rfl, ?_⟩
        rw [HU.out]
        exact hb.trans (hkz.below (B := U) (by have := hb.size; have := HU.out; omega) (by rintro k rfl; omega))
      · obtain ⟨m, hm⟩ : ∃ i : Nat, (i : Int) = x.e.many := ⟨x.e.many.toNat, by have := HX.out.many; omega⟩
        have hm128 : m ≤ 128 := by omega
        obtain ⟨mn, hmn2⟩ : ∃ i : Nat, min m n = i := ⟨_, rfl⟩
        have HDo : Pin.Aside (hdo B x = (B.take mn ++ List.replicate (m - mn) (hWhole ⟨#[]⟩), 0, ⟨#[]⟩)) := Pin.Aside.mk (by
          rw [HDo0.out, if_neg, if_neg (by omega), if_neg (by omega), if_pos hk, show x.e.many.toNat = m by omega]
          · have h1 : B.take m = B.take mn := by
              by_cases q : m ≤ n
              · rw [show mn = m by omega]
              · rw [List.take_of_length_le (by rw [HN.out]; omega), List.take_of_length_le (by rw [HN.out]; omega)]
            rw [h1, show m - n = m - mn by omega]
          · rintro (⟨q, _⟩ | ⟨q, _⟩ | ⟨_, q⟩)
            · omega
            · omega
            · omega)
        have hmin : (if (n : Int) < x.e.many then (n : Int) else x.e.many) = (mn : Int) := by split <;> omega
        have hmin2 : (if x.e.many < (n : Int) then x.e.many else (n : Int)) = (mn : Int) := by split <;> omega
        have hmin3 : min x.e.many (n : Int) = (mn : Int) := by omega
        have hw0 : IntKind.u64.wrap (n : Int) = (n : Int) := by rw [IntKind.wrap_u64]; omega
        have hmn0 : (mn : Int) ≤ (vc : Int) := by
          rcases HBl.out.of with ⟨q, q2⟩ | ⟨b, o, c, q, q2, _⟩
          · injection q with q3 q4 q5; omega
          · injection q with q3 q4 q5; rw [HN.out] at q2; omega
        have hBlm : BlkAt w3 (.slice va mn vc) (B.take mn) := by
          have htl : (B.take mn).length = mn := by rw [List.length_take, HN.out]; omega
          rcases HBl.out.of with ⟨q, q2⟩ | ⟨b, o, c, q, q2, q6, q7⟩
          · injection q with q3 q4 q5
            exact ⟨.inl ⟨by rw [q3, q5, show mn = 0 by omega], by rw [q2, List.take_nil]⟩⟩
          · injection q with q3 q4 q5
            refine ⟨.inr ⟨b, o, vc, by rw [htl, q3], by omega, q6, fun j x hx => ?_⟩⟩
            rw [List.getElem?_take] at hx
            split at hx
            · exact q7 j x hx
            · cases hx
        have HCl := Pin.Aside.mk (hi_clone (B.take mn) (by rw [List.length_take]; omega) (.slice va mn vc) w3 hBlm)
        clear hBlm HBl
        have htl : (B.take mn).length = mn := by rw [List.length_take, HN.out]; omega
        have HTl := Pin.Aside.mk htl
        have HMN := Pin.Aside.mk hmn2
        have HMm := Pin.Aside.mk (show mn ≤ m by omega)
        clear hmn2 htl
        go_wp2_with fail
        refine HCl.out.mono ?_
        rintro u w4 ⟨v2, rfl, hO, hb4⟩
        clear d0 d1 d2 d3 d4 d5 d6 d7 d8 d9 d10 HCl hmin hmin2 hmin3
        have hk4 : Keep (fun _ => False) w3 w4 := Keep.of_below hb4 fun _ q _ => q
        replace HD := Pin.Aside.mk (HD.out.keep hk4 id id)
        replace hb := hb.trans (hb4.mono (by have := hb.size; have := HU.out; omega))
        obtain ⟨p2, c2, hv2⟩ := hO.slice
        rw [HTl.out] at hv2
        subst hv2
        have HO := Pin.Aside.mk (show hOwn w4 w3.heap.size (.slice p2 mn c2) (rezTo B mn mn) by rw [rezTo_at]; exact hO)
        have HHw := Pin.Aside.mk (show w3.heap.size ≤ w4.heap.size from hk4.size)
        obtain ⟨H, hH⟩ : ∃ H, w3.heap.size = H := ⟨_, rfl⟩
        rw [hH] at HO hEl HHw
        have HUH : Pin.Aside (U ≤ H) := Pin.Aside.mk (by omega)
        clear hk4 hb4 hO hH
        have HWh := Pin.Aside.mk (fun W => hi_whole ⟨#[]⟩ (by decide) W)
        obtain ⟨t, ht⟩ : ∃ t, hWhole ⟨#[]⟩ = t := ⟨_, rfl⟩
        rw [ht] at HWh
        obtain ⟨i0, hif, hz0, hzs, hzb⟩ := info_parts str_info
        go_upto_region 24 with fail
        go_loopw [11] (fun y wr => ∃ (k : Nat) (p : Option Addr) (c : Nat), mn ≤ k ∧ k ≤ m ∧ y = .slice p k c ∧ Pin.Aside (hOwn wr H (.slice p k c) (rezTo B mn k)) ∧ Pin.Aside (DoAt wr E Z x) ∧ Pin.Aside (Below U w wr) ∧ Pin.Aside (H ≤ wr.heap.size)) (fun y _ => m - slen y)
        case atStart => exact ⟨mn, p2, c2, Nat.le_refl _, HMm.out, rfl, HO, HD, Pin.Aside.mk hb, HHw⟩
        case round =>
          clear hb
          obtain ⟨k, p, c, hmk, hk', rfl, HOr, HDr, HBr, HHr⟩ := hrel
          rename_i wr
          obtain ⟨d0, d1, d2, d3, d4, d5, d6, d7, d8, d9, d10⟩ := HDr.out.cells
          have hwk : IntKind.u64.wrap (k : Int) = (k : Int) := by rw [IntKind.wrap_u64]; omega
          by_cases hkm : k < m
          · have hk0 : (k : Int) < x.e.many := by omega
            go_wp2_with fail
            refine (HWh.out _).mono ?_
            rintro u w5 ⟨rfl, hb5⟩
            have hk5 : Keep (fun _ => False) wr w5 := Keep.of_below hb5 fun _ q _ => q
            have hka := hk5.trans ((Keep.refl (fun _ => False) w5).alloc (.cells #[.string t] 9))
            have hOa : (w5.alloc (.cells #[.string t] 9)).ownsRow H 9 1 (.slice p k c) k ((rezTo B mn k).map Value.string) := by
              have := HOr.out.keep hka fun _ _ => id
              unfold hOwn at this
              rw [rezTo_len B HTl.out hmk] at this
              exact this
            have HDa := HDr.out.keep hka id id
            have hHa : H ≤ w5.heap.size := Nat.le_trans HHr.out hk5.size
            have HBa := HBr.out.trans (hka.below (B := U) (by have := HBr.out.size; have := HU.out; omega) fun _ q => q.elim)
            clear d0 d1 d2 d3 d4 d5 d6 d7 d8 d9 d10
            have hnew : (w5.alloc (.cells #[.string t] 9)).heap[w5.heap.size]? = some (.cells #[.string t] 9) := Go.heap_alloc_new w5 _
            go_wp2_with (at_builtin; refine wpList_append_lies _ rfl _ _ _ rfl H 9 i0 (.string ⟨#[]⟩) 1 16 Tryd.underlying49 hif hz0 hzs hzb rfl (by omega) _ k ((rezTo B mn k).map Value.string) rfl hOa ⟨w5.heap.size, 0, none⟩ 1 1 [.string t] rfl rfl (World.news_of_block (cs := #[.string t]) (t := 9) (fr := (0, 0)) hnew) (by simp [Value.oneCell']) (by omega) (by unfold maxLen; omega) (by omega) (by simp; omega) _ rfl ?_)
            intro g cap w6 hown6 hgrow hat hlt6
            have hkg := keep_grownBy hgrow
            have hgb : ∀ j, Value.ownBlock (.slice p k c) = some j → H ≤ j := fun j hj => (hOa.lt j hj).1
            have HO6 := Pin.Aside.mk (show hOwn w6 H (.slice (some ⟨g, 0, none⟩) (k + 1) cap) (rezTo B mn (k + 1)) by
              unfold hOwn
              rw [rezTo_len B HTl.out (by omega), rezTo_succ B hmk, List.map_append, ht]
              exact hown6)
            have HD6 := Pin.Aside.mk (HDa.keep hkg (fun q => by have := hgb _ q; omega) (fun q => by have := hgb _ q; omega))
            have HB6 := Pin.Aside.mk (HBa.trans (hkg.below (B := U) (by have := HBa.size; have := HU.out; omega) (fun j q => by have := hgb _ q; have := HUH.out; omega)))
            have HH6 := Pin.Aside.mk (show H ≤ w6.heap.size by have := hkg.size; have := (Keep.refl (fun _ => False) w5).alloc (.cells #[.string t] 9) |>.size; omega)
            clear hOa HDa HBa hnew hgrow hkg hgb hown6 hat hka hk5 hb5
            go_wp2_with fail
            go_roundw
            case rel => exact ⟨k + 1, some ⟨g, 0, none⟩, cap, by omega, by omega, rfl, HO6, HD6, HB6, HH6⟩
            case measure => simp [slen]; omega
          · obtain rfl : k = m := by omega
            have hk0 : ¬ (k : Int) < x.e.many := by omega
            have c0 := HDr.out.z0
            have c1 := HDr.out.z1
            have f0 := HDr.out.g0
            have f1 := HDr.out.g1
            go_wp2_with fail
            have hkz := ((Keep.refl (fun k => k = Z) wr).setCell (p := ⟨Z, 0, none⟩) (.inl rfl) (.int .i64 0)).setCell (p := ⟨Z, 1, none⟩) (.inl rfl) (.string ⟨#[]⟩)
            refine bodyPost_ret (v := .tuple #[.slice p k c, .agg #[.int .i64 0, .string ⟨#[]⟩]]) (by simp [results, Tryd.results18, go_sem, c0, c1]) rfl ?_
            refine ⟨_, by rw [HDo.out], by rw [HDo.out]; exact (HOr.out.keep' hkz (fun k q => by show ¬ k = Z; omega)).blk, .inr (fun p n c q b o q2 => by have := HOr.out.fresh p n c q b o q2; have := HUH.out; have := HU.out; omega), ?_⟩
            rw [HU.out]
            exact HBr.out.trans (hkz.below (B := U) (by have := HBr.out.size; have := HU.out; omega) (by rintro k rfl; omega))
    · by_cases hbn : hBounds n x.e 1 = true
      · obtain ⟨i, hi⟩ : ∃ i : Nat, (i : Int) = x.e.block := ⟨x.e.block.toNat, by have := HX.out.block; omega⟩
        have hin : i < B.length := by
          unfold hBounds at hbn
          rw [Bool.and_eq_true] at hbn
          have h1 := of_decide_eq_true hbn.1
          have h2 := of_decide_eq_true hbn.2
          rw [HN.out]; omega
        have hse := str_beq
        obtain ⟨y, hy⟩ : ∃ y, B[i]? = some y := ⟨B[i], List.getElem?_eq_getElem hin⟩
        have hgd : B.getD x.e.block.toNat ⟨#[]⟩ = y := by rw [show x.e.block.toNat = i by omega, List.getD, hy]; rfl
        obtain ⟨b, o, hva, hcy⟩ : ∃ b o, va = some ⟨b, o, none⟩ ∧ w3.cell? ⟨b, o + x.e.block.toNat, none⟩ = some (.string y) := by
          rw [show x.e.block.toNat = i by omega]
          rcases HBl.out.of with ⟨_, q⟩ | ⟨b, o, c, q, _, _, q4⟩
          · rw [q] at hin; exact absurd hin (Nat.not_lt_zero _)
          · injection q with q; exact ⟨b, o, q, q4 i y hy⟩
        subst hva
        have hi0 : (0 : Int) ≤ x.e.block := by omega
        have hi1 : x.e.block < (n : Int) := by rw [HN.out] at hin; omega
        have HWh := Pin.Aside.mk (fun W => hi_whole x.e.old (by omega) W)
        obtain ⟨t, ht⟩ : ∃ t, hWhole x.e.old = t := ⟨_, rfl⟩
        rw [ht] at HWh
        go_wp2_with fail
        refine (HWh.out _).mono ?_
        rintro u w4 ⟨rfl, hb4⟩
        have hk4 : Keep (fun _ => False) w3 w4 := Keep.of_below hb4 fun _ q _ => q
        clear d0 d1 d2 d3 d4 d5 d6 d7 d8 d9 d10
        replace HD := Pin.Aside.mk (HD.out.keep hk4 id id)
        replace HBl := Pin.Aside.mk (HBl.out.keep hk4)
        replace hb := hb.trans (hb4.mono (by have := hb.size; have := HU.out; omega))
        clear hk4 hb4 hcy HWh
        have c0 := HD.out.z0
        have c1 := HD.out.z1
        have f0 := HD.out.g0
        have f1 := HD.out.g1
        obtain ⟨e0, e1, e2, e3, e4, e5, e6, e7, e8, e9, e10⟩ := HD.out.cells
        by_cases hyt : y = t
        · have hyd : decide (y = t) = true := decide_eq_true hyt
          have HDo : Pin.Aside (hdo B x = (B.set i (hWhole x.e.data), 0, ⟨#[]⟩)) := Pin.Aside.mk (by
            rw [HDo0.out, if_neg, if_neg (by omega), if_neg (by omega), if_neg (by omega), if_neg (by rintro ⟨_, q⟩; rw [hgd, ht] at q; exact q hyt), show x.e.block.toNat = i by omega]
            rintro (⟨_, q⟩ | ⟨q, _⟩ | ⟨q, _⟩)
            · rw [hbn] at q; cases q
            · omega
            · omega)
          have HSet := Pin.Aside.mk (hi_set B (by rw [HN.out]; exact hB) i hin x.e.data (by omega) (.slice (some ⟨b, o, none⟩) n vc) w4 HBl.out)
          rw [hi] at HSet
          have hEl4 : E < w4.heap.size := World.block_lt_of_cell? _ _ e0
          clear hi hin hgd hy
          subst hyt
          go_wp2_with fail
          refine HSet.out.mono ?_
          rintro u w5 ⟨v', rfl, hV4, hfr, hb4⟩
          clear e0 e1 e2 e3 e4 e5 e6 e7 e8 e9 e10 c0 c1 f0 f1
          have hk4 : Keep (fun _ => False) w4 w5 := Keep.of_below hb4 fun _ q _ => q
          replace HD := Pin.Aside.mk (HD.out.keep hk4 id id)
          replace hb := hb.trans (hb4.mono (by have := hb.size; have := HU.out; omega))
          obtain ⟨va', vn', vc', rfl⟩ : ∃ a n c, v' = .slice a n c := by
            rcases hV4.of with ⟨q, _⟩ | ⟨b, o, c, q, _⟩
            · exact ⟨_, _, _, q⟩
            · exact ⟨_, _, _, q⟩
          have HV4 := Pin.Aside.mk hV4
          have HFr := Pin.Aside.mk (hfr _ _ _ rfl)
          clear hk4 hb4 hV4 hfr HSet
          have c0 := HD.out.z0
          have c1 := HD.out.z1
          have f0 := HD.out.g0
          have f1 := HD.out.g1
          go_wp2_with fail
          have hkz := ((Keep.refl (fun k => k = Z) w5).setCell (p := ⟨Z, 0, none⟩) (.inl rfl) (.int .i64 0)).setCell (p := ⟨Z, 1, none⟩) (.inl rfl) (.string ⟨#[]⟩)
          refine bodyPost_ret (v := .tuple #[.slice va' vn' vc', .agg #[.int .i64 0, .string ⟨#[]⟩]]) (by simp [results, Tryd.results18, go_sem, c0, c1]) rfl ?_
          refine ⟨_, by rw [HDo.out], by rw [HDo.out]; exact HV4.out.keepS hkz (fun b o q => by have := HFr.out b o q; show ¬ b = Z; omega), .inr (fun p n c q b o q2 => by injection q with q; rw [q2] at q; have := HFr.out b o q; have := hb.size; have := HU.out; omega), ?_⟩
          rw [HU.out]
          exact hb.trans (hkz.below (B := U) (by have := hb.size; have := HU.out; omega) (by rintro k rfl; omega))
        · have hyd : decide (y = t) = false := decide_eq_false hyt
          have HDo : Pin.Aside (hdo B x = (B, 11, y)) := Pin.Aside.mk (by
            rw [HDo0.out, if_neg, if_neg (by omega), if_neg (by omega), if_neg (by omega), if_pos ⟨hk, by rw [hgd, ht]; exact hyt⟩, hgd]
            rintro (⟨_, q⟩ | ⟨q, _⟩ | ⟨q, _⟩)
            · rw [hbn] at q; cases q
            · omega
            · omega)
          go_wp2_with fail
          have hkz := ((Keep.refl (fun k => k = Z) w4).setCell (p := ⟨Z, 0, none⟩) (.inl rfl) (.int .i64 11)).setCell (p := ⟨Z, 1, none⟩) (.inl rfl) (.string y)
          refine bodyPost_ret (v := .tuple #[.slice (some ⟨b, o, none⟩) n vc, .agg #[.int .i64 11, .string y]]) (by simp [results, Tryd.results18, go_sem, c0, c1]) rfl ?_
          refine ⟨_, by rw [HDo.out], by rw [HDo.out]; exact HBl.out.keepS hkz (fun b o q => by have := HVa.out b o q; have := HU.out; show ¬ b = Z; omega), .inl rfl, ?_⟩
          rw [HU.out]
          exact hb.trans (hkz.below (B := U) (by have := hb.size; have := HU.out; omega) (by rintro k rfl; omega))
      · have hbf : hBounds n x.e 1 = false := by simpa using hbn
        have HDo : Pin.Aside (hdo B x = (B, 5, ⟨#[]⟩)) := Pin.Aside.mk (by rw [HDo0.out, if_pos (.inl ⟨.inr hk, hbf⟩)])
        clear hbn
        go_wp2_with fail
        refine (hi_wrong (.slice va n vc) 5 _ ⟨_, _, _, rfl⟩).mono ?_
        rintro u w4 ⟨rfl, hb4⟩
        clear d0 d1 d2 d3 d4 d5 d6 d7 d8 d9 d10
        have hk4 : Keep (fun _ => False) w3 w4 := Keep.of_below hb4 fun _ q _ => q
        replace HD := Pin.Aside.mk (HD.out.keep hk4 id id)
        replace HBl := Pin.Aside.mk (HBl.out.keep hk4)
        replace hb := hb.trans (hb4.mono (by have := hb.size; have := HU.out; omega))
        clear hk4 hb4
        have c0 := HD.out.z0
        have c1 := HD.out.z1
        have f0 := HD.out.g0
        have f1 := HD.out.g1
        go_wp2_with fail
        have hkz := ((Keep.refl (fun k => k = Z) w4).setCell (p := ⟨Z, 0, none⟩) (.inl rfl) (.int .i64 5)).setCell (p := ⟨Z, 1, none⟩) (.inl rfl) (.string ⟨#[]⟩)
        refine bodyPost_ret (v := .tuple #[.slice va n vc, .agg #[.int .i64 5, .string ⟨#[]⟩]]) (by simp [results, Tryd.results18, go_sem, c0, c1]) rfl ?_
        refine ⟨_, by rw [HDo.out], by rw [HDo.out]; exact HBl.out.keepS hkz (fun b o q => by have := HVa.out b o q; have := HU.out; show ¬ b = Z; omega), .inl rfl, ?_⟩
        rw [HU.out]
        exact hb.trans (hkz.below (B := U) (by have := hb.size; have := HU.out; omega) (by rintro k rfl; omega))
    · by_cases hbn : hBounds n x.e x.e.many = true
      · obtain ⟨i, hi⟩ : ∃ i : Nat, (i : Int) = x.e.block := ⟨x.e.block.toNat, by have := HX.out.block; omega⟩
        obtain ⟨m, hm⟩ : ∃ i : Nat, (i : Int) = x.e.many := ⟨x.e.many.toNat, by have := HX.out.many; omega⟩
        have him : i + m ≤ n := by
          unfold hBounds at hbn
          rw [Bool.and_eq_true] at hbn
          have h1 := of_decide_eq_true hbn.1
          have h2 := of_decide_eq_true hbn.2
          omega
        have hadd : IntKind.u64.wrap (x.e.block + x.e.many) = x.e.block + x.e.many := by rw [IntKind.wrap_u64]; omega
        have hb0 : 0 ≤ x.e.block := by omega
        have hb1 : x.e.block ≤ x.e.block + x.e.many := by omega
        have hb2 : x.e.block + x.e.many ≤ (n : Int) := by omega
        have HDo : Pin.Aside (hdo B x = (B, 0, hJoin ((B.drop i).take m))) := Pin.Aside.mk (by
          rw [HDo0.out, if_neg, if_pos hk, show x.e.block.toNat = i by omega, show x.e.many.toNat = m by omega]
          rintro (⟨q, _⟩ | ⟨_, q⟩ | ⟨q, _⟩)
          · omega
          · rw [hbn] at q; cases q
          · omega)
        obtain ⟨T, hT⟩ : ∃ T, hJoin ((B.drop i).take m) = T := ⟨_, rfl⟩
        rw [hT] at HDo
        rcases HBl.out.of with ⟨hnil, hB0⟩ | ⟨b, o, c, hsl, hc, hbl, hcell⟩
        · injection hnil with q1 q2 q3
          have hvc : x.e.block + x.e.many ≤ (vc : Int) := by omega
          have hT0 : T = ⟨#[]⟩ := by rw [← hT, hB0]; simp [hJoin]
          have hl0 : (x.e.block + x.e.many).toNat - x.e.block.toNat = 0 := by omega
          have HJ : Pin.Aside (Calls Tryd.prog 24 #[.slice none ((x.e.block + x.e.many).toNat - x.e.block.toNat) (vc - x.e.block.toNat), .string ⟨#[]⟩] w3 fun e w' => e = .returned (.string T) ∧ Below w3.heap.size w3 w') := Pin.Aside.mk (by
            rw [hl0, hT0]
            exact (YtnilfjkodlmenaaDoorSh.strings_Join_none none (vc - x.e.block.toNat) ⟨#[]⟩ w3).mono (by rintro e w' ⟨rfl, rfl⟩; exact ⟨rfl, Below.refl _ _⟩))
          subst q1
          clear q2 q3 hi hm hT hl0 hT0
          go_wp2_with fail
          refine HJ.out.mono ?_
          rintro u w4 ⟨rfl, hb4⟩
          clear d0 d1 d2 d3 d4 d5 d6 d7 d8 d9 d10
          have hk4 : Keep (fun _ => False) w3 w4 := Keep.of_below hb4 fun _ q _ => q
          replace HD := Pin.Aside.mk (HD.out.keep hk4 id id)
          replace HBl := Pin.Aside.mk (HBl.out.keep hk4)
          replace hb := hb.trans (hb4.mono (by have := hb.size; have := HU.out; omega))
          clear hk4 hb4 HJ
          have c0 := HD.out.z0
          have c1 := HD.out.z1
          have f0 := HD.out.g0
          have f1 := HD.out.g1
          go_wp2_with fail
          have hkz := ((Keep.refl (fun k => k = Z) w4).setCell (p := ⟨Z, 0, none⟩) (.inl rfl) (.int .i64 0)).setCell (p := ⟨Z, 1, none⟩) (.inl rfl) (.string T)
          refine bodyPost_ret (v := .tuple #[.slice none n vc, .agg #[.int .i64 0, .string T]]) (by simp [results, Tryd.results18, go_sem, c0, c1]) rfl ?_
          refine ⟨_, by rw [HDo.out], by rw [HDo.out]; exact HBl.out.keepS hkz (fun b o q => by have := HVa.out b o q; have := HU.out; show ¬ b = Z; omega), .inl rfl, ?_⟩
          rw [HU.out]
          exact hb.trans (hkz.below (B := U) (by have := hb.size; have := HU.out; omega) (by rintro k rfl; omega))
        · injection hsl with q1 q2 q3
          have hvc : x.e.block + x.e.many ≤ (vc : Int) := by rw [HN.out] at hc; omega
          have hnone : m = 0 → T = ⟨#[]⟩ := fun h => by rw [← hT, h, List.take_zero]; rfl
          have hxl : ((B.drop i).take m).length = m := by rw [List.length_take, List.length_drop, HN.out]; omega
          have hln : (x.e.block + x.e.many).toNat - x.e.block.toNat = m := by omega
          subst q1
          by_cases hcb : vc = x.e.block.toNat
          · have HJ : Pin.Aside (Calls Tryd.prog 24 #[.slice (some ⟨b, o, none⟩) ((x.e.block + x.e.many).toNat - x.e.block.toNat) 0, .string ⟨#[]⟩] w3 fun e w' => e = .returned (.string T) ∧ Below w3.heap.size w3 w') := Pin.Aside.mk (by
              have hm0 : m = 0 := by omega
              rw [hln, hm0, hnone hm0]
              exact (YtnilfjkodlmenaaDoorSh.strings_Join_none (some ⟨b, o, none⟩) 0 ⟨#[]⟩ w3).mono (by rintro e w' ⟨rfl, rfl⟩; exact ⟨rfl, Below.refl _ _⟩))
            clear q2 q3 hi hm hT hln hxl hnone hcell hbl hc
            go_wp2_with fail
            refine HJ.out.mono ?_
            rintro u w4 ⟨rfl, hb4⟩
            clear d0 d1 d2 d3 d4 d5 d6 d7 d8 d9 d10
            have hk4 : Keep (fun _ => False) w3 w4 := Keep.of_below hb4 fun _ q _ => q
            replace HD := Pin.Aside.mk (HD.out.keep hk4 id id)
            replace HBl := Pin.Aside.mk (HBl.out.keep hk4)
            replace hb := hb.trans (hb4.mono (by have := hb.size; have := HU.out; omega))
            clear hk4 hb4 HJ
            have c0 := HD.out.z0
            have c1 := HD.out.z1
            have f0 := HD.out.g0
            have f1 := HD.out.g1
            go_wp2_with fail
            have hkz := ((Keep.refl (fun k => k = Z) w4).setCell (p := ⟨Z, 0, none⟩) (.inl rfl) (.int .i64 0)).setCell (p := ⟨Z, 1, none⟩) (.inl rfl) (.string T)
            refine bodyPost_ret (v := .tuple #[.slice (some ⟨b, o, none⟩) n vc, .agg #[.int .i64 0, .string T]]) (by simp [results, Tryd.results18, go_sem, c0, c1] <;> exact hcb.symm) rfl ?_
            refine ⟨_, by rw [HDo.out], by rw [HDo.out]; exact HBl.out.keepS hkz (fun b o q => by have := HVa.out b o q; have := HU.out; show ¬ b = Z; omega), .inl rfl, ?_⟩
            rw [HU.out]
            exact hb.trans (hkz.below (B := U) (by have := hb.size; have := HU.out; omega) (by rintro k rfl; omega))
          · have HJ : Pin.Aside (Calls Tryd.prog 24 #[.slice (some ⟨b, o + x.e.block.toNat, none⟩) ((x.e.block + x.e.many).toNat - x.e.block.toNat) (vc - x.e.block.toNat), .string ⟨#[]⟩] w3 fun e w' => e = .returned (.string T) ∧ Below w3.heap.size w3 w') := Pin.Aside.mk (by
              have hbi : x.e.block.toNat = i := by omega
              rw [hln, hbi]
              have h64' : ∀ s ∈ (B.drop i).take m, s.size = 64 := fun s hs => H64.out s (List.mem_of_mem_drop (List.mem_of_mem_take hs))
              have := YtnilfjkodlmenaaDoorSh.strings_Join b (o + i) (vc - i) ((B.drop i).take m) ⟨#[]⟩ w3 (fun j y hy => by
                rw [List.getElem?_take] at hy
                split at hy
                · rw [List.getElem?_drop] at hy
                  rw [Nat.add_assoc]
                  exact hcell (i + j) y hy
                · cases hy) hbl (by omega) (by rw [hxl]; rw [HN.out] at hc; omega) (by
                  show (Lib.join (((B.drop i).take m).map (·.data.toList)) []).length ≤ _
                  rw [join_none, flat_len _ h64', hxl]; omega)
              rw [hxl] at this
              refine this.mono ?_
              rintro e w' ⟨rfl, hb'⟩
              refine ⟨?_, hb'⟩
              rw [← hT]
              exact congrArg (fun s => Ending.returned (Value.string s)) (hJoin_eq ((B.drop i).take m)))
            clear q2 q3 hi hm hT hln hxl hnone hcell hbl hc
            go_wp2_with fail
            refine HJ.out.mono ?_
            rintro u w4 ⟨rfl, hb4⟩
            clear d0 d1 d2 d3 d4 d5 d6 d7 d8 d9 d10
            have hk4 : Keep (fun _ => False) w3 w4 := Keep.of_below hb4 fun _ q _ => q
            replace HD := Pin.Aside.mk (HD.out.keep hk4 id id)
            replace HBl := Pin.Aside.mk (HBl.out.keep hk4)
            replace hb := hb.trans (hb4.mono (by have := hb.size; have := HU.out; omega))
            clear hk4 hb4 HJ
            have c0 := HD.out.z0
            have c1 := HD.out.z1
            have f0 := HD.out.g0
            have f1 := HD.out.g1
            go_wp2_with fail
            have hkz := ((Keep.refl (fun k => k = Z) w4).setCell (p := ⟨Z, 0, none⟩) (.inl rfl) (.int .i64 0)).setCell (p := ⟨Z, 1, none⟩) (.inl rfl) (.string T)
            refine bodyPost_ret (v := .tuple #[.slice (some ⟨b, o, none⟩) n vc, .agg #[.int .i64 0, .string T]]) (by simp [results, Tryd.results18, go_sem, c0, c1]) rfl ?_
            refine ⟨_, by rw [HDo.out], by rw [HDo.out]; exact HBl.out.keepS hkz (fun b o q => by have := HVa.out b o q; have := HU.out; show ¬ b = Z; omega), .inl rfl, ?_⟩
            rw [HU.out]
            exact hb.trans (hkz.below (B := U) (by have := hb.size; have := HU.out; omega) (by rintro k rfl; omega))
      · have hbf : hBounds n x.e x.e.many = false := by simpa using hbn
        have HDo : Pin.Aside (hdo B x = (B, 5, ⟨#[]⟩)) := Pin.Aside.mk (by rw [HDo0.out, if_pos (.inr (.inl ⟨.inr hk, hbf⟩))])
        clear hbn
        go_wp2_with fail
        refine (hi_wrong (.slice va n vc) 5 _ ⟨_, _, _, rfl⟩).mono ?_
        rintro u w4 ⟨rfl, hb4⟩
        clear d0 d1 d2 d3 d4 d5 d6 d7 d8 d9 d10
        have hk4 : Keep (fun _ => False) w3 w4 := Keep.of_below hb4 fun _ q _ => q
        replace HD := Pin.Aside.mk (HD.out.keep hk4 id id)
        replace HBl := Pin.Aside.mk (HBl.out.keep hk4)
        replace hb := hb.trans (hb4.mono (by have := hb.size; have := HU.out; omega))
        clear hk4 hb4
        have c0 := HD.out.z0
        have c1 := HD.out.z1
        have f0 := HD.out.g0
        have f1 := HD.out.g1
        go_wp2_with fail
        have hkz := ((Keep.refl (fun k => k = Z) w4).setCell (p := ⟨Z, 0, none⟩) (.inl rfl) (.int .i64 5)).setCell (p := ⟨Z, 1, none⟩) (.inl rfl) (.string ⟨#[]⟩)
        refine bodyPost_ret (v := .tuple #[.slice va n vc, .agg #[.int .i64 5, .string ⟨#[]⟩]]) (by simp [results, Tryd.results18, go_sem, c0, c1]) rfl ?_
        refine ⟨_, by rw [HDo.out], by rw [HDo.out]; exact HBl.out.keepS hkz (fun b o q => by have := HVa.out b o q; have := HU.out; show ¬ b = Z; omega), .inl rfl, ?_⟩
        rw [HU.out]
        exact hb.trans (hkz.below (B := U) (by have := hb.size; have := HU.out; omega) (by rintro k rfl; omega))
end Go.Proofs.YtnilfjkodlmenaaDoor
