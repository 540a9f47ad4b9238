/- entry.Right: whether an entry may be. -/
import Derived.Test.YthlmigbimeldbaaEnV
import Derived.Test.YthlmigbimeldbaaReg
set_option maxRecDepth 16000
namespace Go.Pin
open Go.RowKit
set_option linter.unusedVariables false
set_option linter.unusedSimpArgs false
theorem FieldsAt.new7 (w : World) (T : TypeId) (x0 x1 x2 x3 x4 x5 x6 : UInt8 × Bool × Bool) : FieldsAt (w.alloc (.cells #[.string ⟨#[x0.1]⟩, .bool x0.2.1, .bool x0.2.2, .string ⟨#[x1.1]⟩, .bool x1.2.1, .bool x1.2.2, .string ⟨#[x2.1]⟩, .bool x2.2.1, .bool x2.2.2, .string ⟨#[x3.1]⟩, .bool x3.2.1, .bool x3.2.2, .string ⟨#[x4.1]⟩, .bool x4.2.1, .bool x4.2.2, .string ⟨#[x5.1]⟩, .bool x5.2.1, .bool x5.2.2, .string ⟨#[x6.1]⟩, .bool x6.2.1, .bool x6.2.2] T)) w.heap.size [x0, x1, x2, x3, x4, x5, x6] := by
  refine ⟨fun j x hx => ?_⟩
  have hj : j < 7 := (List.getElem?_eq_some_iff.1 hx).1
  have hc : j = 0 ∨ j = 1 ∨ j = 2 ∨ j = 3 ∨ j = 4 ∨ j = 5 ∨ j = 6 := by omega
  rcases hc with rfl | rfl | rfl | rfl | rfl | rfl | rfl <;> cases hx <;> exact ⟨World.cell?_alloc_new w _ _ _, World.cell?_alloc_new w _ _ _, World.cell?_alloc_new w _ _ _⟩
/-- The cells of an entry lie from here on. -/
structure EnAt (w : World) (A o : Nat) (e : En) : Prop where
  c0 : w.cell? ⟨A, o, none⟩ = some (.int .u64 e.term)
  c1 : w.cell? ⟨A, o + 1, none⟩ = some (.int .u64 e.index)
  c2 : w.cell? ⟨A, o + 2, none⟩ = some (.int .i64 e.kind)
  c3 : w.cell? ⟨A, o + 3, none⟩ = some (.int .u64 e.client)
  c4 : w.cell? ⟨A, o + 4, none⟩ = some (.int .u64 e.seq)
  c5 : w.cell? ⟨A, o + 5, none⟩ = some (.int .u64 e.block)
  c6 : w.cell? ⟨A, o + 6, none⟩ = some (.int .u64 e.many)
  c7 : w.cell? ⟨A, o + 7, none⟩ = some (.int .i64 e.node)
  c8 : w.cell? ⟨A, o + 8, none⟩ = some (.int .i64 e.level)
  c9 : w.cell? ⟨A, o + 9, none⟩ = some (.string e.data)
  c10 : w.cell? ⟨A, o + 10, none⟩ = some (.string e.old)
theorem EnAt.keep {S : Nat → Prop} {a w : World} {A o : Nat} {e : En} (h : EnAt a A o e) (hk : Keep S a w) (hn : ¬ S A) : EnAt w A o e :=
  ⟨hk.cell h.c0 hn, hk.cell h.c1 hn, hk.cell h.c2 hn, hk.cell h.c3 hn, hk.cell h.c4 hn, hk.cell h.c5 hn, hk.cell h.c6 hn, hk.cell h.c7 hn, hk.cell h.c8 hn, hk.cell h.c9 hn, hk.cell h.c10 hn⟩
abbrev En.cells (e : En) : Array Value := #[.int .u64 e.term, .int .u64 e.index, .int .i64 e.kind, .int .u64 e.client, .int .u64 e.seq, .int .u64 e.block, .int .u64 e.many, .int .i64 e.node, .int .i64 e.level, .string e.data, .string e.old]
theorem EnAt.new (w : World) (T : TypeId) (e : En) : EnAt (w.alloc (.cells e.cells T)) w.heap.size 0 e := by
  constructor <;> exact World.cell?_alloc_new w _ _ _
/-- Every number is of its size. -/
structure En.ok (e : En) : Prop where
  term : 0 ≤ e.term ∧ e.term ≤ 18446744073709551615
  index : 0 ≤ e.index ∧ e.index ≤ 18446744073709551615
  kind : -9223372036854775808 ≤ e.kind ∧ e.kind ≤ 9223372036854775807
  client : 0 ≤ e.client ∧ e.client ≤ 18446744073709551615
  seq : 0 ≤ e.seq ∧ e.seq ≤ 18446744073709551615
  block : 0 ≤ e.block ∧ e.block ≤ 18446744073709551615
  many : 0 ≤ e.many ∧ e.many ≤ 18446744073709551615
  node : -9223372036854775808 ≤ e.node ∧ e.node ≤ 9223372036854775807
  level : -9223372036854775808 ≤ e.level ∧ e.level ≤ 9223372036854775807
  data : e.data.size ≤ 9223372036854775807
  old : e.old.size ≤ 9223372036854775807
theorem enFit_bad (s : ByteArray) (c : UInt8) (th ri : Bool) : enFit s c th ri = !enBad s (c, th, ri) := by
  unfold enFit enBad; split <;> simp
theorem text_ne (d : ByteArray) : decide (d ≠ ⟨#[]⟩) = !d.toList.isEmpty := by
  have h : d.toList.isEmpty = decide (d = ⟨#[]⟩) := by
    have := str_beq d ⟨#[]⟩
    have e0 : (⟨#[]⟩ : ByteArray).toList = [] := by decide +kernel
    rw [← this, e0]
    cases hl : d.toList with
    | nil => rfl
    | cons a l => rfl
  rw [h]; simp
theorem text_eq (d : ByteArray) : decide (d = ⟨#[]⟩) = d.toList.isEmpty := by
  have h := text_ne d
  simp only [decide_not] at h
  simpa using h
theorem En.right_of {e : En} {s : ByteArray} (hs : enF e.kind = (s, true)) (h1 : 0 < e.term) (h2 : 0 < e.index) (L : List (UInt8 × Bool × Bool))
    (hL : L = [(99, decide (0 < e.client) || decide (0 < e.seq), decide (0 < e.client)), (98, decide (0 < e.block), decide (e.block < 4294967296)), (109, decide (0 < e.many), decide (e.many < 4294967296)), (110, decide (e.node ≠ 0), decide (1 ≤ e.node ∧ e.node ≤ 7)), (108, decide (e.level ≠ 0), decide (e.level = 1 ∨ e.level = 2)), (100, decide (e.data ≠ ⟨#[]⟩), decide (e.data.size ≤ 64)), (111, decide (e.old ≠ ⟨#[]⟩), decide (e.old.size ≤ 64))]) :
    e.right = !L.any (enBad s) := by
  subst hL
  unfold En.right
  rw [hs]
  simp only [h1, h2, decide_true, Bool.true_and, enFit_bad, List.any_cons, List.any_nil, Bool.or_false, Bool.not_or, Bool.and_assoc]
end Go.Pin
namespace Go.Proofs.Ythlmigbimeldbaa
open Go.RowKit Go.Pin
set_option linter.unusedVariables false
set_option linter.unusedSimpArgs false
set_option maxHeartbeats 3200000 in
theorem en_right_0 (e : En) (ho : e.ok) (s : ByteArray) (hs : enF e.kind = (s, false)) (w : World) :
    Calls Try.prog 58 #[.agg e.cells] w fun x w' => x = .returned (.bool e.right) ∧ Below w.heap.size w w' := by
  have hse := str_beq
  have Hf := Pin.Aside.mk (fun W => en_fields e.kind W)
  have Hs1 := Pin.Aside.mk (fun W => en_small e.block ho.block.1 ho.block.2 W)
  have Hs2 := Pin.Aside.mk (fun W => en_small e.many ho.many.1 ho.many.2 W)
  have Hn0 := fun W => en_node e.node W
  simp only [Bool.decide_and] at Hn0
  have Hn := Pin.Aside.mk Hn0
  clear Hn0
  have hk := (Keep.refl (fun _ => False) w).alloc (.cells e.cells 32)
  have hb := hk.below (Nat.le_refl _) fun _ q => q.elim
  have hE := EnAt.new w 32 e
  have hz : ((w.alloc (.cells e.cells 32)).heap.size) = w.heap.size + 1 := by simp
  clear hk
  rw [hs] at Hf
  have Hs := Pin.Aside.mk hs
  clear hs
  have hd1 := ho.data
  have hd2 := ho.old
  obtain ⟨term, index, kind, client, seq, block, many, node, level, data, old⟩ := e
  dsimp only [En.cells] at *
  go_enter Try.func58, Try.ntmps58
  go_upto_region 1 with fail
  generalize w.alloc _ = wa at *
  generalize hB : w.heap.size = B at *
  obtain ⟨c0, c1, c2, c3, c4, c5, c6, c7, c8, c9, c10⟩ := hE
  dsimp only at c0 c1 c2 c3 c4 c5 c6 c7 c8 c9 c10
  simp only [Nat.zero_add] at c0 c1 c2 c3 c4 c5 c6 c7 c8 c9 c10
  go_wp2_with fail
  refine (Hf.out _).mono ?_
  rintro x w1 ⟨rfl, hbb⟩
  replace hb := hb.trans (hbb.mono (by omega))
  have hkk : Keep (fun _ => False) wa w1 := Keep.of_below hbb fun _ q _ => q
  replace c0 := hkk.cell c0 id
  replace c1 := hkk.cell c1 id
  replace c2 := hkk.cell c2 id
  replace c3 := hkk.cell c3 id
  replace c4 := hkk.cell c4 id
  replace c5 := hkk.cell c5 id
  replace c6 := hkk.cell c6 id
  replace c7 := hkk.cell c7 id
  replace c8 := hkk.cell c8 id
  replace c9 := hkk.cell c9 id
  replace c10 := hkk.cell c10 id
  clear hkk hbb hz Hf
  go_upto_region 2 with fail
  simp only [List.append_eq, List.cons_append, List.nil_append]
  clear c0 c1 c2 c3 c4 c5 c6 c7 c8 c9 c10
  refine wp_region_keep (fun _ => False) (by kernel_rfl) (by kernel_rfl) ?_
  repeat (go_big_quiet_step (fail))
  refine wpQuiet_nil ?_
  intro s4
  replace hb := hb.trans (s4.below.mono (by rw [← hB]; exact hb.size))
  go_wp2_with fail
  go_ret
  exact ⟨by simp only [En.right, Hs.out]; simp, by first | exact hb | (rw [hB]; exact hb)⟩
set_option maxHeartbeats 3200000 in
theorem en_right_1 (e : En) (ho : e.ok) (s : ByteArray) (hs : enF e.kind = (s, true)) (h1 : ¬ 0 < e.term) (w : World) :
    Calls Try.prog 58 #[.agg e.cells] w fun x w' => x = .returned (.bool e.right) ∧ Below w.heap.size w w' := by
  have hse := str_beq
  have Hf := Pin.Aside.mk (fun W => en_fields e.kind W)
  have Hs1 := Pin.Aside.mk (fun W => en_small e.block ho.block.1 ho.block.2 W)
  have Hs2 := Pin.Aside.mk (fun W => en_small e.many ho.many.1 ho.many.2 W)
  have Hn0 := fun W => en_node e.node W
  simp only [Bool.decide_and] at Hn0
  have Hn := Pin.Aside.mk Hn0
  clear Hn0
  have hk := (Keep.refl (fun _ => False) w).alloc (.cells e.cells 32)
  have hb := hk.below (Nat.le_refl _) fun _ q => q.elim
  have hE := EnAt.new w 32 e
  have hz : ((w.alloc (.cells e.cells 32)).heap.size) = w.heap.size + 1 := by simp
  clear hk
  rw [hs] at Hf
  have Hs := Pin.Aside.mk hs
  clear hs
  have hd1 := ho.data
  have hd2 := ho.old
  obtain ⟨term, index, kind, client, seq, block, many, node, level, data, old⟩ := e
  dsimp only [En.cells] at *
  go_enter Try.func58, Try.ntmps58
  go_upto_region 1 with fail
  generalize w.alloc _ = wa at *
  generalize hB : w.heap.size = B at *
  obtain ⟨c0, c1, c2, c3, c4, c5, c6, c7, c8, c9, c10⟩ := hE
  dsimp only at c0 c1 c2 c3 c4 c5 c6 c7 c8 c9 c10
  simp only [Nat.zero_add] at c0 c1 c2 c3 c4 c5 c6 c7 c8 c9 c10
  go_wp2_with fail
  refine (Hf.out _).mono ?_
  rintro x w1 ⟨rfl, hbb⟩
  replace hb := hb.trans (hbb.mono (by omega))
  have hkk : Keep (fun _ => False) wa w1 := Keep.of_below hbb fun _ q _ => q
  replace c0 := hkk.cell c0 id
  replace c1 := hkk.cell c1 id
  replace c2 := hkk.cell c2 id
  replace c3 := hkk.cell c3 id
  replace c4 := hkk.cell c4 id
  replace c5 := hkk.cell c5 id
  replace c6 := hkk.cell c6 id
  replace c7 := hkk.cell c7 id
  replace c8 := hkk.cell c8 id
  replace c9 := hkk.cell c9 id
  replace c10 := hkk.cell c10 id
  clear hkk hbb hz Hf
  go_upto_region 2 with fail
  simp only [List.append_eq, List.cons_append, List.nil_append]
  try dsimp only at h1
  have k0 : ∀ s' : KW (fun _ => False) w1, s'.w.cell? ⟨B, 0, none⟩ = some (.int .u64 term) := fun s' => s'.keep.cell c0 id
  have hd1' : decide (0 < term) = false := by simpa using h1
  clear c0 c1 c2 c3 c4 c5 c6 c7 c8 c9 c10
  refine wp_region_keep (fun _ => False) (by kernel_rfl) (by kernel_rfl) ?_
  repeat (go_big_quiet_step (fail))
  refine wpQuiet_nil ?_
  intro s4
  replace hb := hb.trans (s4.below.mono (by rw [← hB]; exact hb.size))
  go_wp2_with fail
  go_ret
  exact ⟨by simp only [En.right, Hs.out, hd1']; simp, by first | exact hb | (rw [hB]; exact hb)⟩
set_option maxHeartbeats 3200000 in
theorem en_right_2 (e : En) (ho : e.ok) (s : ByteArray) (hs : enF e.kind = (s, true)) (h1 : 0 < e.term) (h2 : ¬ 0 < e.index) (w : World) :
    Calls Try.prog 58 #[.agg e.cells] w fun x w' => x = .returned (.bool e.right) ∧ Below w.heap.size w w' := by
  have hse := str_beq
  have Hf := Pin.Aside.mk (fun W => en_fields e.kind W)
  have Hs1 := Pin.Aside.mk (fun W => en_small e.block ho.block.1 ho.block.2 W)
  have Hs2 := Pin.Aside.mk (fun W => en_small e.many ho.many.1 ho.many.2 W)
  have Hn0 := fun W => en_node e.node W
  simp only [Bool.decide_and] at Hn0
  have Hn := Pin.Aside.mk Hn0
  clear Hn0
  have hk := (Keep.refl (fun _ => False) w).alloc (.cells e.cells 32)
  have hb := hk.below (Nat.le_refl _) fun _ q => q.elim
  have hE := EnAt.new w 32 e
  have hz : ((w.alloc (.cells e.cells 32)).heap.size) = w.heap.size + 1 := by simp
  clear hk
  rw [hs] at Hf
  have Hs := Pin.Aside.mk hs
  clear hs
  have hd1 := ho.data
  have hd2 := ho.old
  obtain ⟨term, index, kind, client, seq, block, many, node, level, data, old⟩ := e
  dsimp only [En.cells] at *
  go_enter Try.func58, Try.ntmps58
  go_upto_region 1 with fail
  generalize w.alloc _ = wa at *
  generalize hB : w.heap.size = B at *
  obtain ⟨c0, c1, c2, c3, c4, c5, c6, c7, c8, c9, c10⟩ := hE
  dsimp only at c0 c1 c2 c3 c4 c5 c6 c7 c8 c9 c10
  simp only [Nat.zero_add] at c0 c1 c2 c3 c4 c5 c6 c7 c8 c9 c10
  go_wp2_with fail
  refine (Hf.out _).mono ?_
  rintro x w1 ⟨rfl, hbb⟩
  replace hb := hb.trans (hbb.mono (by omega))
  have hkk : Keep (fun _ => False) wa w1 := Keep.of_below hbb fun _ q _ => q
  replace c0 := hkk.cell c0 id
  replace c1 := hkk.cell c1 id
  replace c2 := hkk.cell c2 id
  replace c3 := hkk.cell c3 id
  replace c4 := hkk.cell c4 id
  replace c5 := hkk.cell c5 id
  replace c6 := hkk.cell c6 id
  replace c7 := hkk.cell c7 id
  replace c8 := hkk.cell c8 id
  replace c9 := hkk.cell c9 id
  replace c10 := hkk.cell c10 id
  clear hkk hbb hz Hf
  go_upto_region 2 with fail
  simp only [List.append_eq, List.cons_append, List.nil_append]
  try dsimp only at h1 h2
  have k0 : ∀ s' : KW (fun _ => False) w1, s'.w.cell? ⟨B, 0, none⟩ = some (.int .u64 term) := fun s' => s'.keep.cell c0 id
  have k1 : ∀ s' : KW (fun _ => False) w1, s'.w.cell? ⟨B, 1, none⟩ = some (.int .u64 index) := fun s' => s'.keep.cell c1 id
  have hd1' : decide (0 < term) = true := by simpa using h1
  have hd2' : decide (0 < index) = false := by simpa using h2
  clear c0 c1 c2 c3 c4 c5 c6 c7 c8 c9 c10
  refine wp_region_keep (fun _ => False) (by kernel_rfl) (by kernel_rfl) ?_
  repeat (go_big_quiet_step (fail))
  refine wpQuiet_nil ?_
  intro s4
  replace hb := hb.trans (s4.below.mono (by rw [← hB]; exact hb.size))
  go_wp2_with fail
  go_ret
  exact ⟨by simp only [En.right, Hs.out, hd1', hd2']; simp, by first | exact hb | (rw [hB]; exact hb)⟩
set_option maxHeartbeats 3200000 in
theorem en_right_3 (e : En) (ho : e.ok) (s : ByteArray) (hs : enF e.kind = (s, true)) (h1 : 0 < e.term) (h2 : 0 < e.index) (h3 : 0 < e.client) (h4 : e.level = 1) (w : World) :
    Calls Try.prog 58 #[.agg e.cells] w fun x w' => x = .returned (.bool e.right) ∧ Below w.heap.size w w' := by
  have H4 := Pin.Aside.mk h4
  clear h4
  have hse := str_beq
  have Hf := Pin.Aside.mk (fun W => en_fields e.kind W)
  have Hs1 := Pin.Aside.mk (fun W => en_small e.block ho.block.1 ho.block.2 W)
  have Hs2 := Pin.Aside.mk (fun W => en_small e.many ho.many.1 ho.many.2 W)
  have Hn0 := fun W => en_node e.node W
  simp only [Bool.decide_and] at Hn0
  have Hn := Pin.Aside.mk Hn0
  clear Hn0
  have hk := (Keep.refl (fun _ => False) w).alloc (.cells e.cells 32)
  have hb := hk.below (Nat.le_refl _) fun _ q => q.elim
  have hE := EnAt.new w 32 e
  have hz : ((w.alloc (.cells e.cells 32)).heap.size) = w.heap.size + 1 := by simp
  clear hk
  rw [hs] at Hf
  have Hs := Pin.Aside.mk hs
  clear hs
  have hd1 := ho.data
  have hd2 := ho.old
  obtain ⟨term, index, kind, client, seq, block, many, node, level, data, old⟩ := e
  dsimp only [En.cells] at *
  go_enter Try.func58, Try.ntmps58
  go_upto_region 1 with fail
  generalize w.alloc _ = wa at *
  generalize hB : w.heap.size = B at *
  obtain ⟨c0, c1, c2, c3, c4, c5, c6, c7, c8, c9, c10⟩ := hE
  dsimp only at c0 c1 c2 c3 c4 c5 c6 c7 c8 c9 c10
  simp only [Nat.zero_add] at c0 c1 c2 c3 c4 c5 c6 c7 c8 c9 c10
  go_wp2_with fail
  refine (Hf.out _).mono ?_
  rintro x w1 ⟨rfl, hbb⟩
  replace hb := hb.trans (hbb.mono (by omega))
  have hkk : Keep (fun _ => False) wa w1 := Keep.of_below hbb fun _ q _ => q
  replace c0 := hkk.cell c0 id
  replace c1 := hkk.cell c1 id
  replace c2 := hkk.cell c2 id
  replace c3 := hkk.cell c3 id
  replace c4 := hkk.cell c4 id
  replace c5 := hkk.cell c5 id
  replace c6 := hkk.cell c6 id
  replace c7 := hkk.cell c7 id
  replace c8 := hkk.cell c8 id
  replace c9 := hkk.cell c9 id
  replace c10 := hkk.cell c10 id
  clear hkk hbb hz Hf
  go_upto_region 2 with fail
  simp only [List.append_eq, List.cons_append, List.nil_append]
  have h4 := H4.out
  clear H4
  try dsimp only at h1 h2 h3 h4
  have k0 : ∀ s' : KW (fun _ => False) w1, s'.w.cell? ⟨B, 0, none⟩ = some (.int .u64 term) := fun s' => s'.keep.cell c0 id
  have k1 : ∀ s' : KW (fun _ => False) w1, s'.w.cell? ⟨B, 1, none⟩ = some (.int .u64 index) := fun s' => s'.keep.cell c1 id
  have k3 : ∀ s' : KW (fun _ => False) w1, s'.w.cell? ⟨B, 3, none⟩ = some (.int .u64 client) := fun s' => s'.keep.cell c3 id
  have k4 : ∀ s' : KW (fun _ => False) w1, s'.w.cell? ⟨B, 4, none⟩ = some (.int .u64 seq) := fun s' => s'.keep.cell c4 id
  have k5 : ∀ s' : KW (fun _ => False) w1, s'.w.cell? ⟨B, 5, none⟩ = some (.int .u64 block) := fun s' => s'.keep.cell c5 id
  have k6 : ∀ s' : KW (fun _ => False) w1, s'.w.cell? ⟨B, 6, none⟩ = some (.int .u64 many) := fun s' => s'.keep.cell c6 id
  have k7 : ∀ s' : KW (fun _ => False) w1, s'.w.cell? ⟨B, 7, none⟩ = some (.int .i64 node) := fun s' => s'.keep.cell c7 id
  have k8 : ∀ s' : KW (fun _ => False) w1, s'.w.cell? ⟨B, 8, none⟩ = some (.int .i64 level) := fun s' => s'.keep.cell c8 id
  have k9 : ∀ s' : KW (fun _ => False) w1, s'.w.cell? ⟨B, 9, none⟩ = some (.string data) := fun s' => s'.keep.cell c9 id
  have k10 : ∀ s' : KW (fun _ => False) w1, s'.w.cell? ⟨B, 10, none⟩ = some (.string old) := fun s' => s'.keep.cell c10 id
  have hd1' : decide (0 < term) = true := by simpa using h1
  have hd2' : decide (0 < index) = true := by simpa using h2
  clear c0 c1 c2 c3 c4 c5 c6 c7 c8 c9 c10
  subst h4
  refine wp_region_stay (S := fun w' => ∃ s' : KW (fun _ => False) w1, w' = s'.w) 74 (by kernel_rfl) (by simp) (by kernel_rfl) (by kernel_rfl) ⟨⟨w1.drew, (Keep.refl _ w1).drew⟩, rfl⟩ ?_
  simp only [List.take_succ_cons, List.take_zero]
  refine wpStay_quiet 30 _ _ (by kernel_rfl) ?_
  simp only [List.take_succ_cons, List.take_zero, List.drop_succ_cons, List.drop_zero]
  repeat (go_big_quiet_step (fail))
  refine wpQuiet_nil ?_
  refine wpStay_call (.bool (decide (block < 4294967296))) (by rfl) (fun w' hw' => ?_) ?_
  · obtain ⟨s', rfl⟩ := hw'
    unfold Oper.quietAt
    go_simp
    exact Hs1.out _
  simp only [Act.put, List.setIfInBounds_toArray, List.set_cons_zero, List.set_cons_succ]
  refine wpStay_quiet 6 _ _ (by kernel_rfl) ?_
  simp only [List.take_succ_cons, List.take_zero, List.drop_succ_cons, List.drop_zero]
  repeat (go_big_quiet_step (fail))
  refine wpQuiet_nil ?_
  refine wpStay_call (.bool (decide (many < 4294967296))) (by rfl) (fun w' hw' => ?_) ?_
  · obtain ⟨s', rfl⟩ := hw'
    unfold Oper.quietAt
    go_simp
    exact Hs2.out _
  simp only [Act.put, List.setIfInBounds_toArray, List.set_cons_zero, List.set_cons_succ]
  refine wpStay_quiet 6 _ _ (by kernel_rfl) ?_
  simp only [List.take_succ_cons, List.take_zero, List.drop_succ_cons, List.drop_zero]
  repeat (go_big_quiet_step (fail))
  refine wpQuiet_nil ?_
  refine wpStay_call (.bool (decide (1 ≤ node) && decide (node ≤ 7))) (by rfl) (fun w' hw' => ?_) ?_
  · obtain ⟨s', rfl⟩ := hw'
    unfold Oper.quietAt
    go_simp
    exact Hn.out _
  simp only [Act.put, List.setIfInBounds_toArray, List.set_cons_zero, List.set_cons_succ]
  refine wpStay_quiet 29 _ _ (by kernel_rfl) ?_
  simp only [List.take_succ_cons, List.take_zero, List.drop_succ_cons, List.drop_zero]
  repeat (go_big_quiet_step (fail))
  refine wpQuiet_nil ?_
  refine wpStay_nil ?_
  refine wpAnyH_one 74 (by kernel_rfl) rfl (fun K' hK' => ?_)
  go_simp
  have hka : ∀ X, Keep (fun _ => False) w1 ((w1.alloc X).drew) := fun X => ((Keep.refl _ w1).alloc X).drew
  refine hK'.out _ _ ⟨⟨_, hka _⟩, rfl⟩ (fun _ => ?_)
  clear hK' K'
  refine wpAnyH_one 75 (by kernel_rfl) rfl (fun K' hK' => ?_)
  go_simp
  refine (en_fitF s _ 7 [(99, true, true), (98, decide (0 < block), decide (block < 4294967296)), (109, decide (0 < many), decide (many < 4294967296)), (110, node != 0, decide (1 ≤ node) && decide (node ≤ 7)), (108, true, true), (100, !data.toList.isEmpty, decide ((data.size : Int) ≤ 64)), (111, !old.toList.isEmpty, decide ((old.size : Int) ≤ 64))] rfl (by omega) _ ((FieldsAt.new7 w1 _ (99, true, true) (98, decide (0 < block), decide (block < 4294967296)) (109, decide (0 < many), decide (many < 4294967296)) (110, node != 0, decide (1 ≤ node) && decide (node ≤ 7)) (108, true, true) (100, !data.toList.isEmpty, decide ((data.size : Int) ≤ 64)) (111, !old.toList.isEmpty, decide ((old.size : Int) ≤ 64))).keep ((Keep.refl (fun _ => False) _).drew) id)).mono ?_
  rintro e w2 ⟨rfl, hb2⟩
  have hkb := (hka _).trans (Keep.of_below (S := fun _ => False) hb2 (fun _ q _ => q))
  refine hK'.out _ _ ⟨⟨_, hkb⟩, rfl⟩ (fun _ => ?_)
  clear hK' K'
  try simp only [Act.put, List.setIfInBounds_toArray, List.set_cons_zero, List.set_cons_succ]
  refine wpAnyH_one 76 (by kernel_rfl) rfl (fun K' hK' => ?_)
  go_simp
  refine hK'.out _ _ ⟨⟨_, hkb⟩, rfl⟩ (fun _ => ?_)
  clear hK' K'
  refine wpAnyH_one 77 (by kernel_rfl) rfl (fun K' hK' => ?_)
  go_simp
  refine hK'.out _ _ ⟨⟨_, hkb⟩, rfl⟩ (fun _ => ?_)
  clear hK' K'
  refine wpAnyH_done (by kernel_rfl) (NoPanic.normal ?_) _
  have hbz := hb.trans (hkb.below (Nat.le_trans (by omega) hb.size) fun _ q => q.elim)
  clear hka hkb hb2 k0 k1 k3 k4 k5 k6 k7 k8 k9 k10
  go_wp2_with fail
  go_ret
  refine ⟨?_, by first | exact hbz | (rw [hB]; exact hbz)⟩
  rw [En.right_of (e := ⟨term, index, kind, client, seq, block, many, node, _, data, old⟩) Hs.out h1 h2 _ rfl]
  have q1 : (node != 0) = !decide (node = 0) := rfl
  have q2 : decide ((data.size : Int) ≤ 64) = decide (data.size ≤ 64) := by rw [decide_eq_decide]; omega
  have q3 : decide ((old.size : Int) ≤ 64) = decide (old.size ≤ 64) := by rw [decide_eq_decide]; omega
  have q4 : decide (0 < client) = true := by simpa using h3
  simp [text_eq, q1, q2, q3, q4]
set_option maxHeartbeats 3200000 in
theorem en_right_4 (e : En) (ho : e.ok) (s : ByteArray) (hs : enF e.kind = (s, true)) (h1 : 0 < e.term) (h2 : 0 < e.index) (h3 : 0 < e.client) (h4 : ¬ e.level = 1) (w : World) :
    Calls Try.prog 58 #[.agg e.cells] w fun x w' => x = .returned (.bool e.right) ∧ Below w.heap.size w w' := by
  have hse := str_beq
  have Hf := Pin.Aside.mk (fun W => en_fields e.kind W)
  have Hs1 := Pin.Aside.mk (fun W => en_small e.block ho.block.1 ho.block.2 W)
  have Hs2 := Pin.Aside.mk (fun W => en_small e.many ho.many.1 ho.many.2 W)
  have Hn0 := fun W => en_node e.node W
  simp only [Bool.decide_and] at Hn0
  have Hn := Pin.Aside.mk Hn0
  clear Hn0
  have hk := (Keep.refl (fun _ => False) w).alloc (.cells e.cells 32)
  have hb := hk.below (Nat.le_refl _) fun _ q => q.elim
  have hE := EnAt.new w 32 e
  have hz : ((w.alloc (.cells e.cells 32)).heap.size) = w.heap.size + 1 := by simp
  clear hk
  rw [hs] at Hf
  have Hs := Pin.Aside.mk hs
  clear hs
  have hd1 := ho.data
  have hd2 := ho.old
  obtain ⟨term, index, kind, client, seq, block, many, node, level, data, old⟩ := e
  dsimp only [En.cells] at *
  go_enter Try.func58, Try.ntmps58
  go_upto_region 1 with fail
  generalize w.alloc _ = wa at *
  generalize hB : w.heap.size = B at *
  obtain ⟨c0, c1, c2, c3, c4, c5, c6, c7, c8, c9, c10⟩ := hE
  dsimp only at c0 c1 c2 c3 c4 c5 c6 c7 c8 c9 c10
  simp only [Nat.zero_add] at c0 c1 c2 c3 c4 c5 c6 c7 c8 c9 c10
  go_wp2_with fail
  refine (Hf.out _).mono ?_
  rintro x w1 ⟨rfl, hbb⟩
  replace hb := hb.trans (hbb.mono (by omega))
  have hkk : Keep (fun _ => False) wa w1 := Keep.of_below hbb fun _ q _ => q
  replace c0 := hkk.cell c0 id
  replace c1 := hkk.cell c1 id
  replace c2 := hkk.cell c2 id
  replace c3 := hkk.cell c3 id
  replace c4 := hkk.cell c4 id
  replace c5 := hkk.cell c5 id
  replace c6 := hkk.cell c6 id
  replace c7 := hkk.cell c7 id
  replace c8 := hkk.cell c8 id
  replace c9 := hkk.cell c9 id
  replace c10 := hkk.cell c10 id
  clear hkk hbb hz Hf
  go_upto_region 2 with fail
  simp only [List.append_eq, List.cons_append, List.nil_append]
  try dsimp only at h1 h2 h3 h4
  have k0 : ∀ s' : KW (fun _ => False) w1, s'.w.cell? ⟨B, 0, none⟩ = some (.int .u64 term) := fun s' => s'.keep.cell c0 id
  have k1 : ∀ s' : KW (fun _ => False) w1, s'.w.cell? ⟨B, 1, none⟩ = some (.int .u64 index) := fun s' => s'.keep.cell c1 id
  have k3 : ∀ s' : KW (fun _ => False) w1, s'.w.cell? ⟨B, 3, none⟩ = some (.int .u64 client) := fun s' => s'.keep.cell c3 id
  have k4 : ∀ s' : KW (fun _ => False) w1, s'.w.cell? ⟨B, 4, none⟩ = some (.int .u64 seq) := fun s' => s'.keep.cell c4 id
  have k5 : ∀ s' : KW (fun _ => False) w1, s'.w.cell? ⟨B, 5, none⟩ = some (.int .u64 block) := fun s' => s'.keep.cell c5 id
  have k6 : ∀ s' : KW (fun _ => False) w1, s'.w.cell? ⟨B, 6, none⟩ = some (.int .u64 many) := fun s' => s'.keep.cell c6 id
  have k7 : ∀ s' : KW (fun _ => False) w1, s'.w.cell? ⟨B, 7, none⟩ = some (.int .i64 node) := fun s' => s'.keep.cell c7 id
  have k8 : ∀ s' : KW (fun _ => False) w1, s'.w.cell? ⟨B, 8, none⟩ = some (.int .i64 level) := fun s' => s'.keep.cell c8 id
  have k9 : ∀ s' : KW (fun _ => False) w1, s'.w.cell? ⟨B, 9, none⟩ = some (.string data) := fun s' => s'.keep.cell c9 id
  have k10 : ∀ s' : KW (fun _ => False) w1, s'.w.cell? ⟨B, 10, none⟩ = some (.string old) := fun s' => s'.keep.cell c10 id
  have hd1' : decide (0 < term) = true := by simpa using h1
  have hd2' : decide (0 < index) = true := by simpa using h2
  clear c0 c1 c2 c3 c4 c5 c6 c7 c8 c9 c10
  have h4' : (level == 1) = false := by simpa using h4
  refine wp_region_stay (S := fun w' => ∃ s' : KW (fun _ => False) w1, w' = s'.w) 74 (by kernel_rfl) (by simp) (by kernel_rfl) (by kernel_rfl) ⟨⟨w1.drew, (Keep.refl _ w1).drew⟩, rfl⟩ ?_
  simp only [List.take_succ_cons, List.take_zero]
  refine wpStay_quiet 30 _ _ (by kernel_rfl) ?_
  simp only [List.take_succ_cons, List.take_zero, List.drop_succ_cons, List.drop_zero]
  repeat (go_big_quiet_step (fail))
  refine wpQuiet_nil ?_
  refine wpStay_call (.bool (decide (block < 4294967296))) (by rfl) (fun w' hw' => ?_) ?_
  · obtain ⟨s', rfl⟩ := hw'
    unfold Oper.quietAt
    go_simp
    exact Hs1.out _
  simp only [Act.put, List.setIfInBounds_toArray, List.set_cons_zero, List.set_cons_succ]
  refine wpStay_quiet 6 _ _ (by kernel_rfl) ?_
  simp only [List.take_succ_cons, List.take_zero, List.drop_succ_cons, List.drop_zero]
  repeat (go_big_quiet_step (fail))
  refine wpQuiet_nil ?_
  refine wpStay_call (.bool (decide (many < 4294967296))) (by rfl) (fun w' hw' => ?_) ?_
  · obtain ⟨s', rfl⟩ := hw'
    unfold Oper.quietAt
    go_simp
    exact Hs2.out _
  simp only [Act.put, List.setIfInBounds_toArray, List.set_cons_zero, List.set_cons_succ]
  refine wpStay_quiet 6 _ _ (by kernel_rfl) ?_
  simp only [List.take_succ_cons, List.take_zero, List.drop_succ_cons, List.drop_zero]
  repeat (go_big_quiet_step (fail))
  refine wpQuiet_nil ?_
  refine wpStay_call (.bool (decide (1 ≤ node) && decide (node ≤ 7))) (by rfl) (fun w' hw' => ?_) ?_
  · obtain ⟨s', rfl⟩ := hw'
    unfold Oper.quietAt
    go_simp
    exact Hn.out _
  simp only [Act.put, List.setIfInBounds_toArray, List.set_cons_zero, List.set_cons_succ]
  refine wpStay_quiet 29 _ _ (by kernel_rfl) ?_
  simp only [List.take_succ_cons, List.take_zero, List.drop_succ_cons, List.drop_zero]
  repeat (go_big_quiet_step (fail))
  refine wpQuiet_nil ?_
  refine wpStay_nil ?_
  refine wpAnyH_one 74 (by kernel_rfl) rfl (fun K' hK' => ?_)
  go_simp
  have hka : ∀ X, Keep (fun _ => False) w1 ((w1.alloc X).drew) := fun X => ((Keep.refl _ w1).alloc X).drew
  refine hK'.out _ _ ⟨⟨_, hka _⟩, rfl⟩ (fun _ => ?_)
  clear hK' K'
  refine wpAnyH_one 75 (by kernel_rfl) rfl (fun K' hK' => ?_)
  go_simp
  refine (en_fitF s _ 7 [(99, true, true), (98, decide (0 < block), decide (block < 4294967296)), (109, decide (0 < many), decide (many < 4294967296)), (110, node != 0, decide (1 ≤ node) && decide (node ≤ 7)), (108, level != 0, level == 2), (100, !data.toList.isEmpty, decide ((data.size : Int) ≤ 64)), (111, !old.toList.isEmpty, decide ((old.size : Int) ≤ 64))] rfl (by omega) _ ((FieldsAt.new7 w1 _ (99, true, true) (98, decide (0 < block), decide (block < 4294967296)) (109, decide (0 < many), decide (many < 4294967296)) (110, node != 0, decide (1 ≤ node) && decide (node ≤ 7)) (108, level != 0, level == 2) (100, !data.toList.isEmpty, decide ((data.size : Int) ≤ 64)) (111, !old.toList.isEmpty, decide ((old.size : Int) ≤ 64))).keep ((Keep.refl (fun _ => False) _).drew) id)).mono ?_
  rintro e w2 ⟨rfl, hb2⟩
  have hkb := (hka _).trans (Keep.of_below (S := fun _ => False) hb2 (fun _ q _ => q))
  refine hK'.out _ _ ⟨⟨_, hkb⟩, rfl⟩ (fun _ => ?_)
  clear hK' K'
  try simp only [Act.put, List.setIfInBounds_toArray, List.set_cons_zero, List.set_cons_succ]
  refine wpAnyH_one 76 (by kernel_rfl) rfl (fun K' hK' => ?_)
  go_simp
  refine hK'.out _ _ ⟨⟨_, hkb⟩, rfl⟩ (fun _ => ?_)
  clear hK' K'
  refine wpAnyH_one 77 (by kernel_rfl) rfl (fun K' hK' => ?_)
  go_simp
  refine hK'.out _ _ ⟨⟨_, hkb⟩, rfl⟩ (fun _ => ?_)
  clear hK' K'
  refine wpAnyH_done (by kernel_rfl) (NoPanic.normal ?_) _
  have hbz := hb.trans (hkb.below (Nat.le_trans (by omega) hb.size) fun _ q => q.elim)
  clear hka hkb hb2 k0 k1 k3 k4 k5 k6 k7 k8 k9 k10
  go_wp2_with fail
  go_ret
  refine ⟨?_, by first | exact hbz | (rw [hB]; exact hbz)⟩
  rw [En.right_of (e := ⟨term, index, kind, client, seq, block, many, node, _, data, old⟩) Hs.out h1 h2 _ rfl]
  have q1 : (node != 0) = !decide (node = 0) := rfl
  have q2 : decide ((data.size : Int) ≤ 64) = decide (data.size ≤ 64) := by rw [decide_eq_decide]; omega
  have q3 : decide ((old.size : Int) ≤ 64) = decide (old.size ≤ 64) := by rw [decide_eq_decide]; omega
  have q4 : decide (0 < client) = true := by simpa using h3
  have q5 : decide (level = 1) = false := by simpa using h4
  have q6 : (level == 2) = decide (level = 2) := rfl
  have q7 : (level != 0) = !decide (level = 0) := rfl
  rw [show decide (level = 1 ∨ level = 2) = decide (level = 2) from by rw [decide_eq_decide]; omega]
  rw [q6, q7]
  simp [text_eq, q1, q2, q3, q4]
set_option maxHeartbeats 3200000 in
theorem en_right_5 (e : En) (ho : e.ok) (s : ByteArray) (hs : enF e.kind = (s, true)) (h1 : 0 < e.term) (h2 : 0 < e.index) (h3 : ¬ 0 < e.client) (h4 : e.level = 1) (w : World) :
    Calls Try.prog 58 #[.agg e.cells] w fun x w' => x = .returned (.bool e.right) ∧ Below w.heap.size w w' := by
  have H4 := Pin.Aside.mk h4
  clear h4
  have hse := str_beq
  have Hf := Pin.Aside.mk (fun W => en_fields e.kind W)
  have Hs1 := Pin.Aside.mk (fun W => en_small e.block ho.block.1 ho.block.2 W)
  have Hs2 := Pin.Aside.mk (fun W => en_small e.many ho.many.1 ho.many.2 W)
  have Hn0 := fun W => en_node e.node W
  simp only [Bool.decide_and] at Hn0
  have Hn := Pin.Aside.mk Hn0
  clear Hn0
  have hk := (Keep.refl (fun _ => False) w).alloc (.cells e.cells 32)
  have hb := hk.below (Nat.le_refl _) fun _ q => q.elim
  have hE := EnAt.new w 32 e
  have hz : ((w.alloc (.cells e.cells 32)).heap.size) = w.heap.size + 1 := by simp
  clear hk
  rw [hs] at Hf
  have Hs := Pin.Aside.mk hs
  clear hs
  have hd1 := ho.data
  have hd2 := ho.old
  obtain ⟨term, index, kind, client, seq, block, many, node, level, data, old⟩ := e
  dsimp only [En.cells] at *
  go_enter Try.func58, Try.ntmps58
  go_upto_region 1 with fail
  generalize w.alloc _ = wa at *
  generalize hB : w.heap.size = B at *
  obtain ⟨c0, c1, c2, c3, c4, c5, c6, c7, c8, c9, c10⟩ := hE
  dsimp only at c0 c1 c2 c3 c4 c5 c6 c7 c8 c9 c10
  simp only [Nat.zero_add] at c0 c1 c2 c3 c4 c5 c6 c7 c8 c9 c10
  go_wp2_with fail
  refine (Hf.out _).mono ?_
  rintro x w1 ⟨rfl, hbb⟩
  replace hb := hb.trans (hbb.mono (by omega))
  have hkk : Keep (fun _ => False) wa w1 := Keep.of_below hbb fun _ q _ => q
  replace c0 := hkk.cell c0 id
  replace c1 := hkk.cell c1 id
  replace c2 := hkk.cell c2 id
  replace c3 := hkk.cell c3 id
  replace c4 := hkk.cell c4 id
  replace c5 := hkk.cell c5 id
  replace c6 := hkk.cell c6 id
  replace c7 := hkk.cell c7 id
  replace c8 := hkk.cell c8 id
  replace c9 := hkk.cell c9 id
  replace c10 := hkk.cell c10 id
  clear hkk hbb hz Hf
  go_upto_region 2 with fail
  simp only [List.append_eq, List.cons_append, List.nil_append]
  have h4 := H4.out
  clear H4
  try dsimp only at h1 h2 h3 h4
  have k0 : ∀ s' : KW (fun _ => False) w1, s'.w.cell? ⟨B, 0, none⟩ = some (.int .u64 term) := fun s' => s'.keep.cell c0 id
  have k1 : ∀ s' : KW (fun _ => False) w1, s'.w.cell? ⟨B, 1, none⟩ = some (.int .u64 index) := fun s' => s'.keep.cell c1 id
  have k3 : ∀ s' : KW (fun _ => False) w1, s'.w.cell? ⟨B, 3, none⟩ = some (.int .u64 client) := fun s' => s'.keep.cell c3 id
  have k4 : ∀ s' : KW (fun _ => False) w1, s'.w.cell? ⟨B, 4, none⟩ = some (.int .u64 seq) := fun s' => s'.keep.cell c4 id
  have k5 : ∀ s' : KW (fun _ => False) w1, s'.w.cell? ⟨B, 5, none⟩ = some (.int .u64 block) := fun s' => s'.keep.cell c5 id
  have k6 : ∀ s' : KW (fun _ => False) w1, s'.w.cell? ⟨B, 6, none⟩ = some (.int .u64 many) := fun s' => s'.keep.cell c6 id
  have k7 : ∀ s' : KW (fun _ => False) w1, s'.w.cell? ⟨B, 7, none⟩ = some (.int .i64 node) := fun s' => s'.keep.cell c7 id
  have k8 : ∀ s' : KW (fun _ => False) w1, s'.w.cell? ⟨B, 8, none⟩ = some (.int .i64 level) := fun s' => s'.keep.cell c8 id
  have k9 : ∀ s' : KW (fun _ => False) w1, s'.w.cell? ⟨B, 9, none⟩ = some (.string data) := fun s' => s'.keep.cell c9 id
  have k10 : ∀ s' : KW (fun _ => False) w1, s'.w.cell? ⟨B, 10, none⟩ = some (.string old) := fun s' => s'.keep.cell c10 id
  have hd1' : decide (0 < term) = true := by simpa using h1
  have hd2' : decide (0 < index) = true := by simpa using h2
  clear c0 c1 c2 c3 c4 c5 c6 c7 c8 c9 c10
  subst h4
  have h3' : decide (0 < client) = false := by simpa using h3
  refine wp_region_stay (S := fun w' => ∃ s' : KW (fun _ => False) w1, w' = s'.w) 74 (by kernel_rfl) (by simp) (by kernel_rfl) (by kernel_rfl) ⟨⟨w1.drew, (Keep.refl _ w1).drew⟩, rfl⟩ ?_
  simp only [List.take_succ_cons, List.take_zero]
  refine wpStay_quiet 30 _ _ (by kernel_rfl) ?_
  simp only [List.take_succ_cons, List.take_zero, List.drop_succ_cons, List.drop_zero]
  repeat (go_big_quiet_step (fail))
  refine wpQuiet_nil ?_
  refine wpStay_call (.bool (decide (block < 4294967296))) (by rfl) (fun w' hw' => ?_) ?_
  · obtain ⟨s', rfl⟩ := hw'
    unfold Oper.quietAt
    go_simp
    exact Hs1.out _
  simp only [Act.put, List.setIfInBounds_toArray, List.set_cons_zero, List.set_cons_succ]
  refine wpStay_quiet 6 _ _ (by kernel_rfl) ?_
  simp only [List.take_succ_cons, List.take_zero, List.drop_succ_cons, List.drop_zero]
  repeat (go_big_quiet_step (fail))
  refine wpQuiet_nil ?_
  refine wpStay_call (.bool (decide (many < 4294967296))) (by rfl) (fun w' hw' => ?_) ?_
  · obtain ⟨s', rfl⟩ := hw'
    unfold Oper.quietAt
    go_simp
    exact Hs2.out _
  simp only [Act.put, List.setIfInBounds_toArray, List.set_cons_zero, List.set_cons_succ]
  refine wpStay_quiet 6 _ _ (by kernel_rfl) ?_
  simp only [List.take_succ_cons, List.take_zero, List.drop_succ_cons, List.drop_zero]
  repeat (go_big_quiet_step (fail))
  refine wpQuiet_nil ?_
  refine wpStay_call (.bool (decide (1 ≤ node) && decide (node ≤ 7))) (by rfl) (fun w' hw' => ?_) ?_
  · obtain ⟨s', rfl⟩ := hw'
    unfold Oper.quietAt
    go_simp
    exact Hn.out _
  simp only [Act.put, List.setIfInBounds_toArray, List.set_cons_zero, List.set_cons_succ]
  refine wpStay_quiet 29 _ _ (by kernel_rfl) ?_
  simp only [List.take_succ_cons, List.take_zero, List.drop_succ_cons, List.drop_zero]
  repeat (go_big_quiet_step (fail))
  refine wpQuiet_nil ?_
  refine wpStay_nil ?_
  refine wpAnyH_one 74 (by kernel_rfl) rfl (fun K' hK' => ?_)
  go_simp
  have hka : ∀ X, Keep (fun _ => False) w1 ((w1.alloc X).drew) := fun X => ((Keep.refl _ w1).alloc X).drew
  refine hK'.out _ _ ⟨⟨_, hka _⟩, rfl⟩ (fun _ => ?_)
  clear hK' K'
  refine wpAnyH_one 75 (by kernel_rfl) rfl (fun K' hK' => ?_)
  go_simp
  refine (en_fitF s _ 7 [(99, decide (0 < seq), false), (98, decide (0 < block), decide (block < 4294967296)), (109, decide (0 < many), decide (many < 4294967296)), (110, node != 0, decide (1 ≤ node) && decide (node ≤ 7)), (108, true, true), (100, !data.toList.isEmpty, decide ((data.size : Int) ≤ 64)), (111, !old.toList.isEmpty, decide ((old.size : Int) ≤ 64))] rfl (by omega) _ ((FieldsAt.new7 w1 _ (99, decide (0 < seq), false) (98, decide (0 < block), decide (block < 4294967296)) (109, decide (0 < many), decide (many < 4294967296)) (110, node != 0, decide (1 ≤ node) && decide (node ≤ 7)) (108, true, true) (100, !data.toList.isEmpty, decide ((data.size : Int) ≤ 64)) (111, !old.toList.isEmpty, decide ((old.size : Int) ≤ 64))).keep ((Keep.refl (fun _ => False) _).drew) id)).mono ?_
  rintro e w2 ⟨rfl, hb2⟩
  have hkb := (hka _).trans (Keep.of_below (S := fun _ => False) hb2 (fun _ q _ => q))
  refine hK'.out _ _ ⟨⟨_, hkb⟩, rfl⟩ (fun _ => ?_)
  clear hK' K'
  try simp only [Act.put, List.setIfInBounds_toArray, List.set_cons_zero, List.set_cons_succ]
  refine wpAnyH_one 76 (by kernel_rfl) rfl (fun K' hK' => ?_)
  go_simp
  refine hK'.out _ _ ⟨⟨_, hkb⟩, rfl⟩ (fun _ => ?_)
  clear hK' K'
  refine wpAnyH_one 77 (by kernel_rfl) rfl (fun K' hK' => ?_)
  go_simp
  refine hK'.out _ _ ⟨⟨_, hkb⟩, rfl⟩ (fun _ => ?_)
  clear hK' K'
  refine wpAnyH_done (by kernel_rfl) (NoPanic.normal ?_) _
  have hbz := hb.trans (hkb.below (Nat.le_trans (by omega) hb.size) fun _ q => q.elim)
  clear hka hkb hb2 k0 k1 k3 k4 k5 k6 k7 k8 k9 k10
  go_wp2_with fail
  go_ret
  refine ⟨?_, by first | exact hbz | (rw [hB]; exact hbz)⟩
  rw [En.right_of (e := ⟨term, index, kind, client, seq, block, many, node, _, data, old⟩) Hs.out h1 h2 _ rfl]
  have q1 : (node != 0) = !decide (node = 0) := rfl
  have q2 : decide ((data.size : Int) ≤ 64) = decide (data.size ≤ 64) := by rw [decide_eq_decide]; omega
  have q3 : decide ((old.size : Int) ≤ 64) = decide (old.size ≤ 64) := by rw [decide_eq_decide]; omega
  have q4 : decide (0 < client) = false := by simpa using h3
  simp [text_eq, q1, q2, q3, q4]
set_option maxHeartbeats 3200000 in
theorem en_right_6 (e : En) (ho : e.ok) (s : ByteArray) (hs : enF e.kind = (s, true)) (h1 : 0 < e.term) (h2 : 0 < e.index) (h3 : ¬ 0 < e.client) (h4 : ¬ e.level = 1) (w : World) :
    Calls Try.prog 58 #[.agg e.cells] w fun x w' => x = .returned (.bool e.right) ∧ Below w.heap.size w w' := by
  have hse := str_beq
  have Hf := Pin.Aside.mk (fun W => en_fields e.kind W)
  have Hs1 := Pin.Aside.mk (fun W => en_small e.block ho.block.1 ho.block.2 W)
  have Hs2 := Pin.Aside.mk (fun W => en_small e.many ho.many.1 ho.many.2 W)
  have Hn0 := fun W => en_node e.node W
  simp only [Bool.decide_and] at Hn0
  have Hn := Pin.Aside.mk Hn0
  clear Hn0
  have hk := (Keep.refl (fun _ => False) w).alloc (.cells e.cells 32)
  have hb := hk.below (Nat.le_refl _) fun _ q => q.elim
  have hE := EnAt.new w 32 e
  have hz : ((w.alloc (.cells e.cells 32)).heap.size) = w.heap.size + 1 := by simp
  clear hk
  rw [hs] at Hf
  have Hs := Pin.Aside.mk hs
  clear hs
  have hd1 := ho.data
  have hd2 := ho.old
  obtain ⟨term, index, kind, client, seq, block, many, node, level, data, old⟩ := e
  dsimp only [En.cells] at *
  go_enter Try.func58, Try.ntmps58
  go_upto_region 1 with fail
  generalize w.alloc _ = wa at *
  generalize hB : w.heap.size = B at *
  obtain ⟨c0, c1, c2, c3, c4, c5, c6, c7, c8, c9, c10⟩ := hE
  dsimp only at c0 c1 c2 c3 c4 c5 c6 c7 c8 c9 c10
  simp only [Nat.zero_add] at c0 c1 c2 c3 c4 c5 c6 c7 c8 c9 c10
  go_wp2_with fail
  refine (Hf.out _).mono ?_
  rintro x w1 ⟨rfl, hbb⟩
  replace hb := hb.trans (hbb.mono (by omega))
  have hkk : Keep (fun _ => False) wa w1 := Keep.of_below hbb fun _ q _ => q
  replace c0 := hkk.cell c0 id
  replace c1 := hkk.cell c1 id
  replace c2 := hkk.cell c2 id
  replace c3 := hkk.cell c3 id
  replace c4 := hkk.cell c4 id
  replace c5 := hkk.cell c5 id
  replace c6 := hkk.cell c6 id
  replace c7 := hkk.cell c7 id
  replace c8 := hkk.cell c8 id
  replace c9 := hkk.cell c9 id
  replace c10 := hkk.cell c10 id
  clear hkk hbb hz Hf
  go_upto_region 2 with fail
  simp only [List.append_eq, List.cons_append, List.nil_append]
  try dsimp only at h1 h2 h3 h4
  have k0 : ∀ s' : KW (fun _ => False) w1, s'.w.cell? ⟨B, 0, none⟩ = some (.int .u64 term) := fun s' => s'.keep.cell c0 id
  have k1 : ∀ s' : KW (fun _ => False) w1, s'.w.cell? ⟨B, 1, none⟩ = some (.int .u64 index) := fun s' => s'.keep.cell c1 id
  have k3 : ∀ s' : KW (fun _ => False) w1, s'.w.cell? ⟨B, 3, none⟩ = some (.int .u64 client) := fun s' => s'.keep.cell c3 id
  have k4 : ∀ s' : KW (fun _ => False) w1, s'.w.cell? ⟨B, 4, none⟩ = some (.int .u64 seq) := fun s' => s'.keep.cell c4 id
  have k5 : ∀ s' : KW (fun _ => False) w1, s'.w.cell? ⟨B, 5, none⟩ = some (.int .u64 block) := fun s' => s'.keep.cell c5 id
  have k6 : ∀ s' : KW (fun _ => False) w1, s'.w.cell? ⟨B, 6, none⟩ = some (.int .u64 many) := fun s' => s'.keep.cell c6 id
  have k7 : ∀ s' : KW (fun _ => False) w1, s'.w.cell? ⟨B, 7, none⟩ = some (.int .i64 node) := fun s' => s'.keep.cell c7 id
  have k8 : ∀ s' : KW (fun _ => False) w1, s'.w.cell? ⟨B, 8, none⟩ = some (.int .i64 level) := fun s' => s'.keep.cell c8 id
  have k9 : ∀ s' : KW (fun _ => False) w1, s'.w.cell? ⟨B, 9, none⟩ = some (.string data) := fun s' => s'.keep.cell c9 id
  have k10 : ∀ s' : KW (fun _ => False) w1, s'.w.cell? ⟨B, 10, none⟩ = some (.string old) := fun s' => s'.keep.cell c10 id
  have hd1' : decide (0 < term) = true := by simpa using h1
  have hd2' : decide (0 < index) = true := by simpa using h2
  clear c0 c1 c2 c3 c4 c5 c6 c7 c8 c9 c10
  have h3' : decide (0 < client) = false := by simpa using h3
  have h4' : (level == 1) = false := by simpa using h4
  refine wp_region_stay (S := fun w' => ∃ s' : KW (fun _ => False) w1, w' = s'.w) 74 (by kernel_rfl) (by simp) (by kernel_rfl) (by kernel_rfl) ⟨⟨w1.drew, (Keep.refl _ w1).drew⟩, rfl⟩ ?_
  simp only [List.take_succ_cons, List.take_zero]
  refine wpStay_quiet 30 _ _ (by kernel_rfl) ?_
  simp only [List.take_succ_cons, List.take_zero, List.drop_succ_cons, List.drop_zero]
  repeat (go_big_quiet_step (fail))
  refine wpQuiet_nil ?_
  refine wpStay_call (.bool (decide (block < 4294967296))) (by rfl) (fun w' hw' => ?_) ?_
  · obtain ⟨s', rfl⟩ := hw'
    unfold Oper.quietAt
    go_simp
    exact Hs1.out _
  simp only [Act.put, List.setIfInBounds_toArray, List.set_cons_zero, List.set_cons_succ]
  refine wpStay_quiet 6 _ _ (by kernel_rfl) ?_
  simp only [List.take_succ_cons, List.take_zero, List.drop_succ_cons, List.drop_zero]
  repeat (go_big_quiet_step (fail))
  refine wpQuiet_nil ?_
  refine wpStay_call (.bool (decide (many < 4294967296))) (by rfl) (fun w' hw' => ?_) ?_
  · obtain ⟨s', rfl⟩ := hw'
    unfold Oper.quietAt
    go_simp
    exact Hs2.out _
  simp only [Act.put, List.setIfInBounds_toArray, List.set_cons_zero, List.set_cons_succ]
  refine wpStay_quiet 6 _ _ (by kernel_rfl) ?_
  simp only [List.take_succ_cons, List.take_zero, List.drop_succ_cons, List.drop_zero]
  repeat (go_big_quiet_step (fail))
  refine wpQuiet_nil ?_
  refine wpStay_call (.bool (decide (1 ≤ node) && decide (node ≤ 7))) (by rfl) (fun w' hw' => ?_) ?_
  · obtain ⟨s', rfl⟩ := hw'
    unfold Oper.quietAt
    go_simp
    exact Hn.out _
  simp only [Act.put, List.setIfInBounds_toArray, List.set_cons_zero, List.set_cons_succ]
  refine wpStay_quiet 29 _ _ (by kernel_rfl) ?_
  simp only [List.take_succ_cons, List.take_zero, List.drop_succ_cons, List.drop_zero]
  repeat (go_big_quiet_step (fail))
  refine wpQuiet_nil ?_
  refine wpStay_nil ?_
  refine wpAnyH_one 74 (by kernel_rfl) rfl (fun K' hK' => ?_)
  go_simp
  have hka : ∀ X, Keep (fun _ => False) w1 ((w1.alloc X).drew) := fun X => ((Keep.refl _ w1).alloc X).drew
  refine hK'.out _ _ ⟨⟨_, hka _⟩, rfl⟩ (fun _ => ?_)
  clear hK' K'
  refine wpAnyH_one 75 (by kernel_rfl) rfl (fun K' hK' => ?_)
  go_simp
  refine (en_fitF s _ 7 [(99, decide (0 < seq), false), (98, decide (0 < block), decide (block < 4294967296)), (109, decide (0 < many), decide (many < 4294967296)), (110, node != 0, decide (1 ≤ node) && decide (node ≤ 7)), (108, level != 0, level == 2), (100, !data.toList.isEmpty, decide ((data.size : Int) ≤ 64)), (111, !old.toList.isEmpty, decide ((old.size : Int) ≤ 64))] rfl (by omega) _ ((FieldsAt.new7 w1 _ (99, decide (0 < seq), false) (98, decide (0 < block), decide (block < 4294967296)) (109, decide (0 < many), decide (many < 4294967296)) (110, node != 0, decide (1 ≤ node) && decide (node ≤ 7)) (108, level != 0, level == 2) (100, !data.toList.isEmpty, decide ((data.size : Int) ≤ 64)) (111, !old.toList.isEmpty, decide ((old.size : Int) ≤ 64))).keep ((Keep.refl (fun _ => False) _).drew) id)).mono ?_
  rintro e w2 ⟨rfl, hb2⟩
  have hkb := (hka _).trans (Keep.of_below (S := fun _ => False) hb2 (fun _ q _ => q))
  refine hK'.out _ _ ⟨⟨_, hkb⟩, rfl⟩ (fun _ => ?_)
  clear hK' K'
  try simp only [Act.put, List.setIfInBounds_toArray, List.set_cons_zero, List.set_cons_succ]
  refine wpAnyH_one 76 (by kernel_rfl) rfl (fun K' hK' => ?_)
  go_simp
  refine hK'.out _ _ ⟨⟨_, hkb⟩, rfl⟩ (fun _ => ?_)
  clear hK' K'
  refine wpAnyH_one 77 (by kernel_rfl) rfl (fun K' hK' => ?_)
  go_simp
  refine hK'.out _ _ ⟨⟨_, hkb⟩, rfl⟩ (fun _ => ?_)
  clear hK' K'
  refine wpAnyH_done (by kernel_rfl) (NoPanic.normal ?_) _
  have hbz := hb.trans (hkb.below (Nat.le_trans (by omega) hb.size) fun _ q => q.elim)
  clear hka hkb hb2 k0 k1 k3 k4 k5 k6 k7 k8 k9 k10
  go_wp2_with fail
  go_ret
  refine ⟨?_, by first | exact hbz | (rw [hB]; exact hbz)⟩
  rw [En.right_of (e := ⟨term, index, kind, client, seq, block, many, node, _, data, old⟩) Hs.out h1 h2 _ rfl]
  have q1 : (node != 0) = !decide (node = 0) := rfl
  have q2 : decide ((data.size : Int) ≤ 64) = decide (data.size ≤ 64) := by rw [decide_eq_decide]; omega
  have q3 : decide ((old.size : Int) ≤ 64) = decide (old.size ≤ 64) := by rw [decide_eq_decide]; omega
  have q4 : decide (0 < client) = false := by simpa using h3
  have q5 : decide (level = 1) = false := by simpa using h4
  have q6 : (level == 2) = decide (level = 2) := rfl
  have q7 : (level != 0) = !decide (level = 0) := rfl
  rw [show decide (level = 1 ∨ level = 2) = decide (level = 2) from by rw [decide_eq_decide]; omega]
  rw [q6, q7]
  simp [text_eq, q1, q2, q3, q4]
theorem en_right (e : En) (ho : e.ok) (w : World) :
    Calls Try.prog 58 #[.agg e.cells] w fun x w' => x = .returned (.bool e.right) ∧ Below w.heap.size w w' := by
  rcases hs : enF e.kind with ⟨s, ok⟩
  cases ok with
  | false => exact en_right_0 e ho s hs w
  | true =>
    by_cases h1 : 0 < e.term
    case neg => exact en_right_1 e ho s hs h1 w
    by_cases h2 : 0 < e.index
    case neg => exact en_right_2 e ho s hs h1 h2 w
    by_cases h3 : 0 < e.client
    · by_cases h4 : e.level = 1
      · exact en_right_3 e ho s hs h1 h2 h3 h4 w
      · exact en_right_4 e ho s hs h1 h2 h3 h4 w
    · by_cases h4 : e.level = 1
      · exact en_right_5 e ho s hs h1 h2 h3 h4 w
      · exact en_right_6 e ho s hs h1 h2 h3 h4 w
end Go.Proofs.Ythlmigbimeldbaa
