/- SecondOnce: its walk. -/
import Derived.Test.YthlmigbimeldbaaSecT
import Derived.BigRegion
set_option maxRecDepth 16000
namespace Go.Proofs.Ythlmigbimeldbaa
open Go.RowKit Go.Pin
set_option linter.unusedVariables false
set_option linter.unusedSimpArgs false
theorem secPutS_right {e : En} (h : e.right = true) : secPutS e = bs (secPut e) := by unfold secPutS; rw [if_pos h]
theorem puts_put {e : En} (he : e.ok) (hr : e.right = true) (w : World) : Calls Try.prog 30 #[.agg e.cells] w fun x w' => x = .returned (.tuple #[.string (bs (secPut e)), .bool true]) ∧ Below w.heap.size w w' := by
  have := sec_Put e he w
  rw [secPutS_right hr, hr] at this
  exact this
theorem secPut_len {e : En} (h : e.small) : (secPut e).length ≤ 1000 := by
  rw [← secPre_11, List.length_append]
  have := secPre_len h 11 (by decide)
  simp only [List.length_cons, List.length_nil]
  omega
set_option maxHeartbeats 3200000 in
theorem sonce_core (e f : En) (he : e.ok) (hf : f.ok) (oe of' : Bool) (w : World) :
    Calls Try.prog 12 #[.agg (e.mcells oe), .agg (f.mcells of')] w fun x w' => x = .returned (.bool true) ∧ Below w.heap.size w w' := by
  obtain ⟨hr1, ho1⟩ := own_right' e he
  obtain ⟨hr2, ho2⟩ := own_right' f hf
  obtain ⟨hs1, _⟩ := right_small hr1 ho1
  obtain ⟨hs2, _⟩ := right_small hr2 ho2
  have P1 := Pin.Aside.mk (fun W => puts_put ho1 hr1 W)
  have P2 := Pin.Aside.mk (fun W => puts_put ho2 hr2 W)
  have M1 := Pin.Aside.mk (mk_made_own e he)
  have M2 := Pin.Aside.mk (mk_made_own f hf)
  have KS := Pin.Aside.mk (fun W => sec_same e.own f.own W)
  have hl1 := secPut_len hs1
  have hl2 := secPut_len hs2
  have HL := Pin.Aside.mk (fun n hn h => put_prefix hs1 hs2 n hn h)
  clear hr1 hr2 ho1 ho2 hs1 hs2
  generalize e.own = X at *
  generalize f.own = Y at *
  have hk0 := ((Keep.refl (fun _ => False) w).alloc (.cells (e.mcells oe) 56)).alloc (.cells (f.mcells of') 56)
  have HA := Pin.Aside.mk ((MadeAt.new w e oe 56).keep ((Keep.refl (fun _ => False) _).alloc (.cells (f.mcells of') 56)) id)
  have HC := Pin.Aside.mk (MadeAt.new (w.alloc (.cells (e.mcells oe) 56)) f of' 56)
  have hsz : (w.alloc (.cells (e.mcells oe) 56)).heap.size = w.heap.size + 1 := by simp
  rw [hsz] at HC
  clear hsz
  have hb := hk0.below (Nat.le_refl w.heap.size) fun _ q => q.elim
  clear hk0
  have E0 := Pin.Aside.mk sec_examples
  have hse := str_beq
  unfold En.mcells at *
  unfold En.cells at P1 P2 M1 M2 KS
  go_enter Try.func12, Try.ntmps12
  go_upto_region 1 with fail
  generalize (w.alloc (.cells #[.int .u64 e.term, .int .u64 e.index, .int .i64 e.kind, .int .u64 e.client, .int .u64 e.seq, .int .u64 e.block, .int .u64 e.many, .int .i64 e.node, .int .i64 e.level, .string e.data, .string e.old, .bool oe] 56)).alloc (.cells #[.int .u64 f.term, .int .u64 f.index, .int .i64 f.kind, .int .u64 f.client, .int .u64 f.seq, .int .u64 f.block, .int .u64 f.many, .int .i64 f.node, .int .i64 f.level, .string f.data, .string f.old, .bool of'] 56) = w0 at *
  obtain ⟨B, hB⟩ : ∃ B, w.heap.size = B := ⟨_, rfl⟩
  rw [hB] at HA HC hb
  try rw [hB]
  have HBE := Pin.Aside.mk hB
  clear hB
  obtain ⟨Q, hQ, hBQ⟩ : ∃ Q, B + 1 = Q ∧ B < Q := ⟨_, rfl, Nat.lt_succ_self _⟩
  rw [hQ] at HC
  try rw [hQ]
  clear hQ
  have hBB : B ≤ B := Nat.le_refl _
  have hBQ2 : B ≤ Q := Nat.le_of_lt hBQ
  go_wp2_with fail
  refine (E0.out _).mono ?_
  rintro x v1 ⟨rfl, hbb⟩
  have hkk : Keep (fun _ => False) w0 v1 := Keep.of_below hbb fun _ q _ => q
  replace HA := Pin.Aside.mk (HA.out.keep hkk (id))
  replace HC := Pin.Aside.mk (HC.out.keep hkk (id))
  replace hb := hb.trans (hbb.mono (by have := hb.size; rw [HBE.out] at this; omega))
  clear hbb hkk
  have co := HA.out.ow
  have fo := HA.out.fr 11
  have hks := (Keep.refl (fun k => k = B) v1).setCell (p := ⟨B, 11, none⟩) (.inl rfl) (.bool true)
  have hnew := Pin.Aside.mk (HA.out.setOwn true)
  replace HC := Pin.Aside.mk (HC.out.keep hks (by omega))
  replace hb := hb.trans (hks.below (B := B) (by have := hb.size; rw [HBE.out] at this; omega) (by rintro k rfl; exact hBB))
  clear hks HA
  go_upto_region 5 with fail
  clear co fo
  generalize v1.setCell ⟨B, 11, none⟩ (.bool true) = v2 at *
  have HA := hnew
  clear hnew
  have co := HC.out.ow
  have fo := HC.out.fr 11
  have hks := (Keep.refl (fun k => k = Q) v2).setCell (p := ⟨Q, 11, none⟩) (.inl rfl) (.bool true)
  have hnew := Pin.Aside.mk (HC.out.setOwn true)
  replace HA := Pin.Aside.mk (HA.out.keep hks (by omega))
  replace hb := hb.trans (hks.below (B := B) (by have := hb.size; rw [HBE.out] at this; omega) (by rintro k rfl; exact hBQ2))
  clear hks HC
  go_upto_region 6 with fail
  clear co fo
  generalize v2.setCell ⟨Q, 11, none⟩ (.bool true) = v3 at *
  have HC := hnew
  clear hnew
  obtain ⟨c0, c1, c2, c3, c4, c5, c6, c7, c8, c9, c10, c11⟩ := HA.out.cells
  go_wp2_with fail
  refine (M1.out _).mono ?_
  rintro x v4 ⟨rfl, hbb⟩
  have hkk : Keep (fun _ => False) v3 v4 := Keep.of_below hbb fun _ q _ => q
  replace HA := Pin.Aside.mk (HA.out.keep hkk (id))
  replace HC := Pin.Aside.mk (HC.out.keep hkk (id))
  replace hb := hb.trans (hbb.mono (by have := hb.size; rw [HBE.out] at this; omega))
  clear hbb hkk
  clear c0 c1 c2 c3 c4 c5 c6 c7 c8 c9 c10 c11
  have hka := (Keep.refl (fun _ => False) v4).alloc (.cells #[.int .u64 X.term, .int .u64 X.index, .int .i64 X.kind, .int .u64 X.client, .int .u64 X.seq, .int .u64 X.block, .int .u64 X.many, .int .i64 X.node, .int .i64 X.level, .string X.data, .string X.old] 32)
  have HX := Pin.Aside.mk (EnW.new v4 32 X)
  have hlt_HA_RX : B < v4.heap.size := HA.out.lt
  have hlt_HC_RX : Q < v4.heap.size := HC.out.lt
  replace HA := Pin.Aside.mk (HA.out.keep hka (id))
  replace HC := Pin.Aside.mk (HC.out.keep hka (id))
  replace hb := hb.trans (hka.below (B := B) (by have := hb.size; rw [HBE.out] at this; omega) fun _ q => q.elim)
  clear hka
  go_upto_region 7 with fail
  generalize v4.alloc (.cells #[.int .u64 X.term, .int .u64 X.index, .int .i64 X.kind, .int .u64 X.client, .int .u64 X.seq, .int .u64 X.block, .int .u64 X.many, .int .i64 X.node, .int .i64 X.level, .string X.data, .string X.old] 32) = v5 at *
  generalize v4.heap.size = RX at *
  obtain ⟨c0, c1, c2, c3, c4, c5, c6, c7, c8, c9, c10, c11⟩ := HC.out.cells
  go_wp2_with fail
  refine (M2.out _).mono ?_
  rintro x v6 ⟨rfl, hbb⟩
  have hkk : Keep (fun _ => False) v5 v6 := Keep.of_below hbb fun _ q _ => q
  replace HA := Pin.Aside.mk (HA.out.keep hkk (id))
  replace HC := Pin.Aside.mk (HC.out.keep hkk (id))
  replace HX := Pin.Aside.mk (HX.out.keep hkk (id))
  replace hb := hb.trans (hbb.mono (by have := hb.size; rw [HBE.out] at this; omega))
  clear hbb hkk
  clear c0 c1 c2 c3 c4 c5 c6 c7 c8 c9 c10 c11
  have hka := (Keep.refl (fun _ => False) v6).alloc (.cells #[.int .u64 Y.term, .int .u64 Y.index, .int .i64 Y.kind, .int .u64 Y.client, .int .u64 Y.seq, .int .u64 Y.block, .int .u64 Y.many, .int .i64 Y.node, .int .i64 Y.level, .string Y.data, .string Y.old] 32)
  have HY := Pin.Aside.mk (EnW.new v6 32 Y)
  have hlt_HA_RY : B < v6.heap.size := HA.out.lt
  have hlt_HC_RY : Q < v6.heap.size := HC.out.lt
  have hlt_HX_RY : RX < v6.heap.size := HX.out.lt
  replace HA := Pin.Aside.mk (HA.out.keep hka (id))
  replace HC := Pin.Aside.mk (HC.out.keep hka (id))
  replace HX := Pin.Aside.mk (HX.out.keep hka (id))
  replace hb := hb.trans (hka.below (B := B) (by have := hb.size; rw [HBE.out] at this; omega) fun _ q => q.elim)
  clear hka
  go_upto_region 8 with fail
  generalize v6.alloc (.cells #[.int .u64 Y.term, .int .u64 Y.index, .int .i64 Y.kind, .int .u64 Y.client, .int .u64 Y.seq, .int .u64 Y.block, .int .u64 Y.many, .int .i64 Y.node, .int .i64 Y.level, .string Y.data, .string Y.old] 32) = v7 at *
  generalize v6.heap.size = RY at *
  obtain ⟨c0, c1, c2, c3, c4, c5, c6, c7, c8, c9, c10⟩ := HX.out.cells
  go_wp2_with fail
  refine (P1.out _).mono ?_
  rintro x v8 ⟨rfl, hbb⟩
  have hkk : Keep (fun _ => False) v7 v8 := Keep.of_below hbb fun _ q _ => q
  replace HA := Pin.Aside.mk (HA.out.keep hkk (id))
  replace HC := Pin.Aside.mk (HC.out.keep hkk (id))
  replace HX := Pin.Aside.mk (HX.out.keep hkk (id))
  replace HY := Pin.Aside.mk (HY.out.keep hkk (id))
  replace hb := hb.trans (hbb.mono (by have := hb.size; rw [HBE.out] at this; omega))
  clear hbb hkk
  clear c0 c1 c2 c3 c4 c5 c6 c7 c8 c9 c10
  go_upto_region 9 with fail
  obtain ⟨c0, c1, c2, c3, c4, c5, c6, c7, c8, c9, c10⟩ := HY.out.cells
  go_wp2_with fail
  refine (P2.out _).mono ?_
  rintro x v9 ⟨rfl, hbb⟩
  have hkk : Keep (fun _ => False) v8 v9 := Keep.of_below hbb fun _ q _ => q
  replace HA := Pin.Aside.mk (HA.out.keep hkk (id))
  replace HC := Pin.Aside.mk (HC.out.keep hkk (id))
  replace HX := Pin.Aside.mk (HX.out.keep hkk (id))
  replace HY := Pin.Aside.mk (HY.out.keep hkk (id))
  replace hb := hb.trans (hbb.mono (by have := hb.size; rw [HBE.out] at this; omega))
  clear hbb hkk
  clear c0 c1 c2 c3 c4 c5 c6 c7 c8 c9 c10
  go_upto_region 10 with fail
  obtain ⟨n, hn⟩ : ∃ n, n = min (secPut X).length (secPut Y).length := ⟨_, rfl⟩
  have hS1 : (bs (secPut X)).size = (secPut X).length := bs_size _
  have hS2 : (bs (secPut Y)).size = (secPut Y).length := bs_size _
  have hnm : min ((bs (secPut X)).size : Int) ((bs (secPut Y)).size : Int) = (n : Int) := by rw [hS1, hS2, hn]; omega
  have hn1 : n ≤ (bs (secPut X)).size := by rw [hS1, hn]; omega
  have hn2 : n ≤ (bs (secPut Y)).size := by rw [hS2, hn]; omega
  obtain ⟨c0, c1, c2, c3, c4, c5, c6, c7, c8, c9, c10⟩ := HX.out.cells
  obtain ⟨d0, d1, d2, d3, d4, d5, d6, d7, d8, d9, d10⟩ := HY.out.cells
  have kc0 : ∀ s' : KW (fun _ => False) v9, s'.w.cell? ⟨RX, 0, none⟩ = some (.int .u64 X.term) := fun s' => s'.keep.cell c0 id
  have kc1 : ∀ s' : KW (fun _ => False) v9, s'.w.cell? ⟨RX, 1, none⟩ = some (.int .u64 X.index) := fun s' => s'.keep.cell c1 id
  have kc2 : ∀ s' : KW (fun _ => False) v9, s'.w.cell? ⟨RX, 2, none⟩ = some (.int .i64 X.kind) := fun s' => s'.keep.cell c2 id
  have kc3 : ∀ s' : KW (fun _ => False) v9, s'.w.cell? ⟨RX, 3, none⟩ = some (.int .u64 X.client) := fun s' => s'.keep.cell c3 id
  have kc4 : ∀ s' : KW (fun _ => False) v9, s'.w.cell? ⟨RX, 4, none⟩ = some (.int .u64 X.seq) := fun s' => s'.keep.cell c4 id
  have kc5 : ∀ s' : KW (fun _ => False) v9, s'.w.cell? ⟨RX, 5, none⟩ = some (.int .u64 X.block) := fun s' => s'.keep.cell c5 id
  have kc6 : ∀ s' : KW (fun _ => False) v9, s'.w.cell? ⟨RX, 6, none⟩ = some (.int .u64 X.many) := fun s' => s'.keep.cell c6 id
  have kc7 : ∀ s' : KW (fun _ => False) v9, s'.w.cell? ⟨RX, 7, none⟩ = some (.int .i64 X.node) := fun s' => s'.keep.cell c7 id
  have kc8 : ∀ s' : KW (fun _ => False) v9, s'.w.cell? ⟨RX, 8, none⟩ = some (.int .i64 X.level) := fun s' => s'.keep.cell c8 id
  have kc9 : ∀ s' : KW (fun _ => False) v9, s'.w.cell? ⟨RX, 9, none⟩ = some (.string X.data) := fun s' => s'.keep.cell c9 id
  have kc10 : ∀ s' : KW (fun _ => False) v9, s'.w.cell? ⟨RX, 10, none⟩ = some (.string X.old) := fun s' => s'.keep.cell c10 id
  have kd0 : ∀ s' : KW (fun _ => False) v9, s'.w.cell? ⟨RY, 0, none⟩ = some (.int .u64 Y.term) := fun s' => s'.keep.cell d0 id
  have kd1 : ∀ s' : KW (fun _ => False) v9, s'.w.cell? ⟨RY, 1, none⟩ = some (.int .u64 Y.index) := fun s' => s'.keep.cell d1 id
  have kd2 : ∀ s' : KW (fun _ => False) v9, s'.w.cell? ⟨RY, 2, none⟩ = some (.int .i64 Y.kind) := fun s' => s'.keep.cell d2 id
  have kd3 : ∀ s' : KW (fun _ => False) v9, s'.w.cell? ⟨RY, 3, none⟩ = some (.int .u64 Y.client) := fun s' => s'.keep.cell d3 id
  have kd4 : ∀ s' : KW (fun _ => False) v9, s'.w.cell? ⟨RY, 4, none⟩ = some (.int .u64 Y.seq) := fun s' => s'.keep.cell d4 id
  have kd5 : ∀ s' : KW (fun _ => False) v9, s'.w.cell? ⟨RY, 5, none⟩ = some (.int .u64 Y.block) := fun s' => s'.keep.cell d5 id
  have kd6 : ∀ s' : KW (fun _ => False) v9, s'.w.cell? ⟨RY, 6, none⟩ = some (.int .u64 Y.many) := fun s' => s'.keep.cell d6 id
  have kd7 : ∀ s' : KW (fun _ => False) v9, s'.w.cell? ⟨RY, 7, none⟩ = some (.int .i64 Y.node) := fun s' => s'.keep.cell d7 id
  have kd8 : ∀ s' : KW (fun _ => False) v9, s'.w.cell? ⟨RY, 8, none⟩ = some (.int .i64 Y.level) := fun s' => s'.keep.cell d8 id
  have kd9 : ∀ s' : KW (fun _ => False) v9, s'.w.cell? ⟨RY, 9, none⟩ = some (.string Y.data) := fun s' => s'.keep.cell d9 id
  have kd10 : ∀ s' : KW (fun _ => False) v9, s'.w.cell? ⟨RY, 10, none⟩ = some (.string Y.old) := fun s' => s'.keep.cell d10 id
  clear c0 c1 c2 c3 c4 c5 c6 c7 c8 c9 c10 d0 d1 d2 d3 d4 d5 d6 d7 d8 d9 d10
  by_cases hXY : X = Y
  · subst hXY
    have hsm : enSame X X = true := (enSame_iff X X).2 rfl
    rw [hsm] at KS
    generalize bs (secPut X) = S at *
    clear hn hsm HL hS1 hS2
    go_upto_region 11 with fail
    refine wp_region_keep (fun _ => False) (by kernel_rfl) (by kernel_rfl) ?_
    repeat (go_big_quiet_step ((go_at_call 41; with_reducible exact KW.calls (KS.out _))))
    refine wpQuiet_nil ?_
    intro s4
    have hbs := s4.below
    replace hb := hb.trans (hbs.mono (by have := hb.size; rw [HBE.out] at this; omega))
    clear hbs kc0 kc1 kc2 kc3 kc4 kc5 kc6 kc7 kc8 kc9 kc10 kd0 kd1 kd2 kd3 kd4 kd5 kd6 kd7 kd8 kd9 kd10
    go_wp2_with fail
    go_ret
    exact ⟨rfl, by rw [HBE.out]; exact hb⟩
  · have hsm : enSame X Y = false := by
      cases q : enSame X Y with
      | false => rfl
      | true => exact absurd ((enSame_iff X Y).1 q) hXY
    rw [hsm] at KS
    have hpre : (secPut X).take n ≠ (secPut Y).take n := fun q => hXY (HL.out n hn q)
    have hne : bs (secPut X) ≠ bs (secPut Y) := fun q => hpre (by rw [bs_inj q])
    obtain ⟨U, hU⟩ : ∃ U, (bs (secPut X)).extract 0 n = U := ⟨_, rfl⟩
    obtain ⟨V, hV⟩ : ∃ V, (bs (secPut Y)).extract 0 n = V := ⟨_, rfl⟩
    have hUV : U ≠ V := by
      rw [← hU, ← hV, bs_extract, bs_extract, List.drop_zero, List.drop_zero]
      exact fun q => hpre (bs_inj q)
    have hd1 : decide (bs (secPut X) = bs (secPut Y)) = false := decide_eq_false hne
    have hd2 : decide (U = V) = false := decide_eq_false hUV
    generalize bs (secPut X) = S at *
    generalize bs (secPut Y) = T at *
    clear hn hsm HL hXY hpre hne hUV hS1 hS2
    go_upto_region 11 with fail
    refine wp_region_keep (fun _ => False) (by kernel_rfl) (by kernel_rfl) ?_
    repeat (go_big_quiet_step ((go_at_call 41; with_reducible exact KW.calls (KS.out _))))
    refine wpQuiet_nil ?_
    intro s4
    have hbs := s4.below
    replace hb := hb.trans (hbs.mono (by have := hb.size; rw [HBE.out] at this; omega))
    clear hbs kc0 kc1 kc2 kc3 kc4 kc5 kc6 kc7 kc8 kc9 kc10 kd0 kd1 kd2 kd3 kd4 kd5 kd6 kd7 kd8 kd9 kd10
    go_wp2_with fail
    go_ret
    exact ⟨rfl, by rw [HBE.out]; exact hb⟩
theorem secondOnce_walk (term index kind client seq block many node level : Int) (data old : ByteArray) (own : Bool) (term' index' kind' client' seq' block' many' node' level' : Int) (data' old' : ByteArray) (own' : Bool)
    (h1 : 0 ≤ term ∧ term ≤ 18446744073709551615) (h2 : 0 ≤ index ∧ index ≤ 18446744073709551615) (h3 : -9223372036854775808 ≤ kind ∧ kind ≤ 9223372036854775807) (h4 : 0 ≤ client ∧ client ≤ 18446744073709551615) (h5 : 0 ≤ seq ∧ seq ≤ 18446744073709551615) (h6 : 0 ≤ block ∧ block ≤ 18446744073709551615) (h7 : 0 ≤ many ∧ many ≤ 18446744073709551615) (h8 : -9223372036854775808 ≤ node ∧ node ≤ 9223372036854775807) (h9 : -9223372036854775808 ≤ level ∧ level ≤ 9223372036854775807) (h10 : data.size ≤ 140737488351232) (h11 : old.size ≤ 140737488351232)
    (k1 : 0 ≤ term' ∧ term' ≤ 18446744073709551615) (k2 : 0 ≤ index' ∧ index' ≤ 18446744073709551615) (k3 : -9223372036854775808 ≤ kind' ∧ kind' ≤ 9223372036854775807) (k4 : 0 ≤ client' ∧ client' ≤ 18446744073709551615) (k5 : 0 ≤ seq' ∧ seq' ≤ 18446744073709551615) (k6 : 0 ≤ block' ∧ block' ≤ 18446744073709551615) (k7 : 0 ≤ many' ∧ many' ≤ 18446744073709551615) (k8 : -9223372036854775808 ≤ node' ∧ node' ≤ 9223372036854775807) (k9 : -9223372036854775808 ≤ level' ∧ level' ≤ 9223372036854775807) (k10 : data'.size ≤ 140737488351232) (k11 : old'.size ≤ 140737488351232) (w : World) :
    Calls Try.prog 12 #[.agg #[.int .u64 term, .int .u64 index, .int .i64 kind, .int .u64 client, .int .u64 seq, .int .u64 block, .int .u64 many, .int .i64 node, .int .i64 level, .string data, .string old, .bool own], .agg #[.int .u64 term', .int .u64 index', .int .i64 kind', .int .u64 client', .int .u64 seq', .int .u64 block', .int .u64 many', .int .i64 node', .int .i64 level', .string data', .string old', .bool own']] w fun x w' => x = .returned (.bool true) ∧ Below w.heap.size w w' :=
  sonce_core ⟨term, index, kind, client, seq, block, many, node, level, data, old⟩ ⟨term', index', kind', client', seq', block', many', node', level', data', old'⟩ ⟨h1, h2, h3, h4, h5, h6, h7, h8, h9, by dsimp only; omega, by dsimp only; omega⟩ ⟨k1, k2, k3, k4, k5, k6, k7, k8, k9, by dsimp only; omega, by dsimp only; omega⟩ own own' w
end Go.Proofs.Ythlmigbimeldbaa
