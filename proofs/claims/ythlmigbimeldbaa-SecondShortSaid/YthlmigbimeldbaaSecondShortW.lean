/- SecondShort: its walk. -/
import Derived.Test.YthlmigbimeldbaaSecondShortM
set_option maxRecDepth 16000
namespace Go.Proofs.Ythlmigbimeldbaa
open Go.RowKit Go.Pin
set_option linter.unusedVariables false
set_option linter.unusedSimpArgs false
theorem puts_put {e : En} (he : e.ok) (hr : e.right = true) (w : World) : Calls Try.prog 30 #[.agg e.cells] w fun x w' => x = .returned (.tuple #[.string (bs (secPut e)), .bool true]) ∧ Below w.heap.size w w' := by
  have := sec_Put e he w
  rw [hr] at this
  unfold secPutS at this
  rw [if_pos hr] at this
  exact this
set_option maxHeartbeats 3200000 in
theorem sshort_core (e : En) (he : e.ok) (oe : Bool) (T : Int) (hT : 0 ≤ T ∧ T ≤ 65535) (w : World) :
    Calls Try.prog 13 #[.agg (e.mcells oe), .int .u16 T] w fun x w' => x = .returned (.bool true) ∧ Below w.heap.size w w' := by
  obtain ⟨hr1, ho1⟩ := own_right' e he
  obtain ⟨hr2, ho2, hr3, ho3, l1, l2, l3, l4⟩ := short_law e he T hT
  have hbt := (own_bounds e he).1
  have hds := (right_small hr1 ho1).1.data
  have hos := (right_small hr1 ho1).1.old
  have P1 := Pin.Aside.mk (fun W => puts_put ho1 hr1 W)
  have P2 := Pin.Aside.mk (fun W => puts_put ho2 hr2 W)
  have P3 := Pin.Aside.mk (fun W => puts_put ho3 hr3 W)
  have M1 := Pin.Aside.mk (mk_made_own e he)
  have KS := Pin.Aside.mk (fun W => sec_same e.own { e.own with term := e.own.term + T } W)
  rw [l4] at KS
  have HL := Pin.Aside.mk (And.intro l1 (And.intro l2 l3))
  clear hr1 hr2 hr3 ho1 ho2 ho3 l1 l2 l3 l4
  generalize e.own = X at *
  have hk0 := (Keep.refl (fun _ => False) w).alloc (.cells (e.mcells oe) 56)
  have HA := Pin.Aside.mk (MadeAt.new w e oe 56)
  have hb := hk0.below (Nat.le_refl w.heap.size) fun _ q => q.elim
  clear hk0
  have E0 := Pin.Aside.mk sec_examples
  have hse := str_beq
  unfold En.mcells at *
  unfold En.cells at P1 P2 P3 M1 KS
  dsimp only at P1 P2 P3 KS
  obtain ⟨s1, hs1⟩ : ∃ l, bs (secPut X) = l := ⟨_, rfl⟩
  obtain ⟨s2, hs2⟩ : ∃ l, bs (secPut { X with term := X.term + T }) = l := ⟨_, rfl⟩
  obtain ⟨s3, hs3⟩ : ∃ l, bs (secPut { X with data := ⟨#[]⟩, old := ⟨#[]⟩ }) = l := ⟨_, rfl⟩
  have HQ : Pin.Aside (s1.size ≤ s2.size ∧ s1.size = s3.size + ((if X.data = ⟨#[]⟩ then 0 else 2 + X.data.size) + (if X.old = ⟨#[]⟩ then 0 else 2 + X.old.size)) ∧ s3.size ≤ 21) := Pin.Aside.mk (by
    rw [← hs1, ← hs2, ← hs3, bs_size, bs_size, bs_size]; exact HL.out)
  rw [hs1] at P1
  rw [hs2] at P2
  rw [hs3] at P3
  clear hs1 hs2 hs3 HL
  go_enter Try.func13, Try.ntmps13
  go_upto_region 1 with fail
  generalize w.alloc (.cells #[.int .u64 e.term, .int .u64 e.index, .int .i64 e.kind, .int .u64 e.client, .int .u64 e.seq, .int .u64 e.block, .int .u64 e.many, .int .i64 e.node, .int .i64 e.level, .string e.data, .string e.old, .bool oe] 56) = w0 at *
  obtain ⟨B, hB⟩ : ∃ B, w.heap.size = B := ⟨_, rfl⟩
  rw [hB] at HA hb
  try rw [hB]
  have HBE := Pin.Aside.mk hB
  clear hB
  have hBB : B ≤ B := Nat.le_refl _
  go_wp2_with fail
  refine (E0.out _).mono ?_
  rintro x v1 ⟨rfl, hbb⟩
  have hkk : Keep (fun _ => False) w0 v1 := Keep.of_below hbb fun _ q _ => q
  replace HA := Pin.Aside.mk (HA.out.keep hkk (id))
  replace hb := hb.trans (hbb.mono (by have := hb.size; rw [HBE.out] at this; omega))
  clear hbb hkk
  have co := HA.out.ow
  have fo := HA.out.fr 11
  have hks := (Keep.refl (fun k => k = B) v1).setCell (p := ⟨B, 11, none⟩) (.inl rfl) (.bool true)
  have hnew := Pin.Aside.mk (HA.out.setOwn true)
  replace hb := hb.trans (hks.below (B := B) (by have := hb.size; rw [HBE.out] at this; omega) (by rintro k rfl; exact hBB))
  clear hks HA
  go_upto_region 5 with fail
  clear co fo
  generalize v1.setCell ⟨B, 11, none⟩ (.bool true) = v2 at *
  have HA := hnew
  clear hnew
  obtain ⟨c0, c1, c2, c3, c4, c5, c6, c7, c8, c9, c10, c11⟩ := HA.out.cells
  go_wp2_with fail
  refine (M1.out _).mono ?_
  rintro x v3 ⟨rfl, hbb⟩
  have hkk : Keep (fun _ => False) v2 v3 := Keep.of_below hbb fun _ q _ => q
  replace HA := Pin.Aside.mk (HA.out.keep hkk (id))
  replace hb := hb.trans (hbb.mono (by have := hb.size; rw [HBE.out] at this; omega))
  clear hbb hkk
  clear c0 c1 c2 c3 c4 c5 c6 c7 c8 c9 c10 c11
  have hka := (Keep.refl (fun _ => False) v3).alloc (.cells #[.int .u64 X.term, .int .u64 X.index, .int .i64 X.kind, .int .u64 X.client, .int .u64 X.seq, .int .u64 X.block, .int .u64 X.many, .int .i64 X.node, .int .i64 X.level, .string X.data, .string X.old] 32)
  have HX := Pin.Aside.mk (EnW.new v3 32 X)
  have hlt_HA_RX : B < v3.heap.size := HA.out.lt
  replace HA := Pin.Aside.mk (HA.out.keep hka (id))
  replace hb := hb.trans (hka.below (B := B) (by have := hb.size; rw [HBE.out] at this; omega) fun _ q => q.elim)
  clear hka
  go_upto_region 6 with fail
  generalize v3.alloc (.cells #[.int .u64 X.term, .int .u64 X.index, .int .i64 X.kind, .int .u64 X.client, .int .u64 X.seq, .int .u64 X.block, .int .u64 X.many, .int .i64 X.node, .int .i64 X.level, .string X.data, .string X.old] 32) = v4 at *
  generalize v3.heap.size = RX at *
  have hRX : B ≤ RX := Nat.le_of_lt hlt_HA_RX
  obtain ⟨c0, c1, c2, c3, c4, c5, c6, c7, c8, c9, c10⟩ := HX.out.cells
  go_wp2_with fail
  refine (P1.out _).mono ?_
  rintro x v5 ⟨rfl, hbb⟩
  have hkk : Keep (fun _ => False) v4 v5 := Keep.of_below hbb fun _ q _ => q
  replace HA := Pin.Aside.mk (HA.out.keep hkk (id))
  replace HX := Pin.Aside.mk (HX.out.keep hkk (id))
  replace hb := hb.trans (hbb.mono (by have := hb.size; rw [HBE.out] at this; omega))
  clear hbb hkk
  clear c0 c1 c2 c3 c4 c5 c6 c7 c8 c9 c10
  go_upto_region 7 with fail
  obtain ⟨c0, c1, c2, c3, c4, c5, c6, c7, c8, c9, c10⟩ := HX.out.cells
  have hka := (Keep.refl (fun _ => False) v5).alloc (.cells #[.int .u64 X.term, .int .u64 X.index, .int .i64 X.kind, .int .u64 X.client, .int .u64 X.seq, .int .u64 X.block, .int .u64 X.many, .int .i64 X.node, .int .i64 X.level, .string X.data, .string X.old] 32)
  have HY := Pin.Aside.mk (EnW.new v5 32 X)
  have hlt_HA_RY : B < v5.heap.size := HA.out.lt
  have hlt_HX_RY : RX < v5.heap.size := HX.out.lt
  replace HA := Pin.Aside.mk (HA.out.keep hka (id))
  replace HX := Pin.Aside.mk (HX.out.keep hka (id))
  replace hb := hb.trans (hka.below (B := B) (by have := hb.size; rw [HBE.out] at this; omega) fun _ q => q.elim)
  clear hka
  go_upto_region 8 with fail
  generalize v5.alloc (.cells #[.int .u64 X.term, .int .u64 X.index, .int .i64 X.kind, .int .u64 X.client, .int .u64 X.seq, .int .u64 X.block, .int .u64 X.many, .int .i64 X.node, .int .i64 X.level, .string X.data, .string X.old] 32) = v6 at *
  generalize v5.heap.size = RY at *
  clear c0 c1 c2 c3 c4 c5 c6 c7 c8 c9 c10
  have hRY : B ≤ RY := by omega
  have hwr : IntKind.u64.wrap (X.term + T) = X.term + T := by rw [IntKind.wrap_u64]; omega
  obtain ⟨x0, x1, x2, x3, x4, x5, x6, x7, x8, x9, x10⟩ := HX.out.cells
  obtain ⟨c0, c1, c2, c3, c4, c5, c6, c7, c8, c9, c10⟩ := HY.out.cells
  have fo := HY.out.fr 0
  have hks := (Keep.refl (fun k => k = RY) v6).setCell (p := ⟨RY, 0, none⟩) (.inl rfl) (.int .u64 (X.term + T))
  have hnew := Pin.Aside.mk (HY.out.set (e' := { X with term := X.term + T }) 0 (by decide) (.int .u64 (X.term + T)) rfl)
  replace HA := Pin.Aside.mk (HA.out.keep hks (by omega))
  replace HX := Pin.Aside.mk (HX.out.keep hks (by omega))
  replace hb := hb.trans (hks.below (B := B) (by have := hb.size; rw [HBE.out] at this; omega) (by rintro k rfl; exact hRY))
  clear hks HY
  go_upto_region 9 with fail
  clear x0 x1 x2 x3 x4 x5 x6 x7 x8 x9 x10 fo hwr c0 c1 c2 c3 c4 c5 c6 c7 c8 c9 c10
  generalize v6.setCell ⟨RY, 0, none⟩ (.int .u64 (X.term + T)) = v7 at *
  have HY := hnew
  clear hnew
  obtain ⟨c0, c1, c2, c3, c4, c5, c6, c7, c8, c9, c10⟩ := HY.out.cells
  go_wp2_with fail
  refine (P2.out _).mono ?_
  rintro x v8 ⟨rfl, hbb⟩
  have hkk : Keep (fun _ => False) v7 v8 := Keep.of_below hbb fun _ q _ => q
  replace HA := Pin.Aside.mk (HA.out.keep hkk (id))
  replace HX := Pin.Aside.mk (HX.out.keep hkk (id))
  replace HY := Pin.Aside.mk (HY.out.keep hkk (id))
  replace hb := hb.trans (hbb.mono (by have := hb.size; rw [HBE.out] at this; omega))
  clear hbb hkk
  clear c0 c1 c2 c3 c4 c5 c6 c7 c8 c9 c10
  go_upto_region 10 with fail
  obtain ⟨c0, c1, c2, c3, c4, c5, c6, c7, c8, c9, c10⟩ := HX.out.cells
  have hka := (Keep.refl (fun _ => False) v8).alloc (.cells #[.int .u64 X.term, .int .u64 X.index, .int .i64 X.kind, .int .u64 X.client, .int .u64 X.seq, .int .u64 X.block, .int .u64 X.many, .int .i64 X.node, .int .i64 X.level, .string X.data, .string X.old] 32)
  have HZ := Pin.Aside.mk (EnW.new v8 32 X)
  have hlt_HA_RZ : B < v8.heap.size := HA.out.lt
  have hlt_HX_RZ : RX < v8.heap.size := HX.out.lt
  have hlt_HY_RZ : RY < v8.heap.size := HY.out.lt
  replace HA := Pin.Aside.mk (HA.out.keep hka (id))
  replace HX := Pin.Aside.mk (HX.out.keep hka (id))
  replace HY := Pin.Aside.mk (HY.out.keep hka (id))
  replace hb := hb.trans (hka.below (B := B) (by have := hb.size; rw [HBE.out] at this; omega) fun _ q => q.elim)
  clear hka
  go_upto_region 11 with fail
  generalize v8.alloc (.cells #[.int .u64 X.term, .int .u64 X.index, .int .i64 X.kind, .int .u64 X.client, .int .u64 X.seq, .int .u64 X.block, .int .u64 X.many, .int .i64 X.node, .int .i64 X.level, .string X.data, .string X.old] 32) = v9 at *
  generalize v8.heap.size = RZ at *
  clear c0 c1 c2 c3 c4 c5 c6 c7 c8 c9 c10
  have hRZ : B ≤ RZ := by omega
  obtain ⟨c0, c1, c2, c3, c4, c5, c6, c7, c8, c9, c10⟩ := HZ.out.cells
  have fo := HZ.out.fr 9
  have hks := (Keep.refl (fun k => k = RZ) v9).setCell (p := ⟨RZ, 9, none⟩) (.inl rfl) (.string ⟨#[]⟩)
  have hnew := Pin.Aside.mk (HZ.out.set (e' := { X with data := ⟨#[]⟩ }) 9 (by decide) (.string ⟨#[]⟩) rfl)
  replace HA := Pin.Aside.mk (HA.out.keep hks (by omega))
  replace HX := Pin.Aside.mk (HX.out.keep hks (by omega))
  replace HY := Pin.Aside.mk (HY.out.keep hks (by omega))
  replace hb := hb.trans (hks.below (B := B) (by have := hb.size; rw [HBE.out] at this; omega) (by rintro k rfl; exact hRZ))
  clear hks HZ
  go_upto_region 12 with fail
  clear fo c0 c1 c2 c3 c4 c5 c6 c7 c8 c9 c10
  generalize v9.setCell ⟨RZ, 9, none⟩ (.string ⟨#[]⟩) = v10 at *
  have HZ := hnew
  clear hnew
  obtain ⟨c0, c1, c2, c3, c4, c5, c6, c7, c8, c9, c10⟩ := HZ.out.cells
  have fo := HZ.out.fr 10
  have hks := (Keep.refl (fun k => k = RZ) v10).setCell (p := ⟨RZ, 10, none⟩) (.inl rfl) (.string ⟨#[]⟩)
  have hnew := Pin.Aside.mk (HZ.out.set (e' := { X with data := ⟨#[]⟩, old := ⟨#[]⟩ }) 10 (by decide) (.string ⟨#[]⟩) rfl)
  replace HA := Pin.Aside.mk (HA.out.keep hks (by omega))
  replace HX := Pin.Aside.mk (HX.out.keep hks (by omega))
  replace HY := Pin.Aside.mk (HY.out.keep hks (by omega))
  replace hb := hb.trans (hks.below (B := B) (by have := hb.size; rw [HBE.out] at this; omega) (by rintro k rfl; exact hRZ))
  clear hks HZ
  go_upto_region 13 with fail
  clear fo c0 c1 c2 c3 c4 c5 c6 c7 c8 c9 c10
  generalize v10.setCell ⟨RZ, 10, none⟩ (.string ⟨#[]⟩) = v11 at *
  have HZ := hnew
  clear hnew
  obtain ⟨c0, c1, c2, c3, c4, c5, c6, c7, c8, c9, c10⟩ := HZ.out.cells
  go_wp2_with fail
  refine (P3.out _).mono ?_
  rintro x v12 ⟨rfl, hbb⟩
  have hkk : Keep (fun _ => False) v11 v12 := Keep.of_below hbb fun _ q _ => q
  replace HA := Pin.Aside.mk (HA.out.keep hkk (id))
  replace HX := Pin.Aside.mk (HX.out.keep hkk (id))
  replace HY := Pin.Aside.mk (HY.out.keep hkk (id))
  replace HZ := Pin.Aside.mk (HZ.out.keep hkk (id))
  replace hb := hb.trans (hbb.mono (by have := hb.size; rw [HBE.out] at this; omega))
  clear hbb hkk
  clear c0 c1 c2 c3 c4 c5 c6 c7 c8 c9 c10
  go_upto_region 14 with fail
  obtain ⟨q1, q2, q3⟩ := HQ.out
  obtain ⟨x0, x1, x2, x3, x4, x5, x6, x7, x8, x9, x10⟩ := HX.out.cells
  obtain ⟨y0, y1, y2, y3, y4, y5, y6, y7, y8, y9, y10⟩ := HY.out.cells
  dsimp only at y0 y1 y2 y3 y4 y5 y6 y7 y8 y9 y10
  have hTe : (T == 0) = decide (T = 0) := by by_cases h : T = 0 <;> simp [h]
  have hq1 : (s1.size : Int) ≤ (s2.size : Int) := by omega
  have hq3 : (s3.size : Int) ≤ 21 := by omega

  by_cases hd : X.data = ⟨#[]⟩ <;> by_cases ho : X.old = ⟨#[]⟩
  · simp only [hd, ho, if_true, if_false] at q2
    rw [hd] at x9 y9 KS
    clear hd
    rw [ho] at x10 y10 KS
    clear ho
    have hq2 : ((s1.size : Int) == (s3.size : Int)) = true := by rw [beq_iff_eq]; omega
    clear q1 q2 q3
    go_wp2_with fail
    refine (KS.out _).mono ?_
    rintro x wz ⟨rfl, hbb⟩
    replace hb := hb.trans (hbb.mono (by have := hb.size; rw [HBE.out] at this; omega))
    go_wp2_with fail
    go_ret
    exact ⟨rfl, by rw [HBE.out]; exact hb⟩
  · simp only [hd, ho, if_true, if_false] at q2
    rw [hd] at x9 y9 KS
    clear hd
    have ho1 : ¬ X.old.toList = [] := by rw [← List.isEmpty_iff, ← text_eq]; simpa using ho
    have ho2 : X.old.toList.isEmpty = false := by rw [← text_eq]; exact decide_eq_false ho
    clear ho
    have hq2 : ((s1.size : Int) == (s3.size : Int) + (2 + (X.old.size : Int))) = true := by rw [beq_iff_eq]; omega
    clear q1 q2 q3
    go_wp2_with fail
    refine (KS.out _).mono ?_
    rintro x wz ⟨rfl, hbb⟩
    replace hb := hb.trans (hbb.mono (by have := hb.size; rw [HBE.out] at this; omega))
    go_wp2_with fail
    go_ret
    exact ⟨rfl, by rw [HBE.out]; exact hb⟩
  · simp only [hd, ho, if_true, if_false] at q2
    have hd1 : ¬ X.data.toList = [] := by rw [← List.isEmpty_iff, ← text_eq]; simpa using hd
    have hd2 : X.data.toList.isEmpty = false := by rw [← text_eq]; exact decide_eq_false hd
    clear hd
    rw [ho] at x10 y10 KS
    clear ho
    have hq2 : ((s1.size : Int) == (s3.size : Int) + (2 + (X.data.size : Int))) = true := by rw [beq_iff_eq]; omega
    clear q1 q2 q3
    go_wp2_with fail
    refine (KS.out _).mono ?_
    rintro x wz ⟨rfl, hbb⟩
    replace hb := hb.trans (hbb.mono (by have := hb.size; rw [HBE.out] at this; omega))
    go_wp2_with fail
    go_ret
    exact ⟨rfl, by rw [HBE.out]; exact hb⟩
  · simp only [hd, ho, if_true, if_false] at q2
    have hd1 : ¬ X.data.toList = [] := by rw [← List.isEmpty_iff, ← text_eq]; simpa using hd
    have hd2 : X.data.toList.isEmpty = false := by rw [← text_eq]; exact decide_eq_false hd
    clear hd
    have ho1 : ¬ X.old.toList = [] := by rw [← List.isEmpty_iff, ← text_eq]; simpa using ho
    have ho2 : X.old.toList.isEmpty = false := by rw [← text_eq]; exact decide_eq_false ho
    clear ho
    have hq2 : ((s1.size : Int) == (s3.size : Int) + (2 + (X.data.size : Int) + 2 + (X.old.size : Int))) = true := by rw [beq_iff_eq]; omega
    clear q1 q2 q3
    go_wp2_with fail
    refine (KS.out _).mono ?_
    rintro x wz ⟨rfl, hbb⟩
    replace hb := hb.trans (hbb.mono (by have := hb.size; rw [HBE.out] at this; omega))
    go_wp2_with fail
    go_ret
    exact ⟨rfl, by rw [HBE.out]; exact hb⟩
theorem secondShort_walk (term index kind client seq block many node level : Int) (data old : ByteArray) (own : Bool) (T : Int)
    (h1 : 0 ≤ term ∧ term ≤ 18446744073709551615) (h2 : 0 ≤ index ∧ index ≤ 18446744073709551615) (h3 : -9223372036854775808 ≤ kind ∧ kind ≤ 9223372036854775807) (h4 : 0 ≤ client ∧ client ≤ 18446744073709551615) (h5 : 0 ≤ seq ∧ seq ≤ 18446744073709551615) (h6 : 0 ≤ block ∧ block ≤ 18446744073709551615) (h7 : 0 ≤ many ∧ many ≤ 18446744073709551615) (h8 : -9223372036854775808 ≤ node ∧ node ≤ 9223372036854775807) (h9 : -9223372036854775808 ≤ level ∧ level ≤ 9223372036854775807) (h10 : data.size ≤ 140737488351232) (h11 : old.size ≤ 140737488351232) (hT : 0 ≤ T ∧ T ≤ 65535) (w : World) :
    Calls Try.prog 13 #[.agg #[.int .u64 term, .int .u64 index, .int .i64 kind, .int .u64 client, .int .u64 seq, .int .u64 block, .int .u64 many, .int .i64 node, .int .i64 level, .string data, .string old, .bool own], .int .u16 T] w fun x w' => x = .returned (.bool true) ∧ Below w.heap.size w w' :=
  sshort_core ⟨term, index, kind, client, seq, block, many, node, level, data, old⟩ ⟨h1, h2, h3, h4, h5, h6, h7, h8, h9, by dsimp only; omega, by dsimp only; omega⟩ own T hT w
end Go.Proofs.Ythlmigbimeldbaa
