/- SecondEntries: its walk. -/
import Derived.Test.YthlmigbimeldbaaSecO
import Derived.Test.YthlmigbimeldbaaSecB
import Derived.Test.YthlmigbimeldbaaSecE
import Derived.BigQuiet
set_option maxRecDepth 16000
namespace Go.Proofs.Ythlmigbimeldbaa
open Go.RowKit Go.Pin
set_option linter.unusedVariables false
set_option linter.unusedSimpArgs false
theorem rd_drewN {w : World} {b : Nat} {r : Rd} (h : RdAt w b r) (n : Nat) : RdAt (w.drewN n) b r := ⟨by simpa using h.c0, by simpa using h.c1, by simpa using h.f0, by simpa using h.f1⟩
set_option maxHeartbeats 6400000 in
theorem sent_core (e X : En) (hX : X.ok) (oe : Bool) (M1 : Pin.Aside (∀ W, Calls Try.prog 31 #[.agg (e.mcells oe)] W fun x w' => x = .returned (.agg X.cells) ∧ Below W.heap.size W w'))
    (s : ByteArray) (own : Bool) (at' : Int) (by' : UInt8) (more : ByteArray) (hs : s.size ≤ 140737488351232) (hm : more.size ≤ 140737488351232) (hat : -9223372036854775808 ≤ at' ∧ at' ≤ 9223372036854775807) (w : World) :
    Calls Try.prog 10 #[.agg (e.mcells oe), .string s, .bool own, .int .i64 at', .int .u8 by'.toNat, .string more] w fun x w' => x = .returned (.bool true) ∧ Below w.heap.size w w' := by
  have P1 := Pin.Aside.mk (fun W => sec_Put X hX W)
  have P2 := Pin.Aside.mk (fun W => r6_Put X hX W)
  have hTs := secPutS_le hX
  have PB := Pin.Aside.mk (fun W => bend06 (secPutS X) at' by' hat (by omega) W)
  have hk0 := (Keep.refl (fun _ => False) w).alloc (.cells (e.mcells oe) 56)
  have HA := Pin.Aside.mk (MadeAt.new w e oe 56)
  have hb := hk0.below (Nat.le_refl w.heap.size) fun _ q => q.elim
  clear hk0
  have E0 := Pin.Aside.mk sec_examples
  have hse := str_beq
  unfold En.mcells at *
  unfold En.cells at P1 P2 M1
  generalize secPutS X = T at *
  generalize X.right = rx at *
  obtain ⟨by2, hby⟩ : ∃ b : Int, (by'.toNat : Int) = b := ⟨_, rfl⟩
  rw [hby] at PB ⊢
  clear hby
  go_enter Try.func10, Try.ntmps10
  go_upto_region 1 with fail
  generalize w.alloc (.cells #[.int .u64 e.term, .int .u64 e.index, .int .i64 e.kind, .int .u64 e.client, .int .u64 e.seq, .int .u64 e.block, .int .u64 e.many, .int .i64 e.node, .int .i64 e.level, .string e.data, .string e.old, .bool oe] 56) = w0 at *
  obtain ⟨B, hB⟩ : ∃ B, w.heap.size = B := ⟨_, rfl⟩
  rw [hB] at HA hb
  try rw [hB]
  have HBE := Pin.Aside.mk hB
  clear hB
  have hBB : B ≤ B := Nat.le_refl _
  go_wp2_with fail
  refine (E0.out _).mono ?_
  rintro x v1 ⟨rfl, hbb⟩
  have hkk : Keep (fun _ => False) w0 v1 := Keep.of_below hbb fun _ q _ => q
  replace HA := Pin.Aside.mk (HA.out.keep hkk (id))
  replace hb := hb.trans (hbb.mono (by have := hb.size; have := HBE.out; omega))
  clear hbb hkk
  go_upto_region 4 with fail
  obtain ⟨c0, c1, c2, c3, c4, c5, c6, c7, c8, c9, c10, c11⟩ := HA.out.cells
  go_wp2_with fail
  refine (M1.out _).mono ?_
  rintro x v2 ⟨rfl, hbb⟩
  have hkk : Keep (fun _ => False) v1 v2 := Keep.of_below hbb fun _ q _ => q
  replace HA := Pin.Aside.mk (HA.out.keep hkk (id))
  replace hb := hb.trans (hbb.mono (by have := hb.size; have := HBE.out; omega))
  clear hbb hkk
  clear c0 c1 c2 c3 c4 c5 c6 c7 c8 c9 c10 c11
  go_wp2_with fail
  refine (P1.out _).mono ?_
  rintro x v3 ⟨rfl, hbb⟩
  have hkk : Keep (fun _ => False) v2 v3 := Keep.of_below hbb fun _ q _ => q
  replace HA := Pin.Aside.mk (HA.out.keep hkk (id))
  replace hb := hb.trans (hbb.mono (by have := hb.size; have := HBE.out; omega))
  clear hbb hkk
  go_upto_region 5 with fail
  obtain ⟨c0, c1, c2, c3, c4, c5, c6, c7, c8, c9, c10, c11⟩ := HA.out.cells
  go_wp2_with fail
  refine (M1.out _).mono ?_
  rintro x v4 ⟨rfl, hbb⟩
  have hkk : Keep (fun _ => False) v3 v4 := Keep.of_below hbb fun _ q _ => q
  replace HA := Pin.Aside.mk (HA.out.keep hkk (id))
  replace hb := hb.trans (hbb.mono (by have := hb.size; have := HBE.out; omega))
  clear hbb hkk
  clear c0 c1 c2 c3 c4 c5 c6 c7 c8 c9 c10 c11
  go_wp2_with fail
  refine (P2.out _).mono ?_
  rintro x v5 ⟨rfl, hbb⟩
  have hkk : Keep (fun _ => False) v4 v5 := Keep.of_below hbb fun _ q _ => q
  replace HA := Pin.Aside.mk (HA.out.keep hkk (id))
  replace hb := hb.trans (hbb.mono (by have := hb.size; have := HBE.out; omega))
  clear hbb hkk
  go_upto_region 6 with fail
  clear P1 P2 M1 E0
  cases own
  · have hSs : s.size ≤ 1152921504606846976 := by omega
    clear PB
    have hQ := Pin.Aside.mk (refGet_eq s hSs)
    obtain ⟨G, r9, hG⟩ : ∃ G r9, secGet ⟨s, false⟩ = (G, r9) := ⟨_, _, rfl⟩
    have hbB := Pin.Aside.mk (show B ≤ v5.heap.size from by have := hb.size; have := HBE.out; omega)
    go_wp2_with fail
    refine (rd_new s _).mono ?_
    rintro x v21 ⟨rfl, hr1, hz, hbb⟩
    have hR := hr1.lt
    have HR := Pin.Aside.mk hr1
    replace hb := hb.trans (hbb.mono (by have := hb.size; have := HBE.out; omega))
    have hRB := hbB.out
    replace hbB := Pin.Aside.mk (Nat.le_trans hbB.out hbb.size)
    clear hz hbb hr1
    generalize v5.heap.size = R at *
    go_wp2_with fail
    refine (rr_new s _).mono ?_
    rintro x v22 ⟨rfl, hr2, hz, hbb⟩
    have HZ := Pin.Aside.mk hr2
    have hkk : Keep (fun _ => False) v21 v22 := Keep.of_below hbb fun _ q _ => q
    replace HR := Pin.Aside.mk (HR.out.keep hkk id)
    have hZB : B ≤ v21.heap.size := hbB.out
    replace hb := hb.trans (hbb.mono (by have := hb.size; have := HBE.out; omega))
    clear hz hbb hr2 hkk
    generalize v21.heap.size = Z at *
    have HC1 := Pin.Aside.mk (sec_Get R ⟨s, false⟩ v22 HR.out hSs)
    rw [hG] at HC1
    unfold En.cells at HC1
    go_wp2_with fail
    refine HC1.out.mono ?_
    rintro x v23 ⟨rfl, hr1, hk1⟩
    replace HR := Pin.Aside.mk hr1
    replace HZ := Pin.Aside.mk (HZ.out.keep hk1 (by omega))
    replace hb := hb.trans (hk1.below (B := B) (by have := hb.size; have := HBE.out; omega) (by rintro k rfl; exact hRB))
    have hRl := hr1.lt
    clear hr1 hk1 HC1
    have hZl := HZ.out.lt
    have hka := (Keep.refl (fun _ => False) v23).alloc (.cells #[.int .u64 G.term, .int .u64 G.index, .int .i64 G.kind, .int .u64 G.client, .int .u64 G.seq, .int .u64 G.block, .int .u64 G.many, .int .i64 G.node, .int .i64 G.level, .string G.data, .string G.old] 32)
    have HX := Pin.Aside.mk (EnW.new v23 32 G)
    unfold En.cells at HX
    replace HR := Pin.Aside.mk (HR.out.keep hka id)
    replace HZ := Pin.Aside.mk (HZ.out.keep hka id)
    replace hb := hb.trans (hka.below (B := B) (by have := hb.size; have := HBE.out; omega) fun _ q => q.elim)
    clear hka
    go_upto_region 13 with fail
    generalize v23.alloc (.cells #[.int .u64 G.term, .int .u64 G.index, .int .i64 G.kind, .int .u64 G.client, .int .u64 G.seq, .int .u64 G.block, .int .u64 G.many, .int .i64 G.node, .int .i64 G.level, .string G.data, .string G.old] 32) = v24 at *
    generalize v23.heap.size = U at *
    have HC2 := Pin.Aside.mk (r6_Get Z ⟨s, false⟩ v24 HZ.out hSs)
    rw [hQ.out, hG] at HC2
    unfold En.cells at HC2
    go_wp2_with fail
    refine HC2.out.mono ?_
    rintro x v25 ⟨rfl, hr2, hk2⟩
    replace HZ := Pin.Aside.mk hr2
    replace HR := Pin.Aside.mk (HR.out.keep hk2 (by omega))
    replace HX := Pin.Aside.mk (HX.out.keep hk2 (by omega))
    replace hb := hb.trans (hk2.below (B := B) (by have := hb.size; have := HBE.out; omega) (by rintro k rfl; exact hZB))
    clear hr2 hk2 HC2
    have hka := (Keep.refl (fun _ => False) v25).alloc (.cells #[.int .u64 G.term, .int .u64 G.index, .int .i64 G.kind, .int .u64 G.client, .int .u64 G.seq, .int .u64 G.block, .int .u64 G.many, .int .i64 G.node, .int .i64 G.level, .string G.data, .string G.old] 32)
    have HY := Pin.Aside.mk (EnW.new v25 32 G)
    unfold En.cells at HY
    replace HR := Pin.Aside.mk (HR.out.keep hka id)
    replace HZ := Pin.Aside.mk (HZ.out.keep hka id)
    replace HX := Pin.Aside.mk (HX.out.keep hka id)
    replace hb := hb.trans (hka.below (B := B) (by have := hb.size; have := HBE.out; omega) fun _ q => q.elim)
    clear hka
    go_upto_region 14 with fail
    generalize v25.alloc (.cells #[.int .u64 G.term, .int .u64 G.index, .int .i64 G.kind, .int .u64 G.client, .int .u64 G.seq, .int .u64 G.block, .int .u64 G.many, .int .i64 G.node, .int .i64 G.level, .string G.data, .string G.old] 32) = v26 at *
    generalize v25.heap.size = V at *
    clear hQ hG hSs
    obtain ⟨x0, x1, x2, x3, x4, x5, x6, x7, x8, x9, x10⟩ := HX.out.cells
    obtain ⟨y0, y1, y2, y3, y4, y5, y6, y7, y8, y9, y10⟩ := HY.out.cells
    have z0 := HZ.out.c0
    have z1 := HZ.out.c1
    have hO := rd_ok R r9
    have hL := rd_left R r9
    have hbb : ((!r9.bad) != r9.bad) = true := by cases r9.bad <;> rfl
    go_quiet (first | (go_at_call 38; exact Calls.quiet_of_same (hO _ (rd_drewN HR.out _))) | (go_at_call 39; exact Calls.quiet_of_same (hL _ (rd_drewN HR.out _))))
    go_wp2_with fail
    go_ret
    exact ⟨rfl, by rw [HBE.out]; first | exact hb | exact below_drewN hb _⟩
  · go_wp2_with fail
    refine (PB.out _).mono ?_
    rintro x v9 ⟨⟨t, hts, rfl⟩, hbb⟩
    replace hb := hb.trans (hbb.mono (by have := hb.size; have := HBE.out; omega))
    clear hbb PB
    have hcat : t.size + more.size ≤ 281474976710656 := by omega
    obtain ⟨S, hS⟩ : ∃ S : ByteArray, t ++ more = S := ⟨_, rfl⟩
    have hSs : S.size ≤ 1152921504606846976 := by rw [← hS, ByteArray.size_append]; omega
    go_upto_region 8 with fail
    clear hS hcat hts
    have hQ := Pin.Aside.mk (refGet_eq S hSs)
    obtain ⟨G, r9, hG⟩ : ∃ G r9, secGet ⟨S, false⟩ = (G, r9) := ⟨_, _, rfl⟩
    have hbB := Pin.Aside.mk (show B ≤ v9.heap.size from by have := hb.size; have := HBE.out; omega)
    go_wp2_with fail
    refine (rd_new S _).mono ?_
    rintro x v21 ⟨rfl, hr1, hz, hbb⟩
    have hR := hr1.lt
    have HR := Pin.Aside.mk hr1
    replace hb := hb.trans (hbb.mono (by have := hb.size; have := HBE.out; omega))
    have hRB := hbB.out
    replace hbB := Pin.Aside.mk (Nat.le_trans hbB.out hbb.size)
    clear hz hbb hr1
    generalize v9.heap.size = R at *
    go_wp2_with fail
    refine (rr_new S _).mono ?_
    rintro x v22 ⟨rfl, hr2, hz, hbb⟩
    have HZ := Pin.Aside.mk hr2
    have hkk : Keep (fun _ => False) v21 v22 := Keep.of_below hbb fun _ q _ => q
    replace HR := Pin.Aside.mk (HR.out.keep hkk id)
    have hZB : B ≤ v21.heap.size := hbB.out
    replace hb := hb.trans (hbb.mono (by have := hb.size; have := HBE.out; omega))
    clear hz hbb hr2 hkk
    generalize v21.heap.size = Z at *
    have HC1 := Pin.Aside.mk (sec_Get R ⟨S, false⟩ v22 HR.out hSs)
    rw [hG] at HC1
    unfold En.cells at HC1
    go_wp2_with fail
    refine HC1.out.mono ?_
    rintro x v23 ⟨rfl, hr1, hk1⟩
    replace HR := Pin.Aside.mk hr1
    replace HZ := Pin.Aside.mk (HZ.out.keep hk1 (by omega))
    replace hb := hb.trans (hk1.below (B := B) (by have := hb.size; have := HBE.out; omega) (by rintro k rfl; exact hRB))
    have hRl := hr1.lt
    clear hr1 hk1 HC1
    have hZl := HZ.out.lt
    have hka := (Keep.refl (fun _ => False) v23).alloc (.cells #[.int .u64 G.term, .int .u64 G.index, .int .i64 G.kind, .int .u64 G.client, .int .u64 G.seq, .int .u64 G.block, .int .u64 G.many, .int .i64 G.node, .int .i64 G.level, .string G.data, .string G.old] 32)
    have HX := Pin.Aside.mk (EnW.new v23 32 G)
    unfold En.cells at HX
    replace HR := Pin.Aside.mk (HR.out.keep hka id)
    replace HZ := Pin.Aside.mk (HZ.out.keep hka id)
    replace hb := hb.trans (hka.below (B := B) (by have := hb.size; have := HBE.out; omega) fun _ q => q.elim)
    clear hka
    go_upto_region 13 with fail
    generalize v23.alloc (.cells #[.int .u64 G.term, .int .u64 G.index, .int .i64 G.kind, .int .u64 G.client, .int .u64 G.seq, .int .u64 G.block, .int .u64 G.many, .int .i64 G.node, .int .i64 G.level, .string G.data, .string G.old] 32) = v24 at *
    generalize v23.heap.size = U at *
    have HC2 := Pin.Aside.mk (r6_Get Z ⟨S, false⟩ v24 HZ.out hSs)
    rw [hQ.out, hG] at HC2
    unfold En.cells at HC2
    go_wp2_with fail
    refine HC2.out.mono ?_
    rintro x v25 ⟨rfl, hr2, hk2⟩
    replace HZ := Pin.Aside.mk hr2
    replace HR := Pin.Aside.mk (HR.out.keep hk2 (by omega))
    replace HX := Pin.Aside.mk (HX.out.keep hk2 (by omega))
    replace hb := hb.trans (hk2.below (B := B) (by have := hb.size; have := HBE.out; omega) (by rintro k rfl; exact hZB))
    clear hr2 hk2 HC2
    have hka := (Keep.refl (fun _ => False) v25).alloc (.cells #[.int .u64 G.term, .int .u64 G.index, .int .i64 G.kind, .int .u64 G.client, .int .u64 G.seq, .int .u64 G.block, .int .u64 G.many, .int .i64 G.node, .int .i64 G.level, .string G.data, .string G.old] 32)
    have HY := Pin.Aside.mk (EnW.new v25 32 G)
    unfold En.cells at HY
    replace HR := Pin.Aside.mk (HR.out.keep hka id)
    replace HZ := Pin.Aside.mk (HZ.out.keep hka id)
    replace HX := Pin.Aside.mk (HX.out.keep hka id)
    replace hb := hb.trans (hka.below (B := B) (by have := hb.size; have := HBE.out; omega) fun _ q => q.elim)
    clear hka
    go_upto_region 14 with fail
    generalize v25.alloc (.cells #[.int .u64 G.term, .int .u64 G.index, .int .i64 G.kind, .int .u64 G.client, .int .u64 G.seq, .int .u64 G.block, .int .u64 G.many, .int .i64 G.node, .int .i64 G.level, .string G.data, .string G.old] 32) = v26 at *
    generalize v25.heap.size = V at *
    clear hQ hG hSs
    obtain ⟨x0, x1, x2, x3, x4, x5, x6, x7, x8, x9, x10⟩ := HX.out.cells
    obtain ⟨y0, y1, y2, y3, y4, y5, y6, y7, y8, y9, y10⟩ := HY.out.cells
    have z0 := HZ.out.c0
    have z1 := HZ.out.c1
    have hO := rd_ok R r9
    have hL := rd_left R r9
    have hbb : ((!r9.bad) != r9.bad) = true := by cases r9.bad <;> rfl
    go_quiet (first | (go_at_call 38; exact Calls.quiet_of_same (hO _ (rd_drewN HR.out _))) | (go_at_call 39; exact Calls.quiet_of_same (hL _ (rd_drewN HR.out _))))
    go_wp2_with fail
    go_ret
    exact ⟨rfl, by rw [HBE.out]; first | exact hb | exact below_drewN hb _⟩
theorem secondEntries_walk (term index kind client seq block many node level : Int) (data old : ByteArray) (own : Bool) (s : ByteArray) (ow : Bool) (at' b : Int) (more : ByteArray)
    (h1 : 0 ≤ term ∧ term ≤ 18446744073709551615) (h2 : 0 ≤ index ∧ index ≤ 18446744073709551615) (h3 : -9223372036854775808 ≤ kind ∧ kind ≤ 9223372036854775807) (h4 : 0 ≤ client ∧ client ≤ 18446744073709551615) (h5 : 0 ≤ seq ∧ seq ≤ 18446744073709551615) (h6 : 0 ≤ block ∧ block ≤ 18446744073709551615) (h7 : 0 ≤ many ∧ many ≤ 18446744073709551615) (h8 : -9223372036854775808 ≤ node ∧ node ≤ 9223372036854775807) (h9 : -9223372036854775808 ≤ level ∧ level ≤ 9223372036854775807) (h10 : data.size ≤ 140737488351232) (h11 : old.size ≤ 140737488351232)
    (hs : s.size ≤ 140737488351232) (hat : -9223372036854775808 ≤ at' ∧ at' ≤ 9223372036854775807) (hb : 0 ≤ b ∧ b ≤ 255) (hm : more.size ≤ 140737488351232) (w : World) :
    Calls Try.prog 10 #[.agg #[.int .u64 term, .int .u64 index, .int .i64 kind, .int .u64 client, .int .u64 seq, .int .u64 block, .int .u64 many, .int .i64 node, .int .i64 level, .string data, .string old, .bool own], .string s, .bool ow, .int .i64 at', .int .u8 b, .string more] w fun x w' => x = .returned (.bool true) ∧ Below w.heap.size w w' := by
  have ho : (⟨term, index, kind, client, seq, block, many, node, level, data, old⟩ : En).ok := ⟨h1, h2, h3, h4, h5, h6, h7, h8, h9, by dsimp only; omega, by dsimp only; omega⟩
  obtain ⟨c, hc⟩ : ∃ c : UInt8, (c.toNat : Int) = b := ⟨UInt8.ofNat b.toNat, by simp; omega⟩
  rw [← hc]
  cases own
  · exact sent_core ⟨term, index, kind, client, seq, block, many, node, level, data, old⟩ _ ho false (Pin.Aside.mk (mk_made_no _)) s ow at' c more hs hm hat w
  · exact sent_core ⟨term, index, kind, client, seq, block, many, node, level, data, old⟩ _ (own_right' _ ho).2 true (Pin.Aside.mk (mk_made_own _ ho)) s ow at' c more hs hm hat w
end Go.Proofs.Ythlmigbimeldbaa
