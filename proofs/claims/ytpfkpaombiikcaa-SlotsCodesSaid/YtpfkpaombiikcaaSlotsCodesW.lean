/- SlotsCodes: its walk. -/
import Derived.Test.YtpfkpaombiikcaaSlJ
import Derived.Test.YtpfkpaombiikcaaSlV
import Derived.Test.YtpfkpaombiikcaaSlS
import Derived.Test.YtpfkpaombiikcaaSlBe
set_option maxRecDepth 16000
namespace Go.Pin
open Go.RowKit
set_option linter.unusedVariables false
set_option linter.unusedSimpArgs false
theorem SevenF.put {w : World} {B : Nat} {s : Sup} (h : SevenF w B s) (x0 x1 x2 x3 x4 x5 x6 : Int) : SevenF (set7 w B (.int .i64 x0) (.int .i64 x1) (.int .i64 x2) (.int .i64 x3) (.int .i64 x4) (.int .i64 x5) (.int .i64 x6)) B ⟨x0, x1, x2, x3, x4, x5, x6⟩ := by
  have g := (((((((SevAt.ofSeven h).set 0 (by omega) (.int .i64 x0)).set 1 (by omega) (.int .i64 x1)).set 2 (by omega) (.int .i64 x2)).set 3 (by omega) (.int .i64 x3)).set 4 (by omega) (.int .i64 x4)).set 5 (by omega) (.int .i64 x5)).set 6 (by omega) (.int .i64 x6)
  obtain ⟨e0, e1, e2, e3, e4, e5, e6⟩ := g.get7
  exact ⟨⟨e0, e1, e2, e3, e4, e5, e6⟩, g.fr⟩
theorem HardF.off7 {w : World} {B R : Nat} {t o c : Int} (h : HardF w B t o c) (hne : R ≠ B) (x0 x1 x2 x3 x4 x5 x6 : Value) : HardF (set7 w R x0 x1 x2 x3 x4 x5 x6) B t o c :=
  ((((((h.set hne x0).set hne x1).set hne x2).set hne x3).set hne x4).set hne x5).set hne x6
end Go.Pin
namespace Go.Proofs.Ytpfkpaombiikcaa
open Go.RowKit Go.Pin
set_option linter.unusedVariables false
set_option linter.unusedSimpArgs false
set_option maxHeartbeats 6400000 in
theorem slotsCodes_walk (v snap log area half goal step : Int) (near : Bool) (ver t o c : Int) (raw : ByteArray) (own : Bool) (at' : Int) (by' : Int) (hv : -9223372036854775808 ≤ v ∧ v ≤ 9223372036854775807) (hsnap : -9223372036854775808 ≤ snap ∧ snap ≤ 9223372036854775807) (hlog : -9223372036854775808 ≤ log ∧ log ≤ 9223372036854775807) (harea : -9223372036854775808 ≤ area ∧ area ≤ 9223372036854775807) (hhalf : -9223372036854775808 ≤ half ∧ half ≤ 9223372036854775807) (hgoal : -9223372036854775808 ≤ goal ∧ goal ≤ 9223372036854775807) (hstep : -9223372036854775808 ≤ step ∧ step ≤ 9223372036854775807) (hver : -9223372036854775808 ≤ ver ∧ ver ≤ 9223372036854775807) (ht : 0 ≤ t ∧ t ≤ 18446744073709551615) (ho : -9223372036854775808 ≤ o ∧ o ≤ 9223372036854775807) (hc : 0 ≤ c ∧ c ≤ 18446744073709551615) (hraw : raw.size ≤ 140737488351232) (hat : -9223372036854775808 ≤ at' ∧ at' ≤ 9223372036854775807) (hby : 0 ≤ by' ∧ by' ≤ 255) (w : World) :
    Calls Try.prog 4 #[.agg #[.int .i64 v, .int .i64 snap, .int .i64 log, .int .i64 area, .int .i64 half, .int .i64 goal, .int .i64 step], .bool near, .int .i64 ver, .agg #[.int .u64 t, .int .i64 o, .int .u64 c], .string raw, .bool own, .int .i64 at', .int .u8 by'] w fun e w' => e = .returned (.bool true) ∧ Below w.heap.size w w' := by
  have hse := str_beq
  have hz1 : (w.alloc (.cells #[.int .i64 v, .int .i64 snap, .int .i64 log, .int .i64 area, .int .i64 half, .int .i64 goal, .int .i64 step] 23)).heap.size = w.heap.size + 1 := by simp
  have hF := SevenF.new w ⟨v, snap, log, area, half, goal, step⟩ 23
  unfold sevenO at hF
  dsimp only at hF
  have hk := (Keep.refl (fun _ => False) (w.alloc (.cells #[.int .i64 v, .int .i64 snap, .int .i64 log, .int .i64 area, .int .i64 half, .int .i64 goal, .int .i64 step] 23))).alloc (.cells #[.int .u64 t, .int .i64 o, .int .u64 c] 33)
  have HF := Pin.Aside.mk (hF.keep hk id)
  have hH := HardF.new (w.alloc (.cells #[.int .i64 v, .int .i64 snap, .int .i64 log, .int .i64 area, .int .i64 half, .int .i64 goal, .int .i64 step] 23)) t o c 33
  rw [hz1] at hH
  have HH := Pin.Aside.mk hH
  have hb := ((Below.refl w.heap.size w).alloc (Nat.le_refl _) (.cells #[.int .i64 v, .int .i64 snap, .int .i64 log, .int .i64 area, .int .i64 half, .int .i64 goal, .int .i64 step] 23)).alloc (by simp) (.cells #[.int .u64 t, .int .i64 o, .int .u64 c] 33)
  clear hF hk hH hz1
  obtain ⟨bb, hbb'⟩ : ∃ b : UInt8, by' = (b.toNat : Int) := ⟨UInt8.ofNat by'.toNat, by simp [UInt8.toNat_ofNat]; omega⟩
  subst hbb'
  go_enter Try.func4, Try.ntmps4
  go_wp2_with fail
  generalize (w.alloc (.cells #[.int .i64 v, .int .i64 snap, .int .i64 log, .int .i64 area, .int .i64 half, .int .i64 goal, .int .i64 step] 23)).alloc (.cells #[.int .u64 t, .int .i64 o, .int .u64 c] 33) = w0 at *
  generalize hRR : w.heap.size = R at *
  have HRR := Pin.Aside.mk hRR
  have HS := Pin.Aside.mk (show ∀ x, Below R w x → R ≤ x.heap.size from fun x h => by have := h.size; omega)
  clear hRR
  refine (slots_examples _).mono ?_
  rintro e w1 ⟨rfl, hbb⟩
  have hk := Keep.of_below (S := fun _ => False) hbb fun _ hk _ => hk
  replace HF := Pin.Aside.mk (HF.out.keep hk id)
  replace HH := Pin.Aside.mk (HH.out.keep hk id)
  replace hb := hb.trans (hk.below (HS.out _ hb) fun _ q => q.elim)
  clear hbb hk
  cases near
  case false =>
    go_upto_region 8 with fail
    obtain ⟨⟨T, ok⟩, hT⟩ : ∃ r, supput ⟨v, snap, log, area, half, goal, step⟩ = r := ⟨_, rfl⟩
    obtain ⟨⟨U, fine⟩, hU⟩ : ∃ r, hardput ver ⟨t, o, c⟩ = r := ⟨_, rfl⟩
    have hTz : T.size ≤ 100 := by
      have : (supput ⟨v, snap, log, area, half, goal, step⟩).1.size ≤ 100 := by
        unfold supput
        split
        · rename_i q; exact Nat.le_trans (supS_size _ q) (by decide)
        · exact Nat.zero_le _
      rw [hT] at this; exact this
    have hUz : U.size ≤ 100 := by
      have : (hardput ver ⟨t, o, c⟩).1.size ≤ 100 := by
        unfold hardput
        split
        · exact Nat.le_trans (hardS_size _ _) (by decide)
        · exact Nat.zero_le _
      rw [hU] at this; exact this
    have HP := Pin.Aside.mk fun W => slots_put_to ⟨v, snap, log, area, half, goal, step⟩ _ _ hT W
    have HPr := Pin.Aside.mk fun W => slotsref_putsuper ⟨v, snap, log, area, half, goal, step⟩ W
    rw [hT] at HPr
    replace HPr : Pin.Aside (∀ W, Calls Try.prog 11 #[.agg #[.int .i64 v, .int .i64 snap, .int .i64 log, .int .i64 area, .int .i64 half, .int .i64 goal, .int .i64 step]] W fun e w' => e = .returned (.tuple #[.string T, .bool ok]) ∧ Below W.heap.size W w') := HPr
    have HU := Pin.Aside.mk fun W => slots_puthard ver t o c ht hc W
    rw [hU] at HU
    replace HU : Pin.Aside (∀ W, Calls Try.prog 13 #[.int .i64 ver, .agg #[.int .u64 t, .int .i64 o, .int .u64 c]] W fun e w' => e = .returned (.tuple #[.string U, .bool fine]) ∧ Below W.heap.size W w') := HU
    have HUr := Pin.Aside.mk fun W => slotsref_puthard ver t o c ht hc W
    rw [hU] at HUr
    replace HUr : Pin.Aside (∀ W, Calls Try.prog 14 #[.int .i64 ver, .agg #[.int .u64 t, .int .i64 o, .int .u64 c]] W fun e w' => e = .returned (.tuple #[.string U, .bool fine]) ∧ Below W.heap.size W w') := HUr
    obtain ⟨N, hN⟩ : ∃ N, ssectors ⟨v, snap, log, area, half, goal, step⟩ = N := ⟨_, rfl⟩
    have HSec := Pin.Aside.mk fun W => slots_sectors ⟨v, snap, log, area, half, goal, step⟩ W
    have HSecr := Pin.Aside.mk fun W => slotsref_sectors ⟨v, snap, log, area, half, goal, step⟩ W
    rw [hN] at HSec HSecr
    replace HSec : Pin.Aside (∀ W, Calls Try.prog 10 #[.agg #[.int .i64 v, .int .i64 snap, .int .i64 log, .int .i64 area, .int .i64 half, .int .i64 goal, .int .i64 step]] W fun e w' => e = .returned (.int .i64 N) ∧ Below W.heap.size W w') := HSec
    replace HSecr : Pin.Aside (∀ W, Calls Try.prog 21 #[.agg #[.int .i64 v, .int .i64 snap, .int .i64 log, .int .i64 area, .int .i64 half, .int .i64 goal, .int .i64 step]] W fun e w' => e = .returned (.int .i64 N) ∧ Below W.heap.size W w') := HSecr
    clear hT hU hN
    obtain ⟨c0, c1, c2, c3, c4, c5, c6⟩ := HF.out.at'
    dsimp only at c0 c1 c2 c3 c4 c5 c6
    go_wp2_with fail
    refine (HP.out _).mono ?_
    rintro e w10 ⟨rfl, hbb⟩
    clear c0 c1 c2 c3 c4 c5 c6
    have hk := Keep.of_below (S := fun _ => False) hbb fun _ hk _ => hk
    replace HF := Pin.Aside.mk (HF.out.keep hk id)
    replace HH := Pin.Aside.mk (HH.out.keep hk id)
    replace hb := hb.trans (hk.below (HS.out _ hb) fun _ q => q.elim)
    clear hbb hk
    obtain ⟨c0, c1, c2, c3, c4, c5, c6⟩ := HF.out.at'
    dsimp only at c0 c1 c2 c3 c4 c5 c6
    go_wp2_with fail
    refine (slots_ref v snap log area half goal step _).mono ?_
    rintro e w12 ⟨rfl, hbb⟩
    clear c0 c1 c2 c3 c4 c5 c6
    have hk := Keep.of_below (S := fun _ => False) hbb fun _ hk _ => hk
    replace HF := Pin.Aside.mk (HF.out.keep hk id)
    replace HH := Pin.Aside.mk (HH.out.keep hk id)
    replace hb := hb.trans (hk.below (HS.out _ hb) fun _ q => q.elim)
    clear hbb hk
    go_wp2_with fail
    refine (HPr.out _).mono ?_
    rintro e w13 ⟨rfl, hbb⟩
    have hk := Keep.of_below (S := fun _ => False) hbb fun _ hk _ => hk
    replace HF := Pin.Aside.mk (HF.out.keep hk id)
    replace HH := Pin.Aside.mk (HH.out.keep hk id)
    replace hb := hb.trans (hk.below (HS.out _ hb) fun _ q => q.elim)
    clear hbb hk
    obtain ⟨x0, x1, x2⟩ := HH.out.at'
    go_wp2_with fail
    refine (HU.out _).mono ?_
    rintro e w14 ⟨rfl, hbb⟩
    clear x0 x1 x2
    have hk := Keep.of_below (S := fun _ => False) hbb fun _ hk _ => hk
    replace HF := Pin.Aside.mk (HF.out.keep hk id)
    replace HH := Pin.Aside.mk (HH.out.keep hk id)
    replace hb := hb.trans (hk.below (HS.out _ hb) fun _ q => q.elim)
    clear hbb hk
    obtain ⟨x0, x1, x2⟩ := HH.out.at'
    go_wp2_with fail
    refine (slots_refHard t o c _).mono ?_
    rintro e w15 ⟨rfl, hbb⟩
    clear x0 x1 x2
    have hk := Keep.of_below (S := fun _ => False) hbb fun _ hk _ => hk
    replace HF := Pin.Aside.mk (HF.out.keep hk id)
    replace HH := Pin.Aside.mk (HH.out.keep hk id)
    replace hb := hb.trans (hk.below (HS.out _ hb) fun _ q => q.elim)
    clear hbb hk
    go_wp2_with fail
    refine (HUr.out _).mono ?_
    rintro e w16 ⟨rfl, hbb⟩
    have hk := Keep.of_below (S := fun _ => False) hbb fun _ hk _ => hk
    replace HF := Pin.Aside.mk (HF.out.keep hk id)
    replace hb := hb.trans (hk.below (HS.out _ hb) fun _ q => q.elim)
    clear hbb hk
    clear HH
    cases own
    case false =>
      obtain ⟨⟨⟨s0, s1, s2, s3, s4, s5, s6⟩, sg⟩, hsg⟩ : ∃ r, supget raw = r := ⟨_, rfl⟩
      obtain ⟨⟨⟨t0, t1, t2⟩, hj, hg⟩, hhg⟩ : ∃ r, hardget raw = r := ⟨_, rfl⟩
      have HG1 := Pin.Aside.mk fun W => slots_get_to raw (Nat.le_trans hraw (by decide)) _ _ hsg W
      have HG2 := Pin.Aside.mk fun W => slotsref_getsuper raw (Nat.le_trans hraw (by decide)) W
      have HG3 := Pin.Aside.mk fun W => slots_gethard_to raw (Nat.le_trans hraw (by decide)) _ _ _ hhg W
      have HG4 := Pin.Aside.mk fun W => slotsref_gethard raw (Nat.le_trans hraw (by decide)) W
      rw [suprefget_eq, hsg] at HG2
      rw [hardrefget_eq, hhg] at HG4
      replace HG2 : Pin.Aside (∀ W, Calls Try.prog 18 #[.string raw] W fun e w' => e = .returned (.tuple #[.agg #[.int .i64 s0, .int .i64 s1, .int .i64 s2, .int .i64 s3, .int .i64 s4, .int .i64 s5, .int .i64 s6], .bool sg]) ∧ Below W.heap.size W w') := HG2
      replace HG4 : Pin.Aside (∀ W, Calls Try.prog 20 #[.string raw] W fun e w' => e = .returned (.tuple #[.agg #[.int .u64 t0, .int .i64 t1, .int .u64 t2], .int .i64 hj, .bool hg]) ∧ Below W.heap.size W w') := HG4
      clear hsg hhg
      go_wp2_with fail
      refine (HG1.out _).mono ?_
      rintro e w20 ⟨rfl, hbb⟩
      have hk := (Keep.of_below (S := fun _ => False) hbb fun _ hk _ => hk).alloc (.cells #[.int .i64 s0, .int .i64 s1, .int .i64 s2, .int .i64 s3, .int .i64 s4, .int .i64 s5, .int .i64 s6] 23)
      have hn := SevenAt.new w20 ⟨s0, s1, s2, s3, s4, s5, s6⟩ 23
      unfold sevenO at hn
      dsimp only at hn
      have HN1 := Pin.Aside.mk hn
      replace HF := Pin.Aside.mk (HF.out.keep hk id)
      replace hb := hb.trans (hk.below (HS.out _ hb) fun _ q => q.elim)
      clear hbb hk hn
      go_upto_region 18 with fail
      generalize w20.alloc (.cells #[.int .i64 s0, .int .i64 s1, .int .i64 s2, .int .i64 s3, .int .i64 s4, .int .i64 s5, .int .i64 s6] 23) = w21 at *
      generalize w20.heap.size = P1 at *
      go_wp2_with fail
      refine (HG2.out _).mono ?_
      rintro e w22 ⟨rfl, hbb⟩
      have hk := (Keep.of_below (S := fun _ => False) hbb fun _ hk _ => hk).alloc (.cells #[.int .i64 s0, .int .i64 s1, .int .i64 s2, .int .i64 s3, .int .i64 s4, .int .i64 s5, .int .i64 s6] 35)
      have hn := SevenAt.new w22 ⟨s0, s1, s2, s3, s4, s5, s6⟩ 35
      unfold sevenO at hn
      dsimp only at hn
      have HN2 := Pin.Aside.mk hn
      replace HF := Pin.Aside.mk (HF.out.keep hk id)
      replace HN1 := Pin.Aside.mk (HN1.out.keep hk id)
      replace hb := hb.trans (hk.below (HS.out _ hb) fun _ q => q.elim)
      clear hbb hk hn
      go_upto_region 19 with fail
      generalize w22.alloc (.cells #[.int .i64 s0, .int .i64 s1, .int .i64 s2, .int .i64 s3, .int .i64 s4, .int .i64 s5, .int .i64 s6] 35) = w23 at *
      generalize w22.heap.size = P2 at *
      go_wp2_with fail
      refine (HG3.out _).mono ?_
      rintro e w24 ⟨rfl, hbb⟩
      have hk := (Keep.of_below (S := fun _ => False) hbb fun _ hk _ => hk).alloc (.cells #[.int .u64 t0, .int .i64 t1, .int .u64 t2] 33)
      have HN3 := Pin.Aside.mk (HardF.new w24 t0 t1 t2 33)
      replace HF := Pin.Aside.mk (HF.out.keep hk id)
      replace HN1 := Pin.Aside.mk (HN1.out.keep hk id)
      replace HN2 := Pin.Aside.mk (HN2.out.keep hk id)
      replace hb := hb.trans (hk.below (HS.out _ hb) fun _ q => q.elim)
      clear hbb hk
      go_upto_region 20 with fail
      generalize w24.alloc (.cells #[.int .u64 t0, .int .i64 t1, .int .u64 t2] 33) = w25 at *
      generalize w24.heap.size = P3 at *
      go_wp2_with fail
      refine (HG4.out _).mono ?_
      rintro e w26 ⟨rfl, hbb⟩
      have hk := (Keep.of_below (S := fun _ => False) hbb fun _ hk _ => hk).alloc (.cells #[.int .u64 t0, .int .i64 t1, .int .u64 t2] 39)
      have HN4 := Pin.Aside.mk (HardF.new w26 t0 t1 t2 39)
      replace HF := Pin.Aside.mk (HF.out.keep hk id)
      replace HN1 := Pin.Aside.mk (HN1.out.keep hk id)
      replace HN2 := Pin.Aside.mk (HN2.out.keep hk id)
      replace HN3 := Pin.Aside.mk (HN3.out.keep hk id)
      replace hb := hb.trans (hk.below (HS.out _ hb) fun _ q => q.elim)
      clear hbb hk
      go_upto_region 21 with fail
      generalize w26.alloc (.cells #[.int .u64 t0, .int .i64 t1, .int .u64 t2] 39) = w9 at *
      generalize w26.heap.size = P4 at *
      have k0 : ∀ s' : KW (fun _ => False) w9, s'.w.cell? ⟨R, 0, none⟩ = some (.int .i64 v) := fun s' => s'.keep.cell HF.out.at'.c0 id
      have p0 : ∀ s' : KW (fun _ => False) w9, s'.w.cell? ⟨P1, 0, none⟩ = some (.int .i64 s0) := fun s' => s'.keep.cell HN1.out.c0 id
      have q0 : ∀ s' : KW (fun _ => False) w9, s'.w.cell? ⟨P2, 0, none⟩ = some (.int .i64 s0) := fun s' => s'.keep.cell HN2.out.c0 id
      have k1 : ∀ s' : KW (fun _ => False) w9, s'.w.cell? ⟨R, 1, none⟩ = some (.int .i64 snap) := fun s' => s'.keep.cell HF.out.at'.c1 id
      have p1 : ∀ s' : KW (fun _ => False) w9, s'.w.cell? ⟨P1, 1, none⟩ = some (.int .i64 s1) := fun s' => s'.keep.cell HN1.out.c1 id
      have q1 : ∀ s' : KW (fun _ => False) w9, s'.w.cell? ⟨P2, 1, none⟩ = some (.int .i64 s1) := fun s' => s'.keep.cell HN2.out.c1 id
      have k2 : ∀ s' : KW (fun _ => False) w9, s'.w.cell? ⟨R, 2, none⟩ = some (.int .i64 log) := fun s' => s'.keep.cell HF.out.at'.c2 id
      have p2 : ∀ s' : KW (fun _ => False) w9, s'.w.cell? ⟨P1, 2, none⟩ = some (.int .i64 s2) := fun s' => s'.keep.cell HN1.out.c2 id
      have q2 : ∀ s' : KW (fun _ => False) w9, s'.w.cell? ⟨P2, 2, none⟩ = some (.int .i64 s2) := fun s' => s'.keep.cell HN2.out.c2 id
      have k3 : ∀ s' : KW (fun _ => False) w9, s'.w.cell? ⟨R, 3, none⟩ = some (.int .i64 area) := fun s' => s'.keep.cell HF.out.at'.c3 id
      have p3 : ∀ s' : KW (fun _ => False) w9, s'.w.cell? ⟨P1, 3, none⟩ = some (.int .i64 s3) := fun s' => s'.keep.cell HN1.out.c3 id
      have q3 : ∀ s' : KW (fun _ => False) w9, s'.w.cell? ⟨P2, 3, none⟩ = some (.int .i64 s3) := fun s' => s'.keep.cell HN2.out.c3 id
      have k4 : ∀ s' : KW (fun _ => False) w9, s'.w.cell? ⟨R, 4, none⟩ = some (.int .i64 half) := fun s' => s'.keep.cell HF.out.at'.c4 id
      have p4 : ∀ s' : KW (fun _ => False) w9, s'.w.cell? ⟨P1, 4, none⟩ = some (.int .i64 s4) := fun s' => s'.keep.cell HN1.out.c4 id
      have q4 : ∀ s' : KW (fun _ => False) w9, s'.w.cell? ⟨P2, 4, none⟩ = some (.int .i64 s4) := fun s' => s'.keep.cell HN2.out.c4 id
      have k5 : ∀ s' : KW (fun _ => False) w9, s'.w.cell? ⟨R, 5, none⟩ = some (.int .i64 goal) := fun s' => s'.keep.cell HF.out.at'.c5 id
      have p5 : ∀ s' : KW (fun _ => False) w9, s'.w.cell? ⟨P1, 5, none⟩ = some (.int .i64 s5) := fun s' => s'.keep.cell HN1.out.c5 id
      have q5 : ∀ s' : KW (fun _ => False) w9, s'.w.cell? ⟨P2, 5, none⟩ = some (.int .i64 s5) := fun s' => s'.keep.cell HN2.out.c5 id
      have k6 : ∀ s' : KW (fun _ => False) w9, s'.w.cell? ⟨R, 6, none⟩ = some (.int .i64 step) := fun s' => s'.keep.cell HF.out.at'.c6 id
      have p6 : ∀ s' : KW (fun _ => False) w9, s'.w.cell? ⟨P1, 6, none⟩ = some (.int .i64 s6) := fun s' => s'.keep.cell HN1.out.c6 id
      have q6 : ∀ s' : KW (fun _ => False) w9, s'.w.cell? ⟨P2, 6, none⟩ = some (.int .i64 s6) := fun s' => s'.keep.cell HN2.out.c6 id
      have i0 : ∀ s' : KW (fun _ => False) w9, s'.w.cell? ⟨P3, 0, none⟩ = some (.int .u64 t0) := fun s' => s'.keep.cell HN3.out.at'.c0 id
      have j0 : ∀ s' : KW (fun _ => False) w9, s'.w.cell? ⟨P4, 0, none⟩ = some (.int .u64 t0) := fun s' => s'.keep.cell HN4.out.at'.c0 id
      have i1 : ∀ s' : KW (fun _ => False) w9, s'.w.cell? ⟨P3, 1, none⟩ = some (.int .i64 t1) := fun s' => s'.keep.cell HN3.out.at'.c1 id
      have j1 : ∀ s' : KW (fun _ => False) w9, s'.w.cell? ⟨P4, 1, none⟩ = some (.int .i64 t1) := fun s' => s'.keep.cell HN4.out.at'.c1 id
      have i2 : ∀ s' : KW (fun _ => False) w9, s'.w.cell? ⟨P3, 2, none⟩ = some (.int .u64 t2) := fun s' => s'.keep.cell HN3.out.at'.c2 id
      have j2 : ∀ s' : KW (fun _ => False) w9, s'.w.cell? ⟨P4, 2, none⟩ = some (.int .u64 t2) := fun s' => s'.keep.cell HN4.out.at'.c2 id
      refine wp_region_keep (fun _ => False) (by kernel_rfl) (by kernel_rfl) ?_
      repeat (go_big_quiet_step ((first | (go_at_call 10; with_reducible exact KW.calls (HSec.out _)) | (go_at_call 21; with_reducible exact KW.calls (HSecr.out _)) | (go_at_call 15; with_reducible exact KW.calls (slots_refHard t0 t1 t2 _)) | (go_at_call 12; first | with_reducible exact KW.calls (slots_ref s0 s1 s2 s3 s4 s5 s6 _) | with_reducible exact KW.calls (slots_ref v snap log area half goal step _)))))
      refine wpQuiet_nil ?_
      intro s4'
      replace hb := hb.trans (s4'.keep.below (HS.out _ hb) fun _ q => q.elim)
      clear k0 p0 q0 k1 p1 q1 k2 p2 q2 k3 p3 q3 k4 p4 q4 k5 p5 q5 k6 p6 q6 i0 j0 i1 j1 i2 j2 HF HN1 HN2 HN3 HN4
      generalize s4'.w = w11 at *
      go_wp2_with fail
      go_ret
      exact ⟨rfl, by rw [HRR.out]; exact hb⟩
    case true =>
      go_wp2_with fail
      refine (bend09 T at' bb hat (Nat.le_trans hTz (by decide)) _).mono ?_
      rintro e w17 ⟨⟨A, hAz, rfl⟩, hbb⟩
      have hk := Keep.of_below (S := fun _ => False) hbb fun _ hk _ => hk
      replace HF := Pin.Aside.mk (HF.out.keep hk id)
      replace hb := hb.trans (hk.below (HS.out _ hb) fun _ q => q.elim)
      clear hbb hk
      go_wp2_with fail
      refine (bend09 U at' bb hat (Nat.le_trans hUz (by decide)) _).mono ?_
      rintro e w18 ⟨⟨B, hBz, rfl⟩, hbb⟩
      have hk := Keep.of_below (S := fun _ => False) hbb fun _ hk _ => hk
      replace HF := Pin.Aside.mk (HF.out.keep hk id)
      replace hb := hb.trans (hk.below (HS.out _ hb) fun _ q => q.elim)
      clear hbb hk
      have hA1 : A.size ≤ 1152921504606846976 := by rw [hAz]; exact Nat.le_trans hTz (by decide)
      have hB1 : B.size ≤ 1152921504606846976 := by rw [hBz]; exact Nat.le_trans hUz (by decide)
      obtain ⟨⟨⟨s0, s1, s2, s3, s4, s5, s6⟩, sg⟩, hsg⟩ : ∃ r, supget A = r := ⟨_, rfl⟩
      obtain ⟨⟨⟨t0, t1, t2⟩, hj, hg⟩, hhg⟩ : ∃ r, hardget B = r := ⟨_, rfl⟩
      have HG1 := Pin.Aside.mk fun W => slots_get_to A hA1 _ _ hsg W
      have HG2 := Pin.Aside.mk fun W => slotsref_getsuper A hA1 W
      have HG3 := Pin.Aside.mk fun W => slots_gethard_to B hB1 _ _ _ hhg W
      have HG4 := Pin.Aside.mk fun W => slotsref_gethard B hB1 W
      rw [suprefget_eq, hsg] at HG2
      rw [hardrefget_eq, hhg] at HG4
      replace HG2 : Pin.Aside (∀ W, Calls Try.prog 18 #[.string A] W fun e w' => e = .returned (.tuple #[.agg #[.int .i64 s0, .int .i64 s1, .int .i64 s2, .int .i64 s3, .int .i64 s4, .int .i64 s5, .int .i64 s6], .bool sg]) ∧ Below W.heap.size W w') := HG2
      replace HG4 : Pin.Aside (∀ W, Calls Try.prog 20 #[.string B] W fun e w' => e = .returned (.tuple #[.agg #[.int .u64 t0, .int .i64 t1, .int .u64 t2], .int .i64 hj, .bool hg]) ∧ Below W.heap.size W w') := HG4
      clear hsg hhg
      go_wp2_with fail
      refine (HG1.out _).mono ?_
      rintro e w20 ⟨rfl, hbb⟩
      have hk := (Keep.of_below (S := fun _ => False) hbb fun _ hk _ => hk).alloc (.cells #[.int .i64 s0, .int .i64 s1, .int .i64 s2, .int .i64 s3, .int .i64 s4, .int .i64 s5, .int .i64 s6] 23)
      have hn := SevenAt.new w20 ⟨s0, s1, s2, s3, s4, s5, s6⟩ 23
      unfold sevenO at hn
      dsimp only at hn
      have HN1 := Pin.Aside.mk hn
      replace HF := Pin.Aside.mk (HF.out.keep hk id)
      replace hb := hb.trans (hk.below (HS.out _ hb) fun _ q => q.elim)
      clear hbb hk hn
      go_upto_region 18 with fail
      generalize w20.alloc (.cells #[.int .i64 s0, .int .i64 s1, .int .i64 s2, .int .i64 s3, .int .i64 s4, .int .i64 s5, .int .i64 s6] 23) = w21 at *
      generalize w20.heap.size = P1 at *
      go_wp2_with fail
      refine (HG2.out _).mono ?_
      rintro e w22 ⟨rfl, hbb⟩
      have hk := (Keep.of_below (S := fun _ => False) hbb fun _ hk _ => hk).alloc (.cells #[.int .i64 s0, .int .i64 s1, .int .i64 s2, .int .i64 s3, .int .i64 s4, .int .i64 s5, .int .i64 s6] 35)
      have hn := SevenAt.new w22 ⟨s0, s1, s2, s3, s4, s5, s6⟩ 35
      unfold sevenO at hn
      dsimp only at hn
      have HN2 := Pin.Aside.mk hn
      replace HF := Pin.Aside.mk (HF.out.keep hk id)
      replace HN1 := Pin.Aside.mk (HN1.out.keep hk id)
      replace hb := hb.trans (hk.below (HS.out _ hb) fun _ q => q.elim)
      clear hbb hk hn
      go_upto_region 19 with fail
      generalize w22.alloc (.cells #[.int .i64 s0, .int .i64 s1, .int .i64 s2, .int .i64 s3, .int .i64 s4, .int .i64 s5, .int .i64 s6] 35) = w23 at *
      generalize w22.heap.size = P2 at *
      go_wp2_with fail
      refine (HG3.out _).mono ?_
      rintro e w24 ⟨rfl, hbb⟩
      have hk := (Keep.of_below (S := fun _ => False) hbb fun _ hk _ => hk).alloc (.cells #[.int .u64 t0, .int .i64 t1, .int .u64 t2] 33)
      have HN3 := Pin.Aside.mk (HardF.new w24 t0 t1 t2 33)
      replace HF := Pin.Aside.mk (HF.out.keep hk id)
      replace HN1 := Pin.Aside.mk (HN1.out.keep hk id)
      replace HN2 := Pin.Aside.mk (HN2.out.keep hk id)
      replace hb := hb.trans (hk.below (HS.out _ hb) fun _ q => q.elim)
      clear hbb hk
      go_upto_region 20 with fail
      generalize w24.alloc (.cells #[.int .u64 t0, .int .i64 t1, .int .u64 t2] 33) = w25 at *
      generalize w24.heap.size = P3 at *
      go_wp2_with fail
      refine (HG4.out _).mono ?_
      rintro e w26 ⟨rfl, hbb⟩
      have hk := (Keep.of_below (S := fun _ => False) hbb fun _ hk _ => hk).alloc (.cells #[.int .u64 t0, .int .i64 t1, .int .u64 t2] 39)
      have HN4 := Pin.Aside.mk (HardF.new w26 t0 t1 t2 39)
      replace HF := Pin.Aside.mk (HF.out.keep hk id)
      replace HN1 := Pin.Aside.mk (HN1.out.keep hk id)
      replace HN2 := Pin.Aside.mk (HN2.out.keep hk id)
      replace HN3 := Pin.Aside.mk (HN3.out.keep hk id)
      replace hb := hb.trans (hk.below (HS.out _ hb) fun _ q => q.elim)
      clear hbb hk
      go_upto_region 21 with fail
      generalize w26.alloc (.cells #[.int .u64 t0, .int .i64 t1, .int .u64 t2] 39) = w9 at *
      generalize w26.heap.size = P4 at *
      have k0 : ∀ s' : KW (fun _ => False) w9, s'.w.cell? ⟨R, 0, none⟩ = some (.int .i64 v) := fun s' => s'.keep.cell HF.out.at'.c0 id
      have p0 : ∀ s' : KW (fun _ => False) w9, s'.w.cell? ⟨P1, 0, none⟩ = some (.int .i64 s0) := fun s' => s'.keep.cell HN1.out.c0 id
      have q0 : ∀ s' : KW (fun _ => False) w9, s'.w.cell? ⟨P2, 0, none⟩ = some (.int .i64 s0) := fun s' => s'.keep.cell HN2.out.c0 id
      have k1 : ∀ s' : KW (fun _ => False) w9, s'.w.cell? ⟨R, 1, none⟩ = some (.int .i64 snap) := fun s' => s'.keep.cell HF.out.at'.c1 id
      have p1 : ∀ s' : KW (fun _ => False) w9, s'.w.cell? ⟨P1, 1, none⟩ = some (.int .i64 s1) := fun s' => s'.keep.cell HN1.out.c1 id
      have q1 : ∀ s' : KW (fun _ => False) w9, s'.w.cell? ⟨P2, 1, none⟩ = some (.int .i64 s1) := fun s' => s'.keep.cell HN2.out.c1 id
      have k2 : ∀ s' : KW (fun _ => False) w9, s'.w.cell? ⟨R, 2, none⟩ = some (.int .i64 log) := fun s' => s'.keep.cell HF.out.at'.c2 id
      have p2 : ∀ s' : KW (fun _ => False) w9, s'.w.cell? ⟨P1, 2, none⟩ = some (.int .i64 s2) := fun s' => s'.keep.cell HN1.out.c2 id
      have q2 : ∀ s' : KW (fun _ => False) w9, s'.w.cell? ⟨P2, 2, none⟩ = some (.int .i64 s2) := fun s' => s'.keep.cell HN2.out.c2 id
      have k3 : ∀ s' : KW (fun _ => False) w9, s'.w.cell? ⟨R, 3, none⟩ = some (.int .i64 area) := fun s' => s'.keep.cell HF.out.at'.c3 id
      have p3 : ∀ s' : KW (fun _ => False) w9, s'.w.cell? ⟨P1, 3, none⟩ = some (.int .i64 s3) := fun s' => s'.keep.cell HN1.out.c3 id
      have q3 : ∀ s' : KW (fun _ => False) w9, s'.w.cell? ⟨P2, 3, none⟩ = some (.int .i64 s3) := fun s' => s'.keep.cell HN2.out.c3 id
      have k4 : ∀ s' : KW (fun _ => False) w9, s'.w.cell? ⟨R, 4, none⟩ = some (.int .i64 half) := fun s' => s'.keep.cell HF.out.at'.c4 id
      have p4 : ∀ s' : KW (fun _ => False) w9, s'.w.cell? ⟨P1, 4, none⟩ = some (.int .i64 s4) := fun s' => s'.keep.cell HN1.out.c4 id
      have q4 : ∀ s' : KW (fun _ => False) w9, s'.w.cell? ⟨P2, 4, none⟩ = some (.int .i64 s4) := fun s' => s'.keep.cell HN2.out.c4 id
      have k5 : ∀ s' : KW (fun _ => False) w9, s'.w.cell? ⟨R, 5, none⟩ = some (.int .i64 goal) := fun s' => s'.keep.cell HF.out.at'.c5 id
      have p5 : ∀ s' : KW (fun _ => False) w9, s'.w.cell? ⟨P1, 5, none⟩ = some (.int .i64 s5) := fun s' => s'.keep.cell HN1.out.c5 id
      have q5 : ∀ s' : KW (fun _ => False) w9, s'.w.cell? ⟨P2, 5, none⟩ = some (.int .i64 s5) := fun s' => s'.keep.cell HN2.out.c5 id
      have k6 : ∀ s' : KW (fun _ => False) w9, s'.w.cell? ⟨R, 6, none⟩ = some (.int .i64 step) := fun s' => s'.keep.cell HF.out.at'.c6 id
      have p6 : ∀ s' : KW (fun _ => False) w9, s'.w.cell? ⟨P1, 6, none⟩ = some (.int .i64 s6) := fun s' => s'.keep.cell HN1.out.c6 id
      have q6 : ∀ s' : KW (fun _ => False) w9, s'.w.cell? ⟨P2, 6, none⟩ = some (.int .i64 s6) := fun s' => s'.keep.cell HN2.out.c6 id
      have i0 : ∀ s' : KW (fun _ => False) w9, s'.w.cell? ⟨P3, 0, none⟩ = some (.int .u64 t0) := fun s' => s'.keep.cell HN3.out.at'.c0 id
      have j0 : ∀ s' : KW (fun _ => False) w9, s'.w.cell? ⟨P4, 0, none⟩ = some (.int .u64 t0) := fun s' => s'.keep.cell HN4.out.at'.c0 id
      have i1 : ∀ s' : KW (fun _ => False) w9, s'.w.cell? ⟨P3, 1, none⟩ = some (.int .i64 t1) := fun s' => s'.keep.cell HN3.out.at'.c1 id
      have j1 : ∀ s' : KW (fun _ => False) w9, s'.w.cell? ⟨P4, 1, none⟩ = some (.int .i64 t1) := fun s' => s'.keep.cell HN4.out.at'.c1 id
      have i2 : ∀ s' : KW (fun _ => False) w9, s'.w.cell? ⟨P3, 2, none⟩ = some (.int .u64 t2) := fun s' => s'.keep.cell HN3.out.at'.c2 id
      have j2 : ∀ s' : KW (fun _ => False) w9, s'.w.cell? ⟨P4, 2, none⟩ = some (.int .u64 t2) := fun s' => s'.keep.cell HN4.out.at'.c2 id
      refine wp_region_keep (fun _ => False) (by kernel_rfl) (by kernel_rfl) ?_
      repeat (go_big_quiet_step ((first | (go_at_call 10; with_reducible exact KW.calls (HSec.out _)) | (go_at_call 21; with_reducible exact KW.calls (HSecr.out _)) | (go_at_call 15; with_reducible exact KW.calls (slots_refHard t0 t1 t2 _)) | (go_at_call 12; first | with_reducible exact KW.calls (slots_ref s0 s1 s2 s3 s4 s5 s6 _) | with_reducible exact KW.calls (slots_ref v snap log area half goal step _)))))
      refine wpQuiet_nil ?_
      intro s4'
      replace hb := hb.trans (s4'.keep.below (HS.out _ hb) fun _ q => q.elim)
      clear k0 p0 q0 k1 p1 q1 k2 p2 q2 k3 p3 q3 k4 p4 q4 k5 p5 q5 k6 p6 q6 i0 j0 i1 j1 i2 j2 HF HN1 HN2 HN3 HN4
      generalize s4'.w = w11 at *
      go_wp2_with fail
      go_ret
      exact ⟨rfl, by rw [HRR.out]; exact hb⟩
  case true =>
    obtain ⟨c0, c1, c2, c3, c4, c5, c6⟩ := HF.out.at'
    dsimp only at c0 c1 c2 c3 c4 c5 c6
    go_wp2_with fail
    refine (slots_small v snap log area half goal step _).mono ?_
    rintro e w2 ⟨rfl, hbb⟩
    clear c0 c1 c2 c3 c4 c5 c6
    have hk := Keep.of_below (S := fun _ => False) hbb fun _ hk _ => hk
    replace HF := Pin.Aside.mk (HF.out.keep hk id)
    replace HH := Pin.Aside.mk (HH.out.keep hk id)
    replace hb := hb.trans (hk.below (HS.out _ hb) fun _ q => q.elim)
    clear hbb hk
    obtain ⟨y0, hy0⟩ : ∃ y : Int, v.tmod 4 = y := ⟨_, rfl⟩
    rw [hy0]
    obtain ⟨y1, hy1⟩ : ∃ y : Int, snap.tmod 1003 = y := ⟨_, rfl⟩
    rw [hy1]
    obtain ⟨y2, hy2⟩ : ∃ y : Int, log.tmod 1003 = y := ⟨_, rfl⟩
    rw [hy2]
    obtain ⟨y3, hy3⟩ : ∃ y : Int, area.tmod 3 = y := ⟨_, rfl⟩
    rw [hy3]
    obtain ⟨y4, hy4⟩ : ∃ y : Int, half.tmod 3 = y := ⟨_, rfl⟩
    rw [hy4]
    obtain ⟨y5, hy5⟩ : ∃ y : Int, goal.tmod 4 = y := ⟨_, rfl⟩
    rw [hy5]
    obtain ⟨y6, hy6⟩ : ∃ y : Int, step.tmod 11 = y := ⟨_, rfl⟩
    rw [hy6]
    clear hy0 hy1 hy2 hy3 hy4 hy5 hy6
    obtain ⟨c0, c1, c2, c3, c4, c5, c6⟩ := HF.out.at'
    dsimp only at c0 c1 c2 c3 c4 c5 c6
    have f0 := HF.out.fr 0 (by omega)
    have f1 := HF.out.fr 1 (by omega)
    have f2 := HF.out.fr 2 (by omega)
    have f3 := HF.out.fr 3 (by omega)
    have f4 := HF.out.fr 4 (by omega)
    have f5 := HF.out.fr 5 (by omega)
    have f6 := HF.out.fr 6 (by omega)
    have x1 := HH.out.at'.c1
    have g1 := HH.out.fr 1 (by omega)
    have hne : ¬ R = R + 1 := by omega
    have hne2 : ¬ R + 1 = R := by omega
    obtain ⟨o', ho'⟩ : ∃ y : Int, o.tmod 9 = y := ⟨_, rfl⟩
    obtain ⟨ver', hv'⟩ : ∃ y : Int, ver.tmod 4 = y := ⟨_, rfl⟩
    go_upto_region 8 with fail
    replace HF := Pin.Aside.mk ((HF.out.put y0 y1 y2 y3 y4 y5 y6).set (k := 1) hne2 (Value.int .i64 o'))
    replace HH := Pin.Aside.mk ((HH.out.off7 hne (Value.int .i64 y0) (Value.int .i64 y1) (Value.int .i64 y2) (Value.int .i64 y3) (Value.int .i64 y4) (Value.int .i64 y5) (Value.int .i64 y6)).vote o')
    replace hb := below_set7 hb (Nat.le_refl R) (Value.int .i64 y0) (Value.int .i64 y1) (Value.int .i64 y2) (Value.int .i64 y3) (Value.int .i64 y4) (Value.int .i64 y5) (Value.int .i64 y6) |>.setCell (p := ⟨R + 1, 1, none⟩) (Nat.le_succ R) (Value.int .i64 o')
    unfold set7 at HF HH hb
    clear c0 c1 c2 c3 c4 c5 c6 f0 f1 f2 f3 f4 f5 f6 x1 g1 hne hne2 ho' hv'
    generalize ((((((((w2.setCell ⟨R, 0, none⟩ (Value.int .i64 y0)).setCell ⟨R, 1, none⟩ (Value.int .i64 y1)).setCell ⟨R, 2, none⟩ (Value.int .i64 y2)).setCell ⟨R, 3, none⟩ (Value.int .i64 y3)).setCell ⟨R, 4, none⟩ (Value.int .i64 y4)).setCell ⟨R, 5, none⟩ (Value.int .i64 y5)).setCell ⟨R, 6, none⟩ (Value.int .i64 y6)).setCell ⟨R + 1, 1, none⟩ (Value.int .i64 o')) = w3 at *
    obtain ⟨⟨T, ok⟩, hT⟩ : ∃ r, supput ⟨y0, y1, y2, y3, y4, y5, y6⟩ = r := ⟨_, rfl⟩
    obtain ⟨⟨U, fine⟩, hU⟩ : ∃ r, hardput ver' ⟨t, o', c⟩ = r := ⟨_, rfl⟩
    have hTz : T.size ≤ 100 := by
      have : (supput ⟨y0, y1, y2, y3, y4, y5, y6⟩).1.size ≤ 100 := by
        unfold supput
        split
        · rename_i q; exact Nat.le_trans (supS_size _ q) (by decide)
        · exact Nat.zero_le _
      rw [hT] at this; exact this
    have hUz : U.size ≤ 100 := by
      have : (hardput ver' ⟨t, o', c⟩).1.size ≤ 100 := by
        unfold hardput
        split
        · exact Nat.le_trans (hardS_size _ _) (by decide)
        · exact Nat.zero_le _
      rw [hU] at this; exact this
    have HP := Pin.Aside.mk fun W => slots_put_to ⟨y0, y1, y2, y3, y4, y5, y6⟩ _ _ hT W
    have HPr := Pin.Aside.mk fun W => slotsref_putsuper ⟨y0, y1, y2, y3, y4, y5, y6⟩ W
    rw [hT] at HPr
    replace HPr : Pin.Aside (∀ W, Calls Try.prog 11 #[.agg #[.int .i64 y0, .int .i64 y1, .int .i64 y2, .int .i64 y3, .int .i64 y4, .int .i64 y5, .int .i64 y6]] W fun e w' => e = .returned (.tuple #[.string T, .bool ok]) ∧ Below W.heap.size W w') := HPr
    have HU := Pin.Aside.mk fun W => slots_puthard ver' t o' c ht hc W
    rw [hU] at HU
    replace HU : Pin.Aside (∀ W, Calls Try.prog 13 #[.int .i64 ver', .agg #[.int .u64 t, .int .i64 o', .int .u64 c]] W fun e w' => e = .returned (.tuple #[.string U, .bool fine]) ∧ Below W.heap.size W w') := HU
    have HUr := Pin.Aside.mk fun W => slotsref_puthard ver' t o' c ht hc W
    rw [hU] at HUr
    replace HUr : Pin.Aside (∀ W, Calls Try.prog 14 #[.int .i64 ver', .agg #[.int .u64 t, .int .i64 o', .int .u64 c]] W fun e w' => e = .returned (.tuple #[.string U, .bool fine]) ∧ Below W.heap.size W w') := HUr
    obtain ⟨N, hN⟩ : ∃ N, ssectors ⟨y0, y1, y2, y3, y4, y5, y6⟩ = N := ⟨_, rfl⟩
    have HSec := Pin.Aside.mk fun W => slots_sectors ⟨y0, y1, y2, y3, y4, y5, y6⟩ W
    have HSecr := Pin.Aside.mk fun W => slotsref_sectors ⟨y0, y1, y2, y3, y4, y5, y6⟩ W
    rw [hN] at HSec HSecr
    replace HSec : Pin.Aside (∀ W, Calls Try.prog 10 #[.agg #[.int .i64 y0, .int .i64 y1, .int .i64 y2, .int .i64 y3, .int .i64 y4, .int .i64 y5, .int .i64 y6]] W fun e w' => e = .returned (.int .i64 N) ∧ Below W.heap.size W w') := HSec
    replace HSecr : Pin.Aside (∀ W, Calls Try.prog 21 #[.agg #[.int .i64 y0, .int .i64 y1, .int .i64 y2, .int .i64 y3, .int .i64 y4, .int .i64 y5, .int .i64 y6]] W fun e w' => e = .returned (.int .i64 N) ∧ Below W.heap.size W w') := HSecr
    clear hT hU hN
    obtain ⟨c0, c1, c2, c3, c4, c5, c6⟩ := HF.out.at'
    dsimp only at c0 c1 c2 c3 c4 c5 c6
    go_wp2_with fail
    refine (HP.out _).mono ?_
    rintro e w10 ⟨rfl, hbb⟩
    clear c0 c1 c2 c3 c4 c5 c6
    have hk := Keep.of_below (S := fun _ => False) hbb fun _ hk _ => hk
    replace HF := Pin.Aside.mk (HF.out.keep hk id)
    replace HH := Pin.Aside.mk (HH.out.keep hk id)
    replace hb := hb.trans (hk.below (HS.out _ hb) fun _ q => q.elim)
    clear hbb hk
    obtain ⟨c0, c1, c2, c3, c4, c5, c6⟩ := HF.out.at'
    dsimp only at c0 c1 c2 c3 c4 c5 c6
    go_wp2_with fail
    refine (slots_ref y0 y1 y2 y3 y4 y5 y6 _).mono ?_
    rintro e w12 ⟨rfl, hbb⟩
    clear c0 c1 c2 c3 c4 c5 c6
    have hk := Keep.of_below (S := fun _ => False) hbb fun _ hk _ => hk
    replace HF := Pin.Aside.mk (HF.out.keep hk id)
    replace HH := Pin.Aside.mk (HH.out.keep hk id)
    replace hb := hb.trans (hk.below (HS.out _ hb) fun _ q => q.elim)
    clear hbb hk
    go_wp2_with fail
    refine (HPr.out _).mono ?_
    rintro e w13 ⟨rfl, hbb⟩
    have hk := Keep.of_below (S := fun _ => False) hbb fun _ hk _ => hk
    replace HF := Pin.Aside.mk (HF.out.keep hk id)
    replace HH := Pin.Aside.mk (HH.out.keep hk id)
    replace hb := hb.trans (hk.below (HS.out _ hb) fun _ q => q.elim)
    clear hbb hk
    obtain ⟨x0, x1, x2⟩ := HH.out.at'
    go_wp2_with fail
    refine (HU.out _).mono ?_
    rintro e w14 ⟨rfl, hbb⟩
    clear x0 x1 x2
    have hk := Keep.of_below (S := fun _ => False) hbb fun _ hk _ => hk
    replace HF := Pin.Aside.mk (HF.out.keep hk id)
    replace HH := Pin.Aside.mk (HH.out.keep hk id)
    replace hb := hb.trans (hk.below (HS.out _ hb) fun _ q => q.elim)
    clear hbb hk
    obtain ⟨x0, x1, x2⟩ := HH.out.at'
    go_wp2_with fail
    refine (slots_refHard t o' c _).mono ?_
    rintro e w15 ⟨rfl, hbb⟩
    clear x0 x1 x2
    have hk := Keep.of_below (S := fun _ => False) hbb fun _ hk _ => hk
    replace HF := Pin.Aside.mk (HF.out.keep hk id)
    replace HH := Pin.Aside.mk (HH.out.keep hk id)
    replace hb := hb.trans (hk.below (HS.out _ hb) fun _ q => q.elim)
    clear hbb hk
    go_wp2_with fail
    refine (HUr.out _).mono ?_
    rintro e w16 ⟨rfl, hbb⟩
    have hk := Keep.of_below (S := fun _ => False) hbb fun _ hk _ => hk
    replace HF := Pin.Aside.mk (HF.out.keep hk id)
    replace hb := hb.trans (hk.below (HS.out _ hb) fun _ q => q.elim)
    clear hbb hk
    clear HH
    cases own
    case false =>
      obtain ⟨⟨⟨s0, s1, s2, s3, s4, s5, s6⟩, sg⟩, hsg⟩ : ∃ r, supget raw = r := ⟨_, rfl⟩
      obtain ⟨⟨⟨t0, t1, t2⟩, hj, hg⟩, hhg⟩ : ∃ r, hardget raw = r := ⟨_, rfl⟩
      have HG1 := Pin.Aside.mk fun W => slots_get_to raw (Nat.le_trans hraw (by decide)) _ _ hsg W
      have HG2 := Pin.Aside.mk fun W => slotsref_getsuper raw (Nat.le_trans hraw (by decide)) W
      have HG3 := Pin.Aside.mk fun W => slots_gethard_to raw (Nat.le_trans hraw (by decide)) _ _ _ hhg W
      have HG4 := Pin.Aside.mk fun W => slotsref_gethard raw (Nat.le_trans hraw (by decide)) W
      rw [suprefget_eq, hsg] at HG2
      rw [hardrefget_eq, hhg] at HG4
      replace HG2 : Pin.Aside (∀ W, Calls Try.prog 18 #[.string raw] W fun e w' => e = .returned (.tuple #[.agg #[.int .i64 s0, .int .i64 s1, .int .i64 s2, .int .i64 s3, .int .i64 s4, .int .i64 s5, .int .i64 s6], .bool sg]) ∧ Below W.heap.size W w') := HG2
      replace HG4 : Pin.Aside (∀ W, Calls Try.prog 20 #[.string raw] W fun e w' => e = .returned (.tuple #[.agg #[.int .u64 t0, .int .i64 t1, .int .u64 t2], .int .i64 hj, .bool hg]) ∧ Below W.heap.size W w') := HG4
      clear hsg hhg
      go_wp2_with fail
      refine (HG1.out _).mono ?_
      rintro e w20 ⟨rfl, hbb⟩
      have hk := (Keep.of_below (S := fun _ => False) hbb fun _ hk _ => hk).alloc (.cells #[.int .i64 s0, .int .i64 s1, .int .i64 s2, .int .i64 s3, .int .i64 s4, .int .i64 s5, .int .i64 s6] 23)
      have hn := SevenAt.new w20 ⟨s0, s1, s2, s3, s4, s5, s6⟩ 23
      unfold sevenO at hn
      dsimp only at hn
      have HN1 := Pin.Aside.mk hn
      replace HF := Pin.Aside.mk (HF.out.keep hk id)
      replace hb := hb.trans (hk.below (HS.out _ hb) fun _ q => q.elim)
      clear hbb hk hn
      go_upto_region 18 with fail
      generalize w20.alloc (.cells #[.int .i64 s0, .int .i64 s1, .int .i64 s2, .int .i64 s3, .int .i64 s4, .int .i64 s5, .int .i64 s6] 23) = w21 at *
      generalize w20.heap.size = P1 at *
      go_wp2_with fail
      refine (HG2.out _).mono ?_
      rintro e w22 ⟨rfl, hbb⟩
      have hk := (Keep.of_below (S := fun _ => False) hbb fun _ hk _ => hk).alloc (.cells #[.int .i64 s0, .int .i64 s1, .int .i64 s2, .int .i64 s3, .int .i64 s4, .int .i64 s5, .int .i64 s6] 35)
      have hn := SevenAt.new w22 ⟨s0, s1, s2, s3, s4, s5, s6⟩ 35
      unfold sevenO at hn
      dsimp only at hn
      have HN2 := Pin.Aside.mk hn
      replace HF := Pin.Aside.mk (HF.out.keep hk id)
      replace HN1 := Pin.Aside.mk (HN1.out.keep hk id)
      replace hb := hb.trans (hk.below (HS.out _ hb) fun _ q => q.elim)
      clear hbb hk hn
      go_upto_region 19 with fail
      generalize w22.alloc (.cells #[.int .i64 s0, .int .i64 s1, .int .i64 s2, .int .i64 s3, .int .i64 s4, .int .i64 s5, .int .i64 s6] 35) = w23 at *
      generalize w22.heap.size = P2 at *
      go_wp2_with fail
      refine (HG3.out _).mono ?_
      rintro e w24 ⟨rfl, hbb⟩
      have hk := (Keep.of_below (S := fun _ => False) hbb fun _ hk _ => hk).alloc (.cells #[.int .u64 t0, .int .i64 t1, .int .u64 t2] 33)
      have HN3 := Pin.Aside.mk (HardF.new w24 t0 t1 t2 33)
      replace HF := Pin.Aside.mk (HF.out.keep hk id)
      replace HN1 := Pin.Aside.mk (HN1.out.keep hk id)
      replace HN2 := Pin.Aside.mk (HN2.out.keep hk id)
      replace hb := hb.trans (hk.below (HS.out _ hb) fun _ q => q.elim)
      clear hbb hk
      go_upto_region 20 with fail
      generalize w24.alloc (.cells #[.int .u64 t0, .int .i64 t1, .int .u64 t2] 33) = w25 at *
      generalize w24.heap.size = P3 at *
      go_wp2_with fail
      refine (HG4.out _).mono ?_
      rintro e w26 ⟨rfl, hbb⟩
      have hk := (Keep.of_below (S := fun _ => False) hbb fun _ hk _ => hk).alloc (.cells #[.int .u64 t0, .int .i64 t1, .int .u64 t2] 39)
      have HN4 := Pin.Aside.mk (HardF.new w26 t0 t1 t2 39)
      replace HF := Pin.Aside.mk (HF.out.keep hk id)
      replace HN1 := Pin.Aside.mk (HN1.out.keep hk id)
      replace HN2 := Pin.Aside.mk (HN2.out.keep hk id)
      replace HN3 := Pin.Aside.mk (HN3.out.keep hk id)
      replace hb := hb.trans (hk.below (HS.out _ hb) fun _ q => q.elim)
      clear hbb hk
      go_upto_region 21 with fail
      generalize w26.alloc (.cells #[.int .u64 t0, .int .i64 t1, .int .u64 t2] 39) = w9 at *
      generalize w26.heap.size = P4 at *
      have k0 : ∀ s' : KW (fun _ => False) w9, s'.w.cell? ⟨R, 0, none⟩ = some (.int .i64 y0) := fun s' => s'.keep.cell HF.out.at'.c0 id
      have p0 : ∀ s' : KW (fun _ => False) w9, s'.w.cell? ⟨P1, 0, none⟩ = some (.int .i64 s0) := fun s' => s'.keep.cell HN1.out.c0 id
      have q0 : ∀ s' : KW (fun _ => False) w9, s'.w.cell? ⟨P2, 0, none⟩ = some (.int .i64 s0) := fun s' => s'.keep.cell HN2.out.c0 id
      have k1 : ∀ s' : KW (fun _ => False) w9, s'.w.cell? ⟨R, 1, none⟩ = some (.int .i64 y1) := fun s' => s'.keep.cell HF.out.at'.c1 id
      have p1 : ∀ s' : KW (fun _ => False) w9, s'.w.cell? ⟨P1, 1, none⟩ = some (.int .i64 s1) := fun s' => s'.keep.cell HN1.out.c1 id
      have q1 : ∀ s' : KW (fun _ => False) w9, s'.w.cell? ⟨P2, 1, none⟩ = some (.int .i64 s1) := fun s' => s'.keep.cell HN2.out.c1 id
      have k2 : ∀ s' : KW (fun _ => False) w9, s'.w.cell? ⟨R, 2, none⟩ = some (.int .i64 y2) := fun s' => s'.keep.cell HF.out.at'.c2 id
      have p2 : ∀ s' : KW (fun _ => False) w9, s'.w.cell? ⟨P1, 2, none⟩ = some (.int .i64 s2) := fun s' => s'.keep.cell HN1.out.c2 id
      have q2 : ∀ s' : KW (fun _ => False) w9, s'.w.cell? ⟨P2, 2, none⟩ = some (.int .i64 s2) := fun s' => s'.keep.cell HN2.out.c2 id
      have k3 : ∀ s' : KW (fun _ => False) w9, s'.w.cell? ⟨R, 3, none⟩ = some (.int .i64 y3) := fun s' => s'.keep.cell HF.out.at'.c3 id
      have p3 : ∀ s' : KW (fun _ => False) w9, s'.w.cell? ⟨P1, 3, none⟩ = some (.int .i64 s3) := fun s' => s'.keep.cell HN1.out.c3 id
      have q3 : ∀ s' : KW (fun _ => False) w9, s'.w.cell? ⟨P2, 3, none⟩ = some (.int .i64 s3) := fun s' => s'.keep.cell HN2.out.c3 id
      have k4 : ∀ s' : KW (fun _ => False) w9, s'.w.cell? ⟨R, 4, none⟩ = some (.int .i64 y4) := fun s' => s'.keep.cell HF.out.at'.c4 id
      have p4 : ∀ s' : KW (fun _ => False) w9, s'.w.cell? ⟨P1, 4, none⟩ = some (.int .i64 s4) := fun s' => s'.keep.cell HN1.out.c4 id
      have q4 : ∀ s' : KW (fun _ => False) w9, s'.w.cell? ⟨P2, 4, none⟩ = some (.int .i64 s4) := fun s' => s'.keep.cell HN2.out.c4 id
      have k5 : ∀ s' : KW (fun _ => False) w9, s'.w.cell? ⟨R, 5, none⟩ = some (.int .i64 y5) := fun s' => s'.keep.cell HF.out.at'.c5 id
      have p5 : ∀ s' : KW (fun _ => False) w9, s'.w.cell? ⟨P1, 5, none⟩ = some (.int .i64 s5) := fun s' => s'.keep.cell HN1.out.c5 id
      have q5 : ∀ s' : KW (fun _ => False) w9, s'.w.cell? ⟨P2, 5, none⟩ = some (.int .i64 s5) := fun s' => s'.keep.cell HN2.out.c5 id
      have k6 : ∀ s' : KW (fun _ => False) w9, s'.w.cell? ⟨R, 6, none⟩ = some (.int .i64 y6) := fun s' => s'.keep.cell HF.out.at'.c6 id
      have p6 : ∀ s' : KW (fun _ => False) w9, s'.w.cell? ⟨P1, 6, none⟩ = some (.int .i64 s6) := fun s' => s'.keep.cell HN1.out.c6 id
      have q6 : ∀ s' : KW (fun _ => False) w9, s'.w.cell? ⟨P2, 6, none⟩ = some (.int .i64 s6) := fun s' => s'.keep.cell HN2.out.c6 id
      have i0 : ∀ s' : KW (fun _ => False) w9, s'.w.cell? ⟨P3, 0, none⟩ = some (.int .u64 t0) := fun s' => s'.keep.cell HN3.out.at'.c0 id
      have j0 : ∀ s' : KW (fun _ => False) w9, s'.w.cell? ⟨P4, 0, none⟩ = some (.int .u64 t0) := fun s' => s'.keep.cell HN4.out.at'.c0 id
      have i1 : ∀ s' : KW (fun _ => False) w9, s'.w.cell? ⟨P3, 1, none⟩ = some (.int .i64 t1) := fun s' => s'.keep.cell HN3.out.at'.c1 id
      have j1 : ∀ s' : KW (fun _ => False) w9, s'.w.cell? ⟨P4, 1, none⟩ = some (.int .i64 t1) := fun s' => s'.keep.cell HN4.out.at'.c1 id
      have i2 : ∀ s' : KW (fun _ => False) w9, s'.w.cell? ⟨P3, 2, none⟩ = some (.int .u64 t2) := fun s' => s'.keep.cell HN3.out.at'.c2 id
      have j2 : ∀ s' : KW (fun _ => False) w9, s'.w.cell? ⟨P4, 2, none⟩ = some (.int .u64 t2) := fun s' => s'.keep.cell HN4.out.at'.c2 id
      refine wp_region_keep (fun _ => False) (by kernel_rfl) (by kernel_rfl) ?_
      repeat (go_big_quiet_step ((first | (go_at_call 10; with_reducible exact KW.calls (HSec.out _)) | (go_at_call 21; with_reducible exact KW.calls (HSecr.out _)) | (go_at_call 15; with_reducible exact KW.calls (slots_refHard t0 t1 t2 _)) | (go_at_call 12; first | with_reducible exact KW.calls (slots_ref s0 s1 s2 s3 s4 s5 s6 _) | with_reducible exact KW.calls (slots_ref y0 y1 y2 y3 y4 y5 y6 _)))))
      refine wpQuiet_nil ?_
      intro s4'
      replace hb := hb.trans (s4'.keep.below (HS.out _ hb) fun _ q => q.elim)
      clear k0 p0 q0 k1 p1 q1 k2 p2 q2 k3 p3 q3 k4 p4 q4 k5 p5 q5 k6 p6 q6 i0 j0 i1 j1 i2 j2 HF HN1 HN2 HN3 HN4
      generalize s4'.w = w11 at *
      go_wp2_with fail
      go_ret
      exact ⟨rfl, by rw [HRR.out]; exact hb⟩
    case true =>
      go_wp2_with fail
      refine (bend09 T at' bb hat (Nat.le_trans hTz (by decide)) _).mono ?_
      rintro e w17 ⟨⟨A, hAz, rfl⟩, hbb⟩
      have hk := Keep.of_below (S := fun _ => False) hbb fun _ hk _ => hk
      replace HF := Pin.Aside.mk (HF.out.keep hk id)
      replace hb := hb.trans (hk.below (HS.out _ hb) fun _ q => q.elim)
      clear hbb hk
      go_wp2_with fail
      refine (bend09 U at' bb hat (Nat.le_trans hUz (by decide)) _).mono ?_
      rintro e w18 ⟨⟨B, hBz, rfl⟩, hbb⟩
      have hk := Keep.of_below (S := fun _ => False) hbb fun _ hk _ => hk
      replace HF := Pin.Aside.mk (HF.out.keep hk id)
      replace hb := hb.trans (hk.below (HS.out _ hb) fun _ q => q.elim)
      clear hbb hk
      have hA1 : A.size ≤ 1152921504606846976 := by rw [hAz]; exact Nat.le_trans hTz (by decide)
      have hB1 : B.size ≤ 1152921504606846976 := by rw [hBz]; exact Nat.le_trans hUz (by decide)
      obtain ⟨⟨⟨s0, s1, s2, s3, s4, s5, s6⟩, sg⟩, hsg⟩ : ∃ r, supget A = r := ⟨_, rfl⟩
      obtain ⟨⟨⟨t0, t1, t2⟩, hj, hg⟩, hhg⟩ : ∃ r, hardget B = r := ⟨_, rfl⟩
      have HG1 := Pin.Aside.mk fun W => slots_get_to A hA1 _ _ hsg W
      have HG2 := Pin.Aside.mk fun W => slotsref_getsuper A hA1 W
      have HG3 := Pin.Aside.mk fun W => slots_gethard_to B hB1 _ _ _ hhg W
      have HG4 := Pin.Aside.mk fun W => slotsref_gethard B hB1 W
      rw [suprefget_eq, hsg] at HG2
      rw [hardrefget_eq, hhg] at HG4
      replace HG2 : Pin.Aside (∀ W, Calls Try.prog 18 #[.string A] W fun e w' => e = .returned (.tuple #[.agg #[.int .i64 s0, .int .i64 s1, .int .i64 s2, .int .i64 s3, .int .i64 s4, .int .i64 s5, .int .i64 s6], .bool sg]) ∧ Below W.heap.size W w') := HG2
      replace HG4 : Pin.Aside (∀ W, Calls Try.prog 20 #[.string B] W fun e w' => e = .returned (.tuple #[.agg #[.int .u64 t0, .int .i64 t1, .int .u64 t2], .int .i64 hj, .bool hg]) ∧ Below W.heap.size W w') := HG4
      clear hsg hhg
      go_wp2_with fail
      refine (HG1.out _).mono ?_
      rintro e w20 ⟨rfl, hbb⟩
      have hk := (Keep.of_below (S := fun _ => False) hbb fun _ hk _ => hk).alloc (.cells #[.int .i64 s0, .int .i64 s1, .int .i64 s2, .int .i64 s3, .int .i64 s4, .int .i64 s5, .int .i64 s6] 23)
      have hn := SevenAt.new w20 ⟨s0, s1, s2, s3, s4, s5, s6⟩ 23
      unfold sevenO at hn
      dsimp only at hn
      have HN1 := Pin.Aside.mk hn
      replace HF := Pin.Aside.mk (HF.out.keep hk id)
      replace hb := hb.trans (hk.below (HS.out _ hb) fun _ q => q.elim)
      clear hbb hk hn
      go_upto_region 18 with fail
      generalize w20.alloc (.cells #[.int .i64 s0, .int .i64 s1, .int .i64 s2, .int .i64 s3, .int .i64 s4, .int .i64 s5, .int .i64 s6] 23) = w21 at *
      generalize w20.heap.size = P1 at *
      go_wp2_with fail
      refine (HG2.out _).mono ?_
      rintro e w22 ⟨rfl, hbb⟩
      have hk := (Keep.of_below (S := fun _ => False) hbb fun _ hk _ => hk).alloc (.cells #[.int .i64 s0, .int .i64 s1, .int .i64 s2, .int .i64 s3, .int .i64 s4, .int .i64 s5, .int .i64 s6] 35)
      have hn := SevenAt.new w22 ⟨s0, s1, s2, s3, s4, s5, s6⟩ 35
      unfold sevenO at hn
      dsimp only at hn
      have HN2 := Pin.Aside.mk hn
      replace HF := Pin.Aside.mk (HF.out.keep hk id)
      replace HN1 := Pin.Aside.mk (HN1.out.keep hk id)
      replace hb := hb.trans (hk.below (HS.out _ hb) fun _ q => q.elim)
      clear hbb hk hn
      go_upto_region 19 with fail
      generalize w22.alloc (.cells #[.int .i64 s0, .int .i64 s1, .int .i64 s2, .int .i64 s3, .int .i64 s4, .int .i64 s5, .int .i64 s6] 35) = w23 at *
      generalize w22.heap.size = P2 at *
      go_wp2_with fail
      refine (HG3.out _).mono ?_
      rintro e w24 ⟨rfl, hbb⟩
      have hk := (Keep.of_below (S := fun _ => False) hbb fun _ hk _ => hk).alloc (.cells #[.int .u64 t0, .int .i64 t1, .int .u64 t2] 33)
      have HN3 := Pin.Aside.mk (HardF.new w24 t0 t1 t2 33)
      replace HF := Pin.Aside.mk (HF.out.keep hk id)
      replace HN1 := Pin.Aside.mk (HN1.out.keep hk id)
      replace HN2 := Pin.Aside.mk (HN2.out.keep hk id)
      replace hb := hb.trans (hk.below (HS.out _ hb) fun _ q => q.elim)
      clear hbb hk
      go_upto_region 20 with fail
      generalize w24.alloc (.cells #[.int .u64 t0, .int .i64 t1, .int .u64 t2] 33) = w25 at *
      generalize w24.heap.size = P3 at *
      go_wp2_with fail
      refine (HG4.out _).mono ?_
      rintro e w26 ⟨rfl, hbb⟩
      have hk := (Keep.of_below (S := fun _ => False) hbb fun _ hk _ => hk).alloc (.cells #[.int .u64 t0, .int .i64 t1, .int .u64 t2] 39)
      have HN4 := Pin.Aside.mk (HardF.new w26 t0 t1 t2 39)
      replace HF := Pin.Aside.mk (HF.out.keep hk id)
      replace HN1 := Pin.Aside.mk (HN1.out.keep hk id)
      replace HN2 := Pin.Aside.mk (HN2.out.keep hk id)
      replace HN3 := Pin.Aside.mk (HN3.out.keep hk id)
      replace hb := hb.trans (hk.below (HS.out _ hb) fun _ q => q.elim)
      clear hbb hk
      go_upto_region 21 with fail
      generalize w26.alloc (.cells #[.int .u64 t0, .int .i64 t1, .int .u64 t2] 39) = w9 at *
      generalize w26.heap.size = P4 at *
      have k0 : ∀ s' : KW (fun _ => False) w9, s'.w.cell? ⟨R, 0, none⟩ = some (.int .i64 y0) := fun s' => s'.keep.cell HF.out.at'.c0 id
      have p0 : ∀ s' : KW (fun _ => False) w9, s'.w.cell? ⟨P1, 0, none⟩ = some (.int .i64 s0) := fun s' => s'.keep.cell HN1.out.c0 id
      have q0 : ∀ s' : KW (fun _ => False) w9, s'.w.cell? ⟨P2, 0, none⟩ = some (.int .i64 s0) := fun s' => s'.keep.cell HN2.out.c0 id
      have k1 : ∀ s' : KW (fun _ => False) w9, s'.w.cell? ⟨R, 1, none⟩ = some (.int .i64 y1) := fun s' => s'.keep.cell HF.out.at'.c1 id
      have p1 : ∀ s' : KW (fun _ => False) w9, s'.w.cell? ⟨P1, 1, none⟩ = some (.int .i64 s1) := fun s' => s'.keep.cell HN1.out.c1 id
      have q1 : ∀ s' : KW (fun _ => False) w9, s'.w.cell? ⟨P2, 1, none⟩ = some (.int .i64 s1) := fun s' => s'.keep.cell HN2.out.c1 id
      have k2 : ∀ s' : KW (fun _ => False) w9, s'.w.cell? ⟨R, 2, none⟩ = some (.int .i64 y2) := fun s' => s'.keep.cell HF.out.at'.c2 id
      have p2 : ∀ s' : KW (fun _ => False) w9, s'.w.cell? ⟨P1, 2, none⟩ = some (.int .i64 s2) := fun s' => s'.keep.cell HN1.out.c2 id
      have q2 : ∀ s' : KW (fun _ => False) w9, s'.w.cell? ⟨P2, 2, none⟩ = some (.int .i64 s2) := fun s' => s'.keep.cell HN2.out.c2 id
      have k3 : ∀ s' : KW (fun _ => False) w9, s'.w.cell? ⟨R, 3, none⟩ = some (.int .i64 y3) := fun s' => s'.keep.cell HF.out.at'.c3 id
      have p3 : ∀ s' : KW (fun _ => False) w9, s'.w.cell? ⟨P1, 3, none⟩ = some (.int .i64 s3) := fun s' => s'.keep.cell HN1.out.c3 id
      have q3 : ∀ s' : KW (fun _ => False) w9, s'.w.cell? ⟨P2, 3, none⟩ = some (.int .i64 s3) := fun s' => s'.keep.cell HN2.out.c3 id
      have k4 : ∀ s' : KW (fun _ => False) w9, s'.w.cell? ⟨R, 4, none⟩ = some (.int .i64 y4) := fun s' => s'.keep.cell HF.out.at'.c4 id
      have p4 : ∀ s' : KW (fun _ => False) w9, s'.w.cell? ⟨P1, 4, none⟩ = some (.int .i64 s4) := fun s' => s'.keep.cell HN1.out.c4 id
      have q4 : ∀ s' : KW (fun _ => False) w9, s'.w.cell? ⟨P2, 4, none⟩ = some (.int .i64 s4) := fun s' => s'.keep.cell HN2.out.c4 id
      have k5 : ∀ s' : KW (fun _ => False) w9, s'.w.cell? ⟨R, 5, none⟩ = some (.int .i64 y5) := fun s' => s'.keep.cell HF.out.at'.c5 id
      have p5 : ∀ s' : KW (fun _ => False) w9, s'.w.cell? ⟨P1, 5, none⟩ = some (.int .i64 s5) := fun s' => s'.keep.cell HN1.out.c5 id
      have q5 : ∀ s' : KW (fun _ => False) w9, s'.w.cell? ⟨P2, 5, none⟩ = some (.int .i64 s5) := fun s' => s'.keep.cell HN2.out.c5 id
      have k6 : ∀ s' : KW (fun _ => False) w9, s'.w.cell? ⟨R, 6, none⟩ = some (.int .i64 y6) := fun s' => s'.keep.cell HF.out.at'.c6 id
      have p6 : ∀ s' : KW (fun _ => False) w9, s'.w.cell? ⟨P1, 6, none⟩ = some (.int .i64 s6) := fun s' => s'.keep.cell HN1.out.c6 id
      have q6 : ∀ s' : KW (fun _ => False) w9, s'.w.cell? ⟨P2, 6, none⟩ = some (.int .i64 s6) := fun s' => s'.keep.cell HN2.out.c6 id
      have i0 : ∀ s' : KW (fun _ => False) w9, s'.w.cell? ⟨P3, 0, none⟩ = some (.int .u64 t0) := fun s' => s'.keep.cell HN3.out.at'.c0 id
      have j0 : ∀ s' : KW (fun _ => False) w9, s'.w.cell? ⟨P4, 0, none⟩ = some (.int .u64 t0) := fun s' => s'.keep.cell HN4.out.at'.c0 id
      have i1 : ∀ s' : KW (fun _ => False) w9, s'.w.cell? ⟨P3, 1, none⟩ = some (.int .i64 t1) := fun s' => s'.keep.cell HN3.out.at'.c1 id
      have j1 : ∀ s' : KW (fun _ => False) w9, s'.w.cell? ⟨P4, 1, none⟩ = some (.int .i64 t1) := fun s' => s'.keep.cell HN4.out.at'.c1 id
      have i2 : ∀ s' : KW (fun _ => False) w9, s'.w.cell? ⟨P3, 2, none⟩ = some (.int .u64 t2) := fun s' => s'.keep.cell HN3.out.at'.c2 id
      have j2 : ∀ s' : KW (fun _ => False) w9, s'.w.cell? ⟨P4, 2, none⟩ = some (.int .u64 t2) := fun s' => s'.keep.cell HN4.out.at'.c2 id
      refine wp_region_keep (fun _ => False) (by kernel_rfl) (by kernel_rfl) ?_
      repeat (go_big_quiet_step ((first | (go_at_call 10; with_reducible exact KW.calls (HSec.out _)) | (go_at_call 21; with_reducible exact KW.calls (HSecr.out _)) | (go_at_call 15; with_reducible exact KW.calls (slots_refHard t0 t1 t2 _)) | (go_at_call 12; first | with_reducible exact KW.calls (slots_ref s0 s1 s2 s3 s4 s5 s6 _) | with_reducible exact KW.calls (slots_ref y0 y1 y2 y3 y4 y5 y6 _)))))
      refine wpQuiet_nil ?_
      intro s4'
      replace hb := hb.trans (s4'.keep.below (HS.out _ hb) fun _ q => q.elim)
      clear k0 p0 q0 k1 p1 q1 k2 p2 q2 k3 p3 q3 k4 p4 q4 k5 p5 q5 k6 p6 q6 i0 j0 i1 j1 i2 j2 HF HN1 HN2 HN3 HN4
      generalize s4'.w = w11 at *
      go_wp2_with fail
      go_ret
      exact ⟨rfl, by rw [HRR.out]; exact hb⟩
end Go.Proofs.Ytpfkpaombiikcaa
