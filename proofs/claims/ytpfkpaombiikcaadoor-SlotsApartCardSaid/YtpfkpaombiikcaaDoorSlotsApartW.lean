/- SlotsApart: its walk. -/
import Derived.Test.YtpfkpaombiikcaaDoorSlE
import Derived.Test.YtpfkpaombiikcaaDoorOpens
set_option maxRecDepth 16000
namespace Go.Pin
open Go.RowKit
set_option linter.unusedVariables false
set_option linter.unusedSimpArgs false
/-- A block that holds a super, or a hard state, and may be written. -/
structure SevenF (w : World) (B : Nat) (s : Sup) : Prop where
  at' : SevenAt w B s
  fr : ∀ i, i < 7 → w.frozen? ⟨B, i, none⟩ = false
structure HardF (w : World) (B : Nat) (t o c : Int) : Prop where
  at' : HardAt w B t o c
  fr : ∀ i, i < 3 → w.frozen? ⟨B, i, none⟩ = false
theorem SevenF.lt {w : World} {B : Nat} {s : Sup} (h : SevenF w B s) : B < w.heap.size := World.block_lt_of_cell? (a := ⟨B, 0, none⟩) _ h.at'.c0
theorem HardF.lt {w : World} {B : Nat} {t o c : Int} (h : HardF w B t o c) : B < w.heap.size := World.block_lt_of_cell? (a := ⟨B, 0, none⟩) _ h.at'.c0
theorem SevenF.keep {S : Nat → Prop} {a w : World} {B : Nat} {s : Sup} (h : SevenF a B s) (hk : Keep S a w) (hn : ¬ S B) : SevenF w B s :=
  ⟨h.at'.keep hk hn, fun i hi => by rw [hk.frozen (p := ⟨B, i, none⟩) h.lt hn]; exact h.fr i hi⟩
theorem HardF.keep {S : Nat → Prop} {a w : World} {B : Nat} {t o c : Int} (h : HardF a B t o c) (hk : Keep S a w) (hn : ¬ S B) : HardF w B t o c :=
  ⟨h.at'.keep hk hn, fun i hi => by rw [hk.frozen (p := ⟨B, i, none⟩) h.lt hn]; exact h.fr i hi⟩
theorem SevenF.new (w : World) (s : Sup) (t : TypeId) : SevenF (w.alloc (sevenO s t)) w.heap.size s :=
  ⟨SevenAt.new w s t, fun i _ => World.frozen?_alloc_at _ _ _ _ rfl⟩
theorem HardF.new (w : World) (t o c : Int) (ty : TypeId) : HardF (w.alloc (.cells #[.int .u64 t, .int .i64 o, .int .u64 c] ty)) w.heap.size t o c :=
  have h := SevAt.new w #[.int .u64 t, .int .i64 o, .int .u64 c] ty 3 rfl
  ⟨⟨h.get3.1, h.get3.2.1, h.get3.2.2⟩, fun i _ => World.frozen?_alloc_at _ _ _ _ rfl⟩
theorem SevenF.set {w : World} {B : Nat} {s : Sup} (h : SevenF w B s) {R k : Nat} (hne : R ≠ B) (v : Value) : SevenF (w.setCell ⟨R, k, none⟩ v) B s :=
  have o : ∀ i, (w.setCell ⟨R, k, none⟩ v).cell? ⟨B, i, none⟩ = w.cell? ⟨B, i, none⟩ := fun i => World.cell?_setCell_other _ _ _ _ (fun q => hne (congrArg Addr.block q))
  ⟨⟨by rw [o]; exact h.at'.c0, by rw [o]; exact h.at'.c1, by rw [o]; exact h.at'.c2, by rw [o]; exact h.at'.c3, by rw [o]; exact h.at'.c4, by rw [o]; exact h.at'.c5, by rw [o]; exact h.at'.c6⟩, fun i hi => by rw [World.frozen?_setCell]; exact h.fr i hi⟩
theorem HardF.set {w : World} {B : Nat} {t o c : Int} (h : HardF w B t o c) {R k : Nat} (hne : R ≠ B) (v : Value) : HardF (w.setCell ⟨R, k, none⟩ v) B t o c :=
  have o : ∀ i, (w.setCell ⟨R, k, none⟩ v).cell? ⟨B, i, none⟩ = w.cell? ⟨B, i, none⟩ := fun i => World.cell?_setCell_other _ _ _ _ (fun q => hne (congrArg Addr.block q))
  ⟨⟨by rw [o]; exact h.at'.c0, by rw [o]; exact h.at'.c1, by rw [o]; exact h.at'.c2⟩, fun i hi => by rw [World.frozen?_setCell]; exact h.fr i hi⟩
theorem SevAt.ofSeven {w : World} {B : Nat} {s : Sup} (h : SevenF w B s) : SevAt w B 7 (fun i => (#[.int .i64 s.v, .int .i64 s.snap, .int .i64 s.log, .int .i64 s.area, .int .i64 s.half, .int .i64 s.goal, .int .i64 s.step] : Array Value).getD i undef) :=
  ⟨fun i hi => by
    obtain ⟨⟨c0, c1, c2, c3, c4, c5, c6⟩, _⟩ := h
    rcases (show i = 0 ∨ i = 1 ∨ i = 2 ∨ i = 3 ∨ i = 4 ∨ i = 5 ∨ i = 6 by omega) with rfl | rfl | rfl | rfl | rfl | rfl | rfl <;> assumption, h.fr⟩
theorem SevenF.area {w : World} {B : Nat} {s : Sup} (h : SevenF w B s) (x : Int) : SevenF (w.setCell ⟨B, 3, none⟩ (.int .i64 x)) B ⟨s.v, s.snap, s.log, x, s.half, s.goal, s.step⟩ := by
  have g := (SevAt.ofSeven h).set 3 (by omega) (.int .i64 x)
  obtain ⟨e0, e1, e2, e3, e4, e5, e6⟩ := g.get7
  exact ⟨⟨e0, e1, e2, e3, e4, e5, e6⟩, g.fr⟩
theorem SevAt.ofHard {w : World} {B : Nat} {t o c : Int} (h : HardF w B t o c) : SevAt w B 3 (fun i => (#[.int .u64 t, .int .i64 o, .int .u64 c] : Array Value).getD i undef) :=
  ⟨fun i hi => by
    obtain ⟨⟨c0, c1, c2⟩, _⟩ := h
    rcases (show i = 0 ∨ i = 1 ∨ i = 2 by omega) with rfl | rfl | rfl <;> assumption, h.fr⟩
theorem HardF.put {w : World} {B : Nat} {t o c : Int} (h : HardF w B t o c) (t' o' c' : Int) : HardF (((w.setCell ⟨B, 0, none⟩ (.int .u64 t')).setCell ⟨B, 1, none⟩ (.int .i64 o')).setCell ⟨B, 2, none⟩ (.int .u64 c')) B t' o' c' := by
  have g := (((SevAt.ofHard h).set 0 (by omega) (.int .u64 t')).set 1 (by omega) (.int .i64 o')).set 2 (by omega) (.int .u64 c')
  obtain ⟨e0, e1, e2⟩ := g.get3
  exact ⟨⟨e0, e1, e2⟩, g.fr⟩
theorem SlotsD.mono {D : Dv} {n N M : Nat} {s : Sup} {h : Hd} (q : SlotsD D n N s h) (hM : N ≤ M) : SlotsD D n M s h :=
  ⟨q.ok, q.live, q.nn, q.big, let ⟨g, i, a, b, c⟩ := q.s0; ⟨g, i, a, b, by omega⟩, let ⟨b, g, i, c, e1, e2, e3, e4⟩ := q.h2; ⟨b, g, i, c, e1, e2, by omega, e4⟩⟩
theorem DevAt.setO {w : World} {b f m : Nat} {d : Dv} (h : DevAt w b f m d) {R k : Nat} (hne : ¬ devS b f m R) (v : Value) : DevAt (w.setCell ⟨R, k, none⟩ v) b f m d :=
  h.keep (S := fun j => j = R) (Keep.setCell (S := fun j => j = R) (p := ⟨R, k, none⟩) (Keep.refl _ w) (.inl rfl) v) ⟨fun q => hne (.inl q.symm), fun q => hne (.inr (.inl q.symm)), fun q => hne (.inr (.inr q.symm))⟩
end Go.Pin
namespace Go.Proofs.YtpfkpaombiikcaaDoor
open Go.RowKit Go.Pin
set_option linter.unusedVariables false
set_option linter.unusedSimpArgs false
set_option maxHeartbeats 4000000 in
theorem slotsApart_walk (a : Option Addr) (len cap : Nat) (area : Bool) (w : World) (h : isSlice [isInt .u64, isInt .i64, isInt .u64] w (.slice a len cap)) :
    Calls Tryd.prog 10 #[.slice a len cap, .bool area] w fun e w' => e = .returned (.bool true) ∧ Below w.heap.size w w' := by
  obtain ⟨_, _, _, h1, hlc, hcap, hdeeds⟩ := h
  cases h1
  have hlen : len ≤ 9223372036854775807 := by omega
  have Hd := Pin.Aside.mk hdeeds
  have hb := Below.refl w.heap.size w
  clear hdeeds
  go_enter Tryd.func10, Tryd.ntmps10
  go_wp2_with fail
  refine (slots_examples _).mono ?_
  rintro e w1 ⟨rfl, hbb⟩
  replace hb := Below.next hb hbb
  have lw1 : w.heap.size ≤ w1.heap.size := hb.size
  clear hbb
  generalize hRR : w.heap.size = R at *
  have HRR := Pin.Aside.mk hRR
  have HS := Pin.Aside.mk (show ∀ x, Below R w x → R ≤ x.heap.size from fun x h => by have := h.size; omega)
  clear hRR
  have hSF := SevenF.new w1 ⟨2, 1, 1, 0, 0, 0, 0⟩ 65
  replace hb := hb.alloc lw1 (sevenO ⟨2, 1, 1, 0, 0, 0, 0⟩ 65)
  unfold sevenO at hSF hb
  have HSF := Pin.Aside.mk hSF
  have lB := hSF.lt
  clear hSF
  go_upto_region 5 with fail
  generalize w1.alloc (.cells #[.int .i64 2, .int .i64 1, .int .i64 1, .int .i64 0, .int .i64 0, .int .i64 0, .int .i64 0] 65) = w2 at *
  generalize w1.heap.size = B at *
  go_wp2_with fail
  with_reducible refine (dev_new' 8 8 rfl (by omega) (by omega) _).mono ?_
  rintro e w3 ⟨bA, fA, mA, rfl, hbA, hfA, hmA, dA, hbb⟩
  replace HSF := Pin.Aside.mk (HSF.out.keep (Keep.of_below (S := fun _ => False) hbb fun _ hk _ => hk) id)
  replace hb := hb.trans (hbb.mono (HS.out _ hb))
  have jA : R ≤ bA ∧ R ≤ fA ∧ R ≤ mA := by omega
  have KB := Pin.Aside.mk (show ¬ devS bA fA mA B by unfold devS; omega)
  have JA := Pin.Aside.mk jA
  clear hbb hbA hfA hmA jA lB
  obtain ⟨D1, hD1, q1⟩ := SlotsD.first 8 (by omega) (by omega) ⟨2, 1, 1, 0, 0, 0, 0⟩ (by decide)
  have HD1 := Pin.Aside.mk hD1
  have HQ := Pin.Aside.mk q1
  clear hD1 q1
  obtain ⟨c0, c1, c2, c3, c4, c5, c6⟩ := HSF.out.at'
  dsimp only at c0 c1 c2 c3 c4 c5 c6
  go_wp2_with fail
  refine (slots_setsuper_to bA fA mA _ ⟨2, 1, 1, 0, 0, 0, 0⟩ _ _ HD1.out _ dA).mono ?_
  rintro e w4 ⟨rfl, qA, hkk⟩
  replace HSF := Pin.Aside.mk (HSF.out.keep hkk KB.out)
  replace hb := Below.dev hb hkk (HS.out _ hb) JA.out.1 JA.out.2.1 JA.out.2.2
  clear dA hkk c0 c1 c2 c3 c4 c5 c6 HD1
  have hk := (Keep.refl (fun _ => False) w4).alloc (.cells #[.int .u64 0, .int .i64 0, .int .u64 0] 63)
  have hLF := HardF.new w4 0 0 0 63
  have lRw := HS.out _ hb
  have KL := Pin.Aside.mk (show ¬ devS bA fA mA w4.heap.size ∧ w4.heap.size ≠ B ∧ R ≤ w4.heap.size by
    have h1 := qA.lt
    have h2 := HSF.out.lt
    unfold devS; omega)
  replace HSF := Pin.Aside.mk (HSF.out.keep hk id)
  have HLF := Pin.Aside.mk hLF
  have dA := qA.keep hk ⟨id, id, id⟩
  replace hb := hb.trans (hk.below lRw fun _ q => q.elim)
  clear hk hLF lRw qA
  go_upto_region 9 with fail
  generalize w4.alloc (.cells #[.int .u64 0, .int .i64 0, .int .u64 0] 63) = w5 at *
  generalize w4.heap.size = L at *
  have HRB := Pin.Aside.mk (show R ≤ B from lw1)
  go_wp2_with fail
  go_loopw [10] (fun x wr => ∃ (k : Nat) (D : Dv) (ar t o c : Int), k ≤ len ∧ k ≤ 6 ∧ x = .int .i64 k ∧ DevAt wr bA fA mA D ∧ Pin.Aside (SevenF wr B ⟨2, 1, 1, ar, 0, 0, 0⟩) ∧ Pin.Aside (HardF wr L t o c) ∧ Below R w wr ∧ (0 ≤ ar ∧ ar ≤ 1) ∧ Pin.Aside (SlotsD D 8 (1 + 2 * k) ⟨2, 1, 1, ar, 0, 0, 0⟩ ⟨t, o, c⟩)) (fun x _ => len - (intOf x).toNat)
  case atStart => exact ⟨0, D1, 0, 0, 0, 0, by omega, by omega, rfl, dA, HSF, HLF, hb, by omega, HQ⟩
  case round =>
    clear hb dA HSF HLF HQ
    obtain ⟨k, D, ar, t, o, c, hk, hk6, rfl, dA, HSF, HLF, hb, har, HQ⟩ := hrel
    have hright : (⟨2, 1, 1, ar, 0, 0, 0⟩ : Sup).right = true := by simp [Sup.right]; omega
    have Hright := Pin.Aside.mk hright
    clear hright
    by_cases hmm : k < len ∧ (k : Int) < 6
    · obtain ⟨hlt, hmm⟩ := hmm
      obtain ⟨db, dO, rfl, hc⟩ := Hd.out (by omega)
      have hkw : Keep (fun _ => False) w wr := Keep.of_below hb fun _ hk _ => by rw [← HRR.out]; exact hk
      obtain ⟨_, x0, t', rfl, tb⟩ := hc k hlt 0 _ rfl
      obtain ⟨_, x1, o', rfl, ob⟩ := hc k hlt 1 _ rfl
      obtain ⟨_, x2, c', rfl, cb⟩ := hc k hlt 2 _ rfl
      replace tb := bounds_u64 tb
      replace ob := bounds_i64 ob
      replace cb := bounds_u64 cb
      replace x0 := hkw.cell x0 id
      replace x1 := hkw.cell x1 id
      replace x2 := hkw.cell x2 id
      replace x0 : wr.cell? ⟨db, dO + k * 3, none⟩ = _ := x0
      replace x1 : wr.cell? ⟨db, dO + k * 3 + 1, none⟩ = _ := x1
      replace x2 : wr.cell? ⟨db, dO + k * 3 + 2, none⟩ = _ := x2
      have hk0 : (0 : Int) ≤ (k : Int) := by omega
      have hk1 : (k : Int) < (len : Int) := by omega
      obtain ⟨O, hO⟩ : ∃ O, wrap64 ((IntKind.u64.wrap o').tmod 8) = O := ⟨_, rfl⟩
      have hO7 : 0 ≤ O ∧ O ≤ 7 := by
        have h1 : 0 ≤ IntKind.u64.wrap o' := by rw [IntKind.wrap_u64]; omega
        rw [Int.tmod_eq_emod_of_nonneg h1] at hO
        rw [← hO, wrap64]; omega
      clear hc hkw
      go_upto_region 14 with fail
      have hk := (Keep.refl (fun _ => False) wr).alloc (.cells #[.int .u64 t', .int .i64 O, .int .u64 c'] 63)
      have HV := Pin.Aside.mk (HardF.new wr t' O c' 63)
      have lwr := HS.out _ hb
      have NV := Pin.Aside.mk (show ¬ devS bA fA mA wr.heap.size ∧ L ≠ wr.heap.size ∧ B ≠ wr.heap.size by
        have h1 := dA.lt
        have h2 := HSF.out.lt
        have h3 := HLF.out.lt
        unfold devS; omega)
      replace HSF := Pin.Aside.mk (HSF.out.keep hk id)
      replace HLF := Pin.Aside.mk (HLF.out.keep hk id)
      replace dA := dA.keep hk ⟨id, id, id⟩
      replace hb := hb.trans (hk.below lwr fun _ q => q.elim)
      obtain ⟨D2, hD2, q2⟩ := HQ.out.hard (by omega) (1 + (k : Int) % 2) (by omega) ⟨t', O, c'⟩ ⟨tb.1, tb.2, cb.1, cb.2⟩ hO7
      have HD2 := Pin.Aside.mk hD2
      have HQ2 := Pin.Aside.mk q2
      have hl2 := q2.load Hright.out (by unfold ssectors; rw [if_pos Hright.out]; dsimp only; omega)
      have HL2 := Pin.Aside.mk hl2
      generalize wr.alloc (.cells #[.int .u64 t', .int .i64 O, .int .u64 c'] 63) = w6 at *
      generalize wr.heap.size = V at *
      clear x0 x1 x2 hk lwr HQ hD2 q2 hl2 hO
      obtain ⟨x0, x1, x2⟩ := HV.out.at'
      go_wp2_with fail
      refine (slots_sethard_to bA fA mA _ (1 + (k : Int) % 2) t' O c' tb cb _ _ HD2.out _ dA).mono ?_
      rintro e w7 ⟨rfl, qA, hkk⟩
      clear x0 x1 x2
      replace HSF := Pin.Aside.mk (HSF.out.keep hkk KB.out)
      replace HLF := Pin.Aside.mk (HLF.out.keep hkk KL.out.1)
      replace HV := Pin.Aside.mk (HV.out.keep hkk NV.out.1)
      replace hb := Below.dev hb hkk (HS.out _ hb) JA.out.1 JA.out.2.1 JA.out.2.2
      clear dA hkk
      obtain ⟨x0, x1, x2⟩ := HV.out.at'
      have f0 := HLF.out.fr 0 (by omega)
      have f1 := HLF.out.fr 1 (by omega)
      have f2 := HLF.out.fr 2 (by omega)
      obtain ⟨y0, y1, y2⟩ := HLF.out.at'
      go_upto_region 17 with fail
      have hLB := KL.out.2.1
      replace HSF := Pin.Aside.mk (((HSF.out.set (k := 0) hLB (.int .u64 t')).set (k := 1) hLB (.int .i64 O)).set (k := 2) hLB (.int .u64 c'))
      replace HLF := Pin.Aside.mk (HLF.out.put t' O c')
      have dA := ((qA.setO (k := 0) KL.out.1 (.int .u64 t')).setO (k := 1) KL.out.1 (.int .i64 O)).setO (k := 2) KL.out.1 (.int .u64 c')
      replace hb := below_set (i := 2) (below_set (i := 1) (below_set (i := 0) hb KL.out.2.2 (.int .u64 t')) KL.out.2.2 (.int .i64 O)) KL.out.2.2 (.int .u64 c')
      clear x0 x1 x2 f0 f1 f2 y0 y1 y2 qA HV NV hLB
      generalize ((w7.setCell ⟨L, 0, none⟩ (.int .u64 t')).setCell ⟨L, 1, none⟩ (.int .i64 O)).setCell ⟨L, 2, none⟩ (.int .u64 c') = w8 at *
      have e : True := trivial
      cases area
      case false =>
        have HQ3 := Pin.Aside.mk (show SlotsD D2 8 (1 + 2 * (k + 1)) ⟨2, 1, 1, ar, 0, 0, 0⟩ ⟨t', O, c'⟩ from HQ2.out.mono (by omega))
        go_wp2_with fail
        refine (slots_load_to bA fA mA _ ⟨2, 1, 1, ar, 0, 0, 0⟩ ⟨t', O, c'⟩ 0 HL2.out _ dA).mono ?_
        rintro e w10 ⟨rfl, hbb⟩
        have hk := ((Keep.of_below (S := fun _ => False) hbb fun _ hk _ => hk).alloc (.cells #[.int .i64 2, .int .i64 1, .int .i64 1, .int .i64 ar, .int .i64 0, .int .i64 0, .int .i64 0] 65)).alloc (.cells #[.int .u64 t', .int .i64 O, .int .u64 c'] 63)
        have hP := (SevenAt.new w10 ⟨2, 1, 1, ar, 0, 0, 0⟩ 65).keep ((Keep.refl (fun _ => False) _).alloc (.cells #[.int .u64 t', .int .i64 O, .int .u64 c'] 63)) id
        have hQ' := SevAt.new (w10.alloc (.cells #[.int .i64 2, .int .i64 1, .int .i64 1, .int .i64 ar, .int .i64 0, .int .i64 0, .int .i64 0] 65)) #[.int .u64 t', .int .i64 O, .int .u64 c'] 63 3 rfl
        have hz : (w10.alloc (.cells #[.int .i64 2, .int .i64 1, .int .i64 1, .int .i64 ar, .int .i64 0, .int .i64 0, .int .i64 0] 65)).heap.size = w10.heap.size + 1 := by simp
        rw [hz] at hQ'
        have hQ : HardAt ((w10.alloc (.cells #[.int .i64 2, .int .i64 1, .int .i64 1, .int .i64 ar, .int .i64 0, .int .i64 0, .int .i64 0] 65)).alloc (.cells #[.int .u64 t', .int .i64 O, .int .u64 c'] 63)) (w10.heap.size + 1) t' O c' := ⟨hQ'.get3.1, hQ'.get3.2.1, hQ'.get3.2.2⟩
        unfold sevenO at hP
        replace hb := hb.trans (hk.below (HS.out _ hb) fun _ q => q.elim)
        replace HSF := Pin.Aside.mk (HSF.out.keep hk id)
        replace HLF := Pin.Aside.mk (HLF.out.keep hk id)
        have qA := dA.keep hk ⟨id, id, id⟩
        have HP := Pin.Aside.mk hP
        have HPh := Pin.Aside.mk hQ
        clear hbb hk hQ hQ' hz hP dA
        go_upto_region 22 with fail
        generalize ((w10.alloc (.cells #[.int .i64 2, .int .i64 1, .int .i64 1, .int .i64 ar, .int .i64 0, .int .i64 0, .int .i64 0] 65)).alloc (.cells #[.int .u64 t', .int .i64 O, .int .u64 c'] 63)) = v10 at *
        generalize w10.heap.size = P at *
        obtain ⟨c0, c1, c2, c3, c4, c5, c6⟩ := HSF.out.at'
        obtain ⟨x0, x1, x2⟩ := HLF.out.at'
        obtain ⟨p0, p1, p2, p3, p4, p5, p6⟩ := HP.out
        obtain ⟨y0, y1, y2⟩ := HPh.out
        dsimp only at c0 c1 c2 c3 c4 c5 c6 p0 p1 p2 p3 p4 p5 p6
        go_wp2_with fail
        clear c0 c1 c2 c3 c4 c5 c6 x0 x1 x2 p0 p1 p2 p3 p4 p5 p6 y0 y1 y2
        go_roundw
        case rel =>
          refine ⟨k + 1, D2, ar, t', O, c', by omega, by omega, by simp, qA, HSF, HLF, hb, by omega, ?_⟩
          exact HQ3
        case measure => simp [intOf]; omega
      case true =>
        obtain ⟨D3, hD3, q3⟩ := HQ2.out.super (by omega) ⟨2, 1, 1, 1 - ar, 0, 0, 0⟩ (by simp [Sup.right]; omega)
        have hr3 : (⟨2, 1, 1, 1 - ar, 0, 0, 0⟩ : Sup).right = true := by simp [Sup.right]; omega
        have HD3 := Pin.Aside.mk hD3
        have HL3 := Pin.Aside.mk (q3.load hr3 (by unfold ssectors; rw [if_pos hr3]; dsimp only; omega))
        have HQ3 := Pin.Aside.mk (show SlotsD D3 8 (1 + 2 * (k + 1)) ⟨2, 1, 1, 1 - ar, 0, 0, 0⟩ ⟨t', O, c'⟩ from q3)
        clear hD3 q3 hr3
        have c3 := HSF.out.at'.c3
        have f3 := HSF.out.fr 3 (by omega)
        dsimp only at c3
        have hw3 : IntKind.i64.wrap (1 - ar) = 1 - ar := by rw [IntKind.wrap_i64]; omega
        go_upto_region 19 with fail
        have hLB := KL.out.2.1
        replace HLF := Pin.Aside.mk (HLF.out.set (k := 3) (Ne.symm hLB) (Value.int .i64 (1 - ar)))
        replace HSF := Pin.Aside.mk (HSF.out.area (1 - ar))
        replace dA := dA.setO (k := 3) KB.out (Value.int .i64 (1 - ar))
        replace hb := below_set (i := 3) hb HRB.out (Value.int .i64 (1 - ar))
        clear c3 f3 hLB
        generalize w8.setCell ⟨B, 3, none⟩ (Value.int .i64 (1 - ar)) = w9 at *
        obtain ⟨c0, c1, c2, c3, c4, c5, c6⟩ := HSF.out.at'
        dsimp only at c0 c1 c2 c3 c4 c5 c6
        go_wp2_with fail
        refine (slots_setsuper_to bA fA mA _ ⟨2, 1, 1, 1 - ar, 0, 0, 0⟩ _ _ HD3.out _ dA).mono ?_
        rintro e w11 ⟨rfl, qA, hkk⟩
        clear c0 c1 c2 c3 c4 c5 c6
        replace HSF := Pin.Aside.mk (HSF.out.keep hkk KB.out)
        replace HLF := Pin.Aside.mk (HLF.out.keep hkk KL.out.1)
        replace hb := Below.dev hb hkk (HS.out _ hb) JA.out.1 JA.out.2.1 JA.out.2.2
        clear dA hkk
        have dA := qA
        clear qA
        go_wp2_with fail
        refine (slots_load_to bA fA mA _ ⟨2, 1, 1, (1 - ar), 0, 0, 0⟩ ⟨t', O, c'⟩ 0 HL3.out _ dA).mono ?_
        rintro e w10 ⟨rfl, hbb⟩
        have hk := ((Keep.of_below (S := fun _ => False) hbb fun _ hk _ => hk).alloc (.cells #[.int .i64 2, .int .i64 1, .int .i64 1, .int .i64 (1 - ar), .int .i64 0, .int .i64 0, .int .i64 0] 65)).alloc (.cells #[.int .u64 t', .int .i64 O, .int .u64 c'] 63)
        have hP := (SevenAt.new w10 ⟨2, 1, 1, (1 - ar), 0, 0, 0⟩ 65).keep ((Keep.refl (fun _ => False) _).alloc (.cells #[.int .u64 t', .int .i64 O, .int .u64 c'] 63)) id
        have hQ' := SevAt.new (w10.alloc (.cells #[.int .i64 2, .int .i64 1, .int .i64 1, .int .i64 (1 - ar), .int .i64 0, .int .i64 0, .int .i64 0] 65)) #[.int .u64 t', .int .i64 O, .int .u64 c'] 63 3 rfl
        have hz : (w10.alloc (.cells #[.int .i64 2, .int .i64 1, .int .i64 1, .int .i64 (1 - ar), .int .i64 0, .int .i64 0, .int .i64 0] 65)).heap.size = w10.heap.size + 1 := by simp
        rw [hz] at hQ'
        have hQ : HardAt ((w10.alloc (.cells #[.int .i64 2, .int .i64 1, .int .i64 1, .int .i64 (1 - ar), .int .i64 0, .int .i64 0, .int .i64 0] 65)).alloc (.cells #[.int .u64 t', .int .i64 O, .int .u64 c'] 63)) (w10.heap.size + 1) t' O c' := ⟨hQ'.get3.1, hQ'.get3.2.1, hQ'.get3.2.2⟩
        unfold sevenO at hP
        replace hb := hb.trans (hk.below (HS.out _ hb) fun _ q => q.elim)
        replace HSF := Pin.Aside.mk (HSF.out.keep hk id)
        replace HLF := Pin.Aside.mk (HLF.out.keep hk id)
        have qA := dA.keep hk ⟨id, id, id⟩
        have HP := Pin.Aside.mk hP
        have HPh := Pin.Aside.mk hQ
        clear hbb hk hQ hQ' hz hP dA
        go_upto_region 22 with fail
        generalize ((w10.alloc (.cells #[.int .i64 2, .int .i64 1, .int .i64 1, .int .i64 (1 - ar), .int .i64 0, .int .i64 0, .int .i64 0] 65)).alloc (.cells #[.int .u64 t', .int .i64 O, .int .u64 c'] 63)) = v10 at *
        generalize w10.heap.size = P at *
        obtain ⟨c0, c1, c2, c3, c4, c5, c6⟩ := HSF.out.at'
        obtain ⟨x0, x1, x2⟩ := HLF.out.at'
        obtain ⟨p0, p1, p2, p3, p4, p5, p6⟩ := HP.out
        obtain ⟨y0, y1, y2⟩ := HPh.out
        dsimp only at c0 c1 c2 c3 c4 c5 c6 p0 p1 p2 p3 p4 p5 p6
        go_wp2_with fail
        clear c0 c1 c2 c3 c4 c5 c6 x0 x1 x2 p0 p1 p2 p3 p4 p5 p6 y0 y1 y2
        go_roundw
        case rel =>
          refine ⟨k + 1, D3, (1 - ar), t', O, c', by omega, by omega, by simp, qA, HSF, HLF, hb, by omega, ?_⟩
          exact HQ3
        case measure => simp [intOf]; omega
    · have hk0 : (0 : Int) ≤ (k : Int) := by omega
      have HL := Pin.Aside.mk (HQ.out.load Hright.out (by unfold ssectors; rw [if_pos Hright.out]; dsimp only; omega))
      have hcs : ¬ (k : Int) < (len : Int) ∨ ((k : Int) < (len : Int) ∧ ¬ (k : Int) < 6) := by
        by_cases q : k < len
        · exact .inr ⟨by omega, fun x => hmm ⟨q, x⟩⟩
        · exact .inl (by omega)
      clear hmm
      rcases hcs with h1 | ⟨h1, h2⟩
      · go_wp2_with fail
        refine (slots_load_to bA fA mA _ ⟨2, 1, 1, ar, 0, 0, 0⟩ ⟨t, o, c⟩ 0 HL.out _ dA).mono ?_
        rintro e w10 ⟨rfl, hbb⟩
        have hk := ((Keep.of_below (S := fun _ => False) hbb fun _ hk _ => hk).alloc (.cells #[.int .i64 2, .int .i64 1, .int .i64 1, .int .i64 ar, .int .i64 0, .int .i64 0, .int .i64 0] 65)).alloc (.cells #[.int .u64 t, .int .i64 o, .int .u64 c] 63)
        have hP := (SevenAt.new w10 ⟨2, 1, 1, ar, 0, 0, 0⟩ 65).keep ((Keep.refl (fun _ => False) _).alloc (.cells #[.int .u64 t, .int .i64 o, .int .u64 c] 63)) id
        have hQ' := SevAt.new (w10.alloc (.cells #[.int .i64 2, .int .i64 1, .int .i64 1, .int .i64 ar, .int .i64 0, .int .i64 0, .int .i64 0] 65)) #[.int .u64 t, .int .i64 o, .int .u64 c] 63 3 rfl
        have hz : (w10.alloc (.cells #[.int .i64 2, .int .i64 1, .int .i64 1, .int .i64 ar, .int .i64 0, .int .i64 0, .int .i64 0] 65)).heap.size = w10.heap.size + 1 := by simp
        rw [hz] at hQ'
        have hQ : HardAt ((w10.alloc (.cells #[.int .i64 2, .int .i64 1, .int .i64 1, .int .i64 ar, .int .i64 0, .int .i64 0, .int .i64 0] 65)).alloc (.cells #[.int .u64 t, .int .i64 o, .int .u64 c] 63)) (w10.heap.size + 1) t o c := ⟨hQ'.get3.1, hQ'.get3.2.1, hQ'.get3.2.2⟩
        unfold sevenO at hP
        replace hb := hb.trans (hk.below (HS.out _ hb) fun _ q => q.elim)
        replace HSF := Pin.Aside.mk (HSF.out.keep hk id)
        replace HLF := Pin.Aside.mk (HLF.out.keep hk id)
        have HP := Pin.Aside.mk hP
        have HPh := Pin.Aside.mk hQ
        clear hbb hk hQ hQ' hz hP dA
        go_upto_region 25 with fail
        generalize ((w10.alloc (.cells #[.int .i64 2, .int .i64 1, .int .i64 1, .int .i64 ar, .int .i64 0, .int .i64 0, .int .i64 0] 65)).alloc (.cells #[.int .u64 t, .int .i64 o, .int .u64 c] 63)) = v10 at *
        generalize w10.heap.size = P at *
        obtain ⟨c0, c1, c2, c3, c4, c5, c6⟩ := HSF.out.at'
        obtain ⟨x0, x1, x2⟩ := HLF.out.at'
        obtain ⟨p0, p1, p2, p3, p4, p5, p6⟩ := HP.out
        obtain ⟨y0, y1, y2⟩ := HPh.out
        dsimp only at c0 c1 c2 c3 c4 c5 c6 p0 p1 p2 p3 p4 p5 p6
        have HE := Pin.Aside.mk hb
        go_wp2_with fail
        go_ret
        exact ⟨rfl, by rw [HRR.out]; exact HE.out⟩
      · go_wp2_with fail
        refine (slots_load_to bA fA mA _ ⟨2, 1, 1, ar, 0, 0, 0⟩ ⟨t, o, c⟩ 0 HL.out _ dA).mono ?_
        rintro e w10 ⟨rfl, hbb⟩
        have hk := ((Keep.of_below (S := fun _ => False) hbb fun _ hk _ => hk).alloc (.cells #[.int .i64 2, .int .i64 1, .int .i64 1, .int .i64 ar, .int .i64 0, .int .i64 0, .int .i64 0] 65)).alloc (.cells #[.int .u64 t, .int .i64 o, .int .u64 c] 63)
        have hP := (SevenAt.new w10 ⟨2, 1, 1, ar, 0, 0, 0⟩ 65).keep ((Keep.refl (fun _ => False) _).alloc (.cells #[.int .u64 t, .int .i64 o, .int .u64 c] 63)) id
        have hQ' := SevAt.new (w10.alloc (.cells #[.int .i64 2, .int .i64 1, .int .i64 1, .int .i64 ar, .int .i64 0, .int .i64 0, .int .i64 0] 65)) #[.int .u64 t, .int .i64 o, .int .u64 c] 63 3 rfl
        have hz : (w10.alloc (.cells #[.int .i64 2, .int .i64 1, .int .i64 1, .int .i64 ar, .int .i64 0, .int .i64 0, .int .i64 0] 65)).heap.size = w10.heap.size + 1 := by simp
        rw [hz] at hQ'
        have hQ : HardAt ((w10.alloc (.cells #[.int .i64 2, .int .i64 1, .int .i64 1, .int .i64 ar, .int .i64 0, .int .i64 0, .int .i64 0] 65)).alloc (.cells #[.int .u64 t, .int .i64 o, .int .u64 c] 63)) (w10.heap.size + 1) t o c := ⟨hQ'.get3.1, hQ'.get3.2.1, hQ'.get3.2.2⟩
        unfold sevenO at hP
        replace hb := hb.trans (hk.below (HS.out _ hb) fun _ q => q.elim)
        replace HSF := Pin.Aside.mk (HSF.out.keep hk id)
        replace HLF := Pin.Aside.mk (HLF.out.keep hk id)
        have HP := Pin.Aside.mk hP
        have HPh := Pin.Aside.mk hQ
        clear hbb hk hQ hQ' hz hP dA
        go_upto_region 25 with fail
        generalize ((w10.alloc (.cells #[.int .i64 2, .int .i64 1, .int .i64 1, .int .i64 ar, .int .i64 0, .int .i64 0, .int .i64 0] 65)).alloc (.cells #[.int .u64 t, .int .i64 o, .int .u64 c] 63)) = v10 at *
        generalize w10.heap.size = P at *
        obtain ⟨c0, c1, c2, c3, c4, c5, c6⟩ := HSF.out.at'
        obtain ⟨x0, x1, x2⟩ := HLF.out.at'
        obtain ⟨p0, p1, p2, p3, p4, p5, p6⟩ := HP.out
        obtain ⟨y0, y1, y2⟩ := HPh.out
        dsimp only at c0 c1 c2 c3 c4 c5 c6 p0 p1 p2 p3 p4 p5 p6
        have HE := Pin.Aside.mk hb
        go_wp2_with fail
        go_ret
        exact ⟨rfl, by rw [HRR.out]; exact HE.out⟩
end Go.Proofs.YtpfkpaombiikcaaDoor
