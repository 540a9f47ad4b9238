/- VdiskClients: its walk. -/
import Derived.Test.YtpebpcmppcpkdaaDoorVdiskClientsM
import Derived.Test.YtpebpcmppcpkdaaDoorRegK
import Derived.Test.YtpebpcmppcpkdaaDoorRegT
import Derived.OpenShut
set_option maxRecDepth 16000
namespace Go.Pin
open Go.RowKit
set_option linter.unusedVariables false
set_option linter.unusedSimpArgs false
/-- A slice of whole numbers that came in. -/
def IsRow (k : IntKind) (w : World) (a : Option Addr) (len cap : Nat) (zs : List Int) : Prop :=
  (a = none ∧ len = 0 ∧ cap = 0 ∧ zs = []) ∨
  ∃ x, a = some x ∧ len ≤ cap ∧ cap ≤ maxLen ∧ zs.length = cap ∧ (∀ i, i < zs.length → w.cell? (x.add i) = some (.int k (zs.getD i 0))) ∧ ∀ n ∈ zs, (Lit.int k n).wf = true
theorem Keep.frozen_at' {S : Nat → Prop} {a b : World} (h : Keep S a b) {p q : Addr} {v : Value} (hc : a.cell? p = some v) (hq : q.block = p.block) (hn : ¬ S q.block) : b.frozen? q = a.frozen? q :=
  h.frozen (by rw [hq]; exact World.block_lt_of_cell? _ _ hc) hn
/-- A row of two numbers. -/
structure Row2 (w : World) (Q : Nat) (x y : Int) : Prop where
  c0 : w.cell? ⟨Q, 0, none⟩ = some (.int .u64 x)
  c1 : w.cell? ⟨Q, 1, none⟩ = some (.int .u64 y)
  fr : ∀ j, w.frozen? ⟨Q, j, none⟩ = false
theorem Row2.keep {S : Nat → Prop} {a w : World} {Q : Nat} {x y : Int} (h : Row2 a Q x y) (hk : Keep S a w) (hn : ¬ S Q) : Row2 w Q x y :=
  ⟨hk.cell h.c0 hn, hk.cell h.c1 hn, fun j => (hk.frozen_at' (q := ⟨Q, j, none⟩) h.c0 rfl hn).trans (h.fr j)⟩
theorem Row2.new (w : World) (x y : Int) (T : TypeId) : Row2 (w.alloc (.cells #[.int .u64 x, .int .u64 y] T)) w.heap.size x y := ⟨by simp, by simp, fun j => by simp⟩
theorem Row2.set0 {w : World} {Q : Nat} {x y : Int} (h : Row2 w Q x y) (z : Int) : Row2 (w.setCell ⟨Q, 0, none⟩ (.int .u64 z)) Q z y :=
  ⟨World.cell?_setCell_same _ _ _ h.c0, by rw [World.cell?_setCell_other _ _ _ _ (by simp)]; exact h.c1, fun j => by rw [World.frozen?_setCell]; exact h.fr j⟩
theorem Row2.set1 {w : World} {Q : Nat} {x y : Int} (h : Row2 w Q x y) (z : Int) : Row2 (w.setCell ⟨Q, 1, none⟩ (.int .u64 z)) Q x z :=
  ⟨by rw [World.cell?_setCell_other _ _ _ _ (by simp)]; exact h.c0, World.cell?_setCell_same _ _ _ h.c1, fun j => by rw [World.frozen?_setCell]; exact h.fr j⟩
end Go.Pin
namespace Go.Proofs.YtpebpcmppcpkdaaDoor
open Go.RowKit Go.Pin
set_option linter.unusedVariables false
set_option linter.unusedSimpArgs false
set_option maxHeartbeats 3200000 in
theorem clients_core (a : Option Addr) (len cap n : Nat) (zs : List Int) (w : World) (hlen : len ≤ 9223372036854775807) (hn : n ≤ len ∧ n ≤ 20 ∧ (n = len ∨ n = 20)) (hlc : len ≤ cap)
    (hz : zs.length = n) (hr : ∀ i, i < n → 0 ≤ zs.getD i 0 ∧ zs.getD i 0 ≤ 255)
    (hc : 0 < n → ∃ b o, a = some ⟨b, o, none⟩ ∧ ∀ i, i < n → w.cell? ⟨b, o + i, none⟩ = some (.int .u8 (zs.getD i 0))) :
    Calls Tryd.prog 6 #[.slice a len cap] w fun e w' => e = .returned (.bool true) ∧ Below w.heap.size w w' := by
  have Hr := Pin.Aside.mk hr
  have Hc := Pin.Aside.mk hc
  have Hn := Pin.Aside.mk hn
  clear hz hr hc hn
  have hb := Below.refl w.heap.size w
  have hB0 : w.heap.size ≤ w.heap.size := Nat.le_refl _
  generalize hB : w.heap.size = B at hb hB0
  have E0 := Pin.Aside.mk (mk_examples15 w)
  have G0 := Pin.Aside.mk (mk_begun 4 (by decide))
  go_enter Tryd.func6, Tryd.ntmps6
  go_wp2_with fail
  refine E0.out.mono ?_
  rintro x' w1 ⟨rfl, hbb⟩
  replace hb := hb.trans (by rw [← hB]; exact hbb)
  clear hbb
  go_wp2_with fail
  refine (G0.out _).mono ?_
  rintro x' w2 ⟨b, mb, mo, rfl, hV, hq, hbb⟩
  have HV := Pin.Aside.mk hV
  have hq1 : B ≤ b := Nat.le_trans (by have := hb.size; omega) hq.1
  have hq2 : B ≤ mb := Nat.le_trans (by have := hb.size; omega) hq.2.1
  have hq3 : B ≤ mo := Nat.le_trans (by have := hb.size; omega) hq.2.2
  replace hb := hb.trans (hbb.mono (by have := hb.size; omega))
  clear hV hq hbb
  have hkm := (Keep.refl (fun _ => False) w2).alloc (.cells #[.int .u64 0, .int .u64 1] 25)
  have HR2 := Pin.Aside.mk (Row2.new w2 0 1 25)
  have HVL := HV.out.lt
  replace HV := Pin.Aside.mk (HV.out.keep' hkm)
  have hQB : B ≤ w2.heap.size := by have := hb.size; omega
  replace hb := hb.trans (hkm.below (B := B) (by have := hb.size; omega) fun _ q => q.elim)
  clear hkm
  go_upto_region 8 with fail
  generalize World.alloc w2 _ = w3 at *
  generalize w2.heap.size = Q at *
  have hb2 := Pin.Aside.mk hb
  clear hb
  go_wp2_with fail
  go_loopw [6] (fun i wr => ∃ (k : Nat) (D : Vd) (p q : Ses), k ≤ n ∧ i = .int .i64 k ∧ Pin.Aside (Below B w wr) ∧ Pin.Aside (VdAt wr b mb mo D) ∧ Pin.Aside (TwoC D p q ∧ p.seq ≤ 2 * k ∧ q.seq ≤ 2 * k + 1) ∧ Pin.Aside (Row2 wr Q p.seq q.seq)) (fun i _ => n - (intOf i).toNat)
  case atStart => exact ⟨0, _, _, _, by omega, rfl, hb2, HV, Pin.Aside.mk ⟨clients_0, by decide, by decide⟩, HR2⟩
  case round =>
    clear HV HR2 hb2
    obtain ⟨k, D, p, q, hkn, rfl, HB, HV, HT, HR2⟩ := hrel
    rename_i wr
    by_cases hlt : k < n
    · have hkl : k < len := by have := Hn.out; omega
      have hk20 : k < 20 := by have := Hn.out; omega
      obtain ⟨bl, ol, rfl, hcell⟩ := Hc.out (by omega)
      obtain ⟨z, hz, hz0, hz1⟩ : ∃ z : Int, zs.getD k 0 = z ∧ 0 ≤ z ∧ z ≤ 255 := ⟨_, rfl, Hr.out k hlt⟩
      have hck := hcell k hlt
      have hbk := World.block_lt_of_cell? _ _ hck
      rw [hz] at hck
      have hlb : bl < B := by rw [← hB]; exact hbk
      have hcw : wr.cell? ⟨bl, ol + k, none⟩ = some (.int .u8 z) := by rw [HB.out.cell (by exact hlb), hck]
      clear hcell hbk hz hck
      obtain ⟨s, hs, hs0⟩ : ∃ s, z.tmod 3 = s ∧ (0 ≤ s ∧ s ≤ 2) := ⟨_, rfl, by rw [Int.tmod_eq_emod_of_nonneg hz0]; omega⟩
      have hp0 := (HT.out.1.ok.seq _ _ HT.out.1.a1).1
      have hq0 := (HT.out.1.ok.seq _ _ HT.out.1.a2).1
      have hp1 := HT.out.2.1
      have hq1 := HT.out.2.2
      by_cases e2 : z.tmod 2 = 0
      · skip
        obtain ⟨N, hN, hN0⟩ : ∃ N, p.seq + s = N ∧ 0 ≤ N := ⟨_, rfl, by omega⟩
        have hNw : IntKind.u64.wrap (p.seq + s) = N := by rw [hN, IntKind.wrap_u64]; omega
        have hNb : N ≤ 100 := by omega
        have HN := Pin.Aside.mk hN
        clear hN
        go_upto_region 12 with fail
        clear e2
        have hcQ := (HR2.out.keep (Keep.refl (fun _ => False) wr).drew id).c0
        have hfQ := (HR2.out.keep (Keep.refl (fun _ => False) wr).drew id).fr 0
        have k0 : ∀ s' : KW (fun _ => False) wr, s'.w.cell? ⟨Q, 0, none⟩ = some (.int .u64 p.seq) := fun s' => s'.keep.cell HR2.out.c0 id
        have k1 : ∀ s' : KW (fun _ => False) wr, s'.w.cell? ⟨bl, ol + k, none⟩ = some (.int .u8 z) := fun s' => s'.keep.cell hcw id
        refine wp_region_stayK (S := fun w' => ∃ s' : KW (fun _ => False) wr, w' = s'.w) 14 14 (by kernel_rfl) (by simp) (by kernel_rfl) (by kernel_rfl) ⟨⟨wr.drew, (Keep.refl _ wr).drew⟩, rfl⟩ ?_
        simp only [List.take_succ_cons, List.take_zero]
        refine wpStay_quietS 14 _ _ (by kernel_rfl) ?_
        simp only [List.take_succ_cons, List.take_zero, List.drop_succ_cons, List.drop_zero]
        repeat (go_big_quiet_step (fail))
        refine wpQuiet_nil ?_
        refine wpStay_nil ?_
        clear k0 k1
        refine wpAnyK_one 14 (by kernel_rfl) rfl (fun K' hK' => ?_)
        go_simp
        refine hK'.out _ _ (fun q => absurd rfl q) ?_
        clear hK' K'
        refine wpAnyK_done (by kernel_rfl) (NoPanic.normal ?_) _
        have hkd : Keep (fun j => j = Q) wr (wr.setCell ⟨Q, 0, none⟩ (.int .u64 N)).drew := ((Keep.refl (fun j => j = Q) wr).setCell (p := ⟨Q, 0, none⟩) (.inl rfl) _).drew
        replace HR2 := Pin.Aside.mk ((HR2.out.set0 N).keep (Keep.refl (fun _ => False) _).drew id)
        replace HB := Pin.Aside.mk (HB.out.trans (hkd.below (B := B) (by have := HB.out.size; omega) (by rintro j rfl; exact hQB)))
        replace HV := Pin.Aside.mk (HV.out.keep hkd (by omega) (by omega) (by omega))
        have hQlt : bl < Q := by omega
        replace hcw := hkd.cell hcw (by show ¬ bl = Q; omega)
        clear hkd hcQ hfQ hNw
        go_upto_region 13 with fail
        generalize (wr.setCell ⟨Q, 0, none⟩ (.int .u64 N)).drew = w4 at *
        obtain ⟨D', r, X', hA, hT', hXs, hr0, hr1⟩ := clients_1 D p q HT.out.1 N (z / 8 % 8) (by have := HN.out; omega) (by omega)
        have A1 := Pin.Aside.mk (fun W (hW : VdAt W b mb mo D) => vd_apply b mb mo D (enOf 1 1 N (z / 8 % 8) 0 ⟨#[120]⟩ noB) (enOf_ok _ _ _ _ _ _ _ (by decide) (by decide) (by omega) (by omega) (by decide) (by decide) (by decide)) HT.out.1.ok W hW)
        rw [hA] at A1
        dsimp only [En.cells, Res.val] at A1
        have HX := Pin.Aside.mk (And.intro hXs (And.intro hr0 (And.intro hr1 hT')))
        clear hA hXs hr0 hr1 hT'
        have hbR : B ≤ w4.heap.size := by have := HB.out.size; omega
        have kQ : ∀ s' : KW (VK b mb mo) w4, s'.w.cell? ⟨Q, 0, none⟩ = some (.int .u64 N) := fun s' => s'.keep.cell HR2.out.c0 (by rintro (q | q | q) <;> (dsimp only at q; omega))
        have kz : ∀ s' : KW (VK b mb mo) w4, s'.w.cell? ⟨bl, ol + k, none⟩ = some (.int .u8 z) := fun s' => s'.keep.cell hcw (by rintro (q | q | q) <;> (dsimp only at q; omega))
        go_cut [8] (fun v wx => ∃ R, v = .pointer (some ⟨R, 0, none⟩) ∧ Pin.Aside (VdAt wx b mb mo D') ∧ Keep (VK b mb mo) w4 wx ∧ wx.cell? ⟨R, 0, none⟩ = some (.int .i64 r.e) ∧ wx.cell? ⟨R, 1, none⟩ = some (.string r.data))
        case first =>
          refine wp_region_stay (S := fun w' => ∃ s' : KW (VK b mb mo) w4, w' = s'.w) 16 (by kernel_rfl) (by simp) (by kernel_rfl) (by kernel_rfl) ⟨⟨w4.drew, (Keep.refl _ w4).drew⟩, rfl⟩ ?_
          simp only [List.take_succ_cons, List.take_zero]
          refine wpStay_quietS 16 _ _ (by kernel_rfl) ?_
          simp only [List.take_succ_cons, List.take_zero, List.drop_succ_cons, List.drop_zero]
          repeat (go_big_quiet_step (fail))
          refine wpQuiet_nil ?_
          refine wpStay_nil ?_
          clear kQ kz
          refine wpAnyH_two 16 17 (by kernel_rfl) rfl rfl (fun K' hK' => ?_) (fun K' hK' => ?_)
          · go_simp
            refine (A1.out _ (HV.out.keep' (Keep.refl _ w4).drew)).mono ?_
            rintro x' w5 ⟨rfl, hV5, hk5⟩
            replace hk5 : Keep (VK b mb mo) w4 w5 := ((Keep.refl _ w4).drew).trans hk5
            refine hK'.out _ _ ⟨⟨w5, hk5⟩, rfl⟩ (fun _ => ?_)
            clear hK' K'
            refine wpAnyH_one 17 (by kernel_rfl) rfl (fun K' hK' => ?_)
            go_simp
            refine hK'.out _ _ ⟨⟨_, hk5.alloc _⟩, rfl⟩ (fun _ => ?_)
            clear hK' K'
            refine wpAnyH_one 18 (by kernel_rfl) rfl (fun K' hK' => ?_)
            go_simp
            have hkA := hk5.alloc (.cells #[.int .i64 r.e, .string r.data] 28)
            refine hK'.out _ _ ⟨⟨_, hkA⟩, rfl⟩ (fun _ => ?_)
            clear hK' K'
            refine wpAnyH_done (by kernel_rfl) (NoPanic.normal ?_) _
            have hV6 := Pin.Aside.mk (hV5.keep' ((Keep.refl (fun _ => False) w5).alloc (.cells #[.int .i64 r.e, .string r.data] 28)))
            have ra : (w5.alloc (.cells #[.int .i64 r.e, .string r.data] 28)).cell? ⟨w5.heap.size, 0, none⟩ = some (.int .i64 r.e) := by simp
            have rb : (w5.alloc (.cells #[.int .i64 r.e, .string r.data] 28)).cell? ⟨w5.heap.size, 1, none⟩ = some (.string r.data) := by simp
            generalize w5.alloc _ = w6 at *
            generalize w5.heap.size = R at *
            go_wp2_with fail
            go_meet
            exact ⟨R, rfl, hV6, hkA, ra, rb⟩
          · go_simp
            have hka := ((Keep.refl (VK b mb mo) w4).alloc (.cells #[.int .i64 0, .string ⟨#[]⟩] 28)).drew
            refine hK'.out _ _ ⟨⟨_, hka⟩, rfl⟩ (fun _ => ?_)
            clear hK' K'
            have ra : ((w4.alloc (.cells #[.int .i64 0, .string ⟨#[]⟩] 28)).drew).cell? ⟨w4.heap.size, 0, none⟩ = some (.int .i64 0) := by simp
            have rb : ((w4.alloc (.cells #[.int .i64 0, .string ⟨#[]⟩] 28)).drew).cell? ⟨w4.heap.size, 1, none⟩ = some (.string ⟨#[]⟩) := by simp
            have rf : ∀ j, ((w4.alloc (.cells #[.int .i64 0, .string ⟨#[]⟩] 28)).drew).frozen? ⟨w4.heap.size, j, none⟩ = false := by intro j; simp
            have hV5 := HV.out.keep' (((Keep.refl (fun _ => False) w4).alloc (.cells #[.int .i64 0, .string ⟨#[]⟩] 28)).drew)
            have hVL := HV.out.lt
            generalize (w4.alloc (.cells #[.int .i64 0, .string ⟨#[]⟩] 28)).drew = w5 at *
            generalize hRE : w4.heap.size = R at *
            have HRE := Pin.Aside.mk hRE
            clear hRE
            refine wpAnyH_one 16 (by kernel_rfl) rfl (fun K' hK' => ?_)
            go_simp
            refine (A1.out _ hV5).mono ?_
            rintro x' w6 ⟨rfl, hV6, hk6⟩
            have hRn : ¬ VK b mb mo R := by rintro (q | q | q) <;> omega
            have rf0 := (hk6.frozen_at' (q := ⟨R, 0, none⟩) ra rfl hRn).trans (rf 0)
            have rf1 := (hk6.frozen_at' (q := ⟨R, 1, none⟩) ra rfl hRn).trans (rf 1)
            replace ra := hk6.cell ra hRn
            replace rb := hk6.cell rb hRn
            replace hka := hka.trans hk6
            clear hk6 hV5 rf
            refine hK'.out _ _ ⟨⟨w6, hka⟩, rfl⟩ (fun _ => ?_)
            clear hK' K'
            refine wpAnyH_one 18 (by kernel_rfl) rfl (fun K' hK' => ?_)
            go_simp
            have hks := ((Keep.refl (fun j => j = R) w6).setCell (p := ⟨R, 0, none⟩) (.inl rfl) (.int .i64 r.e)).setCell (p := ⟨R, 1, none⟩) (.inl rfl) (.string r.data)
            have hV7 := Pin.Aside.mk (hV6.keep hks (by omega) (by omega) (by omega))
            have hkA := (hka.setCell (p := ⟨R, 0, none⟩) (.inr (by rw [HRE.out]; exact Nat.le_refl _)) (.int .i64 r.e)).setCell (p := ⟨R, 1, none⟩) (.inr (by rw [HRE.out]; exact Nat.le_refl _)) (.string r.data)
            have ra' : ((w6.setCell ⟨R, 0, none⟩ (.int .i64 r.e)).setCell ⟨R, 1, none⟩ (.string r.data)).cell? ⟨R, 0, none⟩ = some (.int .i64 r.e) := by simp [go_sem, ra]
            have rb' : ((w6.setCell ⟨R, 0, none⟩ (.int .i64 r.e)).setCell ⟨R, 1, none⟩ (.string r.data)).cell? ⟨R, 1, none⟩ = some (.string r.data) := World.cell?_setCell_same _ _ _ (by rw [World.cell?_setCell_other _ _ _ _ (by simp)]; exact rb)
            generalize (w6.setCell ⟨R, 0, none⟩ (.int .i64 r.e)).setCell ⟨R, 1, none⟩ (.string r.data) = w7 at *
            clear hks hV6 hka ra rb rf0 rf1
            refine hK'.out _ _ ⟨⟨_, hkA⟩, rfl⟩ (fun _ => ?_)
            clear hK' K'
            refine wpAnyH_done (by kernel_rfl) (NoPanic.normal ?_) _
            go_wp2_with fail
            go_meet
            exact ⟨R, rfl, hV7, hkA, ra', rb'⟩
        case rest =>
          obtain ⟨R, rfl, HV5, hk4, ra, rb⟩ := hcut
          obtain ⟨w7, hwc⟩ : ∃ w9, w9 = wc := ⟨_, rfl⟩
          subst hwc
          clear kQ kz A1 HV hcw
          have HB7 := Pin.Aside.mk (HB.out.trans (hk4.below (B := B) hbR (by rintro j (q | q | q) <;> omega)))
          have HR7 := Pin.Aside.mk (HR2.out.keep hk4 (by rintro (q | q | q) <;> omega))
          clear HB HR2 hk4 hbR
          obtain ⟨hXs, hr0, hr1, hT'⟩ := HX.out
          clear HX
          have L1 := Pin.Aside.mk (fun W (hW : VdAt W b mb mo D') => vd_last b mb mo D' 1 W hW)
          have L2 := Pin.Aside.mk (fun W (hW : VdAt W b mb mo D') => vd_last b mb mo D' 2 W hW)
          unfold Vd.ses at L1 L2
          rw [hT'.a1] at L1
          rw [hT'.a2] at L2
          dsimp only [Option.getD_some, Option.isSome_some] at L1 L2
          rw [hXs] at L1
          have HXs := Pin.Aside.mk hXs
          have HT7 := Pin.Aside.mk hT'
          clear hXs hT'
          go_upto_region 14 with fail
          go_wp2_with fail
          refine (L1.out _ HV5.out).mono ?_
          rintro x' w8 ⟨rfl, hbb⟩
          have hkk : Keep (fun _ => False) w7 w8 := Keep.of_below hbb fun _ q _ => q
          replace HB7 := Pin.Aside.mk (HB7.out.trans (hbb.mono (by have := HB7.out.size; omega)))
          replace HV5 := Pin.Aside.mk (HV5.out.keep' hkk)
          replace HR7 := Pin.Aside.mk (HR7.out.keep hkk id)
          replace ra := hkk.cell ra id
          replace rb := hkk.cell rb id
          clear hkk hbb
          have hka := (Keep.refl (fun _ => False) w8).alloc (.cells #[.int .i64 X'.e, .string X'.data] 28)
          have xa : (w8.alloc (.cells #[.int .i64 X'.e, .string X'.data] 28)).cell? ⟨w8.heap.size, 0, none⟩ = some (.int .i64 X'.e) := by simp
          have xb : (w8.alloc (.cells #[.int .i64 X'.e, .string X'.data] 28)).cell? ⟨w8.heap.size, 1, none⟩ = some (.string X'.data) := by simp
          replace HB7 := Pin.Aside.mk (HB7.out.trans (hka.below (B := B) (by have := HB7.out.size; omega) fun _ q => q.elim))
          replace HV5 := Pin.Aside.mk (HV5.out.keep' hka)
          replace HR7 := Pin.Aside.mk (HR7.out.keep hka id)
          replace ra := hka.cell ra id
          replace rb := hka.cell rb id
          clear hka
          go_upto_region 15 with fail
          generalize World.alloc w8 _ = w9 at *
          generalize w8.heap.size = RX at *
          go_wp2_with fail
          refine (L2.out _ HV5.out).mono ?_
          rintro x' w10 ⟨rfl, hbb⟩
          have hkk : Keep (fun _ => False) w9 w10 := Keep.of_below hbb fun _ q _ => q
          replace HB7 := Pin.Aside.mk (HB7.out.trans (hbb.mono (by have := HB7.out.size; omega)))
          replace HV5 := Pin.Aside.mk (HV5.out.keep' hkk)
          replace HR7 := Pin.Aside.mk (HR7.out.keep hkk id)
          replace ra := hkk.cell ra id
          replace rb := hkk.cell rb id
          replace xa := hkk.cell xa id
          replace xb := hkk.cell xb id
          clear hkk hbb
          have hka := (Keep.refl (fun _ => False) w10).alloc (.cells #[.int .i64 q.e, .string q.data] 28)
          have ya : (w10.alloc (.cells #[.int .i64 q.e, .string q.data] 28)).cell? ⟨w10.heap.size, 0, none⟩ = some (.int .i64 q.e) := by simp
          have yb : (w10.alloc (.cells #[.int .i64 q.e, .string q.data] 28)).cell? ⟨w10.heap.size, 1, none⟩ = some (.string q.data) := by simp
          replace HB7 := Pin.Aside.mk (HB7.out.trans (hka.below (B := B) (by have := HB7.out.size; omega) fun _ q => q.elim))
          replace HV5 := Pin.Aside.mk (HV5.out.keep' hka)
          replace HR7 := Pin.Aside.mk (HR7.out.keep hka id)
          replace ra := hka.cell ra id
          replace rb := hka.cell rb id
          replace xa := hka.cell xa id
          replace xb := hka.cell xb id
          clear hka
          go_upto_region 16 with fail
          generalize World.alloc w10 _ = w11 at *
          generalize w10.heap.size = RY at *
          have s0 := HR7.out.c0
          have s1 := HR7.out.c1
          have hse := str_beq
          by_cases hN : 0 < N
          · obtain ⟨he, hd⟩ := hr1 hN
            clear hr0 hr1
            rw [he] at ra
            rw [hd] at rb
            clear he hd
            go_wp2_with fail
            go_roundw
            case rel => exact ⟨k + 1, D', X', q, by omega, by go_num, HB7, HV5, Pin.Aside.mk ⟨HT7.out, by have := HXs.out; have := HN.out; omega, by have := HXs.out; have := HN.out; omega⟩, by rw [HXs.out]; exact HR7⟩
            case measure => simp [intOf]; omega
          · obtain rfl : N = 0 := by omega
            have he := hr0 rfl
            clear hr0 hr1 hN
            rw [he] at ra
            clear he
            go_wp2_with fail
            go_roundw
            case rel => exact ⟨k + 1, D', X', q, by omega, by go_num, HB7, HV5, Pin.Aside.mk ⟨HT7.out, by have := HXs.out; have := HN.out; omega, by have := HXs.out; have := HN.out; omega⟩, by rw [HXs.out]; exact HR7⟩
            case measure => simp [intOf]; omega
      · replace e2 : z.tmod 2 = 1 := by rw [Int.tmod_eq_emod_of_nonneg hz0] at e2 ⊢; omega
        obtain ⟨N, hN, hN0⟩ : ∃ N, q.seq + s = N ∧ 0 ≤ N := ⟨_, rfl, by omega⟩
        have hNw : IntKind.u64.wrap (q.seq + s) = N := by rw [hN, IntKind.wrap_u64]; omega
        have hNb : N ≤ 100 := by omega
        have HN := Pin.Aside.mk hN
        clear hN
        go_upto_region 12 with fail
        clear e2
        have hcQ := (HR2.out.keep (Keep.refl (fun _ => False) wr).drew id).c1
        have hfQ := (HR2.out.keep (Keep.refl (fun _ => False) wr).drew id).fr 1
        have k0 : ∀ s' : KW (fun _ => False) wr, s'.w.cell? ⟨Q, 1, none⟩ = some (.int .u64 q.seq) := fun s' => s'.keep.cell HR2.out.c1 id
        have k1 : ∀ s' : KW (fun _ => False) wr, s'.w.cell? ⟨bl, ol + k, none⟩ = some (.int .u8 z) := fun s' => s'.keep.cell hcw id
        refine wp_region_stayK (S := fun w' => ∃ s' : KW (fun _ => False) wr, w' = s'.w) 14 14 (by kernel_rfl) (by simp) (by kernel_rfl) (by kernel_rfl) ⟨⟨wr.drew, (Keep.refl _ wr).drew⟩, rfl⟩ ?_
        simp only [List.take_succ_cons, List.take_zero]
        refine wpStay_quietS 14 _ _ (by kernel_rfl) ?_
        simp only [List.take_succ_cons, List.take_zero, List.drop_succ_cons, List.drop_zero]
        repeat (go_big_quiet_step (fail))
        refine wpQuiet_nil ?_
        refine wpStay_nil ?_
        clear k0 k1
        refine wpAnyK_one 14 (by kernel_rfl) rfl (fun K' hK' => ?_)
        go_simp
        refine hK'.out _ _ (fun q => absurd rfl q) ?_
        clear hK' K'
        refine wpAnyK_done (by kernel_rfl) (NoPanic.normal ?_) _
        have hkd : Keep (fun j => j = Q) wr (wr.setCell ⟨Q, 1, none⟩ (.int .u64 N)).drew := ((Keep.refl (fun j => j = Q) wr).setCell (p := ⟨Q, 1, none⟩) (.inl rfl) _).drew
        replace HR2 := Pin.Aside.mk ((HR2.out.set1 N).keep (Keep.refl (fun _ => False) _).drew id)
        replace HB := Pin.Aside.mk (HB.out.trans (hkd.below (B := B) (by have := HB.out.size; omega) (by rintro j rfl; exact hQB)))
        replace HV := Pin.Aside.mk (HV.out.keep hkd (by omega) (by omega) (by omega))
        have hQlt : bl < Q := by omega
        replace hcw := hkd.cell hcw (by show ¬ bl = Q; omega)
        clear hkd hcQ hfQ hNw
        go_upto_region 13 with fail
        generalize (wr.setCell ⟨Q, 1, none⟩ (.int .u64 N)).drew = w4 at *
        obtain ⟨D', r, X', hA, hT', hXs, hr0, hr1⟩ := clients_2 D p q HT.out.1 N (z / 8 % 8) (by have := HN.out; omega) (by omega)
        have A1 := Pin.Aside.mk (fun W (hW : VdAt W b mb mo D) => vd_apply b mb mo D (enOf 1 2 N (z / 8 % 8) 0 ⟨#[120]⟩ noB) (enOf_ok _ _ _ _ _ _ _ (by decide) (by decide) (by omega) (by omega) (by decide) (by decide) (by decide)) HT.out.1.ok W hW)
        rw [hA] at A1
        dsimp only [En.cells, Res.val] at A1
        have HX := Pin.Aside.mk (And.intro hXs (And.intro hr0 (And.intro hr1 hT')))
        clear hA hXs hr0 hr1 hT'
        have hbR : B ≤ w4.heap.size := by have := HB.out.size; omega
        have kQ : ∀ s' : KW (VK b mb mo) w4, s'.w.cell? ⟨Q, 1, none⟩ = some (.int .u64 N) := fun s' => s'.keep.cell HR2.out.c1 (by rintro (q | q | q) <;> (dsimp only at q; omega))
        have kz : ∀ s' : KW (VK b mb mo) w4, s'.w.cell? ⟨bl, ol + k, none⟩ = some (.int .u8 z) := fun s' => s'.keep.cell hcw (by rintro (q | q | q) <;> (dsimp only at q; omega))
        go_cut [8] (fun v wx => ∃ R, v = .pointer (some ⟨R, 0, none⟩) ∧ Pin.Aside (VdAt wx b mb mo D') ∧ Keep (VK b mb mo) w4 wx ∧ wx.cell? ⟨R, 0, none⟩ = some (.int .i64 r.e) ∧ wx.cell? ⟨R, 1, none⟩ = some (.string r.data))
        case first =>
          refine wp_region_stay (S := fun w' => ∃ s' : KW (VK b mb mo) w4, w' = s'.w) 16 (by kernel_rfl) (by simp) (by kernel_rfl) (by kernel_rfl) ⟨⟨w4.drew, (Keep.refl _ w4).drew⟩, rfl⟩ ?_
          simp only [List.take_succ_cons, List.take_zero]
          refine wpStay_quietS 16 _ _ (by kernel_rfl) ?_
          simp only [List.take_succ_cons, List.take_zero, List.drop_succ_cons, List.drop_zero]
          repeat (go_big_quiet_step (fail))
          refine wpQuiet_nil ?_
          refine wpStay_nil ?_
          clear kQ kz
          refine wpAnyH_two 16 17 (by kernel_rfl) rfl rfl (fun K' hK' => ?_) (fun K' hK' => ?_)
          · go_simp
            refine (A1.out _ (HV.out.keep' (Keep.refl _ w4).drew)).mono ?_
            rintro x' w5 ⟨rfl, hV5, hk5⟩
            replace hk5 : Keep (VK b mb mo) w4 w5 := ((Keep.refl _ w4).drew).trans hk5
            refine hK'.out _ _ ⟨⟨w5, hk5⟩, rfl⟩ (fun _ => ?_)
            clear hK' K'
            refine wpAnyH_one 17 (by kernel_rfl) rfl (fun K' hK' => ?_)
            go_simp
            refine hK'.out _ _ ⟨⟨_, hk5.alloc _⟩, rfl⟩ (fun _ => ?_)
            clear hK' K'
            refine wpAnyH_one 18 (by kernel_rfl) rfl (fun K' hK' => ?_)
            go_simp
            have hkA := hk5.alloc (.cells #[.int .i64 r.e, .string r.data] 28)
            refine hK'.out _ _ ⟨⟨_, hkA⟩, rfl⟩ (fun _ => ?_)
            clear hK' K'
            refine wpAnyH_done (by kernel_rfl) (NoPanic.normal ?_) _
            have hV6 := Pin.Aside.mk (hV5.keep' ((Keep.refl (fun _ => False) w5).alloc (.cells #[.int .i64 r.e, .string r.data] 28)))
            have ra : (w5.alloc (.cells #[.int .i64 r.e, .string r.data] 28)).cell? ⟨w5.heap.size, 0, none⟩ = some (.int .i64 r.e) := by simp
            have rb : (w5.alloc (.cells #[.int .i64 r.e, .string r.data] 28)).cell? ⟨w5.heap.size, 1, none⟩ = some (.string r.data) := by simp
            generalize w5.alloc _ = w6 at *
            generalize w5.heap.size = R at *
            go_wp2_with fail
            go_meet
            exact ⟨R, rfl, hV6, hkA, ra, rb⟩
          · go_simp
            have hka := ((Keep.refl (VK b mb mo) w4).alloc (.cells #[.int .i64 0, .string ⟨#[]⟩] 28)).drew
            refine hK'.out _ _ ⟨⟨_, hka⟩, rfl⟩ (fun _ => ?_)
            clear hK' K'
            have ra : ((w4.alloc (.cells #[.int .i64 0, .string ⟨#[]⟩] 28)).drew).cell? ⟨w4.heap.size, 0, none⟩ = some (.int .i64 0) := by simp
            have rb : ((w4.alloc (.cells #[.int .i64 0, .string ⟨#[]⟩] 28)).drew).cell? ⟨w4.heap.size, 1, none⟩ = some (.string ⟨#[]⟩) := by simp
            have rf : ∀ j, ((w4.alloc (.cells #[.int .i64 0, .string ⟨#[]⟩] 28)).drew).frozen? ⟨w4.heap.size, j, none⟩ = false := by intro j; simp
            have hV5 := HV.out.keep' (((Keep.refl (fun _ => False) w4).alloc (.cells #[.int .i64 0, .string ⟨#[]⟩] 28)).drew)
            have hVL := HV.out.lt
            generalize (w4.alloc (.cells #[.int .i64 0, .string ⟨#[]⟩] 28)).drew = w5 at *
            generalize hRE : w4.heap.size = R at *
            have HRE := Pin.Aside.mk hRE
            clear hRE
            refine wpAnyH_one 16 (by kernel_rfl) rfl (fun K' hK' => ?_)
            go_simp
            refine (A1.out _ hV5).mono ?_
            rintro x' w6 ⟨rfl, hV6, hk6⟩
            have hRn : ¬ VK b mb mo R := by rintro (q | q | q) <;> omega
            have rf0 := (hk6.frozen_at' (q := ⟨R, 0, none⟩) ra rfl hRn).trans (rf 0)
            have rf1 := (hk6.frozen_at' (q := ⟨R, 1, none⟩) ra rfl hRn).trans (rf 1)
            replace ra := hk6.cell ra hRn
            replace rb := hk6.cell rb hRn
            replace hka := hka.trans hk6
            clear hk6 hV5 rf
            refine hK'.out _ _ ⟨⟨w6, hka⟩, rfl⟩ (fun _ => ?_)
            clear hK' K'
            refine wpAnyH_one 18 (by kernel_rfl) rfl (fun K' hK' => ?_)
            go_simp
            have hks := ((Keep.refl (fun j => j = R) w6).setCell (p := ⟨R, 0, none⟩) (.inl rfl) (.int .i64 r.e)).setCell (p := ⟨R, 1, none⟩) (.inl rfl) (.string r.data)
            have hV7 := Pin.Aside.mk (hV6.keep hks (by omega) (by omega) (by omega))
            have hkA := (hka.setCell (p := ⟨R, 0, none⟩) (.inr (by rw [HRE.out]; exact Nat.le_refl _)) (.int .i64 r.e)).setCell (p := ⟨R, 1, none⟩) (.inr (by rw [HRE.out]; exact Nat.le_refl _)) (.string r.data)
            have ra' : ((w6.setCell ⟨R, 0, none⟩ (.int .i64 r.e)).setCell ⟨R, 1, none⟩ (.string r.data)).cell? ⟨R, 0, none⟩ = some (.int .i64 r.e) := by simp [go_sem, ra]
            have rb' : ((w6.setCell ⟨R, 0, none⟩ (.int .i64 r.e)).setCell ⟨R, 1, none⟩ (.string r.data)).cell? ⟨R, 1, none⟩ = some (.string r.data) := World.cell?_setCell_same _ _ _ (by rw [World.cell?_setCell_other _ _ _ _ (by simp)]; exact rb)
            generalize (w6.setCell ⟨R, 0, none⟩ (.int .i64 r.e)).setCell ⟨R, 1, none⟩ (.string r.data) = w7 at *
            clear hks hV6 hka ra rb rf0 rf1
            refine hK'.out _ _ ⟨⟨_, hkA⟩, rfl⟩ (fun _ => ?_)
            clear hK' K'
            refine wpAnyH_done (by kernel_rfl) (NoPanic.normal ?_) _
            go_wp2_with fail
            go_meet
            exact ⟨R, rfl, hV7, hkA, ra', rb'⟩
        case rest =>
          obtain ⟨R, rfl, HV5, hk4, ra, rb⟩ := hcut
          obtain ⟨w7, hwc⟩ : ∃ w9, w9 = wc := ⟨_, rfl⟩
          subst hwc
          clear kQ kz A1 HV hcw
          have HB7 := Pin.Aside.mk (HB.out.trans (hk4.below (B := B) hbR (by rintro j (q | q | q) <;> omega)))
          have HR7 := Pin.Aside.mk (HR2.out.keep hk4 (by rintro (q | q | q) <;> omega))
          clear HB HR2 hk4 hbR
          obtain ⟨hXs, hr0, hr1, hT'⟩ := HX.out
          clear HX
          have L1 := Pin.Aside.mk (fun W (hW : VdAt W b mb mo D') => vd_last b mb mo D' 1 W hW)
          have L2 := Pin.Aside.mk (fun W (hW : VdAt W b mb mo D') => vd_last b mb mo D' 2 W hW)
          unfold Vd.ses at L1 L2
          rw [hT'.a1] at L1
          rw [hT'.a2] at L2
          dsimp only [Option.getD_some, Option.isSome_some] at L1 L2
          rw [hXs] at L2
          have HXs := Pin.Aside.mk hXs
          have HT7 := Pin.Aside.mk hT'
          clear hXs hT'
          go_upto_region 14 with fail
          go_wp2_with fail
          refine (L1.out _ HV5.out).mono ?_
          rintro x' w8 ⟨rfl, hbb⟩
          have hkk : Keep (fun _ => False) w7 w8 := Keep.of_below hbb fun _ q _ => q
          replace HB7 := Pin.Aside.mk (HB7.out.trans (hbb.mono (by have := HB7.out.size; omega)))
          replace HV5 := Pin.Aside.mk (HV5.out.keep' hkk)
          replace HR7 := Pin.Aside.mk (HR7.out.keep hkk id)
          replace ra := hkk.cell ra id
          replace rb := hkk.cell rb id
          clear hkk hbb
          have hka := (Keep.refl (fun _ => False) w8).alloc (.cells #[.int .i64 p.e, .string p.data] 28)
          have xa : (w8.alloc (.cells #[.int .i64 p.e, .string p.data] 28)).cell? ⟨w8.heap.size, 0, none⟩ = some (.int .i64 p.e) := by simp
          have xb : (w8.alloc (.cells #[.int .i64 p.e, .string p.data] 28)).cell? ⟨w8.heap.size, 1, none⟩ = some (.string p.data) := by simp
          replace HB7 := Pin.Aside.mk (HB7.out.trans (hka.below (B := B) (by have := HB7.out.size; omega) fun _ q => q.elim))
          replace HV5 := Pin.Aside.mk (HV5.out.keep' hka)
          replace HR7 := Pin.Aside.mk (HR7.out.keep hka id)
          replace ra := hka.cell ra id
          replace rb := hka.cell rb id
          clear hka
          go_upto_region 15 with fail
          generalize World.alloc w8 _ = w9 at *
          generalize w8.heap.size = RX at *
          go_wp2_with fail
          refine (L2.out _ HV5.out).mono ?_
          rintro x' w10 ⟨rfl, hbb⟩
          have hkk : Keep (fun _ => False) w9 w10 := Keep.of_below hbb fun _ q _ => q
          replace HB7 := Pin.Aside.mk (HB7.out.trans (hbb.mono (by have := HB7.out.size; omega)))
          replace HV5 := Pin.Aside.mk (HV5.out.keep' hkk)
          replace HR7 := Pin.Aside.mk (HR7.out.keep hkk id)
          replace ra := hkk.cell ra id
          replace rb := hkk.cell rb id
          replace xa := hkk.cell xa id
          replace xb := hkk.cell xb id
          clear hkk hbb
          have hka := (Keep.refl (fun _ => False) w10).alloc (.cells #[.int .i64 X'.e, .string X'.data] 28)
          have ya : (w10.alloc (.cells #[.int .i64 X'.e, .string X'.data] 28)).cell? ⟨w10.heap.size, 0, none⟩ = some (.int .i64 X'.e) := by simp
          have yb : (w10.alloc (.cells #[.int .i64 X'.e, .string X'.data] 28)).cell? ⟨w10.heap.size, 1, none⟩ = some (.string X'.data) := by simp
          replace HB7 := Pin.Aside.mk (HB7.out.trans (hka.below (B := B) (by have := HB7.out.size; omega) fun _ q => q.elim))
          replace HV5 := Pin.Aside.mk (HV5.out.keep' hka)
          replace HR7 := Pin.Aside.mk (HR7.out.keep hka id)
          replace ra := hka.cell ra id
          replace rb := hka.cell rb id
          replace xa := hka.cell xa id
          replace xb := hka.cell xb id
          clear hka
          go_upto_region 16 with fail
          generalize World.alloc w10 _ = w11 at *
          generalize w10.heap.size = RY at *
          have s0 := HR7.out.c0
          have s1 := HR7.out.c1
          have hse := str_beq
          by_cases hN : 0 < N
          · obtain ⟨he, hd⟩ := hr1 hN
            clear hr0 hr1
            rw [he] at ra
            rw [hd] at rb
            clear he hd
            go_wp2_with fail
            go_roundw
            case rel => exact ⟨k + 1, D', p, X', by omega, by go_num, HB7, HV5, Pin.Aside.mk ⟨HT7.out, by have := HXs.out; have := HN.out; omega, by have := HXs.out; have := HN.out; omega⟩, by rw [HXs.out]; exact HR7⟩
            case measure => simp [intOf]; omega
          · obtain rfl : N = 0 := by omega
            have he := hr0 rfl
            clear hr0 hr1 hN
            rw [he] at ra
            clear he
            go_wp2_with fail
            go_roundw
            case rel => exact ⟨k + 1, D', p, X', by omega, by go_num, HB7, HV5, Pin.Aside.mk ⟨HT7.out, by have := HXs.out; have := HN.out; omega, by have := HXs.out; have := HN.out; omega⟩, by rw [HXs.out]; exact HR7⟩
            case measure => simp [intOf]; omega
    · obtain rfl : k = n := by omega
      have L3 := Pin.Aside.mk (fun W (hW : VdAt W b mb mo D) => vd_last b mb mo D 3 W hW)
      unfold Vd.ses at L3
      rw [HT.out.1.a3] at L3
      dsimp only [Option.getD_none, Option.isSome_none, Ses.zero] at L3
      have hb := HB.out
      have htest : (k = len ∧ k ≤ 20) ∨ (k < len ∧ k = 20) := by have := Hn.out; omega
      clear HB HR2 HT Hc Hr Hn
      rcases htest with ⟨ht, ht2⟩ | ⟨ht, ht2⟩
      · subst ht
        go_wp2_with fail
        refine (L3.out _ HV.out).mono ?_
        rintro x' w8 ⟨rfl, hbb⟩
        replace hb := hb.trans (hbb.mono (by have := hb.size; omega))
        have hka := ((Keep.refl (fun _ => False) w8).alloc (.cells #[.int .i64 0, .string ⟨#[]⟩] 28)).below (B := B) (by have := hb.size; omega) fun _ q => q.elim
        replace hb := hb.trans hka
        clear hka hbb
        go_upto_region 19 with fail
        generalize World.alloc w8 _ = w9 at *
        go_wp2_with fail
        go_ret
        exact ⟨rfl, hb⟩
      · subst ht2
        go_wp2_with fail
        refine (L3.out _ HV.out).mono ?_
        rintro x' w8 ⟨rfl, hbb⟩
        replace hb := hb.trans (hbb.mono (by have := hb.size; omega))
        have hka := ((Keep.refl (fun _ => False) w8).alloc (.cells #[.int .i64 0, .string ⟨#[]⟩] 28)).below (B := B) (by have := hb.size; omega) fun _ q => q.elim
        replace hb := hb.trans hka
        clear hka hbb
        go_upto_region 19 with fail
        generalize World.alloc w8 _ = w9 at *
        go_wp2_with fail
        go_ret
        exact ⟨rfl, hb⟩
theorem vdiskClients_walk (a0 : Option Addr) (len0 cap0 : Nat) (z0 : List Int) (w : World) (h : IsRow .u8 w a0 len0 cap0 z0) :
    Calls Tryd.prog 6 #[.slice a0 len0 cap0] w fun e w' => e = .returned (.bool true) ∧ Below w.heap.size w w' := by
  rcases h with ⟨rfl, rfl, rfl, rfl⟩ | ⟨x, rfl, h1, h2, h3, h4, h5⟩
  · exact clients_core none 0 0 0 [] w (by omega) (by omega) (by omega) rfl (fun i hi => by omega) (fun h => by omega)
  · unfold maxLen at h2
    have hr : ∀ i, i < z0.length → 0 ≤ z0.getD i 0 ∧ z0.getD i 0 ≤ 255 := fun i hi => by
      have := h5 (z0.getD i 0) (by simp [List.getD, hi])
      exact bounds_u8 this
    refine clients_core (some x) len0 cap0 (min 20 len0) (z0.take (min 20 len0)) w (by omega) (by omega) h1 (by rw [List.length_take]; omega) ?_ ?_
    · intro i hi
      have : (z0.take (min 20 len0)).getD i 0 = z0.getD i 0 := by simp only [List.getD, List.getElem?_take, if_pos hi]
      rw [this]; exact hr i (by omega)
    · intro hpos
      have h0 := h4 0 (by omega)
      have hx : x.spot = none := by
        have hx0 : x.add 0 = x := by simp [Addr.add]
        rw [hx0] at h0
        unfold World.cell? at h0
        split at h0
        · cases hs : x.spot with
          | none => rfl
          | some _ => simp [hs] at h0
        · cases h0
      refine ⟨x.block, x.off, by cases x; simp_all, ?_⟩
      intro i hi
      have hi4 := h4 i (by omega)
      have e1 : x.add i = ⟨x.block, x.off + i, none⟩ := by
        unfold Addr.add; split
        · rename_i h; subst h; cases x; simp_all
        · rfl
      have e2 : (z0.take (min 20 len0)).getD i 0 = z0.getD i 0 := by simp only [List.getD, List.getElem?_take, if_pos hi]
      rw [e1] at hi4
      rw [e2]; exact hi4
end Go.Proofs.YtpebpcmppcpkdaaDoor
