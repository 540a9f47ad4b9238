/- vdisk: Put. -/
import Derived.Test.YtpebpcmppcpkdaaDoorVdK
import Derived.Test.YtpebpcmppcpkdaaDoorVarW
import Derived.Test.YtpebpcmppcpkdaaDoorVdE
import Derived.OpenShut
set_option maxRecDepth 16000
namespace Go.Pin
open Go.RowKit
set_option linter.unusedVariables false
set_option linter.unusedSimpArgs false
/-- Numbers' bytes, one behind the other. -/
def putK (zs : List Int) : List UInt8 := (zs.map fun z => vput z.toNat).flatten
theorem putK_take (zs : List Int) (k : Nat) (h : k < zs.length) : putK (zs.take (k + 1)) = putK (zs.take k) ++ vput (zs.getD k 0).toNat := by
  unfold putK
  rw [List.take_succ_eq_append_getElem h, List.map_append, List.flatten_append]
  simp [List.getD, h]
theorem putK_len (zs : List Int) : (putK zs).length ≤ 10 * zs.length := by
  induction zs with
  | nil => simp [putK]
  | cons z zs ih =>
    have : putK (z :: zs) = vput z.toNat ++ putK zs := rfl
    rw [this, List.length_append, List.length_cons]
    have := vput_len z.toNat
    omega
theorem putK_take_len (zs : List Int) (k : Nat) : (putK (zs.take k)).length ≤ 10 * zs.length := by
  have := putK_len (zs.take k)
  have h2 : (zs.take k).length ≤ zs.length := List.length_take_le' _ _
  omega
theorem flatMap_len {α : Type} (f : α → List UInt8) (n : Nat) : ∀ (L : List α), (∀ x ∈ L, (f x).length ≤ n) → (L.flatMap f).length ≤ n * L.length
  | [], _ => by simp
  | x :: L, h => by
    rw [List.flatMap_cons, List.length_append, List.length_cons]
    have h1 := h x (by simp)
    have h2 := flatMap_len f n L fun y hy => h y (by simp [hy])
    rw [Nat.mul_succ]; omega
theorem flatMap_take {α : Type} (f : α → List UInt8) (L : List α) (k : Nat) (d : α) (h : k < L.length) : (L.take (k + 1)).flatMap f = (L.take k).flatMap f ++ f (L.getD k d) := by
  rw [List.take_succ_eq_append_getElem h, List.flatMap_append]
  simp [List.getD, h]
theorem text_list (s : ByteArray) : (textS s).data.toList.length ≤ s.size + 10 := by
  rw [Array.length_toList]; exact textS_size s
end Go.Pin
namespace Go.Proofs.YtpebpcmppcpkdaaDoor
open Go.RowKit Go.Pin
set_option linter.unusedVariables false
set_option linter.unusedSimpArgs false
theorem Others.trans {b : Nat} {w w1 w2 : World} (h : Others b w w1) (k : Others b w1 w2) : Others b w w2 := fun i cs t fr hi ht hb => by
  have h1 := h i cs t fr hi ht hb
  rw [k i cs t fr (by rw [h1]; exact hi) ht hb, h1]
theorem Others.of_below {b : Nat} {w w' : World} (h : Below w.heap.size w w') : Others b w w' := fun i cs t fr hi _ _ => h.block i (Array.getElem?_eq_some_iff.1 hi).1
theorem Others.u64 {b : Nat} {w w' : World} (h : Others b w w') {g : Nat} {zs : List Int} (hg : U64At w g zs) (hb : g ≠ b) : U64At w' g zs := by
  obtain ⟨_, cs, fr, h2⟩ := id hg
  exact hg.block (h g cs _ fr h2 (by decide) hb)
set_option maxHeartbeats 1600000 in
/-- The closure of Put: numbers are written. -/
theorem vd_put1 (B b : Nat) (l : List UInt8) (g c : Nat) (zs : List Int) (w : World) (hb : Bld B b l w) (hBw : B ≤ w.heap.size) (hz : ∀ k, k < zs.length → 0 ≤ zs.getD k 0 ∧ zs.getD k 0 ≤ 18446744073709551615) (hg : U64At w g zs) (hgb : g ≠ b) (hlen : l.length + 10 * zs.length ≤ 140737488355328) :
    Calls Tryd.prog 32 #[.slice (some ⟨g, 0, none⟩) zs.length c, .pointer (some ⟨b, 0, none⟩)] w fun e w' => e = .returned (.tuple #[]) ∧ Bld B b (l ++ putK zs) w' ∧ Below B w w' ∧ Others b w w' := by
  have HB := Pin.Aside.mk hb
  have HG := Pin.Aside.mk hg
  have HZ := Pin.Aside.mk hz
  clear hb hg hz
  obtain ⟨n, hn⟩ : ∃ n, zs.length = n := ⟨_, rfl⟩
  rw [hn] at HZ hlen ⊢
  have HN := Pin.Aside.mk hn
  clear hn
  have hBr := Below.refl B w
  go_enter Tryd.func32, Tryd.ntmps32
  go_wp2_with fail
  go_loopw [7] (fun x wr => ∃ k : Nat, k ≤ n ∧ x = .int .i64 k ∧ Pin.Aside (Bld B b (l ++ putK (zs.take k)) wr) ∧ Pin.Aside (Below B w wr) ∧ Pin.Aside (Others b w wr)) (fun x _ => n - (intOf x).toNat)
  case atStart => exact ⟨0, by omega, rfl, by rw [List.take_zero]; exact ⟨by simpa [putK] using HB.out⟩, Pin.Aside.mk hBr, Pin.Aside.mk (fun _ _ _ _ _ _ _ => rfl)⟩
  case round =>
    clear HB hBr
    obtain ⟨k, hk, rfl, HB, HW, HO⟩ := hrel
    rename_i wr
    by_cases hlt : k < n
    · have hc := (HO.out.u64 HG.out hgb).1 k (by rw [HN.out]; exact hlt)
      obtain ⟨z, hzk, hz0, hz1⟩ : ∃ z : Int, zs.getD k 0 = z ∧ 0 ≤ z ∧ z ≤ 18446744073709551615 := ⟨_, rfl, HZ.out k hlt⟩
      rw [hzk] at hc
      have HS := Pin.Aside.mk (putK_take zs k (by rw [HN.out]; exact hlt))
      rw [hzk] at HS
      clear hzk
      have hpl := putK_take_len zs k
      rw [HN.out] at hpl
      have hvz := (vputS_size z.toNat).1
      have HV := Pin.Aside.mk (show (vputS z.toNat).data.toList = vput z.toNat by unfold vputS; simp)
      have hll : (l ++ putK (zs.take k)).length ≤ l.length + 10 * n := by rw [List.length_append]; omega
      have hkk : 10 * k + 10 ≤ 10 * n := by omega
      have hpk : (putK (zs.take k)).length ≤ 10 * k := by
        have := putK_len (zs.take k)
        have h2 : (zs.take k).length ≤ k := List.length_take_le _ _
        omega
      have hll2 : (l ++ putK (zs.take k)).length + 10 ≤ 140737488355328 := by rw [List.length_append]; omega
      have HL2 := Pin.Aside.mk hll2
      have HP := Pin.Aside.mk (fun W => var_put z hz0 hz1 W)
      clear hpl hll hkk hpk hll2
      generalize vputS z.toNat = V at *
      go_wp2_with fail
      refine (HP.out _).mono ?_
      rintro e w1 ⟨rfl, hb1⟩
      have HB1 := Pin.Aside.mk (HB.out.below hb1)
      have HO1 := Pin.Aside.mk (HO.out.trans (Others.of_below hb1))
      have HW1 := Pin.Aside.mk (HW.out.trans (hb1.mono (by have := HW.out.size; omega)))
      clear hb1
      go_wp2_with fail
      refine (sb_writeStringX B b _ V _ HB1.out (by have := HL2.out; omega) (by have := HW1.out.size; omega)).mono ?_
      rintro e w2 ⟨rfl, hb2, hbb2, ho2⟩
      have HB2 := Pin.Aside.mk hb2
      have HO2 := Pin.Aside.mk (HO1.out.trans ho2)
      have HW2 := Pin.Aside.mk (HW1.out.trans hbb2)
      clear hb2 ho2 hbb2
      go_wp2_with fail
      go_roundw
      case rel => exact ⟨k + 1, by omega, by go_num, by rw [HS.out, ← List.append_assoc, ← HV.out]; exact HB2, HW2, HO2⟩
      case measure => simp [intOf]; omega
    · obtain rfl : k = n := by omega
      go_wp2_with fail
      go_end0
      refine ⟨rfl, ?_, HW.out, HO.out⟩
      have := HB.out
      rw [← HN.out, List.take_length] at this
      exact this
/-- What a disk that is put keeps to. -/
structure Vd.fit (D : Vd) : Prop where
  ok : D.ok
  kb : ∀ p ∈ D.blocks, 0 ≤ p.1 ∧ p.1 ≤ 18446744073709551615
  ko : ∀ p ∈ D.opens, 0 ≤ p.1 ∧ p.1 ≤ 18446744073709551615
  so : ∀ p ∈ D.opens, 0 ≤ p.2.e ∧ p.2.e ≤ 100 ∧ p.2.data.size ≤ 64
  nb : D.blocks.length ≤ 12
  no : D.opens.length ≤ 12
def Vd.putB (D : Vd) (k : Int) : List UInt8 := putK [k] ++ (textS (D.blk k)).data.toList
def Vd.putO (D : Vd) (c : Int) : List UInt8 := putK [c, (Vd.ses D c).seq, (Vd.ses D c).e] ++ (textS (Vd.ses D c).data).data.toList
def Vd.keysB (D : Vd) : List Int := usort (D.blocks.map (·.1))
def Vd.keysO (D : Vd) : List Int := usort (D.opens.map (·.1))
def Vd.put (D : Vd) : List UInt8 := putK [D.many, (D.blocks.length : Int)] ++ (Vd.keysB D).flatMap (Vd.putB D) ++ (putK [(D.opens.length : Int)] ++ (Vd.keysO D).flatMap (Vd.putO D))
theorem Vd.fit.ses {D : Vd} (h : Vd.fit D) (c : Int) : 0 ≤ (Vd.ses D c).e ∧ (Vd.ses D c).e ≤ 100 ∧ (Vd.ses D c).data.size ≤ 64 ∧ 0 ≤ (Vd.ses D c).seq ∧ (Vd.ses D c).seq ≤ 18446744073709551615 := by
  unfold Vd.ses
  cases q : aget D.opens c with
  | none => exact ⟨by decide, by decide, by decide, by decide, by decide⟩
  | some s =>
    have h1 := h.ok.seq c s q
    unfold aget at q
    obtain ⟨p, hp, rfl⟩ := Option.map_eq_some_iff.1 q
    have h2 := h.so p (List.mem_of_find?_eq_some hp)
    exact ⟨h2.1, h2.2.1, h2.2.2, h1.1, h1.2⟩
theorem keysB_len (D : Vd) : (Vd.keysB D).length = D.blocks.length := by unfold Vd.keysB; rw [usort_len, List.length_map]
theorem keysO_len (D : Vd) : (Vd.keysO D).length = D.opens.length := by unfold Vd.keysO; rw [usort_len, List.length_map]
theorem keysB_in {D : Vd} (h : Vd.fit D) (k : Nat) (hk : k < (Vd.keysB D).length) : 0 ≤ (Vd.keysB D).getD k 0 ∧ (Vd.keysB D).getD k 0 ≤ 18446744073709551615 := by
  have hm : (Vd.keysB D)[k] ∈ D.blocks.map (·.1) := (usort_perm _).mem_iff.1 (List.getElem_mem hk)
  obtain ⟨p, hp, hq⟩ := List.mem_map.1 hm
  simp only [List.getD, List.getElem?_eq_getElem hk, Option.getD_some]
  rw [← hq]; exact h.kb p hp
theorem keysO_in {D : Vd} (h : Vd.fit D) (k : Nat) (hk : k < (Vd.keysO D).length) : 0 ≤ (Vd.keysO D).getD k 0 ∧ (Vd.keysO D).getD k 0 ≤ 18446744073709551615 := by
  have hm : (Vd.keysO D)[k] ∈ D.opens.map (·.1) := (usort_perm _).mem_iff.1 (List.getElem_mem hk)
  obtain ⟨p, hp, hq⟩ := List.mem_map.1 hm
  simp only [List.getD, List.getElem?_eq_getElem hk, Option.getD_some]
  rw [← hq]; exact h.ko p hp
theorem putB_len {D : Vd} (h : Vd.fit D) (k : Int) : (Vd.putB D k).length ≤ 100 := by
  unfold Vd.putB
  rw [List.length_append]
  have h1 := putK_len [k]
  have h2 := text_list (D.blk k)
  have h3 := h.ok.blk k
  simp only [List.length_cons, List.length_nil] at h1
  omega
theorem putO_len {D : Vd} (h : Vd.fit D) (c : Int) : (Vd.putO D c).length ≤ 200 := by
  unfold Vd.putO
  rw [List.length_append]
  have h1 := putK_len [c, (Vd.ses D c).seq, (Vd.ses D c).e]
  have h2 := text_list (Vd.ses D c).data
  have h3 := (h.ses c).2.2.1
  simp only [List.length_cons, List.length_nil] at h1
  omega
theorem vd_lookupN (D : Vd) (b mb mo : Nat) (k : Int) (w : World) (h : VdAt w b mb mo D) : (Instr.lookup 62 (.map (some mo)) (.int .u64 k) false).run Tryd.prog w = .ok (Vd.ses D k).val w := by
  rw [run_map_lookup (P := Tryd.prog) (t := 62) h.om Tryd.underlying62 Tryd.underlying25 k (z := Ses.zero.val) rfl, mget_ents]
  unfold Vd.ses
  cases aget D.opens k <;> rfl
theorem U64At.new (w : World) (x : Int) (xs : List Int) : U64At (w.alloc (.cells ((x :: xs).map (Value.int .u64)).toArray 25)) w.heap.size (x :: xs) := by
  refine ⟨fun j hj => ?_, _, _, Go.heap_alloc_new w _⟩
  rw [cell_alloc_row]
  have hj' : j < (x :: xs).length := hj
  simp only [List.getElem?_toArray, List.getElem?_map, List.getElem?_eq_getElem hj', Option.map_some, List.getD, Option.getD_some]
theorem vd_put1n (B b : Nat) (l : List UInt8) (g n c : Nat) (zs : List Int) (hn : zs.length = n) (w : World) (hb : Bld B b l w) (hBw : B ≤ w.heap.size) (hz : ∀ z ∈ zs, 0 ≤ z ∧ z ≤ 18446744073709551615) (hg : U64At w g zs) (hgb : g ≠ b) (hlen : l.length + 10 * n ≤ 140737488355328) :
    Calls Tryd.prog 32 #[.slice (some ⟨g, 0, none⟩) n c, .pointer (some ⟨b, 0, none⟩)] w fun e w' => e = .returned (.tuple #[]) ∧ Bld B b (l ++ putK zs) w' ∧ Below B w w' ∧ Others b w w' := by
  subst hn
  refine vd_put1 B b l g c zs w hb hBw (fun k hk => ?_) hg hgb hlen
  simp only [List.getD, List.getElem?_eq_getElem hk, Option.getD_some]
  exact hz _ (List.getElem_mem hk)
set_option maxHeartbeats 3200000 in
theorem vd_put (b mb mo : Nat) (D : Vd) (hf : Vd.fit D) (w : World) (h : VdAt w b mb mo D) :
    Calls Tryd.prog 19 #[.pointer (some ⟨b, 0, none⟩)] w fun e w' => e = .returned (.string ⟨(Vd.put D).toArray⟩) ∧ Below w.heap.size w w' := by
  have HF := Pin.Aside.mk hf
  have HL := h.lt
  have hnb := hf.nb
  have hno := hf.no
  have hma := hf.ok.many
  clear hf
  have hk0 := (Keep.refl (fun _ => False) w).alloc (.cells #[.pointer none, .slice none 0 0] 70)
  have HB := Pin.Aside.mk (Bld.new w w.heap.size (Nat.le_refl _))
  have HV := Pin.Aside.mk (h.keep' hk0)
  have HW := Pin.Aside.mk (hk0.below (Nat.le_refl _) fun _ q => q.elim)
  clear hk0 h
  go_enter Tryd.func19, Tryd.ntmps19
  go_upto_region 3 with fail
  generalize World.alloc w _ = w1 at *
  generalize hB0 : w.heap.size = B at *
  have HBE := Pin.Aside.mk hB0
  clear hB0
  have k0 : ∀ s' : KW (fun k => B ≤ k) w1, s'.w.cell? ⟨b, 0, none⟩ = some (.int .u64 D.many) := fun s' => s'.keep.cell HV.out.c0 (by show ¬ B ≤ b; omega)
  have k1 : ∀ s' : KW (fun k => B ≤ k) w1, s'.w.cell? ⟨b, 1, none⟩ = some (.map (some mb)) := fun s' => s'.keep.cell HV.out.c1 (by show ¬ B ≤ b; omega)
  have k2 : ∀ s' : KW (fun k => B ≤ k) w1, (Builtin.len_ #[61] 3 #[.map (some mb)]).run Tryd.prog s'.w = .ok (goInt D.blocks.length) s'.w := fun s' => by
    have := run_map_len (P := Tryd.prog) (HV.out.bm.keep s'.keep (by show ¬ B ≤ mb; omega)) Tryd.underlying61 3
    rw [entsOf_len] at this; exact this
  refine wp_region_stay (S := fun w' => ∃ s' : KW (fun k => B ≤ k) w1, w' = s'.w) 11 (by kernel_rfl) (by simp) (by kernel_rfl) (by kernel_rfl) ⟨⟨w1.drew, (Keep.refl _ w1).drew⟩, rfl⟩ ?_
  simp only [List.take_succ_cons, List.take_zero]
  refine wpStay_quietS 2 _ _ (by kernel_rfl) ?_
  simp only [List.take_succ_cons, List.take_zero, List.drop_succ_cons, List.drop_zero]
  repeat (go_big_quiet_step (fail))
  refine wpQuiet_nil ?_
  refine wpStay_call (.pointer (some ⟨b, 0, none⟩)) (by rfl) (fun w' hw' => by unfold Oper.quietAt; go_simp) ?_
  go_simp
  refine wpStay_quietS 3 _ _ (by kernel_rfl) ?_
  simp only [List.take_succ_cons, List.take_zero, List.drop_succ_cons, List.drop_zero]
  repeat (go_big_quiet_step (fail))
  refine wpQuiet_nil ?_
  refine wpStay_call (.pointer (some ⟨b, 0, none⟩)) (by rfl) (fun w' hw' => by unfold Oper.quietAt; go_simp) ?_
  go_simp
  refine wpStay_quietS 2 _ _ (by kernel_rfl) ?_
  simp only [List.take_succ_cons, List.take_zero, List.drop_succ_cons, List.drop_zero]
  repeat (go_big_quiet_step (fail))
  refine wpQuiet_nil ?_
  refine wpStay_call (.int .i64 D.blocks.length) (by rfl) (fun w' hw' => by
    obtain ⟨s', rfl⟩ := hw'
    have k3 := k2 s'
    unfold Oper.quietAt
    go_simp) ?_
  go_simp
  refine wpStay_quietS 1 _ _ (by kernel_rfl) ?_
  simp only [List.take_succ_cons, List.take_zero, List.drop_succ_cons, List.drop_zero]
  repeat (go_big_quiet_step (fail))
  refine wpQuiet_nil ?_
  refine wpStay_nil ?_
  clear k0 k1 k2
  refine wpAnyH_one 11 (by kernel_rfl) rfl (fun K' hK' => ?_)
  go_simp
  have hkA := ((Keep.refl (fun k => B ≤ k) w1).alloc (.cells #[.int .u64 D.many, .int .u64 D.blocks.length] 25)).drew
  have hkF := ((Keep.refl (fun _ => False) w1).alloc (.cells #[.int .u64 D.many, .int .u64 D.blocks.length] 25)).drew
  have HG : Pin.Aside (U64At (w1.alloc (.cells #[.int .u64 D.many, .int .u64 D.blocks.length] 25)).drew w1.heap.size [D.many, (D.blocks.length : Int)]) := Pin.Aside.mk ((U64At.new w1 D.many [(D.blocks.length : Int)]).keep ((Keep.refl (fun _ => False) _).drew) id)
  have HBA := Pin.Aside.mk (HB.out.keep hkF)
  have HVA := Pin.Aside.mk (HV.out.keep' hkF)
  have hB1 : B < w1.heap.size := HB.out.lt
  have hwA : Below B w1 (w1.alloc (.cells #[.int .u64 D.many, .int .u64 D.blocks.length] 25)).drew := hkA.below (Nat.le_of_lt hB1) fun _ q => q
  have HWA := Pin.Aside.mk (HW.out.trans hwA)
  have hB2 : B ≤ (w1.alloc (.cells #[.int .u64 D.many, .int .u64 D.blocks.length] 25)).drew.heap.size := by have := hwA.size; omega
  refine hK'.out _ _ ⟨⟨_, hkA⟩, rfl⟩ (fun _ => ?_)
  clear hK' K' hkF HB HV HW
  generalize (w1.alloc (.cells #[.int .u64 D.many, .int .u64 D.blocks.length] 25)).drew = w2 at *
  generalize w1.heap.size = G at *
  refine wpAnyH_one 12 (by kernel_rfl) rfl (fun K' hK' => ?_)
  go_simp
  refine (vd_put1n B B [] G 2 2 _ rfl _ HBA.out hB2 ?_ HG.out (by omega) (by decide)).mono ?_
  · intro z hz
    simp only [List.mem_cons, List.not_mem_nil, or_false] at hz
    rcases hz with rfl | rfl <;> omega
  rintro e w3 ⟨rfl, hb3, hbb3, ho3⟩
  have HB3 := Pin.Aside.mk hb3
  have hk3 : Keep (fun k => B ≤ k) w1 w3 := hkA.trans (Keep.of_below (S := fun k => B ≤ k) hbb3 fun k _ q => by omega)
  have HV3 := Pin.Aside.mk (HVA.out.keep (S := fun k => B ≤ k) (Keep.of_below hbb3 fun k _ q => by omega) (by omega) (by omega) (by omega))
  have HW3 := Pin.Aside.mk (HWA.out.trans hbb3)
  refine hK'.out _ _ ⟨⟨_, hk3⟩, rfl⟩ (fun _ => ?_)
  clear hK' K' hb3 hbb3 ho3 hkA hwA HBA HVA HWA HG hk3 hB1 hB2
  refine wpAnyH_done (by kernel_rfl) (NoPanic.normal ?_) _
  have c1 := HV3.out.c1
  have KB : Pin.Aside (∀ W, VdAt W b mb mo D → Calls Tryd.prog 34 #[.map (some mb)] W fun e w' => ∃ (a : Option Addr) (c : Nat), e = .returned (.slice a D.blocks.length c) ∧ (0 < D.blocks.length → ∃ g, a = some ⟨g, 0, none⟩ ∧ W.heap.size ≤ g ∧ U64At w' g (Vd.keysB D)) ∧ Below W.heap.size W w') := Pin.Aside.mk (fun W hW => by
    have := vd_keys_b mb (entsOf .string D.blocks) W hW.bm (by rw [entsOf_len]; exact hnb)
    rw [entsOf_len, entsOf_keys] at this
    exact this)
  have KS : Pin.Aside (∀ W, VdAt W b mb mo D → Calls Tryd.prog 36 #[.map (some mo)] W fun e w' => ∃ (a : Option Addr) (c : Nat), e = .returned (.slice a D.opens.length c) ∧ (0 < D.opens.length → ∃ g, a = some ⟨g, 0, none⟩ ∧ W.heap.size ≤ g ∧ U64At w' g (Vd.keysO D)) ∧ Below W.heap.size W w') := Pin.Aside.mk (fun W hW => by
    have := vd_keys_s mo (entsOf Ses.val D.opens) W hW.om (by rw [entsOf_len]; exact hno)
    rw [entsOf_len, entsOf_keys] at this
    exact this)
  go_wp2_with fail
  refine (KB.out _ HV3.out).mono ?_
  rintro e w4 ⟨a, c, rfl, hpos, hb4⟩
  have HP4 := Pin.Aside.mk hpos
  have HB4 := Pin.Aside.mk (HB3.out.below hb4)
  have HV4 := Pin.Aside.mk (HV3.out.keep' (Keep.of_below (S := fun _ => False) hb4 fun _ q _ => q))
  have hBl : B < w3.heap.size := HB3.out.lt
  have HW4 := Pin.Aside.mk (HW3.out.trans (hb4.mono (Nat.le_of_lt hBl)))
  have HG4 : Pin.Aside (0 < D.blocks.length → ∃ g, a = some ⟨g, 0, none⟩ ∧ g ≠ B ∧ U64At w4 g (Vd.keysB D)) := Pin.Aside.mk (fun q => by
    obtain ⟨g, h1, h2, h3⟩ := HP4.out q
    exact ⟨g, h1, by omega, h3⟩)
  clear hpos HP4 HB3 HV3 HW3 hb4 c1 hBl
  go_wp2_with fail
  go_loopw [30] (fun x wr => ∃ k : Nat, k ≤ D.blocks.length ∧ x = .int .i64 k ∧ Pin.Aside (Bld B B (putK [D.many, (D.blocks.length : Int)] ++ ((Vd.keysB D).take k).flatMap (Vd.putB D)) wr) ∧ Pin.Aside (VdAt wr b mb mo D) ∧ Pin.Aside (Below B w wr) ∧ Pin.Aside (0 < D.blocks.length → ∃ g, a = some ⟨g, 0, none⟩ ∧ g ≠ B ∧ U64At wr g (Vd.keysB D))) (fun x _ => D.blocks.length - (intOf x).toNat)
  case atStart => exact ⟨0, by omega, rfl, by rw [List.take_zero, List.flatMap_nil, List.append_nil]; exact HB4, HV4, HW4, HG4⟩
  case round =>
    clear HB4 HV4 HW4 HG4
    obtain ⟨k, hk, rfl, HB, HV, HW, HG⟩ := hrel
    rename_i wr
    by_cases hlt : k < D.blocks.length
    · obtain ⟨g, rfl, hgB, hgU⟩ := HG.out (by omega)
      have hc := hgU.1 k (by rw [keysB_len]; exact hlt)
      obtain ⟨z, hz, hz0, hz1⟩ : ∃ z : Int, (Vd.keysB D).getD k 0 = z ∧ 0 ≤ z ∧ z ≤ 18446744073709551615 := ⟨_, rfl, keysB_in HF.out k (by rw [keysB_len]; exact hlt)⟩
      rw [hz] at hc
      have HS := Pin.Aside.mk (flatMap_take (Vd.putB D) (Vd.keysB D) k 0 (by rw [keysB_len]; exact hlt))
      rw [hz] at HS
      clear hz hgU
      obtain ⟨l, hl⟩ : ∃ l, putK [D.many, (D.blocks.length : Int)] ++ ((Vd.keysB D).take k).flatMap (Vd.putB D) = l := ⟨_, rfl⟩
      have hll : l.length ≤ 2000 := by
        rw [← hl, List.length_append]
        have h1 := putK_len [D.many, (D.blocks.length : Int)]
        have h2 := flatMap_len (Vd.putB D) 100 ((Vd.keysB D).take k) fun x _ => putB_len HF.out x
        have h3 : ((Vd.keysB D).take k).length ≤ k := List.length_take_le _ _
        simp only [List.length_cons, List.length_nil] at h1
        omega
      rw [hl] at HB
      have HL := Pin.Aside.mk hl
      clear hl
      have hkA := (Keep.refl (fun _ => False) wr).alloc (.cells #[.int .u64 z] 25)
      have hBl : B < wr.heap.size := HB.out.lt
      have HUA : Pin.Aside (U64At (wr.alloc (.cells #[.int .u64 z] 25)) wr.heap.size [z]) := Pin.Aside.mk (U64At.new wr z [])
      have HBA := Pin.Aside.mk (HB.out.keep hkA)
      have HVA := Pin.Aside.mk (HV.out.keep' hkA)
      have HWA := Pin.Aside.mk (HW.out.trans (hkA.below (B := B) (Nat.le_of_lt hBl) fun _ q => q.elim))
      obtain ⟨g', hgg, _, hgU⟩ := HG.out (by omega)
      obtain rfl : g = g' := by simpa using hgg
      have HGA := Pin.Aside.mk (hgU.keep hkA id)
      clear hgU hgg HG HB HV HW hkA
      have hBA : B ≤ (wr.alloc (.cells #[.int .u64 z] 25)).heap.size := by simp; omega
      go_wp2_with fail
      generalize wr.alloc (.cells #[.int .u64 z] 25) = w5 at *
      generalize wr.heap.size = G5 at *
      refine (vd_put1n B B l G5 1 1 [z] rfl _ HBA.out hBA (by intro y hy; simp only [List.mem_cons, List.not_mem_nil, or_false] at hy; subst hy; exact ⟨hz0, hz1⟩) HUA.out (by omega) (by omega)).mono ?_
      rintro e w6 ⟨rfl, hb6, hbb6, ho6⟩
      have HB6 := Pin.Aside.mk hb6
      have HV6 := Pin.Aside.mk (HVA.out.keep (S := fun k => B ≤ k) (Keep.of_below hbb6 fun k _ q => by omega) (by omega) (by omega) (by omega))
      have HW6 := Pin.Aside.mk (HWA.out.trans hbb6)
      have HG6 := Pin.Aside.mk (ho6.u64 HGA.out hgB)
      have hB6 : B < w6.heap.size := HB6.out.lt
      clear hb6 hbb6 ho6 HBA HVA HWA HGA HUA hBA
      have hlk := vd_lookup D b mb mo z w6 HV6.out
      have c1 := HV6.out.c1
      have hsz := HF.out.ok.blk z
      have HT := Pin.Aside.mk (fun W => var_text (D.blk z) (by omega) W)
      have HTl := Pin.Aside.mk (show l ++ Vd.putB D z = l ++ putK [z] ++ (textS (D.blk z)).data.toList by unfold Vd.putB; rw [List.append_assoc])
      have htz := textS_size (D.blk z)
      have hpz := putK_len [z]
      simp only [List.length_cons, List.length_nil] at hpz
      generalize textS (D.blk z) = TX at *
      generalize D.blk z = X at *
      go_wp2_with fail
      refine (HT.out _).mono ?_
      rintro e w7 ⟨rfl, hb7⟩
      have HB7 := Pin.Aside.mk (HB6.out.below hb7)
      have HV7 := Pin.Aside.mk (HV6.out.keep' (Keep.of_below (S := fun _ => False) hb7 fun _ q _ => q))
      have HW7 := Pin.Aside.mk (HW6.out.trans (hb7.mono (Nat.le_of_lt hB6)))
      have HG7 := Pin.Aside.mk (HG6.out.keep (Keep.of_below (S := fun _ => False) hb7 fun _ q _ => q) id)
      have hB7 : B < w7.heap.size := HB7.out.lt
      clear hb7 HB6 HV6 HW6 HG6 hlk c1 HT
      go_wp2_with fail
      refine (sb_writeStringX B B _ TX _ HB7.out (by rw [List.length_append]; omega) (Nat.le_of_lt hB7)).mono ?_
      rintro e w8 ⟨rfl, hb8, hbb8, ho8⟩
      have HB8 := Pin.Aside.mk hb8
      have HV8 := Pin.Aside.mk (HV7.out.keep (S := fun k => B ≤ k) (Keep.of_below hbb8 fun k _ q => by omega) (by omega) (by omega) (by omega))
      have HW8 := Pin.Aside.mk (HW7.out.trans hbb8)
      have HG8 := Pin.Aside.mk (ho8.u64 HG7.out hgB)
      clear hb8 hbb8 ho8
      go_wp2_with fail
      go_roundw
      case rel => exact ⟨k + 1, by omega, by go_num, by rw [HS.out, ← List.append_assoc, HL.out, HTl.out]; exact HB8, HV8, HW8, Pin.Aside.mk (fun _ => ⟨g, rfl, hgB, HG8.out⟩)⟩
      case measure => simp [intOf]; omega
    · obtain rfl : k = D.blocks.length := by omega
      have hb5 : Pin.Aside (Bld B B (putK [D.many, (D.blocks.length : Int)] ++ (Vd.keysB D).flatMap (Vd.putB D)) wr) := by
        have := HB.out
        rw [← keysB_len, List.take_length] at this
        rw [keysB_len] at this
        exact Pin.Aside.mk this
      clear HB HG KB
      rename_i wr
      obtain ⟨l5, hl5⟩ : ∃ l, putK [D.many, (D.blocks.length : Int)] ++ (Vd.keysB D).flatMap (Vd.putB D) = l := ⟨_, rfl⟩
      have hll5 : l5.length ≤ 2000 := by
        rw [← hl5, List.length_append]
        have h1 := putK_len [D.many, (D.blocks.length : Int)]
        have h2 := flatMap_len (Vd.putB D) 100 (Vd.keysB D) fun x _ => putB_len HF.out x
        have h3 := keysB_len D
        simp only [List.length_cons, List.length_nil] at h1
        omega
      rw [hl5] at hb5
      have HL5 := Pin.Aside.mk hl5
      clear hl5
      have c2 := HV.out.c2
      have hlen := run_map_len (P := Tryd.prog) HV.out.om Tryd.underlying62 3
      rw [entsOf_len] at hlen
      have hkA := (Keep.refl (fun _ => False) wr).alloc (.cells #[.int .u64 D.opens.length] 25)
      have hBl : B < wr.heap.size := hb5.out.lt
      have HUA : Pin.Aside (U64At (wr.alloc (.cells #[.int .u64 D.opens.length] 25)) wr.heap.size [(D.opens.length : Int)]) := Pin.Aside.mk (U64At.new wr _ [])
      have HBA := Pin.Aside.mk (hb5.out.keep hkA)
      have HVA := Pin.Aside.mk (HV.out.keep' hkA)
      have HWA := Pin.Aside.mk (HW.out.trans (hkA.below (B := B) (Nat.le_of_lt hBl) fun _ q => q.elim))
      have hBA : B ≤ (wr.alloc (.cells #[.int .u64 D.opens.length] 25)).heap.size := by simp; omega
      clear hkA hb5 HV HW
      go_wp2_with fail
      generalize wr.alloc (.cells #[.int .u64 D.opens.length] 25) = w5 at *
      generalize wr.heap.size = G5 at *
      refine (vd_put1n B B l5 G5 1 1 [(D.opens.length : Int)] rfl _ HBA.out hBA (by intro y hy; simp only [List.mem_cons, List.not_mem_nil, or_false] at hy; subst hy; omega) HUA.out (by omega) (by omega)).mono ?_
      rintro e w6 ⟨rfl, hb6, hbb6, ho6⟩
      have HB6 := Pin.Aside.mk hb6
      have HV6 := Pin.Aside.mk (HVA.out.keep (S := fun k => B ≤ k) (Keep.of_below hbb6 fun k _ q => by omega) (by omega) (by omega) (by omega))
      have HW6 := Pin.Aside.mk (HWA.out.trans hbb6)
      have hB6 : B < w6.heap.size := HB6.out.lt
      clear hb6 hbb6 ho6 HBA HVA HWA HUA hBA hlen c2
      obtain ⟨l6, hl6⟩ : ∃ l, l5 ++ putK [(D.opens.length : Int)] = l := ⟨_, rfl⟩
      have hll6 : l6.length ≤ 2100 := by
        rw [← hl6, List.length_append]
        have h1 := putK_len [(D.opens.length : Int)]
        simp only [List.length_cons, List.length_nil] at h1
        omega
      rw [hl6] at HB6
      have HL6 := Pin.Aside.mk hl6
      clear hl6 hll5
      have c2 := HV6.out.c2
      go_wp2_with fail
      refine (KS.out _ HV6.out).mono ?_
      rintro e w7 ⟨a', c', rfl, hpos, hb7⟩
      have HP7 := Pin.Aside.mk hpos
      have HB7 := Pin.Aside.mk (HB6.out.below hb7)
      have HV7 := Pin.Aside.mk (HV6.out.keep' (Keep.of_below (S := fun _ => False) hb7 fun _ q _ => q))
      have HW7 := Pin.Aside.mk (HW6.out.trans (hb7.mono (Nat.le_of_lt hB6)))
      have HG7 : Pin.Aside (0 < D.opens.length → ∃ g, a' = some ⟨g, 0, none⟩ ∧ g ≠ B ∧ U64At w7 g (Vd.keysO D)) := Pin.Aside.mk (fun q => by
        obtain ⟨g, h1, h2, h3⟩ := HP7.out q
        exact ⟨g, h1, by omega, h3⟩)
      clear hpos HP7 HB6 HV6 HW6 hb7 c2 hB6 KS
      go_wp2_with fail
      go_loopw [62] (fun x wr => ∃ k : Nat, k ≤ D.opens.length ∧ x = .int .i64 k ∧ Pin.Aside (Bld B B (l6 ++ ((Vd.keysO D).take k).flatMap (Vd.putO D)) wr) ∧ Pin.Aside (VdAt wr b mb mo D) ∧ Pin.Aside (Below B w wr) ∧ Pin.Aside (0 < D.opens.length → ∃ g, a' = some ⟨g, 0, none⟩ ∧ g ≠ B ∧ U64At wr g (Vd.keysO D))) (fun x _ => D.opens.length - (intOf x).toNat)
      case atStart => exact ⟨0, by omega, rfl, by rw [List.take_zero, List.flatMap_nil, List.append_nil]; exact HB7, HV7, HW7, HG7⟩
      case round =>
        clear HB7 HV7 HW7 HG7
        obtain ⟨k, hk, rfl, HB, HV, HW, HG⟩ := hrel
        by_cases hlt : k < D.opens.length
        · obtain ⟨g, rfl, hgB, hgU⟩ := HG.out (by omega)
          have hc := hgU.1 k (by rw [keysO_len]; exact hlt)
          obtain ⟨z, hz, hz0, hz1⟩ : ∃ z : Int, (Vd.keysO D).getD k 0 = z ∧ 0 ≤ z ∧ z ≤ 18446744073709551615 := ⟨_, rfl, keysO_in HF.out k (by rw [keysO_len]; exact hlt)⟩
          rw [hz] at hc
          have HS := Pin.Aside.mk (flatMap_take (Vd.putO D) (Vd.keysO D) k 0 (by rw [keysO_len]; exact hlt))
          rw [hz] at HS
          clear hz hgU
          obtain ⟨l, hl⟩ : ∃ l, l6 ++ ((Vd.keysO D).take k).flatMap (Vd.putO D) = l := ⟨_, rfl⟩
          have hll : l.length ≤ 10000 := by
            rw [← hl, List.length_append]
            have h2 := flatMap_len (Vd.putO D) 200 ((Vd.keysO D).take k) fun x _ => putO_len HF.out x
            have h3 : ((Vd.keysO D).take k).length ≤ k := List.length_take_le _ _
            omega
          rw [hl] at HB
          have HL := Pin.Aside.mk hl
          clear hl
          have hlk := vd_lookupN D b mb mo z wr HV.out
          have c2 := HV.out.c2
          obtain ⟨he0, he1, hd, hs0, hs1⟩ := HF.out.ses z
          have HT := Pin.Aside.mk (fun W => var_text (Vd.ses D z).data (by omega) W)
          have HTl := Pin.Aside.mk (show l ++ Vd.putO D z = l ++ putK [z, (Vd.ses D z).seq, (Vd.ses D z).e] ++ (textS (Vd.ses D z).data).data.toList by unfold Vd.putO; rw [List.append_assoc])
          have htz := textS_size (Vd.ses D z).data
          have hlk' := hlk
          unfold Ses.val at hlk'
          clear hlk
          generalize (Vd.ses D z).seq = sq at *
          generalize (Vd.ses D z).e = se at *
          generalize (Vd.ses D z).data = sd at *
          generalize textS sd = TX at *
          have hpz := putK_len [z, sq, se]
          simp only [List.length_cons, List.length_nil] at hpz
          have hwe : IntKind.u64.wrap se = se := by rw [IntKind.wrap_u64]; exact Int.emod_eq_of_lt (by omega) (by omega)
          have hkA := (Keep.refl (fun _ => False) wr).alloc (.cells #[.int .u64 sq, .int .i64 se, .string sd] 59)
          have r0 : (wr.alloc (.cells #[.int .u64 sq, .int .i64 se, .string sd] 59)).cell? ⟨wr.heap.size, 0, none⟩ = some (.int .u64 sq) := by simp
          have r1 : (wr.alloc (.cells #[.int .u64 sq, .int .i64 se, .string sd] 59)).cell? ⟨wr.heap.size, 1, none⟩ = some (.int .i64 se) := by simp
          have r2 : (wr.alloc (.cells #[.int .u64 sq, .int .i64 se, .string sd] 59)).cell? ⟨wr.heap.size, 2, none⟩ = some (.string sd) := by simp
          have HRow : Pin.Aside (∃ cs fr, (wr.alloc (.cells #[.int .u64 sq, .int .i64 se, .string sd] 59)).heap[wr.heap.size]? = some (.cells cs 59 fr)) := Pin.Aside.mk ⟨_, _, Go.heap_alloc_new wr _⟩
          have hBl : B < wr.heap.size := HB.out.lt
          have HBA := Pin.Aside.mk (HB.out.keep hkA)
          have HVA := Pin.Aside.mk (HV.out.keep' hkA)
          have HWA := Pin.Aside.mk (HW.out.trans (hkA.below (B := B) (Nat.le_of_lt hBl) fun _ q => q.elim))
          obtain ⟨g', hgg, _, hgU⟩ := HG.out (by omega)
          obtain rfl : g = g' := by simpa using hgg
          have HGA := Pin.Aside.mk (hgU.keep hkA id)
          clear hgU hgg HG HB HV HW hkA
          go_upto_region 15 with fail
          generalize wr.alloc (.cells #[.int .u64 sq, .int .i64 se, .string sd] 59) = w8 at *
          generalize wr.heap.size = R at *
          have hB8 : B < w8.heap.size := HBA.out.lt
          have hk8 := (Keep.refl (fun _ => False) w8).alloc (.cells #[.int .u64 z, .int .u64 sq, .int .u64 se] 25)
          have HU8 : Pin.Aside (U64At (w8.alloc (.cells #[.int .u64 z, .int .u64 sq, .int .u64 se] 25)) w8.heap.size [z, sq, se]) := Pin.Aside.mk (U64At.new w8 z [sq, se])
          have HB8 := Pin.Aside.mk (HBA.out.keep hk8)
          have HV8 := Pin.Aside.mk (HVA.out.keep' hk8)
          have HW8 := Pin.Aside.mk (HWA.out.trans (hk8.below (B := B) (Nat.le_of_lt hB8) fun _ q => q.elim))
          have HG8 := Pin.Aside.mk (HGA.out.keep hk8 id)
          have HR8 := Pin.Aside.mk (And.intro (hk8.cell r2 id) (show ∃ cs fr, (w8.alloc (.cells #[.int .u64 z, .int .u64 sq, .int .u64 se] 25)).heap[R]? = some (.cells cs 59 fr) by
            obtain ⟨cs, fr, h⟩ := HRow.out
            exact ⟨cs, fr, by rw [hk8.block R (Array.getElem?_eq_some_iff.1 h).1 id]; exact h⟩))
          have hB9 : B ≤ (w8.alloc (.cells #[.int .u64 z, .int .u64 sq, .int .u64 se] 25)).heap.size := by simp; omega
          clear hk8 HBA HVA HWA HGA
          go_wp2_with fail
          generalize w8.alloc (.cells #[.int .u64 z, .int .u64 sq, .int .u64 se] 25) = w9 at *
          generalize w8.heap.size = G9 at *
          refine (vd_put1n B B l G9 3 3 [z, sq, se] rfl _ HB8.out hB9 ?_ HU8.out (by omega) (by omega)).mono ?_
          · intro y hy
            simp only [List.mem_cons, List.not_mem_nil, or_false] at hy
            rcases hy with rfl | rfl | rfl <;> omega
          rintro e w10 ⟨rfl, hb10, hbb10, ho10⟩
          have HB10 := Pin.Aside.mk hb10
          have HV10 := Pin.Aside.mk (HV8.out.keep (S := fun k => B ≤ k) (Keep.of_below hbb10 fun k _ q => by omega) (by omega) (by omega) (by omega))
          have HW10 := Pin.Aside.mk (HW8.out.trans hbb10)
          have HG10 := Pin.Aside.mk (ho10.u64 HG8.out hgB)
          have hr2 : w10.cell? ⟨R, 2, none⟩ = some (.string sd) := by
            obtain ⟨h1, cs, fr, h2⟩ := HR8.out
            rw [← h1]
            exact World.cell?_of_block (w := w9) (a := ⟨R, 2, none⟩) (ho10 R cs _ fr h2 (by decide) (by omega))
          have hB10 : B < w10.heap.size := HB10.out.lt
          clear hb10 hbb10 ho10 HB8 HV8 HW8 HG8 HU8 HR8 hB9 r0 r1 r2 HRow
          go_wp2_with fail
          refine (HT.out _).mono ?_
          rintro e w11 ⟨rfl, hb11⟩
          have HB11 := Pin.Aside.mk (HB10.out.below hb11)
          have HV11 := Pin.Aside.mk (HV10.out.keep' (Keep.of_below (S := fun _ => False) hb11 fun _ q _ => q))
          have HW11 := Pin.Aside.mk (HW10.out.trans (hb11.mono (Nat.le_of_lt hB10)))
          have HG11 := Pin.Aside.mk (HG10.out.keep (Keep.of_below (S := fun _ => False) hb11 fun _ q _ => q) id)
          have hB11 : B < w11.heap.size := HB11.out.lt
          clear hb11 HB10 HV10 HW10 HG10 HT hr2
          go_wp2_with fail
          refine (sb_writeStringX B B _ TX _ HB11.out (by rw [List.length_append]; omega) (Nat.le_of_lt hB11)).mono ?_
          rintro e w12 ⟨rfl, hb12, hbb12, ho12⟩
          have HB12 := Pin.Aside.mk hb12
          have HV12 := Pin.Aside.mk (HV11.out.keep (S := fun k => B ≤ k) (Keep.of_below hbb12 fun k _ q => by omega) (by omega) (by omega) (by omega))
          have HW12 := Pin.Aside.mk (HW11.out.trans hbb12)
          have HG12 := Pin.Aside.mk (ho12.u64 HG11.out hgB)
          clear hb12 hbb12 ho12
          go_wp2_with fail
          go_roundw
          case rel => exact ⟨k + 1, by omega, by go_num, by rw [HS.out, ← List.append_assoc, HL.out, HTl.out]; exact HB12, HV12, HW12, Pin.Aside.mk (fun _ => ⟨g, rfl, hgB, HG12.out⟩)⟩
          case measure => simp [intOf]; omega
        · obtain rfl : k = D.opens.length := by omega
          have hb5 : Pin.Aside (Bld B B (l6 ++ (Vd.keysO D).flatMap (Vd.putO D)) wr) := by
            have := HB.out
            rw [← keysO_len, List.take_length] at this
            exact Pin.Aside.mk this
          have hne : l6 ++ (Vd.keysO D).flatMap (Vd.putO D) ≠ [] := by
            rw [← HL6.out]
            intro q
            have h1 := (List.append_eq_nil_iff.1 (List.append_eq_nil_iff.1 q).1).2
            unfold putK at h1
            simp only [List.map_cons, List.map_nil, List.flatten_cons, List.flatten_nil, List.append_nil] at h1
            have := vput_pos (D.opens.length : Int).toNat
            rw [h1] at this
            exact Nat.lt_irrefl _ this
          have HE : Pin.Aside (l6 ++ (Vd.keysO D).flatMap (Vd.putO D) = Vd.put D) := Pin.Aside.mk (by
            rw [← HL6.out, ← HL5.out]
            unfold Vd.put
            simp only [List.append_assoc])
          clear HB HG
          have HSt := Pin.Aside.mk (sb_string B B _ hne _ hb5.out)
          clear hne
          go_wp2_with fail
          refine HSt.out.mono ?_
          rintro e w13 ⟨rfl, hb13⟩
          go_wp2_with fail
          go_ret
          exact ⟨by rw [HE.out]; rfl, by rw [HBE.out]; exact HW.out.trans hb13⟩
end Go.Proofs.YtpebpcmppcpkdaaDoor
