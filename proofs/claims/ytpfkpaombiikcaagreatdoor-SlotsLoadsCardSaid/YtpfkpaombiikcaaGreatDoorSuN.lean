import Derived.Test.YtpfkpaombiikcaaGreatDoorSuM
import Derived.Test.YtpfkpaombiikcaaGreatDoorRfX
import Derived.Test.YtpfkpaombiikcaaGreatDoorRfA
import Derived.BigRegion
/- What the document's super.Put computes. NOT BUILT YET: region 3 draws (two calls, a makeSlice, a convert): go_region_law takes the calls; the text's sum wants its sizes. -/
set_option maxRecDepth 16000
namespace Go.Pin
open Go.RowKit
theorem held_block {k : Nat} {a w : World} {o : Obj} (hb : Below a.heap.size a w) (h : a.heap[k]? = some o) : w.heap[k]? = some o :=
  (hb.block k (Array.getElem?_eq_some_iff.1 h).1).trans h
theorem heap_drew_new (w : World) (o : Obj) : (w.alloc o).drew.heap[w.heap.size]? = some o := Go.heap_alloc_new w o
end Go.Pin
namespace Go.Proofs.YtpfkpaombiikcaaGreatDoor
open Go.RowKit Go.Pin
set_option linter.unusedVariables false
set_option linter.unusedSimpArgs false
set_option maxHeartbeats 1600000 in
theorem superref_put (g : Int) (hg : 0 ≤ g ∧ g ≤ 18446744073709551615) (b : ByteArray) (hb : b.size ≤ 1152921504606846976) (w : World) :
    Calls Tryz.prog 36 #[.int .u64 g, .string b] w fun e w' => e = .returned (.tuple #[.string (sput g b).1, .bool (sput g b).2]) ∧ Below w.heap.size w w' := by
  by_cases h0 : g = 0
  · have e1 : sput g b = (⟨#[]⟩, false) := by unfold sput; rw [if_pos (.inl h0)]
    rw [e1]
    have hq : (g == 0) = true := by simpa using h0
    clear e1 h0
    go_enter Tryz.func36, Tryz.ntmps36
    go_wp2_with fail
    go_ret2
    exact ⟨rfl, Below.refl _ _⟩
  · have hq : (g == 0) = false := by simpa using h0
    by_cases h1 : 51 < b.size
    · have e1 : sput g b = (⟨#[]⟩, false) := by unfold sput; rw [if_pos (.inr h1)]
      rw [e1]
      clear e1 h0
      go_enter Tryz.func36, Tryz.ntmps36
      go_wp2_with fail
      go_ret2
      exact ⟨rfl, Below.refl _ _⟩
    · have e1 : sput g b = (cput (sbody g.toNat b), true) := by unfold sput; rw [if_neg (by omega)]
      rw [e1]
      clear e1 h0
      have hw : IntKind.i64.wrap (51 - (b.size : Int)) = ((51 - b.size : Nat) : Int) := by rw [IntKind.wrap_i64]; omega
      have hu : IntKind.u64.wrap (b.size : Int) = (b.size : Int) := by rw [IntKind.wrap_u64]; omega
      have hf1 := fixedS_size8 g.toNat 8
      have hf2 := fixedS_size8 b.size 1
      have hmk : ∀ W : World, (Instr.makeSlice 69 (.int .i64 ((51 - b.size : Nat) : Int)) (.int .i64 ((51 - b.size : Nat) : Int))).run Tryz.prog W = .ok (.slice (some ⟨W.heap.size, 0, none⟩) (51 - b.size) (51 - b.size)) (W.alloc (.cells (Array.replicate (51 - b.size) (.int .u8 0)) 5)) := fun W => make_u8 W (51 - b.size) (by omega)
      have hcv : ∀ (W : World) (c : Nat), W.heap[c]? = some (.cells (Array.replicate (51 - b.size) (.int .u8 0)) 5 (0, 0)) → (convert 69 9 (.slice (some ⟨c, 0, none⟩) (51 - b.size) (51 - b.size))).run Tryz.prog W = .ok (.string (zeros (51 - b.size))) W := fun W c hc => run_string_zeros W (51 - b.size) c hc _
      have hcv0 : ∀ W : World, (convert 69 9 (.slice (some ⟨W.heap.size, 0, none⟩) (51 - b.size) (51 - b.size))).run Tryz.prog (W.alloc (.cells (Array.replicate (51 - b.size) (.int .u8 0)) 5)) = .ok (.string (zeros (51 - b.size))) (W.alloc (.cells (Array.replicate (51 - b.size) (.int .u8 0)) 5)) := fun W => conv_zeros W (51 - b.size)
      have hcv1 : ∀ W : World, (convert 69 9 (.slice (some ⟨W.heap.size, 0, none⟩) (51 - b.size) (51 - b.size))).run Tryz.prog (W.alloc (.cells (Array.replicate (51 - b.size) (.int .u8 0)) 5)).drew = .ok (.string (zeros (51 - b.size))) (W.alloc (.cells (Array.replicate (51 - b.size) (.int .u8 0)) 5)).drew := fun W => conv_zeros_drew W (51 - b.size)
      have hfx : ∀ W : World, Calls Tryz.prog 29 #[.int .u64 (b.size : Int), .int .i64 1] W fun e w' => e = .returned (.string (fixedS b.size 1)) ∧ Below W.heap.size W w' := fun W => by
        have := varref_fixed (b.size : Int) 1 (by omega) (by omega) (by omega) (by omega) W
        rw [Int.toNat_natCast] at this; exact this
      have hpc : ∀ W : World, Calls Tryz.prog 69 #[.string (sbody g.toNat b)] W fun e w' => e = .returned (.string (cput (sbody g.toNat b))) ∧ Below W.heap.size W w' := fun W => crcref_put _ W (by have := sbody_size g.toNat b (by omega); omega)
      have hdef : fixedS g.toNat 8 ++ fixedS b.size 1 ++ b ++ zeros (51 - b.size) = sbody g.toNat b := rfl
      have hzz : (zeros (51 - b.size)).size ≤ 51 := by rw [zeros_size]; omega
      have hbs : (b.size : Int) ≤ 51 := by omega
      have hfg : ∀ W : World, Calls Tryz.prog 29 #[.int .u64 g, .int .i64 8] W fun e w' => e = .returned (.string (fixedS g.toNat 8)) ∧ Below W.heap.size W w' := fun W => varref_fixed g 8 hg.1 hg.2 (by omega) (by omega) W
      have Hfg := Aside.mk hfg
      have Hfx := Aside.mk hfx
      have Hpc := Aside.mk hpc
      clear hfx hpc hfg
      generalize hn : 51 - b.size = n at *
      generalize hAr : Array.replicate n (Value.int IntKind.u8 0) = Ar at *
      generalize zeros n = Z at *
      generalize fixedS g.toNat 8 = F8 at *
      generalize fixedS b.size 1 = F1 at *
      generalize sbody g.toNat b = SB at *
      have h51 : ¬ (51 : Int) < (b.size : Int) := by omega
      clear hn h1 hAr
      have hc1 : ¬ 9223372036854775807 < F8.size + F1.size := by omega
      have hc2 : ¬ 9223372036854775807 < F8.size + F1.size + b.size := by omega
      have hc3 : ¬ 9223372036854775807 < F8.size + F1.size + b.size + Z.size := by omega
      go_enter Tryz.func36, Tryz.ntmps36
      go_wp2_with fail
      go_upto_region 3 with fail
      go_region_law (first
        | (go_simp; go_at_call 29; first | (with_reducible refine (Hfg.out _).mono ?_; rintro e w1 ⟨rfl, hb1⟩; (try have hx1 := held_block hb1 (heap_drew_new w _))) | (with_reducible refine (Hfx.out _).mono ?_; rintro e w2 ⟨rfl, hb2⟩; (try have hx2 := held_block hb2 hx1); (try have hx2 := held_block hb2 (Go.heap_alloc_new w1 _))))
        | (go_simp; go_at_call 69; with_reducible refine (Hpc.out _).mono ?_; rintro e w3 ⟨rfl, hb3⟩))
      all_goals (go_wp2_with fail)
      all_goals go_ret2
      all_goals refine ⟨rfl, ?_⟩
      all_goals first
        | exact Below.next (Below.next (Below.next (below_drewN ((Below.refl _ w).alloc (Nat.le_refl _) _) 1) hb1) hb2) hb3
        | exact Below.next (Below.next ((Below.next (below_drewN (Below.refl _ w) 1) hb1).alloc (Below.next (below_drewN (Below.refl _ w) 1) hb1).size _) hb2) hb3
        | exact Below.next ((Below.next (Below.next (below_drewN (Below.refl _ w) 1) hb1) hb2).alloc (Below.next (Below.next (below_drewN (Below.refl _ w) 1) hb1) hb2).size _) hb3
end Go.Proofs.YtpfkpaombiikcaaGreatDoor
