import Derived.Test.YtpfkpaombiikcaaGreatDoorRfW
import Derived.BigRegion
/- What the document's device computes: Write, Flush. -/
set_option maxRecDepth 16000
namespace Go.Proofs.YtpfkpaombiikcaaGreatDoor
open Go.RowKit Go.Pin
set_option linter.unusedVariables false
set_option linter.unusedSimpArgs false
theorem dcrash_try (d : Dv) (hd : d.dead = false) (f : Dv → Dv) : dtry d f = if (dcrash d).1 = true then (7, (dcrash d).2) else (0, f (dcrash d).2) := by
  unfold dtry dcrash
  by_cases h : d.armed = 0
  · rw [if_pos h, if_pos h, if_pos rfl]
  · rw [if_neg h, if_neg h, hd]; rfl
theorem dcrash_n (d : Dv) : (dcrash d).2.n = d.n := by unfold dcrash; split <;> rfl
theorem make_u8 (w : World) (n : Nat) (hn : n ≤ 64) : (Instr.makeSlice 69 (.int .i64 (n : Int)) (.int .i64 (n : Int))).run Tryz.prog w = .ok (.slice (some ⟨w.heap.size, 0, none⟩) n n) (w.alloc (.cells (Array.replicate n (.int .u8 0)) 5)) := by
  have hp : (Tryz.prog.info? 5).map (fun i => (i.zero, i.size, i.bytes)) = some (some (.int .u8 0), 1, 1) := by kernel_rfl
  obtain ⟨i0, hi, hz0, hz1, hz2⟩ := info_parts hp
  exact run_make_bytes (P := Tryz.prog) w 69 5 i0 Tryz.underlying69 hi hz0 hz1 hz2 n (by omega)
theorem conv_zeros (w : World) (n : Nat) : (convert 69 9 (.slice (some ⟨w.heap.size, 0, none⟩) n n)).run Tryz.prog (w.alloc (.cells (Array.replicate n (.int .u8 0)) 5)) = .ok (.string (zeros n)) (w.alloc (.cells (Array.replicate n (.int .u8 0)) 5)) :=
  run_string_zeros _ n w.heap.size (Go.heap_alloc_new w _) n
theorem conv_zeros_drew (w : World) (n : Nat) : (convert 69 9 (.slice (some ⟨w.heap.size, 0, none⟩) n n)).run Tryz.prog (w.alloc (.cells (Array.replicate n (.int .u8 0)) 5)).drew = .ok (.string (zeros n)) (w.alloc (.cells (Array.replicate n (.int .u8 0)) 5)).drew :=
  run_string_zeros (w.alloc (.cells (Array.replicate n (.int .u8 0)) 5)).drew n w.heap.size (Go.heap_alloc_new w _) n
set_option maxHeartbeats 1600000 in
theorem ref_write (b N O V : Nat) (d : Dv) (k : Int) (s : ByteArray) (hk : -9223372036854775808 ≤ k ∧ k ≤ 9223372036854775807) (hsz : s.size ≤ 9223372036854775807) (w : World) (h : RefAt w b N O V d) :
    Calls Tryz.prog 37 #[.pointer (some ⟨b, 0, none⟩), .int .i64 k, .string s] w fun e w' => e = .returned (.int .i64 (dwrite d k s).1) ∧ RefAt w' b N O V (dwrite d k s).2 ∧ Keep (refS b N O V) w w' := by
  obtain ⟨c, hc1, hc2, h0⟩ := h.c0
  have h4 := h.c4
  have hn := h.ok.n2
  cases hdd : d.dead with
  | true =>
    have e1 : dwrite d k s = (7, d) := dwrite_ref (by unfold dref; rw [if_pos hdd]) (by decide)
    rw [e1]
    rw [hdd] at h4
    clear hdd e1
    go_enter Tryz.func37, Tryz.ntmps37
    go_wp2_with fail
    go_ret
    exact ⟨rfl, h, Keep.refl _ _⟩
  | false =>
    rw [hdd] at h4
    by_cases hlow : k < 0
    · have e1 : dwrite d k s = (5, d) := dwrite_ref (by unfold dref; rw [if_neg (by rw [hdd]; simp), if_pos (.inl hlow)]) (by decide)
      rw [e1]
      clear hdd e1
      go_enter Tryz.func37, Tryz.ntmps37
      go_wp2_with fail
      go_ret
      exact ⟨rfl, h, Keep.refl _ _⟩
    · by_cases hhi : (d.n : Int) ≤ k
      · have e1 : dwrite d k s = (5, d) := dwrite_ref (by unfold dref; rw [if_neg (by rw [hdd]; simp), if_pos (.inr hhi)]) (by decide)
        rw [e1]
        clear hdd e1
        go_enter Tryz.func37, Tryz.ntmps37
        go_wp2_with fail
        go_ret
        exact ⟨rfl, h, Keep.refl _ _⟩
      · obtain ⟨j, rfl⟩ := Int.eq_ofNat_of_zero_le (show 0 ≤ k by omega)
        have hj : j < d.n := by omega
        have hr : dref d (j : Int) = 0 := by unfold dref; rw [if_neg (by rw [hdd]; simp), if_neg (by omega)]
        by_cases hbig : 64 < s.size
        · have e1 : dwrite d (j : Int) s = (3, d) := by unfold dwrite; rw [hr, if_neg (by simp), if_pos hbig]
          rw [e1]
          clear hdd e1 hr
          go_enter Tryz.func37, Tryz.ntmps37
          go_wp2_with fail
          go_ret
          exact ⟨rfl, h, Keep.refl _ _⟩
        · have e1 : dwrite d (j : Int) s = if (dcrash d).1 = true then (7, (dcrash d).2) else (0, dset j s (dcrash d).2) := by
            unfold dwrite
            rw [hr, if_neg (by simp), if_neg hbig, dcrash_try d hdd, Int.toNat_natCast]
          rw [e1]
          have hcon := ref_crashes b N O V d w h
          have hcn := dcrash_n d
          generalize dcrash d = C at *
          obtain ⟨cr, D⟩ := C
          replace hcn : D.n = d.n := hcn
          dsimp only at hcon ⊢
          cases cr with
          | true =>
            rw [if_pos rfl]
            clear hdd e1 hr
            go_enter Tryz.func37, Tryz.ntmps37
            go_wp2_with fail
            refine hcon.mono ?_
            rintro e w1 ⟨rfl, h1, hk1⟩
            go_wp2_with fail
            go_ret
            exact ⟨rfl, h1, hk1.mono fun _ q => .inl q⟩
          | false =>
            rw [if_neg (by simp)]
            have hs64 : s.size ≤ 64 := by omega
            clear hdd e1 hr hbig
            go_enter Tryz.func37, Tryz.ntmps37
            go_wp2_with fail
            refine hcon.mono ?_
            rintro e w1 ⟨rfl, h1, hk1⟩
            clear hcon h0 h4
            have hjD : j < D.n := by omega
            have hjD2 : (j : Int) < (D.n : Int) := by omega
            have hj0 : (0 : Int) ≤ (j : Int) := by omega
            obtain ⟨x0, p0, q0, r0⟩ := h1.c0
            obtain ⟨x2, p2, q2, r2⟩ := h1.c2
            have cN := h1.rN.at' j hjD
            have fN := h1.rN.fr j hjD
            have cV := h1.rV.at' j hjD
            have fV := h1.rV.fr j hjD
            have hlt := h1.lt
            have hwr : IntKind.i64.wrap (64 - (s.size : Int)) = ((64 - s.size : Nat) : Int) := by rw [IntKind.wrap_i64]; omega
            have hsw : IntKind.i64.wrap ((64 : Int) - (s.size : Int)) = ((64 - s.size : Nat) : Int) := hwr
            have hmk : ∀ W : World, (Instr.makeSlice 69 (.int .i64 ((64 - s.size : Nat) : Int)) (.int .i64 ((64 - s.size : Nat) : Int))).run Tryz.prog W = .ok (.slice (some ⟨W.heap.size, 0, none⟩) (64 - s.size) (64 - s.size)) (W.alloc (.cells (Array.replicate (64 - s.size) (.int .u8 0)) 5)) := fun W => make_u8 W (64 - s.size) (by omega)
            have hcv : ∀ W : World, (convert 69 9 (.slice (some ⟨W.heap.size, 0, none⟩) (64 - s.size) (64 - s.size))).run Tryz.prog (W.alloc (.cells (Array.replicate (64 - s.size) (.int .u8 0)) 5)).drew = .ok (.string (zeros (64 - s.size))) (W.alloc (.cells (Array.replicate (64 - s.size) (.int .u8 0)) 5)).drew := fun W => conv_zeros_drew W (64 - s.size)
            have hpad : s ++ zeros (64 - s.size) = pad s := rfl
            have hzz : (zeros (64 - s.size)).size ≤ 64 := by rw [zeros_size]; omega
            generalize hMM : 64 - s.size = M at *
            generalize zeros M = Z at *
            clear hMM
            go_wp2_with fail
            go_region
            have hka : Keep (fun _ => False) (w1.setCell ⟨N, j, none⟩ (.string (pad s))) ((w1.setCell ⟨N, j, none⟩ (.string (pad s))).alloc (Obj.cells (Array.replicate M (Value.int IntKind.u8 0)) 5)).drew := ((Keep.refl _ _).alloc _).drew
            have hset := h1.setSec j hjD s hs64 hka
            have hkN : Keep (refS b N O V) w1 ((w1.setCell ⟨N, j, none⟩ (.string (pad s))).alloc (Obj.cells (Array.replicate M (Value.int IntKind.u8 0)) 5)).drew := ((Keep.refl (refS b N O V) w1).setCell (p := ⟨N, j, none⟩) (.inl (.inr (.inl rfl))) _).trans (hka.mono fun _ q => q.elim)
            have hk0 : Keep (fun i => i = N) w1 ((w1.setCell ⟨N, j, none⟩ (.string (pad s))).alloc (Obj.cells (Array.replicate M (Value.int IntKind.u8 0)) 5)).drew := ((Keep.refl (fun i => i = N) w1).setCell (p := ⟨N, j, none⟩) (.inl rfl) _).trans (hka.mono fun _ q => q.elim)
            have t2 := hk0.cell r2 h1.bN
            have tV := hk0.cell cV (fun q => h1.NV q.symm)
            have tf : (((w1.setCell ⟨N, j, none⟩ (.string (pad s))).alloc (Obj.cells (Array.replicate M (Value.int IntKind.u8 0)) 5)).drew).frozen? ⟨V, j, none⟩ = false := by
              rw [hk0.frozen (p := ⟨V, j, none⟩) hlt.2.2.2 (fun q => h1.NV q.symm)]; exact fV
            clear hka hk0 hmk hcv hpad cN fN cV fV r0 r2 hwr hsw
            generalize ((w1.setCell ⟨N, j, none⟩ (.string (pad s))).alloc (Obj.cells (Array.replicate M (Value.int IntKind.u8 0)) 5)).drew = w2 at *
            go_wp2_with fail
            go_ret
            exact ⟨rfl, hset, ((hk1.mono fun _ q => .inl q).trans hkN).trans ((Keep.refl (refS b N O V) w2).setCell (p := ⟨V, j, none⟩) (.inl (.inr (.inr (.inr rfl)))) _)⟩
end Go.Proofs.YtpfkpaombiikcaaGreatDoor
