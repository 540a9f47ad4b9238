import Derived.Test.YtpfkpaombiikcaaGreatDoorSlW
/- slots: GetSuper. -/
set_option maxRecDepth 16000
namespace Go.Pin
open Go.RowKit
set_option linter.unusedVariables false
set_option linter.unusedSimpArgs false
/-- Block R's first cells, which may be written. -/
structure SevAt (w : World) (R n : Nat) (f : Nat → Value) : Prop where
  at' : ∀ i, i < n → w.cell? ⟨R, i, none⟩ = some (f i)
  fr : ∀ i, i < n → w.frozen? ⟨R, i, none⟩ = false
theorem SevAt.keep {S : Nat → Prop} {a w : World} {R n : Nat} {f : Nat → Value} (h : SevAt a R n f) (hk : Keep S a w) (hn : ¬ S R) : SevAt w R n f :=
  ⟨fun i hi => hk.cell (h.at' i hi) hn, fun i hi => by rw [hk.frozen (p := ⟨R, i, none⟩) (World.block_lt_of_cell? _ _ (h.at' i hi)) hn]; exact h.fr i hi⟩
theorem SevAt.below {a w : World} {R n : Nat} {f : Nat → Value} (h : SevAt a R n f) (hk : Below a.heap.size a w) : SevAt w R n f := h.keep (Keep.of_below (S := fun _ => False) hk fun _ hk _ => hk) id
theorem SevAt.set {a : World} {R n : Nat} {f : Nat → Value} (h : SevAt a R n f) (k : Nat) (hk : k < n) (v : Value) : SevAt (a.setCell ⟨R, k, none⟩ v) R n (fun i => if i = k then v else f i) := by
  refine ⟨fun i hi => ?_, fun i hi => by rw [World.frozen?_setCell]; exact h.fr i hi⟩
  by_cases e : i = k
  · subst e
    rw [World.cell?_setCell_same _ _ _ (h.at' i hi), if_pos rfl]
  · rw [World.cell?_setCell_other _ _ _ _ (fun q => e (congrArg Addr.off q).symm), h.at' i hi, if_neg e]
theorem SevAt.new (w : World) (cs : Array Value) (t : TypeId) (n : Nat) (hn : n = cs.size) : SevAt (w.alloc (.cells cs t)) w.heap.size n (fun i => cs.getD i undef) := by
  subst hn
  refine ⟨fun i hi => ?_, fun i _ => World.frozen?_alloc_at _ _ _ _ rfl⟩
  rw [World.cell?_alloc_new]
  simp [Array.getD, hi]
theorem SevAt.get7 {w : World} {R : Nat} {f : Nat → Value} (h : SevAt w R 7 f) : w.cell? ⟨R, 0, none⟩ = some (f 0) ∧ w.cell? ⟨R, 1, none⟩ = some (f 1) ∧ w.cell? ⟨R, 2, none⟩ = some (f 2) ∧ w.cell? ⟨R, 3, none⟩ = some (f 3) ∧ w.cell? ⟨R, 4, none⟩ = some (f 4) ∧ w.cell? ⟨R, 5, none⟩ = some (f 5) ∧ w.cell? ⟨R, 6, none⟩ = some (f 6) :=
  ⟨h.at' 0 (by omega), h.at' 1 (by omega), h.at' 2 (by omega), h.at' 3 (by omega), h.at' 4 (by omega), h.at' 5 (by omega), h.at' 6 (by omega)⟩
theorem SevAt.fr7 {w : World} {R : Nat} {f : Nat → Value} (h : SevAt w R 7 f) : w.frozen? ⟨R, 0, none⟩ = false ∧ w.frozen? ⟨R, 1, none⟩ = false ∧ w.frozen? ⟨R, 2, none⟩ = false ∧ w.frozen? ⟨R, 3, none⟩ = false ∧ w.frozen? ⟨R, 4, none⟩ = false ∧ w.frozen? ⟨R, 5, none⟩ = false ∧ w.frozen? ⟨R, 6, none⟩ = false :=
  ⟨h.fr 0 (by omega), h.fr 1 (by omega), h.fr 2 (by omega), h.fr 3 (by omega), h.fr 4 (by omega), h.fr 5 (by omega), h.fr 6 (by omega)⟩
/-- Seven cells are written. -/
def set7 (w : World) (R : Nat) (x0 x1 x2 x3 x4 x5 x6 : Value) : World := ((((((w.setCell ⟨R, 0, none⟩ x0).setCell ⟨R, 1, none⟩ x1).setCell ⟨R, 2, none⟩ x2).setCell ⟨R, 3, none⟩ x3).setCell ⟨R, 4, none⟩ x4).setCell ⟨R, 5, none⟩ x5).setCell ⟨R, 6, none⟩ x6
theorem SevAt.set7 {w : World} {R : Nat} {f : Nat → Value} (h : SevAt w R 7 f) (x0 x1 x2 x3 x4 x5 x6 : Value) :
    (set7 w R x0 x1 x2 x3 x4 x5 x6).cell? ⟨R, 0, none⟩ = some x0 ∧ (set7 w R x0 x1 x2 x3 x4 x5 x6).cell? ⟨R, 1, none⟩ = some x1 ∧ (set7 w R x0 x1 x2 x3 x4 x5 x6).cell? ⟨R, 2, none⟩ = some x2 ∧ (set7 w R x0 x1 x2 x3 x4 x5 x6).cell? ⟨R, 3, none⟩ = some x3 ∧ (set7 w R x0 x1 x2 x3 x4 x5 x6).cell? ⟨R, 4, none⟩ = some x4 ∧ (set7 w R x0 x1 x2 x3 x4 x5 x6).cell? ⟨R, 5, none⟩ = some x5 ∧ (set7 w R x0 x1 x2 x3 x4 x5 x6).cell? ⟨R, 6, none⟩ = some x6 :=
  ((((((h.set 0 (by omega) x0).set 1 (by omega) x1).set 2 (by omega) x2).set 3 (by omega) x3).set 4 (by omega) x4).set 5 (by omega) x5).set 6 (by omega) x6 |>.get7
theorem below_set7 {N R : Nat} {a w : World} (h : Below N a w) (hg : N ≤ R) (x0 x1 x2 x3 x4 x5 x6 : Value) : Below N a (set7 w R x0 x1 x2 x3 x4 x5 x6) :=
  (((((((h.setCell (p := ⟨R, 0, none⟩) hg _).setCell (p := ⟨R, 1, none⟩) hg _).setCell (p := ⟨R, 2, none⟩) hg _).setCell (p := ⟨R, 3, none⟩) hg _).setCell (p := ⟨R, 4, none⟩) hg _).setCell (p := ⟨R, 5, none⟩) hg _).setCell (p := ⟨R, 6, none⟩) hg _)
theorem Keep.dropS {w w1 w2 : World} {B b : Nat} (h : Below B w w1) (hB : B ≤ w1.heap.size) (hb : B ≤ b) (k : Keep (fun j => j = b) w1 w2) : Below B w w2 :=
  h.trans (k.below hB fun j hj => by omega)
theorem RdAt.allocS {a : World} {b : Nat} {r : Rd} (h : RdAt a b r) (o : Obj) : RdAt (a.alloc o) b r := h.keep ((Keep.refl (fun _ => False) a).alloc o) id
theorem Rd.fixed_leT (r : Rd) (k : Int) : (r.fixed k).2.s.size ≤ r.s.size := by
  unfold Rd.fixed
  refine Nat.le_trans (Rd.bytes_le _ _) ?_
  split
  · exact Nat.zero_le _
  · exact Nat.le_refl _
theorem Rd.fixed_ltT (r : Rd) : (r.fixed 1).1 < 256 := by
  unfold Rd.fixed
  rw [if_neg (by omega)]
  have h := Rd.bytes_size r 1
  have h2 := beNat_lt (r.bytes 1).1.data.toList
  have h3 : (r.bytes 1).1.data.toList.length ≤ 1 := by rw [Array.length_toList]; show (r.bytes 1).1.size ≤ 1; omega
  exact Nat.lt_of_lt_of_le h2 (Nat.pow_le_pow_right (by omega) h3)
theorem ssmall_le (v : Int) (r : Rd) (k : Int) : (ssmall v r k).2.s.size ≤ r.s.size := by
  unfold ssmall
  dsimp only
  split
  · exact Nat.zero_le _
  · exact stake_le v r k
theorem ssmall_range (v : Int) (r : Rd) (k : Int) : -9223372036854775808 ≤ (ssmall v r k).1 ∧ (ssmall v r k).1 ≤ 9223372036854775807 := by
  unfold ssmall
  dsimp only
  rw [IntKind.wrap_i64]; omega
theorem store_func_new (P : Program) (w : World) (t : TypeId) (fn : Fn) : (store ⟨w.heap.size, 0, none⟩ (.func fn #[] #[])).run P (w.alloc (.cells #[.nilFunc] t)) = .ok () (w.alloc (.cells #[.func fn #[] #[]] t)) := by
  have hc : (w.alloc (.cells #[.nilFunc] t)).cell? ⟨w.heap.size, 0, none⟩ = some .nilFunc := World.cell?_alloc_new w _ _ 0
  have hf : (w.alloc (.cells #[.nilFunc] t)).frozen? ⟨w.heap.size, 0, none⟩ = false := World.frozen?_alloc_at _ _ _ _ rfl
  rw [run_store _ _ _ _ _ rfl, hc, hf]
  have : (w.alloc (.cells #[Value.nilFunc] t)).setCell ⟨w.heap.size, 0, none⟩ (.func fn #[] #[]) = w.alloc (.cells #[.func fn #[] #[]] t) := by
    rw [World.setCell_alloc_at _ _ _ _ _ rfl]; rfl
  simp [this]
theorem store_nilfunc_new (P : Program) (w : World) (t : TypeId) : (store ⟨w.heap.size, 0, none⟩ .nilFunc).run P (w.alloc (.cells #[.nilFunc] t)) = .ok () (w.alloc (.cells #[.nilFunc] t)) := by
  have hc : (w.alloc (.cells #[.nilFunc] t)).cell? ⟨w.heap.size, 0, none⟩ = some .nilFunc := World.cell?_alloc_new w _ _ 0
  have hf : (w.alloc (.cells #[.nilFunc] t)).frozen? ⟨w.heap.size, 0, none⟩ = false := World.frozen?_alloc_at _ _ _ _ rfl
  rw [run_store _ _ _ _ _ rfl, hc, hf]
  have : (w.alloc (.cells #[Value.nilFunc] t)).setCell ⟨w.heap.size, 0, none⟩ .nilFunc = w.alloc (.cells #[.nilFunc] t) := by
    rw [World.setCell_alloc_at _ _ _ _ _ rfl]; rfl
  simp [this]
theorem supget_is (b : ByteArray) (xn : Nat) (xr : Rd) (hx : (Rd.mk b false).fixed 1 = (xn, xr)) : supget b = if (xn : Int) ≠ 1 ∧ (xn : Int) ≠ 2 then (Sup.zero, false) else
    if (ssix (ssmall xn) xn xr).2.bad = true ∨ 0 < (ssix (ssmall xn) xn xr).2.s.size ∨ (ssix (ssmall xn) xn xr).1.right = false then (Sup.zero, false) else ((ssix (ssmall xn) xn xr).1, true) := by
  unfold supget; rw [hx]
end Go.Pin
namespace Go.Proofs.YtpfkpaombiikcaaGreatDoor
open Go.RowKit Go.Pin
set_option linter.unusedVariables false
set_option linter.unusedSimpArgs false
theorem slots_take1 (Q : Nat) (r : Rd) (k : Int) (hk : -9223372036854775808 ≤ k ∧ k ≤ 9223372036854775807) (w : World) (h : RdAt w Q r) (hs : r.s.size ≤ 1152921504606846976) :
    Calls Tryz.prog 52 #[.pointer (some ⟨Q, 0, none⟩), .int .i64 k] w fun e w' => e = .returned (.int .u64 (stake 1 r k).1) ∧ RdAt w' Q (stake 1 r k).2 ∧ Keep (fun k => k = Q) w w' := rd_fixed Q r k w h hk hs
set_option maxHeartbeats 1600000 in
theorem slots_small1 (T C Q : Nat) (r : Rd) (k : Int) (hk : -9223372036854775808 ≤ k ∧ k ≤ 9223372036854775807) (w : World) (hT : w.cell? ⟨T, 0, none⟩ = some (.func (.func 52) #[] #[])) (hC : w.cell? ⟨C, 0, none⟩ = some (.pointer (some ⟨Q, 0, none⟩))) (hCQ : C ≠ Q) (h : RdAt w Q r) (hs : r.s.size ≤ 1152921504606846976) :
    Calls Tryz.prog 54 #[.int .i64 k, .pointer (some ⟨T, 0, none⟩), .pointer (some ⟨C, 0, none⟩)] w fun e w' => e = .returned (.int .i64 (ssmall 1 r k).1) ∧ RdAt w' Q (ssmall 1 r k).2 ∧ Keep (fun k => k = Q) w w' := by
  have hcon := slots_take1 Q r k hk w h hs
  have hlt := stake_lt 1 r k
  have E := Pin.Aside.mk (show ssmall 1 r k = (IntKind.i64.wrap ((stake 1 r k).1 : Int), if 1000 < (stake 1 r k).1 then Rd.fail else (stake 1 r k).2) from rfl)
  obtain ⟨n, hn⟩ : ∃ n : Nat, (stake 1 r k).1 = n := ⟨_, rfl⟩
  obtain ⟨r2, hr2⟩ : ∃ r2, (stake 1 r k).2 = r2 := ⟨_, rfl⟩
  rw [hn, hr2] at hcon E
  rw [hn] at hlt
  have hw : ∃ z : Int, IntKind.i64.wrap (n : Int) = z := ⟨_, rfl⟩
  obtain ⟨z, hz⟩ := hw
  rw [hz] at E
  clear hn hr2 h
  by_cases h1 : 1000 < n
  · have h1i : (1000 : Int) < (n : Int) := by omega
    rw [if_pos h1] at E
    clear h1
    go_enter Tryz.func54, Tryz.ntmps54
    go_wp2_with fail
    refine hcon.mono ?_
    rintro e w1 ⟨rfl, hr1, hk1⟩
    replace hC := hk1.cell hC (fun q => hCQ q)
    have Hk1 := Pin.Aside.mk hk1
    clear hcon hk1
    go_wp2_with fail
    refine (rd_fail Q r2 _ hr1).mono ?_
    rintro e w2 ⟨rfl, hr2, hk2⟩
    go_wp2_with fail
    go_ret
    rw [E.out]
    exact ⟨rfl, hr2, Hk1.out.trans hk2⟩
  · have h1i : ¬ (1000 : Int) < (n : Int) := by omega
    rw [if_neg h1] at E
    clear h1
    go_enter Tryz.func54, Tryz.ntmps54
    go_wp2_with fail
    refine hcon.mono ?_
    rintro e w1 ⟨rfl, hr1, hk1⟩
    clear hcon
    go_wp2_with fail
    go_ret
    rw [E.out]
    exact ⟨rfl, hr1, hk1⟩
theorem slots_take2 (Q : Nat) (r : Rd) (k : Int) (hk : -9223372036854775808 ≤ k ∧ k ≤ 9223372036854775807) (w : World) (h : RdAt w Q r) (hs : r.s.size ≤ 1152921504606846976) :
    Calls Tryz.prog 79 #[.pointer (some ⟨Q, 0, none⟩), .int .i64 k] w fun e w' => e = .returned (.int .u64 (stake 2 r k).1) ∧ RdAt w' Q (stake 2 r k).2 ∧ Keep (fun k => k = Q) w w' := slots_r2 Q r k w h hs
set_option maxHeartbeats 1600000 in
theorem slots_small2 (T C Q : Nat) (r : Rd) (k : Int) (hk : -9223372036854775808 ≤ k ∧ k ≤ 9223372036854775807) (w : World) (hT : w.cell? ⟨T, 0, none⟩ = some (.func (.func 79) #[] #[])) (hC : w.cell? ⟨C, 0, none⟩ = some (.pointer (some ⟨Q, 0, none⟩))) (hCQ : C ≠ Q) (h : RdAt w Q r) (hs : r.s.size ≤ 1152921504606846976) :
    Calls Tryz.prog 54 #[.int .i64 k, .pointer (some ⟨T, 0, none⟩), .pointer (some ⟨C, 0, none⟩)] w fun e w' => e = .returned (.int .i64 (ssmall 2 r k).1) ∧ RdAt w' Q (ssmall 2 r k).2 ∧ Keep (fun k => k = Q) w w' := by
  have hcon := slots_take2 Q r k hk w h hs
  have hlt := stake_lt 2 r k
  have E := Pin.Aside.mk (show ssmall 2 r k = (IntKind.i64.wrap ((stake 2 r k).1 : Int), if 1000 < (stake 2 r k).1 then Rd.fail else (stake 2 r k).2) from rfl)
  obtain ⟨n, hn⟩ : ∃ n : Nat, (stake 2 r k).1 = n := ⟨_, rfl⟩
  obtain ⟨r2, hr2⟩ : ∃ r2, (stake 2 r k).2 = r2 := ⟨_, rfl⟩
  rw [hn, hr2] at hcon E
  rw [hn] at hlt
  have hw : ∃ z : Int, IntKind.i64.wrap (n : Int) = z := ⟨_, rfl⟩
  obtain ⟨z, hz⟩ := hw
  rw [hz] at E
  clear hn hr2 h
  by_cases h1 : 1000 < n
  · have h1i : (1000 : Int) < (n : Int) := by omega
    rw [if_pos h1] at E
    clear h1
    go_enter Tryz.func54, Tryz.ntmps54
    go_wp2_with fail
    refine hcon.mono ?_
    rintro e w1 ⟨rfl, hr1, hk1⟩
    replace hC := hk1.cell hC (fun q => hCQ q)
    have Hk1 := Pin.Aside.mk hk1
    clear hcon hk1
    go_wp2_with fail
    refine (rd_fail Q r2 _ hr1).mono ?_
    rintro e w2 ⟨rfl, hr2, hk2⟩
    go_wp2_with fail
    go_ret
    rw [E.out]
    exact ⟨rfl, hr2, Hk1.out.trans hk2⟩
  · have h1i : ¬ (1000 : Int) < (n : Int) := by omega
    rw [if_neg h1] at E
    clear h1
    go_enter Tryz.func54, Tryz.ntmps54
    go_wp2_with fail
    refine hcon.mono ?_
    rintro e w1 ⟨rfl, hr1, hk1⟩
    clear hcon
    go_wp2_with fail
    go_ret
    rw [E.out]
    exact ⟨rfl, hr1, hk1⟩
set_option maxHeartbeats 6400000 in
theorem slots_getsuper (b : ByteArray) (hs : b.size ≤ 1152921504606846976) (w : World) :
    Calls Tryz.prog 25 #[.string b] w fun e w' => e = .returned (.tuple #[(supget b).1.val, .bool (supget b).2]) ∧ Below w.heap.size w w' := by
  have hmf := crc_mf
  obtain ⟨⟨xn, xr⟩, hx⟩ : ∃ x, (Rd.mk b false).fixed 1 = x := ⟨_, rfl⟩
  have hx1 : xn < 256 := by have := Rd.fixed_ltT ⟨b, false⟩; rw [hx] at this; exact this
  have hx2 : xr.s.size ≤ 1152921504606846976 := by have := Rd.fixed_leT ⟨b, false⟩ 1; rw [hx] at this; exact Nat.le_trans this hs
  have E := Pin.Aside.mk (supget_is b xn xr hx)
  have Hx := Pin.Aside.mk hx
  obtain ⟨v, hv⟩ : ∃ v : Int, (xn : Int) = v := ⟨_, rfl⟩
  rw [hv] at E
  have Hv := Pin.Aside.mk hv
  have hv0 : 0 ≤ v ∧ v < 256 := by omega
  have wv : IntKind.i64.wrap v = v := by rw [IntKind.wrap_i64]; omega
  have hR0 := SevAt.new w #[.int .i64 0, .int .i64 0, .int .i64 0, .int .i64 0, .int .i64 0, .int .i64 0, .int .i64 0] 23 7 rfl
  have hb0 := (Below.refl w.heap.size w).alloc (Nat.le_refl _) (.cells #[.int .i64 0, .int .i64 0, .int .i64 0, .int .i64 0, .int .i64 0, .int .i64 0, .int .i64 0] 23)
  have hz0 : w.heap.size < (w.alloc (.cells #[.int .i64 0, .int .i64 0, .int .i64 0, .int .i64 0, .int .i64 0, .int .i64 0, .int .i64 0] 23)).heap.size := by simp
  have HR := Pin.Aside.mk hR0
  have Hb := Pin.Aside.mk hb0
  have hzv : ∀ w, (zeroValue 107).run Tryz.prog w = .ok .nilFunc w := fun _ => rfl
  have hst0 := fun W => store_nilfunc_new Tryz.prog W 107
  have hst := fun W fn => store_func_new Tryz.prog W 107 fn
  clear hR0 hb0 hx hv hx1
  go_enter Tryz.func25, Tryz.ntmps25
  go_wp2_with fail
  generalize w.alloc (.cells #[.int .i64 0, .int .i64 0, .int .i64 0, .int .i64 0, .int .i64 0, .int .i64 0, .int .i64 0] 23) = w0 at *
  generalize hRR : w.heap.size = R at *
  have HRR := Pin.Aside.mk hRR
  have HS := Pin.Aside.mk (show ∀ x, Below R w x → R ≤ x.heap.size from fun x h => by have := h.size; omega)
  clear hRR
  refine (rd_new b _).mono ?_
  rintro e w1 ⟨rfl, hr, hz, hb1⟩
  have HR1 := Pin.Aside.mk (HR.out.below hb1)
  have Hb1 := Pin.Aside.mk (Hb.out.trans (hb1.mono (by omega)))
  have hQ1 : w0.heap.size < w1.heap.size := by omega
  generalize w0.heap.size = Q at *
  clear hb1 hz HR Hb
  go_wp2_with fail
  have hc := World.cell?_alloc_new w1 #[Value.pointer (some ⟨Q, 0, none⟩)] 102 0
  replace hc : (w1.alloc (Obj.cells #[Value.pointer (some ⟨Q, 0, none⟩)] 102)).cell? ⟨w1.heap.size, 0, none⟩ = some (.pointer (some ⟨Q, 0, none⟩)) := hc
  have hk2 : Keep (fun _ => False) w1 (w1.alloc (Obj.cells #[Value.pointer (some ⟨Q, 0, none⟩)] 102)) := (Keep.refl _ _).alloc _
  have hr2 := hr.keep hk2 id
  have HR2 := Pin.Aside.mk (HR1.out.keep hk2 id)
  have Hb2 := Pin.Aside.mk (Hb1.out.trans (hk2.below (by omega) fun _ q => q.elim))
  have hC2 : w1.heap.size < (w1.alloc (Obj.cells #[Value.pointer (some ⟨Q, 0, none⟩)] 102)).heap.size := by simp
  clear hk2 hr HR1 Hb1
  generalize (w1.alloc (Obj.cells #[Value.pointer (some ⟨Q, 0, none⟩)] 102)) = w2 at *
  generalize w1.heap.size = C at *
  have hCQ : C ≠ Q := by omega
  have hRQ : R ≠ Q := by omega
  have hRQ2 : R ≤ Q := by omega
  refine (rd_fixed Q _ 1 _ hr2 (by omega) (by show b.size ≤ _; exact hs)).mono ?_
  rw [Hx.out]
  dsimp only
  rw [Hv.out]
  rintro e w3 ⟨rfl, hr3, hk3⟩
  replace hc := hk3.cell hc hCQ
  have HR3 := Pin.Aside.mk (HR2.out.keep hk3 hRQ)
  have Hb3 := Pin.Aside.mk (Hb2.out.trans (hk3.below (by omega) fun _ q => by omega))
  have hC3 : C < w3.heap.size := Nat.lt_of_lt_of_le hC2 hk3.size
  clear hk3 hr2 HR2 Hb2 hC2
  go_wp2_with fail
  refine (slots_readers _).mono ?_
  rintro e w4 ⟨m, rfl, hm, hM, hb4⟩
  replace hc := (Keep.of_below (S := fun _ => False) hb4 fun _ hk _ => hk).cell hc id
  have hr4 := hr3.below hb4
  have HR4 := Pin.Aside.mk (HR3.out.below hb4)
  have Hb4 := Pin.Aside.mk (Hb3.out.trans (hb4.mono (by omega)))
  have hC4 : C < w4.heap.size := Nat.lt_of_lt_of_le hC3 hb4.size
  have hl := run_map_lookup_ok (P := Tryz.prog) (t := 105) hM Tryz.underlying105 Tryz.underlying3 v (hzv _)
  clear hb4 hr3 HR3 Hb3 hC3 hM hm hzv
  rcases (show v = 1 ∨ v = 2 ∨ (v ≠ 1 ∧ v ≠ 2) by omega) with h1 | h1 | ⟨n1, n2⟩
  · subst h1
    rw [mget_twoS, if_pos rfl] at hl
    simp only [Option.getD_some, Option.isSome_some, rF, rV] at hl
    rw [if_neg (by omega)] at E
    go_upto_region 8 with fail
    have hT := World.cell?_alloc_new w4 #[Value.func (Fn.func 52) #[] #[]] 107 0
    replace hT : (w4.alloc (Obj.cells #[Value.func (Fn.func 52) #[] #[]] 107)).cell? ⟨w4.heap.size, 0, none⟩ = some (.func (Fn.func 52) #[] #[]) := hT
    have hk5 : Keep (fun _ => False) w4 (w4.alloc (Obj.cells #[Value.func (Fn.func 52) #[] #[]] 107)) := (Keep.refl _ _).alloc _
    replace hc := hk5.cell hc id
    have hr5 := hr4.keep hk5 id
    have HR5 := Pin.Aside.mk (HR4.out.keep hk5 id)
    have Hb5 := Pin.Aside.mk (Hb4.out.trans (hk5.below (by omega) fun _ q => q.elim))
    have hTQ : w4.heap.size ≠ Q := by omega
    clear hk5 hr4 HR4 Hb4 hl
    generalize (w4.alloc (Obj.cells #[Value.func (Fn.func 52) #[] #[]] 107)) = w5 at *
    generalize w4.heap.size = T at *
    obtain ⟨⟨a0, s0⟩, q0⟩ : ∃ y, ssmall 1 xr 2 = y := ⟨_, rfl⟩
    have g0 := ssmall_le 1 xr 2
    have y0 := ssmall_range 1 xr 2
    rw [q0] at g0 y0
    dsimp only at g0 y0
    have Hq0 := Pin.Aside.mk q0
    replace g0 := Nat.le_trans g0 hx2
    have hcon := slots_small1 T C Q xr 2 ⟨by decide, by decide⟩ w5 hT hc hCQ hr5 hx2
    rw [q0] at hcon
    clear q0
    go_wp2_with fail
    refine hcon.mono ?_
    rintro e w6 ⟨rfl, hr6, hk⟩
    replace hc := hk.cell hc hCQ
    replace hT := hk.cell hT hTQ
    have HR6 := Pin.Aside.mk (HR5.out.keep hk hRQ)
    have Hb6 := Pin.Aside.mk (Keep.dropS Hb5.out (HS.out _ Hb5.out) hRQ2 hk)
    clear hk hcon HR5 Hb5 hr5
    obtain ⟨⟨a1, s1⟩, q1⟩ : ∃ y, ssmall 1 s0 2 = y := ⟨_, rfl⟩
    have g1 := ssmall_le 1 s0 2
    have y1 := ssmall_range 1 s0 2
    rw [q1] at g1 y1
    dsimp only at g1 y1
    have Hq1 := Pin.Aside.mk q1
    replace g1 := Nat.le_trans g1 g0
    have hcon := slots_small1 T C Q s0 2 ⟨by decide, by decide⟩ w6 hT hc hCQ hr6 g0
    rw [q1] at hcon
    clear q1
    go_wp2_with fail
    refine hcon.mono ?_
    rintro e w7 ⟨rfl, hr7, hk⟩
    replace hc := hk.cell hc hCQ
    replace hT := hk.cell hT hTQ
    have HR7 := Pin.Aside.mk (HR6.out.keep hk hRQ)
    have Hb7 := Pin.Aside.mk (Keep.dropS Hb6.out (HS.out _ Hb6.out) hRQ2 hk)
    clear hk hcon HR6 Hb6 hr6
    obtain ⟨⟨a2, s2⟩, q2⟩ : ∃ y, ssmall 1 s1 1 = y := ⟨_, rfl⟩
    have g2 := ssmall_le 1 s1 1
    have y2 := ssmall_range 1 s1 1
    rw [q2] at g2 y2
    dsimp only at g2 y2
    have Hq2 := Pin.Aside.mk q2
    replace g2 := Nat.le_trans g2 g1
    have hcon := slots_small1 T C Q s1 1 ⟨by decide, by decide⟩ w7 hT hc hCQ hr7 g1
    rw [q2] at hcon
    clear q2
    go_wp2_with fail
    refine hcon.mono ?_
    rintro e w8 ⟨rfl, hr8, hk⟩
    replace hc := hk.cell hc hCQ
    replace hT := hk.cell hT hTQ
    have HR8 := Pin.Aside.mk (HR7.out.keep hk hRQ)
    have Hb8 := Pin.Aside.mk (Keep.dropS Hb7.out (HS.out _ Hb7.out) hRQ2 hk)
    clear hk hcon HR7 Hb7 hr7
    obtain ⟨⟨a3, s3⟩, q3⟩ : ∃ y, ssmall 1 s2 1 = y := ⟨_, rfl⟩
    have g3 := ssmall_le 1 s2 1
    have y3 := ssmall_range 1 s2 1
    rw [q3] at g3 y3
    dsimp only at g3 y3
    have Hq3 := Pin.Aside.mk q3
    replace g3 := Nat.le_trans g3 g2
    have hcon := slots_small1 T C Q s2 1 ⟨by decide, by decide⟩ w8 hT hc hCQ hr8 g2
    rw [q3] at hcon
    clear q3
    go_wp2_with fail
    refine hcon.mono ?_
    rintro e w9 ⟨rfl, hr9, hk⟩
    replace hc := hk.cell hc hCQ
    replace hT := hk.cell hT hTQ
    have HR9 := Pin.Aside.mk (HR8.out.keep hk hRQ)
    have Hb9 := Pin.Aside.mk (Keep.dropS Hb8.out (HS.out _ Hb8.out) hRQ2 hk)
    clear hk hcon HR8 Hb8 hr8
    obtain ⟨⟨a4, s4⟩, q4⟩ : ∃ y, ssmall 1 s3 1 = y := ⟨_, rfl⟩
    have g4 := ssmall_le 1 s3 1
    have y4 := ssmall_range 1 s3 1
    rw [q4] at g4 y4
    dsimp only at g4 y4
    have Hq4 := Pin.Aside.mk q4
    replace g4 := Nat.le_trans g4 g3
    have hcon := slots_small1 T C Q s3 1 ⟨by decide, by decide⟩ w9 hT hc hCQ hr9 g3
    rw [q4] at hcon
    clear q4
    go_wp2_with fail
    refine hcon.mono ?_
    rintro e w10 ⟨rfl, hr10, hk⟩
    replace hc := hk.cell hc hCQ
    replace hT := hk.cell hT hTQ
    have HR10 := Pin.Aside.mk (HR9.out.keep hk hRQ)
    have Hb10 := Pin.Aside.mk (Keep.dropS Hb9.out (HS.out _ Hb9.out) hRQ2 hk)
    clear hk hcon HR9 Hb9 hr9
    obtain ⟨⟨a5, s5⟩, q5⟩ : ∃ y, ssmall 1 s4 1 = y := ⟨_, rfl⟩
    have g5 := ssmall_le 1 s4 1
    have y5 := ssmall_range 1 s4 1
    rw [q5] at g5 y5
    dsimp only at g5 y5
    have Hq5 := Pin.Aside.mk q5
    replace g5 := Nat.le_trans g5 g4
    have hcon := slots_small1 T C Q s4 1 ⟨by decide, by decide⟩ w10 hT hc hCQ hr10 g4
    rw [q5] at hcon
    clear q5
    go_wp2_with fail
    refine hcon.mono ?_
    rintro e w11 ⟨rfl, hr11, hk⟩
    replace hc := hk.cell hc hCQ
    replace hT := hk.cell hT hTQ
    have HR11 := Pin.Aside.mk (HR10.out.keep hk hRQ)
    have Hb11 := Pin.Aside.mk (Keep.dropS Hb10.out (HS.out _ Hb10.out) hRQ2 hk)
    clear hk hcon HR10 Hb10 hr10
    have hsix : ssix (ssmall 1) 1 xr = (⟨1, a0, a1, a2, a3, a4, a5⟩, s5) := by
      unfold ssix
      simp only [Hq0.out, Hq1.out, Hq2.out, Hq3.out, Hq4.out, Hq5.out]
    rw [hsix] at E
    dsimp only at E
    clear hsix Hq0 Hq1 Hq2 Hq3 Hq4 Hq5
    have hrt := fun W => slots_right ⟨1, a0, a1, a2, a3, a4, a5⟩ W
    dsimp only at hrt
    obtain ⟨ri, hri⟩ : ∃ ri, (⟨1, a0, a1, a2, a3, a4, a5⟩ : Sup).right = ri := ⟨_, rfl⟩
    rw [hri] at hrt E
    have Hrt := Pin.Aside.mk hrt
    clear hrt hri hT
    go_upto_region 9 with fail
    have hk12 : Keep (fun _ => False) w11 (w11.alloc (.cells #[.int .i64 1, .int .i64 a0, .int .i64 a1, .int .i64 a2, .int .i64 a3, .int .i64 a4, .int .i64 a5] 23)) := (Keep.refl _ _).alloc _
    have hS := SevenAt.new w11 ⟨1, a0, a1, a2, a3, a4, a5⟩ 23
    unfold sevenO at hS
    dsimp only at hS
    obtain ⟨d0, d1, d2, d3, d4, d5, d6⟩ := hS
    dsimp only at d0 d1 d2 d3 d4 d5 d6
    replace hc := hk12.cell hc id
    have hr12 := hr11.keep hk12 id
    have HR12 := Pin.Aside.mk (HR11.out.keep hk12 id)
    have Hb12 := Pin.Aside.mk (Hb11.out.trans (hk12.below (HS.out _ Hb11.out) fun _ q => q.elim))
    clear hk12 hr11 HR11 Hb11
    generalize (w11.alloc (.cells #[.int .i64 1, .int .i64 a0, .int .i64 a1, .int .i64 a2, .int .i64 a3, .int .i64 a4, .int .i64 a5] 23)) = w12 at *
    generalize w11.heap.size = S at *
    go_wp2_with fail
    refine (rd_ok Q s5 w12 hr12).mono ?_
    rintro e w12 ⟨rfl, rfl⟩
    obtain ⟨sb, bad⟩ := s5
    dsimp only at E
    cases bad with
    | true =>
      clear d0 d1 d2 d3 d4 d5 d6
      have HE := Pin.Aside.mk (E.out.trans (if_pos (.inl rfl)))
      obtain ⟨e0, e1, e2, e3, e4, e5, e6⟩ := HR12.out.get7
      obtain ⟨f0, f1, f2, f3, f4, f5, f6⟩ := HR12.out.fr7
      obtain ⟨n0, n1, n2, n3, n4, n5, n6⟩ := HR12.out.set7 (.int .i64 0) (.int .i64 0) (.int .i64 0) (.int .i64 0) (.int .i64 0) (.int .i64 0) (.int .i64 0)
      unfold set7 at n0 n1 n2 n3 n4 n5 n6
      clear E
      go_wp2_with fail
      refine bodyPost_ret (v := .tuple #[.agg #[.int .i64 0, .int .i64 0, .int .i64 0, .int .i64 0, .int .i64 0, .int .i64 0, .int .i64 0], .bool false]) (by simp [results, Tryz.results25, go_sem, *]) rfl ?_
      rw [HE.out]
      exact ⟨rfl, by rw [HRR.out]; exact below_set7 Hb12.out (Nat.le_refl _) _ _ _ _ _ _ _⟩
    | false =>
      go_wp2_with fail
      refine (rd_left Q _ w12 hr12).mono ?_
      rintro e w12 ⟨rfl, rfl⟩
      by_cases hsz : 0 < sb.size
      · have hszi : (0 : Int) < (sb.size : Int) := by omega
        clear d0 d1 d2 d3 d4 d5 d6
        have HE := Pin.Aside.mk (E.out.trans (if_pos (.inr (.inl hsz))))
        obtain ⟨e0, e1, e2, e3, e4, e5, e6⟩ := HR12.out.get7
        obtain ⟨f0, f1, f2, f3, f4, f5, f6⟩ := HR12.out.fr7
        obtain ⟨n0, n1, n2, n3, n4, n5, n6⟩ := HR12.out.set7 (.int .i64 0) (.int .i64 0) (.int .i64 0) (.int .i64 0) (.int .i64 0) (.int .i64 0) (.int .i64 0)
        unfold set7 at n0 n1 n2 n3 n4 n5 n6
        clear E
        go_wp2_with fail
        refine bodyPost_ret (v := .tuple #[.agg #[.int .i64 0, .int .i64 0, .int .i64 0, .int .i64 0, .int .i64 0, .int .i64 0, .int .i64 0], .bool false]) (by simp [results, Tryz.results25, go_sem, *]) rfl ?_
        rw [HE.out]
        exact ⟨rfl, by rw [HRR.out]; exact below_set7 Hb12.out (Nat.le_refl _) _ _ _ _ _ _ _⟩
      · have hszi : ¬ (0 : Int) < (sb.size : Int) := by omega
        go_wp2_with fail
        refine (Hrt.out w12).mono ?_
        rintro e w13 ⟨rfl, hb13⟩
        have HR13 := Pin.Aside.mk (HR12.out.below hb13)
        have Hb13 := Pin.Aside.mk (Hb12.out.trans (hb13.mono (HS.out _ Hb12.out)))
        have hk13 := Keep.of_below (S := fun _ => False) hb13 fun _ hk _ => hk
        replace d0 := hk13.cell d0 id
        replace d1 := hk13.cell d1 id
        replace d2 := hk13.cell d2 id
        replace d3 := hk13.cell d3 id
        replace d4 := hk13.cell d4 id
        replace d5 := hk13.cell d5 id
        replace d6 := hk13.cell d6 id
        clear hk13 hb13
        cases ri with
        | true =>
          have HE := Pin.Aside.mk (E.out.trans (if_neg (by rintro (q | q | q); cases q; exact hsz q; cases q)))
          obtain ⟨e0, e1, e2, e3, e4, e5, e6⟩ := HR13.out.get7
          obtain ⟨f0, f1, f2, f3, f4, f5, f6⟩ := HR13.out.fr7
          obtain ⟨n0, n1, n2, n3, n4, n5, n6⟩ := HR13.out.set7 (.int .i64 1) (.int .i64 a0) (.int .i64 a1) (.int .i64 a2) (.int .i64 a3) (.int .i64 a4) (.int .i64 a5)
          unfold set7 at n0 n1 n2 n3 n4 n5 n6
          clear E
          go_wp2_with fail
          refine bodyPost_ret (v := .tuple #[.agg #[.int .i64 1, .int .i64 a0, .int .i64 a1, .int .i64 a2, .int .i64 a3, .int .i64 a4, .int .i64 a5], .bool true]) (by simp [results, Tryz.results25, go_sem, *]) rfl ?_
          rw [HE.out]
          exact ⟨rfl, by rw [HRR.out]; exact below_set7 Hb13.out (Nat.le_refl _) _ _ _ _ _ _ _⟩
        | false =>
          clear d0 d1 d2 d3 d4 d5 d6
          have HE := Pin.Aside.mk (E.out.trans (if_pos (.inr (.inr rfl))))
          obtain ⟨e0, e1, e2, e3, e4, e5, e6⟩ := HR13.out.get7
          obtain ⟨f0, f1, f2, f3, f4, f5, f6⟩ := HR13.out.fr7
          obtain ⟨n0, n1, n2, n3, n4, n5, n6⟩ := HR13.out.set7 (.int .i64 0) (.int .i64 0) (.int .i64 0) (.int .i64 0) (.int .i64 0) (.int .i64 0) (.int .i64 0)
          unfold set7 at n0 n1 n2 n3 n4 n5 n6
          clear E
          go_wp2_with fail
          refine bodyPost_ret (v := .tuple #[.agg #[.int .i64 0, .int .i64 0, .int .i64 0, .int .i64 0, .int .i64 0, .int .i64 0, .int .i64 0], .bool false]) (by simp [results, Tryz.results25, go_sem, *]) rfl ?_
          rw [HE.out]
          exact ⟨rfl, by rw [HRR.out]; exact below_set7 Hb13.out (Nat.le_refl _) _ _ _ _ _ _ _⟩
  · subst h1
    rw [mget_twoS, if_neg (by omega), if_pos rfl] at hl
    simp only [Option.getD_some, Option.isSome_some, rF, rV] at hl
    rw [if_neg (by omega)] at E
    go_upto_region 8 with fail
    have hT := World.cell?_alloc_new w4 #[Value.func (Fn.func 79) #[] #[]] 107 0
    replace hT : (w4.alloc (Obj.cells #[Value.func (Fn.func 79) #[] #[]] 107)).cell? ⟨w4.heap.size, 0, none⟩ = some (.func (Fn.func 79) #[] #[]) := hT
    have hk5 : Keep (fun _ => False) w4 (w4.alloc (Obj.cells #[Value.func (Fn.func 79) #[] #[]] 107)) := (Keep.refl _ _).alloc _
    replace hc := hk5.cell hc id
    have hr5 := hr4.keep hk5 id
    have HR5 := Pin.Aside.mk (HR4.out.keep hk5 id)
    have Hb5 := Pin.Aside.mk (Hb4.out.trans (hk5.below (by omega) fun _ q => q.elim))
    have hTQ : w4.heap.size ≠ Q := by omega
    clear hk5 hr4 HR4 Hb4 hl
    generalize (w4.alloc (Obj.cells #[Value.func (Fn.func 79) #[] #[]] 107)) = w5 at *
    generalize w4.heap.size = T at *
    obtain ⟨⟨a0, s0⟩, q0⟩ : ∃ y, ssmall 2 xr 2 = y := ⟨_, rfl⟩
    have g0 := ssmall_le 2 xr 2
    have y0 := ssmall_range 2 xr 2
    rw [q0] at g0 y0
    dsimp only at g0 y0
    have Hq0 := Pin.Aside.mk q0
    replace g0 := Nat.le_trans g0 hx2
    have hcon := slots_small2 T C Q xr 2 ⟨by decide, by decide⟩ w5 hT hc hCQ hr5 hx2
    rw [q0] at hcon
    clear q0
    go_wp2_with fail
    refine hcon.mono ?_
    rintro e w6 ⟨rfl, hr6, hk⟩
    replace hc := hk.cell hc hCQ
    replace hT := hk.cell hT hTQ
    have HR6 := Pin.Aside.mk (HR5.out.keep hk hRQ)
    have Hb6 := Pin.Aside.mk (Keep.dropS Hb5.out (HS.out _ Hb5.out) hRQ2 hk)
    clear hk hcon HR5 Hb5 hr5
    obtain ⟨⟨a1, s1⟩, q1⟩ : ∃ y, ssmall 2 s0 2 = y := ⟨_, rfl⟩
    have g1 := ssmall_le 2 s0 2
    have y1 := ssmall_range 2 s0 2
    rw [q1] at g1 y1
    dsimp only at g1 y1
    have Hq1 := Pin.Aside.mk q1
    replace g1 := Nat.le_trans g1 g0
    have hcon := slots_small2 T C Q s0 2 ⟨by decide, by decide⟩ w6 hT hc hCQ hr6 g0
    rw [q1] at hcon
    clear q1
    go_wp2_with fail
    refine hcon.mono ?_
    rintro e w7 ⟨rfl, hr7, hk⟩
    replace hc := hk.cell hc hCQ
    replace hT := hk.cell hT hTQ
    have HR7 := Pin.Aside.mk (HR6.out.keep hk hRQ)
    have Hb7 := Pin.Aside.mk (Keep.dropS Hb6.out (HS.out _ Hb6.out) hRQ2 hk)
    clear hk hcon HR6 Hb6 hr6
    obtain ⟨⟨a2, s2⟩, q2⟩ : ∃ y, ssmall 2 s1 1 = y := ⟨_, rfl⟩
    have g2 := ssmall_le 2 s1 1
    have y2 := ssmall_range 2 s1 1
    rw [q2] at g2 y2
    dsimp only at g2 y2
    have Hq2 := Pin.Aside.mk q2
    replace g2 := Nat.le_trans g2 g1
    have hcon := slots_small2 T C Q s1 1 ⟨by decide, by decide⟩ w7 hT hc hCQ hr7 g1
    rw [q2] at hcon
    clear q2
    go_wp2_with fail
    refine hcon.mono ?_
    rintro e w8 ⟨rfl, hr8, hk⟩
    replace hc := hk.cell hc hCQ
    replace hT := hk.cell hT hTQ
    have HR8 := Pin.Aside.mk (HR7.out.keep hk hRQ)
    have Hb8 := Pin.Aside.mk (Keep.dropS Hb7.out (HS.out _ Hb7.out) hRQ2 hk)
    clear hk hcon HR7 Hb7 hr7
    obtain ⟨⟨a3, s3⟩, q3⟩ : ∃ y, ssmall 2 s2 1 = y := ⟨_, rfl⟩
    have g3 := ssmall_le 2 s2 1
    have y3 := ssmall_range 2 s2 1
    rw [q3] at g3 y3
    dsimp only at g3 y3
    have Hq3 := Pin.Aside.mk q3
    replace g3 := Nat.le_trans g3 g2
    have hcon := slots_small2 T C Q s2 1 ⟨by decide, by decide⟩ w8 hT hc hCQ hr8 g2
    rw [q3] at hcon
    clear q3
    go_wp2_with fail
    refine hcon.mono ?_
    rintro e w9 ⟨rfl, hr9, hk⟩
    replace hc := hk.cell hc hCQ
    replace hT := hk.cell hT hTQ
    have HR9 := Pin.Aside.mk (HR8.out.keep hk hRQ)
    have Hb9 := Pin.Aside.mk (Keep.dropS Hb8.out (HS.out _ Hb8.out) hRQ2 hk)
    clear hk hcon HR8 Hb8 hr8
    obtain ⟨⟨a4, s4⟩, q4⟩ : ∃ y, ssmall 2 s3 1 = y := ⟨_, rfl⟩
    have g4 := ssmall_le 2 s3 1
    have y4 := ssmall_range 2 s3 1
    rw [q4] at g4 y4
    dsimp only at g4 y4
    have Hq4 := Pin.Aside.mk q4
    replace g4 := Nat.le_trans g4 g3
    have hcon := slots_small2 T C Q s3 1 ⟨by decide, by decide⟩ w9 hT hc hCQ hr9 g3
    rw [q4] at hcon
    clear q4
    go_wp2_with fail
    refine hcon.mono ?_
    rintro e w10 ⟨rfl, hr10, hk⟩
    replace hc := hk.cell hc hCQ
    replace hT := hk.cell hT hTQ
    have HR10 := Pin.Aside.mk (HR9.out.keep hk hRQ)
    have Hb10 := Pin.Aside.mk (Keep.dropS Hb9.out (HS.out _ Hb9.out) hRQ2 hk)
    clear hk hcon HR9 Hb9 hr9
    obtain ⟨⟨a5, s5⟩, q5⟩ : ∃ y, ssmall 2 s4 1 = y := ⟨_, rfl⟩
    have g5 := ssmall_le 2 s4 1
    have y5 := ssmall_range 2 s4 1
    rw [q5] at g5 y5
    dsimp only at g5 y5
    have Hq5 := Pin.Aside.mk q5
    replace g5 := Nat.le_trans g5 g4
    have hcon := slots_small2 T C Q s4 1 ⟨by decide, by decide⟩ w10 hT hc hCQ hr10 g4
    rw [q5] at hcon
    clear q5
    go_wp2_with fail
    refine hcon.mono ?_
    rintro e w11 ⟨rfl, hr11, hk⟩
    replace hc := hk.cell hc hCQ
    replace hT := hk.cell hT hTQ
    have HR11 := Pin.Aside.mk (HR10.out.keep hk hRQ)
    have Hb11 := Pin.Aside.mk (Keep.dropS Hb10.out (HS.out _ Hb10.out) hRQ2 hk)
    clear hk hcon HR10 Hb10 hr10
    have hsix : ssix (ssmall 2) 2 xr = (⟨2, a0, a1, a2, a3, a4, a5⟩, s5) := by
      unfold ssix
      simp only [Hq0.out, Hq1.out, Hq2.out, Hq3.out, Hq4.out, Hq5.out]
    rw [hsix] at E
    dsimp only at E
    clear hsix Hq0 Hq1 Hq2 Hq3 Hq4 Hq5
    have hrt := fun W => slots_right ⟨2, a0, a1, a2, a3, a4, a5⟩ W
    dsimp only at hrt
    obtain ⟨ri, hri⟩ : ∃ ri, (⟨2, a0, a1, a2, a3, a4, a5⟩ : Sup).right = ri := ⟨_, rfl⟩
    rw [hri] at hrt E
    have Hrt := Pin.Aside.mk hrt
    clear hrt hri hT
    go_upto_region 9 with fail
    have hk12 : Keep (fun _ => False) w11 (w11.alloc (.cells #[.int .i64 2, .int .i64 a0, .int .i64 a1, .int .i64 a2, .int .i64 a3, .int .i64 a4, .int .i64 a5] 23)) := (Keep.refl _ _).alloc _
    have hS := SevenAt.new w11 ⟨2, a0, a1, a2, a3, a4, a5⟩ 23
    unfold sevenO at hS
    dsimp only at hS
    obtain ⟨d0, d1, d2, d3, d4, d5, d6⟩ := hS
    dsimp only at d0 d1 d2 d3 d4 d5 d6
    replace hc := hk12.cell hc id
    have hr12 := hr11.keep hk12 id
    have HR12 := Pin.Aside.mk (HR11.out.keep hk12 id)
    have Hb12 := Pin.Aside.mk (Hb11.out.trans (hk12.below (HS.out _ Hb11.out) fun _ q => q.elim))
    clear hk12 hr11 HR11 Hb11
    generalize (w11.alloc (.cells #[.int .i64 2, .int .i64 a0, .int .i64 a1, .int .i64 a2, .int .i64 a3, .int .i64 a4, .int .i64 a5] 23)) = w12 at *
    generalize w11.heap.size = S at *
    go_wp2_with fail
    refine (rd_ok Q s5 w12 hr12).mono ?_
    rintro e w12 ⟨rfl, rfl⟩
    obtain ⟨sb, bad⟩ := s5
    dsimp only at E
    cases bad with
    | true =>
      clear d0 d1 d2 d3 d4 d5 d6
      have HE := Pin.Aside.mk (E.out.trans (if_pos (.inl rfl)))
      obtain ⟨e0, e1, e2, e3, e4, e5, e6⟩ := HR12.out.get7
      obtain ⟨f0, f1, f2, f3, f4, f5, f6⟩ := HR12.out.fr7
      obtain ⟨n0, n1, n2, n3, n4, n5, n6⟩ := HR12.out.set7 (.int .i64 0) (.int .i64 0) (.int .i64 0) (.int .i64 0) (.int .i64 0) (.int .i64 0) (.int .i64 0)
      unfold set7 at n0 n1 n2 n3 n4 n5 n6
      clear E
      go_wp2_with fail
      refine bodyPost_ret (v := .tuple #[.agg #[.int .i64 0, .int .i64 0, .int .i64 0, .int .i64 0, .int .i64 0, .int .i64 0, .int .i64 0], .bool false]) (by simp [results, Tryz.results25, go_sem, *]) rfl ?_
      rw [HE.out]
      exact ⟨rfl, by rw [HRR.out]; exact below_set7 Hb12.out (Nat.le_refl _) _ _ _ _ _ _ _⟩
    | false =>
      go_wp2_with fail
      refine (rd_left Q _ w12 hr12).mono ?_
      rintro e w12 ⟨rfl, rfl⟩
      by_cases hsz : 0 < sb.size
      · have hszi : (0 : Int) < (sb.size : Int) := by omega
        clear d0 d1 d2 d3 d4 d5 d6
        have HE := Pin.Aside.mk (E.out.trans (if_pos (.inr (.inl hsz))))
        obtain ⟨e0, e1, e2, e3, e4, e5, e6⟩ := HR12.out.get7
        obtain ⟨f0, f1, f2, f3, f4, f5, f6⟩ := HR12.out.fr7
        obtain ⟨n0, n1, n2, n3, n4, n5, n6⟩ := HR12.out.set7 (.int .i64 0) (.int .i64 0) (.int .i64 0) (.int .i64 0) (.int .i64 0) (.int .i64 0) (.int .i64 0)
        unfold set7 at n0 n1 n2 n3 n4 n5 n6
        clear E
        go_wp2_with fail
        refine bodyPost_ret (v := .tuple #[.agg #[.int .i64 0, .int .i64 0, .int .i64 0, .int .i64 0, .int .i64 0, .int .i64 0, .int .i64 0], .bool false]) (by simp [results, Tryz.results25, go_sem, *]) rfl ?_
        rw [HE.out]
        exact ⟨rfl, by rw [HRR.out]; exact below_set7 Hb12.out (Nat.le_refl _) _ _ _ _ _ _ _⟩
      · have hszi : ¬ (0 : Int) < (sb.size : Int) := by omega
        go_wp2_with fail
        refine (Hrt.out w12).mono ?_
        rintro e w13 ⟨rfl, hb13⟩
        have HR13 := Pin.Aside.mk (HR12.out.below hb13)
        have Hb13 := Pin.Aside.mk (Hb12.out.trans (hb13.mono (HS.out _ Hb12.out)))
        have hk13 := Keep.of_below (S := fun _ => False) hb13 fun _ hk _ => hk
        replace d0 := hk13.cell d0 id
        replace d1 := hk13.cell d1 id
        replace d2 := hk13.cell d2 id
        replace d3 := hk13.cell d3 id
        replace d4 := hk13.cell d4 id
        replace d5 := hk13.cell d5 id
        replace d6 := hk13.cell d6 id
        clear hk13 hb13
        cases ri with
        | true =>
          have HE := Pin.Aside.mk (E.out.trans (if_neg (by rintro (q | q | q); cases q; exact hsz q; cases q)))
          obtain ⟨e0, e1, e2, e3, e4, e5, e6⟩ := HR13.out.get7
          obtain ⟨f0, f1, f2, f3, f4, f5, f6⟩ := HR13.out.fr7
          obtain ⟨n0, n1, n2, n3, n4, n5, n6⟩ := HR13.out.set7 (.int .i64 2) (.int .i64 a0) (.int .i64 a1) (.int .i64 a2) (.int .i64 a3) (.int .i64 a4) (.int .i64 a5)
          unfold set7 at n0 n1 n2 n3 n4 n5 n6
          clear E
          go_wp2_with fail
          refine bodyPost_ret (v := .tuple #[.agg #[.int .i64 2, .int .i64 a0, .int .i64 a1, .int .i64 a2, .int .i64 a3, .int .i64 a4, .int .i64 a5], .bool true]) (by simp [results, Tryz.results25, go_sem, *]) rfl ?_
          rw [HE.out]
          exact ⟨rfl, by rw [HRR.out]; exact below_set7 Hb13.out (Nat.le_refl _) _ _ _ _ _ _ _⟩
        | false =>
          clear d0 d1 d2 d3 d4 d5 d6
          have HE := Pin.Aside.mk (E.out.trans (if_pos (.inr (.inr rfl))))
          obtain ⟨e0, e1, e2, e3, e4, e5, e6⟩ := HR13.out.get7
          obtain ⟨f0, f1, f2, f3, f4, f5, f6⟩ := HR13.out.fr7
          obtain ⟨n0, n1, n2, n3, n4, n5, n6⟩ := HR13.out.set7 (.int .i64 0) (.int .i64 0) (.int .i64 0) (.int .i64 0) (.int .i64 0) (.int .i64 0) (.int .i64 0)
          unfold set7 at n0 n1 n2 n3 n4 n5 n6
          clear E
          go_wp2_with fail
          refine bodyPost_ret (v := .tuple #[.agg #[.int .i64 0, .int .i64 0, .int .i64 0, .int .i64 0, .int .i64 0, .int .i64 0, .int .i64 0], .bool false]) (by simp [results, Tryz.results25, go_sem, *]) rfl ?_
          rw [HE.out]
          exact ⟨rfl, by rw [HRR.out]; exact below_set7 Hb13.out (Nat.le_refl _) _ _ _ _ _ _ _⟩
  · rw [mget_twoS, if_neg n1, if_neg n2] at hl
    simp only [Option.getD_none, Option.isSome_none] at hl
    have HE := Pin.Aside.mk (E.out.trans (if_pos ⟨n1, n2⟩))
    have hk5 : Keep (fun _ => False) w4 (w4.alloc (Obj.cells #[Value.nilFunc] 107)) := (Keep.refl _ _).alloc _
    have HR5 := Pin.Aside.mk (HR4.out.keep hk5 id)
    have Hb5 := Pin.Aside.mk (Hb4.out.trans (hk5.below (by omega) fun _ q => q.elim))
    obtain ⟨e0, e1, e2, e3, e4, e5, e6⟩ := HR5.out.get7
    obtain ⟨f0, f1, f2, f3, f4, f5, f6⟩ := HR5.out.fr7
    obtain ⟨m0, m1, m2, m3, m4, m5, m6⟩ := HR5.out.set7 (.int .i64 0) (.int .i64 0) (.int .i64 0) (.int .i64 0) (.int .i64 0) (.int .i64 0) (.int .i64 0)
    unfold set7 at m0 m1 m2 m3 m4 m5 m6
    clear E n1 n2 hk5 HR4 Hb4 hc hr4
    go_wp2_with fail
    refine bodyPost_ret (v := .tuple #[.agg #[.int .i64 0, .int .i64 0, .int .i64 0, .int .i64 0, .int .i64 0, .int .i64 0, .int .i64 0], .bool false]) (by simp [results, Tryz.results25, go_sem, *]) rfl ?_
    rw [HE.out]
    exact ⟨rfl, by rw [HRR.out]; exact below_set7 Hb5.out (Nat.le_refl _) _ _ _ _ _ _ _⟩
end Go.Proofs.YtpfkpaombiikcaaGreatDoor
