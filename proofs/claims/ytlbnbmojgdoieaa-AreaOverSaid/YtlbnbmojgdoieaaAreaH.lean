/- The reference of area: the snap that bytes begin with. -/
import Derived.Test.YtlbnbmojgdoieaaAreaG
import Derived.Test.YtlbnbmojgdoieaaFrameR
import Derived.Test.YtlbnbmojgdoieaaFrameL
set_option maxRecDepth 16000
namespace Go.Proofs.Ytlbnbmojgdoieaa
open Go.RowKit Go.Pin
set_option linter.unusedVariables false
set_option linter.unusedSimpArgs false

set_option maxHeartbeats 3200000 in
theorem arearef_get (s : ByteArray) (w : World) (hs : s.size ≤ 1152921504606846976) :
    Calls Try.prog 40 #[.string s] w fun e w' => e = .returned (.tuple #[(aget s).1.val, .int .i64 (aget s).2.1, .bool (aget s).2.2]) ∧ Below w.heap.size w w' := by
  have hb := (Below.refl w.heap.size w).alloc (Nat.le_refl _) (Obj.cells #[Value.int .u64 0, Value.int .u64 0, Value.string ⟨#[]⟩] 66)
  have hsz := fnext_size s
  go_enter Try.func40, Try.ntmps40
  go_wp2_with fail
  have c0 : (w.alloc (Obj.cells #[Value.int .u64 0, Value.int .u64 0, Value.string ⟨#[]⟩] 66)).cell? ⟨w.heap.size, 0, none⟩ = some (.int .u64 0) := World.cell?_alloc_new _ _ _ 0
  have c1 : (w.alloc (Obj.cells #[Value.int .u64 0, Value.int .u64 0, Value.string ⟨#[]⟩] 66)).cell? ⟨w.heap.size, 1, none⟩ = some (.int .u64 0) := World.cell?_alloc_new _ _ _ 1
  have c2 : (w.alloc (Obj.cells #[Value.int .u64 0, Value.int .u64 0, Value.string ⟨#[]⟩] 66)).cell? ⟨w.heap.size, 2, none⟩ = some (.string ⟨#[]⟩) := World.cell?_alloc_new _ _ _ 2
  have f0 : ∀ i, (w.alloc (Obj.cells #[Value.int .u64 0, Value.int .u64 0, Value.string ⟨#[]⟩] 66)).frozen? ⟨w.heap.size, i, none⟩ = false := fun i => by simp
  generalize w.alloc (Obj.cells #[Value.int .u64 0, Value.int .u64 0, Value.string ⟨#[]⟩] 66) = wa at *
  generalize hW0 : w.heap.size = B at *
  have HW := Aside.mk hW0
  clear hW0
  have hBa := World.block_lt_of_cell? _ _ c0
  replace hBa : B < wa.heap.size := hBa
  refine (frameref_next s _ hs).mono ?_
  rw [fnext_eq]
  rintro e w1 ⟨rfl, hb1⟩
  have hk1 : Keep (fun _ => False) wa w1 := Keep.of_below hb1 fun _ hk _ => hk
  replace c0 := hk1.cell c0 id
  replace c1 := hk1.cell c1 id
  replace c2 := hk1.cell c2 id
  replace f0 : ∀ i, w1.frozen? ⟨B, i, none⟩ = false := fun i => by rw [hk1.frozen (p := ⟨B, i, none⟩) hBa id]; exact f0 i
  replace hb := hb.trans (hb1.mono (by omega))
  have hB1 : B < w1.heap.size := by have := hb1.size; omega
  clear hk1 hb1 hBa
  have hag : aget s = (let n := fnext s; if n.2.2.2 = false then (snone, 0, false) else let y := abody n.1 n.2.1; if y.2 = true ∨ 16384 < y.1.d.size then (snone, 0, false) else (y.1, n.1, true)) := rfl
  have Hag := Aside.mk hag
  clear hag
  generalize fnext s = F at *
  obtain ⟨v, body, size, ok⟩ := F
  replace hsz : body.size ≤ s.size := hsz
  go_wp2_with fail
  refine (rr_new _ _).mono ?_
  rintro e w2 ⟨rfl, hr, hz, hb1⟩
  have hk1 : Keep (fun _ => False) w1 w2 := Keep.of_below hb1 fun _ hk _ => hk
  replace c0 := hk1.cell c0 id
  replace c1 := hk1.cell c1 id
  replace c2 := hk1.cell c2 id
  replace f0 : ∀ i, w2.frozen? ⟨B, i, none⟩ = false := fun i => by rw [hk1.frozen (p := ⟨B, i, none⟩) hB1 id]; exact f0 i
  replace hb := hb.trans (hb1.mono (by omega))
  have hlt := hr.lt
  have hBR : B ≠ w1.heap.size := by omega
  have hBRl : B ≤ w1.heap.size := by omega
  clear hz hk1 hb1 hB1
  generalize w1.heap.size = R at *
  have hRC : R ≠ w2.heap.size := by omega
  have hBC : B ≠ w2.heap.size := by omega
  have hBCl : B ≤ w2.heap.size := by omega
  have hs1 : (Rd.mk body false).s.size ≤ 1152921504606846976 := Nat.le_trans hsz hs
  by_cases hv1 : v = 1
  · subst hv1
    have hsr : ∀ r, sread 1 r = r.fixed 8 := fun r => by unfold sread; rw [if_pos rfl]
    obtain ⟨x, hx⟩ : ∃ x, (Rd.mk body false).fixed 8 = x := ⟨_, rfl⟩
    obtain ⟨y, hy⟩ : ∃ y, x.2.fixed 8 = y := ⟨_, rfl⟩
    have hxs : x.2.s.size ≤ 1152921504606846976 := by rw [← hx, ← hsr]; exact Nat.le_trans (sread_le _ _) hs1
    have hys : y.2.s.size ≤ 1152921504606846976 := by rw [← hy, ← hsr]; exact Nat.le_trans (sread_le _ _) hxs
    have hx64 : x.1 < 18446744073709551616 := by rw [← hx, ← hsr]; exact sread_lt _ _
    have hy64 : y.1 < 18446744073709551616 := by rw [← hy, ← hsr]; exact sread_lt _ _
    have hab : abody 1 body = (⟨x.1, y.1, y.2.s⟩, y.2.bad) := by
      unfold abody
      dsimp only
      rw [hsr, hsr, hx, hy]
    have Hab := Aside.mk hab
    have Hx := Aside.mk hx
    have Hy := Aside.mk hy
    obtain ⟨X, hX, hX0, hX1⟩ : ∃ X : Int, (x.1 : Int) = X ∧ 0 ≤ X ∧ X ≤ 18446744073709551615 := ⟨_, rfl, by omega, by omega⟩
    obtain ⟨Y, hY, hY0, hY1⟩ : ∃ Y : Int, (y.1 : Int) = Y ∧ 0 ≤ Y ∧ Y ≤ 18446744073709551615 := ⟨_, rfl, by omega, by omega⟩
    have HX := Aside.mk hX
    have HY := Aside.mk hY
    clear hx hy hsr hab hx64 hy64 hX hY
    go_wp2_with fail
    have d0 : (w2.alloc (Obj.cells #[Value.int .u64 0, Value.int .u64 0, Value.string ⟨#[]⟩] 66)).cell? ⟨w2.heap.size, 0, none⟩ = some (.int .u64 0) := World.cell?_alloc_new w2 _ _ 0
    have d1 : (w2.alloc (Obj.cells #[Value.int .u64 0, Value.int .u64 0, Value.string ⟨#[]⟩] 66)).cell? ⟨w2.heap.size, 1, none⟩ = some (.int .u64 0) := World.cell?_alloc_new w2 _ _ 1
    have d2 : (w2.alloc (Obj.cells #[Value.int .u64 0, Value.int .u64 0, Value.string ⟨#[]⟩] 66)).cell? ⟨w2.heap.size, 2, none⟩ = some (.string ⟨#[]⟩) := World.cell?_alloc_new w2 _ _ 2
    have g0 : ∀ i, (w2.alloc (Obj.cells #[Value.int .u64 0, Value.int .u64 0, Value.string ⟨#[]⟩] 66)).frozen? ⟨w2.heap.size, i, none⟩ = false := fun i => by simp
    have hka : Keep (fun _ => False) w2 (w2.alloc (Obj.cells #[Value.int .u64 0, Value.int .u64 0, Value.string ⟨#[]⟩] 66)) := (Keep.refl _ _).alloc _
    replace c0 := hka.cell c0 id
    replace c1 := hka.cell c1 id
    replace c2 := hka.cell c2 id
    replace f0 : ∀ i, (w2.alloc (Obj.cells #[Value.int .u64 0, Value.int .u64 0, Value.string ⟨#[]⟩] 66)).frozen? ⟨B, i, none⟩ = false := fun i => by rw [hka.frozen (p := ⟨B, i, none⟩) (by show B < _; omega) id]; exact f0 i
    replace hr := hr.keep hka id
    replace hb := hb.alloc hBCl (Obj.cells #[Value.int .u64 0, Value.int .u64 0, Value.string ⟨#[]⟩] 66)
    clear hka hlt
    generalize w2.alloc (Obj.cells #[Value.int .u64 0, Value.int .u64 0, Value.string ⟨#[]⟩] 66) = w3 at *
    generalize w2.heap.size = C at *
    have hCR : ¬ (C = R) := fun q => hRC q.symm
    refine (rr_fixed R _ 8 _ hr (by omega) hs1).mono ?_
    rw [Hx.out, HX.out]
    rintro e w4 ⟨rfl, hr4, hk4⟩
    have hlB : B < w3.heap.size := World.block_lt_of_cell? _ _ c0
    have hlC : C < w3.heap.size := World.block_lt_of_cell? _ _ d0
    replace hb := Keep.drop' hb (by omega) hBRl hk4
    replace c0 := hk4.cell c0 hBR
    replace c1 := hk4.cell c1 hBR
    replace c2 := hk4.cell c2 hBR
    replace f0 : ∀ i, w4.frozen? ⟨B, i, none⟩ = false := fun i => by rw [hk4.frozen (p := ⟨B, i, none⟩) hlB hBR]; exact f0 i
    replace d0 := hk4.cell d0 hCR
    replace d1 := hk4.cell d1 hCR
    replace d2 := hk4.cell d2 hCR
    replace g0 : ∀ i, w4.frozen? ⟨C, i, none⟩ = false := fun i => by rw [hk4.frozen (p := ⟨C, i, none⟩) hlC hCR]; exact g0 i
    clear hk4 hlB hlC
    clear hr hs1
    go_wp2_with fail
    replace c0 : (w4.setCell ⟨C, 0, none⟩ (.int .u64 X)).cell? ⟨B, 0, none⟩ = some (.int .u64 0) := by rw [World.cell?_setCell_other _ _ _ _ (by intro q; exact hBC (congrArg Addr.block q).symm)]; exact c0
    replace c1 : (w4.setCell ⟨C, 0, none⟩ (.int .u64 X)).cell? ⟨B, 1, none⟩ = some (.int .u64 0) := by rw [World.cell?_setCell_other _ _ _ _ (by intro q; exact hBC (congrArg Addr.block q).symm)]; exact c1
    replace c2 : (w4.setCell ⟨C, 0, none⟩ (.int .u64 X)).cell? ⟨B, 2, none⟩ = some (.string ⟨#[]⟩) := by rw [World.cell?_setCell_other _ _ _ _ (by intro q; exact hBC (congrArg Addr.block q).symm)]; exact c2
    replace d0 : (w4.setCell ⟨C, 0, none⟩ (.int .u64 X)).cell? ⟨C, 0, none⟩ = some (.int .u64 X) := World.cell?_setCell_same _ _ _ d0
    replace d1 : (w4.setCell ⟨C, 0, none⟩ (.int .u64 X)).cell? ⟨C, 1, none⟩ = some (.int .u64 0) := by rw [World.cell?_setCell_other _ _ _ _ (by simp)]; exact d1
    replace d2 : (w4.setCell ⟨C, 0, none⟩ (.int .u64 X)).cell? ⟨C, 2, none⟩ = some (.string ⟨#[]⟩) := by rw [World.cell?_setCell_other _ _ _ _ (by simp)]; exact d2
    replace f0 : ∀ i, (w4.setCell ⟨C, 0, none⟩ (.int .u64 X)).frozen? ⟨B, i, none⟩ = false := fun i => by simpa using f0 i
    replace g0 : ∀ i, (w4.setCell ⟨C, 0, none⟩ (.int .u64 X)).frozen? ⟨C, i, none⟩ = false := fun i => by simpa using g0 i
    have hks : Keep (fun k => k = C) w4 (w4.setCell ⟨C, 0, none⟩ (.int .u64 X)) := (Keep.refl (fun k => k = C) w4).setCell (p := ⟨C, 0, none⟩) (.inl rfl) _
    replace hr4 := hr4.keep hks (fun q => hRC q)
    replace hb := hb.setCell (p := ⟨C, 0, none⟩) hBCl (.int .u64 X)
    clear hks
    generalize w4.setCell ⟨C, 0, none⟩ (.int .u64 X) = w5 at *
    refine (rr_fixed R _ 8 _ hr4 (by omega) hxs).mono ?_
    rw [Hy.out, HY.out]
    rintro e w6 ⟨rfl, hr5, hk5⟩
    have hlB : B < w5.heap.size := World.block_lt_of_cell? _ _ c0
    have hlC : C < w5.heap.size := World.block_lt_of_cell? _ _ d0
    replace hb := Keep.drop' hb (by omega) hBRl hk5
    replace c0 := hk5.cell c0 hBR
    replace c1 := hk5.cell c1 hBR
    replace c2 := hk5.cell c2 hBR
    replace f0 : ∀ i, w6.frozen? ⟨B, i, none⟩ = false := fun i => by rw [hk5.frozen (p := ⟨B, i, none⟩) hlB hBR]; exact f0 i
    replace d0 := hk5.cell d0 hCR
    replace d1 := hk5.cell d1 hCR
    replace d2 := hk5.cell d2 hCR
    replace g0 : ∀ i, w6.frozen? ⟨C, i, none⟩ = false := fun i => by rw [hk5.frozen (p := ⟨C, i, none⟩) hlC hCR]; exact g0 i
    clear hk5 hlB hlC
    clear hr4 hxs
    have hag2 : aget s = if ok = false ∨ y.2.bad = true ∨ 16384 < y.2.s.size then (snone, 0, false) else (⟨X, Y, y.2.s⟩, 1, true) := by
      rw [Hag.out, Hab.out, HX.out, HY.out]
      dsimp only
      cases ok <;> simp
    have Hag2 := Aside.mk hag2
    clear hag2 Hag Hab
    obtain ⟨⟨d, bad⟩, hyd⟩ : ∃ q, y.2 = q := ⟨_, rfl⟩
    rw [hyd] at hr5 hys
    replace Hag2 : Pin.Aside (aget s = if ok = false ∨ bad = true ∨ 16384 < d.size then (snone, 0, false) else (⟨X, Y, d⟩, 1, true)) := by
      have := Hag2.out
      rw [hyd] at this
      dsimp only at this
      exact Aside.mk this
    clear hyd
    replace hys : d.size ≤ 1152921504606846976 := hys
    have hrc0 : w6.cell? ⟨R, 0, none⟩ = some (.string d) := hr5.c0
    have hrc1 : w6.cell? ⟨R, 1, none⟩ = some (.bool bad) := hr5.c1
    cases ok
    · go_wp2_with fail
      refine bodyPost_ret (v := .tuple #[snone.val, .int .i64 0, .bool false]) (by simp [results, Try.results40, go_sem, snone, Snap.val, c0, c1, c2, d0, d1, d2]) rfl ?_
      rw [Hag2.out, if_pos (.inl trivial)]
      exact ⟨rfl, by rw [HW.out]; exact ((((hb.setCell (p := ⟨C, 1, none⟩) hBCl _).setCell (p := ⟨C, 2, none⟩) hBCl _).setCell (p := ⟨B, 0, none⟩) (Nat.le_refl _) _).setCell (p := ⟨B, 1, none⟩) (Nat.le_refl _) _).setCell (p := ⟨B, 2, none⟩) (Nat.le_refl _) _⟩
    · cases bad
      · by_cases hz2 : 16384 < d.size
        · go_wp2_with fail
          refine bodyPost_ret (v := .tuple #[snone.val, .int .i64 0, .bool false]) (by simp [results, Try.results40, go_sem, snone, Snap.val, c0, c1, c2, d0, d1, d2]) rfl ?_
          rw [Hag2.out, if_pos (.inr (.inr hz2))]
          exact ⟨rfl, by rw [HW.out]; exact ((((hb.setCell (p := ⟨C, 1, none⟩) hBCl _).setCell (p := ⟨C, 2, none⟩) hBCl _).setCell (p := ⟨B, 0, none⟩) (Nat.le_refl _) _).setCell (p := ⟨B, 1, none⟩) (Nat.le_refl _) _).setCell (p := ⟨B, 2, none⟩) (Nat.le_refl _) _⟩
        · go_wp2_with fail
          refine bodyPost_ret (v := .tuple #[.agg #[.int .u64 X, .int .u64 Y, .string d], .int .i64 (1), .bool true]) (by simp [results, Try.results40, go_sem, snone, Snap.val, c0, c1, c2, d0, d1, d2]) rfl ?_
          rw [Hag2.out, if_neg (by simp; omega)]
          exact ⟨rfl, by rw [HW.out]; exact ((((hb.setCell (p := ⟨C, 1, none⟩) hBCl _).setCell (p := ⟨C, 2, none⟩) hBCl _).setCell (p := ⟨B, 0, none⟩) (Nat.le_refl _) _).setCell (p := ⟨B, 1, none⟩) (Nat.le_refl _) _).setCell (p := ⟨B, 2, none⟩) (Nat.le_refl _) _⟩
      · go_wp2_with fail
        refine bodyPost_ret (v := .tuple #[snone.val, .int .i64 0, .bool false]) (by simp [results, Try.results40, go_sem, snone, Snap.val, c0, c1, c2, d0, d1, d2]) rfl ?_
        rw [Hag2.out, if_pos (.inr (.inl trivial))]
        exact ⟨rfl, by rw [HW.out]; exact ((((hb.setCell (p := ⟨C, 1, none⟩) hBCl _).setCell (p := ⟨C, 2, none⟩) hBCl _).setCell (p := ⟨B, 0, none⟩) (Nat.le_refl _) _).setCell (p := ⟨B, 1, none⟩) (Nat.le_refl _) _).setCell (p := ⟨B, 2, none⟩) (Nat.le_refl _) _⟩
  · skip
    have hsr : ∀ r, sread v r = r.var := fun r => by unfold sread; rw [if_neg hv1]
    obtain ⟨x, hx⟩ : ∃ x, (Rd.mk body false).var = x := ⟨_, rfl⟩
    obtain ⟨y, hy⟩ : ∃ y, x.2.var = y := ⟨_, rfl⟩
    have hxs : x.2.s.size ≤ 1152921504606846976 := by rw [← hx, ← hsr]; exact Nat.le_trans (sread_le _ _) hs1
    have hys : y.2.s.size ≤ 1152921504606846976 := by rw [← hy, ← hsr]; exact Nat.le_trans (sread_le _ _) hxs
    have hx64 : x.1 < 18446744073709551616 := by rw [← hx, ← hsr]; exact sread_lt _ _
    have hy64 : y.1 < 18446744073709551616 := by rw [← hy, ← hsr]; exact sread_lt _ _
    have hab : abody v body = (⟨x.1, y.1, y.2.s⟩, y.2.bad) := by
      unfold abody
      dsimp only
      rw [hsr, hsr, hx, hy]
    have Hab := Aside.mk hab
    have Hx := Aside.mk hx
    have Hy := Aside.mk hy
    obtain ⟨X, hX, hX0, hX1⟩ : ∃ X : Int, (x.1 : Int) = X ∧ 0 ≤ X ∧ X ≤ 18446744073709551615 := ⟨_, rfl, by omega, by omega⟩
    obtain ⟨Y, hY, hY0, hY1⟩ : ∃ Y : Int, (y.1 : Int) = Y ∧ 0 ≤ Y ∧ Y ≤ 18446744073709551615 := ⟨_, rfl, by omega, by omega⟩
    have HX := Aside.mk hX
    have HY := Aside.mk hY
    clear hx hy hsr hab hx64 hy64 hX hY
    go_wp2_with fail
    have d0 : (w2.alloc (Obj.cells #[Value.int .u64 0, Value.int .u64 0, Value.string ⟨#[]⟩] 66)).cell? ⟨w2.heap.size, 0, none⟩ = some (.int .u64 0) := World.cell?_alloc_new w2 _ _ 0
    have d1 : (w2.alloc (Obj.cells #[Value.int .u64 0, Value.int .u64 0, Value.string ⟨#[]⟩] 66)).cell? ⟨w2.heap.size, 1, none⟩ = some (.int .u64 0) := World.cell?_alloc_new w2 _ _ 1
    have d2 : (w2.alloc (Obj.cells #[Value.int .u64 0, Value.int .u64 0, Value.string ⟨#[]⟩] 66)).cell? ⟨w2.heap.size, 2, none⟩ = some (.string ⟨#[]⟩) := World.cell?_alloc_new w2 _ _ 2
    have g0 : ∀ i, (w2.alloc (Obj.cells #[Value.int .u64 0, Value.int .u64 0, Value.string ⟨#[]⟩] 66)).frozen? ⟨w2.heap.size, i, none⟩ = false := fun i => by simp
    have hka : Keep (fun _ => False) w2 (w2.alloc (Obj.cells #[Value.int .u64 0, Value.int .u64 0, Value.string ⟨#[]⟩] 66)) := (Keep.refl _ _).alloc _
    replace c0 := hka.cell c0 id
    replace c1 := hka.cell c1 id
    replace c2 := hka.cell c2 id
    replace f0 : ∀ i, (w2.alloc (Obj.cells #[Value.int .u64 0, Value.int .u64 0, Value.string ⟨#[]⟩] 66)).frozen? ⟨B, i, none⟩ = false := fun i => by rw [hka.frozen (p := ⟨B, i, none⟩) (by show B < _; omega) id]; exact f0 i
    replace hr := hr.keep hka id
    replace hb := hb.alloc hBCl (Obj.cells #[Value.int .u64 0, Value.int .u64 0, Value.string ⟨#[]⟩] 66)
    clear hka hlt
    generalize w2.alloc (Obj.cells #[Value.int .u64 0, Value.int .u64 0, Value.string ⟨#[]⟩] 66) = w3 at *
    generalize w2.heap.size = C at *
    have hCR : ¬ (C = R) := fun q => hRC q.symm
    refine (rr_var R _ _ hr hs1).mono ?_
    rw [Hx.out, HX.out]
    rintro e w4 ⟨rfl, hr4, hk4⟩
    have hlB : B < w3.heap.size := World.block_lt_of_cell? _ _ c0
    have hlC : C < w3.heap.size := World.block_lt_of_cell? _ _ d0
    replace hb := Keep.drop' hb (by omega) hBRl hk4
    replace c0 := hk4.cell c0 hBR
    replace c1 := hk4.cell c1 hBR
    replace c2 := hk4.cell c2 hBR
    replace f0 : ∀ i, w4.frozen? ⟨B, i, none⟩ = false := fun i => by rw [hk4.frozen (p := ⟨B, i, none⟩) hlB hBR]; exact f0 i
    replace d0 := hk4.cell d0 hCR
    replace d1 := hk4.cell d1 hCR
    replace d2 := hk4.cell d2 hCR
    replace g0 : ∀ i, w4.frozen? ⟨C, i, none⟩ = false := fun i => by rw [hk4.frozen (p := ⟨C, i, none⟩) hlC hCR]; exact g0 i
    clear hk4 hlB hlC
    clear hr hs1
    go_wp2_with fail
    replace c0 : (w4.setCell ⟨C, 0, none⟩ (.int .u64 X)).cell? ⟨B, 0, none⟩ = some (.int .u64 0) := by rw [World.cell?_setCell_other _ _ _ _ (by intro q; exact hBC (congrArg Addr.block q).symm)]; exact c0
    replace c1 : (w4.setCell ⟨C, 0, none⟩ (.int .u64 X)).cell? ⟨B, 1, none⟩ = some (.int .u64 0) := by rw [World.cell?_setCell_other _ _ _ _ (by intro q; exact hBC (congrArg Addr.block q).symm)]; exact c1
    replace c2 : (w4.setCell ⟨C, 0, none⟩ (.int .u64 X)).cell? ⟨B, 2, none⟩ = some (.string ⟨#[]⟩) := by rw [World.cell?_setCell_other _ _ _ _ (by intro q; exact hBC (congrArg Addr.block q).symm)]; exact c2
    replace d0 : (w4.setCell ⟨C, 0, none⟩ (.int .u64 X)).cell? ⟨C, 0, none⟩ = some (.int .u64 X) := World.cell?_setCell_same _ _ _ d0
    replace d1 : (w4.setCell ⟨C, 0, none⟩ (.int .u64 X)).cell? ⟨C, 1, none⟩ = some (.int .u64 0) := by rw [World.cell?_setCell_other _ _ _ _ (by simp)]; exact d1
    replace d2 : (w4.setCell ⟨C, 0, none⟩ (.int .u64 X)).cell? ⟨C, 2, none⟩ = some (.string ⟨#[]⟩) := by rw [World.cell?_setCell_other _ _ _ _ (by simp)]; exact d2
    replace f0 : ∀ i, (w4.setCell ⟨C, 0, none⟩ (.int .u64 X)).frozen? ⟨B, i, none⟩ = false := fun i => by simpa using f0 i
    replace g0 : ∀ i, (w4.setCell ⟨C, 0, none⟩ (.int .u64 X)).frozen? ⟨C, i, none⟩ = false := fun i => by simpa using g0 i
    have hks : Keep (fun k => k = C) w4 (w4.setCell ⟨C, 0, none⟩ (.int .u64 X)) := (Keep.refl (fun k => k = C) w4).setCell (p := ⟨C, 0, none⟩) (.inl rfl) _
    replace hr4 := hr4.keep hks (fun q => hRC q)
    replace hb := hb.setCell (p := ⟨C, 0, none⟩) hBCl (.int .u64 X)
    clear hks
    generalize w4.setCell ⟨C, 0, none⟩ (.int .u64 X) = w5 at *
    refine (rr_var R _ _ hr4 hxs).mono ?_
    rw [Hy.out, HY.out]
    rintro e w6 ⟨rfl, hr5, hk5⟩
    have hlB : B < w5.heap.size := World.block_lt_of_cell? _ _ c0
    have hlC : C < w5.heap.size := World.block_lt_of_cell? _ _ d0
    replace hb := Keep.drop' hb (by omega) hBRl hk5
    replace c0 := hk5.cell c0 hBR
    replace c1 := hk5.cell c1 hBR
    replace c2 := hk5.cell c2 hBR
    replace f0 : ∀ i, w6.frozen? ⟨B, i, none⟩ = false := fun i => by rw [hk5.frozen (p := ⟨B, i, none⟩) hlB hBR]; exact f0 i
    replace d0 := hk5.cell d0 hCR
    replace d1 := hk5.cell d1 hCR
    replace d2 := hk5.cell d2 hCR
    replace g0 : ∀ i, w6.frozen? ⟨C, i, none⟩ = false := fun i => by rw [hk5.frozen (p := ⟨C, i, none⟩) hlC hCR]; exact g0 i
    clear hk5 hlB hlC
    clear hr4 hxs
    have hag2 : aget s = if ok = false ∨ y.2.bad = true ∨ 16384 < y.2.s.size then (snone, 0, false) else (⟨X, Y, y.2.s⟩, v, true) := by
      rw [Hag.out, Hab.out, HX.out, HY.out]
      dsimp only
      cases ok <;> simp
    have Hag2 := Aside.mk hag2
    clear hag2 Hag Hab
    obtain ⟨⟨d, bad⟩, hyd⟩ : ∃ q, y.2 = q := ⟨_, rfl⟩
    rw [hyd] at hr5 hys
    replace Hag2 : Pin.Aside (aget s = if ok = false ∨ bad = true ∨ 16384 < d.size then (snone, 0, false) else (⟨X, Y, d⟩, v, true)) := by
      have := Hag2.out
      rw [hyd] at this
      dsimp only at this
      exact Aside.mk this
    clear hyd
    replace hys : d.size ≤ 1152921504606846976 := hys
    have hrc0 : w6.cell? ⟨R, 0, none⟩ = some (.string d) := hr5.c0
    have hrc1 : w6.cell? ⟨R, 1, none⟩ = some (.bool bad) := hr5.c1
    cases ok
    · go_wp2_with fail
      refine bodyPost_ret (v := .tuple #[snone.val, .int .i64 0, .bool false]) (by simp [results, Try.results40, go_sem, snone, Snap.val, c0, c1, c2, d0, d1, d2]) rfl ?_
      rw [Hag2.out, if_pos (.inl trivial)]
      exact ⟨rfl, by rw [HW.out]; exact ((((hb.setCell (p := ⟨C, 1, none⟩) hBCl _).setCell (p := ⟨C, 2, none⟩) hBCl _).setCell (p := ⟨B, 0, none⟩) (Nat.le_refl _) _).setCell (p := ⟨B, 1, none⟩) (Nat.le_refl _) _).setCell (p := ⟨B, 2, none⟩) (Nat.le_refl _) _⟩
    · cases bad
      · by_cases hz2 : 16384 < d.size
        · go_wp2_with fail
          refine bodyPost_ret (v := .tuple #[snone.val, .int .i64 0, .bool false]) (by simp [results, Try.results40, go_sem, snone, Snap.val, c0, c1, c2, d0, d1, d2]) rfl ?_
          rw [Hag2.out, if_pos (.inr (.inr hz2))]
          exact ⟨rfl, by rw [HW.out]; exact ((((hb.setCell (p := ⟨C, 1, none⟩) hBCl _).setCell (p := ⟨C, 2, none⟩) hBCl _).setCell (p := ⟨B, 0, none⟩) (Nat.le_refl _) _).setCell (p := ⟨B, 1, none⟩) (Nat.le_refl _) _).setCell (p := ⟨B, 2, none⟩) (Nat.le_refl _) _⟩
        · go_wp2_with fail
          refine bodyPost_ret (v := .tuple #[.agg #[.int .u64 X, .int .u64 Y, .string d], .int .i64 (v), .bool true]) (by simp [results, Try.results40, go_sem, snone, Snap.val, c0, c1, c2, d0, d1, d2]) rfl ?_
          rw [Hag2.out, if_neg (by simp; omega)]
          exact ⟨rfl, by rw [HW.out]; exact ((((hb.setCell (p := ⟨C, 1, none⟩) hBCl _).setCell (p := ⟨C, 2, none⟩) hBCl _).setCell (p := ⟨B, 0, none⟩) (Nat.le_refl _) _).setCell (p := ⟨B, 1, none⟩) (Nat.le_refl _) _).setCell (p := ⟨B, 2, none⟩) (Nat.le_refl _) _⟩
      · go_wp2_with fail
        refine bodyPost_ret (v := .tuple #[snone.val, .int .i64 0, .bool false]) (by simp [results, Try.results40, go_sem, snone, Snap.val, c0, c1, c2, d0, d1, d2]) rfl ?_
        rw [Hag2.out, if_pos (.inr (.inl trivial))]
        exact ⟨rfl, by rw [HW.out]; exact ((((hb.setCell (p := ⟨C, 1, none⟩) hBCl _).setCell (p := ⟨C, 2, none⟩) hBCl _).setCell (p := ⟨B, 0, none⟩) (Nat.le_refl _) _).setCell (p := ⟨B, 1, none⟩) (Nat.le_refl _) _).setCell (p := ⟨B, 2, none⟩) (Nat.le_refl _) _⟩
end Go.Proofs.Ytlbnbmojgdoieaa
