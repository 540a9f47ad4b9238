/- Package area: the snap that bytes begin with. -/
import Derived.Test.YtlbnbmojgdoieaaAreaR
import Derived.Test.YtlbnbmojgdoieaaFrameN
set_option maxRecDepth 16000
namespace Go.Pin
open Go.RowKit
set_option linter.unusedVariables false
def sread (v : Int) (r : Rd) : Nat × Rd := if v = 1 then r.fixed 8 else r.var
/-- A snap out of a body. -/
def abody (v : Int) (b : ByteArray) : Snap × Bool :=
  let x := sread v ⟨b, false⟩
  let y := sread v x.2
  (⟨x.1, y.1, y.2.s⟩, y.2.bad)
def snone : Snap := ⟨0, 0, ⟨#[]⟩⟩
def aget (b : ByteArray) : Snap × Int × Bool :=
  let n := fnext b
  if n.2.2.2 = false then (snone, 0, false) else
  let y := abody n.1 n.2.1
  if y.2 = true ∨ 16384 < y.1.d.size then (snone, 0, false) else (y.1, n.1, true)
theorem sread_lt (v : Int) (r : Rd) : (sread v r).1 < 18446744073709551616 := by
  unfold sread
  split
  · have : (r.fixed 8).1 < 256 ^ 8 := Rd.fixed_lt r 8
    simpa using this
  · exact Rd.var_lt r
theorem sread_le (v : Int) (r : Rd) : (sread v r).2.s.size ≤ r.s.size := by
  unfold sread
  split
  · exact Rd.fixed_le' r 8
  · exact Rd.var_le r
theorem fnext_size (s : ByteArray) : (fnext s).2.1.size ≤ s.size := by
  unfold fnext
  dsimp only
  split
  · exact Nat.zero_le _
  · split
    · exact Nat.zero_le _
    · split
      · exact Nat.zero_le _
      · rename_i h1 h2 h3
        have h4 := Rd.bytes_size ((fopen s).2.2.fixed 4).2 (fopen s).2.1
        have h5 := Rd.fixed_le' (fopen s).2.2 4
        have h6 : (fopen s).2.2.s.size ≤ s.size := by
          unfold fopen
          dsimp only
          split
          · exact Nat.le_trans (Rd.fixed_le' _ 4) (Rd.fixed_le' ⟨s, false⟩ 1)
          · exact Nat.le_trans (Rd.var_le _) (Rd.fixed_le' ⟨s, false⟩ 1)
        have h7 : ¬ ((fopen s).2.2.fixed 4).2.s.size < (fopen s).2.1 := fun q => h2 (.inr (.inr q))
        show ((((fopen s).2.2.fixed 4).2.bytes (fopen s).2.1).1).size ≤ s.size
        omega
end Go.Pin
namespace Go.Proofs.Ytlbnbmojgdoieaa
open Go.RowKit Go.Pin
set_option linter.unusedVariables false
set_option linter.unusedSimpArgs false

set_option maxHeartbeats 400000 in
theorem area_get1 (c b : Nat) (r : Rd) (w : World) (hc : w.cell? ⟨c, 0, none⟩ = some (.pointer (some ⟨b, 0, none⟩))) (h : RdAt w b r) (hs : r.s.size ≤ 1152921504606846976) :
    Calls Try.prog 71 #[.pointer (some ⟨c, 0, none⟩)] w fun e w' => e = .returned (.int .u64 ((r.fixed 8).1 : Int)) ∧ RdAt w' b (r.fixed 8).2 ∧ Keep (fun k => k = b) w w' := by
  go_enter Try.func71, Try.ntmps71
  go_wp2_with fail
  refine (rd_fixed _ _ 8 _ h (by omega) hs).mono ?_
  rintro e w1 ⟨rfl, h1, hk⟩
  go_wp2_with fail
  go_ret
  exact ⟨rfl, h1, hk⟩

set_option maxHeartbeats 3200000 in
theorem area_get (s : ByteArray) (w : World) (hs : s.size ≤ 1152921504606846976) :
    Calls Try.prog 39 #[.string s] w fun e w' => e = .returned (.tuple #[(aget s).1.val, .int .i64 (aget s).2.1, .bool (aget s).2.2]) ∧ Below w.heap.size w w' := by
  have hb := (Below.refl w.heap.size w).alloc (Nat.le_refl _) (Obj.cells #[Value.int .u64 0, Value.int .u64 0, Value.string ⟨#[]⟩] 61)
  have hmf := crc_mf
  have hsz := fnext_size s
  go_enter Try.func39, Try.ntmps39
  go_wp2_with fail
  have c0 : (w.alloc (Obj.cells #[Value.int .u64 0, Value.int .u64 0, Value.string ⟨#[]⟩] 61)).cell? ⟨w.heap.size, 0, none⟩ = some (.int .u64 0) := World.cell?_alloc_new _ _ _ 0
  have c1 : (w.alloc (Obj.cells #[Value.int .u64 0, Value.int .u64 0, Value.string ⟨#[]⟩] 61)).cell? ⟨w.heap.size, 1, none⟩ = some (.int .u64 0) := World.cell?_alloc_new _ _ _ 1
  have c2 : (w.alloc (Obj.cells #[Value.int .u64 0, Value.int .u64 0, Value.string ⟨#[]⟩] 61)).cell? ⟨w.heap.size, 2, none⟩ = some (.string ⟨#[]⟩) := World.cell?_alloc_new _ _ _ 2
  have f0 : ∀ i, (w.alloc (Obj.cells #[Value.int .u64 0, Value.int .u64 0, Value.string ⟨#[]⟩] 61)).frozen? ⟨w.heap.size, i, none⟩ = false := fun i => by simp
  generalize w.alloc (Obj.cells #[Value.int .u64 0, Value.int .u64 0, Value.string ⟨#[]⟩] 61) = wa at *
  generalize hW0 : w.heap.size = B at *
  have HW := Aside.mk hW0
  clear hW0
  have hBa := World.block_lt_of_cell? _ _ c0
  replace hBa : B < wa.heap.size := hBa
  refine (frame_next s _ hs).mono ?_
  rintro e w1 ⟨rfl, hb1⟩
  have hk1 : Keep (fun _ => False) wa w1 := Keep.of_below hb1 fun _ hk _ => hk
  replace c0 := hk1.cell c0 id
  replace c1 := hk1.cell c1 id
  replace c2 := hk1.cell c2 id
  replace f0 : ∀ i, w1.frozen? ⟨B, i, none⟩ = false := fun i => by rw [hk1.frozen (p := ⟨B, i, none⟩) hBa id]; exact f0 i
  replace hb := hb.trans (hb1.mono (by omega))
  have hB1 : B < w1.heap.size := by have := hb1.size; omega
  clear hk1 hb1 hBa
  have hag : aget s = (let n := fnext s; if n.2.2.2 = false then (snone, 0, false) else let y := abody n.1 n.2.1; if y.2 = true ∨ 16384 < y.1.d.size then (snone, 0, false) else (y.1, n.1, true)) := rfl
  have Hag := Aside.mk hag
  clear hag
  generalize fnext s = F at *
  obtain ⟨v, body, size, ok⟩ := F
  replace hsz : body.size ≤ s.size := hsz
  cases ok
  · go_wp2_with fail
    refine bodyPost_ret (v := .tuple #[snone.val, .int .i64 0, .bool false]) (by simp [results, Try.results39, go_sem, snone, Snap.val, c0, c1, c2]) rfl ?_
    rw [Hag.out, if_pos trivial]
    exact ⟨rfl, by rw [HW.out]; exact ((hb.setCell (p := ⟨B, 0, none⟩) (Nat.le_refl _) _).setCell (p := ⟨B, 1, none⟩) (Nat.le_refl _) _).setCell (p := ⟨B, 2, none⟩) (Nat.le_refl _) _⟩
  · go_wp2_with fail
    refine (rd_new _ _).mono ?_
    rintro e w2 ⟨rfl, hr, hz, hb1⟩
    have hk1 : Keep (fun _ => False) w1 w2 := Keep.of_below hb1 fun _ hk _ => hk
    replace c0 := hk1.cell c0 id
    replace c1 := hk1.cell c1 id
    replace c2 := hk1.cell c2 id
    replace f0 : ∀ i, w2.frozen? ⟨B, i, none⟩ = false := fun i => by rw [hk1.frozen (p := ⟨B, i, none⟩) hB1 id]; exact f0 i
    replace hb := hb.trans (hb1.mono (by omega))
    have hlt := hr.lt
    have hBR : B ≠ w1.heap.size := by omega
    have hBRl : B ≤ w1.heap.size := by omega
    clear hz hk1 hb1 hB1
    generalize w1.heap.size = R at *
    have hRC : R ≠ w2.heap.size := by omega
    have hBC : B ≠ w2.heap.size := by omega
    have hBCl : B ≤ w2.heap.size := by omega
    have hs1 : (Rd.mk body false).s.size ≤ 1152921504606846976 := Nat.le_trans hsz hs
    by_cases hv1 : v = 1
    · subst hv1
      go_wp2_with fail
      have hc : (w2.alloc (Obj.cells #[Value.pointer (some ⟨R, 0, none⟩)] 116)).cell? ⟨w2.heap.size, 0, none⟩ = some (.pointer (some ⟨R, 0, none⟩)) := World.cell?_alloc_new w2 _ _ 0
      have hka : Keep (fun _ => False) w2 (w2.alloc (Obj.cells #[Value.pointer (some ⟨R, 0, none⟩)] 116)) := (Keep.refl _ _).alloc _
      replace c0 := hka.cell c0 id
      replace c1 := hka.cell c1 id
      replace c2 := hka.cell c2 id
      replace f0 : ∀ i, (w2.alloc (Obj.cells #[Value.pointer (some ⟨R, 0, none⟩)] 116)).frozen? ⟨B, i, none⟩ = false := fun i => by rw [hka.frozen (p := ⟨B, i, none⟩) (by show B < _; omega) id]; exact f0 i
      replace hr := hr.keep hka id
      replace hb := hb.alloc hBCl (Obj.cells #[Value.pointer (some ⟨R, 0, none⟩)] 116)
      clear hka hlt
      generalize w2.alloc (Obj.cells #[Value.pointer (some ⟨R, 0, none⟩)] 116) = w3 at *
      generalize w2.heap.size = C at *
      have hsr : ∀ r, sread 1 r = r.fixed 8 := fun r => by unfold sread; rw [if_pos rfl]
      obtain ⟨x, hx⟩ : ∃ x, (Rd.mk body false).fixed 8 = x := ⟨_, rfl⟩
      obtain ⟨y, hy⟩ : ∃ y, x.2.fixed 8 = y := ⟨_, rfl⟩
      have hxs : x.2.s.size ≤ 1152921504606846976 := by rw [← hx, ← hsr]; exact Nat.le_trans (sread_le _ _) hs1
      have hys : y.2.s.size ≤ 1152921504606846976 := by rw [← hy, ← hsr]; exact Nat.le_trans (sread_le _ _) hxs
      have hx64 : x.1 < 18446744073709551616 := by rw [← hx, ← hsr]; exact sread_lt _ _
      have hy64 : y.1 < 18446744073709551616 := by rw [← hy, ← hsr]; exact sread_lt _ _
      have hab : abody 1 body = (⟨x.1, y.1, y.2.s⟩, y.2.bad) := by
        unfold abody
        dsimp only
        rw [hsr, hsr, hx, hy]
      have Hab := Aside.mk hab
      have Hx := Aside.mk hx
      have Hy := Aside.mk hy
      obtain ⟨X, hX, hX0, hX1⟩ : ∃ X : Int, (x.1 : Int) = X ∧ 0 ≤ X ∧ X ≤ 18446744073709551615 := ⟨_, rfl, by omega, by omega⟩
      obtain ⟨Y, hY, hY0, hY1⟩ : ∃ Y : Int, (y.1 : Int) = Y ∧ 0 ≤ Y ∧ Y ≤ 18446744073709551615 := ⟨_, rfl, by omega, by omega⟩
      have HX := Aside.mk hX
      have HY := Aside.mk hY
      clear hx hy hsr hab hx64 hy64 hX hY
      go_wp2_with fail
      refine (area_get1 C R _ _ hc hr hs1).mono ?_
      rw [Hx.out, HX.out]
      rintro e w4 ⟨rfl, hr4, hk4⟩
      have hlB : B < w3.heap.size := World.block_lt_of_cell? _ _ c0
      replace hb := Keep.drop' hb (by omega) hBRl hk4
      replace c0 := hk4.cell c0 hBR
      replace c1 := hk4.cell c1 hBR
      replace c2 := hk4.cell c2 hBR
      replace f0 : ∀ i, w4.frozen? ⟨B, i, none⟩ = false := fun i => by rw [hk4.frozen (p := ⟨B, i, none⟩) hlB hBR]; exact f0 i
      replace hc := hk4.cell hc (fun q => hRC q.symm)
      clear hk4 hlB

      clear hr hs1
      go_wp2_with fail
      refine (area_get1 C R _ _ hc hr4 hxs).mono ?_
      rw [Hy.out, HY.out]
      rintro e w5 ⟨rfl, hr5, hk5⟩
      have hlB : B < w4.heap.size := World.block_lt_of_cell? _ _ c0
      replace hb := Keep.drop' hb (by omega) hBRl hk5
      replace c0 := hk5.cell c0 hBR
      replace c1 := hk5.cell c1 hBR
      replace c2 := hk5.cell c2 hBR
      replace f0 : ∀ i, w5.frozen? ⟨B, i, none⟩ = false := fun i => by rw [hk5.frozen (p := ⟨B, i, none⟩) hlB hBR]; exact f0 i
      replace hc := hk5.cell hc (fun q => hRC q.symm)
      clear hk5 hlB

      clear hr4 hxs
      go_wp2_with fail
      have c0' : ((w5.setCell ⟨B, 0, none⟩ (.int .u64 X)).setCell ⟨B, 1, none⟩ (.int .u64 Y)).cell? ⟨B, 0, none⟩ = some (.int .u64 X) := by
        rw [World.cell?_setCell_other _ _ _ _ (by simp)]; exact World.cell?_setCell_same _ _ _ c0
      have q1 : (w5.setCell ⟨B, 0, none⟩ (.int .u64 X)).cell? ⟨B, 1, none⟩ = some (.int .u64 0) := by
        rw [World.cell?_setCell_other _ _ _ _ (by simp)]; exact c1
      have c1' : ((w5.setCell ⟨B, 0, none⟩ (.int .u64 X)).setCell ⟨B, 1, none⟩ (.int .u64 Y)).cell? ⟨B, 1, none⟩ = some (.int .u64 Y) := World.cell?_setCell_same _ _ _ q1
      clear q1
      have c2' : ((w5.setCell ⟨B, 0, none⟩ (.int .u64 X)).setCell ⟨B, 1, none⟩ (.int .u64 Y)).cell? ⟨B, 2, none⟩ = some (.string ⟨#[]⟩) := by
        rw [World.cell?_setCell_other _ _ _ _ (by simp), World.cell?_setCell_other _ _ _ _ (by simp)]; exact c2
      have hk6 : Keep (fun k => k = B) w5 ((w5.setCell ⟨B, 0, none⟩ (.int .u64 X)).setCell ⟨B, 1, none⟩ (.int .u64 Y)) := ((Keep.refl (fun k => k = B) w5).setCell (p := ⟨B, 0, none⟩) (.inl rfl) _).setCell (p := ⟨B, 1, none⟩) (.inl rfl) _
      have f2 : ((w5.setCell ⟨B, 0, none⟩ (.int .u64 X)).setCell ⟨B, 1, none⟩ (.int .u64 Y)).frozen? ⟨B, 2, none⟩ = false := by simpa using f0 2
      have f0' : ((w5.setCell ⟨B, 0, none⟩ (.int .u64 X)).setCell ⟨B, 1, none⟩ (.int .u64 Y)).frozen? ⟨B, 0, none⟩ = false := by simpa using f0 0
      have f1' : ((w5.setCell ⟨B, 0, none⟩ (.int .u64 X)).setCell ⟨B, 1, none⟩ (.int .u64 Y)).frozen? ⟨B, 1, none⟩ = false := by simpa using f0 1
      have hlB : B < w5.heap.size := World.block_lt_of_cell? _ _ c0
      replace hb := Keep.drop' hb (by omega) (Nat.le_refl _) hk6
      replace hr5 := hr5.keep hk6 (fun q => hBR q.symm)
      replace hc := hk6.cell hc (fun q => hBC q.symm)
      clear hk6 c0 c1 c2 f0 hlB
      generalize (w5.setCell ⟨B, 0, none⟩ (.int .u64 X)).setCell ⟨B, 1, none⟩ (.int .u64 Y) = w6 at *
      obtain ⟨⟨d, bad⟩, hyd⟩ : ∃ q, y.2 = q := ⟨_, rfl⟩
      rw [hyd] at hr5 hys
      have Hyd := Aside.mk hyd
      clear hyd
      replace hys : d.size ≤ 1152921504606846976 := hys
      go_region_held3 (fun w' => w'.cell? ⟨C, 0, none⟩ = some (.pointer (some ⟨R, 0, none⟩))) (first | go_keep | exact hc | exact hcx) (first
        | (go_at_call 74; refine (rd_left R ⟨d, bad⟩ _ (by first | exact hr5 | exact hr5.drew)).mono ?_; rintro e w7 ⟨rfl, rfl⟩)
        | (go_at_call 73; refine (rd_bytes R ⟨d, bad⟩ (d.size : Int) _ (by first | exact hr5 | exact hr5.drew) (by omega) hys).mono ?_; rintro e w8 ⟨rfl, hr8, hk8⟩; have hcx := hk8.cell (p := ⟨C, 0, none⟩) hc (fun q => hRC q.symm); have c2x := hk8.cell (p := ⟨B, 2, none⟩) c2' hBR; have f2x : w8.frozen? ⟨B, 2, none⟩ = false := by rw [hk8.frozen (p := ⟨B, 2, none⟩) (World.block_lt_of_cell? _ _ c2') hBR]; exact f2))
      have c0x := hk8.cell (p := ⟨B, 0, none⟩) c0' hBR
      have c1x := hk8.cell (p := ⟨B, 1, none⟩) c1' hBR
      have f0x : w8.frozen? ⟨B, 0, none⟩ = false := by rw [hk8.frozen (p := ⟨B, 0, none⟩) (World.block_lt_of_cell? _ _ c0') hBR]; exact f0'
      have f1x : w8.frozen? ⟨B, 1, none⟩ = false := by rw [hk8.frozen (p := ⟨B, 1, none⟩) (World.block_lt_of_cell? _ _ c1') hBR]; exact f1'
      have hlB6 : B < w6.heap.size := World.block_lt_of_cell? _ _ c0'
      replace hb := Keep.drop' hb.drew (by show B ≤ w6.heap.size; omega) hBRl hk8
      clear hk8 c0' c1' c2' f2 f0' f1' hr5 hlB6
      obtain ⟨D, hD⟩ : ∃ D, (Rd.bytes ⟨d, bad⟩ (d.size : Int)).1 = D := ⟨_, rfl⟩
      obtain ⟨rz, hrz⟩ : ∃ rz, (Rd.bytes ⟨d, bad⟩ (d.size : Int)).2 = rz := ⟨_, rfl⟩
      rw [hrz] at hr8
      rw [hD]
      have hcy : (w8.setCell ⟨B, 2, none⟩ (.string D)).cell? ⟨C, 0, none⟩ = some (.pointer (some ⟨R, 0, none⟩)) := by rw [World.cell?_setCell_other _ _ _ _ (by intro q; exact hBC (congrArg Addr.block q))]; exact hcx
      have c0y : (w8.setCell ⟨B, 2, none⟩ (.string D)).cell? ⟨B, 0, none⟩ = some (.int .u64 X) := by rw [World.cell?_setCell_other _ _ _ _ (by simp)]; exact c0x
      have c1y : (w8.setCell ⟨B, 2, none⟩ (.string D)).cell? ⟨B, 1, none⟩ = some (.int .u64 Y) := by rw [World.cell?_setCell_other _ _ _ _ (by simp)]; exact c1x
      have c2y : (w8.setCell ⟨B, 2, none⟩ (.string D)).cell? ⟨B, 2, none⟩ = some (.string D) := World.cell?_setCell_same _ _ _ c2x
      have f0y : (w8.setCell ⟨B, 2, none⟩ (.string D)).frozen? ⟨B, 0, none⟩ = false := by simpa using f0x
      have f1y : (w8.setCell ⟨B, 2, none⟩ (.string D)).frozen? ⟨B, 1, none⟩ = false := by simpa using f1x
      have f2y : (w8.setCell ⟨B, 2, none⟩ (.string D)).frozen? ⟨B, 2, none⟩ = false := by simpa using f2x
      have hk9 : Keep (fun k => k = B) w8 (w8.setCell ⟨B, 2, none⟩ (.string D)) := (Keep.refl (fun k => k = B) w8).setCell (p := ⟨B, 2, none⟩) (.inl rfl) _
      have hr9 := hr8.keep hk9 (fun q => hBR q.symm)
      replace hb := hb.setCell (p := ⟨B, 2, none⟩) (Nat.le_refl _) (.string D)
      clear hk9 hr8 hcx c0x c1x c2x f0x f1x f2x hc
      generalize w8.setCell ⟨B, 2, none⟩ (.string D) = w9 at *
      obtain ⟨sz, bz⟩ := rz
      have hDz : D.size ≤ 1152921504606846976 := by
        have h1 := Rd.bytes_size ⟨d, bad⟩ d.size
        rw [hD] at h1
        omega
      have hag : aget s = if bz = true ∨ 16384 < D.size then (snone, 0, false) else (⟨X, Y, D⟩, 1, true) := by
        rw [Hag.out, if_neg (by simp), Hab.out, HX.out, HY.out, Hyd.out]
        dsimp only
        cases bad with
        | true =>
          have e1 : Rd.bytes ⟨d, true⟩ (d.size : Int) = (⟨#[]⟩, Rd.fail) := by unfold Rd.bytes; rw [if_pos (.inl rfl)]
          rw [e1] at hrz
          have : bz = true := by have := congrArg Rd.bad hrz; simpa [Rd.fail] using this.symm
          rw [if_pos (.inl rfl), if_pos (.inl this)]
        | false =>
          have e1 : Rd.bytes ⟨d, false⟩ (d.size : Int) = (d, ⟨d.extract d.size d.size, false⟩) := by
            unfold Rd.bytes
            rw [if_neg (by simp)]
            simp
          rw [e1] at hrz hD
          have h1 : bz = false := by have := congrArg Rd.bad hrz; simpa using this.symm
          have h2 : D = d := hD.symm
          rw [h1, h2]
      have Hag2 := Aside.mk hag
      clear hag hD hrz Hag Hab Hyd
      go_wp2_with fail
      refine (rd_ok R ⟨sz, bz⟩ _ hr9).mono ?_
      rintro e w10 ⟨rfl, rfl⟩
      by_cases hz1 : bz = true
      · subst hz1
        go_wp2_with fail
        refine bodyPost_ret (v := .tuple #[snone.val, .int .i64 0, .bool false]) (by simp [results, Try.results39, go_sem, snone, Snap.val, c0y, c1y, c2y]) rfl ?_
        rw [Hag2.out, if_pos (.inl trivial)]
        exact ⟨rfl, by rw [HW.out]; exact ((hb.setCell (p := ⟨B, 0, none⟩) (Nat.le_refl _) _).setCell (p := ⟨B, 1, none⟩) (Nat.le_refl _) _).setCell (p := ⟨B, 2, none⟩) (Nat.le_refl _) _⟩
      · obtain rfl : bz = false := by simpa using hz1
        clear hz1
        by_cases hz2 : 16384 < D.size
        · go_wp2_with fail
          refine bodyPost_ret (v := .tuple #[snone.val, .int .i64 0, .bool false]) (by simp [results, Try.results39, go_sem, snone, Snap.val, c0y, c1y, c2y]) rfl ?_
          rw [Hag2.out, if_pos (.inr hz2)]
          exact ⟨rfl, by rw [HW.out]; exact ((hb.setCell (p := ⟨B, 0, none⟩) (Nat.le_refl _) _).setCell (p := ⟨B, 1, none⟩) (Nat.le_refl _) _).setCell (p := ⟨B, 2, none⟩) (Nat.le_refl _) _⟩
        · go_wp2_with fail
          refine bodyPost_ret (v := .tuple #[.agg #[.int .u64 X, .int .u64 Y, .string D], .int .i64 (1), .bool true]) (by simp [results, Try.results39, go_sem, c0y, c1y, c2y]) rfl ?_
          rw [Hag2.out, if_neg (by simp; omega)]
          exact ⟨rfl, by rw [HW.out]; exact ((hb.setCell (p := ⟨B, 0, none⟩) (Nat.le_refl _) _).setCell (p := ⟨B, 1, none⟩) (Nat.le_refl _) _).setCell (p := ⟨B, 2, none⟩) (Nat.le_refl _) _⟩
    · skip
      go_wp2_with fail
      have hc : (w2.alloc (Obj.cells #[Value.pointer (some ⟨R, 0, none⟩)] 116)).cell? ⟨w2.heap.size, 0, none⟩ = some (.pointer (some ⟨R, 0, none⟩)) := World.cell?_alloc_new w2 _ _ 0
      have hka : Keep (fun _ => False) w2 (w2.alloc (Obj.cells #[Value.pointer (some ⟨R, 0, none⟩)] 116)) := (Keep.refl _ _).alloc _
      replace c0 := hka.cell c0 id
      replace c1 := hka.cell c1 id
      replace c2 := hka.cell c2 id
      replace f0 : ∀ i, (w2.alloc (Obj.cells #[Value.pointer (some ⟨R, 0, none⟩)] 116)).frozen? ⟨B, i, none⟩ = false := fun i => by rw [hka.frozen (p := ⟨B, i, none⟩) (by show B < _; omega) id]; exact f0 i
      replace hr := hr.keep hka id
      replace hb := hb.alloc hBCl (Obj.cells #[Value.pointer (some ⟨R, 0, none⟩)] 116)
      clear hka hlt
      generalize w2.alloc (Obj.cells #[Value.pointer (some ⟨R, 0, none⟩)] 116) = w3 at *
      generalize w2.heap.size = C at *
      have hsr : ∀ r, sread v r = r.var := fun r => by unfold sread; rw [if_neg hv1]
      obtain ⟨x, hx⟩ : ∃ x, (Rd.mk body false).var = x := ⟨_, rfl⟩
      obtain ⟨y, hy⟩ : ∃ y, x.2.var = y := ⟨_, rfl⟩
      have hxs : x.2.s.size ≤ 1152921504606846976 := by rw [← hx, ← hsr]; exact Nat.le_trans (sread_le _ _) hs1
      have hys : y.2.s.size ≤ 1152921504606846976 := by rw [← hy, ← hsr]; exact Nat.le_trans (sread_le _ _) hxs
      have hx64 : x.1 < 18446744073709551616 := by rw [← hx, ← hsr]; exact sread_lt _ _
      have hy64 : y.1 < 18446744073709551616 := by rw [← hy, ← hsr]; exact sread_lt _ _
      have hab : abody v body = (⟨x.1, y.1, y.2.s⟩, y.2.bad) := by
        unfold abody
        dsimp only
        rw [hsr, hsr, hx, hy]
      have Hab := Aside.mk hab
      have Hx := Aside.mk hx
      have Hy := Aside.mk hy
      obtain ⟨X, hX, hX0, hX1⟩ : ∃ X : Int, (x.1 : Int) = X ∧ 0 ≤ X ∧ X ≤ 18446744073709551615 := ⟨_, rfl, by omega, by omega⟩
      obtain ⟨Y, hY, hY0, hY1⟩ : ∃ Y : Int, (y.1 : Int) = Y ∧ 0 ≤ Y ∧ Y ≤ 18446744073709551615 := ⟨_, rfl, by omega, by omega⟩
      have HX := Aside.mk hX
      have HY := Aside.mk hY
      clear hx hy hsr hab hx64 hy64 hX hY
      go_wp2_with fail
      refine (rd_var R _ _ hr hs1).mono ?_
      rw [Hx.out, HX.out]
      rintro e w4 ⟨rfl, hr4, hk4⟩
      have hlB : B < w3.heap.size := World.block_lt_of_cell? _ _ c0
      replace hb := Keep.drop' hb (by omega) hBRl hk4
      replace c0 := hk4.cell c0 hBR
      replace c1 := hk4.cell c1 hBR
      replace c2 := hk4.cell c2 hBR
      replace f0 : ∀ i, w4.frozen? ⟨B, i, none⟩ = false := fun i => by rw [hk4.frozen (p := ⟨B, i, none⟩) hlB hBR]; exact f0 i
      replace hc := hk4.cell hc (fun q => hRC q.symm)
      clear hk4 hlB

      clear hr hs1
      go_wp2_with fail
      refine (rd_var R _ _ hr4 hxs).mono ?_
      rw [Hy.out, HY.out]
      rintro e w5 ⟨rfl, hr5, hk5⟩
      have hlB : B < w4.heap.size := World.block_lt_of_cell? _ _ c0
      replace hb := Keep.drop' hb (by omega) hBRl hk5
      replace c0 := hk5.cell c0 hBR
      replace c1 := hk5.cell c1 hBR
      replace c2 := hk5.cell c2 hBR
      replace f0 : ∀ i, w5.frozen? ⟨B, i, none⟩ = false := fun i => by rw [hk5.frozen (p := ⟨B, i, none⟩) hlB hBR]; exact f0 i
      replace hc := hk5.cell hc (fun q => hRC q.symm)
      clear hk5 hlB

      clear hr4 hxs
      go_wp2_with fail
      have c0' : ((w5.setCell ⟨B, 0, none⟩ (.int .u64 X)).setCell ⟨B, 1, none⟩ (.int .u64 Y)).cell? ⟨B, 0, none⟩ = some (.int .u64 X) := by
        rw [World.cell?_setCell_other _ _ _ _ (by simp)]; exact World.cell?_setCell_same _ _ _ c0
      have q1 : (w5.setCell ⟨B, 0, none⟩ (.int .u64 X)).cell? ⟨B, 1, none⟩ = some (.int .u64 0) := by
        rw [World.cell?_setCell_other _ _ _ _ (by simp)]; exact c1
      have c1' : ((w5.setCell ⟨B, 0, none⟩ (.int .u64 X)).setCell ⟨B, 1, none⟩ (.int .u64 Y)).cell? ⟨B, 1, none⟩ = some (.int .u64 Y) := World.cell?_setCell_same _ _ _ q1
      clear q1
      have c2' : ((w5.setCell ⟨B, 0, none⟩ (.int .u64 X)).setCell ⟨B, 1, none⟩ (.int .u64 Y)).cell? ⟨B, 2, none⟩ = some (.string ⟨#[]⟩) := by
        rw [World.cell?_setCell_other _ _ _ _ (by simp), World.cell?_setCell_other _ _ _ _ (by simp)]; exact c2
      have hk6 : Keep (fun k => k = B) w5 ((w5.setCell ⟨B, 0, none⟩ (.int .u64 X)).setCell ⟨B, 1, none⟩ (.int .u64 Y)) := ((Keep.refl (fun k => k = B) w5).setCell (p := ⟨B, 0, none⟩) (.inl rfl) _).setCell (p := ⟨B, 1, none⟩) (.inl rfl) _
      have f2 : ((w5.setCell ⟨B, 0, none⟩ (.int .u64 X)).setCell ⟨B, 1, none⟩ (.int .u64 Y)).frozen? ⟨B, 2, none⟩ = false := by simpa using f0 2
      have f0' : ((w5.setCell ⟨B, 0, none⟩ (.int .u64 X)).setCell ⟨B, 1, none⟩ (.int .u64 Y)).frozen? ⟨B, 0, none⟩ = false := by simpa using f0 0
      have f1' : ((w5.setCell ⟨B, 0, none⟩ (.int .u64 X)).setCell ⟨B, 1, none⟩ (.int .u64 Y)).frozen? ⟨B, 1, none⟩ = false := by simpa using f0 1
      have hlB : B < w5.heap.size := World.block_lt_of_cell? _ _ c0
      replace hb := Keep.drop' hb (by omega) (Nat.le_refl _) hk6
      replace hr5 := hr5.keep hk6 (fun q => hBR q.symm)
      replace hc := hk6.cell hc (fun q => hBC q.symm)
      clear hk6 c0 c1 c2 f0 hlB
      generalize (w5.setCell ⟨B, 0, none⟩ (.int .u64 X)).setCell ⟨B, 1, none⟩ (.int .u64 Y) = w6 at *
      obtain ⟨⟨d, bad⟩, hyd⟩ : ∃ q, y.2 = q := ⟨_, rfl⟩
      rw [hyd] at hr5 hys
      have Hyd := Aside.mk hyd
      clear hyd
      replace hys : d.size ≤ 1152921504606846976 := hys
      go_region_held3 (fun w' => w'.cell? ⟨C, 0, none⟩ = some (.pointer (some ⟨R, 0, none⟩))) (first | go_keep | exact hc | exact hcx) (first
        | (go_at_call 74; refine (rd_left R ⟨d, bad⟩ _ (by first | exact hr5 | exact hr5.drew)).mono ?_; rintro e w7 ⟨rfl, rfl⟩)
        | (go_at_call 73; refine (rd_bytes R ⟨d, bad⟩ (d.size : Int) _ (by first | exact hr5 | exact hr5.drew) (by omega) hys).mono ?_; rintro e w8 ⟨rfl, hr8, hk8⟩; have hcx := hk8.cell (p := ⟨C, 0, none⟩) hc (fun q => hRC q.symm); have c2x := hk8.cell (p := ⟨B, 2, none⟩) c2' hBR; have f2x : w8.frozen? ⟨B, 2, none⟩ = false := by rw [hk8.frozen (p := ⟨B, 2, none⟩) (World.block_lt_of_cell? _ _ c2') hBR]; exact f2))
      have c0x := hk8.cell (p := ⟨B, 0, none⟩) c0' hBR
      have c1x := hk8.cell (p := ⟨B, 1, none⟩) c1' hBR
      have f0x : w8.frozen? ⟨B, 0, none⟩ = false := by rw [hk8.frozen (p := ⟨B, 0, none⟩) (World.block_lt_of_cell? _ _ c0') hBR]; exact f0'
      have f1x : w8.frozen? ⟨B, 1, none⟩ = false := by rw [hk8.frozen (p := ⟨B, 1, none⟩) (World.block_lt_of_cell? _ _ c1') hBR]; exact f1'
      have hlB6 : B < w6.heap.size := World.block_lt_of_cell? _ _ c0'
      replace hb := Keep.drop' hb.drew (by show B ≤ w6.heap.size; omega) hBRl hk8
      clear hk8 c0' c1' c2' f2 f0' f1' hr5 hlB6
      obtain ⟨D, hD⟩ : ∃ D, (Rd.bytes ⟨d, bad⟩ (d.size : Int)).1 = D := ⟨_, rfl⟩
      obtain ⟨rz, hrz⟩ : ∃ rz, (Rd.bytes ⟨d, bad⟩ (d.size : Int)).2 = rz := ⟨_, rfl⟩
      rw [hrz] at hr8
      rw [hD]
      have hcy : (w8.setCell ⟨B, 2, none⟩ (.string D)).cell? ⟨C, 0, none⟩ = some (.pointer (some ⟨R, 0, none⟩)) := by rw [World.cell?_setCell_other _ _ _ _ (by intro q; exact hBC (congrArg Addr.block q))]; exact hcx
      have c0y : (w8.setCell ⟨B, 2, none⟩ (.string D)).cell? ⟨B, 0, none⟩ = some (.int .u64 X) := by rw [World.cell?_setCell_other _ _ _ _ (by simp)]; exact c0x
      have c1y : (w8.setCell ⟨B, 2, none⟩ (.string D)).cell? ⟨B, 1, none⟩ = some (.int .u64 Y) := by rw [World.cell?_setCell_other _ _ _ _ (by simp)]; exact c1x
      have c2y : (w8.setCell ⟨B, 2, none⟩ (.string D)).cell? ⟨B, 2, none⟩ = some (.string D) := World.cell?_setCell_same _ _ _ c2x
      have f0y : (w8.setCell ⟨B, 2, none⟩ (.string D)).frozen? ⟨B, 0, none⟩ = false := by simpa using f0x
      have f1y : (w8.setCell ⟨B, 2, none⟩ (.string D)).frozen? ⟨B, 1, none⟩ = false := by simpa using f1x
      have f2y : (w8.setCell ⟨B, 2, none⟩ (.string D)).frozen? ⟨B, 2, none⟩ = false := by simpa using f2x
      have hk9 : Keep (fun k => k = B) w8 (w8.setCell ⟨B, 2, none⟩ (.string D)) := (Keep.refl (fun k => k = B) w8).setCell (p := ⟨B, 2, none⟩) (.inl rfl) _
      have hr9 := hr8.keep hk9 (fun q => hBR q.symm)
      replace hb := hb.setCell (p := ⟨B, 2, none⟩) (Nat.le_refl _) (.string D)
      clear hk9 hr8 hcx c0x c1x c2x f0x f1x f2x hc
      generalize w8.setCell ⟨B, 2, none⟩ (.string D) = w9 at *
      obtain ⟨sz, bz⟩ := rz
      have hDz : D.size ≤ 1152921504606846976 := by
        have h1 := Rd.bytes_size ⟨d, bad⟩ d.size
        rw [hD] at h1
        omega
      have hag : aget s = if bz = true ∨ 16384 < D.size then (snone, 0, false) else (⟨X, Y, D⟩, v, true) := by
        rw [Hag.out, if_neg (by simp), Hab.out, HX.out, HY.out, Hyd.out]
        dsimp only
        cases bad with
        | true =>
          have e1 : Rd.bytes ⟨d, true⟩ (d.size : Int) = (⟨#[]⟩, Rd.fail) := by unfold Rd.bytes; rw [if_pos (.inl rfl)]
          rw [e1] at hrz
          have : bz = true := by have := congrArg Rd.bad hrz; simpa [Rd.fail] using this.symm
          rw [if_pos (.inl rfl), if_pos (.inl this)]
        | false =>
          have e1 : Rd.bytes ⟨d, false⟩ (d.size : Int) = (d, ⟨d.extract d.size d.size, false⟩) := by
            unfold Rd.bytes
            rw [if_neg (by simp)]
            simp
          rw [e1] at hrz hD
          have h1 : bz = false := by have := congrArg Rd.bad hrz; simpa using this.symm
          have h2 : D = d := hD.symm
          rw [h1, h2]
      have Hag2 := Aside.mk hag
      clear hag hD hrz Hag Hab Hyd
      go_wp2_with fail
      refine (rd_ok R ⟨sz, bz⟩ _ hr9).mono ?_
      rintro e w10 ⟨rfl, rfl⟩
      by_cases hz1 : bz = true
      · subst hz1
        go_wp2_with fail
        refine bodyPost_ret (v := .tuple #[snone.val, .int .i64 0, .bool false]) (by simp [results, Try.results39, go_sem, snone, Snap.val, c0y, c1y, c2y]) rfl ?_
        rw [Hag2.out, if_pos (.inl trivial)]
        exact ⟨rfl, by rw [HW.out]; exact ((hb.setCell (p := ⟨B, 0, none⟩) (Nat.le_refl _) _).setCell (p := ⟨B, 1, none⟩) (Nat.le_refl _) _).setCell (p := ⟨B, 2, none⟩) (Nat.le_refl _) _⟩
      · obtain rfl : bz = false := by simpa using hz1
        clear hz1
        by_cases hz2 : 16384 < D.size
        · go_wp2_with fail
          refine bodyPost_ret (v := .tuple #[snone.val, .int .i64 0, .bool false]) (by simp [results, Try.results39, go_sem, snone, Snap.val, c0y, c1y, c2y]) rfl ?_
          rw [Hag2.out, if_pos (.inr hz2)]
          exact ⟨rfl, by rw [HW.out]; exact ((hb.setCell (p := ⟨B, 0, none⟩) (Nat.le_refl _) _).setCell (p := ⟨B, 1, none⟩) (Nat.le_refl _) _).setCell (p := ⟨B, 2, none⟩) (Nat.le_refl _) _⟩
        · go_wp2_with fail
          refine bodyPost_ret (v := .tuple #[.agg #[.int .u64 X, .int .u64 Y, .string D], .int .i64 (v), .bool true]) (by simp [results, Try.results39, go_sem, c0y, c1y, c2y]) rfl ?_
          rw [Hag2.out, if_neg (by simp; omega)]
          exact ⟨rfl, by rw [HW.out]; exact ((hb.setCell (p := ⟨B, 0, none⟩) (Nat.le_refl _) _).setCell (p := ⟨B, 1, none⟩) (Nat.le_refl _) _).setCell (p := ⟨B, 2, none⟩) (Nat.le_refl _) _⟩
end Go.Proofs.Ytlbnbmojgdoieaa
