import Derived.Test.YtpfkpaombiikcaaGreatDoorDevW
/- What device.Device's Write computes. -/
set_option maxRecDepth 16000
namespace Go.Pin
open Go.RowKit
set_option linter.unusedVariables false
theorem MapAt.ne {w : World} {m : Nat} {kk : IntKind} {L : List Ent} (h : MapAt w m kk L) {b o : Nat} {v : Value} (hc : w.cell? ⟨b, o, none⟩ = some v) : b ≠ m := by
  rintro rfl
  obtain ⟨es, c, h1, _⟩ := h
  unfold World.cell? at hc
  simp [h1] at hc
theorem secCells_zeros (n : Nat) : secCells (zeros n) = List.replicate n (Value.int .u8 0) := by
  unfold secCells zeros
  show List.map _ (Array.replicate n (0 : UInt8)).toList = _
  rw [Array.toList_replicate, List.map_replicate]; rfl
theorem copy_pad (w : World) (t : TypeId) (s : ByteArray) (hs : s.size ≤ 64) : (w.alloc (secObj t secZ)).setCells w.heap.size 0 (s.data.toList.map fun x => Value.int .u8 (x.toNat : Int)) = w.alloc (secObj t (pad s)) := by
  unfold secObj
  have hl : s.data.toList.length = s.size := rfl
  rw [setCells_alloc w _ 0 _ (by simp [secCells_length, secZ, zeros_size]; exact hs)]
  congr 2
  apply Array.ext'
  simp only [List.take_zero, List.nil_append, Nat.zero_add, List.length_map]
  show _ = secCells (pad s)
  have hz : secCells secZ = List.replicate 64 (Value.int .u8 0) := secCells_zeros 64
  rw [hz]
  unfold secCells pad
  rw [show (s ++ zeros (64 - s.size)).data.toList = s.data.toList ++ List.replicate (64 - s.size) 0 from by simp [zeros]]
  rw [List.map_append]
  congr 1
  show List.drop s.data.toList.length (List.replicate 64 (Value.int .u8 0)) = _
  rw [hl, List.drop_replicate, List.map_replicate]
  rfl
theorem setCells_drew (b : Nat) : ∀ (vs : List Value) (o : Nat) (w : World), w.drew.setCells b o vs = (w.setCells b o vs).drew
  | [], _, _ => rfl
  | v :: vs, o, w => by
    show (w.drew.setCell _ v).setCells b (o + 1) vs = _
    rw [World.setCell_drew, setCells_drew b vs]; rfl
theorem step_copy_sec {P : Program} {ops : Array Oper} {o : Oper} {a : Act} {w w' : World} {K : Act → World → Prop} {Q : Exit → Act → World → Prop} {E : Prop}
    (hg : o.guard = none) (d x : Operand) (dT sT : TypeId) (hop : o.op = Op.call { callee := Callee.builtin Builtin.copy, args := #[d, x], argTypes := #[dT, sT] })
    (elem : TypeId) (hu : P.underlying dT = some (.slice elem)) (hz : ∀ w, (Go.sizeOf elem).run P w = .ok 1 w)
    (b off dLen dCap : Nat) (hd : a.eval d = .slice (some ⟨b, off, none⟩) dLen dCap) (t : ByteArray) (hx : a.eval x = .string t) (hle : t.size ≤ dLen)
    (hc : ∀ j, j < t.size → (w.cell? ⟨b, off + j, none⟩).isSome = true) (hf : ∀ j, j < t.size → w.frozen? ⟨b, off + j, none⟩ = false)
    (hw : w.setCells b off (t.data.toList.map fun x => Value.int .u8 (x.toNat : Int)) = w')
    (hK : K (a.put o.dst (goInt t.size)) w') :
    if Region.wanted o (yielded ops a.tmps) = true then Oper.wp P o a w K Q else E :=
  step_copy_string hg d x dT sT hop elem hu hz b off dLen dCap hd t hx hle hc hf (by rw [hw]; exact hK)
end Go.Pin
namespace Go.Proofs.YtpfkpaombiikcaaGreatDoor
open Go.RowKit Go.Pin
set_option linter.unusedVariables false
set_option linter.unusedSimpArgs false
theorem size_u8 : ∀ w, (Go.sizeOf 5).run Tryz.prog w = .ok 1 w := fun w => by kernel_rfl
set_option maxHeartbeats 800000 in
theorem dev_write1 (b f m S A D : Nat) (d : Dv) (k : Nat) (hk : k < d.n) (s : ByteArray) (hs : s.size ≤ 64) (w : World) (h : DevAt w b f m d)
    (hS : w.cell? ⟨S, 0, none⟩ = some (.string s)) (hD : w.cell? ⟨D, 0, none⟩ = some (.pointer (some ⟨b, 0, none⟩))) (hA : w.cell? ⟨A, 0, none⟩ = some (.int .i64 (k : Int))) :
    Calls Tryz.prog 65 #[.pointer (some ⟨S, 0, none⟩), .pointer (some ⟨D, 0, none⟩), .pointer (some ⟨A, 0, none⟩)] w fun e w' => e = .returned (.tuple #[]) ∧ DevAt w' b f m (dset k s d) ∧ Keep (devS b f m) w w' := by
  have hal := sec_lit
  have hka : Keep (fun _ => False) w (w.alloc (secObj 93 secZ)) := (Keep.refl _ _).alloc _
  have hS1 := hka.cell hS id
  have hz0 := SecAt.new w 93 secZ rfl
  have hcp := copy_pad w 93 s hs
  have hcp2 : (w.alloc (secObj 93 secZ)).drew.setCells w.heap.size 0 (s.data.toList.map fun x => Value.int .u8 (x.toNat : Int)) = (w.alloc (secObj 93 (pad s))).drew := by rw [setCells_drew, hcp]
  have hkb : Keep (fun _ => False) w (w.alloc (secObj 93 (pad s))).drew := ((Keep.refl _ _).alloc _).drew
  have hS2 := hkb.cell hS id
  have Hcp := Aside.mk hcp2
  clear hcp hcp2
  go_enter Tryz.func65, Tryz.ntmps65
  go_wp2_with fail
  go_region_held3 (fun w' => w'.cell? ⟨S, 0, none⟩ = some (.string s)) (first | go_keep | exact hS2) ((refine step_copy_sec (by rfl) _ _ _ _ (by rfl) 5 Tryz.underlying69 size_u8 w.heap.size 0 64 64 (by rfl) s (by rfl) hs (fun j hj => (hz0.there j (by omega)).1) (fun j hj => (hz0.there j (by omega)).2) Hcp.out ?_))
  have hz1 := (SecAt.new w 93 (pad s) (pad_size s hs)).drew
  have h1 := h.keep hkb ⟨id, id, id⟩
  have hD1 := hkb.cell hD id
  have hA1 := hkb.cell hA id
  have hnb : w.heap.size ≠ m := by have := h.lt; omega
  clear hal hka hS1 hz0 hS2 Hcp hS hD hA
  generalize (w.alloc (secObj 93 (pad s))).drew = w1 at *
  generalize w.heap.size = N at *
  obtain ⟨L, hL1, hL2⟩ := h1.mp
  have hb1 := h1.c1
  obtain ⟨w2, hmu, hmu1, hmu2, hmu3⟩ := run_map_update (P := Tryz.prog) hL1.drew Tryz.underlying62 Tryz.underlying3 (k : Int) (.agg (secCells (pad s)).toArray)
  have hra := hz1.at'
  have hu := Tryz.underlying93
  have hi : (Tryz.prog.info? 93).map (·.size) = some (secCells (pad s)).length := by rw [sec_info, secCells_length, pad_size s hs]
  have HL := Aside.mk hL2
  have eD := hmu2.cell (p := ⟨D, 0, none⟩) hD1 (hL1.ne hD1)
  have eA := hmu2.cell (p := ⟨A, 0, none⟩) hA1 (hL1.ne hA1)
  have eb := hmu2.cell (p := ⟨b, 1, none⟩) hb1 h1.bm
  have eN : w2.rangeAt N 0 (secCells (pad s)) := fun j v hv => hmu2.cell (p := ⟨N, 0 + j, none⟩) (hz1.at' j v hv) hnb
  clear hL2
  go_wp2_with fail
  go_region_held3 (fun w' => w'.cell? ⟨D, 0, none⟩ = some (.pointer (some ⟨b, 0, none⟩)) ∧ w'.cell? ⟨A, 0, none⟩ = some (.int .i64 (k : Int)) ∧ w'.cell? ⟨b, 1, none⟩ = some (.map (some m)) ∧ w'.rangeAt N 0 (secCells (pad s))) (first | go_keep_ranges | assumption) (fail)
  go_wp2_with fail
  go_end0
  have hm : ∀ j : Int, mget (mset L (k : Int) (.agg (secCells (pad s)).toArray)) j = (dset k s d).waits j := fun j => by
    rw [mget_mset, dset_waits h1.ok hk, HL.out]; rfl
  exact ⟨rfl, h1.drew.setMap hmu2 (dset_ok h1.ok hk hs) rfl rfl rfl hmu1 hm, ((hkb.mono (T := devS b f m) fun _ h => h.elim).drew).trans (hmu2.mono fun _ h => .inr (.inr h))⟩
end Go.Proofs.YtpfkpaombiikcaaGreatDoor
