import Derived.Test.YtpfkpaombiikcaaGreatDoorDevM
/- What the small methods of device.Device compute. -/
set_option maxRecDepth 16000
namespace Go.Proofs.YtpfkpaombiikcaaGreatDoor
open Go.RowKit Go.Pin
set_option linter.unusedVariables false
set_option linter.unusedSimpArgs false

theorem sec_info : (Tryz.prog.info? 93).map (·.size) = some 64 := by kernel_rfl
theorem sec_alloc : ∀ w, (Instr.alloc 93 true (.tuple #[])).run Tryz.prog w = .ok (.pointer (some ⟨w.heap.size, 0, none⟩)) (w.alloc (secObj 93 secZ)) := fun w => by kernel_rfl
theorem sec_lit : Obj.cells #[Value.int IntKind.u8 0, Value.int IntKind.u8 0, Value.int IntKind.u8 0, Value.int IntKind.u8 0, Value.int IntKind.u8 0, Value.int IntKind.u8 0, Value.int IntKind.u8 0, Value.int IntKind.u8 0, Value.int IntKind.u8 0, Value.int IntKind.u8 0, Value.int IntKind.u8 0, Value.int IntKind.u8 0, Value.int IntKind.u8 0, Value.int IntKind.u8 0, Value.int IntKind.u8 0, Value.int IntKind.u8 0, Value.int IntKind.u8 0, Value.int IntKind.u8 0, Value.int IntKind.u8 0, Value.int IntKind.u8 0, Value.int IntKind.u8 0, Value.int IntKind.u8 0, Value.int IntKind.u8 0, Value.int IntKind.u8 0, Value.int IntKind.u8 0, Value.int IntKind.u8 0, Value.int IntKind.u8 0, Value.int IntKind.u8 0, Value.int IntKind.u8 0, Value.int IntKind.u8 0, Value.int IntKind.u8 0, Value.int IntKind.u8 0, Value.int IntKind.u8 0, Value.int IntKind.u8 0, Value.int IntKind.u8 0, Value.int IntKind.u8 0, Value.int IntKind.u8 0, Value.int IntKind.u8 0, Value.int IntKind.u8 0, Value.int IntKind.u8 0, Value.int IntKind.u8 0, Value.int IntKind.u8 0, Value.int IntKind.u8 0, Value.int IntKind.u8 0, Value.int IntKind.u8 0, Value.int IntKind.u8 0, Value.int IntKind.u8 0, Value.int IntKind.u8 0, Value.int IntKind.u8 0, Value.int IntKind.u8 0, Value.int IntKind.u8 0, Value.int IntKind.u8 0, Value.int IntKind.u8 0, Value.int IntKind.u8 0, Value.int IntKind.u8 0, Value.int IntKind.u8 0, Value.int IntKind.u8 0, Value.int IntKind.u8 0, Value.int IntKind.u8 0, Value.int IntKind.u8 0, Value.int IntKind.u8 0, Value.int IntKind.u8 0, Value.int IntKind.u8 0, Value.int IntKind.u8 0] 93 = secObj 93 secZ := rfl
theorem sec_load {w : World} {b o : Nat} {s : ByteArray} (h : SecAt w b o s) : (Instr.loadAt 93 (.pointer (some ⟨b, o, none⟩))).run Tryz.prog w = .ok (secVal s) w :=
  run_loadSec h Tryz.underlying93 rfl sec_info
theorem sec_store {w : World} {b o : Nat} {s : ByteArray} (h : SecAt w b o s) (x : ByteArray) (hx : x.size = 64) :
    (Instr.storeAt 93 (.pointer (some ⟨b, o, none⟩)) (secVal x)).run Tryz.prog w = .ok () (w.setSec b o x) := run_storeSec h x hx sec_info

theorem sec_store_new (w : World) (y x : ByteArray) (hy : y.size = 64) (hx : x.size = 64) :
    (Instr.storeAt 93 (.pointer (some ⟨w.heap.size, 0, none⟩)) (secVal x)).run Tryz.prog (w.alloc (secObj 93 y)) = .ok () (w.alloc (secObj 93 x)) := by
  rw [sec_store (SecAt.new w 93 y hy) x hx, setSec_new w 93 y x hy hx]
theorem sec_store_new1 (w : World) (o : Obj) (y x : ByteArray) (hy : y.size = 64) (hx : x.size = 64) :
    (Instr.storeAt 93 (.pointer (some ⟨w.heap.size + 1, 0, none⟩)) (secVal x)).run Tryz.prog ((w.alloc o).alloc (secObj 93 y)) = .ok () ((w.alloc o).alloc (secObj 93 x)) := by
  have := sec_store_new (w.alloc o) y x hy hx
  simpa using this
theorem sec_load_new (w : World) (x : ByteArray) (hx : x.size = 64) :
    (Instr.loadAt 93 (.pointer (some ⟨w.heap.size, 0, none⟩))).run Tryz.prog (w.alloc (secObj 93 x)) = .ok (secVal x) (w.alloc (secObj 93 x)) :=
  sec_load (SecAt.new w 93 x hx)
theorem sec_load_new1 (w : World) (o : Obj) (x : ByteArray) (hx : x.size = 64) :
    (Instr.loadAt 93 (.pointer (some ⟨w.heap.size + 1, 0, none⟩))).run Tryz.prog ((w.alloc o).alloc (secObj 93 x)) = .ok (secVal x) ((w.alloc o).alloc (secObj 93 x)) := by
  have := sec_load_new (w.alloc o) x hx
  simpa using this
theorem _root_.Go.Pin.SecAt.old {w : World} {b o : Nat} {s : ByteArray} (h : SecAt w b o s) (x : Obj) : SecAt (w.alloc x) b o s := h.keep ((Keep.refl (fun _ => False) w).alloc x) id
theorem wpList_load_sec {ops : Array Oper} {rest : List Oper} {op : Oper} {a : Act} {w : World} {Q : Exit → Act → World → Prop} (hgd : op.guard = none) (x : Operand) (ho : op.op = .load 93 x)
    {b o : Nat} {s : ByteArray} (hs : SecAt w b o s) (hx : a.eval x = .pointer (some ⟨b, o, none⟩)) (h : wpList Tryz.prog ops Q rest (a.put op.dst (secVal s)) w) : wpList Tryz.prog ops Q (op :: rest) a w :=
  wpList_load_mid hgd 93 x ho b o hx (secCells s) _ hs.at' Tryz.underlying93 rfl (by rw [sec_info, secCells_length, hs.size]) h
theorem wpList_store_sec {ops : Array Oper} {rest : List Oper} {op : Oper} {a : Act} {w w' : World} {Q : Exit → Act → World → Prop} (hgd : op.guard = none) (x y : Operand) (ho : op.op = .store 93 x y)
    {b o : Nat} {s0 s : ByteArray} (hs : SecAt w b o s0) (hz : s.size = 64) (hw : w.setSec b o s = w') (hx : a.eval x = .pointer (some ⟨b, o, none⟩)) (hy : a.eval y = secVal s) (h : wpList Tryz.prog ops Q rest (a.put op.dst undef) w') : wpList Tryz.prog ops Q (op :: rest) a w :=
  wpList_store_mid hgd 93 x y ho b o (secCells s).toArray hx hy (by simpa [secCells_length, hz] using hs.there) (by simp [sec_info, secCells_length, hz]) (all_oneCell_toArray (secCells_one s)) (by subst hw; simpa [World.setSec] using h)
theorem setSec_new1 (w : World) (o : Obj) (s x : ByteArray) (h : s.size = 64) (hx : x.size = 64) : ((w.alloc o).alloc (secObj 93 s)).setSec (w.heap.size + 1) 0 x = (w.alloc o).alloc (secObj 93 x) := by
  have := setSec_new (w.alloc o) 93 s x h hx
  simpa using this
theorem SecAt.new1 (w : World) (o : Obj) (x : ByteArray) (hx : x.size = 64) : SecAt ((w.alloc o).alloc (secObj 93 x)) (w.heap.size + 1) 0 x := by
  have := SecAt.new (w.alloc o) 93 x hx
  simpa using this
/-- A result that lies in a sector of its own. -/
theorem results_sec {fn : Func} {p : Tmp} (h : fn.results = #[.cell p 93]) (tmps : Array Value) {w : World} {b o : Nat} {s : ByteArray} (hp : tmps.getD p undef = .pointer (some ⟨b, o, none⟩)) (hs : SecAt w b o s) :
    (results fn tmps).run Tryz.prog w = .ok (secVal s) w := by
  have hl := run_loadVar_mid (P := Tryz.prog) w b o 93 (secCells s) _ hs.at' Tryz.underlying93 rfl (by rw [sec_info, secCells_length, hs.size])
  have hp' : tmps[p]?.getD undef = .pointer (some ⟨b, o, none⟩) := by simpa using hp
  simp [results, h, hp', asAddr, hl, secVal]

set_option maxHeartbeats 400000 in
theorem dev_sectors (b f m : Nat) (d : Dv) (w : World) (h : DevAt w b f m d) :
    Calls Tryz.prog 39 #[.pointer (some ⟨b, 0, none⟩)] w fun e w' => e = .returned (.int .i64 d.n) ∧ w' = w := by
  obtain ⟨c, _, _, h0⟩ := h.c0
  have hn := h.ok.n2
  go_enter Tryz.func39, Tryz.ntmps39
  go_wp2_with fail
  go_ret
  exact ⟨rfl, rfl⟩
set_option maxHeartbeats 400000 in
theorem dev_arm (b f m : Nat) (d : Dv) (k : Int) (hk : -9223372036854775808 ≤ k ∧ k ≤ 9223372036854775807) (w : World) (h : DevAt w b f m d) :
    Calls Tryz.prog 14 #[.pointer (some ⟨b, 0, none⟩), .int .i64 k] w fun e w' => e = .returned (.tuple #[]) ∧ DevAt w' b f m (darm d k) ∧ Keep (devS b f m) w w' := by
  have h2 := h.c2
  have f2 := h.fr 2 (by omega)
  obtain ⟨j, hj, hj0, hj1⟩ : ∃ j : Int, (if k < -1 then -1 else k) = j ∧ -1 ≤ j ∧ j ≤ 9223372036854775807 := ⟨_, rfl, by split <;> omega, by split <;> omega⟩
  have hd : darm d k = { d with armed := j } := by unfold darm; rw [hj]
  rw [hd]
  have hs := h.setArmed j hj0 hj1
  have Hd := Aside.mk hd
  clear hd
  by_cases hk1 : k < -1
  · rw [if_pos hk1] at hj
    subst hj
    go_enter Tryz.func14, Tryz.ntmps14
    go_wp2_with fail
    go_end0
    exact ⟨rfl, hs, (Keep.refl (devS b f m) w).setCell (p := ⟨b, 2, none⟩) (.inl (.inl rfl)) _⟩
  · rw [if_neg hk1] at hj
    subst hj
    go_enter Tryz.func14, Tryz.ntmps14
    go_wp2_with fail
    go_end0
    exact ⟨rfl, hs, (Keep.refl (devS b f m) w).setCell (p := ⟨b, 2, none⟩) (.inl (.inl rfl)) _⟩
set_option maxHeartbeats 400000 in
theorem dev_refused (b f m : Nat) (d : Dv) (k : Int) (hk : -9223372036854775808 ≤ k ∧ k ≤ 9223372036854775807) (w : World) (h : DevAt w b f m d) :
    Calls Tryz.prog 63 #[.pointer (some ⟨b, 0, none⟩), .int .i64 k] w fun e w' => e = .returned (.int .i64 (dref d k)) ∧ w' = w := by
  obtain ⟨c, hc1, hc2, h0⟩ := h.c0
  have h3 := h.c3
  have hn := h.ok.n2
  cases hdd : d.dead with
  | true =>
    have e1 : dref d k = 7 := by unfold dref; rw [if_pos hdd]
    rw [e1]
    rw [hdd] at h3
    clear hdd e1
    go_enter Tryz.func63, Tryz.ntmps63
    go_wp2_with fail
    go_ret
    exact ⟨rfl, rfl⟩
  | false =>
    rw [hdd] at h3
    by_cases hlow : k < 0
    · have e1 : dref d k = 5 := by unfold dref; rw [if_neg (by rw [hdd]; simp), if_pos (.inl hlow)]
      rw [e1]
      clear hdd e1
      go_enter Tryz.func63, Tryz.ntmps63
      go_wp2_with fail
      go_ret
      exact ⟨rfl, rfl⟩
    · by_cases hhi : (d.n : Int) ≤ k
      · have e1 : dref d k = 5 := by unfold dref; rw [if_neg (by rw [hdd]; simp), if_pos (.inr hhi)]
        rw [e1]
        clear hdd e1
        go_enter Tryz.func63, Tryz.ntmps63
        go_wp2_with fail
        go_ret
        exact ⟨rfl, rfl⟩
      · have e1 : dref d k = 0 := by unfold dref; rw [if_neg (by rw [hdd]; simp), if_neg (by omega)]
        rw [e1]
        clear hdd e1
        go_enter Tryz.func63, Tryz.ntmps63
        go_wp2_with fail
        go_ret
        exact ⟨rfl, rfl⟩

theorem map_zero (w : World) : (zeroValue 93).run Tryz.prog w = .ok (secVal secZ) w := by kernel_rfl
set_option maxHeartbeats 800000 in
theorem dev_now (b f m : Nat) (d : Dv) (k : Nat) (hk : k < d.n) (w : World) (h : DevAt w b f m d) :
    Calls Tryz.prog 44 #[.pointer (some ⟨b, 0, none⟩), .int .i64 (k : Int)] w fun e w' => e = .returned (secVal (d.s k)) ∧ Below w.heap.size w w' := by
  obtain ⟨c, hc1, hc2, h0⟩ := h.c0
  have hn := h.ok.n2
  obtain ⟨L, hL1, hL2⟩ := h.mp
  have hw := hL2 (k : Int)
  have hlt := h.lt
  have z2 := h.ok.z2 k
  have g1 : ∀ o t, (w.alloc (secObj t o)).cell? ⟨b, 1, none⟩ = some (.map (some m)) := fun o t => ((Keep.refl (fun _ => False) w).alloc _).cell h.c1 id
  have hal := sec_lit
  have hlk := run_map_lookup_ok (P := Tryz.prog) (hL1.alloc (secObj 93 secZ)) Tryz.underlying62 Tryz.underlying3 (k : Int) (map_zero _)
  rw [hw] at hlk
  have e0 : Below w.heap.size w (w.alloc (secObj 93 (d.s k))) := (Below.refl _ _).alloc (Nat.le_refl _) _
  cases hwk : d.w k with
  | true =>
    have hws : d.waits (k : Int) = some (secVal (d.s k)) := by unfold Dv.waits; rw [if_pos ⟨by omega, by simpa using hwk⟩]; simp
    rw [hws] at hlk
    have q1 := SecAt.new1 w (secObj 93 secZ) secZ rfl
    have q2 := setSec_new1 w (secObj 93 secZ) secZ (d.s k) rfl z2
    have q3 := SecAt.new1 w (secObj 93 secZ) (d.s k) z2
    have q4 := (SecAt.new w 93 secZ rfl).old (secObj 93 (d.s k))
    have q5 := q4.set (d.s k) z2
    have hk2 : Keep (fun _ => False) w (((w.alloc (secObj 93 secZ)).alloc (secObj 93 (d.s k))).setSec w.heap.size 0 (d.s k)) := (((Keep.refl (fun _ => False) w).alloc _).alloc _).setSec (.inr (Nat.le_refl _))
    have Q2 := Aside.mk q2
    clear q2
    clear hwk hws hw hL2 e0
    simp only [Option.getD_some, Option.isSome_some] at hlk
    go_enter Tryz.func44, Tryz.ntmps44
    go_wp2_with (first
      | (with_reducible refine wpList_store_sec rfl (.tmp 5) (.tmp 14) rfl q1 z2 Q2.out rfl rfl ?_)
      | (with_reducible refine wpList_load_sec rfl (.tmp 5) rfl q3 rfl ?_)
      | (with_reducible refine wpList_store_sec rfl (.tmp 4) (.tmp 17) rfl q4 z2 rfl rfl rfl ?_))
    exact bodyPost_ret (v := secVal (d.s k)) (results_sec rfl _ rfl q5) rfl ⟨rfl, hk2.below (Nat.le_refl _) fun _ h => h.elim⟩
  | false =>
    have hws : d.waits (k : Int) = none := by unfold Dv.waits; rw [if_neg (by rintro ⟨_, q⟩; rw [Int.toNat_natCast, hwk] at q; cases q)]
    rw [hws] at hlk
    have hso := h.ok.same k hwk
    have z1 := h.ok.z1 k
    have q1 := SecAt.new1 w (secObj 93 secZ) secZ rfl
    have q2 := setSec_new1 w (secObj 93 secZ) secZ secZ rfl rfl
    have q3 := ((h.secs k hk).old (secObj 93 secZ)).old (secObj 93 secZ)
    have q4 := (SecAt.new w 93 secZ rfl).old (secObj 93 secZ)
    have q5 := q4.set (d.o k) z1
    have hk2 : Keep (fun _ => False) w (((w.alloc (secObj 93 secZ)).alloc (secObj 93 secZ)).setSec w.heap.size 0 (d.o k)) := (((Keep.refl (fun _ => False) w).alloc _).alloc _).setSec (.inr (Nat.le_refl _))
    have g0 : ((w.alloc (secObj 93 secZ)).alloc (secObj 93 secZ)).cell? ⟨b, 0, none⟩ = some (.slice (some ⟨f, 0, none⟩) d.n c) := (((Keep.refl (fun _ => False) w).alloc _).alloc _).cell h0 id
    have Q2 := Aside.mk q2
    have Hso := Aside.mk hso
    clear q2 hso
    clear hwk hws hw hL2 e0
    simp only [Option.getD_none, Option.isSome_none] at hlk
    go_enter Tryz.func44, Tryz.ntmps44
    go_wp2_with (first
      | (with_reducible refine wpList_store_sec rfl (.tmp 5) (.tmp 14) rfl q1 rfl Q2.out rfl rfl ?_)
      | (with_reducible refine wpList_load_sec rfl (.tmp 23) rfl q3 rfl ?_)
      | (with_reducible refine wpList_store_sec rfl (.tmp 4) (.tmp 24) rfl q4 z1 rfl rfl rfl ?_))
    rw [Hso.out]
    exact bodyPost_ret (v := secVal (d.o k)) (results_sec rfl _ rfl q5) rfl ⟨rfl, hk2.below (Nat.le_refl _) fun _ h => h.elim⟩

theorem run_string_sec {w : World} {b o : Nat} {s : ByteArray} (h : SecAt w b o s) (c : Nat) : (convert 69 9 (.slice (some ⟨b, o, none⟩) 64 c)).run Tryz.prog w = .ok (.string s) w := by
  have hl : s.data.toList.length = 64 := h.size
  have := run_string_addr (P := Tryz.prog) w 69 9 5 Tryz.underlying69 Tryz.underlying5 Tryz.underlying9 ⟨b, o, none⟩ s.data.toList 64 c hl (fun j hj => by
    rw [Addr.add_mid]
    exact h.at' j _ (by unfold secCells; rw [List.getElem?_map, List.getElem?_eq_getElem hj]; rfl))
  rw [this]
set_option maxHeartbeats 800000 in
theorem dev_read (b f m : Nat) (d : Dv) (k : Int) (hk : -9223372036854775808 ≤ k ∧ k ≤ 9223372036854775807) (w : World) (h : DevAt w b f m d) :
    Calls Tryz.prog 81 #[.pointer (some ⟨b, 0, none⟩), .int .i64 k] w fun e w' => e = .returned (.tuple #[.string (dread d k).1, .int .i64 (dread d k).2]) ∧ Below w.heap.size w w' := by
  have hb := Below.refl w.heap.size w
  by_cases hr : dref d k = 0
  · have e1 : dread d k = (d.s k.toNat, 0) := by unfold dread; rw [if_neg (by rw [hr]; simp)]
    rw [e1]
    have hkn : 0 ≤ k ∧ k.toNat < d.n := by
      unfold dref at hr
      split at hr
      · cases hr
      · split at hr
        · cases hr
        · omega
    obtain ⟨j, rfl⟩ := Int.eq_ofNat_of_zero_le hkn.1
    have hj : j < d.n := by simpa using hkn.2
    have z2 := h.ok.z2 j
    have hcon := dev_now b f m d j hj w h
    rw [Int.toNat_natCast]
    have Hr := Aside.mk hr
    clear e1 hr hkn
    have hal := sec_lit
    go_enter Tryz.func81, Tryz.ntmps81
    go_wp2_with fail
    refine (dev_refused b f m d j hk w h).mono ?_
    rw [Hr.out]
    rintro e w1 ⟨rfl, rfl⟩
    go_wp2_with fail
    refine hcon.mono ?_
    rintro e w2 ⟨rfl, hb2⟩
    have q1 := SecAt.new w2 93 secZ rfl
    have q2 := setSec_new w2 93 secZ (d.s j) rfl z2
    have q3 := SecAt.new w2 93 (d.s j) z2
    have q4 := run_string_sec q3
    have Q2 := Aside.mk q2
    clear q2
    go_wp2_with (with_reducible refine wpList_store_sec rfl (.tmp 7) (.tmp 16) rfl q1 z2 Q2.out rfl rfl ?_)
    go_ret2
    exact ⟨rfl, hb2.alloc hb2.size _⟩
  · have e1 : dread d k = (⟨#[]⟩, dref d k) := by unfold dread; rw [if_pos hr]
    rw [e1]
    obtain ⟨r, hrr⟩ : ∃ r, dref d k = r := ⟨_, rfl⟩
    rw [hrr] at hr ⊢
    have Hr := Aside.mk hrr
    have hr0 : (r == 0) = false := by simpa using hr
    have hr1 : (r != 0) = true := by simpa using hr
    clear e1 hr hrr
    go_enter Tryz.func81, Tryz.ntmps81
    go_wp2_with fail
    refine (dev_refused b f m d k hk w h).mono ?_
    rw [Hr.out]
    rintro e w1 ⟨rfl, rfl⟩
    go_wp2_with fail
    go_ret2
    exact ⟨rfl, hb⟩
end Go.Proofs.YtpfkpaombiikcaaGreatDoor
