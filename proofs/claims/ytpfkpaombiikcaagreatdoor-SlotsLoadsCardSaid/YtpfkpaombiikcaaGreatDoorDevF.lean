import Derived.Test.YtpfkpaombiikcaaGreatDoorDevX
/- What device.Device's settle computes. -/
set_option maxRecDepth 16000
namespace Go.Pin
open Go.RowKit
set_option linter.unusedVariables false
set_option linter.unusedSimpArgs false
theorem mget_mem : ∀ (L : List Ent) (k : Int) (v : Value), (L.map (·.1)).Nodup → (k, v) ∈ L → mget L k = some v
  | [], k, v, _, h => by cases h
  | p :: L, k, v, hn, h => by
    unfold mget
    rw [List.find?_cons]
    rcases List.mem_cons.1 h with h | h
    · subst h; simp
    · rw [List.map_cons, List.nodup_cons] at hn
      have hne : p.1 ≠ k := fun q => hn.1 (List.mem_map.2 ⟨(k, v), h, q.symm⟩)
      have h2 : decide (p.1 = k) = false := by simpa using hne
      rw [h2]
      exact mget_mem L k v hn.2 h
theorem mget_none (L : List Ent) (k : Int) (h : k ∉ L.map (·.1)) : mget L k = none := by
  unfold mget
  have : L.find? (fun p => decide (p.1 = k)) = none := by
    rw [List.find?_eq_none]
    intro q hq
    simpa using fun e => h (List.mem_map.2 ⟨q, hq, e⟩)
  rw [this]; rfl
theorem mget_in (L : List Ent) (k : Int) (v : Value) (h : mget L k = some v) : (k, v) ∈ L := by
  unfold mget at h
  obtain ⟨p, hp, rfl⟩ := Option.map_eq_some_iff.1 h
  have h1 := List.find?_some hp
  have h2 := List.mem_of_find?_eq_some hp
  have : p.1 = k := by simpa using h1
  rw [← this]; exact h2
theorem waits_some {d : Dv} (h : d.ok) {k : Int} {v : Value} (hw : d.waits k = some v) : ∃ j : Nat, k = (j : Int) ∧ j < d.n ∧ d.w j = true ∧ v = secVal (d.s j) := by
  unfold Dv.waits at hw
  split at hw
  · rename_i hc
    refine ⟨k.toNat, by omega, ?_, hc.2, by cases hw; rfl⟩
    have := hc.2
    unfold Dv.w at this
    rw [← h.l2]
    rcases Nat.lt_or_ge k.toNat d.wait.length with h1 | h1
    · exact h1
    · simp [List.getD, List.getElem?_eq_none h1] at this
  · cases hw
theorem waits_none {d : Dv} {j : Nat} (hw : d.waits (j : Int) = none) : d.w j = false := by
  unfold Dv.waits at hw
  split at hw
  · cases hw
  · rename_i hc
    cases hj : d.w j with
    | false => rfl
    | true => exact absurd ⟨by omega, by simpa using hj⟩ hc
/-- What is to come when some of what waits has been laid down. -/
def Settling (w : World) (f : Nat) (d : Dv) (left : List Ent) : Prop := ∀ i, i < d.n → SecAt w f (i * 64) (if (i : Int) ∈ left.map (·.1) then d.o i else d.s i)
theorem Settling.start {w : World} {b f m : Nat} {d : Dv} (h : DevAt w b f m d) {L : List Ent} (hL : ∀ k : Int, mget L k = d.waits k) : Settling w f d L := by
  intro i hi
  have h1 := h.secs i hi
  split
  · exact h1
  · rename_i hne
    rw [h.ok.same i (waits_none (by rw [← hL]; exact mget_none L _ hne))]
    exact h1
theorem Settling.keep {S : Nat → Prop} {a w : World} {f : Nat} {d : Dv} {left : List Ent} (h : Settling a f d left) (hk : Keep S a w) (hn : ¬ S f) : Settling w f d left := fun i hi => (h i hi).keep hk hn
theorem Settling.step {w : World} {f : Nat} {d : Dv} {left : List Ent} (h : Settling w f d left) (hok : d.ok) (j : Nat) (hj : j < d.n) : Settling (w.setSec f (j * 64) (d.s j)) f d (left.filter fun p => decide (p.1 ≠ (j : Int))) := by
  intro i hi
  by_cases hij : i = j
  · subst hij
    rw [if_neg (by simp)]
    exact (h i hi).set _ (hok.z2 i)
  · have : ((i : Int) ∈ (left.filter fun p => decide (p.1 ≠ (j : Int))).map (·.1)) ↔ (i : Int) ∈ left.map (·.1) := by
      simp only [List.mem_map, List.mem_filter]
      constructor
      · rintro ⟨p, ⟨hp, _⟩, e⟩; exact ⟨p, hp, e⟩
      · rintro ⟨p, hp, e⟩; exact ⟨p, ⟨hp, by rw [e]; simp; omega⟩, e⟩
    simp only [this]
    exact (h i hi).set_other _ (hok.z2 j) (.inr (by omega))
theorem Keep.join {S T : Nat → Prop} {a b c : World} (h : Keep S a b) (k : Keep T b c) (hT : ∀ i, T i → S i ∨ a.heap.size ≤ i) : Keep S a c :=
  ⟨k.os.trans h.os, k.tape.trans h.tape, k.output.trans h.output, Nat.le_trans h.size k.size, fun i hi hn => (k.block i (Nat.lt_of_lt_of_le hi h.size) (fun q => by rcases hT i q with q | q; exact hn q; omega)).trans (h.block i hi hn)⟩
theorem DevAt.settled {w1 wr w3 : World} {b f m R : Nat} {d : Dv} (h : DevAt w1 b f m d) (hkw : Keep (fun k => k = f ∨ k = R) w1 wr) (hs : Settling wr f d []) (hk3 : Keep (fun k => k = m) wr w3) (hM : MapAt w3 m .i64 []) (hbR : b ≠ R) : DevAt w3 b f m (dsettle d) := by
  obtain ⟨c, hc1, hc2, c0⟩ := h.c0
  have hn := dsettle_n h.ok
  have hb := h.lt.1
  have nb : ¬ (b = f ∨ b = R) := by rintro (q | q); exact h.bf q; exact hbR q
  refine ⟨dsettle_ok h.ok, ⟨c, by rw [hn]; exact hc1, hc2, by rw [hn]; exact hk3.cell (hkw.cell c0 nb) h.bm⟩, hk3.cell (hkw.cell h.c1 nb) h.bm, hk3.cell (hkw.cell h.c2 nb) h.bm, hk3.cell (hkw.cell h.c3 nb) h.bm, fun i hi => ?_, ⟨[], hM, fun k => ?_⟩, fun i hi => ?_, h.bf, h.bm, h.fm⟩
  · rw [hk3.frozen (p := ⟨b, i, none⟩) (Nat.lt_of_lt_of_le hb hkw.size) h.bm, hkw.frozen (p := ⟨b, i, none⟩) hb nb]; exact h.fr i hi
  · have : (dsettle d).waits k = none := by
      unfold Dv.waits
      have hw : (dsettle d).w k.toNat = false := getD_rep _ _ _
      rw [hw]; simp
    rw [this]; rfl
  · have h1 := hs i (by rw [← hn]; exact hi)
    rw [if_neg (by simp)] at h1
    exact h1.keep hk3 h.fm
end Go.Pin
namespace Go.Proofs.YtpfkpaombiikcaaGreatDoor
open Go.RowKit Go.Pin
set_option linter.unusedVariables false
set_option linter.unusedSimpArgs false
set_option maxHeartbeats 1600000 in
theorem dev_settle (b f m : Nat) (d : Dv) (w : World) (h : DevAt w b f m d) :
    Calls Tryz.prog 66 #[.pointer (some ⟨b, 0, none⟩)] w fun e w' => e = .returned (.tuple #[]) ∧ DevAt w' b f m (dsettle d) ∧ Keep (devS b f m) w w' := by
  have c1 := h.c1
  obtain ⟨c, hc1, hc2, c0⟩ := h.c0
  have hn := h.ok.n2
  have hlt := h.lt
  obtain ⟨L, hL1, hL2⟩ := h.mp
  obtain ⟨w1, hr, hR, hkr, hz1⟩ := run_map_range (P := Tryz.prog) hL1 Tryz.underlying62
  have hst := (Settling.start h hL2).keep hkr id
  have H1 := Aside.mk (h.keep hkr ⟨id, id, id⟩)
  have d0 := hkr.cell c0 id
  have d1 := hkr.cell c1 id
  have HL2 := Aside.mk hL2
  have hnd := hL1.nodup
  have hu := Tryz.underlying93
  go_enter Tryz.func66, Tryz.ntmps66
  go_wp2_with fail
  clear hL2 c0 c1 hr hL1
  have Hk := Aside.mk hkr
  clear hkr hz1
  generalize hRR : w.heap.size = R at *
  have HR := Aside.mk hRR
  clear hRR
  have hfR : f ≠ R := by omega
  have hbR : b ≠ R := by omega
  have hmR : m ≠ R := by omega
  have hR1 : R < w1.heap.size := by
    obtain ⟨_, _, _, _, _, q, _⟩ := hR
    exact (Array.getElem?_eq_some_iff.1 q).1
  go_loopg [3] L.length (fun g _ wr => ∃ left, g = left.length ∧ (∀ p ∈ left, p ∈ L) ∧ RangeAt wr R m .i64 L left ∧ Settling wr f d left ∧ Keep (fun k => k = f ∨ k = R) w1 wr)
  case atStart => exact ⟨L, rfl, fun _ h => h, hR, hst, Keep.refl _ _⟩
  case round =>
    obtain ⟨left, hg, hsub, hRr, hsr, hkw⟩ := hrel
    have e0 := hkw.cell d0 (by rintro (q | q); exact h.bf q; exact hbR q)
    have e1 := hkw.cell d1 (by rintro (q | q); exact h.bf q; exact hbR q)
    clear d0 d1 hst hR
    rcases run_map_next (P := Tryz.prog) hRr 0 with ⟨hl, hrun⟩ | ⟨k, v, w2, hmem, hmemL, hrun, hR2, hlt2, hk2, hz2, hent⟩
    · subst hl
      obtain ⟨w3, hcl, hM3, hk3, hz3⟩ := run_map_clear (P := Tryz.prog) hRr.map Tryz.underlying62 0
      have Hs := Aside.mk hsr
      clear hsr hRr hsub hg
      go_wp2_with fail
      go_end0
      refine ⟨rfl, H1.out.settled hkw Hs.out hk3 hM3 hbR, ?_⟩
      refine ((Hk.out.mono (T := devS b f m) fun _ h => h.elim).join (T := fun k => k = f ∨ k = R) hkw ?_).join (T := fun k => k = m) hk3 fun i hi => .inl (.inr (.inr hi))
      rintro i (rfl | rfl)
      · exact .inl (.inr (.inl rfl))
      · exact .inr (Nat.le_of_eq HR.out)
    · obtain ⟨j, rfl, hj, hwj, rfl⟩ := waits_some h.ok (by rw [← HL2.out]; exact mget_mem L k v hnd hmemL)
      have z2 := h.ok.z2 j
      have hj0 : (0 : Int) ≤ (j : Int) := by omega
      have hj1 : (j : Int) < (d.n : Int) := by omega
      have hfr : f ≠ w2.heap.size := by
        have h1 := H1.out.lt; have h2 := hkw.size; have h3 := hk2.size; omega
      have hal := sec_lit
      have q1 := SecAt.new w2 93 secZ rfl
      have q2 := setSec_new w2 93 secZ (d.s j) rfl z2
      have q3 := SecAt.new w2 93 (d.s j) z2
      have Q2 := Aside.mk q2
      have hka : Keep (fun _ => False) w2 (w2.alloc (secObj 93 (d.s j))) := (Keep.refl _ _).alloc _
      have e0' := hka.cell (hk2.cell e0 hbR) id
      have hs2 := (hsr.keep hk2 hfR).keep hka id
      have hR3 := hR2.keep hka id id
      have hs3 := hs2.step h.ok j hj
      have hth := (hs2 j hj).there
      have hra := q3.at'
      have hi : (Tryz.prog.info? 93).map (·.size) = some (secCells (d.s j)).length := by rw [sec_info, secCells_length, z2]
      have hi2 : (secCells (d.s j)).length = 64 := by rw [secCells_length, z2]
      have h1 := secCells_one (d.s j)
      have Hs2 := Aside.mk hs2
      have Hs3 := Aside.mk hs3
      clear q2 hs2 hs3 hsr hwj hz2
      go_wp2_with (with_reducible refine wpList_store_sec rfl (.tmp 3) (.tmp 13) rfl q1 z2 Q2.out rfl rfl ?_)
      have hkw4 : Keep (fun k => k = f ∨ k = R) w1 (w2.alloc (secObj 93 (d.s j))) := (hkw.trans (hk2.mono fun _ q => .inr q)).trans (hka.mono fun _ q => q.elim)
      clear q1 q3 hent hrun hal hR2 hka e0 e1 hkw hk2
      generalize w2.alloc (secObj 93 (d.s j)) = w4 at *
      generalize w2.heap.size = N at *
      have hkf : Keep (fun k => k = f) w4 (w4.drew.setSec f (j * 64) (d.s j)) := ((Keep.refl _ w4).drew).setSec (.inl rfl)
      have e9 : (w4.drew.setCells f (j * 64) (secCells (d.s j))).cell? ⟨b, 0, none⟩ = some (.slice (some ⟨f, 0, none⟩) d.n c) := hkf.cell e0' h.bf
      go_region_held3 (fun w' => w'.cell? ⟨b, 0, none⟩ = some (.slice (some ⟨f, 0, none⟩) d.n c) ∧ w'.rangeAt N 0 (secCells (d.s j)) ∧ w'.there f (j * 64) 64) (first | go_keep_ranges | (go_split_ands <;> first | exact e9 | go_keep_ranges)) (fail)
      go_wp2_with fail
      go_roundg (left.filter fun p => decide (p.1 ≠ (j : Int))).length
      case rel =>
        refine ⟨left.filter fun p => decide (p.1 ≠ (j : Int)), rfl, fun p hp => hsub p (List.mem_filter.1 hp).1, ?_, ?_, ?_⟩
        · exact hR3.keep (S := fun k => k = f) (((Keep.refl _ w4).drew).setSec (s := d.s j) (.inl rfl)) (fun q => hfR q.symm) (fun q => h.fm q.symm)
        · show Settling (w4.drew.setSec f (j * 64) (d.s j)) f d _
          have := Hs3.out
          unfold World.setSec at this ⊢
          rw [setCells_drew]
          exact fun i hi => (this i hi).drew
        · exact hkw4.drew.setSec (s := d.s j) (.inl (.inl rfl))
      case measure => rw [hg]; exact hlt2
end Go.Proofs.YtpfkpaombiikcaaGreatDoor
