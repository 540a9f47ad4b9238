import Derived.Test.YtpfkpaombiikcaaGreatDoorSec
import Derived.Test.YtpfkpaombiikcaaGreatDoorMap
/- A device of sectors, as a plain word; what holds it in memory. -/
set_option maxRecDepth 16000
namespace Go.Pin
open Go.RowKit
set_option linter.unusedVariables false
set_option linter.unusedSimpArgs false
/-- What was flushed, what is read, which wait, after how many it crashes, whether it has. -/
structure Dv where
  old : List ByteArray
  now : List ByteArray
  wait : List Bool
  armed : Int
  dead : Bool
def Dv.n (d : Dv) : Nat := d.old.length
def Dv.o (d : Dv) (i : Nat) : ByteArray := d.old.getD i secZ
def Dv.s (d : Dv) (i : Nat) : ByteArray := d.now.getD i secZ
def Dv.w (d : Dv) (i : Nat) : Bool := d.wait.getD i false
structure Dv.ok (d : Dv) : Prop where
  n1 : 1 ≤ d.n
  n2 : d.n ≤ 4096
  l1 : d.now.length = d.n
  l2 : d.wait.length = d.n
  z1 : ∀ i, (d.o i).size = 64
  z2 : ∀ i, (d.s i).size = 64
  same : ∀ i, d.w i = false → d.s i = d.o i
  a0 : -1 ≤ d.armed
  a1 : d.armed ≤ 9223372036854775807
def Dv.waits (d : Dv) (k : Int) : Option Value := if 0 ≤ k ∧ d.w k.toNat = true then some (secVal (d.s k.toNat)) else none
def pad (s : ByteArray) : ByteArray := s ++ zeros (64 - s.size)
theorem pad_size (s : ByteArray) (h : s.size ≤ 64) : (pad s).size = 64 := by unfold pad; rw [ByteArray.size_append, zeros_size]; omega
def dnew (n : Nat) : Dv := ⟨List.replicate n secZ, List.replicate n secZ, List.replicate n false, -1, false⟩
def dref (d : Dv) (k : Int) : Int := if d.dead = true then 7 else if k < 0 ∨ (d.n : Int) ≤ k then 5 else 0
def dstep (d : Dv) : Dv := { d with armed := if 0 < d.armed then d.armed - 1 else d.armed }
def dtry (d : Dv) (f : Dv → Dv) : Int × Dv := if d.armed = 0 then (7, { d with dead := true }) else (0, f (dstep d))
def dset (k : Nat) (s : ByteArray) (d : Dv) : Dv := { d with now := d.now.set k (pad s), wait := d.wait.set k true }
def dwrite (d : Dv) (k : Int) (s : ByteArray) : Int × Dv := if dref d k ≠ 0 then (dref d k, d) else if 64 < s.size then (3, d) else dtry d (dset k.toNat s)
def dread (d : Dv) (k : Int) : ByteArray × Int := if dref d k ≠ 0 then (⟨#[]⟩, dref d k) else (d.s k.toNat, 0)
def dsettle (d : Dv) : Dv := { d with old := d.now, wait := List.replicate d.n false }
def dflush (d : Dv) : Int × Dv := if d.dead = true then (7, d) else dtry d dsettle
def darm (d : Dv) (k : Int) : Dv := { d with armed := if k < -1 then -1 else k }
def dwaiting (d : Dv) : List Nat := (List.range d.n).filter d.w
def dafter (d : Dv) (lost : List Int) : Dv :=
  let l := (List.range d.n).map fun i => if d.w i = true ∧ (i : Int) ∈ lost then d.o i else d.s i
  ⟨l, l, List.replicate d.n false, -1, false⟩

theorem getD_rep {α : Type} (n i : Nat) (a : α) : (List.replicate n a).getD i a = a := by
  simp only [List.getD, List.getElem?_replicate]; split <;> rfl
theorem getD_set {α : Type} (l : List α) (k i : Nat) (a x : α) (hk : k < l.length) : (l.set k x).getD i a = if i = k then x else l.getD i a := by
  simp only [List.getD, List.getElem?_set]
  by_cases h : k = i
  · subst h; simp [hk]
  · rw [if_neg h, if_neg (Ne.symm h)]
theorem dnew_ok (n : Nat) (h1 : 1 ≤ n) (h2 : n ≤ 4096) : (dnew n).ok := by
  have hn : (dnew n).n = n := by simp [dnew, Dv.n]
  have ho : ∀ i, (dnew n).o i = secZ := fun i => getD_rep _ _ _
  have hs : ∀ i, (dnew n).s i = secZ := fun i => getD_rep _ _ _
  exact ⟨by rw [hn]; exact h1, by rw [hn]; exact h2, by rw [hn]; simp [dnew], by rw [hn]; simp [dnew], fun i => by rw [ho]; rfl, fun i => by rw [hs]; rfl, fun i _ => by rw [ho, hs], by simp [dnew], by simp [dnew]⟩
theorem dead_ok {d : Dv} (h : d.ok) (b : Bool) : ({ d with dead := b } : Dv).ok := ⟨h.n1, h.n2, h.l1, h.l2, h.z1, h.z2, h.same, h.a0, h.a1⟩
theorem dstep_ok {d : Dv} (h : d.ok) : (dstep d).ok := by
  refine ⟨h.n1, h.n2, h.l1, h.l2, h.z1, h.z2, h.same, ?_, ?_⟩
  · have := h.a0; show -1 ≤ (if 0 < d.armed then d.armed - 1 else d.armed); split <;> omega
  · have := h.a1; show (if 0 < d.armed then d.armed - 1 else d.armed) ≤ _; split <;> omega
theorem darm_ok {d : Dv} (h : d.ok) (k : Int) (hk : k ≤ 9223372036854775807) : (darm d k).ok := by
  refine ⟨h.n1, h.n2, h.l1, h.l2, h.z1, h.z2, h.same, ?_, ?_⟩
  · show -1 ≤ (if k < -1 then -1 else k); split <;> omega
  · show (if k < -1 then -1 else k) ≤ _; split <;> omega
theorem dset_w {d : Dv} (h : d.ok) {k : Nat} (hk : k < d.n) (s : ByteArray) (i : Nat) : (dset k s d).w i = if i = k then true else d.w i :=
  getD_set _ _ _ _ _ (by rw [h.l2]; exact hk)
theorem dset_s {d : Dv} (h : d.ok) {k : Nat} (hk : k < d.n) (s : ByteArray) (i : Nat) : (dset k s d).s i = if i = k then pad s else d.s i :=
  getD_set _ _ _ _ _ (by rw [h.l1]; exact hk)
theorem dset_ok {d : Dv} (h : d.ok) {k : Nat} (hk : k < d.n) {s : ByteArray} (hs : s.size ≤ 64) : (dset k s d).ok := by
  refine ⟨h.n1, h.n2, by show (d.now.set _ _).length = d.n; rw [List.length_set]; exact h.l1, by show (d.wait.set _ _).length = d.n; rw [List.length_set]; exact h.l2, h.z1, fun i => ?_, fun i hi => ?_, h.a0, h.a1⟩
  · rw [dset_s h hk]; split
    · exact pad_size s hs
    · exact h.z2 i
  · rw [dset_w h hk] at hi
    rw [dset_s h hk]
    split at hi
    · cases hi
    · rename_i hne; rw [if_neg hne]; exact h.same i hi
theorem dsettle_n {d : Dv} (h : d.ok) : (dsettle d).n = d.n := h.l1
theorem dsettle_ok {d : Dv} (h : d.ok) : (dsettle d).ok := by
  have hn := dsettle_n h
  exact ⟨by rw [hn]; exact h.n1, by rw [hn]; exact h.n2, by rw [hn]; exact h.l1, by rw [hn]; simp [dsettle], h.z2, h.z2, fun _ _ => rfl, h.a0, h.a1⟩
theorem dset_waits {d : Dv} (h : d.ok) {k : Nat} (hk : k < d.n) (s : ByteArray) (j : Int) : (dset k s d).waits j = if j = (k : Int) then some (secVal (pad s)) else d.waits j := by
  unfold Dv.waits
  rw [dset_w h hk, dset_s h hk]
  by_cases hj : j = (k : Int)
  · subst hj; simp
  · rw [if_neg hj]
    by_cases h0 : 0 ≤ j
    · have : j.toNat ≠ k := by omega
      rw [if_neg this, if_neg this]
    · rw [if_neg (fun q => h0 q.1), if_neg (fun q => h0 q.1)]

/-- Blocks b, f, m hold the device d. -/
structure DevAt (w : World) (b f m : Nat) (d : Dv) : Prop where
  ok : d.ok
  c0 : ∃ c : Nat, d.n ≤ c ∧ c ≤ 9223372036854775807 ∧ w.cell? ⟨b, 0, none⟩ = some (.slice (some ⟨f, 0, none⟩) d.n c)
  c1 : w.cell? ⟨b, 1, none⟩ = some (.map (some m))
  c2 : w.cell? ⟨b, 2, none⟩ = some (.int .i64 d.armed)
  c3 : w.cell? ⟨b, 3, none⟩ = some (.bool d.dead)
  fr : ∀ i, i < 4 → w.frozen? ⟨b, i, none⟩ = false
  mp : ∃ L, MapAt w m .i64 L ∧ ∀ k : Int, mget L k = d.waits k
  secs : ∀ i, i < d.n → SecAt w f (i * 64) (d.o i)
  bf : b ≠ f
  bm : b ≠ m
  fm : f ≠ m
/-- A device's own blocks. -/
def devS (b f m : Nat) : Nat → Prop := fun k => k = b ∨ k = f ∨ k = m
theorem DevAt.keep {S : Nat → Prop} {a w : World} {b f m : Nat} {d : Dv} (h : DevAt a b f m d) (hk : Keep S a w) (hn : ¬ S b ∧ ¬ S f ∧ ¬ S m) : DevAt w b f m d := by
  obtain ⟨c, hc1, hc2, hc3⟩ := h.c0
  obtain ⟨L, hL1, hL2⟩ := h.mp
  have hb : b < a.heap.size := World.block_lt_of_cell? (a := ⟨b, 1, none⟩) _ h.c1
  exact ⟨h.ok, ⟨c, hc1, hc2, hk.cell hc3 hn.1⟩, hk.cell h.c1 hn.1, hk.cell h.c2 hn.1, hk.cell h.c3 hn.1, fun i hi => by rw [hk.frozen (p := ⟨b, i, none⟩) hb hn.1]; exact h.fr i hi, ⟨L, hL1.keep hk hn.2.2, hL2⟩, fun i hi => (h.secs i hi).keep hk hn.2.1, h.bf, h.bm, h.fm⟩
theorem DevAt.below {a w : World} {b f m : Nat} {d : Dv} (h : DevAt a b f m d) (hk : Below a.heap.size a w) : DevAt w b f m d :=
  h.keep (Keep.of_below (S := fun _ => False) hk fun _ hk _ => hk) ⟨id, id, id⟩
theorem DevAt.lt {a : World} {b f m : Nat} {d : Dv} (h : DevAt a b f m d) : b < a.heap.size ∧ f < a.heap.size ∧ m < a.heap.size := by
  obtain ⟨L, hL1, hL2⟩ := h.mp
  exact ⟨World.block_lt_of_cell? (a := ⟨b, 1, none⟩) _ h.c1, (h.secs 0 h.ok.n1).lt, hL1.lt⟩
theorem DevAt.drewN {a : World} {b f m : Nat} {d : Dv} (h : DevAt a b f m d) (n : Nat) : DevAt (a.drewN n) b f m d := by
  obtain ⟨ok, c0, c1, c2, c3, fr, mp, secs, e1, e2, e3⟩ := h
  exact ⟨ok, c0, c1, c2, c3, fr, mp, fun i hi => (secs i hi).drewN n, e1, e2, e3⟩
theorem DevAt.drew {a : World} {b f m : Nat} {d : Dv} (h : DevAt a b f m d) : DevAt a.drew b f m d := h.drewN 1
/-- A field of its own is set. -/
theorem DevAt.setArmed {a : World} {b f m : Nat} {d : Dv} (h : DevAt a b f m d) (k : Int) (h0 : -1 ≤ k) (h1 : k ≤ 9223372036854775807) : DevAt (a.setCell ⟨b, 2, none⟩ (.int .i64 k)) b f m { d with armed := k } := by
  obtain ⟨c, hc1, hc2, hc3⟩ := h.c0
  obtain ⟨L, hL1, hL2⟩ := h.mp
  have hk : Keep (fun k => k = b) a (a.setCell ⟨b, 2, none⟩ (.int .i64 k)) := (Keep.refl (fun k => k = b) a).setCell (p := ⟨b, 2, none⟩) (.inl rfl) _
  refine ⟨⟨h.ok.n1, h.ok.n2, h.ok.l1, h.ok.l2, h.ok.z1, h.ok.z2, h.ok.same, h0, h1⟩, ⟨c, hc1, hc2, ?_⟩, ?_, World.cell?_setCell_same _ _ _ h.c2, ?_, fun i hi => by rw [World.frozen?_setCell]; exact h.fr i hi, ⟨L, hL1.keep hk (fun q => h.bm q.symm), hL2⟩, fun i hi => (h.secs i hi).keep hk (fun q => h.bf q.symm), h.bf, h.bm, h.fm⟩
  · rw [World.cell?_setCell_other _ _ _ _ (by simp)]; exact hc3
  · rw [World.cell?_setCell_other _ _ _ _ (by simp)]; exact h.c1
  · rw [World.cell?_setCell_other _ _ _ _ (by simp)]; exact h.c3
theorem DevAt.setDead {a : World} {b f m : Nat} {d : Dv} (h : DevAt a b f m d) (x : Bool) : DevAt (a.setCell ⟨b, 3, none⟩ (.bool x)) b f m { d with dead := x } := by
  obtain ⟨c, hc1, hc2, hc3⟩ := h.c0
  obtain ⟨L, hL1, hL2⟩ := h.mp
  have hk : Keep (fun k => k = b) a (a.setCell ⟨b, 3, none⟩ (.bool x)) := (Keep.refl (fun k => k = b) a).setCell (p := ⟨b, 3, none⟩) (.inl rfl) _
  refine ⟨dead_ok h.ok x, ⟨c, hc1, hc2, ?_⟩, ?_, ?_, World.cell?_setCell_same _ _ _ h.c3, fun i hi => by rw [World.frozen?_setCell]; exact h.fr i hi, ⟨L, hL1.keep hk (fun q => h.bm q.symm), hL2⟩, fun i hi => (h.secs i hi).keep hk (fun q => h.bf q.symm), h.bf, h.bm, h.fm⟩
  · rw [World.cell?_setCell_other _ _ _ _ (by simp)]; exact hc3
  · rw [World.cell?_setCell_other _ _ _ _ (by simp)]; exact h.c1
  · rw [World.cell?_setCell_other _ _ _ _ (by simp)]; exact h.c2
/-- The map is set: what waits is another one. -/
theorem DevAt.setMap {a w : World} {b f m : Nat} {d d' : Dv} (h : DevAt a b f m d) (hk : Keep (fun k => k = m) a w) (hok : d'.ok) (ho : d'.old = d.old) (ha : d'.armed = d.armed) (hd : d'.dead = d.dead) {L : List Ent} (hL : MapAt w m .i64 L) (hw : ∀ k : Int, mget L k = d'.waits k) : DevAt w b f m d' := by
  obtain ⟨c, hc1, hc2, hc3⟩ := h.c0
  have hb : b < a.heap.size := h.lt.1
  have hn : d'.n = d.n := by unfold Dv.n; rw [ho]
  have hoo : ∀ i, d'.o i = d.o i := fun i => by unfold Dv.o; rw [ho]
  exact ⟨hok, ⟨c, by rw [hn]; exact hc1, hc2, by rw [hn]; exact hk.cell hc3 h.bm⟩, hk.cell h.c1 h.bm, by rw [ha]; exact hk.cell h.c2 h.bm, by rw [hd]; exact hk.cell h.c3 h.bm,
    fun i hi => by rw [hk.frozen (p := ⟨b, i, none⟩) hb h.bm]; exact h.fr i hi, ⟨L, hL, hw⟩, fun i hi => by rw [hoo]; exact (h.secs i (by rw [← hn]; exact hi)).keep hk h.fm, h.bf, h.bm, h.fm⟩
theorem mget_mset (L : List Ent) (k j : Int) (v : Value) : mget (mset L k v) j = if j = k then some v else mget L j := by
  unfold mget mset
  by_cases hk : k ∈ L.map (·.1)
  · rw [if_pos hk]
    induction L with
    | nil => simp at hk
    | cons p L ih =>
      simp only [List.map_cons, List.find?_cons]
      by_cases hp : p.1 = k
      · rw [if_pos hp]
        by_cases hj : j = k
        · subst hj; simp
        · have h1 : decide (k = j) = false := by simpa using fun q => hj q.symm
          have h2 : decide (p.1 = j) = false := by rw [hp]; exact h1
          simp only [h1, h2, if_neg hj]
          by_cases hkl : k ∈ L.map (·.1)
          · have := ih hkl
            rw [if_neg hj] at this
            exact this
          · have : (L.map fun p => if p.1 = k then (k, v) else p) = L := by
              conv => rhs; rw [← List.map_id L]
              apply List.map_congr_left
              intro q hq
              rw [if_neg (fun e => hkl (List.mem_map.2 ⟨q, hq, e⟩))]; rfl
            rw [this]
      · rw [if_neg hp]
        have hkl : k ∈ L.map (·.1) := by
          rcases List.mem_cons.1 hk with h | h
          · exact absurd h.symm hp
          · exact h
        by_cases hpj : p.1 = j
        · have hj : j ≠ k := fun q => hp (hpj.trans q)
          have h2 : decide (p.1 = j) = true := by simpa using hpj
          simp only [h2, if_neg hj]
        · have h2 : decide (p.1 = j) = false := by simpa using hpj
          simp only [h2]
          exact ih hkl
  · rw [if_neg hk, List.find?_append]
    by_cases hj : j = k
    · subst hj
      have : L.find? (fun p => decide (p.1 = j)) = none := by
        rw [List.find?_eq_none]
        intro q hq
        simpa using fun e => hk (List.mem_map.2 ⟨q, hq, e⟩)
      rw [this]; simp
    · rw [if_neg hj]
      have : [(k, v)].find? (fun p => decide (p.1 = j)) = none := by simp [Ne.symm hj]
      rw [this]; simp
end Go.Pin
