/- pintleref04: has, Right. -/
import Derived.Test.YthlmigbimeldbaaMkM
set_option maxRecDepth 16000
namespace Go.Pin
open Go.RowKit
set_option linter.unusedVariables false
set_option linter.unusedSimpArgs false
theorem enHas_get {s : ByteArray} {c : UInt8} (i : Nat) (h : i < s.size) (hc : s[i] = c) : enHas s c = true := by
  unfold enHas
  rw [List.contains_iff_mem, ← hc]
  exact Array.mem_toList_iff.2 (Array.getElem_mem h)
theorem enHas_no {s : ByteArray} {c : UInt8} (h : ∀ (i : Nat) (q : i < s.size), s[i] ≠ c) : enHas s c = false := by
  unfold enHas
  rw [Bool.eq_false_iff, ne_eq, List.contains_iff_mem]
  intro hm
  obtain ⟨i, hi, e⟩ := Array.mem_iff_getElem.1 (Array.mem_toList_iff.1 hm)
  exact h i hi e
theorem enF_size (k : Int) : (enF k).1.size ≤ 4 := by
  unfold enF
  repeat' split
  all_goals decide
/-- What is asked of an entry, test by test. -/
def rrT2 (e : En) : Bool := !(enF e.kind).2 || decide (e.term < 1) || decide (e.index < 1) || decide (64 < e.data.size) || decide (64 < e.old.size) || decide (4294967296 ≤ e.block) || decide (4294967296 ≤ e.many)
def rrT4 (hc : Bool) (client seq : Int) : Bool := (hc != decide (0 < client)) || (!hc && decide (0 < seq))
def rrT6 (hb hm hd ho : Bool) (block many : Int) (data old : ByteArray) : Bool := (!hb && decide (0 < block)) || (!hm && decide (0 < many)) || (!hd && decide (data ≠ ⟨#[]⟩)) || (!ho && decide (old ≠ ⟨#[]⟩))
def rrT8 (hn : Bool) (node : Int) : Bool := (hn && (decide (node < 1) || decide (7 < node))) || (!hn && decide (node ≠ 0))
def rrT10 (hl : Bool) (level : Int) : Bool := (hl && (decide (level = 1) || decide (level = 2))) || (!hl && decide (level = 0))
set_option maxHeartbeats 3200000 in
theorem rr_right (e : En) (h1 : 0 ≤ e.client) (h2 : 0 ≤ e.seq) (h3 : 0 ≤ e.block) (h4 : 0 ≤ e.many) :
    e.right = (!rrT2 e && !rrT4 (enHas (enF e.kind).1 99) e.client e.seq && !rrT6 (enHas (enF e.kind).1 98) (enHas (enF e.kind).1 109) (enHas (enF e.kind).1 100) (enHas (enF e.kind).1 111) e.block e.many e.data e.old &&
      !rrT8 (enHas (enF e.kind).1 110) e.node && rrT10 (enHas (enF e.kind).1 108) e.level) := by
  unfold En.right enFit rrT2 rrT4 rrT6 rrT8 rrT10
  generalize (enF e.kind).2 = ok
  generalize enHas (enF e.kind).1 99 = hc
  generalize enHas (enF e.kind).1 98 = hb
  generalize enHas (enF e.kind).1 109 = hm
  generalize enHas (enF e.kind).1 100 = hd
  generalize enHas (enF e.kind).1 111 = ho
  generalize enHas (enF e.kind).1 110 = hn
  generalize enHas (enF e.kind).1 108 = hl
  have z1 : e.data = ⟨#[]⟩ → e.data.size = 0 := fun q => by rw [q]; rfl
  have z2 : e.old = ⟨#[]⟩ → e.old.size = 0 := fun q => by rw [q]; rfl
  have z0 : (⟨#[]⟩ : ByteArray).size = 0 := rfl
  by_cases d1 : e.data = ⟨#[]⟩ <;> by_cases d2 : e.old = ⟨#[]⟩
  all_goals
    rw [Bool.eq_iff_iff]
    cases ok <;> simp only [Bool.false_and, Bool.not_false, Bool.true_or, Bool.not_true, Bool.false_eq_true, false_and, Bool.false_or, Bool.true_and]
    cases hc <;> cases hb <;> cases hm <;> cases hd <;> cases ho <;> cases hn <;> cases hl <;>
      simp [d1, d2, z1, z2, z0] <;> omega
end Go.Pin
namespace Go.Proofs.Ythlmigbimeldbaa
open Go.RowKit Go.Pin
set_option linter.unusedVariables false
set_option linter.unusedSimpArgs false
set_option maxHeartbeats 1600000 in
theorem rr4_has (s : ByteArray) (c : UInt8) (k : Int) (hk : (c.toNat : Int) = k) (hs : s.size ≤ 1000) (w : World) :
    Calls Try.prog 88 #[.string s, .int .u8 k] w fun x w' => x = .returned (.bool (enHas s c)) ∧ w' = w := by
  go_enter Try.func88, Try.ntmps88
  go_wp2_with fail
  go_loopw [5] (fun x wr => ∃ i : Nat, i ≤ s.size ∧ x = .int .i64 i ∧ wr = w ∧ Pin.Aside (∀ (j : Nat) (h : j < s.size), j < i → s[j] ≠ c)) (fun x _ => s.size - (intOf x).toNat)
  case atStart => exact ⟨0, by omega, rfl, rfl, Pin.Aside.mk (fun j h q => by omega)⟩
  case round =>
    obtain ⟨i, hi, rfl, rfl, HN⟩ := hrel
    by_cases hlt : i < s.size
    · have hk1 : (i : Int) < (s.size : Int) := by omega
      have hk0 : (0 : Int) ≤ (i : Int) := by omega
      obtain ⟨b, hb, hb0⟩ : ∃ b : Int, (s[i].toNat : Int) = b ∧ b = (s[i].toNat : Int) := ⟨_, rfl, rfl⟩
      by_cases hc : s[i] = c
      · have HR := Pin.Aside.mk (enHas_get i hlt hc)
        have hbk : b = k := by rw [hb0, hc, hk]
        clear hb0 hc hk
        go_wp2_with fail
        go_ret
        exact ⟨by rw [HR.out]; rfl, rfl⟩
      · have hbk : ¬ b = k := by
          intro q
          rw [hb0, ← hk] at q
          exact hc (UInt8.toNat_inj.1 (by omega))
        have HN2 := Pin.Aside.mk (fun (j : Nat) (h : j < s.size) (q : j < i + 1) => (by
          rcases Nat.lt_or_ge j i with q2 | q2
          · exact HN.out j h q2
          · have : j = i := by omega
            subst this; exact hc : s[j] ≠ c))
        clear hb0 hc hk HN
        go_wp2_with fail
        go_roundw
        case rel => exact ⟨i + 1, by omega, by go_num, trivial, HN2⟩
        case measure => simp [intOf]; omega
    · have hi2 : i = s.size := by omega
      have HR := Pin.Aside.mk (enHas_no (s := s) (c := c) (fun j h => HN.out j h (by omega)))
      clear HN hk
      go_wp2_with fail
      go_ret
      exact ⟨by rw [HR.out]; rfl, rfl⟩
set_option maxHeartbeats 3200000 in
theorem rr4_right_no (e : En) (ho : e.ok) (hok : (enF e.kind).2 = false)  (w : World) :
    Calls Try.prog 63 #[.agg e.cells] w fun x w' => x = .returned (.bool e.right) ∧ Below w.heap.size w w' := by
  have hse := str_beq
  have HR := Pin.Aside.mk (rr_right e ho.client.1 ho.seq.1 ho.block.1 ho.many.1)
  have Hf := Pin.Aside.mk (fun W => mk_fields e.kind W)
  have hk := (Keep.refl (fun _ => False) w).alloc (.cells e.cells 32)
  have hb := hk.below (Nat.le_refl _) fun _ q => q.elim
  have hE := EnAt.new w 32 e
  have hz : ((w.alloc (.cells e.cells 32)).heap.size) = w.heap.size + 1 := by simp
  have o1 := ho.client.1
  have o2 := ho.seq.1
  have o3 := ho.block.1
  have o4 := ho.many.1
  clear hk ho
  rw [hok] at Hf
  unfold rrT2 at HR
  rw [hok] at HR
  clear hok
  obtain ⟨s, hs⟩ : ∃ s, (enF e.kind).1 = s := ⟨_, rfl⟩
  rw [hs] at Hf HR
  clear hs
  obtain ⟨rt, hrt⟩ : ∃ rt, e.right = rt := ⟨_, rfl⟩
  rw [hrt] at HR ⊢
  clear hrt
  obtain ⟨term, index, kind, client, seq, block, many, node, level, data, old⟩ := e
  dsimp only [En.cells] at *
  go_enter Try.func63, Try.ntmps63
  go_upto_region 1 with fail
  generalize w.alloc _ = wa at *
  generalize hB : w.heap.size = B at *
  obtain ⟨c0, c1, c2, c3, c4, c5, c6, c7, c8, c9, c10⟩ := hE
  dsimp only at c0 c1 c2 c3 c4 c5 c6 c7 c8 c9 c10
  simp only [Nat.zero_add] at c0 c1 c2 c3 c4 c5 c6 c7 c8 c9 c10
  go_wp2_with fail
  refine (Hf.out _).mono ?_
  rintro x w1 ⟨rfl, hbb⟩
  replace hb := hb.trans (hbb.mono (by omega))
  have hkk : Keep (fun _ => False) wa w1 := Keep.of_below hbb fun _ q _ => q
  replace c0 := hkk.cell c0 id
  replace c1 := hkk.cell c1 id
  replace c2 := hkk.cell c2 id
  replace c3 := hkk.cell c3 id
  replace c4 := hkk.cell c4 id
  replace c5 := hkk.cell c5 id
  replace c6 := hkk.cell c6 id
  replace c7 := hkk.cell c7 id
  replace c8 := hkk.cell c8 id
  replace c9 := hkk.cell c9 id
  replace c10 := hkk.cell c10 id
  clear hkk hbb hz Hf
  have e2 : rt = false := by rw [HR.out]; simp
  subst e2
  clear HR
  go_wp2_with fail
  go_ret
  exact ⟨rfl, by first | exact hb | (rw [hB]; exact hb) | exact below_drewN hb _ | (rw [hB]; exact below_drewN hb _)⟩
set_option maxHeartbeats 3200000 in
theorem rr4_right_e (e : En) (ho : e.ok) (hok : (enF e.kind).2 = true) (qc : enHas (enF e.kind).1 99 = false) (qb : enHas (enF e.kind).1 98 = false) (qm : enHas (enF e.kind).1 109 = false) (qd : enHas (enF e.kind).1 100 = false) (qo : enHas (enF e.kind).1 111 = false) (qn : enHas (enF e.kind).1 110 = false) (ql : enHas (enF e.kind).1 108 = false) (w : World) :
    Calls Try.prog 63 #[.agg e.cells] w fun x w' => x = .returned (.bool e.right) ∧ Below w.heap.size w w' := by
  have hse := str_beq
  have HR := Pin.Aside.mk (rr_right e ho.client.1 ho.seq.1 ho.block.1 ho.many.1)
  have Hf := Pin.Aside.mk (fun W => mk_fields e.kind W)
  have Hc := Pin.Aside.mk (fun W => rr4_has (enF e.kind).1 99 99 (by decide) (Nat.le_trans (enF_size e.kind) (by omega)) W)
  have Hb := Pin.Aside.mk (fun W => rr4_has (enF e.kind).1 98 98 (by decide) (Nat.le_trans (enF_size e.kind) (by omega)) W)
  have Hm := Pin.Aside.mk (fun W => rr4_has (enF e.kind).1 109 109 (by decide) (Nat.le_trans (enF_size e.kind) (by omega)) W)
  have Hd := Pin.Aside.mk (fun W => rr4_has (enF e.kind).1 100 100 (by decide) (Nat.le_trans (enF_size e.kind) (by omega)) W)
  have Ho := Pin.Aside.mk (fun W => rr4_has (enF e.kind).1 111 111 (by decide) (Nat.le_trans (enF_size e.kind) (by omega)) W)
  have Hn := Pin.Aside.mk (fun W => rr4_has (enF e.kind).1 110 110 (by decide) (Nat.le_trans (enF_size e.kind) (by omega)) W)
  have Hl := Pin.Aside.mk (fun W => rr4_has (enF e.kind).1 108 108 (by decide) (Nat.le_trans (enF_size e.kind) (by omega)) W)
  have hk := (Keep.refl (fun _ => False) w).alloc (.cells e.cells 32)
  have hb := hk.below (Nat.le_refl _) fun _ q => q.elim
  have hE := EnAt.new w 32 e
  have hz : ((w.alloc (.cells e.cells 32)).heap.size) = w.heap.size + 1 := by simp
  have o1 := ho.client.1
  have o2 := ho.seq.1
  have o3 := ho.block.1
  have o4 := ho.many.1
  clear hk ho
  rw [hok] at Hf
  unfold rrT2 at HR
  rw [hok] at HR
  rw [qc, qb, qm, qd, qo, qn, ql] at HR
  rw [qc] at Hc
  rw [qb] at Hb
  rw [qm] at Hm
  rw [qd] at Hd
  rw [qo] at Ho
  rw [qn] at Hn
  rw [ql] at Hl
  clear qc qb qm qd qo qn ql
  clear hok
  obtain ⟨s, hs⟩ : ∃ s, (enF e.kind).1 = s := ⟨_, rfl⟩
  rw [hs] at Hf
  rw [hs] at Hc
  rw [hs] at Hb
  rw [hs] at Hm
  rw [hs] at Hd
  rw [hs] at Ho
  rw [hs] at Hn
  rw [hs] at Hl
  clear hs
  obtain ⟨rt, hrt⟩ : ∃ rt, e.right = rt := ⟨_, rfl⟩
  rw [hrt] at HR ⊢
  clear hrt
  obtain ⟨term, index, kind, client, seq, block, many, node, level, data, old⟩ := e
  dsimp only [En.cells] at *
  go_enter Try.func63, Try.ntmps63
  go_upto_region 1 with fail
  generalize w.alloc _ = wa at *
  generalize hB : w.heap.size = B at *
  obtain ⟨c0, c1, c2, c3, c4, c5, c6, c7, c8, c9, c10⟩ := hE
  dsimp only at c0 c1 c2 c3 c4 c5 c6 c7 c8 c9 c10
  simp only [Nat.zero_add] at c0 c1 c2 c3 c4 c5 c6 c7 c8 c9 c10
  go_wp2_with fail
  refine (Hf.out _).mono ?_
  rintro x w1 ⟨rfl, hbb⟩
  replace hb := hb.trans (hbb.mono (by omega))
  have hkk : Keep (fun _ => False) wa w1 := Keep.of_below hbb fun _ q _ => q
  replace c0 := hkk.cell c0 id
  replace c1 := hkk.cell c1 id
  replace c2 := hkk.cell c2 id
  replace c3 := hkk.cell c3 id
  replace c4 := hkk.cell c4 id
  replace c5 := hkk.cell c5 id
  replace c6 := hkk.cell c6 id
  replace c7 := hkk.cell c7 id
  replace c8 := hkk.cell c8 id
  replace c9 := hkk.cell c9 id
  replace c10 := hkk.cell c10 id
  clear hkk hbb hz Hf
  by_cases g1 : term < 1
  · have e2 : rt = false := by rw [HR.out]; simp [rrT4, rrT6, rrT8, rrT10, g1]
    subst e2
    clear HR
    go_wp2_with fail
    go_ret
    exact ⟨rfl, by first | exact hb | (rw [hB]; exact hb) | exact below_drewN hb _ | (rw [hB]; exact below_drewN hb _)⟩
  by_cases g2 : index < 1
  · have e2 : rt = false := by rw [HR.out]; simp [rrT4, rrT6, rrT8, rrT10, g2]
    subst e2
    clear HR
    go_wp2_with fail
    go_ret
    exact ⟨rfl, by first | exact hb | (rw [hB]; exact hb) | exact below_drewN hb _ | (rw [hB]; exact below_drewN hb _)⟩
  by_cases g3 : (64 : Int) < (data.size : Int)
  · have g3' : 64 < data.size := by omega
    have e2 : rt = false := by rw [HR.out]; simp [rrT4, rrT6, rrT8, rrT10, g3']
    subst e2
    clear HR
    go_wp2_with fail
    go_ret
    exact ⟨rfl, by first | exact hb | (rw [hB]; exact hb) | exact below_drewN hb _ | (rw [hB]; exact below_drewN hb _)⟩
  have g3' : ¬ 64 < data.size := by omega
  by_cases g4 : (64 : Int) < (old.size : Int)
  · have g4' : 64 < old.size := by omega
    have e2 : rt = false := by rw [HR.out]; simp [rrT4, rrT6, rrT8, rrT10, g4']
    subst e2
    clear HR
    go_wp2_with fail
    go_ret
    exact ⟨rfl, by first | exact hb | (rw [hB]; exact hb) | exact below_drewN hb _ | (rw [hB]; exact below_drewN hb _)⟩
  have g4' : ¬ 64 < old.size := by omega
  by_cases g5 : 4294967296 ≤ block
  · have e2 : rt = false := by rw [HR.out]; simp [rrT4, rrT6, rrT8, rrT10, g5]
    subst e2
    clear HR
    go_wp2_with fail
    go_ret
    exact ⟨rfl, by first | exact hb | (rw [hB]; exact hb) | exact below_drewN hb _ | (rw [hB]; exact below_drewN hb _)⟩
  by_cases g6 : 4294967296 ≤ many
  · have e2 : rt = false := by rw [HR.out]; simp [rrT4, rrT6, rrT8, rrT10, g6]
    subst e2
    clear HR
    go_wp2_with fail
    go_ret
    exact ⟨rfl, by first | exact hb | (rw [hB]; exact hb) | exact below_drewN hb _ | (rw [hB]; exact below_drewN hb _)⟩
  go_upto_region 4 with fail
  by_cases q1 : 0 < client
  · have e2 : rt = false := by rw [HR.out]; simp [rrT4, rrT6, rrT8, rrT10, q1]
    subst e2
    clear HR
    go_quiet ((go_at_call 88; refine Calls.quiet_of_same (Hc.out _)))
    go_wp2_with fail
    go_ret
    exact ⟨rfl, by first | exact hb | (rw [hB]; exact hb) | exact below_drewN hb _ | (rw [hB]; exact below_drewN hb _)⟩
  by_cases q2 : 0 < seq
  · have e2 : rt = false := by rw [HR.out]; simp [rrT4, rrT6, rrT8, rrT10, q1, q2]
    subst e2
    clear HR
    go_quiet ((go_at_call 88; refine Calls.quiet_of_same (Hc.out _)))
    go_wp2_with fail
    go_ret
    exact ⟨rfl, by first | exact hb | (rw [hB]; exact hb) | exact below_drewN hb _ | (rw [hB]; exact below_drewN hb _)⟩
  go_quiet ((go_at_call 88; refine Calls.quiet_of_same (Hc.out _)))
  go_upto_region 6 with fail
  by_cases yb : 0 < block
  · have e2 : rt = false := by rw [HR.out]; simp [rrT4, rrT6, rrT8, rrT10, yb]
    subst e2
    clear HR
    go_wp2_with fail
    refine (Hb.out _).mono ?_
    rintro x w8 ⟨rfl, rfl⟩
    go_wp2_with fail
    go_ret
    exact ⟨rfl, by first | exact hb | (rw [hB]; exact hb) | exact below_drewN hb _ | (rw [hB]; exact below_drewN hb _)⟩
  have zb : block = 0 := by omega
  subst zb
  by_cases ym : 0 < many
  · have e2 : rt = false := by rw [HR.out]; simp [rrT4, rrT6, rrT8, rrT10, ym]
    subst e2
    clear HR
    go_wp2_with fail
    refine (Hb.out _).mono ?_
    rintro x w8 ⟨rfl, rfl⟩
    go_wp2_with fail
    refine (Hm.out _).mono ?_
    rintro x w8 ⟨rfl, rfl⟩
    go_wp2_with fail
    go_ret
    exact ⟨rfl, by first | exact hb | (rw [hB]; exact hb) | exact below_drewN hb _ | (rw [hB]; exact below_drewN hb _)⟩
  have zm : many = 0 := by omega
  subst zm
  by_cases yd : data = ⟨#[]⟩
  rotate_left
  · have gi : data.toList.isEmpty = false := by have := text_ne data; rw [decide_eq_true yd] at this; simpa using this.symm
    have gj : ¬ data.toList = [] := by intro q; rw [q] at gi; cases gi
    have e2 : rt = false := by rw [HR.out]; simp [rrT4, rrT6, rrT8, rrT10, yd]
    subst e2
    clear HR
    go_wp2_with fail
    refine (Hb.out _).mono ?_
    rintro x w8 ⟨rfl, rfl⟩
    go_wp2_with fail
    refine (Hm.out _).mono ?_
    rintro x w8 ⟨rfl, rfl⟩
    go_wp2_with fail
    refine (Hd.out _).mono ?_
    rintro x w8 ⟨rfl, rfl⟩
    go_wp2_with fail
    go_ret
    exact ⟨rfl, by first | exact hb | (rw [hB]; exact hb) | exact below_drewN hb _ | (rw [hB]; exact below_drewN hb _)⟩
  subst yd
  by_cases yo : old = ⟨#[]⟩
  rotate_left
  · have gi : old.toList.isEmpty = false := by have := text_ne old; rw [decide_eq_true yo] at this; simpa using this.symm
    have gj : ¬ old.toList = [] := by intro q; rw [q] at gi; cases gi
    have e2 : rt = false := by rw [HR.out]; simp [rrT4, rrT6, rrT8, rrT10, yo]
    subst e2
    clear HR
    go_wp2_with fail
    refine (Hb.out _).mono ?_
    rintro x w8 ⟨rfl, rfl⟩
    go_wp2_with fail
    refine (Hm.out _).mono ?_
    rintro x w8 ⟨rfl, rfl⟩
    go_wp2_with fail
    refine (Hd.out _).mono ?_
    rintro x w8 ⟨rfl, rfl⟩
    go_wp2_with fail
    refine (Ho.out _).mono ?_
    rintro x w8 ⟨rfl, rfl⟩
    go_wp2_with fail
    go_ret
    exact ⟨rfl, by first | exact hb | (rw [hB]; exact hb) | exact below_drewN hb _ | (rw [hB]; exact below_drewN hb _)⟩
  subst yo
  go_wp2_with fail
  refine (Hb.out _).mono ?_
  rintro x w8 ⟨rfl, rfl⟩
  go_wp2_with fail
  refine (Hm.out _).mono ?_
  rintro x w8 ⟨rfl, rfl⟩
  go_wp2_with fail
  refine (Hd.out _).mono ?_
  rintro x w8 ⟨rfl, rfl⟩
  go_wp2_with fail
  refine (Ho.out _).mono ?_
  rintro x w8 ⟨rfl, rfl⟩
  go_wp2_with fail
  by_cases k1 : node = 0
  rotate_left
  · have e2 : rt = false := by rw [HR.out]; simp [rrT4, rrT6, rrT8, rrT10, k1]
    subst e2
    clear HR
    refine (Hn.out _).mono ?_
    rintro x w8 ⟨rfl, rfl⟩
    go_wp2_with fail
    refine (Hn.out _).mono ?_
    rintro x w8 ⟨rfl, rfl⟩
    go_wp2_with fail
    go_ret
    exact ⟨rfl, by first | exact hb | (rw [hB]; exact hb) | exact below_drewN hb _ | (rw [hB]; exact below_drewN hb _)⟩
  refine (Hn.out _).mono ?_
  rintro x w8 ⟨rfl, rfl⟩
  go_wp2_with fail
  refine (Hn.out _).mono ?_
  rintro x w8 ⟨rfl, rfl⟩
  go_wp2_with fail
  by_cases j1 : level = 0
  · have e2 : rt = true := by rw [HR.out]; simp [rrT4, rrT6, rrT8, rrT10, g1, g2, g3', g4', g5, g6, q1, q2, yb, ym, k1, j1]
    subst e2
    clear HR
    refine (Hl.out _).mono ?_
    rintro x w8 ⟨rfl, rfl⟩
    go_wp2_with fail
    refine (Hl.out _).mono ?_
    rintro x w8 ⟨rfl, rfl⟩
    go_wp2_with fail
    go_ret
    exact ⟨rfl, by first | exact hb | (rw [hB]; exact hb) | exact below_drewN hb _ | (rw [hB]; exact below_drewN hb _)⟩
  have jb : (level == 0) = false := beq_false_of_ne j1
  have e2 : rt = false := by rw [HR.out]; simp [rrT4, rrT6, rrT8, rrT10, j1]
  subst e2
  clear HR
  refine (Hl.out _).mono ?_
  rintro x w8 ⟨rfl, rfl⟩
  go_wp2_with fail
  refine (Hl.out _).mono ?_
  rintro x w8 ⟨rfl, rfl⟩
  go_wp2_with fail
  go_ret
  exact ⟨rfl, by first | exact hb | (rw [hB]; exact hb) | exact below_drewN hb _ | (rw [hB]; exact below_drewN hb _)⟩
set_option maxHeartbeats 3200000 in
theorem rr4_right_cbd (e : En) (ho : e.ok) (hok : (enF e.kind).2 = true) (qc : enHas (enF e.kind).1 99 = true) (qb : enHas (enF e.kind).1 98 = true) (qm : enHas (enF e.kind).1 109 = false) (qd : enHas (enF e.kind).1 100 = true) (qo : enHas (enF e.kind).1 111 = false) (qn : enHas (enF e.kind).1 110 = false) (ql : enHas (enF e.kind).1 108 = false) (w : World) :
    Calls Try.prog 63 #[.agg e.cells] w fun x w' => x = .returned (.bool e.right) ∧ Below w.heap.size w w' := by
  have hse := str_beq
  have HR := Pin.Aside.mk (rr_right e ho.client.1 ho.seq.1 ho.block.1 ho.many.1)
  have Hf := Pin.Aside.mk (fun W => mk_fields e.kind W)
  have Hc := Pin.Aside.mk (fun W => rr4_has (enF e.kind).1 99 99 (by decide) (Nat.le_trans (enF_size e.kind) (by omega)) W)
  have Hb := Pin.Aside.mk (fun W => rr4_has (enF e.kind).1 98 98 (by decide) (Nat.le_trans (enF_size e.kind) (by omega)) W)
  have Hm := Pin.Aside.mk (fun W => rr4_has (enF e.kind).1 109 109 (by decide) (Nat.le_trans (enF_size e.kind) (by omega)) W)
  have Hd := Pin.Aside.mk (fun W => rr4_has (enF e.kind).1 100 100 (by decide) (Nat.le_trans (enF_size e.kind) (by omega)) W)
  have Ho := Pin.Aside.mk (fun W => rr4_has (enF e.kind).1 111 111 (by decide) (Nat.le_trans (enF_size e.kind) (by omega)) W)
  have Hn := Pin.Aside.mk (fun W => rr4_has (enF e.kind).1 110 110 (by decide) (Nat.le_trans (enF_size e.kind) (by omega)) W)
  have Hl := Pin.Aside.mk (fun W => rr4_has (enF e.kind).1 108 108 (by decide) (Nat.le_trans (enF_size e.kind) (by omega)) W)
  have hk := (Keep.refl (fun _ => False) w).alloc (.cells e.cells 32)
  have hb := hk.below (Nat.le_refl _) fun _ q => q.elim
  have hE := EnAt.new w 32 e
  have hz : ((w.alloc (.cells e.cells 32)).heap.size) = w.heap.size + 1 := by simp
  have o1 := ho.client.1
  have o2 := ho.seq.1
  have o3 := ho.block.1
  have o4 := ho.many.1
  clear hk ho
  rw [hok] at Hf
  unfold rrT2 at HR
  rw [hok] at HR
  rw [qc, qb, qm, qd, qo, qn, ql] at HR
  rw [qc] at Hc
  rw [qb] at Hb
  rw [qm] at Hm
  rw [qd] at Hd
  rw [qo] at Ho
  rw [qn] at Hn
  rw [ql] at Hl
  clear qc qb qm qd qo qn ql
  clear hok
  obtain ⟨s, hs⟩ : ∃ s, (enF e.kind).1 = s := ⟨_, rfl⟩
  rw [hs] at Hf
  rw [hs] at Hc
  rw [hs] at Hb
  rw [hs] at Hm
  rw [hs] at Hd
  rw [hs] at Ho
  rw [hs] at Hn
  rw [hs] at Hl
  clear hs
  obtain ⟨rt, hrt⟩ : ∃ rt, e.right = rt := ⟨_, rfl⟩
  rw [hrt] at HR ⊢
  clear hrt
  obtain ⟨term, index, kind, client, seq, block, many, node, level, data, old⟩ := e
  dsimp only [En.cells] at *
  go_enter Try.func63, Try.ntmps63
  go_upto_region 1 with fail
  generalize w.alloc _ = wa at *
  generalize hB : w.heap.size = B at *
  obtain ⟨c0, c1, c2, c3, c4, c5, c6, c7, c8, c9, c10⟩ := hE
  dsimp only at c0 c1 c2 c3 c4 c5 c6 c7 c8 c9 c10
  simp only [Nat.zero_add] at c0 c1 c2 c3 c4 c5 c6 c7 c8 c9 c10
  go_wp2_with fail
  refine (Hf.out _).mono ?_
  rintro x w1 ⟨rfl, hbb⟩
  replace hb := hb.trans (hbb.mono (by omega))
  have hkk : Keep (fun _ => False) wa w1 := Keep.of_below hbb fun _ q _ => q
  replace c0 := hkk.cell c0 id
  replace c1 := hkk.cell c1 id
  replace c2 := hkk.cell c2 id
  replace c3 := hkk.cell c3 id
  replace c4 := hkk.cell c4 id
  replace c5 := hkk.cell c5 id
  replace c6 := hkk.cell c6 id
  replace c7 := hkk.cell c7 id
  replace c8 := hkk.cell c8 id
  replace c9 := hkk.cell c9 id
  replace c10 := hkk.cell c10 id
  clear hkk hbb hz Hf
  by_cases g1 : term < 1
  · have e2 : rt = false := by rw [HR.out]; simp [rrT4, rrT6, rrT8, rrT10, g1]
    subst e2
    clear HR
    go_wp2_with fail
    go_ret
    exact ⟨rfl, by first | exact hb | (rw [hB]; exact hb) | exact below_drewN hb _ | (rw [hB]; exact below_drewN hb _)⟩
  by_cases g2 : index < 1
  · have e2 : rt = false := by rw [HR.out]; simp [rrT4, rrT6, rrT8, rrT10, g2]
    subst e2
    clear HR
    go_wp2_with fail
    go_ret
    exact ⟨rfl, by first | exact hb | (rw [hB]; exact hb) | exact below_drewN hb _ | (rw [hB]; exact below_drewN hb _)⟩
  by_cases g3 : (64 : Int) < (data.size : Int)
  · have g3' : 64 < data.size := by omega
    have e2 : rt = false := by rw [HR.out]; simp [rrT4, rrT6, rrT8, rrT10, g3']
    subst e2
    clear HR
    go_wp2_with fail
    go_ret
    exact ⟨rfl, by first | exact hb | (rw [hB]; exact hb) | exact below_drewN hb _ | (rw [hB]; exact below_drewN hb _)⟩
  have g3' : ¬ 64 < data.size := by omega
  by_cases g4 : (64 : Int) < (old.size : Int)
  · have g4' : 64 < old.size := by omega
    have e2 : rt = false := by rw [HR.out]; simp [rrT4, rrT6, rrT8, rrT10, g4']
    subst e2
    clear HR
    go_wp2_with fail
    go_ret
    exact ⟨rfl, by first | exact hb | (rw [hB]; exact hb) | exact below_drewN hb _ | (rw [hB]; exact below_drewN hb _)⟩
  have g4' : ¬ 64 < old.size := by omega
  by_cases g5 : 4294967296 ≤ block
  · have e2 : rt = false := by rw [HR.out]; simp [rrT4, rrT6, rrT8, rrT10, g5]
    subst e2
    clear HR
    go_wp2_with fail
    go_ret
    exact ⟨rfl, by first | exact hb | (rw [hB]; exact hb) | exact below_drewN hb _ | (rw [hB]; exact below_drewN hb _)⟩
  by_cases g6 : 4294967296 ≤ many
  · have e2 : rt = false := by rw [HR.out]; simp [rrT4, rrT6, rrT8, rrT10, g6]
    subst e2
    clear HR
    go_wp2_with fail
    go_ret
    exact ⟨rfl, by first | exact hb | (rw [hB]; exact hb) | exact below_drewN hb _ | (rw [hB]; exact below_drewN hb _)⟩
  go_upto_region 4 with fail
  by_cases q1 : 0 < client
  rotate_left
  · have e2 : rt = false := by rw [HR.out]; simp [rrT4, rrT6, rrT8, rrT10, q1]
    subst e2
    clear HR
    go_quiet ((go_at_call 88; refine Calls.quiet_of_same (Hc.out _)))
    go_wp2_with fail
    go_ret
    exact ⟨rfl, by first | exact hb | (rw [hB]; exact hb) | exact below_drewN hb _ | (rw [hB]; exact below_drewN hb _)⟩
  go_quiet ((go_at_call 88; refine Calls.quiet_of_same (Hc.out _)))
  go_upto_region 6 with fail
  by_cases ym : 0 < many
  · have e2 : rt = false := by rw [HR.out]; simp [rrT4, rrT6, rrT8, rrT10, ym]
    subst e2
    clear HR
    go_wp2_with fail
    refine (Hb.out _).mono ?_
    rintro x w8 ⟨rfl, rfl⟩
    go_wp2_with fail
    refine (Hm.out _).mono ?_
    rintro x w8 ⟨rfl, rfl⟩
    go_wp2_with fail
    go_ret
    exact ⟨rfl, by first | exact hb | (rw [hB]; exact hb) | exact below_drewN hb _ | (rw [hB]; exact below_drewN hb _)⟩
  have zm : many = 0 := by omega
  subst zm
  by_cases yo : old = ⟨#[]⟩
  rotate_left
  · have gi : old.toList.isEmpty = false := by have := text_ne old; rw [decide_eq_true yo] at this; simpa using this.symm
    have gj : ¬ old.toList = [] := by intro q; rw [q] at gi; cases gi
    have e2 : rt = false := by rw [HR.out]; simp [rrT4, rrT6, rrT8, rrT10, yo]
    subst e2
    clear HR
    go_wp2_with fail
    refine (Hb.out _).mono ?_
    rintro x w8 ⟨rfl, rfl⟩
    go_wp2_with fail
    refine (Hm.out _).mono ?_
    rintro x w8 ⟨rfl, rfl⟩
    go_wp2_with fail
    refine (Hd.out _).mono ?_
    rintro x w8 ⟨rfl, rfl⟩
    go_wp2_with fail
    refine (Ho.out _).mono ?_
    rintro x w8 ⟨rfl, rfl⟩
    go_wp2_with fail
    go_ret
    exact ⟨rfl, by first | exact hb | (rw [hB]; exact hb) | exact below_drewN hb _ | (rw [hB]; exact below_drewN hb _)⟩
  subst yo
  go_wp2_with fail
  refine (Hb.out _).mono ?_
  rintro x w8 ⟨rfl, rfl⟩
  go_wp2_with fail
  refine (Hm.out _).mono ?_
  rintro x w8 ⟨rfl, rfl⟩
  go_wp2_with fail
  refine (Hd.out _).mono ?_
  rintro x w8 ⟨rfl, rfl⟩
  go_wp2_with fail
  refine (Ho.out _).mono ?_
  rintro x w8 ⟨rfl, rfl⟩
  go_wp2_with fail
  by_cases k1 : node = 0
  rotate_left
  · have e2 : rt = false := by rw [HR.out]; simp [rrT4, rrT6, rrT8, rrT10, k1]
    subst e2
    clear HR
    refine (Hn.out _).mono ?_
    rintro x w8 ⟨rfl, rfl⟩
    go_wp2_with fail
    refine (Hn.out _).mono ?_
    rintro x w8 ⟨rfl, rfl⟩
    go_wp2_with fail
    go_ret
    exact ⟨rfl, by first | exact hb | (rw [hB]; exact hb) | exact below_drewN hb _ | (rw [hB]; exact below_drewN hb _)⟩
  refine (Hn.out _).mono ?_
  rintro x w8 ⟨rfl, rfl⟩
  go_wp2_with fail
  refine (Hn.out _).mono ?_
  rintro x w8 ⟨rfl, rfl⟩
  go_wp2_with fail
  by_cases j1 : level = 0
  · have e2 : rt = true := by rw [HR.out]; simp [rrT4, rrT6, rrT8, rrT10, g1, g2, g3', g4', g5, g6, q1, ym, k1, j1]
    subst e2
    clear HR
    refine (Hl.out _).mono ?_
    rintro x w8 ⟨rfl, rfl⟩
    go_wp2_with fail
    refine (Hl.out _).mono ?_
    rintro x w8 ⟨rfl, rfl⟩
    go_wp2_with fail
    go_ret
    exact ⟨rfl, by first | exact hb | (rw [hB]; exact hb) | exact below_drewN hb _ | (rw [hB]; exact below_drewN hb _)⟩
  have jb : (level == 0) = false := beq_false_of_ne j1
  have e2 : rt = false := by rw [HR.out]; simp [rrT4, rrT6, rrT8, rrT10, j1]
  subst e2
  clear HR
  refine (Hl.out _).mono ?_
  rintro x w8 ⟨rfl, rfl⟩
  go_wp2_with fail
  refine (Hl.out _).mono ?_
  rintro x w8 ⟨rfl, rfl⟩
  go_wp2_with fail
  go_ret
  exact ⟨rfl, by first | exact hb | (rw [hB]; exact hb) | exact below_drewN hb _ | (rw [hB]; exact below_drewN hb _)⟩
set_option maxHeartbeats 3200000 in
theorem rr4_right_cbm (e : En) (ho : e.ok) (hok : (enF e.kind).2 = true) (qc : enHas (enF e.kind).1 99 = true) (qb : enHas (enF e.kind).1 98 = true) (qm : enHas (enF e.kind).1 109 = true) (qd : enHas (enF e.kind).1 100 = false) (qo : enHas (enF e.kind).1 111 = false) (qn : enHas (enF e.kind).1 110 = false) (ql : enHas (enF e.kind).1 108 = false) (w : World) :
    Calls Try.prog 63 #[.agg e.cells] w fun x w' => x = .returned (.bool e.right) ∧ Below w.heap.size w w' := by
  have hse := str_beq
  have HR := Pin.Aside.mk (rr_right e ho.client.1 ho.seq.1 ho.block.1 ho.many.1)
  have Hf := Pin.Aside.mk (fun W => mk_fields e.kind W)
  have Hc := Pin.Aside.mk (fun W => rr4_has (enF e.kind).1 99 99 (by decide) (Nat.le_trans (enF_size e.kind) (by omega)) W)
  have Hb := Pin.Aside.mk (fun W => rr4_has (enF e.kind).1 98 98 (by decide) (Nat.le_trans (enF_size e.kind) (by omega)) W)
  have Hm := Pin.Aside.mk (fun W => rr4_has (enF e.kind).1 109 109 (by decide) (Nat.le_trans (enF_size e.kind) (by omega)) W)
  have Hd := Pin.Aside.mk (fun W => rr4_has (enF e.kind).1 100 100 (by decide) (Nat.le_trans (enF_size e.kind) (by omega)) W)
  have Ho := Pin.Aside.mk (fun W => rr4_has (enF e.kind).1 111 111 (by decide) (Nat.le_trans (enF_size e.kind) (by omega)) W)
  have Hn := Pin.Aside.mk (fun W => rr4_has (enF e.kind).1 110 110 (by decide) (Nat.le_trans (enF_size e.kind) (by omega)) W)
  have Hl := Pin.Aside.mk (fun W => rr4_has (enF e.kind).1 108 108 (by decide) (Nat.le_trans (enF_size e.kind) (by omega)) W)
  have hk := (Keep.refl (fun _ => False) w).alloc (.cells e.cells 32)
  have hb := hk.below (Nat.le_refl _) fun _ q => q.elim
  have hE := EnAt.new w 32 e
  have hz : ((w.alloc (.cells e.cells 32)).heap.size) = w.heap.size + 1 := by simp
  have o1 := ho.client.1
  have o2 := ho.seq.1
  have o3 := ho.block.1
  have o4 := ho.many.1
  clear hk ho
  rw [hok] at Hf
  unfold rrT2 at HR
  rw [hok] at HR
  rw [qc, qb, qm, qd, qo, qn, ql] at HR
  rw [qc] at Hc
  rw [qb] at Hb
  rw [qm] at Hm
  rw [qd] at Hd
  rw [qo] at Ho
  rw [qn] at Hn
  rw [ql] at Hl
  clear qc qb qm qd qo qn ql
  clear hok
  obtain ⟨s, hs⟩ : ∃ s, (enF e.kind).1 = s := ⟨_, rfl⟩
  rw [hs] at Hf
  rw [hs] at Hc
  rw [hs] at Hb
  rw [hs] at Hm
  rw [hs] at Hd
  rw [hs] at Ho
  rw [hs] at Hn
  rw [hs] at Hl
  clear hs
  obtain ⟨rt, hrt⟩ : ∃ rt, e.right = rt := ⟨_, rfl⟩
  rw [hrt] at HR ⊢
  clear hrt
  obtain ⟨term, index, kind, client, seq, block, many, node, level, data, old⟩ := e
  dsimp only [En.cells] at *
  go_enter Try.func63, Try.ntmps63
  go_upto_region 1 with fail
  generalize w.alloc _ = wa at *
  generalize hB : w.heap.size = B at *
  obtain ⟨c0, c1, c2, c3, c4, c5, c6, c7, c8, c9, c10⟩ := hE
  dsimp only at c0 c1 c2 c3 c4 c5 c6 c7 c8 c9 c10
  simp only [Nat.zero_add] at c0 c1 c2 c3 c4 c5 c6 c7 c8 c9 c10
  go_wp2_with fail
  refine (Hf.out _).mono ?_
  rintro x w1 ⟨rfl, hbb⟩
  replace hb := hb.trans (hbb.mono (by omega))
  have hkk : Keep (fun _ => False) wa w1 := Keep.of_below hbb fun _ q _ => q
  replace c0 := hkk.cell c0 id
  replace c1 := hkk.cell c1 id
  replace c2 := hkk.cell c2 id
  replace c3 := hkk.cell c3 id
  replace c4 := hkk.cell c4 id
  replace c5 := hkk.cell c5 id
  replace c6 := hkk.cell c6 id
  replace c7 := hkk.cell c7 id
  replace c8 := hkk.cell c8 id
  replace c9 := hkk.cell c9 id
  replace c10 := hkk.cell c10 id
  clear hkk hbb hz Hf
  by_cases g1 : term < 1
  · have e2 : rt = false := by rw [HR.out]; simp [rrT4, rrT6, rrT8, rrT10, g1]
    subst e2
    clear HR
    go_wp2_with fail
    go_ret
    exact ⟨rfl, by first | exact hb | (rw [hB]; exact hb) | exact below_drewN hb _ | (rw [hB]; exact below_drewN hb _)⟩
  by_cases g2 : index < 1
  · have e2 : rt = false := by rw [HR.out]; simp [rrT4, rrT6, rrT8, rrT10, g2]
    subst e2
    clear HR
    go_wp2_with fail
    go_ret
    exact ⟨rfl, by first | exact hb | (rw [hB]; exact hb) | exact below_drewN hb _ | (rw [hB]; exact below_drewN hb _)⟩
  by_cases g3 : (64 : Int) < (data.size : Int)
  · have g3' : 64 < data.size := by omega
    have e2 : rt = false := by rw [HR.out]; simp [rrT4, rrT6, rrT8, rrT10, g3']
    subst e2
    clear HR
    go_wp2_with fail
    go_ret
    exact ⟨rfl, by first | exact hb | (rw [hB]; exact hb) | exact below_drewN hb _ | (rw [hB]; exact below_drewN hb _)⟩
  have g3' : ¬ 64 < data.size := by omega
  by_cases g4 : (64 : Int) < (old.size : Int)
  · have g4' : 64 < old.size := by omega
    have e2 : rt = false := by rw [HR.out]; simp [rrT4, rrT6, rrT8, rrT10, g4']
    subst e2
    clear HR
    go_wp2_with fail
    go_ret
    exact ⟨rfl, by first | exact hb | (rw [hB]; exact hb) | exact below_drewN hb _ | (rw [hB]; exact below_drewN hb _)⟩
  have g4' : ¬ 64 < old.size := by omega
  by_cases g5 : 4294967296 ≤ block
  · have e2 : rt = false := by rw [HR.out]; simp [rrT4, rrT6, rrT8, rrT10, g5]
    subst e2
    clear HR
    go_wp2_with fail
    go_ret
    exact ⟨rfl, by first | exact hb | (rw [hB]; exact hb) | exact below_drewN hb _ | (rw [hB]; exact below_drewN hb _)⟩
  by_cases g6 : 4294967296 ≤ many
  · have e2 : rt = false := by rw [HR.out]; simp [rrT4, rrT6, rrT8, rrT10, g6]
    subst e2
    clear HR
    go_wp2_with fail
    go_ret
    exact ⟨rfl, by first | exact hb | (rw [hB]; exact hb) | exact below_drewN hb _ | (rw [hB]; exact below_drewN hb _)⟩
  go_upto_region 4 with fail
  by_cases q1 : 0 < client
  rotate_left
  · have e2 : rt = false := by rw [HR.out]; simp [rrT4, rrT6, rrT8, rrT10, q1]
    subst e2
    clear HR
    go_quiet ((go_at_call 88; refine Calls.quiet_of_same (Hc.out _)))
    go_wp2_with fail
    go_ret
    exact ⟨rfl, by first | exact hb | (rw [hB]; exact hb) | exact below_drewN hb _ | (rw [hB]; exact below_drewN hb _)⟩
  go_quiet ((go_at_call 88; refine Calls.quiet_of_same (Hc.out _)))
  go_upto_region 6 with fail
  by_cases yd : data = ⟨#[]⟩
  rotate_left
  · have gi : data.toList.isEmpty = false := by have := text_ne data; rw [decide_eq_true yd] at this; simpa using this.symm
    have gj : ¬ data.toList = [] := by intro q; rw [q] at gi; cases gi
    have e2 : rt = false := by rw [HR.out]; simp [rrT4, rrT6, rrT8, rrT10, yd]
    subst e2
    clear HR
    go_wp2_with fail
    refine (Hb.out _).mono ?_
    rintro x w8 ⟨rfl, rfl⟩
    go_wp2_with fail
    refine (Hm.out _).mono ?_
    rintro x w8 ⟨rfl, rfl⟩
    go_wp2_with fail
    refine (Hd.out _).mono ?_
    rintro x w8 ⟨rfl, rfl⟩
    go_wp2_with fail
    go_ret
    exact ⟨rfl, by first | exact hb | (rw [hB]; exact hb) | exact below_drewN hb _ | (rw [hB]; exact below_drewN hb _)⟩
  subst yd
  by_cases yo : old = ⟨#[]⟩
  rotate_left
  · have gi : old.toList.isEmpty = false := by have := text_ne old; rw [decide_eq_true yo] at this; simpa using this.symm
    have gj : ¬ old.toList = [] := by intro q; rw [q] at gi; cases gi
    have e2 : rt = false := by rw [HR.out]; simp [rrT4, rrT6, rrT8, rrT10, yo]
    subst e2
    clear HR
    go_wp2_with fail
    refine (Hb.out _).mono ?_
    rintro x w8 ⟨rfl, rfl⟩
    go_wp2_with fail
    refine (Hm.out _).mono ?_
    rintro x w8 ⟨rfl, rfl⟩
    go_wp2_with fail
    refine (Hd.out _).mono ?_
    rintro x w8 ⟨rfl, rfl⟩
    go_wp2_with fail
    refine (Ho.out _).mono ?_
    rintro x w8 ⟨rfl, rfl⟩
    go_wp2_with fail
    go_ret
    exact ⟨rfl, by first | exact hb | (rw [hB]; exact hb) | exact below_drewN hb _ | (rw [hB]; exact below_drewN hb _)⟩
  subst yo
  go_wp2_with fail
  refine (Hb.out _).mono ?_
  rintro x w8 ⟨rfl, rfl⟩
  go_wp2_with fail
  refine (Hm.out _).mono ?_
  rintro x w8 ⟨rfl, rfl⟩
  go_wp2_with fail
  refine (Hd.out _).mono ?_
  rintro x w8 ⟨rfl, rfl⟩
  go_wp2_with fail
  refine (Ho.out _).mono ?_
  rintro x w8 ⟨rfl, rfl⟩
  go_wp2_with fail
  by_cases k1 : node = 0
  rotate_left
  · have e2 : rt = false := by rw [HR.out]; simp [rrT4, rrT6, rrT8, rrT10, k1]
    subst e2
    clear HR
    refine (Hn.out _).mono ?_
    rintro x w8 ⟨rfl, rfl⟩
    go_wp2_with fail
    refine (Hn.out _).mono ?_
    rintro x w8 ⟨rfl, rfl⟩
    go_wp2_with fail
    go_ret
    exact ⟨rfl, by first | exact hb | (rw [hB]; exact hb) | exact below_drewN hb _ | (rw [hB]; exact below_drewN hb _)⟩
  refine (Hn.out _).mono ?_
  rintro x w8 ⟨rfl, rfl⟩
  go_wp2_with fail
  refine (Hn.out _).mono ?_
  rintro x w8 ⟨rfl, rfl⟩
  go_wp2_with fail
  by_cases j1 : level = 0
  · have e2 : rt = true := by rw [HR.out]; simp [rrT4, rrT6, rrT8, rrT10, g1, g2, g3', g4', g5, g6, q1, k1, j1]
    subst e2
    clear HR
    refine (Hl.out _).mono ?_
    rintro x w8 ⟨rfl, rfl⟩
    go_wp2_with fail
    refine (Hl.out _).mono ?_
    rintro x w8 ⟨rfl, rfl⟩
    go_wp2_with fail
    go_ret
    exact ⟨rfl, by first | exact hb | (rw [hB]; exact hb) | exact below_drewN hb _ | (rw [hB]; exact below_drewN hb _)⟩
  have jb : (level == 0) = false := beq_false_of_ne j1
  have e2 : rt = false := by rw [HR.out]; simp [rrT4, rrT6, rrT8, rrT10, j1]
  subst e2
  clear HR
  refine (Hl.out _).mono ?_
  rintro x w8 ⟨rfl, rfl⟩
  go_wp2_with fail
  refine (Hl.out _).mono ?_
  rintro x w8 ⟨rfl, rfl⟩
  go_wp2_with fail
  go_ret
  exact ⟨rfl, by first | exact hb | (rw [hB]; exact hb) | exact below_drewN hb _ | (rw [hB]; exact below_drewN hb _)⟩
set_option maxHeartbeats 3200000 in
theorem rr4_right_cm (e : En) (ho : e.ok) (hok : (enF e.kind).2 = true) (qc : enHas (enF e.kind).1 99 = true) (qb : enHas (enF e.kind).1 98 = false) (qm : enHas (enF e.kind).1 109 = true) (qd : enHas (enF e.kind).1 100 = false) (qo : enHas (enF e.kind).1 111 = false) (qn : enHas (enF e.kind).1 110 = false) (ql : enHas (enF e.kind).1 108 = false) (w : World) :
    Calls Try.prog 63 #[.agg e.cells] w fun x w' => x = .returned (.bool e.right) ∧ Below w.heap.size w w' := by
  have hse := str_beq
  have HR := Pin.Aside.mk (rr_right e ho.client.1 ho.seq.1 ho.block.1 ho.many.1)
  have Hf := Pin.Aside.mk (fun W => mk_fields e.kind W)
  have Hc := Pin.Aside.mk (fun W => rr4_has (enF e.kind).1 99 99 (by decide) (Nat.le_trans (enF_size e.kind) (by omega)) W)
  have Hb := Pin.Aside.mk (fun W => rr4_has (enF e.kind).1 98 98 (by decide) (Nat.le_trans (enF_size e.kind) (by omega)) W)
  have Hm := Pin.Aside.mk (fun W => rr4_has (enF e.kind).1 109 109 (by decide) (Nat.le_trans (enF_size e.kind) (by omega)) W)
  have Hd := Pin.Aside.mk (fun W => rr4_has (enF e.kind).1 100 100 (by decide) (Nat.le_trans (enF_size e.kind) (by omega)) W)
  have Ho := Pin.Aside.mk (fun W => rr4_has (enF e.kind).1 111 111 (by decide) (Nat.le_trans (enF_size e.kind) (by omega)) W)
  have Hn := Pin.Aside.mk (fun W => rr4_has (enF e.kind).1 110 110 (by decide) (Nat.le_trans (enF_size e.kind) (by omega)) W)
  have Hl := Pin.Aside.mk (fun W => rr4_has (enF e.kind).1 108 108 (by decide) (Nat.le_trans (enF_size e.kind) (by omega)) W)
  have hk := (Keep.refl (fun _ => False) w).alloc (.cells e.cells 32)
  have hb := hk.below (Nat.le_refl _) fun _ q => q.elim
  have hE := EnAt.new w 32 e
  have hz : ((w.alloc (.cells e.cells 32)).heap.size) = w.heap.size + 1 := by simp
  have o1 := ho.client.1
  have o2 := ho.seq.1
  have o3 := ho.block.1
  have o4 := ho.many.1
  clear hk ho
  rw [hok] at Hf
  unfold rrT2 at HR
  rw [hok] at HR
  rw [qc, qb, qm, qd, qo, qn, ql] at HR
  rw [qc] at Hc
  rw [qb] at Hb
  rw [qm] at Hm
  rw [qd] at Hd
  rw [qo] at Ho
  rw [qn] at Hn
  rw [ql] at Hl
  clear qc qb qm qd qo qn ql
  clear hok
  obtain ⟨s, hs⟩ : ∃ s, (enF e.kind).1 = s := ⟨_, rfl⟩
  rw [hs] at Hf
  rw [hs] at Hc
  rw [hs] at Hb
  rw [hs] at Hm
  rw [hs] at Hd
  rw [hs] at Ho
  rw [hs] at Hn
  rw [hs] at Hl
  clear hs
  obtain ⟨rt, hrt⟩ : ∃ rt, e.right = rt := ⟨_, rfl⟩
  rw [hrt] at HR ⊢
  clear hrt
  obtain ⟨term, index, kind, client, seq, block, many, node, level, data, old⟩ := e
  dsimp only [En.cells] at *
  go_enter Try.func63, Try.ntmps63
  go_upto_region 1 with fail
  generalize w.alloc _ = wa at *
  generalize hB : w.heap.size = B at *
  obtain ⟨c0, c1, c2, c3, c4, c5, c6, c7, c8, c9, c10⟩ := hE
  dsimp only at c0 c1 c2 c3 c4 c5 c6 c7 c8 c9 c10
  simp only [Nat.zero_add] at c0 c1 c2 c3 c4 c5 c6 c7 c8 c9 c10
  go_wp2_with fail
  refine (Hf.out _).mono ?_
  rintro x w1 ⟨rfl, hbb⟩
  replace hb := hb.trans (hbb.mono (by omega))
  have hkk : Keep (fun _ => False) wa w1 := Keep.of_below hbb fun _ q _ => q
  replace c0 := hkk.cell c0 id
  replace c1 := hkk.cell c1 id
  replace c2 := hkk.cell c2 id
  replace c3 := hkk.cell c3 id
  replace c4 := hkk.cell c4 id
  replace c5 := hkk.cell c5 id
  replace c6 := hkk.cell c6 id
  replace c7 := hkk.cell c7 id
  replace c8 := hkk.cell c8 id
  replace c9 := hkk.cell c9 id
  replace c10 := hkk.cell c10 id
  clear hkk hbb hz Hf
  by_cases g1 : term < 1
  · have e2 : rt = false := by rw [HR.out]; simp [rrT4, rrT6, rrT8, rrT10, g1]
    subst e2
    clear HR
    go_wp2_with fail
    go_ret
    exact ⟨rfl, by first | exact hb | (rw [hB]; exact hb) | exact below_drewN hb _ | (rw [hB]; exact below_drewN hb _)⟩
  by_cases g2 : index < 1
  · have e2 : rt = false := by rw [HR.out]; simp [rrT4, rrT6, rrT8, rrT10, g2]
    subst e2
    clear HR
    go_wp2_with fail
    go_ret
    exact ⟨rfl, by first | exact hb | (rw [hB]; exact hb) | exact below_drewN hb _ | (rw [hB]; exact below_drewN hb _)⟩
  by_cases g3 : (64 : Int) < (data.size : Int)
  · have g3' : 64 < data.size := by omega
    have e2 : rt = false := by rw [HR.out]; simp [rrT4, rrT6, rrT8, rrT10, g3']
    subst e2
    clear HR
    go_wp2_with fail
    go_ret
    exact ⟨rfl, by first | exact hb | (rw [hB]; exact hb) | exact below_drewN hb _ | (rw [hB]; exact below_drewN hb _)⟩
  have g3' : ¬ 64 < data.size := by omega
  by_cases g4 : (64 : Int) < (old.size : Int)
  · have g4' : 64 < old.size := by omega
    have e2 : rt = false := by rw [HR.out]; simp [rrT4, rrT6, rrT8, rrT10, g4']
    subst e2
    clear HR
    go_wp2_with fail
    go_ret
    exact ⟨rfl, by first | exact hb | (rw [hB]; exact hb) | exact below_drewN hb _ | (rw [hB]; exact below_drewN hb _)⟩
  have g4' : ¬ 64 < old.size := by omega
  by_cases g5 : 4294967296 ≤ block
  · have e2 : rt = false := by rw [HR.out]; simp [rrT4, rrT6, rrT8, rrT10, g5]
    subst e2
    clear HR
    go_wp2_with fail
    go_ret
    exact ⟨rfl, by first | exact hb | (rw [hB]; exact hb) | exact below_drewN hb _ | (rw [hB]; exact below_drewN hb _)⟩
  by_cases g6 : 4294967296 ≤ many
  · have e2 : rt = false := by rw [HR.out]; simp [rrT4, rrT6, rrT8, rrT10, g6]
    subst e2
    clear HR
    go_wp2_with fail
    go_ret
    exact ⟨rfl, by first | exact hb | (rw [hB]; exact hb) | exact below_drewN hb _ | (rw [hB]; exact below_drewN hb _)⟩
  go_upto_region 4 with fail
  by_cases q1 : 0 < client
  rotate_left
  · have e2 : rt = false := by rw [HR.out]; simp [rrT4, rrT6, rrT8, rrT10, q1]
    subst e2
    clear HR
    go_quiet ((go_at_call 88; refine Calls.quiet_of_same (Hc.out _)))
    go_wp2_with fail
    go_ret
    exact ⟨rfl, by first | exact hb | (rw [hB]; exact hb) | exact below_drewN hb _ | (rw [hB]; exact below_drewN hb _)⟩
  go_quiet ((go_at_call 88; refine Calls.quiet_of_same (Hc.out _)))
  go_upto_region 6 with fail
  by_cases yb : 0 < block
  · have e2 : rt = false := by rw [HR.out]; simp [rrT4, rrT6, rrT8, rrT10, yb]
    subst e2
    clear HR
    go_wp2_with fail
    refine (Hb.out _).mono ?_
    rintro x w8 ⟨rfl, rfl⟩
    go_wp2_with fail
    go_ret
    exact ⟨rfl, by first | exact hb | (rw [hB]; exact hb) | exact below_drewN hb _ | (rw [hB]; exact below_drewN hb _)⟩
  have zb : block = 0 := by omega
  subst zb
  by_cases yd : data = ⟨#[]⟩
  rotate_left
  · have gi : data.toList.isEmpty = false := by have := text_ne data; rw [decide_eq_true yd] at this; simpa using this.symm
    have gj : ¬ data.toList = [] := by intro q; rw [q] at gi; cases gi
    have e2 : rt = false := by rw [HR.out]; simp [rrT4, rrT6, rrT8, rrT10, yd]
    subst e2
    clear HR
    go_wp2_with fail
    refine (Hb.out _).mono ?_
    rintro x w8 ⟨rfl, rfl⟩
    go_wp2_with fail
    refine (Hm.out _).mono ?_
    rintro x w8 ⟨rfl, rfl⟩
    go_wp2_with fail
    refine (Hd.out _).mono ?_
    rintro x w8 ⟨rfl, rfl⟩
    go_wp2_with fail
    go_ret
    exact ⟨rfl, by first | exact hb | (rw [hB]; exact hb) | exact below_drewN hb _ | (rw [hB]; exact below_drewN hb _)⟩
  subst yd
  by_cases yo : old = ⟨#[]⟩
  rotate_left
  · have gi : old.toList.isEmpty = false := by have := text_ne old; rw [decide_eq_true yo] at this; simpa using this.symm
    have gj : ¬ old.toList = [] := by intro q; rw [q] at gi; cases gi
    have e2 : rt = false := by rw [HR.out]; simp [rrT4, rrT6, rrT8, rrT10, yo]
    subst e2
    clear HR
    go_wp2_with fail
    refine (Hb.out _).mono ?_
    rintro x w8 ⟨rfl, rfl⟩
    go_wp2_with fail
    refine (Hm.out _).mono ?_
    rintro x w8 ⟨rfl, rfl⟩
    go_wp2_with fail
    refine (Hd.out _).mono ?_
    rintro x w8 ⟨rfl, rfl⟩
    go_wp2_with fail
    refine (Ho.out _).mono ?_
    rintro x w8 ⟨rfl, rfl⟩
    go_wp2_with fail
    go_ret
    exact ⟨rfl, by first | exact hb | (rw [hB]; exact hb) | exact below_drewN hb _ | (rw [hB]; exact below_drewN hb _)⟩
  subst yo
  go_wp2_with fail
  refine (Hb.out _).mono ?_
  rintro x w8 ⟨rfl, rfl⟩
  go_wp2_with fail
  refine (Hm.out _).mono ?_
  rintro x w8 ⟨rfl, rfl⟩
  go_wp2_with fail
  refine (Hd.out _).mono ?_
  rintro x w8 ⟨rfl, rfl⟩
  go_wp2_with fail
  refine (Ho.out _).mono ?_
  rintro x w8 ⟨rfl, rfl⟩
  go_wp2_with fail
  by_cases k1 : node = 0
  rotate_left
  · have e2 : rt = false := by rw [HR.out]; simp [rrT4, rrT6, rrT8, rrT10, k1]
    subst e2
    clear HR
    refine (Hn.out _).mono ?_
    rintro x w8 ⟨rfl, rfl⟩
    go_wp2_with fail
    refine (Hn.out _).mono ?_
    rintro x w8 ⟨rfl, rfl⟩
    go_wp2_with fail
    go_ret
    exact ⟨rfl, by first | exact hb | (rw [hB]; exact hb) | exact below_drewN hb _ | (rw [hB]; exact below_drewN hb _)⟩
  refine (Hn.out _).mono ?_
  rintro x w8 ⟨rfl, rfl⟩
  go_wp2_with fail
  refine (Hn.out _).mono ?_
  rintro x w8 ⟨rfl, rfl⟩
  go_wp2_with fail
  by_cases j1 : level = 0
  · have e2 : rt = true := by rw [HR.out]; simp [rrT4, rrT6, rrT8, rrT10, g1, g2, g3', g4', g5, g6, q1, yb, k1, j1]
    subst e2
    clear HR
    refine (Hl.out _).mono ?_
    rintro x w8 ⟨rfl, rfl⟩
    go_wp2_with fail
    refine (Hl.out _).mono ?_
    rintro x w8 ⟨rfl, rfl⟩
    go_wp2_with fail
    go_ret
    exact ⟨rfl, by first | exact hb | (rw [hB]; exact hb) | exact below_drewN hb _ | (rw [hB]; exact below_drewN hb _)⟩
  have jb : (level == 0) = false := beq_false_of_ne j1
  have e2 : rt = false := by rw [HR.out]; simp [rrT4, rrT6, rrT8, rrT10, j1]
  subst e2
  clear HR
  refine (Hl.out _).mono ?_
  rintro x w8 ⟨rfl, rfl⟩
  go_wp2_with fail
  refine (Hl.out _).mono ?_
  rintro x w8 ⟨rfl, rfl⟩
  go_wp2_with fail
  go_ret
  exact ⟨rfl, by first | exact hb | (rw [hB]; exact hb) | exact below_drewN hb _ | (rw [hB]; exact below_drewN hb _)⟩
set_option maxHeartbeats 3200000 in
theorem rr4_right_c (e : En) (ho : e.ok) (hok : (enF e.kind).2 = true) (qc : enHas (enF e.kind).1 99 = true) (qb : enHas (enF e.kind).1 98 = false) (qm : enHas (enF e.kind).1 109 = false) (qd : enHas (enF e.kind).1 100 = false) (qo : enHas (enF e.kind).1 111 = false) (qn : enHas (enF e.kind).1 110 = false) (ql : enHas (enF e.kind).1 108 = false) (w : World) :
    Calls Try.prog 63 #[.agg e.cells] w fun x w' => x = .returned (.bool e.right) ∧ Below w.heap.size w w' := by
  have hse := str_beq
  have HR := Pin.Aside.mk (rr_right e ho.client.1 ho.seq.1 ho.block.1 ho.many.1)
  have Hf := Pin.Aside.mk (fun W => mk_fields e.kind W)
  have Hc := Pin.Aside.mk (fun W => rr4_has (enF e.kind).1 99 99 (by decide) (Nat.le_trans (enF_size e.kind) (by omega)) W)
  have Hb := Pin.Aside.mk (fun W => rr4_has (enF e.kind).1 98 98 (by decide) (Nat.le_trans (enF_size e.kind) (by omega)) W)
  have Hm := Pin.Aside.mk (fun W => rr4_has (enF e.kind).1 109 109 (by decide) (Nat.le_trans (enF_size e.kind) (by omega)) W)
  have Hd := Pin.Aside.mk (fun W => rr4_has (enF e.kind).1 100 100 (by decide) (Nat.le_trans (enF_size e.kind) (by omega)) W)
  have Ho := Pin.Aside.mk (fun W => rr4_has (enF e.kind).1 111 111 (by decide) (Nat.le_trans (enF_size e.kind) (by omega)) W)
  have Hn := Pin.Aside.mk (fun W => rr4_has (enF e.kind).1 110 110 (by decide) (Nat.le_trans (enF_size e.kind) (by omega)) W)
  have Hl := Pin.Aside.mk (fun W => rr4_has (enF e.kind).1 108 108 (by decide) (Nat.le_trans (enF_size e.kind) (by omega)) W)
  have hk := (Keep.refl (fun _ => False) w).alloc (.cells e.cells 32)
  have hb := hk.below (Nat.le_refl _) fun _ q => q.elim
  have hE := EnAt.new w 32 e
  have hz : ((w.alloc (.cells e.cells 32)).heap.size) = w.heap.size + 1 := by simp
  have o1 := ho.client.1
  have o2 := ho.seq.1
  have o3 := ho.block.1
  have o4 := ho.many.1
  clear hk ho
  rw [hok] at Hf
  unfold rrT2 at HR
  rw [hok] at HR
  rw [qc, qb, qm, qd, qo, qn, ql] at HR
  rw [qc] at Hc
  rw [qb] at Hb
  rw [qm] at Hm
  rw [qd] at Hd
  rw [qo] at Ho
  rw [qn] at Hn
  rw [ql] at Hl
  clear qc qb qm qd qo qn ql
  clear hok
  obtain ⟨s, hs⟩ : ∃ s, (enF e.kind).1 = s := ⟨_, rfl⟩
  rw [hs] at Hf
  rw [hs] at Hc
  rw [hs] at Hb
  rw [hs] at Hm
  rw [hs] at Hd
  rw [hs] at Ho
  rw [hs] at Hn
  rw [hs] at Hl
  clear hs
  obtain ⟨rt, hrt⟩ : ∃ rt, e.right = rt := ⟨_, rfl⟩
  rw [hrt] at HR ⊢
  clear hrt
  obtain ⟨term, index, kind, client, seq, block, many, node, level, data, old⟩ := e
  dsimp only [En.cells] at *
  go_enter Try.func63, Try.ntmps63
  go_upto_region 1 with fail
  generalize w.alloc _ = wa at *
  generalize hB : w.heap.size = B at *
  obtain ⟨c0, c1, c2, c3, c4, c5, c6, c7, c8, c9, c10⟩ := hE
  dsimp only at c0 c1 c2 c3 c4 c5 c6 c7 c8 c9 c10
  simp only [Nat.zero_add] at c0 c1 c2 c3 c4 c5 c6 c7 c8 c9 c10
  go_wp2_with fail
  refine (Hf.out _).mono ?_
  rintro x w1 ⟨rfl, hbb⟩
  replace hb := hb.trans (hbb.mono (by omega))
  have hkk : Keep (fun _ => False) wa w1 := Keep.of_below hbb fun _ q _ => q
  replace c0 := hkk.cell c0 id
  replace c1 := hkk.cell c1 id
  replace c2 := hkk.cell c2 id
  replace c3 := hkk.cell c3 id
  replace c4 := hkk.cell c4 id
  replace c5 := hkk.cell c5 id
  replace c6 := hkk.cell c6 id
  replace c7 := hkk.cell c7 id
  replace c8 := hkk.cell c8 id
  replace c9 := hkk.cell c9 id
  replace c10 := hkk.cell c10 id
  clear hkk hbb hz Hf
  by_cases g1 : term < 1
  · have e2 : rt = false := by rw [HR.out]; simp [rrT4, rrT6, rrT8, rrT10, g1]
    subst e2
    clear HR
    go_wp2_with fail
    go_ret
    exact ⟨rfl, by first | exact hb | (rw [hB]; exact hb) | exact below_drewN hb _ | (rw [hB]; exact below_drewN hb _)⟩
  by_cases g2 : index < 1
  · have e2 : rt = false := by rw [HR.out]; simp [rrT4, rrT6, rrT8, rrT10, g2]
    subst e2
    clear HR
    go_wp2_with fail
    go_ret
    exact ⟨rfl, by first | exact hb | (rw [hB]; exact hb) | exact below_drewN hb _ | (rw [hB]; exact below_drewN hb _)⟩
  by_cases g3 : (64 : Int) < (data.size : Int)
  · have g3' : 64 < data.size := by omega
    have e2 : rt = false := by rw [HR.out]; simp [rrT4, rrT6, rrT8, rrT10, g3']
    subst e2
    clear HR
    go_wp2_with fail
    go_ret
    exact ⟨rfl, by first | exact hb | (rw [hB]; exact hb) | exact below_drewN hb _ | (rw [hB]; exact below_drewN hb _)⟩
  have g3' : ¬ 64 < data.size := by omega
  by_cases g4 : (64 : Int) < (old.size : Int)
  · have g4' : 64 < old.size := by omega
    have e2 : rt = false := by rw [HR.out]; simp [rrT4, rrT6, rrT8, rrT10, g4']
    subst e2
    clear HR
    go_wp2_with fail
    go_ret
    exact ⟨rfl, by first | exact hb | (rw [hB]; exact hb) | exact below_drewN hb _ | (rw [hB]; exact below_drewN hb _)⟩
  have g4' : ¬ 64 < old.size := by omega
  by_cases g5 : 4294967296 ≤ block
  · have e2 : rt = false := by rw [HR.out]; simp [rrT4, rrT6, rrT8, rrT10, g5]
    subst e2
    clear HR
    go_wp2_with fail
    go_ret
    exact ⟨rfl, by first | exact hb | (rw [hB]; exact hb) | exact below_drewN hb _ | (rw [hB]; exact below_drewN hb _)⟩
  by_cases g6 : 4294967296 ≤ many
  · have e2 : rt = false := by rw [HR.out]; simp [rrT4, rrT6, rrT8, rrT10, g6]
    subst e2
    clear HR
    go_wp2_with fail
    go_ret
    exact ⟨rfl, by first | exact hb | (rw [hB]; exact hb) | exact below_drewN hb _ | (rw [hB]; exact below_drewN hb _)⟩
  go_upto_region 4 with fail
  by_cases q1 : 0 < client
  rotate_left
  · have e2 : rt = false := by rw [HR.out]; simp [rrT4, rrT6, rrT8, rrT10, q1]
    subst e2
    clear HR
    go_quiet ((go_at_call 88; refine Calls.quiet_of_same (Hc.out _)))
    go_wp2_with fail
    go_ret
    exact ⟨rfl, by first | exact hb | (rw [hB]; exact hb) | exact below_drewN hb _ | (rw [hB]; exact below_drewN hb _)⟩
  go_quiet ((go_at_call 88; refine Calls.quiet_of_same (Hc.out _)))
  go_upto_region 6 with fail
  by_cases yb : 0 < block
  · have e2 : rt = false := by rw [HR.out]; simp [rrT4, rrT6, rrT8, rrT10, yb]
    subst e2
    clear HR
    go_wp2_with fail
    refine (Hb.out _).mono ?_
    rintro x w8 ⟨rfl, rfl⟩
    go_wp2_with fail
    go_ret
    exact ⟨rfl, by first | exact hb | (rw [hB]; exact hb) | exact below_drewN hb _ | (rw [hB]; exact below_drewN hb _)⟩
  have zb : block = 0 := by omega
  subst zb
  by_cases ym : 0 < many
  · have e2 : rt = false := by rw [HR.out]; simp [rrT4, rrT6, rrT8, rrT10, ym]
    subst e2
    clear HR
    go_wp2_with fail
    refine (Hb.out _).mono ?_
    rintro x w8 ⟨rfl, rfl⟩
    go_wp2_with fail
    refine (Hm.out _).mono ?_
    rintro x w8 ⟨rfl, rfl⟩
    go_wp2_with fail
    go_ret
    exact ⟨rfl, by first | exact hb | (rw [hB]; exact hb) | exact below_drewN hb _ | (rw [hB]; exact below_drewN hb _)⟩
  have zm : many = 0 := by omega
  subst zm
  by_cases yd : data = ⟨#[]⟩
  rotate_left
  · have gi : data.toList.isEmpty = false := by have := text_ne data; rw [decide_eq_true yd] at this; simpa using this.symm
    have gj : ¬ data.toList = [] := by intro q; rw [q] at gi; cases gi
    have e2 : rt = false := by rw [HR.out]; simp [rrT4, rrT6, rrT8, rrT10, yd]
    subst e2
    clear HR
    go_wp2_with fail
    refine (Hb.out _).mono ?_
    rintro x w8 ⟨rfl, rfl⟩
    go_wp2_with fail
    refine (Hm.out _).mono ?_
    rintro x w8 ⟨rfl, rfl⟩
    go_wp2_with fail
    refine (Hd.out _).mono ?_
    rintro x w8 ⟨rfl, rfl⟩
    go_wp2_with fail
    go_ret
    exact ⟨rfl, by first | exact hb | (rw [hB]; exact hb) | exact below_drewN hb _ | (rw [hB]; exact below_drewN hb _)⟩
  subst yd
  by_cases yo : old = ⟨#[]⟩
  rotate_left
  · have gi : old.toList.isEmpty = false := by have := text_ne old; rw [decide_eq_true yo] at this; simpa using this.symm
    have gj : ¬ old.toList = [] := by intro q; rw [q] at gi; cases gi
    have e2 : rt = false := by rw [HR.out]; simp [rrT4, rrT6, rrT8, rrT10, yo]
    subst e2
    clear HR
    go_wp2_with fail
    refine (Hb.out _).mono ?_
    rintro x w8 ⟨rfl, rfl⟩
    go_wp2_with fail
    refine (Hm.out _).mono ?_
    rintro x w8 ⟨rfl, rfl⟩
    go_wp2_with fail
    refine (Hd.out _).mono ?_
    rintro x w8 ⟨rfl, rfl⟩
    go_wp2_with fail
    refine (Ho.out _).mono ?_
    rintro x w8 ⟨rfl, rfl⟩
    go_wp2_with fail
    go_ret
    exact ⟨rfl, by first | exact hb | (rw [hB]; exact hb) | exact below_drewN hb _ | (rw [hB]; exact below_drewN hb _)⟩
  subst yo
  go_wp2_with fail
  refine (Hb.out _).mono ?_
  rintro x w8 ⟨rfl, rfl⟩
  go_wp2_with fail
  refine (Hm.out _).mono ?_
  rintro x w8 ⟨rfl, rfl⟩
  go_wp2_with fail
  refine (Hd.out _).mono ?_
  rintro x w8 ⟨rfl, rfl⟩
  go_wp2_with fail
  refine (Ho.out _).mono ?_
  rintro x w8 ⟨rfl, rfl⟩
  go_wp2_with fail
  by_cases k1 : node = 0
  rotate_left
  · have e2 : rt = false := by rw [HR.out]; simp [rrT4, rrT6, rrT8, rrT10, k1]
    subst e2
    clear HR
    refine (Hn.out _).mono ?_
    rintro x w8 ⟨rfl, rfl⟩
    go_wp2_with fail
    refine (Hn.out _).mono ?_
    rintro x w8 ⟨rfl, rfl⟩
    go_wp2_with fail
    go_ret
    exact ⟨rfl, by first | exact hb | (rw [hB]; exact hb) | exact below_drewN hb _ | (rw [hB]; exact below_drewN hb _)⟩
  refine (Hn.out _).mono ?_
  rintro x w8 ⟨rfl, rfl⟩
  go_wp2_with fail
  refine (Hn.out _).mono ?_
  rintro x w8 ⟨rfl, rfl⟩
  go_wp2_with fail
  by_cases j1 : level = 0
  · have e2 : rt = true := by rw [HR.out]; simp [rrT4, rrT6, rrT8, rrT10, g1, g2, g3', g4', g5, g6, q1, yb, ym, k1, j1]
    subst e2
    clear HR
    refine (Hl.out _).mono ?_
    rintro x w8 ⟨rfl, rfl⟩
    go_wp2_with fail
    refine (Hl.out _).mono ?_
    rintro x w8 ⟨rfl, rfl⟩
    go_wp2_with fail
    go_ret
    exact ⟨rfl, by first | exact hb | (rw [hB]; exact hb) | exact below_drewN hb _ | (rw [hB]; exact below_drewN hb _)⟩
  have jb : (level == 0) = false := beq_false_of_ne j1
  have e2 : rt = false := by rw [HR.out]; simp [rrT4, rrT6, rrT8, rrT10, j1]
  subst e2
  clear HR
  refine (Hl.out _).mono ?_
  rintro x w8 ⟨rfl, rfl⟩
  go_wp2_with fail
  refine (Hl.out _).mono ?_
  rintro x w8 ⟨rfl, rfl⟩
  go_wp2_with fail
  go_ret
  exact ⟨rfl, by first | exact hb | (rw [hB]; exact hb) | exact below_drewN hb _ | (rw [hB]; exact below_drewN hb _)⟩
set_option maxHeartbeats 3200000 in
theorem rr4_right_n (e : En) (ho : e.ok) (hok : (enF e.kind).2 = true) (qc : enHas (enF e.kind).1 99 = false) (qb : enHas (enF e.kind).1 98 = false) (qm : enHas (enF e.kind).1 109 = false) (qd : enHas (enF e.kind).1 100 = false) (qo : enHas (enF e.kind).1 111 = false) (qn : enHas (enF e.kind).1 110 = true) (ql : enHas (enF e.kind).1 108 = false) (w : World) :
    Calls Try.prog 63 #[.agg e.cells] w fun x w' => x = .returned (.bool e.right) ∧ Below w.heap.size w w' := by
  have hse := str_beq
  have HR := Pin.Aside.mk (rr_right e ho.client.1 ho.seq.1 ho.block.1 ho.many.1)
  have Hf := Pin.Aside.mk (fun W => mk_fields e.kind W)
  have Hc := Pin.Aside.mk (fun W => rr4_has (enF e.kind).1 99 99 (by decide) (Nat.le_trans (enF_size e.kind) (by omega)) W)
  have Hb := Pin.Aside.mk (fun W => rr4_has (enF e.kind).1 98 98 (by decide) (Nat.le_trans (enF_size e.kind) (by omega)) W)
  have Hm := Pin.Aside.mk (fun W => rr4_has (enF e.kind).1 109 109 (by decide) (Nat.le_trans (enF_size e.kind) (by omega)) W)
  have Hd := Pin.Aside.mk (fun W => rr4_has (enF e.kind).1 100 100 (by decide) (Nat.le_trans (enF_size e.kind) (by omega)) W)
  have Ho := Pin.Aside.mk (fun W => rr4_has (enF e.kind).1 111 111 (by decide) (Nat.le_trans (enF_size e.kind) (by omega)) W)
  have Hn := Pin.Aside.mk (fun W => rr4_has (enF e.kind).1 110 110 (by decide) (Nat.le_trans (enF_size e.kind) (by omega)) W)
  have Hl := Pin.Aside.mk (fun W => rr4_has (enF e.kind).1 108 108 (by decide) (Nat.le_trans (enF_size e.kind) (by omega)) W)
  have hk := (Keep.refl (fun _ => False) w).alloc (.cells e.cells 32)
  have hb := hk.below (Nat.le_refl _) fun _ q => q.elim
  have hE := EnAt.new w 32 e
  have hz : ((w.alloc (.cells e.cells 32)).heap.size) = w.heap.size + 1 := by simp
  have o1 := ho.client.1
  have o2 := ho.seq.1
  have o3 := ho.block.1
  have o4 := ho.many.1
  clear hk ho
  rw [hok] at Hf
  unfold rrT2 at HR
  rw [hok] at HR
  rw [qc, qb, qm, qd, qo, qn, ql] at HR
  rw [qc] at Hc
  rw [qb] at Hb
  rw [qm] at Hm
  rw [qd] at Hd
  rw [qo] at Ho
  rw [qn] at Hn
  rw [ql] at Hl
  clear qc qb qm qd qo qn ql
  clear hok
  obtain ⟨s, hs⟩ : ∃ s, (enF e.kind).1 = s := ⟨_, rfl⟩
  rw [hs] at Hf
  rw [hs] at Hc
  rw [hs] at Hb
  rw [hs] at Hm
  rw [hs] at Hd
  rw [hs] at Ho
  rw [hs] at Hn
  rw [hs] at Hl
  clear hs
  obtain ⟨rt, hrt⟩ : ∃ rt, e.right = rt := ⟨_, rfl⟩
  rw [hrt] at HR ⊢
  clear hrt
  obtain ⟨term, index, kind, client, seq, block, many, node, level, data, old⟩ := e
  dsimp only [En.cells] at *
  go_enter Try.func63, Try.ntmps63
  go_upto_region 1 with fail
  generalize w.alloc _ = wa at *
  generalize hB : w.heap.size = B at *
  obtain ⟨c0, c1, c2, c3, c4, c5, c6, c7, c8, c9, c10⟩ := hE
  dsimp only at c0 c1 c2 c3 c4 c5 c6 c7 c8 c9 c10
  simp only [Nat.zero_add] at c0 c1 c2 c3 c4 c5 c6 c7 c8 c9 c10
  go_wp2_with fail
  refine (Hf.out _).mono ?_
  rintro x w1 ⟨rfl, hbb⟩
  replace hb := hb.trans (hbb.mono (by omega))
  have hkk : Keep (fun _ => False) wa w1 := Keep.of_below hbb fun _ q _ => q
  replace c0 := hkk.cell c0 id
  replace c1 := hkk.cell c1 id
  replace c2 := hkk.cell c2 id
  replace c3 := hkk.cell c3 id
  replace c4 := hkk.cell c4 id
  replace c5 := hkk.cell c5 id
  replace c6 := hkk.cell c6 id
  replace c7 := hkk.cell c7 id
  replace c8 := hkk.cell c8 id
  replace c9 := hkk.cell c9 id
  replace c10 := hkk.cell c10 id
  clear hkk hbb hz Hf
  by_cases g1 : term < 1
  · have e2 : rt = false := by rw [HR.out]; simp [rrT4, rrT6, rrT8, rrT10, g1]
    subst e2
    clear HR
    go_wp2_with fail
    go_ret
    exact ⟨rfl, by first | exact hb | (rw [hB]; exact hb) | exact below_drewN hb _ | (rw [hB]; exact below_drewN hb _)⟩
  by_cases g2 : index < 1
  · have e2 : rt = false := by rw [HR.out]; simp [rrT4, rrT6, rrT8, rrT10, g2]
    subst e2
    clear HR
    go_wp2_with fail
    go_ret
    exact ⟨rfl, by first | exact hb | (rw [hB]; exact hb) | exact below_drewN hb _ | (rw [hB]; exact below_drewN hb _)⟩
  by_cases g3 : (64 : Int) < (data.size : Int)
  · have g3' : 64 < data.size := by omega
    have e2 : rt = false := by rw [HR.out]; simp [rrT4, rrT6, rrT8, rrT10, g3']
    subst e2
    clear HR
    go_wp2_with fail
    go_ret
    exact ⟨rfl, by first | exact hb | (rw [hB]; exact hb) | exact below_drewN hb _ | (rw [hB]; exact below_drewN hb _)⟩
  have g3' : ¬ 64 < data.size := by omega
  by_cases g4 : (64 : Int) < (old.size : Int)
  · have g4' : 64 < old.size := by omega
    have e2 : rt = false := by rw [HR.out]; simp [rrT4, rrT6, rrT8, rrT10, g4']
    subst e2
    clear HR
    go_wp2_with fail
    go_ret
    exact ⟨rfl, by first | exact hb | (rw [hB]; exact hb) | exact below_drewN hb _ | (rw [hB]; exact below_drewN hb _)⟩
  have g4' : ¬ 64 < old.size := by omega
  by_cases g5 : 4294967296 ≤ block
  · have e2 : rt = false := by rw [HR.out]; simp [rrT4, rrT6, rrT8, rrT10, g5]
    subst e2
    clear HR
    go_wp2_with fail
    go_ret
    exact ⟨rfl, by first | exact hb | (rw [hB]; exact hb) | exact below_drewN hb _ | (rw [hB]; exact below_drewN hb _)⟩
  by_cases g6 : 4294967296 ≤ many
  · have e2 : rt = false := by rw [HR.out]; simp [rrT4, rrT6, rrT8, rrT10, g6]
    subst e2
    clear HR
    go_wp2_with fail
    go_ret
    exact ⟨rfl, by first | exact hb | (rw [hB]; exact hb) | exact below_drewN hb _ | (rw [hB]; exact below_drewN hb _)⟩
  go_upto_region 4 with fail
  by_cases q1 : 0 < client
  · have e2 : rt = false := by rw [HR.out]; simp [rrT4, rrT6, rrT8, rrT10, q1]
    subst e2
    clear HR
    go_quiet ((go_at_call 88; refine Calls.quiet_of_same (Hc.out _)))
    go_wp2_with fail
    go_ret
    exact ⟨rfl, by first | exact hb | (rw [hB]; exact hb) | exact below_drewN hb _ | (rw [hB]; exact below_drewN hb _)⟩
  by_cases q2 : 0 < seq
  · have e2 : rt = false := by rw [HR.out]; simp [rrT4, rrT6, rrT8, rrT10, q1, q2]
    subst e2
    clear HR
    go_quiet ((go_at_call 88; refine Calls.quiet_of_same (Hc.out _)))
    go_wp2_with fail
    go_ret
    exact ⟨rfl, by first | exact hb | (rw [hB]; exact hb) | exact below_drewN hb _ | (rw [hB]; exact below_drewN hb _)⟩
  go_quiet ((go_at_call 88; refine Calls.quiet_of_same (Hc.out _)))
  go_upto_region 6 with fail
  by_cases yb : 0 < block
  · have e2 : rt = false := by rw [HR.out]; simp [rrT4, rrT6, rrT8, rrT10, yb]
    subst e2
    clear HR
    go_wp2_with fail
    refine (Hb.out _).mono ?_
    rintro x w8 ⟨rfl, rfl⟩
    go_wp2_with fail
    go_ret
    exact ⟨rfl, by first | exact hb | (rw [hB]; exact hb) | exact below_drewN hb _ | (rw [hB]; exact below_drewN hb _)⟩
  have zb : block = 0 := by omega
  subst zb
  by_cases ym : 0 < many
  · have e2 : rt = false := by rw [HR.out]; simp [rrT4, rrT6, rrT8, rrT10, ym]
    subst e2
    clear HR
    go_wp2_with fail
    refine (Hb.out _).mono ?_
    rintro x w8 ⟨rfl, rfl⟩
    go_wp2_with fail
    refine (Hm.out _).mono ?_
    rintro x w8 ⟨rfl, rfl⟩
    go_wp2_with fail
    go_ret
    exact ⟨rfl, by first | exact hb | (rw [hB]; exact hb) | exact below_drewN hb _ | (rw [hB]; exact below_drewN hb _)⟩
  have zm : many = 0 := by omega
  subst zm
  by_cases yd : data = ⟨#[]⟩
  rotate_left
  · have gi : data.toList.isEmpty = false := by have := text_ne data; rw [decide_eq_true yd] at this; simpa using this.symm
    have gj : ¬ data.toList = [] := by intro q; rw [q] at gi; cases gi
    have e2 : rt = false := by rw [HR.out]; simp [rrT4, rrT6, rrT8, rrT10, yd]
    subst e2
    clear HR
    go_wp2_with fail
    refine (Hb.out _).mono ?_
    rintro x w8 ⟨rfl, rfl⟩
    go_wp2_with fail
    refine (Hm.out _).mono ?_
    rintro x w8 ⟨rfl, rfl⟩
    go_wp2_with fail
    refine (Hd.out _).mono ?_
    rintro x w8 ⟨rfl, rfl⟩
    go_wp2_with fail
    go_ret
    exact ⟨rfl, by first | exact hb | (rw [hB]; exact hb) | exact below_drewN hb _ | (rw [hB]; exact below_drewN hb _)⟩
  subst yd
  by_cases yo : old = ⟨#[]⟩
  rotate_left
  · have gi : old.toList.isEmpty = false := by have := text_ne old; rw [decide_eq_true yo] at this; simpa using this.symm
    have gj : ¬ old.toList = [] := by intro q; rw [q] at gi; cases gi
    have e2 : rt = false := by rw [HR.out]; simp [rrT4, rrT6, rrT8, rrT10, yo]
    subst e2
    clear HR
    go_wp2_with fail
    refine (Hb.out _).mono ?_
    rintro x w8 ⟨rfl, rfl⟩
    go_wp2_with fail
    refine (Hm.out _).mono ?_
    rintro x w8 ⟨rfl, rfl⟩
    go_wp2_with fail
    refine (Hd.out _).mono ?_
    rintro x w8 ⟨rfl, rfl⟩
    go_wp2_with fail
    refine (Ho.out _).mono ?_
    rintro x w8 ⟨rfl, rfl⟩
    go_wp2_with fail
    go_ret
    exact ⟨rfl, by first | exact hb | (rw [hB]; exact hb) | exact below_drewN hb _ | (rw [hB]; exact below_drewN hb _)⟩
  subst yo
  go_wp2_with fail
  refine (Hb.out _).mono ?_
  rintro x w8 ⟨rfl, rfl⟩
  go_wp2_with fail
  refine (Hm.out _).mono ?_
  rintro x w8 ⟨rfl, rfl⟩
  go_wp2_with fail
  refine (Hd.out _).mono ?_
  rintro x w8 ⟨rfl, rfl⟩
  go_wp2_with fail
  refine (Ho.out _).mono ?_
  rintro x w8 ⟨rfl, rfl⟩
  go_wp2_with fail
  by_cases k1 : node < 1
  · have e2 : rt = false := by rw [HR.out]; simp [rrT4, rrT6, rrT8, rrT10, k1]
    subst e2
    clear HR
    refine (Hn.out _).mono ?_
    rintro x w8 ⟨rfl, rfl⟩
    go_wp2_with fail
    go_ret
    exact ⟨rfl, by first | exact hb | (rw [hB]; exact hb) | exact below_drewN hb _ | (rw [hB]; exact below_drewN hb _)⟩
  by_cases k2 : 7 < node
  · have e2 : rt = false := by rw [HR.out]; simp [rrT4, rrT6, rrT8, rrT10, k1, k2]
    subst e2
    clear HR
    refine (Hn.out _).mono ?_
    rintro x w8 ⟨rfl, rfl⟩
    go_wp2_with fail
    go_ret
    exact ⟨rfl, by first | exact hb | (rw [hB]; exact hb) | exact below_drewN hb _ | (rw [hB]; exact below_drewN hb _)⟩
  refine (Hn.out _).mono ?_
  rintro x w8 ⟨rfl, rfl⟩
  go_wp2_with fail
  refine (Hn.out _).mono ?_
  rintro x w8 ⟨rfl, rfl⟩
  go_wp2_with fail
  by_cases j1 : level = 0
  · have e2 : rt = true := by rw [HR.out]; simp [rrT4, rrT6, rrT8, rrT10, g1, g2, g3', g4', g5, g6, q1, q2, yb, ym, k1, k2, j1]
    subst e2
    clear HR
    refine (Hl.out _).mono ?_
    rintro x w8 ⟨rfl, rfl⟩
    go_wp2_with fail
    refine (Hl.out _).mono ?_
    rintro x w8 ⟨rfl, rfl⟩
    go_wp2_with fail
    go_ret
    exact ⟨rfl, by first | exact hb | (rw [hB]; exact hb) | exact below_drewN hb _ | (rw [hB]; exact below_drewN hb _)⟩
  have jb : (level == 0) = false := beq_false_of_ne j1
  have e2 : rt = false := by rw [HR.out]; simp [rrT4, rrT6, rrT8, rrT10, j1]
  subst e2
  clear HR
  refine (Hl.out _).mono ?_
  rintro x w8 ⟨rfl, rfl⟩
  go_wp2_with fail
  refine (Hl.out _).mono ?_
  rintro x w8 ⟨rfl, rfl⟩
  go_wp2_with fail
  go_ret
  exact ⟨rfl, by first | exact hb | (rw [hB]; exact hb) | exact below_drewN hb _ | (rw [hB]; exact below_drewN hb _)⟩
set_option maxHeartbeats 3200000 in
theorem rr4_right_nl (e : En) (ho : e.ok) (hok : (enF e.kind).2 = true) (qc : enHas (enF e.kind).1 99 = false) (qb : enHas (enF e.kind).1 98 = false) (qm : enHas (enF e.kind).1 109 = false) (qd : enHas (enF e.kind).1 100 = false) (qo : enHas (enF e.kind).1 111 = false) (qn : enHas (enF e.kind).1 110 = true) (ql : enHas (enF e.kind).1 108 = true) (w : World) :
    Calls Try.prog 63 #[.agg e.cells] w fun x w' => x = .returned (.bool e.right) ∧ Below w.heap.size w w' := by
  have hse := str_beq
  have HR := Pin.Aside.mk (rr_right e ho.client.1 ho.seq.1 ho.block.1 ho.many.1)
  have Hf := Pin.Aside.mk (fun W => mk_fields e.kind W)
  have Hc := Pin.Aside.mk (fun W => rr4_has (enF e.kind).1 99 99 (by decide) (Nat.le_trans (enF_size e.kind) (by omega)) W)
  have Hb := Pin.Aside.mk (fun W => rr4_has (enF e.kind).1 98 98 (by decide) (Nat.le_trans (enF_size e.kind) (by omega)) W)
  have Hm := Pin.Aside.mk (fun W => rr4_has (enF e.kind).1 109 109 (by decide) (Nat.le_trans (enF_size e.kind) (by omega)) W)
  have Hd := Pin.Aside.mk (fun W => rr4_has (enF e.kind).1 100 100 (by decide) (Nat.le_trans (enF_size e.kind) (by omega)) W)
  have Ho := Pin.Aside.mk (fun W => rr4_has (enF e.kind).1 111 111 (by decide) (Nat.le_trans (enF_size e.kind) (by omega)) W)
  have Hn := Pin.Aside.mk (fun W => rr4_has (enF e.kind).1 110 110 (by decide) (Nat.le_trans (enF_size e.kind) (by omega)) W)
  have Hl := Pin.Aside.mk (fun W => rr4_has (enF e.kind).1 108 108 (by decide) (Nat.le_trans (enF_size e.kind) (by omega)) W)
  have hk := (Keep.refl (fun _ => False) w).alloc (.cells e.cells 32)
  have hb := hk.below (Nat.le_refl _) fun _ q => q.elim
  have hE := EnAt.new w 32 e
  have hz : ((w.alloc (.cells e.cells 32)).heap.size) = w.heap.size + 1 := by simp
  have o1 := ho.client.1
  have o2 := ho.seq.1
  have o3 := ho.block.1
  have o4 := ho.many.1
  clear hk ho
  rw [hok] at Hf
  unfold rrT2 at HR
  rw [hok] at HR
  rw [qc, qb, qm, qd, qo, qn, ql] at HR
  rw [qc] at Hc
  rw [qb] at Hb
  rw [qm] at Hm
  rw [qd] at Hd
  rw [qo] at Ho
  rw [qn] at Hn
  rw [ql] at Hl
  clear qc qb qm qd qo qn ql
  clear hok
  obtain ⟨s, hs⟩ : ∃ s, (enF e.kind).1 = s := ⟨_, rfl⟩
  rw [hs] at Hf
  rw [hs] at Hc
  rw [hs] at Hb
  rw [hs] at Hm
  rw [hs] at Hd
  rw [hs] at Ho
  rw [hs] at Hn
  rw [hs] at Hl
  clear hs
  obtain ⟨rt, hrt⟩ : ∃ rt, e.right = rt := ⟨_, rfl⟩
  rw [hrt] at HR ⊢
  clear hrt
  obtain ⟨term, index, kind, client, seq, block, many, node, level, data, old⟩ := e
  dsimp only [En.cells] at *
  go_enter Try.func63, Try.ntmps63
  go_upto_region 1 with fail
  generalize w.alloc _ = wa at *
  generalize hB : w.heap.size = B at *
  obtain ⟨c0, c1, c2, c3, c4, c5, c6, c7, c8, c9, c10⟩ := hE
  dsimp only at c0 c1 c2 c3 c4 c5 c6 c7 c8 c9 c10
  simp only [Nat.zero_add] at c0 c1 c2 c3 c4 c5 c6 c7 c8 c9 c10
  go_wp2_with fail
  refine (Hf.out _).mono ?_
  rintro x w1 ⟨rfl, hbb⟩
  replace hb := hb.trans (hbb.mono (by omega))
  have hkk : Keep (fun _ => False) wa w1 := Keep.of_below hbb fun _ q _ => q
  replace c0 := hkk.cell c0 id
  replace c1 := hkk.cell c1 id
  replace c2 := hkk.cell c2 id
  replace c3 := hkk.cell c3 id
  replace c4 := hkk.cell c4 id
  replace c5 := hkk.cell c5 id
  replace c6 := hkk.cell c6 id
  replace c7 := hkk.cell c7 id
  replace c8 := hkk.cell c8 id
  replace c9 := hkk.cell c9 id
  replace c10 := hkk.cell c10 id
  clear hkk hbb hz Hf
  by_cases g1 : term < 1
  · have e2 : rt = false := by rw [HR.out]; simp [rrT4, rrT6, rrT8, rrT10, g1]
    subst e2
    clear HR
    go_wp2_with fail
    go_ret
    exact ⟨rfl, by first | exact hb | (rw [hB]; exact hb) | exact below_drewN hb _ | (rw [hB]; exact below_drewN hb _)⟩
  by_cases g2 : index < 1
  · have e2 : rt = false := by rw [HR.out]; simp [rrT4, rrT6, rrT8, rrT10, g2]
    subst e2
    clear HR
    go_wp2_with fail
    go_ret
    exact ⟨rfl, by first | exact hb | (rw [hB]; exact hb) | exact below_drewN hb _ | (rw [hB]; exact below_drewN hb _)⟩
  by_cases g3 : (64 : Int) < (data.size : Int)
  · have g3' : 64 < data.size := by omega
    have e2 : rt = false := by rw [HR.out]; simp [rrT4, rrT6, rrT8, rrT10, g3']
    subst e2
    clear HR
    go_wp2_with fail
    go_ret
    exact ⟨rfl, by first | exact hb | (rw [hB]; exact hb) | exact below_drewN hb _ | (rw [hB]; exact below_drewN hb _)⟩
  have g3' : ¬ 64 < data.size := by omega
  by_cases g4 : (64 : Int) < (old.size : Int)
  · have g4' : 64 < old.size := by omega
    have e2 : rt = false := by rw [HR.out]; simp [rrT4, rrT6, rrT8, rrT10, g4']
    subst e2
    clear HR
    go_wp2_with fail
    go_ret
    exact ⟨rfl, by first | exact hb | (rw [hB]; exact hb) | exact below_drewN hb _ | (rw [hB]; exact below_drewN hb _)⟩
  have g4' : ¬ 64 < old.size := by omega
  by_cases g5 : 4294967296 ≤ block
  · have e2 : rt = false := by rw [HR.out]; simp [rrT4, rrT6, rrT8, rrT10, g5]
    subst e2
    clear HR
    go_wp2_with fail
    go_ret
    exact ⟨rfl, by first | exact hb | (rw [hB]; exact hb) | exact below_drewN hb _ | (rw [hB]; exact below_drewN hb _)⟩
  by_cases g6 : 4294967296 ≤ many
  · have e2 : rt = false := by rw [HR.out]; simp [rrT4, rrT6, rrT8, rrT10, g6]
    subst e2
    clear HR
    go_wp2_with fail
    go_ret
    exact ⟨rfl, by first | exact hb | (rw [hB]; exact hb) | exact below_drewN hb _ | (rw [hB]; exact below_drewN hb _)⟩
  go_upto_region 4 with fail
  by_cases q1 : 0 < client
  · have e2 : rt = false := by rw [HR.out]; simp [rrT4, rrT6, rrT8, rrT10, q1]
    subst e2
    clear HR
    go_quiet ((go_at_call 88; refine Calls.quiet_of_same (Hc.out _)))
    go_wp2_with fail
    go_ret
    exact ⟨rfl, by first | exact hb | (rw [hB]; exact hb) | exact below_drewN hb _ | (rw [hB]; exact below_drewN hb _)⟩
  by_cases q2 : 0 < seq
  · have e2 : rt = false := by rw [HR.out]; simp [rrT4, rrT6, rrT8, rrT10, q1, q2]
    subst e2
    clear HR
    go_quiet ((go_at_call 88; refine Calls.quiet_of_same (Hc.out _)))
    go_wp2_with fail
    go_ret
    exact ⟨rfl, by first | exact hb | (rw [hB]; exact hb) | exact below_drewN hb _ | (rw [hB]; exact below_drewN hb _)⟩
  go_quiet ((go_at_call 88; refine Calls.quiet_of_same (Hc.out _)))
  go_upto_region 6 with fail
  by_cases yb : 0 < block
  · have e2 : rt = false := by rw [HR.out]; simp [rrT4, rrT6, rrT8, rrT10, yb]
    subst e2
    clear HR
    go_wp2_with fail
    refine (Hb.out _).mono ?_
    rintro x w8 ⟨rfl, rfl⟩
    go_wp2_with fail
    go_ret
    exact ⟨rfl, by first | exact hb | (rw [hB]; exact hb) | exact below_drewN hb _ | (rw [hB]; exact below_drewN hb _)⟩
  have zb : block = 0 := by omega
  subst zb
  by_cases ym : 0 < many
  · have e2 : rt = false := by rw [HR.out]; simp [rrT4, rrT6, rrT8, rrT10, ym]
    subst e2
    clear HR
    go_wp2_with fail
    refine (Hb.out _).mono ?_
    rintro x w8 ⟨rfl, rfl⟩
    go_wp2_with fail
    refine (Hm.out _).mono ?_
    rintro x w8 ⟨rfl, rfl⟩
    go_wp2_with fail
    go_ret
    exact ⟨rfl, by first | exact hb | (rw [hB]; exact hb) | exact below_drewN hb _ | (rw [hB]; exact below_drewN hb _)⟩
  have zm : many = 0 := by omega
  subst zm
  by_cases yd : data = ⟨#[]⟩
  rotate_left
  · have gi : data.toList.isEmpty = false := by have := text_ne data; rw [decide_eq_true yd] at this; simpa using this.symm
    have gj : ¬ data.toList = [] := by intro q; rw [q] at gi; cases gi
    have e2 : rt = false := by rw [HR.out]; simp [rrT4, rrT6, rrT8, rrT10, yd]
    subst e2
    clear HR
    go_wp2_with fail
    refine (Hb.out _).mono ?_
    rintro x w8 ⟨rfl, rfl⟩
    go_wp2_with fail
    refine (Hm.out _).mono ?_
    rintro x w8 ⟨rfl, rfl⟩
    go_wp2_with fail
    refine (Hd.out _).mono ?_
    rintro x w8 ⟨rfl, rfl⟩
    go_wp2_with fail
    go_ret
    exact ⟨rfl, by first | exact hb | (rw [hB]; exact hb) | exact below_drewN hb _ | (rw [hB]; exact below_drewN hb _)⟩
  subst yd
  by_cases yo : old = ⟨#[]⟩
  rotate_left
  · have gi : old.toList.isEmpty = false := by have := text_ne old; rw [decide_eq_true yo] at this; simpa using this.symm
    have gj : ¬ old.toList = [] := by intro q; rw [q] at gi; cases gi
    have e2 : rt = false := by rw [HR.out]; simp [rrT4, rrT6, rrT8, rrT10, yo]
    subst e2
    clear HR
    go_wp2_with fail
    refine (Hb.out _).mono ?_
    rintro x w8 ⟨rfl, rfl⟩
    go_wp2_with fail
    refine (Hm.out _).mono ?_
    rintro x w8 ⟨rfl, rfl⟩
    go_wp2_with fail
    refine (Hd.out _).mono ?_
    rintro x w8 ⟨rfl, rfl⟩
    go_wp2_with fail
    refine (Ho.out _).mono ?_
    rintro x w8 ⟨rfl, rfl⟩
    go_wp2_with fail
    go_ret
    exact ⟨rfl, by first | exact hb | (rw [hB]; exact hb) | exact below_drewN hb _ | (rw [hB]; exact below_drewN hb _)⟩
  subst yo
  go_wp2_with fail
  refine (Hb.out _).mono ?_
  rintro x w8 ⟨rfl, rfl⟩
  go_wp2_with fail
  refine (Hm.out _).mono ?_
  rintro x w8 ⟨rfl, rfl⟩
  go_wp2_with fail
  refine (Hd.out _).mono ?_
  rintro x w8 ⟨rfl, rfl⟩
  go_wp2_with fail
  refine (Ho.out _).mono ?_
  rintro x w8 ⟨rfl, rfl⟩
  go_wp2_with fail
  by_cases k1 : node < 1
  · have e2 : rt = false := by rw [HR.out]; simp [rrT4, rrT6, rrT8, rrT10, k1]
    subst e2
    clear HR
    refine (Hn.out _).mono ?_
    rintro x w8 ⟨rfl, rfl⟩
    go_wp2_with fail
    go_ret
    exact ⟨rfl, by first | exact hb | (rw [hB]; exact hb) | exact below_drewN hb _ | (rw [hB]; exact below_drewN hb _)⟩
  by_cases k2 : 7 < node
  · have e2 : rt = false := by rw [HR.out]; simp [rrT4, rrT6, rrT8, rrT10, k1, k2]
    subst e2
    clear HR
    refine (Hn.out _).mono ?_
    rintro x w8 ⟨rfl, rfl⟩
    go_wp2_with fail
    go_ret
    exact ⟨rfl, by first | exact hb | (rw [hB]; exact hb) | exact below_drewN hb _ | (rw [hB]; exact below_drewN hb _)⟩
  refine (Hn.out _).mono ?_
  rintro x w8 ⟨rfl, rfl⟩
  go_wp2_with fail
  refine (Hn.out _).mono ?_
  rintro x w8 ⟨rfl, rfl⟩
  go_wp2_with fail
  by_cases j1 : level = 1
  · have e2 : rt = true := by rw [HR.out]; simp [rrT4, rrT6, rrT8, rrT10, g1, g2, g3', g4', g5, g6, q1, q2, yb, ym, k1, k2, j1]
    subst e2
    clear HR
    refine (Hl.out _).mono ?_
    rintro x w8 ⟨rfl, rfl⟩
    go_wp2_with fail
    go_ret
    exact ⟨rfl, by first | exact hb | (rw [hB]; exact hb) | exact below_drewN hb _ | (rw [hB]; exact below_drewN hb _)⟩
  by_cases j2 : level = 2
  · have e2 : rt = true := by rw [HR.out]; simp [rrT4, rrT6, rrT8, rrT10, g1, g2, g3', g4', g5, g6, q1, q2, yb, ym, k1, k2, j1, j2]
    subst e2
    clear HR
    refine (Hl.out _).mono ?_
    rintro x w8 ⟨rfl, rfl⟩
    go_wp2_with fail
    go_ret
    exact ⟨rfl, by first | exact hb | (rw [hB]; exact hb) | exact below_drewN hb _ | (rw [hB]; exact below_drewN hb _)⟩
  have jb : (level == 1) = false := beq_false_of_ne j1
  have jc : (level == 2) = false := beq_false_of_ne j2
  have e2 : rt = false := by rw [HR.out]; simp [rrT4, rrT6, rrT8, rrT10, j1, j2]
  subst e2
  clear HR
  refine (Hl.out _).mono ?_
  rintro x w8 ⟨rfl, rfl⟩
  go_wp2_with fail
  refine (Hl.out _).mono ?_
  rintro x w8 ⟨rfl, rfl⟩
  go_wp2_with fail
  go_ret
  exact ⟨rfl, by first | exact hb | (rw [hB]; exact hb) | exact below_drewN hb _ | (rw [hB]; exact below_drewN hb _)⟩
set_option maxHeartbeats 3200000 in
theorem rr4_right_cbdo (e : En) (ho : e.ok) (hok : (enF e.kind).2 = true) (qc : enHas (enF e.kind).1 99 = true) (qb : enHas (enF e.kind).1 98 = true) (qm : enHas (enF e.kind).1 109 = false) (qd : enHas (enF e.kind).1 100 = true) (qo : enHas (enF e.kind).1 111 = true) (qn : enHas (enF e.kind).1 110 = false) (ql : enHas (enF e.kind).1 108 = false) (w : World) :
    Calls Try.prog 63 #[.agg e.cells] w fun x w' => x = .returned (.bool e.right) ∧ Below w.heap.size w w' := by
  have hse := str_beq
  have HR := Pin.Aside.mk (rr_right e ho.client.1 ho.seq.1 ho.block.1 ho.many.1)
  have Hf := Pin.Aside.mk (fun W => mk_fields e.kind W)
  have Hc := Pin.Aside.mk (fun W => rr4_has (enF e.kind).1 99 99 (by decide) (Nat.le_trans (enF_size e.kind) (by omega)) W)
  have Hb := Pin.Aside.mk (fun W => rr4_has (enF e.kind).1 98 98 (by decide) (Nat.le_trans (enF_size e.kind) (by omega)) W)
  have Hm := Pin.Aside.mk (fun W => rr4_has (enF e.kind).1 109 109 (by decide) (Nat.le_trans (enF_size e.kind) (by omega)) W)
  have Hd := Pin.Aside.mk (fun W => rr4_has (enF e.kind).1 100 100 (by decide) (Nat.le_trans (enF_size e.kind) (by omega)) W)
  have Ho := Pin.Aside.mk (fun W => rr4_has (enF e.kind).1 111 111 (by decide) (Nat.le_trans (enF_size e.kind) (by omega)) W)
  have Hn := Pin.Aside.mk (fun W => rr4_has (enF e.kind).1 110 110 (by decide) (Nat.le_trans (enF_size e.kind) (by omega)) W)
  have Hl := Pin.Aside.mk (fun W => rr4_has (enF e.kind).1 108 108 (by decide) (Nat.le_trans (enF_size e.kind) (by omega)) W)
  have hk := (Keep.refl (fun _ => False) w).alloc (.cells e.cells 32)
  have hb := hk.below (Nat.le_refl _) fun _ q => q.elim
  have hE := EnAt.new w 32 e
  have hz : ((w.alloc (.cells e.cells 32)).heap.size) = w.heap.size + 1 := by simp
  have o1 := ho.client.1
  have o2 := ho.seq.1
  have o3 := ho.block.1
  have o4 := ho.many.1
  clear hk ho
  rw [hok] at Hf
  unfold rrT2 at HR
  rw [hok] at HR
  rw [qc, qb, qm, qd, qo, qn, ql] at HR
  rw [qc] at Hc
  rw [qb] at Hb
  rw [qm] at Hm
  rw [qd] at Hd
  rw [qo] at Ho
  rw [qn] at Hn
  rw [ql] at Hl
  clear qc qb qm qd qo qn ql
  clear hok
  obtain ⟨s, hs⟩ : ∃ s, (enF e.kind).1 = s := ⟨_, rfl⟩
  rw [hs] at Hf
  rw [hs] at Hc
  rw [hs] at Hb
  rw [hs] at Hm
  rw [hs] at Hd
  rw [hs] at Ho
  rw [hs] at Hn
  rw [hs] at Hl
  clear hs
  obtain ⟨rt, hrt⟩ : ∃ rt, e.right = rt := ⟨_, rfl⟩
  rw [hrt] at HR ⊢
  clear hrt
  obtain ⟨term, index, kind, client, seq, block, many, node, level, data, old⟩ := e
  dsimp only [En.cells] at *
  go_enter Try.func63, Try.ntmps63
  go_upto_region 1 with fail
  generalize w.alloc _ = wa at *
  generalize hB : w.heap.size = B at *
  obtain ⟨c0, c1, c2, c3, c4, c5, c6, c7, c8, c9, c10⟩ := hE
  dsimp only at c0 c1 c2 c3 c4 c5 c6 c7 c8 c9 c10
  simp only [Nat.zero_add] at c0 c1 c2 c3 c4 c5 c6 c7 c8 c9 c10
  go_wp2_with fail
  refine (Hf.out _).mono ?_
  rintro x w1 ⟨rfl, hbb⟩
  replace hb := hb.trans (hbb.mono (by omega))
  have hkk : Keep (fun _ => False) wa w1 := Keep.of_below hbb fun _ q _ => q
  replace c0 := hkk.cell c0 id
  replace c1 := hkk.cell c1 id
  replace c2 := hkk.cell c2 id
  replace c3 := hkk.cell c3 id
  replace c4 := hkk.cell c4 id
  replace c5 := hkk.cell c5 id
  replace c6 := hkk.cell c6 id
  replace c7 := hkk.cell c7 id
  replace c8 := hkk.cell c8 id
  replace c9 := hkk.cell c9 id
  replace c10 := hkk.cell c10 id
  clear hkk hbb hz Hf
  by_cases g1 : term < 1
  · have e2 : rt = false := by rw [HR.out]; simp [rrT4, rrT6, rrT8, rrT10, g1]
    subst e2
    clear HR
    go_wp2_with fail
    go_ret
    exact ⟨rfl, by first | exact hb | (rw [hB]; exact hb) | exact below_drewN hb _ | (rw [hB]; exact below_drewN hb _)⟩
  by_cases g2 : index < 1
  · have e2 : rt = false := by rw [HR.out]; simp [rrT4, rrT6, rrT8, rrT10, g2]
    subst e2
    clear HR
    go_wp2_with fail
    go_ret
    exact ⟨rfl, by first | exact hb | (rw [hB]; exact hb) | exact below_drewN hb _ | (rw [hB]; exact below_drewN hb _)⟩
  by_cases g3 : (64 : Int) < (data.size : Int)
  · have g3' : 64 < data.size := by omega
    have e2 : rt = false := by rw [HR.out]; simp [rrT4, rrT6, rrT8, rrT10, g3']
    subst e2
    clear HR
    go_wp2_with fail
    go_ret
    exact ⟨rfl, by first | exact hb | (rw [hB]; exact hb) | exact below_drewN hb _ | (rw [hB]; exact below_drewN hb _)⟩
  have g3' : ¬ 64 < data.size := by omega
  by_cases g4 : (64 : Int) < (old.size : Int)
  · have g4' : 64 < old.size := by omega
    have e2 : rt = false := by rw [HR.out]; simp [rrT4, rrT6, rrT8, rrT10, g4']
    subst e2
    clear HR
    go_wp2_with fail
    go_ret
    exact ⟨rfl, by first | exact hb | (rw [hB]; exact hb) | exact below_drewN hb _ | (rw [hB]; exact below_drewN hb _)⟩
  have g4' : ¬ 64 < old.size := by omega
  by_cases g5 : 4294967296 ≤ block
  · have e2 : rt = false := by rw [HR.out]; simp [rrT4, rrT6, rrT8, rrT10, g5]
    subst e2
    clear HR
    go_wp2_with fail
    go_ret
    exact ⟨rfl, by first | exact hb | (rw [hB]; exact hb) | exact below_drewN hb _ | (rw [hB]; exact below_drewN hb _)⟩
  by_cases g6 : 4294967296 ≤ many
  · have e2 : rt = false := by rw [HR.out]; simp [rrT4, rrT6, rrT8, rrT10, g6]
    subst e2
    clear HR
    go_wp2_with fail
    go_ret
    exact ⟨rfl, by first | exact hb | (rw [hB]; exact hb) | exact below_drewN hb _ | (rw [hB]; exact below_drewN hb _)⟩
  go_upto_region 4 with fail
  by_cases q1 : 0 < client
  rotate_left
  · have e2 : rt = false := by rw [HR.out]; simp [rrT4, rrT6, rrT8, rrT10, q1]
    subst e2
    clear HR
    go_quiet ((go_at_call 88; refine Calls.quiet_of_same (Hc.out _)))
    go_wp2_with fail
    go_ret
    exact ⟨rfl, by first | exact hb | (rw [hB]; exact hb) | exact below_drewN hb _ | (rw [hB]; exact below_drewN hb _)⟩
  go_quiet ((go_at_call 88; refine Calls.quiet_of_same (Hc.out _)))
  go_upto_region 6 with fail
  by_cases ym : 0 < many
  · have e2 : rt = false := by rw [HR.out]; simp [rrT4, rrT6, rrT8, rrT10, ym]
    subst e2
    clear HR
    go_wp2_with fail
    refine (Hb.out _).mono ?_
    rintro x w8 ⟨rfl, rfl⟩
    go_wp2_with fail
    refine (Hm.out _).mono ?_
    rintro x w8 ⟨rfl, rfl⟩
    go_wp2_with fail
    go_ret
    exact ⟨rfl, by first | exact hb | (rw [hB]; exact hb) | exact below_drewN hb _ | (rw [hB]; exact below_drewN hb _)⟩
  have zm : many = 0 := by omega
  subst zm
  go_wp2_with fail
  refine (Hb.out _).mono ?_
  rintro x w8 ⟨rfl, rfl⟩
  go_wp2_with fail
  refine (Hm.out _).mono ?_
  rintro x w8 ⟨rfl, rfl⟩
  go_wp2_with fail
  refine (Hd.out _).mono ?_
  rintro x w8 ⟨rfl, rfl⟩
  go_wp2_with fail
  refine (Ho.out _).mono ?_
  rintro x w8 ⟨rfl, rfl⟩
  go_wp2_with fail
  by_cases k1 : node = 0
  rotate_left
  · have e2 : rt = false := by rw [HR.out]; simp [rrT4, rrT6, rrT8, rrT10, k1]
    subst e2
    clear HR
    refine (Hn.out _).mono ?_
    rintro x w8 ⟨rfl, rfl⟩
    go_wp2_with fail
    refine (Hn.out _).mono ?_
    rintro x w8 ⟨rfl, rfl⟩
    go_wp2_with fail
    go_ret
    exact ⟨rfl, by first | exact hb | (rw [hB]; exact hb) | exact below_drewN hb _ | (rw [hB]; exact below_drewN hb _)⟩
  refine (Hn.out _).mono ?_
  rintro x w8 ⟨rfl, rfl⟩
  go_wp2_with fail
  refine (Hn.out _).mono ?_
  rintro x w8 ⟨rfl, rfl⟩
  go_wp2_with fail
  by_cases j1 : level = 0
  · have e2 : rt = true := by rw [HR.out]; simp [rrT4, rrT6, rrT8, rrT10, g1, g2, g3', g4', g5, g6, q1, ym, k1, j1]
    subst e2
    clear HR
    refine (Hl.out _).mono ?_
    rintro x w8 ⟨rfl, rfl⟩
    go_wp2_with fail
    refine (Hl.out _).mono ?_
    rintro x w8 ⟨rfl, rfl⟩
    go_wp2_with fail
    go_ret
    exact ⟨rfl, by first | exact hb | (rw [hB]; exact hb) | exact below_drewN hb _ | (rw [hB]; exact below_drewN hb _)⟩
  have jb : (level == 0) = false := beq_false_of_ne j1
  have e2 : rt = false := by rw [HR.out]; simp [rrT4, rrT6, rrT8, rrT10, j1]
  subst e2
  clear HR
  refine (Hl.out _).mono ?_
  rintro x w8 ⟨rfl, rfl⟩
  go_wp2_with fail
  refine (Hl.out _).mono ?_
  rintro x w8 ⟨rfl, rfl⟩
  go_wp2_with fail
  go_ret
  exact ⟨rfl, by first | exact hb | (rw [hB]; exact hb) | exact below_drewN hb _ | (rw [hB]; exact below_drewN hb _)⟩
theorem rr4_right (e : En) (ho : e.ok) (w : World) :
    Calls Try.prog 63 #[.agg e.cells] w fun x w' => x = .returned (.bool e.right) ∧ Below w.heap.size w w' := by
  by_cases hok : (enF e.kind).2 = true
  case neg => exact rr4_right_no e ho (by simpa using hok) w
  have h := hok
  unfold enF at hok
  split at hok
  · rename_i q; exact rr4_right_cbd e ho h (by rw [q]; decide) (by rw [q]; decide) (by rw [q]; decide) (by rw [q]; decide) (by rw [q]; decide) (by rw [q]; decide) (by rw [q]; decide) w
  split at hok
  · rename_i q; exact rr4_right_cbm e ho h (by rw [q]; decide) (by rw [q]; decide) (by rw [q]; decide) (by rw [q]; decide) (by rw [q]; decide) (by rw [q]; decide) (by rw [q]; decide) w
  split at hok
  · rename_i q; exact rr4_right_cm e ho h (by rw [q]; decide) (by rw [q]; decide) (by rw [q]; decide) (by rw [q]; decide) (by rw [q]; decide) (by rw [q]; decide) (by rw [q]; decide) w
  split at hok
  · rename_i q; exact rr4_right_c e ho h (by rw [q]; decide) (by rw [q]; decide) (by rw [q]; decide) (by rw [q]; decide) (by rw [q]; decide) (by rw [q]; decide) (by rw [q]; decide) w
  split at hok
  · rename_i q; rcases q with q | q <;> exact rr4_right_n e ho h (by rw [q]; decide) (by rw [q]; decide) (by rw [q]; decide) (by rw [q]; decide) (by rw [q]; decide) (by rw [q]; decide) (by rw [q]; decide) w
  split at hok
  · rename_i q; exact rr4_right_nl e ho h (by rw [q]; decide) (by rw [q]; decide) (by rw [q]; decide) (by rw [q]; decide) (by rw [q]; decide) (by rw [q]; decide) (by rw [q]; decide) w
  split at hok
  · rename_i q; exact rr4_right_cbdo e ho h (by rw [q]; decide) (by rw [q]; decide) (by rw [q]; decide) (by rw [q]; decide) (by rw [q]; decide) (by rw [q]; decide) (by rw [q]; decide) w
  split at hok
  · rename_i q; rcases q with q | q | q | q <;> exact rr4_right_e e ho h (by rw [q]; decide) (by rw [q]; decide) (by rw [q]; decide) (by rw [q]; decide) (by rw [q]; decide) (by rw [q]; decide) (by rw [q]; decide) w
  · cases hok
end Go.Proofs.Ythlmigbimeldbaa
