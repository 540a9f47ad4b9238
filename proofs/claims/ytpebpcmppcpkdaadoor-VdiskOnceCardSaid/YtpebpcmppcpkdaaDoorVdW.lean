/- vdisk: New, Blocks, bounds, bare, whole, set. -/
import Derived.Test.YtpebpcmppcpkdaaDoorVdM
import Derived.Test.YtpebpcmppcpkdaaDoorVdT
set_option maxRecDepth 16000
namespace Go.Pin
open Go.RowKit
set_option linter.unusedVariables false
set_option linter.unusedSimpArgs false
theorem trimRight_le (l : List UInt8) (c : UInt8) : (Lib.trimRightB l c).length ≤ l.length := by
  unfold Lib.trimRightB
  rw [List.length_reverse]
  have := (List.dropWhile_sublist (p := (· == c)) (l := l.reverse)).length_le
  rwa [List.length_reverse] at this
theorem repeat_len (n : Nat) : (Lib.repeatL [0] n).length = n := by
  induction n with
  | zero => rfl
  | succ n ih => simp [Lib.repeatL, ih]; try omega
theorem bareB_size (s : ByteArray) : (bareB s).size ≤ s.size := by
  have := trimRight_le s.data.toList 0
  show (Lib.trimRightB s.data.toList 0).toArray.size ≤ s.data.size
  rw [List.size_toArray]
  simpa using this
end Go.Pin
namespace Go.Proofs.YtpebpcmppcpkdaaDoor
open Go.RowKit Go.Pin
set_option linter.unusedVariables false
set_option linter.unusedSimpArgs false
theorem vd_cells (W : World) (B m1 m2 : Nat) (T : TypeId) (h : W.heap.size = B) : (W.alloc (.cells #[.int .u64 0, .map (some m1), .map (some m2)] T)).cell? ⟨B, 0, none⟩ = some (.int .u64 0) ∧ (W.alloc (.cells #[.int .u64 0, .map (some m1), .map (some m2)] T)).cell? ⟨B, 1, none⟩ = some (.map (some m1)) ∧
    (W.alloc (.cells #[.int .u64 0, .map (some m1), .map (some m2)] T)).cell? ⟨B, 2, none⟩ = some (.map (some m2)) ∧ ∀ j, (W.alloc (.cells #[.int .u64 0, .map (some m1), .map (some m2)] T)).frozen? ⟨B, j, none⟩ = false := by
  subst h
  refine ⟨by simp, by simp, by simp, fun j => by simp⟩
theorem vd_new (w : World) : Calls Tryd.prog 17 #[] w fun x w' => x = .returned (.pointer (some ⟨w.heap.size + 2, 0, none⟩)) ∧ VdAt w' (w.heap.size + 2) w.heap.size (w.heap.size + 1) ⟨0, [], []⟩ ∧ Below w.heap.size w w' := by
  have hmm := @run_makeMap Tryd.prog
  have h1 := MapAt.made w .u64
  have h2 := MapAt.made (w.alloc (.map #[] 0)) .u64
  have k1 := (Keep.refl (fun _ => False) w).alloc (.map #[] 0)
  have k2 := (Keep.refl (fun _ => False) (w.alloc (.map #[] 0))).alloc (.map #[] 0)
  have k3 := (Keep.refl (fun _ => False) ((w.alloc (.map #[] 0)).alloc (.map #[] 0))).alloc (.cells #[.int .u64 0, .map (some w.heap.size), .map (some (w.heap.size + 1))] 64)
  have hs1 : (w.alloc (.map #[] 0)).heap.size = w.heap.size + 1 := by simp
  have hs2 : ((w.alloc (.map #[] 0)).alloc (.map #[] 0)).heap.size = w.heap.size + 2 := by simp
  rw [hs1] at h2
  have HV : VdAt (((w.alloc (.map #[] 0)).alloc (.map #[] 0)).alloc (.cells #[.int .u64 0, .map (some w.heap.size), .map (some (w.heap.size + 1))] 64)) (w.heap.size + 2) w.heap.size (w.heap.size + 1) ⟨0, [], []⟩ := by
    refine ⟨?_, ?_, ?_, ?_, (h1.keep k2 id).keep k3 id, h2.keep k3 id, by omega, by omega, by omega⟩
    · exact (vd_cells _ _ _ _ _ hs2).1
    · exact (vd_cells _ _ _ _ _ hs2).2.1
    · exact (vd_cells _ _ _ _ _ hs2).2.2.1
    · exact (vd_cells _ _ _ _ _ hs2).2.2.2
  have HV2 := Pin.Aside.mk HV
  have HB := Pin.Aside.mk (((k1.trans k2).trans k3).below (Nat.le_refl _) fun _ q => q.elim)
  clear HV h1 h2 k1 k2 k3 hs1 hs2
  go_enter Tryd.func17, Tryd.ntmps17
  go_wp2_with fail
  go_ret
  exact ⟨rfl, HV2.out, HB.out⟩
theorem vd_blocks (b mb mo : Nat) (D : Vd) (w : World) (h : VdAt w b mb mo D) : Calls Tryd.prog 15 #[.pointer (some ⟨b, 0, none⟩)] w fun x w' => x = .returned (.int .u64 D.many) ∧ w' = w := by
  have c0 := h.c0
  clear h
  go_enter Tryd.func15, Tryd.ntmps15
  go_wp2_with fail
  go_ret
  exact ⟨rfl, rfl⟩
theorem vd_bounds (b mb mo : Nat) (D : Vd) (x m : Int) (hm : 0 ≤ D.many ∧ D.many ≤ 18446744073709551615) (hx : 0 ≤ x ∧ x ≤ 18446744073709551615) (w : World) (h : VdAt w b mb mo D) :
    Calls Tryd.prog 27 #[.pointer (some ⟨b, 0, none⟩), .int .u64 x, .int .u64 m] w fun e w' => e = .returned (.bool (D.bounds x m)) ∧ w' = w := by
  have c0 := h.c0
  have HR := Pin.Aside.mk (show D.bounds x m = (decide (x ≤ D.many) && decide (m ≤ D.many - x)) from rfl)
  clear h
  obtain ⟨M, hM⟩ : ∃ M, D.many = M := ⟨_, rfl⟩
  rw [hM] at c0 HR hm
  by_cases h1 : x ≤ M
  · have hw : IntKind.u64.wrap (M - x) = M - x := by rw [IntKind.wrap_u64]; omega
    by_cases h2 : m ≤ M - x
    · have HQ := Pin.Aside.mk (show D.bounds x m = true by rw [HR.out]; simp [h1, h2])
      clear HR hM
      go_enter Tryd.func27, Tryd.ntmps27
      go_wp2_with fail
      go_ret
      exact ⟨by rw [HQ.out]; simp [h2], rfl⟩
    · have HQ := Pin.Aside.mk (show D.bounds x m = false by rw [HR.out]; simp [h1, h2])
      clear HR hM
      go_enter Tryd.func27, Tryd.ntmps27
      go_wp2_with fail
      go_ret
      exact ⟨by rw [HQ.out]; simp [h2], rfl⟩
  · have HQ := Pin.Aside.mk (show D.bounds x m = false by rw [HR.out]; simp [h1])
    clear HR hM
    go_enter Tryd.func27, Tryd.ntmps27
    go_wp2_with fail
    go_ret
    exact ⟨by rw [HQ.out]; rfl, rfl⟩
theorem vd_bare (s : ByteArray) (hs : s.size ≤ 9223372036854775807) (w : World) : Calls Tryd.prog 47 #[.string s] w fun x w' => x = .returned (.string (bareB s)) ∧ w' = w := by
  have Hc := Pin.Aside.mk (fun W => YtpebpcmppcpkdaaDoorSh.strings_TrimRight_one s 0 (by decide) W hs)
  have HR := Pin.Aside.mk (show bareB s = ⟨(Lib.trimRightB s.data.toList 0).toArray⟩ from rfl)
  rw [← HR.out] at Hc
  generalize bareB s = t at *
  clear HR
  go_enter Tryd.func47, Tryd.ntmps47
  go_wp2_with fail
  refine (Hc.out _).mono ?_
  rintro x w1 ⟨rfl, rfl⟩
  go_wp2_with fail
  go_ret
  exact ⟨rfl, rfl⟩
theorem vd_lookup (D : Vd) (b mb mo : Nat) (k : Int) (w : World) (h : VdAt w b mb mo D) : (Instr.lookup 61 (.map (some mb)) (.int .u64 k) false).run Tryd.prog w = .ok (.string (D.blk k)) w := by
  rw [run_map_lookup (P := Tryd.prog) (t := 61) h.bm Tryd.underlying61 Tryd.underlying25 k (z := .string ⟨#[]⟩) rfl, mget_ents]
  unfold Vd.blk
  cases aget D.blocks k <;> rfl
theorem vd_whole (b mb mo : Nat) (D : Vd) (k : Int) (hs : (D.blk k).size ≤ 64) (w : World) (h : VdAt w b mb mo D) :
    Calls Tryd.prog 29 #[.pointer (some ⟨b, 0, none⟩), .int .u64 k] w fun x w' => x = .returned (.string (wholeB (D.blk k))) ∧ Below w.heap.size w w' := by
  have c1 := h.c1
  have hl := vd_lookup D b mb mo k w h
  clear h
  generalize D.blk k = s at *
  have Hc := Pin.Aside.mk (fun W => YtpebpcmppcpkdaaDoorSh.strings_Repeat ⟨#[0]⟩ (64 - s.size) W (by omega) (by show 1 * _ ≤ _; omega))
  have HR := Pin.Aside.mk (show wholeB s = s ++ ⟨(Lib.repeatL [0] (64 - s.size)).toArray⟩ from rfl)
  obtain ⟨r, hr⟩ : ∃ r : ByteArray, (⟨(Lib.repeatL (⟨#[0]⟩ : ByteArray).data.toList (64 - s.size)).toArray⟩ : ByteArray) = r := ⟨_, rfl⟩
  have hr2 : (⟨(Lib.repeatL [0] (64 - s.size)).toArray⟩ : ByteArray) = r := hr
  rw [hr] at Hc
  rw [hr2] at HR
  have hz : (64 : Int) - (s.size : Int) = ((64 - s.size : Nat) : Int) := by omega
  have hrs : r.size = 64 - s.size := by
    rw [← hr2]
    show (Lib.repeatL [0] (64 - s.size)).toArray.size = _
    rw [List.size_toArray, repeat_len]
  have hsum : s.size + r.size ≤ 9223372036854775807 := by omega
  clear hr hr2
  go_enter Tryd.func29, Tryd.ntmps29
  go_wp2_with fail
  refine (Hc.out _).mono ?_
  rintro x w1 ⟨rfl, hbb⟩
  go_wp2_with fail
  go_ret
  exact ⟨by rw [HR.out]; rfl, hbb⟩
theorem vd_set (b mb mo : Nat) (D : Vd) (k : Int) (s : ByteArray) (hs : s.size ≤ 9223372036854775807) (w : World) (h : VdAt w b mb mo D) :
    Calls Tryd.prog 41 #[.pointer (some ⟨b, 0, none⟩), .int .u64 k, .string s] w fun x w' => x = .returned (.tuple #[]) ∧ VdAt w' b mb mo (D.setB k s) ∧ Keep (VK b mb mo) w w' := by
  have hse := str_beq
  have c1 := h.c1
  have Hc := Pin.Aside.mk (fun W => vd_bare s hs W)
  by_cases hb : bareB s = ⟨#[]⟩
  · obtain ⟨w1, hd, hm, hk, hz⟩ := run_map_delete (P := Tryd.prog) (t := 61) h.bm Tryd.underlying61 Tryd.underlying25 k 0
    rw [del_ents] at hm
    have HQ := Pin.Aside.mk (h.blocks hk hm)
    have HK := Pin.Aside.mk (hk.mono (T := VK b mb mo) fun j q => .inr (.inl q))
    have HR := Pin.Aside.mk (show D.setB k s = { D with blocks := adel D.blocks k } by unfold Vd.setB; rw [if_pos hb])
    rw [hb] at Hc
    clear h hm hk hb
    go_enter Tryd.func41, Tryd.ntmps41
    go_wp2_with fail
    refine (Hc.out _).mono ?_
    rintro x w2 ⟨rfl, rfl⟩
    go_wp2_with fail
    go_end0
    exact ⟨rfl, by rw [HR.out]; exact HQ.out, HK.out⟩
  · obtain ⟨w1, hd, hm, hk, hz⟩ := run_map_update (P := Tryd.prog) (t := 61) h.bm Tryd.underlying61 Tryd.underlying25 k (.string (bareB s))
    rw [mset_ents] at hm
    have HQ := Pin.Aside.mk (h.blocks hk hm)
    have HK := Pin.Aside.mk (hk.mono (T := VK b mb mo) fun j q => .inr (.inl q))
    have HR := Pin.Aside.mk (show D.setB k s = { D with blocks := aset D.blocks k (bareB s) } by unfold Vd.setB; rw [if_neg hb])
    have hb1 : (bareB s).toList.isEmpty = false := by have := text_ne (bareB s); rw [decide_eq_true hb] at this; simpa using this.symm
    have hb2 : ¬ (bareB s).toList = [] := by intro q; rw [q] at hb1; cases hb1
    generalize bareB s = t at *
    clear h hm hk
    go_enter Tryd.func41, Tryd.ntmps41
    go_wp2_with fail
    refine (Hc.out _).mono ?_
    rintro x w2 ⟨rfl, rfl⟩
    go_wp2_with fail
    go_end0
    exact ⟨rfl, by rw [HR.out]; exact HQ.out, HK.out⟩
end Go.Proofs.YtpebpcmppcpkdaaDoor
