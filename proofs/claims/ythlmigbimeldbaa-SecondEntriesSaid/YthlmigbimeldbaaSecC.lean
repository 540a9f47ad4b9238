/- second: a field's closures: what they put; the makers of fields. -/
import Derived.Test.YthlmigbimeldbaaSecM
import Derived.Test.YthlmigbimeldbaaVarW
import Derived.OpenShut
import Derived.Laws.EntriesVeiled
set_option maxRecDepth 16000
namespace Go.Pin
open Go.RowKit
set_option linter.unusedVariables false
set_option linter.unusedSimpArgs false
def numB (x : Int) : ByteArray := bs (FV.enc (.n x))
def txtB (s : ByteArray) : ByteArray := bs (FV.enc (.t s))
theorem numB_eq (x : Int) : numB x = if decide (x = 0) = true then ⟨#[]⟩ else vputS x.toNat := by
  unfold numB FV.enc
  dsimp only
  by_cases h : x = 0
  · simp [h]; rfl
  · simp [h]; rfl
theorem txtB_eq (s : ByteArray) : txtB s = if decide (s = ⟨#[]⟩) = true then ⟨#[]⟩ else textS s := by
  unfold txtB FV.enc
  dsimp only
  by_cases h : s = ⟨#[]⟩
  · simp [h]; rfl
  · simp only [h, if_false, decide_false]
    rw [if_neg (by simp)]
    apply bs_ext
    unfold textS vputS
    rw [bs_data, ByteArray.data_append, Array.toList_append]
end Go.Pin
namespace Go.Proofs.Ythlmigbimeldbaa
open Go.RowKit Go.Pin
set_option linter.unusedVariables false
set_option linter.unusedSimpArgs false
theorem sec_none (z : Bool) (s : ByteArray) (w : World) : Calls Try.prog 103 #[.bool z, .string s] w fun e w' => e = .returned (.string (if z = true then ⟨#[]⟩ else s)) ∧ w' = w := by
  cases z
  · go_enter Try.func103, Try.ntmps103
    go_wp2_with fail
    go_ret
    exact ⟨rfl, rfl⟩
  · go_enter Try.func103, Try.ntmps103
    go_wp2_with fail
    go_ret
    exact ⟨rfl, rfl⟩
set_option maxHeartbeats 800000 in
theorem sec_put_int (P A i : Nat) (x : Int) (h0 : 0 ≤ x) (h1 : x ≤ 9223372036854775807) (w : World) (hp : w.cell? ⟨P, 0, none⟩ = some (.pointer (some ⟨A, i, none⟩))) (ha : w.cell? ⟨A, i, none⟩ = some (.int .i64 x)) :
    Calls Try.prog 102 #[.pointer (some ⟨P, 0, none⟩)] w fun e w' => e = .returned (.string (numB x)) ∧ Below w.heap.size w w' := by
  have k0 : ∀ s' : KW (fun _ => False) w, s'.w.cell? ⟨P, 0, none⟩ = some (.pointer (some ⟨A, i, none⟩)) := fun s' => s'.keep.cell hp id
  have k1 : ∀ s' : KW (fun _ => False) w, s'.w.cell? ⟨A, i, none⟩ = some (.int .i64 x) := fun s' => s'.keep.cell ha id
  have hw : IntKind.u64.wrap x = x := by rw [IntKind.wrap_u64]; omega
  have HE := Pin.Aside.mk (numB_eq x)
  have HV := Pin.Aside.mk (fun W => var_put x h0 (by omega) W)
  generalize vputS x.toNat = V at *
  have hb : (x == 0) = decide (x = 0) := by by_cases h : x = 0 <;> simp [h]
  go_enter Try.func102, Try.ntmps102
  go_upto_region 1 with fail
  refine wp_region_keep (fun _ => False) (by kernel_rfl) (by kernel_rfl) ?_
  repeat (go_big_quiet_step ((first | (go_at_call 40; with_reducible exact KW.calls (HV.out _)) | (go_at_call 103; with_reducible exact KW.calls_same (sec_none _ _ _)))))
  refine wpQuiet_nil ?_
  intro s4
  have hbs := s4.below
  clear k0 k1
  go_wp2_with fail
  all_goals go_ret
  · refine ⟨?_, hbs⟩
    rw [HE.out, if_pos (by assumption)]; rfl
  · refine ⟨?_, hbs⟩
    rw [HE.out, if_neg (by assumption)]; rfl
set_option maxHeartbeats 800000 in
theorem sec_put_u64 (P A i : Nat) (x : Int) (h0 : 0 ≤ x) (h1 : x ≤ 18446744073709551615) (w : World) (hp : w.cell? ⟨P, 0, none⟩ = some (.pointer (some ⟨A, i, none⟩))) (ha : w.cell? ⟨A, i, none⟩ = some (.int .u64 x)) :
    Calls Try.prog 105 #[.pointer (some ⟨P, 0, none⟩)] w fun e w' => e = .returned (.string (numB x)) ∧ Below w.heap.size w w' := by
  have k0 : ∀ s' : KW (fun _ => False) w, s'.w.cell? ⟨P, 0, none⟩ = some (.pointer (some ⟨A, i, none⟩)) := fun s' => s'.keep.cell hp id
  have k1 : ∀ s' : KW (fun _ => False) w, s'.w.cell? ⟨A, i, none⟩ = some (.int .u64 x) := fun s' => s'.keep.cell ha id
  have hw : IntKind.u64.wrap x = x := by rw [IntKind.wrap_u64]; omega
  have HE := Pin.Aside.mk (numB_eq x)
  have HV := Pin.Aside.mk (fun W => var_put x h0 (by omega) W)
  generalize vputS x.toNat = V at *
  have hb : (x == 0) = decide (x = 0) := by by_cases h : x = 0 <;> simp [h]
  go_enter Try.func105, Try.ntmps105
  go_upto_region 1 with fail
  refine wp_region_keep (fun _ => False) (by kernel_rfl) (by kernel_rfl) ?_
  repeat (go_big_quiet_step ((first | (go_at_call 40; with_reducible exact KW.calls (HV.out _)) | (go_at_call 103; with_reducible exact KW.calls_same (sec_none _ _ _)))))
  refine wpQuiet_nil ?_
  intro s4
  have hbs := s4.below
  clear k0 k1
  go_wp2_with fail
  all_goals go_ret
  · refine ⟨?_, hbs⟩
    rw [HE.out, if_pos (by assumption)]; rfl
  · refine ⟨?_, hbs⟩
    rw [HE.out, if_neg (by assumption)]; rfl
set_option maxHeartbeats 800000 in
theorem sec_put_text (P A i : Nat) (x : ByteArray) (hx : x.size ≤ 1152921504606846976) (w : World) (hp : w.cell? ⟨P, 0, none⟩ = some (.pointer (some ⟨A, i, none⟩))) (ha : w.cell? ⟨A, i, none⟩ = some (.string x)) :
    Calls Try.prog 107 #[.pointer (some ⟨P, 0, none⟩)] w fun e w' => e = .returned (.string (txtB x)) ∧ Below w.heap.size w w' := by
  have k0 : ∀ s' : KW (fun _ => False) w, s'.w.cell? ⟨P, 0, none⟩ = some (.pointer (some ⟨A, i, none⟩)) := fun s' => s'.keep.cell hp id
  have k1 : ∀ s' : KW (fun _ => False) w, s'.w.cell? ⟨A, i, none⟩ = some (.string x) := fun s' => s'.keep.cell ha id
  have HE := Pin.Aside.mk (txtB_eq x)
  rw [text_eq] at HE
  have HV := Pin.Aside.mk (fun W => var_text x hx W)
  generalize textS x = V at *
  have hse := str_beq
  go_enter Try.func107, Try.ntmps107
  go_upto_region 1 with fail
  refine wp_region_keep (fun _ => False) (by kernel_rfl) (by kernel_rfl) ?_
  repeat (go_big_quiet_step ((first | (go_at_call 108; with_reducible exact KW.calls (HV.out _)) | (go_at_call 103; with_reducible exact KW.calls_same (sec_none _ _ _)))))
  refine wpQuiet_nil ?_
  intro s4
  have hbs := s4.below
  clear k0 k1
  go_wp2_with fail
  all_goals go_ret
  · refine ⟨?_, hbs⟩
    rw [HE.out, if_pos (by assumption)]; rfl
  · refine ⟨?_, hbs⟩
    rw [HE.out, if_neg (by assumption)]; rfl
theorem sec_number_int (A i : Nat) (w : World) :
    Calls Try.prog 85 #[.pointer (some ⟨A, i, none⟩)] w fun e w' => ∃ P, e = .returned (.agg #[.func (.func 102) #[] #[.pointer (some ⟨P, 0, none⟩)], .func (.func 104) #[] #[.pointer (some ⟨P, 0, none⟩)]]) ∧ w.heap.size ≤ P ∧ w'.cell? ⟨P, 0, none⟩ = some (.pointer (some ⟨A, i, none⟩)) ∧ Below w.heap.size w w' := by
  go_enter Try.func85, Try.ntmps85
  go_wp2_with fail
  refine bodyPost_ret (v := .agg #[.func (.func 102) #[] #[.pointer (some ⟨w.heap.size, 0, none⟩)], .func (.func 104) #[] #[.pointer (some ⟨w.heap.size, 0, none⟩)]]) (by simp [results, Try.results85, go_sem]) rfl ⟨w.heap.size, rfl, Nat.le_refl _, ?_, ?_⟩
  · simp
  · exact (((Keep.refl (fun _ => False) w).alloc _).alloc _).below (Nat.le_refl _) fun _ q => q.elim
theorem sec_number_u64 (A i : Nat) (w : World) :
    Calls Try.prog 86 #[.pointer (some ⟨A, i, none⟩)] w fun e w' => ∃ P, e = .returned (.agg #[.func (.func 105) #[] #[.pointer (some ⟨P, 0, none⟩)], .func (.func 106) #[] #[.pointer (some ⟨P, 0, none⟩)]]) ∧ w.heap.size ≤ P ∧ w'.cell? ⟨P, 0, none⟩ = some (.pointer (some ⟨A, i, none⟩)) ∧ Below w.heap.size w w' := by
  go_enter Try.func86, Try.ntmps86
  go_wp2_with fail
  refine bodyPost_ret (v := .agg #[.func (.func 105) #[] #[.pointer (some ⟨w.heap.size, 0, none⟩)], .func (.func 106) #[] #[.pointer (some ⟨w.heap.size, 0, none⟩)]]) (by simp [results, Try.results86, go_sem]) rfl ⟨w.heap.size, rfl, Nat.le_refl _, ?_, ?_⟩
  · simp
  · exact (((Keep.refl (fun _ => False) w).alloc _).alloc _).below (Nat.le_refl _) fun _ q => q.elim
theorem sec_text (A i : Nat) (w : World) :
    Calls Try.prog 87 #[.pointer (some ⟨A, i, none⟩)] w fun e w' => ∃ P, e = .returned (.agg #[.func (.func 107) #[] #[.pointer (some ⟨P, 0, none⟩)], .func (.func 109) #[] #[.pointer (some ⟨P, 0, none⟩)]]) ∧ w.heap.size ≤ P ∧ w'.cell? ⟨P, 0, none⟩ = some (.pointer (some ⟨A, i, none⟩)) ∧ Below w.heap.size w w' := by
  go_enter Try.func87, Try.ntmps87
  go_wp2_with fail
  refine bodyPost_ret (v := .agg #[.func (.func 107) #[] #[.pointer (some ⟨w.heap.size, 0, none⟩)], .func (.func 109) #[] #[.pointer (some ⟨w.heap.size, 0, none⟩)]]) (by simp [results, Try.results87, go_sem]) rfl ⟨w.heap.size, rfl, Nat.le_refl _, ?_, ?_⟩
  · simp
  · exact (((Keep.refl (fun _ => False) w).alloc _).alloc _).below (Nat.le_refl _) fun _ q => q.elim
theorem sec_flag (A i : Nat) (w : World) :
    Calls Try.prog 96 #[.pointer (some ⟨A, i, none⟩)] w fun e w' => ∃ P, e = .returned (.agg #[.func (.func 112) #[] #[.pointer (some ⟨P, 0, none⟩)], .func (.func 113) #[] #[.pointer (some ⟨P, 0, none⟩)]]) ∧ w.heap.size ≤ P ∧ w'.cell? ⟨P, 0, none⟩ = some (.pointer (some ⟨A, i, none⟩)) ∧ Below w.heap.size w w' := by
  go_enter Try.func96, Try.ntmps96
  go_wp2_with fail
  refine bodyPost_ret (v := .agg #[.func (.func 112) #[] #[.pointer (some ⟨w.heap.size, 0, none⟩)], .func (.func 113) #[] #[.pointer (some ⟨w.heap.size, 0, none⟩)]]) (by simp [results, Try.results96, go_sem]) rfl ⟨w.heap.size, rfl, Nat.le_refl _, ?_, ?_⟩
  · simp
  · exact (((Keep.refl (fun _ => False) w).alloc _).alloc _).below (Nat.le_refl _) fun _ q => q.elim
theorem sec_entries (A i : Nat) (w : World) :
    Calls Try.prog 97 #[.pointer (some ⟨A, i, none⟩)] w fun e w' => ∃ P, e = .returned (.agg #[.func (.func 114) #[] #[.pointer (some ⟨P, 0, none⟩)], .func (.func 115) #[] #[.pointer (some ⟨P, 0, none⟩)]]) ∧ w.heap.size ≤ P ∧ w'.cell? ⟨P, 0, none⟩ = some (.pointer (some ⟨A, i, none⟩)) ∧ Below w.heap.size w w' := by
  go_enter Try.func97, Try.ntmps97
  go_wp2_with fail
  refine bodyPost_ret (v := .agg #[.func (.func 114) #[] #[.pointer (some ⟨w.heap.size, 0, none⟩)], .func (.func 115) #[] #[.pointer (some ⟨w.heap.size, 0, none⟩)]]) (by simp [results, Try.results97, go_sem]) rfl ⟨w.heap.size, rfl, Nat.le_refl _, ?_, ?_⟩
  · simp
  · exact (((Keep.refl (fun _ => False) w).alloc _).alloc _).below (Nat.le_refl _) fun _ q => q.elim
end Go.Proofs.Ythlmigbimeldbaa
