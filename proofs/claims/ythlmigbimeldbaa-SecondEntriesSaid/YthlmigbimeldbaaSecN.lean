/- The document's number, text and Put of an entry. -/
import Derived.Test.YthlmigbimeldbaaSecR
import Derived.Test.YthlmigbimeldbaaRrR
set_option maxRecDepth 16000
namespace Go.Pin
open Go.RowKit
set_option linter.unusedVariables false
set_option linter.unusedSimpArgs false
/-- A field with its tag. -/
def tagd (k : Nat) (s : List UInt8) : List UInt8 := if s = [] then [] else vput k ++ s
theorem part_len_n (k : Nat) (v : Int) : (tagd k (FV.enc (.n v))).length ≤ 20 := by
  have h1 := vput_len k
  have h2 : (FV.enc (.n v)).length ≤ 10 := by
    unfold FV.enc
    dsimp only
    split
    · exact Nat.zero_le _
    · exact vput_len _
  unfold tagd
  split
  · exact Nat.zero_le _
  · rw [List.length_append]; omega
theorem part_len_t (k : Nat) (s : ByteArray) : (tagd k (FV.enc (.t s))).length ≤ 20 + s.size := by
  have h1 := vput_len k
  have h2 : (FV.enc (.t s)).length ≤ 10 + s.size := by
    have := vput_len s.size
    unfold FV.enc
    dsimp only
    split
    · exact Nat.zero_le _
    · rw [List.length_append]
      have : s.data.toList.length = s.size := rfl
      omega
  unfold tagd
  split
  · exact Nat.zero_le _
  · rw [List.length_append]; omega
theorem secPut_parts (e : En) : bs (secPut e) = bs (tagd 1 (FV.enc (.n e.kind))) ++ bs (tagd 2 (FV.enc (.n e.term))) ++ bs (tagd 3 (FV.enc (.n e.index))) ++ bs (tagd 4 (FV.enc (.n e.client))) ++ bs (tagd 5 (FV.enc (.n e.seq))) ++ bs (tagd 6 (FV.enc (.n e.block))) ++ bs (tagd 7 (FV.enc (.n e.many))) ++ bs (tagd 8 (FV.enc (.n e.node))) ++ bs (tagd 9 (FV.enc (.n e.level))) ++ bs (tagd 10 (FV.enc (.t e.data))) ++ bs (tagd 11 (FV.enc (.t e.old))) ++ ⟨#[0]⟩ := by
  show _ = bs (tagd 1 (FV.enc (.n e.kind))) ++ bs (tagd 2 (FV.enc (.n e.term))) ++ bs (tagd 3 (FV.enc (.n e.index))) ++ bs (tagd 4 (FV.enc (.n e.client))) ++ bs (tagd 5 (FV.enc (.n e.seq))) ++ bs (tagd 6 (FV.enc (.n e.block))) ++ bs (tagd 7 (FV.enc (.n e.many))) ++ bs (tagd 8 (FV.enc (.n e.node))) ++ bs (tagd 9 (FV.enc (.n e.level))) ++ bs (tagd 10 (FV.enc (.t e.data))) ++ bs (tagd 11 (FV.enc (.t e.old))) ++ bs [0]
  rw [bs_append, bs_append, bs_append, bs_append, bs_append, bs_append, bs_append, bs_append, bs_append, bs_append, bs_append]
  unfold secPut En.fvs
  simp only [List.map_cons, List.map_nil, putFs, List.append_assoc, List.append_nil, tagd]
end Go.Pin
namespace Go.Proofs.Ythlmigbimeldbaa
open Go.RowKit Go.Pin
set_option linter.unusedVariables false
set_option linter.unusedSimpArgs false
theorem r6_number (t v : Int) (ht : 1 ≤ t ∧ t ≤ 255) (hv : 0 ≤ v ∧ v ≤ 18446744073709551615) (w : World) :
    Calls Try.prog 64 #[.int .u64 t, .int .u64 v] w fun x w' => x = .returned (.string (bs (tagd t.toNat (FV.enc (.n v))))) ∧ Below w.heap.size w w' := by
  by_cases h0 : v = 0
  · subst h0
    go_enter Try.func64, Try.ntmps64
    go_wp2_with fail
    go_ret
    exact ⟨rfl, Below.refl _ _⟩
  · have hX : bs (tagd t.toNat (FV.enc (.n v))) = vputS t.toNat ++ vputS v.toNat := by
      show _ = bs (vput t.toNat) ++ bs (vput v.toNat)
      rw [bs_append]
      have he : FV.enc (.n v) = vput v.toNat := by unfold FV.enc; dsimp only; rw [if_neg h0]
      unfold tagd
      rw [he, if_neg (vput_ne _)]
    rw [hX]
    clear hX
    have z1 := (vputS_size t.toNat).1
    have z2 := (vputS_size v.toNat).1
    have hv0 : ¬ v = 0 := h0
    go_enter Try.func64, Try.ntmps64
    go_wp2_with fail
    refine (varref_put _ (by omega) (by omega) _).mono ?_
    rintro x w1 ⟨rfl, hb1⟩
    go_wp2_with fail
    refine (varref_put _ (by omega) (by omega) _).mono ?_
    rintro x w2 ⟨rfl, hb2⟩
    go_wp2_with fail
    go_ret
    exact ⟨rfl, hb1.trans (hb2.mono hb1.size)⟩
theorem r6_text (t : Int) (v : ByteArray) (ht : 1 ≤ t ∧ t ≤ 255) (hv : v.size ≤ 1152921504606846976) (w : World) :
    Calls Try.prog 65 #[.int .u64 t, .string v] w fun x w' => x = .returned (.string (bs (tagd t.toNat (FV.enc (.t v))))) ∧ Below w.heap.size w w' := by
  have hse := str_beq
  by_cases h0 : v = ⟨#[]⟩
  · subst h0
    go_enter Try.func65, Try.ntmps65
    go_wp2_with fail
    go_ret
    exact ⟨rfl, Below.refl _ _⟩
  · have hX : bs (tagd t.toNat (FV.enc (.t v))) = vputS t.toNat ++ textS v := by
      show _ = bs (vput t.toNat) ++ (bs (vput v.size) ++ v)
      rw [show bs (vput v.size) ++ v = bs (vput v.size ++ v.data.toList) by rw [← bs_append, bs_of], bs_append]
      have he : FV.enc (.t v) = vput v.size ++ v.data.toList := by unfold FV.enc; dsimp only; rw [if_neg h0]
      unfold tagd
      rw [he, if_neg]
      intro q
      exact vput_ne _ (List.append_eq_nil_iff.1 q).1
    rw [hX]
    clear hX
    have h01 : ¬ v.toList = [] := by rw [← List.isEmpty_iff, ← text_eq]; simpa using h0
    have h02 : v.toList.isEmpty = false := by rw [← text_eq]; exact decide_eq_false h0
    have z1 := (vputS_size t.toNat).1
    have z2 := textS_size v
    go_enter Try.func65, Try.ntmps65
    go_wp2_with fail
    refine (varref_put _ (by omega) (by omega) _).mono ?_
    rintro x w1 ⟨rfl, hb1⟩
    go_wp2_with fail
    refine (varref_text _ (by omega) _).mono ?_
    rintro x w2 ⟨rfl, hb2⟩
    go_wp2_with fail
    go_ret
    exact ⟨rfl, hb1.trans (hb2.mono hb1.size)⟩
set_option maxHeartbeats 6400000 in
theorem r6_Put (e : En) (ho : e.ok) (w : World) :
    Calls Try.prog 32 #[.agg e.cells] w fun x w' => x = .returned (.tuple #[.string (secPutS e), .bool e.right]) ∧ Below w.heap.size w w' := by
  have hk0 := (Keep.refl (fun _ => False) w).alloc (.cells e.cells 32)
  have HE := Pin.Aside.mk (EnAt.new w 32 e)
  have HW := Pin.Aside.mk (hk0.below (Nat.le_refl _) fun _ q => q.elim)
  have HR := Pin.Aside.mk (fun W => rr4_right e ho W)
  clear hk0
  unfold En.cells at *
  go_enter Try.func32, Try.ntmps32
  go_upto_region 1 with fail
  generalize w.alloc (.cells #[.int .u64 e.term, .int .u64 e.index, .int .i64 e.kind, .int .u64 e.client, .int .u64 e.seq, .int .u64 e.block, .int .u64 e.many, .int .i64 e.node, .int .i64 e.level, .string e.data, .string e.old] 32) = w1 at *
  obtain ⟨A, hA⟩ : ∃ A, w.heap.size = A := ⟨_, rfl⟩
  rw [hA] at HE
  try rw [hA]
  have HA := Pin.Aside.mk hA
  clear hA
  obtain ⟨c0, c1, c2, c3, c4, c5, c6, c7, c8, c9, c10⟩ := HE.out
  simp only [Nat.zero_add] at c1 c2 c3 c4 c5 c6 c7 c8 c9 c10
  go_wp2_with fail
  refine (HR.out _).mono ?_
  rintro x w2 ⟨rfl, hb2⟩
  have hk2 : Keep (fun _ => False) w1 w2 := Keep.of_below hb2 fun _ q _ => q
  replace HE := Pin.Aside.mk (HE.out.keep hk2 id)
  replace HW := Pin.Aside.mk (HW.out.trans (hb2.mono (by have := HW.out.size; omega)))
  clear c0 c1 c2 c3 c4 c5 c6 c7 c8 c9 c10 hk2 hb2 HR
  by_cases hr : e.right = true
  · have hs := (right_small hr ho).1
    have hu1 : IntKind.u64.wrap e.kind = e.kind := by rw [IntKind.wrap_u64]; have := hs.kind; omega
    have hu2 : IntKind.u64.wrap e.node = e.node := by rw [IntKind.wrap_u64]; have := hs.node; omega
    have hu3 : IntKind.u64.wrap e.level = e.level := by rw [IntKind.wrap_u64]; have := hs.level; omega
    have HP : Pin.Aside (secPutS e = bs (secPut e)) := Pin.Aside.mk (by unfold secPutS; rw [if_pos hr])
    have HX := Pin.Aside.mk (secPut_parts e)
    have N1 := Pin.Aside.mk (fun W => r6_number 1 e.kind (by omega) (by have := hs.kind; omega) W)
    have z1 : (bs (tagd 1 (FV.enc (.n e.kind)))).size ≤ 20 := by rw [bs_size]; have := part_len_n 1 e.kind; omega
    rw [show (1 : Int).toNat = 1 from rfl] at N1
    generalize bs (tagd 1 (FV.enc (.n e.kind))) = s1 at *
    have N2 := Pin.Aside.mk (fun W => r6_number 2 e.term (by omega) (by have := hs.term; omega) W)
    have z2 : (bs (tagd 2 (FV.enc (.n e.term)))).size ≤ 20 := by rw [bs_size]; have := part_len_n 2 e.term; omega
    rw [show (2 : Int).toNat = 2 from rfl] at N2
    generalize bs (tagd 2 (FV.enc (.n e.term))) = s2 at *
    have N3 := Pin.Aside.mk (fun W => r6_number 3 e.index (by omega) (by have := hs.index; omega) W)
    have z3 : (bs (tagd 3 (FV.enc (.n e.index)))).size ≤ 20 := by rw [bs_size]; have := part_len_n 3 e.index; omega
    rw [show (3 : Int).toNat = 3 from rfl] at N3
    generalize bs (tagd 3 (FV.enc (.n e.index))) = s3 at *
    have N4 := Pin.Aside.mk (fun W => r6_number 4 e.client (by omega) (by have := hs.client; omega) W)
    have z4 : (bs (tagd 4 (FV.enc (.n e.client)))).size ≤ 20 := by rw [bs_size]; have := part_len_n 4 e.client; omega
    rw [show (4 : Int).toNat = 4 from rfl] at N4
    generalize bs (tagd 4 (FV.enc (.n e.client))) = s4 at *
    have N5 := Pin.Aside.mk (fun W => r6_number 5 e.seq (by omega) (by have := hs.seq; omega) W)
    have z5 : (bs (tagd 5 (FV.enc (.n e.seq)))).size ≤ 20 := by rw [bs_size]; have := part_len_n 5 e.seq; omega
    rw [show (5 : Int).toNat = 5 from rfl] at N5
    generalize bs (tagd 5 (FV.enc (.n e.seq))) = s5 at *
    have N6 := Pin.Aside.mk (fun W => r6_number 6 e.block (by omega) (by have := hs.block; omega) W)
    have z6 : (bs (tagd 6 (FV.enc (.n e.block)))).size ≤ 20 := by rw [bs_size]; have := part_len_n 6 e.block; omega
    rw [show (6 : Int).toNat = 6 from rfl] at N6
    generalize bs (tagd 6 (FV.enc (.n e.block))) = s6 at *
    have N7 := Pin.Aside.mk (fun W => r6_number 7 e.many (by omega) (by have := hs.many; omega) W)
    have z7 : (bs (tagd 7 (FV.enc (.n e.many)))).size ≤ 20 := by rw [bs_size]; have := part_len_n 7 e.many; omega
    rw [show (7 : Int).toNat = 7 from rfl] at N7
    generalize bs (tagd 7 (FV.enc (.n e.many))) = s7 at *
    have N8 := Pin.Aside.mk (fun W => r6_number 8 e.node (by omega) (by have := hs.node; omega) W)
    have z8 : (bs (tagd 8 (FV.enc (.n e.node)))).size ≤ 20 := by rw [bs_size]; have := part_len_n 8 e.node; omega
    rw [show (8 : Int).toNat = 8 from rfl] at N8
    generalize bs (tagd 8 (FV.enc (.n e.node))) = s8 at *
    have N9 := Pin.Aside.mk (fun W => r6_number 9 e.level (by omega) (by have := hs.level; omega) W)
    have z9 : (bs (tagd 9 (FV.enc (.n e.level)))).size ≤ 20 := by rw [bs_size]; have := part_len_n 9 e.level; omega
    rw [show (9 : Int).toNat = 9 from rfl] at N9
    generalize bs (tagd 9 (FV.enc (.n e.level))) = s9 at *
    have N10 := Pin.Aside.mk (fun W => r6_text 10 e.data (by omega) (by have := hs.data; omega) W)
    have z10 : (bs (tagd 10 (FV.enc (.t e.data)))).size ≤ 84 := by rw [bs_size]; have := part_len_t 10 e.data; have := hs.data; omega
    rw [show (10 : Int).toNat = 10 from rfl] at N10
    generalize bs (tagd 10 (FV.enc (.t e.data))) = s10 at *
    have N11 := Pin.Aside.mk (fun W => r6_text 11 e.old (by omega) (by have := hs.old; omega) W)
    have z11 : (bs (tagd 11 (FV.enc (.t e.old)))).size ≤ 84 := by rw [bs_size]; have := part_len_t 11 e.old; have := hs.old; omega
    rw [show (11 : Int).toNat = 11 from rfl] at N11
    generalize bs (tagd 11 (FV.enc (.t e.old))) = s11 at *
    obtain ⟨p2, hp2⟩ : ∃ p : ByteArray, s1 ++ s2 = p := ⟨_, rfl⟩
    have y2 : p2.size ≤ 40 := by rw [← hp2, ByteArray.size_append]; omega
    rw [hp2] at HX
    obtain ⟨p3, hp3⟩ : ∃ p : ByteArray, p2 ++ s3 = p := ⟨_, rfl⟩
    have y3 : p3.size ≤ 60 := by rw [← hp3, ByteArray.size_append]; omega
    rw [hp3] at HX
    obtain ⟨p4, hp4⟩ : ∃ p : ByteArray, p3 ++ s4 = p := ⟨_, rfl⟩
    have y4 : p4.size ≤ 80 := by rw [← hp4, ByteArray.size_append]; omega
    rw [hp4] at HX
    obtain ⟨p5, hp5⟩ : ∃ p : ByteArray, p4 ++ s5 = p := ⟨_, rfl⟩
    have y5 : p5.size ≤ 100 := by rw [← hp5, ByteArray.size_append]; omega
    rw [hp5] at HX
    obtain ⟨p6, hp6⟩ : ∃ p : ByteArray, p5 ++ s6 = p := ⟨_, rfl⟩
    have y6 : p6.size ≤ 120 := by rw [← hp6, ByteArray.size_append]; omega
    rw [hp6] at HX
    obtain ⟨p7, hp7⟩ : ∃ p : ByteArray, p6 ++ s7 = p := ⟨_, rfl⟩
    have y7 : p7.size ≤ 140 := by rw [← hp7, ByteArray.size_append]; omega
    rw [hp7] at HX
    obtain ⟨p8, hp8⟩ : ∃ p : ByteArray, p7 ++ s8 = p := ⟨_, rfl⟩
    have y8 : p8.size ≤ 160 := by rw [← hp8, ByteArray.size_append]; omega
    rw [hp8] at HX
    obtain ⟨p9, hp9⟩ : ∃ p : ByteArray, p8 ++ s9 = p := ⟨_, rfl⟩
    have y9 : p9.size ≤ 180 := by rw [← hp9, ByteArray.size_append]; omega
    rw [hp9] at HX
    obtain ⟨p10, hp10⟩ : ∃ p : ByteArray, p9 ++ s10 = p := ⟨_, rfl⟩
    have y10 : p10.size ≤ 264 := by rw [← hp10, ByteArray.size_append]; omega
    rw [hp10] at HX
    obtain ⟨p11, hp11⟩ : ∃ p : ByteArray, p10 ++ s11 = p := ⟨_, rfl⟩
    have y11 : p11.size ≤ 348 := by rw [← hp11, ByteArray.size_append]; omega
    rw [hp11] at HX
    obtain ⟨p12, hp12⟩ : ∃ p : ByteArray, p11 ++ ⟨#[0]⟩ = p := ⟨_, rfl⟩
    have y12 : p12.size ≤ 349 := by rw [← hp12, ByteArray.size_append]; have k2 : (⟨#[0]⟩ : ByteArray).size = 1 := rfl; omega
    rw [hp12] at HX
    have l0 : ∀ s' : KW (fun _ => False) w2, s'.w.cell? ⟨A, 0, none⟩ = some (.int .u64 e.term) := fun s' => by have := s'.keep.cell HE.out.c0 id; simpa only [Nat.zero_add] using this
    have l1 : ∀ s' : KW (fun _ => False) w2, s'.w.cell? ⟨A, 1, none⟩ = some (.int .u64 e.index) := fun s' => by have := s'.keep.cell HE.out.c1 id; simpa only [Nat.zero_add] using this
    have l2 : ∀ s' : KW (fun _ => False) w2, s'.w.cell? ⟨A, 2, none⟩ = some (.int .i64 e.kind) := fun s' => by have := s'.keep.cell HE.out.c2 id; simpa only [Nat.zero_add] using this
    have l3 : ∀ s' : KW (fun _ => False) w2, s'.w.cell? ⟨A, 3, none⟩ = some (.int .u64 e.client) := fun s' => by have := s'.keep.cell HE.out.c3 id; simpa only [Nat.zero_add] using this
    have l4 : ∀ s' : KW (fun _ => False) w2, s'.w.cell? ⟨A, 4, none⟩ = some (.int .u64 e.seq) := fun s' => by have := s'.keep.cell HE.out.c4 id; simpa only [Nat.zero_add] using this
    have l5 : ∀ s' : KW (fun _ => False) w2, s'.w.cell? ⟨A, 5, none⟩ = some (.int .u64 e.block) := fun s' => by have := s'.keep.cell HE.out.c5 id; simpa only [Nat.zero_add] using this
    have l6 : ∀ s' : KW (fun _ => False) w2, s'.w.cell? ⟨A, 6, none⟩ = some (.int .u64 e.many) := fun s' => by have := s'.keep.cell HE.out.c6 id; simpa only [Nat.zero_add] using this
    have l7 : ∀ s' : KW (fun _ => False) w2, s'.w.cell? ⟨A, 7, none⟩ = some (.int .i64 e.node) := fun s' => by have := s'.keep.cell HE.out.c7 id; simpa only [Nat.zero_add] using this
    have l8 : ∀ s' : KW (fun _ => False) w2, s'.w.cell? ⟨A, 8, none⟩ = some (.int .i64 e.level) := fun s' => by have := s'.keep.cell HE.out.c8 id; simpa only [Nat.zero_add] using this
    have l9 : ∀ s' : KW (fun _ => False) w2, s'.w.cell? ⟨A, 9, none⟩ = some (.string e.data) := fun s' => by have := s'.keep.cell HE.out.c9 id; simpa only [Nat.zero_add] using this
    have l10 : ∀ s' : KW (fun _ => False) w2, s'.w.cell? ⟨A, 10, none⟩ = some (.string e.old) := fun s' => by have := s'.keep.cell HE.out.c10 id; simpa only [Nat.zero_add] using this
    clear hs
    go_upto_region 4 with fail
    refine wp_region_keep (fun _ => False) (by kernel_rfl) (by kernel_rfl) ?_
    repeat (go_big_quiet_step ((first | (go_at_call 64; with_reducible exact KW.calls (N1.out _)) | (go_at_call 64; with_reducible exact KW.calls (N2.out _)) | (go_at_call 64; with_reducible exact KW.calls (N3.out _)) | (go_at_call 64; with_reducible exact KW.calls (N4.out _)) | (go_at_call 64; with_reducible exact KW.calls (N5.out _)) | (go_at_call 64; with_reducible exact KW.calls (N6.out _)) | (go_at_call 64; with_reducible exact KW.calls (N7.out _)) | (go_at_call 64; with_reducible exact KW.calls (N8.out _)) | (go_at_call 64; with_reducible exact KW.calls (N9.out _)) | (go_at_call 65; with_reducible exact KW.calls (N10.out _)) | (go_at_call 65; with_reducible exact KW.calls (N11.out _)))))
    refine wpQuiet_nil ?_
    intro s4
    have hb4 := s4.below
    go_wp2_with fail
    go_ret2
    exact ⟨by rw [HP.out, HX.out, hr]; rfl, HW.out.trans (hb4.mono (by have := HW.out.size; have := HA.out; omega))⟩
  · have hr' : e.right = false := by simpa using hr
    have HP : Pin.Aside (secPutS e = ⟨#[]⟩) := Pin.Aside.mk (by unfold secPutS; rw [if_neg hr])
    clear hr
    go_wp2_with fail
    go_ret2
    exact ⟨by rw [HP.out, hr']; rfl, HW.out⟩
end Go.Proofs.Ythlmigbimeldbaa
