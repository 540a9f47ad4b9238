/- second: put, Put. -/
import Derived.Test.YthlmigbimeldbaaSecF
import Derived.Test.YthlmigbimeldbaaBldX
set_option maxRecDepth 16000
namespace Go.Pin
open Go.RowKit
set_option linter.unusedVariables false
set_option linter.unusedSimpArgs false
def piece (t : Nat) (s : List UInt8) : List UInt8 := if s = [] then [] else vput t ++ s
theorem putFs_take : ∀ (L : List (List UInt8)) (j k : Nat) (h : k < L.length), putFs j (L.take (k + 1)) = putFs j (L.take k) ++ piece (j + k) (L.getD k [])
  | [], _, _, h => by simp at h
  | s :: L, j, 0, _ => by
    rw [List.take_succ_cons, List.take_zero, List.take_zero]
    simp [putFs, piece]
  | s :: L, j, k + 1, h => by
    rw [List.take_succ_cons, List.take_succ_cons]
    have ih := putFs_take L (j + 1) k (by simpa using h)
    simp only [putFs, ih, List.append_assoc]
    congr 1
    congr 1
    · rw [show j + (k + 1) = j + 1 + k by omega]; rfl
/-- What is put of the first k fields. -/
def secPre (e : En) (k : Nat) : List UInt8 := putFs 1 ((e.fvs.map FV.enc).take k)
theorem secPre_0 (e : En) : secPre e 0 = [] := rfl
theorem secPre_11 (e : En) : secPre e 11 ++ [0] = secPut e := rfl
theorem enc_len {e : En} (h : e.small) (k : Nat) (hk : k < 11) : ((e.fvs.map FV.enc).getD k []).length ≤ 74 := by
  have hd := h.data
  have ho := h.old
  have hn : ∀ x : Int, (FV.enc (.n x)).length ≤ 74 := fun x => by
    unfold FV.enc
    dsimp only
    split
    · simp
    · exact Nat.le_trans (vput_len _) (by omega)
  have ht : ∀ s : ByteArray, s.size ≤ 64 → (FV.enc (.t s)).length ≤ 74 := fun s hs => by
    unfold FV.enc
    dsimp only
    split
    · simp
    · rw [List.length_append]
      have := vput_len s.size
      have h2 : s.data.toList.length = s.size := by rw [Array.length_toList]; rfl
      omega
  have hc : k = 0 ∨ k = 1 ∨ k = 2 ∨ k = 3 ∨ k = 4 ∨ k = 5 ∨ k = 6 ∨ k = 7 ∨ k = 8 ∨ k = 9 ∨ k = 10 := by omega
  rcases hc with rfl | rfl | rfl | rfl | rfl | rfl | rfl | rfl | rfl | rfl | rfl
  all_goals first
    | exact hn _
    | exact ht _ hd
    | exact ht _ ho
theorem secPre_succ (e : En) (k : Nat) (hk : k < 11) : secPre e (k + 1) = secPre e k ++ piece (k + 1) ((e.fvs.map FV.enc).getD k []) := by
  unfold secPre
  rw [putFs_take _ _ _ (by show k < 11; exact hk), Nat.add_comm 1 k]
theorem secPre_len {e : En} (h : e.small) : ∀ k, k ≤ 11 → (secPre e k).length ≤ 90 * k
  | 0, _ => Nat.le_refl _
  | k + 1, hk => by
    rw [secPre_succ e k (by omega), List.length_append]
    have ih := secPre_len h k (by omega)
    have h1 := enc_len h k (by omega)
    have h2 : (piece (k + 1) ((e.fvs.map FV.enc).getD k [])).length ≤ 90 := by
      unfold piece
      split
      · simp
      · rw [List.length_append]
        have := vput_len (k + 1)
        omega
    omega
theorem secPre_ne {e : En} (h : e.term ≠ 0) : secPre e 11 ≠ [] := by
  intro q
  have h2 : secPre e 11 = secPre e 1 ++ (vput 2 ++ FV.enc (.n e.term)) ++ putFs 3 (((e.fvs.map FV.enc).drop 2)) := by
    unfold secPre En.fvs
    simp only [List.map_cons, List.map_nil, List.take_succ_cons, List.take_zero, List.drop_succ_cons, List.drop_zero, putFs]
    have : FV.enc (.n e.term) ≠ [] := fun q => by
      rw [enc_no] at q
      exact h (by simpa [FV.no] using q)
    simp only [this, if_false, List.append_assoc, List.append_nil]
  rw [h2] at q
  have h3 := (List.append_eq_nil_iff.1 (List.append_eq_nil_iff.1 (List.append_eq_nil_iff.1 q).1).2).1
  exact vput_ne _ h3
end Go.Pin
namespace Go.Proofs.Ythlmigbimeldbaa
open Go.RowKit Go.Pin
set_option linter.unusedVariables false
set_option linter.unusedSimpArgs false
set_option maxHeartbeats 6400000 in
theorem sec_put (F A : Nat) (P : Nat → Nat) (e : En) (hs : e.small) (ht : e.term ≠ 0) (w : World) (hS : SecAt w F A P) (hE : EnAt w A 0 e) :
    Calls Try.prog 60 #[.slice (some ⟨F, 0, none⟩) 11 11] w fun x w' => x = .returned (.string (bs (secPut e))) ∧ Below w.heap.size w w' := by
  have hlF : F < w.heap.size := World.block_lt_of_cell? _ _ (hS.row 0 (by decide))
  have hlA : A < w.heap.size := World.block_lt_of_cell? _ _ hE.c0
  have hlP : ∀ j, j < 11 → P j < w.heap.size := fun j hj => World.block_lt_of_cell? _ _ (hS.box j hj)
  have HLP := Pin.Aside.mk hlP
  have HS := Pin.Aside.mk hS
  have HE := Pin.Aside.mk hE
  clear hS hE hlP
  have hk0 := (Keep.refl (fun _ => False) w).alloc (.cells #[.pointer none, .slice none 0 0] 127)
  have HB := Pin.Aside.mk (Bld.new w w.heap.size (Nat.le_refl _))
  have HW := Pin.Aside.mk (hk0.below (Nat.le_refl _) fun _ q => q.elim)
  clear hk0
  go_enter Try.func60, Try.ntmps60
  go_upto_region 2 with fail
  generalize World.alloc w _ = w1 at *
  go_wp2_with fail
  go_loopw [9] (fun x wr => ∃ (k : Nat) (ki : Int), k ≤ 11 ∧ ki = k ∧ x = .int .i64 ki ∧ Pin.Aside (Bld w.heap.size w.heap.size (secPre e k) wr) ∧ Pin.Aside (Below w.heap.size w wr)) (fun x _ => 11 - (intOf x).toNat)
  case atStart => exact ⟨0, 0, by omega, rfl, rfl, HB, HW⟩
  case round =>
    clear HB HW
    obtain ⟨k, ki, hk, hki, rfl, HB, HW⟩ := hrel
    rename_i wr
    have hc : k = 0 ∨ k = 1 ∨ k = 2 ∨ k = 3 ∨ k = 4 ∨ k = 5 ∨ k = 6 ∨ k = 7 ∨ k = 8 ∨ k = 9 ∨ k = 10 ∨ k = 11 := by omega
    have hkW : Keep (fun _ => False) w wr := Keep.of_below HW.out fun _ q _ => q
    have hS' := HS.out.keep hkW id fun _ _ => id
    have hE' := HE.out.keep hkW id
    have hBl : w.heap.size < wr.heap.size := HB.out.lt
    clear hkW
    rcases hc with rfl | rfl | rfl | rfl | rfl | rfl | rfl | rfl | rfl | rfl | rfl | rfl
    · obtain rfl : ki = 0 := by omega
      clear hki hk
      have ca : wr.cell? ⟨F, 0, none⟩ = some (.func (.func 102) #[] #[.pointer (some ⟨P 0, 0, none⟩)]) := hS'.row 0 (by decide)
      have cb : wr.cell? ⟨F, 1, none⟩ = some (.func (.func 104) #[] #[.pointer (some ⟨P 0, 0, none⟩)]) := hS'.row 1 (by decide)
      have hka := (Keep.refl (fun _ => False) wr).alloc (.cells #[.func (.func 102) #[] #[.pointer (some ⟨P 0, 0, none⟩)], .func (.func 104) #[] #[.pointer (some ⟨P 0, 0, none⟩)]] 131)
      have c5 : (wr.alloc (.cells #[.func (.func 102) #[] #[.pointer (some ⟨P 0, 0, none⟩)], .func (.func 104) #[] #[.pointer (some ⟨P 0, 0, none⟩)]] 131)).cell? ⟨wr.heap.size, 0, none⟩ = some (.func (.func 102) #[] #[.pointer (some ⟨P 0, 0, none⟩)]) := by simp
      have hbx := hka.cell (hS'.box 0 (by decide)) id
      have hex := hka.cell (v := .int .i64 e.kind) (p := ⟨A, 2, none⟩) (by have := hE'.c2; rw [Nat.zero_add] at this; exact this) id
      have HB5 := Pin.Aside.mk (HB.out.keep hka)
      have HW5 := Pin.Aside.mk (HW.out.trans (hka.below (B := w.heap.size) (Nat.le_of_lt hBl) fun _ q => q.elim))
      clear hka
      go_upto_region 5 with fail
      generalize wr.alloc (.cells #[.func (.func 102) #[] #[.pointer (some ⟨P 0, 0, none⟩)], .func (.func 104) #[] #[.pointer (some ⟨P 0, 0, none⟩)]] 131) = w5 at *
      clear ca cb hS' hE'
      have hp5 : w5.cell? ⟨P 0, 0, none⟩ = some (.pointer (some ⟨A, 2, none⟩)) := hbx
      have CC := Pin.Aside.mk (sec_put_int (P 0) A 2 e.kind hs.kind.1 (by have := hs.kind.2; omega) w5 hp5 hex)
      clear hbx hex hp5
      go_wp2_with fail
      refine CC.out.mono ?_
      rintro x w6 ⟨rfl, hb6⟩
      have hB5 : w.heap.size < w5.heap.size := HB5.out.lt
      have HB6 := Pin.Aside.mk (HB5.out.below hb6)
      have HW6 := Pin.Aside.mk (HW5.out.trans (hb6.mono (Nat.le_of_lt hB5)))
      have hB6 : w.heap.size < w6.heap.size := HB6.out.lt
      have HN := Pin.Aside.mk (secPre_succ e 0 (by decide))
      have hlen := secPre_len hs 0 (by decide)
      have hel := enc_len hs 0 (by decide)
      have HX := Pin.Aside.mk (show (numB e.kind) = bs ((e.fvs.map FV.enc).getD 0 []) from rfl)
      clear hb6 HB5 HW5 c5 CC hB5
      obtain ⟨EN, hEN⟩ : ∃ L, (e.fvs.map FV.enc).getD 0 [] = L := ⟨_, rfl⟩
      rw [hEN] at HN hel HX
      obtain ⟨X, hX⟩ : ∃ X, numB e.kind = X := ⟨_, rfl⟩
      rw [hX] at HX ⊢
      clear hX hEN
      obtain ⟨pre, hpre⟩ : ∃ L, secPre e 0 = L := ⟨_, rfl⟩
      rw [hpre] at HN hlen HB6
      clear hpre HB
      by_cases hem : EN = []
      · subst hem
        obtain rfl : X = ⟨#[]⟩ := HX.out
        clear HX
        go_wp2_with fail
        go_roundw
        case rel => exact ⟨1, 1, by decide, rfl, rfl, by rw [HN.out]; exact ⟨by simpa [piece] using HB6.out⟩, HW6⟩
        case measure => simp [intOf]
      · have hx1 : ¬ X.toList = [] := by rw [HX.out]; intro q; exact hem (by simpa [bs_data, ByteArray.toList_eq] using q)
        have hx2 : X.toList.isEmpty = false := by simpa using hx1
        have hxs : X.size ≤ 74 := by rw [HX.out, bs_size]; exact hel
        have HV := Pin.Aside.mk (fun W => var_put 1 (by decide) (by decide) W)
        have hvs := (vputS_size (1 : Int).toNat).1
        have HVl := Pin.Aside.mk (show (vputS (1 : Int).toNat) = bs (vput 1) from rfl)
        generalize vputS (1 : Int).toNat = V at *
        have hsum : V.size + X.size ≤ 9223372036854775807 := by omega
        have hps : (V ++ X).size ≤ 100 := by rw [ByteArray.size_append]; omega
        go_wp2_with fail
        refine (HV.out _).mono ?_
        rintro x w7 ⟨rfl, hb7⟩
        have HB7 := Pin.Aside.mk (HB6.out.below hb7)
        have HW7 := Pin.Aside.mk (HW6.out.trans (hb7.mono (Nat.le_of_lt hB6)))
        have hB7 : w.heap.size < w7.heap.size := HB7.out.lt
        clear hb7 HB6 HW6 hB6 HV
        have HP := Pin.Aside.mk (show (V ++ X).data.toList = vput 1 ++ EN by rw [HVl.out, HX.out, bs_append, bs_data])
        go_wp2_with fail
        refine (sb_writeString w.heap.size w.heap.size pre (V ++ X) _ HB7.out (by omega) (Nat.le_of_lt hB7)).mono ?_
        rintro x w8 ⟨rfl, hb8, hbb8⟩
        have HB8 := Pin.Aside.mk hb8
        have HW8 := Pin.Aside.mk (HW7.out.trans hbb8)
        clear hb8 hbb8
        go_wp2_with fail
        go_roundw
        case rel => exact ⟨1, 1, by decide, rfl, rfl, by rw [HN.out, piece, if_neg hem, ← HP.out]; exact HB8, HW8⟩
        case measure => simp [intOf]
    · obtain rfl : ki = 1 := by omega
      clear hki hk
      have ca : wr.cell? ⟨F, 2, none⟩ = some (.func (.func 105) #[] #[.pointer (some ⟨P 1, 0, none⟩)]) := hS'.row 2 (by decide)
      have cb : wr.cell? ⟨F, 3, none⟩ = some (.func (.func 106) #[] #[.pointer (some ⟨P 1, 0, none⟩)]) := hS'.row 3 (by decide)
      have hka := (Keep.refl (fun _ => False) wr).alloc (.cells #[.func (.func 105) #[] #[.pointer (some ⟨P 1, 0, none⟩)], .func (.func 106) #[] #[.pointer (some ⟨P 1, 0, none⟩)]] 131)
      have c5 : (wr.alloc (.cells #[.func (.func 105) #[] #[.pointer (some ⟨P 1, 0, none⟩)], .func (.func 106) #[] #[.pointer (some ⟨P 1, 0, none⟩)]] 131)).cell? ⟨wr.heap.size, 0, none⟩ = some (.func (.func 105) #[] #[.pointer (some ⟨P 1, 0, none⟩)]) := by simp
      have hbx := hka.cell (hS'.box 1 (by decide)) id
      have hex := hka.cell (v := .int .u64 e.term) (p := ⟨A, 0, none⟩) (by have := hE'.c0; exact this) id
      have HB5 := Pin.Aside.mk (HB.out.keep hka)
      have HW5 := Pin.Aside.mk (HW.out.trans (hka.below (B := w.heap.size) (Nat.le_of_lt hBl) fun _ q => q.elim))
      clear hka
      go_upto_region 5 with fail
      generalize wr.alloc (.cells #[.func (.func 105) #[] #[.pointer (some ⟨P 1, 0, none⟩)], .func (.func 106) #[] #[.pointer (some ⟨P 1, 0, none⟩)]] 131) = w5 at *
      clear ca cb hS' hE'
      have hp5 : w5.cell? ⟨P 1, 0, none⟩ = some (.pointer (some ⟨A, 0, none⟩)) := hbx
      have CC := Pin.Aside.mk (sec_put_u64 (P 1) A 0 e.term hs.term.1 (by have := hs.term.2; omega) w5 hp5 hex)
      clear hbx hex hp5
      go_wp2_with fail
      refine CC.out.mono ?_
      rintro x w6 ⟨rfl, hb6⟩
      have hB5 : w.heap.size < w5.heap.size := HB5.out.lt
      have HB6 := Pin.Aside.mk (HB5.out.below hb6)
      have HW6 := Pin.Aside.mk (HW5.out.trans (hb6.mono (Nat.le_of_lt hB5)))
      have hB6 : w.heap.size < w6.heap.size := HB6.out.lt
      have HN := Pin.Aside.mk (secPre_succ e 1 (by decide))
      have hlen := secPre_len hs 1 (by decide)
      have hel := enc_len hs 1 (by decide)
      have HX := Pin.Aside.mk (show (numB e.term) = bs ((e.fvs.map FV.enc).getD 1 []) from rfl)
      clear hb6 HB5 HW5 c5 CC hB5
      obtain ⟨EN, hEN⟩ : ∃ L, (e.fvs.map FV.enc).getD 1 [] = L := ⟨_, rfl⟩
      rw [hEN] at HN hel HX
      obtain ⟨X, hX⟩ : ∃ X, numB e.term = X := ⟨_, rfl⟩
      rw [hX] at HX ⊢
      clear hX hEN
      obtain ⟨pre, hpre⟩ : ∃ L, secPre e 1 = L := ⟨_, rfl⟩
      rw [hpre] at HN hlen HB6
      clear hpre HB
      by_cases hem : EN = []
      · subst hem
        obtain rfl : X = ⟨#[]⟩ := HX.out
        clear HX
        go_wp2_with fail
        go_roundw
        case rel => exact ⟨2, 2, by decide, rfl, rfl, by rw [HN.out]; exact ⟨by simpa [piece] using HB6.out⟩, HW6⟩
        case measure => simp [intOf]
      · have hx1 : ¬ X.toList = [] := by rw [HX.out]; intro q; exact hem (by simpa [bs_data, ByteArray.toList_eq] using q)
        have hx2 : X.toList.isEmpty = false := by simpa using hx1
        have hxs : X.size ≤ 74 := by rw [HX.out, bs_size]; exact hel
        have HV := Pin.Aside.mk (fun W => var_put 2 (by decide) (by decide) W)
        have hvs := (vputS_size (2 : Int).toNat).1
        have HVl := Pin.Aside.mk (show (vputS (2 : Int).toNat) = bs (vput 2) from rfl)
        generalize vputS (2 : Int).toNat = V at *
        have hsum : V.size + X.size ≤ 9223372036854775807 := by omega
        have hps : (V ++ X).size ≤ 100 := by rw [ByteArray.size_append]; omega
        go_wp2_with fail
        refine (HV.out _).mono ?_
        rintro x w7 ⟨rfl, hb7⟩
        have HB7 := Pin.Aside.mk (HB6.out.below hb7)
        have HW7 := Pin.Aside.mk (HW6.out.trans (hb7.mono (Nat.le_of_lt hB6)))
        have hB7 : w.heap.size < w7.heap.size := HB7.out.lt
        clear hb7 HB6 HW6 hB6 HV
        have HP := Pin.Aside.mk (show (V ++ X).data.toList = vput 2 ++ EN by rw [HVl.out, HX.out, bs_append, bs_data])
        go_wp2_with fail
        refine (sb_writeString w.heap.size w.heap.size pre (V ++ X) _ HB7.out (by omega) (Nat.le_of_lt hB7)).mono ?_
        rintro x w8 ⟨rfl, hb8, hbb8⟩
        have HB8 := Pin.Aside.mk hb8
        have HW8 := Pin.Aside.mk (HW7.out.trans hbb8)
        clear hb8 hbb8
        go_wp2_with fail
        go_roundw
        case rel => exact ⟨2, 2, by decide, rfl, rfl, by rw [HN.out, piece, if_neg hem, ← HP.out]; exact HB8, HW8⟩
        case measure => simp [intOf]
    · obtain rfl : ki = 2 := by omega
      clear hki hk
      have ca : wr.cell? ⟨F, 4, none⟩ = some (.func (.func 105) #[] #[.pointer (some ⟨P 2, 0, none⟩)]) := hS'.row 4 (by decide)
      have cb : wr.cell? ⟨F, 5, none⟩ = some (.func (.func 106) #[] #[.pointer (some ⟨P 2, 0, none⟩)]) := hS'.row 5 (by decide)
      have hka := (Keep.refl (fun _ => False) wr).alloc (.cells #[.func (.func 105) #[] #[.pointer (some ⟨P 2, 0, none⟩)], .func (.func 106) #[] #[.pointer (some ⟨P 2, 0, none⟩)]] 131)
      have c5 : (wr.alloc (.cells #[.func (.func 105) #[] #[.pointer (some ⟨P 2, 0, none⟩)], .func (.func 106) #[] #[.pointer (some ⟨P 2, 0, none⟩)]] 131)).cell? ⟨wr.heap.size, 0, none⟩ = some (.func (.func 105) #[] #[.pointer (some ⟨P 2, 0, none⟩)]) := by simp
      have hbx := hka.cell (hS'.box 2 (by decide)) id
      have hex := hka.cell (v := .int .u64 e.index) (p := ⟨A, 1, none⟩) (by have := hE'.c1; rw [Nat.zero_add] at this; exact this) id
      have HB5 := Pin.Aside.mk (HB.out.keep hka)
      have HW5 := Pin.Aside.mk (HW.out.trans (hka.below (B := w.heap.size) (Nat.le_of_lt hBl) fun _ q => q.elim))
      clear hka
      go_upto_region 5 with fail
      generalize wr.alloc (.cells #[.func (.func 105) #[] #[.pointer (some ⟨P 2, 0, none⟩)], .func (.func 106) #[] #[.pointer (some ⟨P 2, 0, none⟩)]] 131) = w5 at *
      clear ca cb hS' hE'
      have hp5 : w5.cell? ⟨P 2, 0, none⟩ = some (.pointer (some ⟨A, 1, none⟩)) := hbx
      have CC := Pin.Aside.mk (sec_put_u64 (P 2) A 1 e.index hs.index.1 (by have := hs.index.2; omega) w5 hp5 hex)
      clear hbx hex hp5
      go_wp2_with fail
      refine CC.out.mono ?_
      rintro x w6 ⟨rfl, hb6⟩
      have hB5 : w.heap.size < w5.heap.size := HB5.out.lt
      have HB6 := Pin.Aside.mk (HB5.out.below hb6)
      have HW6 := Pin.Aside.mk (HW5.out.trans (hb6.mono (Nat.le_of_lt hB5)))
      have hB6 : w.heap.size < w6.heap.size := HB6.out.lt
      have HN := Pin.Aside.mk (secPre_succ e 2 (by decide))
      have hlen := secPre_len hs 2 (by decide)
      have hel := enc_len hs 2 (by decide)
      have HX := Pin.Aside.mk (show (numB e.index) = bs ((e.fvs.map FV.enc).getD 2 []) from rfl)
      clear hb6 HB5 HW5 c5 CC hB5
      obtain ⟨EN, hEN⟩ : ∃ L, (e.fvs.map FV.enc).getD 2 [] = L := ⟨_, rfl⟩
      rw [hEN] at HN hel HX
      obtain ⟨X, hX⟩ : ∃ X, numB e.index = X := ⟨_, rfl⟩
      rw [hX] at HX ⊢
      clear hX hEN
      obtain ⟨pre, hpre⟩ : ∃ L, secPre e 2 = L := ⟨_, rfl⟩
      rw [hpre] at HN hlen HB6
      clear hpre HB
      by_cases hem : EN = []
      · subst hem
        obtain rfl : X = ⟨#[]⟩ := HX.out
        clear HX
        go_wp2_with fail
        go_roundw
        case rel => exact ⟨3, 3, by decide, rfl, rfl, by rw [HN.out]; exact ⟨by simpa [piece] using HB6.out⟩, HW6⟩
        case measure => simp [intOf]
      · have hx1 : ¬ X.toList = [] := by rw [HX.out]; intro q; exact hem (by simpa [bs_data, ByteArray.toList_eq] using q)
        have hx2 : X.toList.isEmpty = false := by simpa using hx1
        have hxs : X.size ≤ 74 := by rw [HX.out, bs_size]; exact hel
        have HV := Pin.Aside.mk (fun W => var_put 3 (by decide) (by decide) W)
        have hvs := (vputS_size (3 : Int).toNat).1
        have HVl := Pin.Aside.mk (show (vputS (3 : Int).toNat) = bs (vput 3) from rfl)
        generalize vputS (3 : Int).toNat = V at *
        have hsum : V.size + X.size ≤ 9223372036854775807 := by omega
        have hps : (V ++ X).size ≤ 100 := by rw [ByteArray.size_append]; omega
        go_wp2_with fail
        refine (HV.out _).mono ?_
        rintro x w7 ⟨rfl, hb7⟩
        have HB7 := Pin.Aside.mk (HB6.out.below hb7)
        have HW7 := Pin.Aside.mk (HW6.out.trans (hb7.mono (Nat.le_of_lt hB6)))
        have hB7 : w.heap.size < w7.heap.size := HB7.out.lt
        clear hb7 HB6 HW6 hB6 HV
        have HP := Pin.Aside.mk (show (V ++ X).data.toList = vput 3 ++ EN by rw [HVl.out, HX.out, bs_append, bs_data])
        go_wp2_with fail
        refine (sb_writeString w.heap.size w.heap.size pre (V ++ X) _ HB7.out (by omega) (Nat.le_of_lt hB7)).mono ?_
        rintro x w8 ⟨rfl, hb8, hbb8⟩
        have HB8 := Pin.Aside.mk hb8
        have HW8 := Pin.Aside.mk (HW7.out.trans hbb8)
        clear hb8 hbb8
        go_wp2_with fail
        go_roundw
        case rel => exact ⟨3, 3, by decide, rfl, rfl, by rw [HN.out, piece, if_neg hem, ← HP.out]; exact HB8, HW8⟩
        case measure => simp [intOf]
    · obtain rfl : ki = 3 := by omega
      clear hki hk
      have ca : wr.cell? ⟨F, 6, none⟩ = some (.func (.func 105) #[] #[.pointer (some ⟨P 3, 0, none⟩)]) := hS'.row 6 (by decide)
      have cb : wr.cell? ⟨F, 7, none⟩ = some (.func (.func 106) #[] #[.pointer (some ⟨P 3, 0, none⟩)]) := hS'.row 7 (by decide)
      have hka := (Keep.refl (fun _ => False) wr).alloc (.cells #[.func (.func 105) #[] #[.pointer (some ⟨P 3, 0, none⟩)], .func (.func 106) #[] #[.pointer (some ⟨P 3, 0, none⟩)]] 131)
      have c5 : (wr.alloc (.cells #[.func (.func 105) #[] #[.pointer (some ⟨P 3, 0, none⟩)], .func (.func 106) #[] #[.pointer (some ⟨P 3, 0, none⟩)]] 131)).cell? ⟨wr.heap.size, 0, none⟩ = some (.func (.func 105) #[] #[.pointer (some ⟨P 3, 0, none⟩)]) := by simp
      have hbx := hka.cell (hS'.box 3 (by decide)) id
      have hex := hka.cell (v := .int .u64 e.client) (p := ⟨A, 3, none⟩) (by have := hE'.c3; rw [Nat.zero_add] at this; exact this) id
      have HB5 := Pin.Aside.mk (HB.out.keep hka)
      have HW5 := Pin.Aside.mk (HW.out.trans (hka.below (B := w.heap.size) (Nat.le_of_lt hBl) fun _ q => q.elim))
      clear hka
      go_upto_region 5 with fail
      generalize wr.alloc (.cells #[.func (.func 105) #[] #[.pointer (some ⟨P 3, 0, none⟩)], .func (.func 106) #[] #[.pointer (some ⟨P 3, 0, none⟩)]] 131) = w5 at *
      clear ca cb hS' hE'
      have hp5 : w5.cell? ⟨P 3, 0, none⟩ = some (.pointer (some ⟨A, 3, none⟩)) := hbx
      have CC := Pin.Aside.mk (sec_put_u64 (P 3) A 3 e.client hs.client.1 (by have := hs.client.2; omega) w5 hp5 hex)
      clear hbx hex hp5
      go_wp2_with fail
      refine CC.out.mono ?_
      rintro x w6 ⟨rfl, hb6⟩
      have hB5 : w.heap.size < w5.heap.size := HB5.out.lt
      have HB6 := Pin.Aside.mk (HB5.out.below hb6)
      have HW6 := Pin.Aside.mk (HW5.out.trans (hb6.mono (Nat.le_of_lt hB5)))
      have hB6 : w.heap.size < w6.heap.size := HB6.out.lt
      have HN := Pin.Aside.mk (secPre_succ e 3 (by decide))
      have hlen := secPre_len hs 3 (by decide)
      have hel := enc_len hs 3 (by decide)
      have HX := Pin.Aside.mk (show (numB e.client) = bs ((e.fvs.map FV.enc).getD 3 []) from rfl)
      clear hb6 HB5 HW5 c5 CC hB5
      obtain ⟨EN, hEN⟩ : ∃ L, (e.fvs.map FV.enc).getD 3 [] = L := ⟨_, rfl⟩
      rw [hEN] at HN hel HX
      obtain ⟨X, hX⟩ : ∃ X, numB e.client = X := ⟨_, rfl⟩
      rw [hX] at HX ⊢
      clear hX hEN
      obtain ⟨pre, hpre⟩ : ∃ L, secPre e 3 = L := ⟨_, rfl⟩
      rw [hpre] at HN hlen HB6
      clear hpre HB
      by_cases hem : EN = []
      · subst hem
        obtain rfl : X = ⟨#[]⟩ := HX.out
        clear HX
        go_wp2_with fail
        go_roundw
        case rel => exact ⟨4, 4, by decide, rfl, rfl, by rw [HN.out]; exact ⟨by simpa [piece] using HB6.out⟩, HW6⟩
        case measure => simp [intOf]
      · have hx1 : ¬ X.toList = [] := by rw [HX.out]; intro q; exact hem (by simpa [bs_data, ByteArray.toList_eq] using q)
        have hx2 : X.toList.isEmpty = false := by simpa using hx1
        have hxs : X.size ≤ 74 := by rw [HX.out, bs_size]; exact hel
        have HV := Pin.Aside.mk (fun W => var_put 4 (by decide) (by decide) W)
        have hvs := (vputS_size (4 : Int).toNat).1
        have HVl := Pin.Aside.mk (show (vputS (4 : Int).toNat) = bs (vput 4) from rfl)
        generalize vputS (4 : Int).toNat = V at *
        have hsum : V.size + X.size ≤ 9223372036854775807 := by omega
        have hps : (V ++ X).size ≤ 100 := by rw [ByteArray.size_append]; omega
        go_wp2_with fail
        refine (HV.out _).mono ?_
        rintro x w7 ⟨rfl, hb7⟩
        have HB7 := Pin.Aside.mk (HB6.out.below hb7)
        have HW7 := Pin.Aside.mk (HW6.out.trans (hb7.mono (Nat.le_of_lt hB6)))
        have hB7 : w.heap.size < w7.heap.size := HB7.out.lt
        clear hb7 HB6 HW6 hB6 HV
        have HP := Pin.Aside.mk (show (V ++ X).data.toList = vput 4 ++ EN by rw [HVl.out, HX.out, bs_append, bs_data])
        go_wp2_with fail
        refine (sb_writeString w.heap.size w.heap.size pre (V ++ X) _ HB7.out (by omega) (Nat.le_of_lt hB7)).mono ?_
        rintro x w8 ⟨rfl, hb8, hbb8⟩
        have HB8 := Pin.Aside.mk hb8
        have HW8 := Pin.Aside.mk (HW7.out.trans hbb8)
        clear hb8 hbb8
        go_wp2_with fail
        go_roundw
        case rel => exact ⟨4, 4, by decide, rfl, rfl, by rw [HN.out, piece, if_neg hem, ← HP.out]; exact HB8, HW8⟩
        case measure => simp [intOf]
    · obtain rfl : ki = 4 := by omega
      clear hki hk
      have ca : wr.cell? ⟨F, 8, none⟩ = some (.func (.func 105) #[] #[.pointer (some ⟨P 4, 0, none⟩)]) := hS'.row 8 (by decide)
      have cb : wr.cell? ⟨F, 9, none⟩ = some (.func (.func 106) #[] #[.pointer (some ⟨P 4, 0, none⟩)]) := hS'.row 9 (by decide)
      have hka := (Keep.refl (fun _ => False) wr).alloc (.cells #[.func (.func 105) #[] #[.pointer (some ⟨P 4, 0, none⟩)], .func (.func 106) #[] #[.pointer (some ⟨P 4, 0, none⟩)]] 131)
      have c5 : (wr.alloc (.cells #[.func (.func 105) #[] #[.pointer (some ⟨P 4, 0, none⟩)], .func (.func 106) #[] #[.pointer (some ⟨P 4, 0, none⟩)]] 131)).cell? ⟨wr.heap.size, 0, none⟩ = some (.func (.func 105) #[] #[.pointer (some ⟨P 4, 0, none⟩)]) := by simp
      have hbx := hka.cell (hS'.box 4 (by decide)) id
      have hex := hka.cell (v := .int .u64 e.seq) (p := ⟨A, 4, none⟩) (by have := hE'.c4; rw [Nat.zero_add] at this; exact this) id
      have HB5 := Pin.Aside.mk (HB.out.keep hka)
      have HW5 := Pin.Aside.mk (HW.out.trans (hka.below (B := w.heap.size) (Nat.le_of_lt hBl) fun _ q => q.elim))
      clear hka
      go_upto_region 5 with fail
      generalize wr.alloc (.cells #[.func (.func 105) #[] #[.pointer (some ⟨P 4, 0, none⟩)], .func (.func 106) #[] #[.pointer (some ⟨P 4, 0, none⟩)]] 131) = w5 at *
      clear ca cb hS' hE'
      have hp5 : w5.cell? ⟨P 4, 0, none⟩ = some (.pointer (some ⟨A, 4, none⟩)) := hbx
      have CC := Pin.Aside.mk (sec_put_u64 (P 4) A 4 e.seq hs.seq.1 (by have := hs.seq.2; omega) w5 hp5 hex)
      clear hbx hex hp5
      go_wp2_with fail
      refine CC.out.mono ?_
      rintro x w6 ⟨rfl, hb6⟩
      have hB5 : w.heap.size < w5.heap.size := HB5.out.lt
      have HB6 := Pin.Aside.mk (HB5.out.below hb6)
      have HW6 := Pin.Aside.mk (HW5.out.trans (hb6.mono (Nat.le_of_lt hB5)))
      have hB6 : w.heap.size < w6.heap.size := HB6.out.lt
      have HN := Pin.Aside.mk (secPre_succ e 4 (by decide))
      have hlen := secPre_len hs 4 (by decide)
      have hel := enc_len hs 4 (by decide)
      have HX := Pin.Aside.mk (show (numB e.seq) = bs ((e.fvs.map FV.enc).getD 4 []) from rfl)
      clear hb6 HB5 HW5 c5 CC hB5
      obtain ⟨EN, hEN⟩ : ∃ L, (e.fvs.map FV.enc).getD 4 [] = L := ⟨_, rfl⟩
      rw [hEN] at HN hel HX
      obtain ⟨X, hX⟩ : ∃ X, numB e.seq = X := ⟨_, rfl⟩
      rw [hX] at HX ⊢
      clear hX hEN
      obtain ⟨pre, hpre⟩ : ∃ L, secPre e 4 = L := ⟨_, rfl⟩
      rw [hpre] at HN hlen HB6
      clear hpre HB
      by_cases hem : EN = []
      · subst hem
        obtain rfl : X = ⟨#[]⟩ := HX.out
        clear HX
        go_wp2_with fail
        go_roundw
        case rel => exact ⟨5, 5, by decide, rfl, rfl, by rw [HN.out]; exact ⟨by simpa [piece] using HB6.out⟩, HW6⟩
        case measure => simp [intOf]
      · have hx1 : ¬ X.toList = [] := by rw [HX.out]; intro q; exact hem (by simpa [bs_data, ByteArray.toList_eq] using q)
        have hx2 : X.toList.isEmpty = false := by simpa using hx1
        have hxs : X.size ≤ 74 := by rw [HX.out, bs_size]; exact hel
        have HV := Pin.Aside.mk (fun W => var_put 5 (by decide) (by decide) W)
        have hvs := (vputS_size (5 : Int).toNat).1
        have HVl := Pin.Aside.mk (show (vputS (5 : Int).toNat) = bs (vput 5) from rfl)
        generalize vputS (5 : Int).toNat = V at *
        have hsum : V.size + X.size ≤ 9223372036854775807 := by omega
        have hps : (V ++ X).size ≤ 100 := by rw [ByteArray.size_append]; omega
        go_wp2_with fail
        refine (HV.out _).mono ?_
        rintro x w7 ⟨rfl, hb7⟩
        have HB7 := Pin.Aside.mk (HB6.out.below hb7)
        have HW7 := Pin.Aside.mk (HW6.out.trans (hb7.mono (Nat.le_of_lt hB6)))
        have hB7 : w.heap.size < w7.heap.size := HB7.out.lt
        clear hb7 HB6 HW6 hB6 HV
        have HP := Pin.Aside.mk (show (V ++ X).data.toList = vput 5 ++ EN by rw [HVl.out, HX.out, bs_append, bs_data])
        go_wp2_with fail
        refine (sb_writeString w.heap.size w.heap.size pre (V ++ X) _ HB7.out (by omega) (Nat.le_of_lt hB7)).mono ?_
        rintro x w8 ⟨rfl, hb8, hbb8⟩
        have HB8 := Pin.Aside.mk hb8
        have HW8 := Pin.Aside.mk (HW7.out.trans hbb8)
        clear hb8 hbb8
        go_wp2_with fail
        go_roundw
        case rel => exact ⟨5, 5, by decide, rfl, rfl, by rw [HN.out, piece, if_neg hem, ← HP.out]; exact HB8, HW8⟩
        case measure => simp [intOf]
    · obtain rfl : ki = 5 := by omega
      clear hki hk
      have ca : wr.cell? ⟨F, 10, none⟩ = some (.func (.func 105) #[] #[.pointer (some ⟨P 5, 0, none⟩)]) := hS'.row 10 (by decide)
      have cb : wr.cell? ⟨F, 11, none⟩ = some (.func (.func 106) #[] #[.pointer (some ⟨P 5, 0, none⟩)]) := hS'.row 11 (by decide)
      have hka := (Keep.refl (fun _ => False) wr).alloc (.cells #[.func (.func 105) #[] #[.pointer (some ⟨P 5, 0, none⟩)], .func (.func 106) #[] #[.pointer (some ⟨P 5, 0, none⟩)]] 131)
      have c5 : (wr.alloc (.cells #[.func (.func 105) #[] #[.pointer (some ⟨P 5, 0, none⟩)], .func (.func 106) #[] #[.pointer (some ⟨P 5, 0, none⟩)]] 131)).cell? ⟨wr.heap.size, 0, none⟩ = some (.func (.func 105) #[] #[.pointer (some ⟨P 5, 0, none⟩)]) := by simp
      have hbx := hka.cell (hS'.box 5 (by decide)) id
      have hex := hka.cell (v := .int .u64 e.block) (p := ⟨A, 5, none⟩) (by have := hE'.c5; rw [Nat.zero_add] at this; exact this) id
      have HB5 := Pin.Aside.mk (HB.out.keep hka)
      have HW5 := Pin.Aside.mk (HW.out.trans (hka.below (B := w.heap.size) (Nat.le_of_lt hBl) fun _ q => q.elim))
      clear hka
      go_upto_region 5 with fail
      generalize wr.alloc (.cells #[.func (.func 105) #[] #[.pointer (some ⟨P 5, 0, none⟩)], .func (.func 106) #[] #[.pointer (some ⟨P 5, 0, none⟩)]] 131) = w5 at *
      clear ca cb hS' hE'
      have hp5 : w5.cell? ⟨P 5, 0, none⟩ = some (.pointer (some ⟨A, 5, none⟩)) := hbx
      have CC := Pin.Aside.mk (sec_put_u64 (P 5) A 5 e.block hs.block.1 (by have := hs.block.2; omega) w5 hp5 hex)
      clear hbx hex hp5
      go_wp2_with fail
      refine CC.out.mono ?_
      rintro x w6 ⟨rfl, hb6⟩
      have hB5 : w.heap.size < w5.heap.size := HB5.out.lt
      have HB6 := Pin.Aside.mk (HB5.out.below hb6)
      have HW6 := Pin.Aside.mk (HW5.out.trans (hb6.mono (Nat.le_of_lt hB5)))
      have hB6 : w.heap.size < w6.heap.size := HB6.out.lt
      have HN := Pin.Aside.mk (secPre_succ e 5 (by decide))
      have hlen := secPre_len hs 5 (by decide)
      have hel := enc_len hs 5 (by decide)
      have HX := Pin.Aside.mk (show (numB e.block) = bs ((e.fvs.map FV.enc).getD 5 []) from rfl)
      clear hb6 HB5 HW5 c5 CC hB5
      obtain ⟨EN, hEN⟩ : ∃ L, (e.fvs.map FV.enc).getD 5 [] = L := ⟨_, rfl⟩
      rw [hEN] at HN hel HX
      obtain ⟨X, hX⟩ : ∃ X, numB e.block = X := ⟨_, rfl⟩
      rw [hX] at HX ⊢
      clear hX hEN
      obtain ⟨pre, hpre⟩ : ∃ L, secPre e 5 = L := ⟨_, rfl⟩
      rw [hpre] at HN hlen HB6
      clear hpre HB
      by_cases hem : EN = []
      · subst hem
        obtain rfl : X = ⟨#[]⟩ := HX.out
        clear HX
        go_wp2_with fail
        go_roundw
        case rel => exact ⟨6, 6, by decide, rfl, rfl, by rw [HN.out]; exact ⟨by simpa [piece] using HB6.out⟩, HW6⟩
        case measure => simp [intOf]
      · have hx1 : ¬ X.toList = [] := by rw [HX.out]; intro q; exact hem (by simpa [bs_data, ByteArray.toList_eq] using q)
        have hx2 : X.toList.isEmpty = false := by simpa using hx1
        have hxs : X.size ≤ 74 := by rw [HX.out, bs_size]; exact hel
        have HV := Pin.Aside.mk (fun W => var_put 6 (by decide) (by decide) W)
        have hvs := (vputS_size (6 : Int).toNat).1
        have HVl := Pin.Aside.mk (show (vputS (6 : Int).toNat) = bs (vput 6) from rfl)
        generalize vputS (6 : Int).toNat = V at *
        have hsum : V.size + X.size ≤ 9223372036854775807 := by omega
        have hps : (V ++ X).size ≤ 100 := by rw [ByteArray.size_append]; omega
        go_wp2_with fail
        refine (HV.out _).mono ?_
        rintro x w7 ⟨rfl, hb7⟩
        have HB7 := Pin.Aside.mk (HB6.out.below hb7)
        have HW7 := Pin.Aside.mk (HW6.out.trans (hb7.mono (Nat.le_of_lt hB6)))
        have hB7 : w.heap.size < w7.heap.size := HB7.out.lt
        clear hb7 HB6 HW6 hB6 HV
        have HP := Pin.Aside.mk (show (V ++ X).data.toList = vput 6 ++ EN by rw [HVl.out, HX.out, bs_append, bs_data])
        go_wp2_with fail
        refine (sb_writeString w.heap.size w.heap.size pre (V ++ X) _ HB7.out (by omega) (Nat.le_of_lt hB7)).mono ?_
        rintro x w8 ⟨rfl, hb8, hbb8⟩
        have HB8 := Pin.Aside.mk hb8
        have HW8 := Pin.Aside.mk (HW7.out.trans hbb8)
        clear hb8 hbb8
        go_wp2_with fail
        go_roundw
        case rel => exact ⟨6, 6, by decide, rfl, rfl, by rw [HN.out, piece, if_neg hem, ← HP.out]; exact HB8, HW8⟩
        case measure => simp [intOf]
    · obtain rfl : ki = 6 := by omega
      clear hki hk
      have ca : wr.cell? ⟨F, 12, none⟩ = some (.func (.func 105) #[] #[.pointer (some ⟨P 6, 0, none⟩)]) := hS'.row 12 (by decide)
      have cb : wr.cell? ⟨F, 13, none⟩ = some (.func (.func 106) #[] #[.pointer (some ⟨P 6, 0, none⟩)]) := hS'.row 13 (by decide)
      have hka := (Keep.refl (fun _ => False) wr).alloc (.cells #[.func (.func 105) #[] #[.pointer (some ⟨P 6, 0, none⟩)], .func (.func 106) #[] #[.pointer (some ⟨P 6, 0, none⟩)]] 131)
      have c5 : (wr.alloc (.cells #[.func (.func 105) #[] #[.pointer (some ⟨P 6, 0, none⟩)], .func (.func 106) #[] #[.pointer (some ⟨P 6, 0, none⟩)]] 131)).cell? ⟨wr.heap.size, 0, none⟩ = some (.func (.func 105) #[] #[.pointer (some ⟨P 6, 0, none⟩)]) := by simp
      have hbx := hka.cell (hS'.box 6 (by decide)) id
      have hex := hka.cell (v := .int .u64 e.many) (p := ⟨A, 6, none⟩) (by have := hE'.c6; rw [Nat.zero_add] at this; exact this) id
      have HB5 := Pin.Aside.mk (HB.out.keep hka)
      have HW5 := Pin.Aside.mk (HW.out.trans (hka.below (B := w.heap.size) (Nat.le_of_lt hBl) fun _ q => q.elim))
      clear hka
      go_upto_region 5 with fail
      generalize wr.alloc (.cells #[.func (.func 105) #[] #[.pointer (some ⟨P 6, 0, none⟩)], .func (.func 106) #[] #[.pointer (some ⟨P 6, 0, none⟩)]] 131) = w5 at *
      clear ca cb hS' hE'
      have hp5 : w5.cell? ⟨P 6, 0, none⟩ = some (.pointer (some ⟨A, 6, none⟩)) := hbx
      have CC := Pin.Aside.mk (sec_put_u64 (P 6) A 6 e.many hs.many.1 (by have := hs.many.2; omega) w5 hp5 hex)
      clear hbx hex hp5
      go_wp2_with fail
      refine CC.out.mono ?_
      rintro x w6 ⟨rfl, hb6⟩
      have hB5 : w.heap.size < w5.heap.size := HB5.out.lt
      have HB6 := Pin.Aside.mk (HB5.out.below hb6)
      have HW6 := Pin.Aside.mk (HW5.out.trans (hb6.mono (Nat.le_of_lt hB5)))
      have hB6 : w.heap.size < w6.heap.size := HB6.out.lt
      have HN := Pin.Aside.mk (secPre_succ e 6 (by decide))
      have hlen := secPre_len hs 6 (by decide)
      have hel := enc_len hs 6 (by decide)
      have HX := Pin.Aside.mk (show (numB e.many) = bs ((e.fvs.map FV.enc).getD 6 []) from rfl)
      clear hb6 HB5 HW5 c5 CC hB5
      obtain ⟨EN, hEN⟩ : ∃ L, (e.fvs.map FV.enc).getD 6 [] = L := ⟨_, rfl⟩
      rw [hEN] at HN hel HX
      obtain ⟨X, hX⟩ : ∃ X, numB e.many = X := ⟨_, rfl⟩
      rw [hX] at HX ⊢
      clear hX hEN
      obtain ⟨pre, hpre⟩ : ∃ L, secPre e 6 = L := ⟨_, rfl⟩
      rw [hpre] at HN hlen HB6
      clear hpre HB
      by_cases hem : EN = []
      · subst hem
        obtain rfl : X = ⟨#[]⟩ := HX.out
        clear HX
        go_wp2_with fail
        go_roundw
        case rel => exact ⟨7, 7, by decide, rfl, rfl, by rw [HN.out]; exact ⟨by simpa [piece] using HB6.out⟩, HW6⟩
        case measure => simp [intOf]
      · have hx1 : ¬ X.toList = [] := by rw [HX.out]; intro q; exact hem (by simpa [bs_data, ByteArray.toList_eq] using q)
        have hx2 : X.toList.isEmpty = false := by simpa using hx1
        have hxs : X.size ≤ 74 := by rw [HX.out, bs_size]; exact hel
        have HV := Pin.Aside.mk (fun W => var_put 7 (by decide) (by decide) W)
        have hvs := (vputS_size (7 : Int).toNat).1
        have HVl := Pin.Aside.mk (show (vputS (7 : Int).toNat) = bs (vput 7) from rfl)
        generalize vputS (7 : Int).toNat = V at *
        have hsum : V.size + X.size ≤ 9223372036854775807 := by omega
        have hps : (V ++ X).size ≤ 100 := by rw [ByteArray.size_append]; omega
        go_wp2_with fail
        refine (HV.out _).mono ?_
        rintro x w7 ⟨rfl, hb7⟩
        have HB7 := Pin.Aside.mk (HB6.out.below hb7)
        have HW7 := Pin.Aside.mk (HW6.out.trans (hb7.mono (Nat.le_of_lt hB6)))
        have hB7 : w.heap.size < w7.heap.size := HB7.out.lt
        clear hb7 HB6 HW6 hB6 HV
        have HP := Pin.Aside.mk (show (V ++ X).data.toList = vput 7 ++ EN by rw [HVl.out, HX.out, bs_append, bs_data])
        go_wp2_with fail
        refine (sb_writeString w.heap.size w.heap.size pre (V ++ X) _ HB7.out (by omega) (Nat.le_of_lt hB7)).mono ?_
        rintro x w8 ⟨rfl, hb8, hbb8⟩
        have HB8 := Pin.Aside.mk hb8
        have HW8 := Pin.Aside.mk (HW7.out.trans hbb8)
        clear hb8 hbb8
        go_wp2_with fail
        go_roundw
        case rel => exact ⟨7, 7, by decide, rfl, rfl, by rw [HN.out, piece, if_neg hem, ← HP.out]; exact HB8, HW8⟩
        case measure => simp [intOf]
    · obtain rfl : ki = 7 := by omega
      clear hki hk
      have ca : wr.cell? ⟨F, 14, none⟩ = some (.func (.func 102) #[] #[.pointer (some ⟨P 7, 0, none⟩)]) := hS'.row 14 (by decide)
      have cb : wr.cell? ⟨F, 15, none⟩ = some (.func (.func 104) #[] #[.pointer (some ⟨P 7, 0, none⟩)]) := hS'.row 15 (by decide)
      have hka := (Keep.refl (fun _ => False) wr).alloc (.cells #[.func (.func 102) #[] #[.pointer (some ⟨P 7, 0, none⟩)], .func (.func 104) #[] #[.pointer (some ⟨P 7, 0, none⟩)]] 131)
      have c5 : (wr.alloc (.cells #[.func (.func 102) #[] #[.pointer (some ⟨P 7, 0, none⟩)], .func (.func 104) #[] #[.pointer (some ⟨P 7, 0, none⟩)]] 131)).cell? ⟨wr.heap.size, 0, none⟩ = some (.func (.func 102) #[] #[.pointer (some ⟨P 7, 0, none⟩)]) := by simp
      have hbx := hka.cell (hS'.box 7 (by decide)) id
      have hex := hka.cell (v := .int .i64 e.node) (p := ⟨A, 7, none⟩) (by have := hE'.c7; rw [Nat.zero_add] at this; exact this) id
      have HB5 := Pin.Aside.mk (HB.out.keep hka)
      have HW5 := Pin.Aside.mk (HW.out.trans (hka.below (B := w.heap.size) (Nat.le_of_lt hBl) fun _ q => q.elim))
      clear hka
      go_upto_region 5 with fail
      generalize wr.alloc (.cells #[.func (.func 102) #[] #[.pointer (some ⟨P 7, 0, none⟩)], .func (.func 104) #[] #[.pointer (some ⟨P 7, 0, none⟩)]] 131) = w5 at *
      clear ca cb hS' hE'
      have hp5 : w5.cell? ⟨P 7, 0, none⟩ = some (.pointer (some ⟨A, 7, none⟩)) := hbx
      have CC := Pin.Aside.mk (sec_put_int (P 7) A 7 e.node hs.node.1 (by have := hs.node.2; omega) w5 hp5 hex)
      clear hbx hex hp5
      go_wp2_with fail
      refine CC.out.mono ?_
      rintro x w6 ⟨rfl, hb6⟩
      have hB5 : w.heap.size < w5.heap.size := HB5.out.lt
      have HB6 := Pin.Aside.mk (HB5.out.below hb6)
      have HW6 := Pin.Aside.mk (HW5.out.trans (hb6.mono (Nat.le_of_lt hB5)))
      have hB6 : w.heap.size < w6.heap.size := HB6.out.lt
      have HN := Pin.Aside.mk (secPre_succ e 7 (by decide))
      have hlen := secPre_len hs 7 (by decide)
      have hel := enc_len hs 7 (by decide)
      have HX := Pin.Aside.mk (show (numB e.node) = bs ((e.fvs.map FV.enc).getD 7 []) from rfl)
      clear hb6 HB5 HW5 c5 CC hB5
      obtain ⟨EN, hEN⟩ : ∃ L, (e.fvs.map FV.enc).getD 7 [] = L := ⟨_, rfl⟩
      rw [hEN] at HN hel HX
      obtain ⟨X, hX⟩ : ∃ X, numB e.node = X := ⟨_, rfl⟩
      rw [hX] at HX ⊢
      clear hX hEN
      obtain ⟨pre, hpre⟩ : ∃ L, secPre e 7 = L := ⟨_, rfl⟩
      rw [hpre] at HN hlen HB6
      clear hpre HB
      by_cases hem : EN = []
      · subst hem
        obtain rfl : X = ⟨#[]⟩ := HX.out
        clear HX
        go_wp2_with fail
        go_roundw
        case rel => exact ⟨8, 8, by decide, rfl, rfl, by rw [HN.out]; exact ⟨by simpa [piece] using HB6.out⟩, HW6⟩
        case measure => simp [intOf]
      · have hx1 : ¬ X.toList = [] := by rw [HX.out]; intro q; exact hem (by simpa [bs_data, ByteArray.toList_eq] using q)
        have hx2 : X.toList.isEmpty = false := by simpa using hx1
        have hxs : X.size ≤ 74 := by rw [HX.out, bs_size]; exact hel
        have HV := Pin.Aside.mk (fun W => var_put 8 (by decide) (by decide) W)
        have hvs := (vputS_size (8 : Int).toNat).1
        have HVl := Pin.Aside.mk (show (vputS (8 : Int).toNat) = bs (vput 8) from rfl)
        generalize vputS (8 : Int).toNat = V at *
        have hsum : V.size + X.size ≤ 9223372036854775807 := by omega
        have hps : (V ++ X).size ≤ 100 := by rw [ByteArray.size_append]; omega
        go_wp2_with fail
        refine (HV.out _).mono ?_
        rintro x w7 ⟨rfl, hb7⟩
        have HB7 := Pin.Aside.mk (HB6.out.below hb7)
        have HW7 := Pin.Aside.mk (HW6.out.trans (hb7.mono (Nat.le_of_lt hB6)))
        have hB7 : w.heap.size < w7.heap.size := HB7.out.lt
        clear hb7 HB6 HW6 hB6 HV
        have HP := Pin.Aside.mk (show (V ++ X).data.toList = vput 8 ++ EN by rw [HVl.out, HX.out, bs_append, bs_data])
        go_wp2_with fail
        refine (sb_writeString w.heap.size w.heap.size pre (V ++ X) _ HB7.out (by omega) (Nat.le_of_lt hB7)).mono ?_
        rintro x w8 ⟨rfl, hb8, hbb8⟩
        have HB8 := Pin.Aside.mk hb8
        have HW8 := Pin.Aside.mk (HW7.out.trans hbb8)
        clear hb8 hbb8
        go_wp2_with fail
        go_roundw
        case rel => exact ⟨8, 8, by decide, rfl, rfl, by rw [HN.out, piece, if_neg hem, ← HP.out]; exact HB8, HW8⟩
        case measure => simp [intOf]
    · obtain rfl : ki = 8 := by omega
      clear hki hk
      have ca : wr.cell? ⟨F, 16, none⟩ = some (.func (.func 102) #[] #[.pointer (some ⟨P 8, 0, none⟩)]) := hS'.row 16 (by decide)
      have cb : wr.cell? ⟨F, 17, none⟩ = some (.func (.func 104) #[] #[.pointer (some ⟨P 8, 0, none⟩)]) := hS'.row 17 (by decide)
      have hka := (Keep.refl (fun _ => False) wr).alloc (.cells #[.func (.func 102) #[] #[.pointer (some ⟨P 8, 0, none⟩)], .func (.func 104) #[] #[.pointer (some ⟨P 8, 0, none⟩)]] 131)
      have c5 : (wr.alloc (.cells #[.func (.func 102) #[] #[.pointer (some ⟨P 8, 0, none⟩)], .func (.func 104) #[] #[.pointer (some ⟨P 8, 0, none⟩)]] 131)).cell? ⟨wr.heap.size, 0, none⟩ = some (.func (.func 102) #[] #[.pointer (some ⟨P 8, 0, none⟩)]) := by simp
      have hbx := hka.cell (hS'.box 8 (by decide)) id
      have hex := hka.cell (v := .int .i64 e.level) (p := ⟨A, 8, none⟩) (by have := hE'.c8; rw [Nat.zero_add] at this; exact this) id
      have HB5 := Pin.Aside.mk (HB.out.keep hka)
      have HW5 := Pin.Aside.mk (HW.out.trans (hka.below (B := w.heap.size) (Nat.le_of_lt hBl) fun _ q => q.elim))
      clear hka
      go_upto_region 5 with fail
      generalize wr.alloc (.cells #[.func (.func 102) #[] #[.pointer (some ⟨P 8, 0, none⟩)], .func (.func 104) #[] #[.pointer (some ⟨P 8, 0, none⟩)]] 131) = w5 at *
      clear ca cb hS' hE'
      have hp5 : w5.cell? ⟨P 8, 0, none⟩ = some (.pointer (some ⟨A, 8, none⟩)) := hbx
      have CC := Pin.Aside.mk (sec_put_int (P 8) A 8 e.level hs.level.1 (by have := hs.level.2; omega) w5 hp5 hex)
      clear hbx hex hp5
      go_wp2_with fail
      refine CC.out.mono ?_
      rintro x w6 ⟨rfl, hb6⟩
      have hB5 : w.heap.size < w5.heap.size := HB5.out.lt
      have HB6 := Pin.Aside.mk (HB5.out.below hb6)
      have HW6 := Pin.Aside.mk (HW5.out.trans (hb6.mono (Nat.le_of_lt hB5)))
      have hB6 : w.heap.size < w6.heap.size := HB6.out.lt
      have HN := Pin.Aside.mk (secPre_succ e 8 (by decide))
      have hlen := secPre_len hs 8 (by decide)
      have hel := enc_len hs 8 (by decide)
      have HX := Pin.Aside.mk (show (numB e.level) = bs ((e.fvs.map FV.enc).getD 8 []) from rfl)
      clear hb6 HB5 HW5 c5 CC hB5
      obtain ⟨EN, hEN⟩ : ∃ L, (e.fvs.map FV.enc).getD 8 [] = L := ⟨_, rfl⟩
      rw [hEN] at HN hel HX
      obtain ⟨X, hX⟩ : ∃ X, numB e.level = X := ⟨_, rfl⟩
      rw [hX] at HX ⊢
      clear hX hEN
      obtain ⟨pre, hpre⟩ : ∃ L, secPre e 8 = L := ⟨_, rfl⟩
      rw [hpre] at HN hlen HB6
      clear hpre HB
      by_cases hem : EN = []
      · subst hem
        obtain rfl : X = ⟨#[]⟩ := HX.out
        clear HX
        go_wp2_with fail
        go_roundw
        case rel => exact ⟨9, 9, by decide, rfl, rfl, by rw [HN.out]; exact ⟨by simpa [piece] using HB6.out⟩, HW6⟩
        case measure => simp [intOf]
      · have hx1 : ¬ X.toList = [] := by rw [HX.out]; intro q; exact hem (by simpa [bs_data, ByteArray.toList_eq] using q)
        have hx2 : X.toList.isEmpty = false := by simpa using hx1
        have hxs : X.size ≤ 74 := by rw [HX.out, bs_size]; exact hel
        have HV := Pin.Aside.mk (fun W => var_put 9 (by decide) (by decide) W)
        have hvs := (vputS_size (9 : Int).toNat).1
        have HVl := Pin.Aside.mk (show (vputS (9 : Int).toNat) = bs (vput 9) from rfl)
        generalize vputS (9 : Int).toNat = V at *
        have hsum : V.size + X.size ≤ 9223372036854775807 := by omega
        have hps : (V ++ X).size ≤ 100 := by rw [ByteArray.size_append]; omega
        go_wp2_with fail
        refine (HV.out _).mono ?_
        rintro x w7 ⟨rfl, hb7⟩
        have HB7 := Pin.Aside.mk (HB6.out.below hb7)
        have HW7 := Pin.Aside.mk (HW6.out.trans (hb7.mono (Nat.le_of_lt hB6)))
        have hB7 : w.heap.size < w7.heap.size := HB7.out.lt
        clear hb7 HB6 HW6 hB6 HV
        have HP := Pin.Aside.mk (show (V ++ X).data.toList = vput 9 ++ EN by rw [HVl.out, HX.out, bs_append, bs_data])
        go_wp2_with fail
        refine (sb_writeString w.heap.size w.heap.size pre (V ++ X) _ HB7.out (by omega) (Nat.le_of_lt hB7)).mono ?_
        rintro x w8 ⟨rfl, hb8, hbb8⟩
        have HB8 := Pin.Aside.mk hb8
        have HW8 := Pin.Aside.mk (HW7.out.trans hbb8)
        clear hb8 hbb8
        go_wp2_with fail
        go_roundw
        case rel => exact ⟨9, 9, by decide, rfl, rfl, by rw [HN.out, piece, if_neg hem, ← HP.out]; exact HB8, HW8⟩
        case measure => simp [intOf]
    · obtain rfl : ki = 9 := by omega
      clear hki hk
      have ca : wr.cell? ⟨F, 18, none⟩ = some (.func (.func 107) #[] #[.pointer (some ⟨P 9, 0, none⟩)]) := hS'.row 18 (by decide)
      have cb : wr.cell? ⟨F, 19, none⟩ = some (.func (.func 109) #[] #[.pointer (some ⟨P 9, 0, none⟩)]) := hS'.row 19 (by decide)
      have hka := (Keep.refl (fun _ => False) wr).alloc (.cells #[.func (.func 107) #[] #[.pointer (some ⟨P 9, 0, none⟩)], .func (.func 109) #[] #[.pointer (some ⟨P 9, 0, none⟩)]] 131)
      have c5 : (wr.alloc (.cells #[.func (.func 107) #[] #[.pointer (some ⟨P 9, 0, none⟩)], .func (.func 109) #[] #[.pointer (some ⟨P 9, 0, none⟩)]] 131)).cell? ⟨wr.heap.size, 0, none⟩ = some (.func (.func 107) #[] #[.pointer (some ⟨P 9, 0, none⟩)]) := by simp
      have hbx := hka.cell (hS'.box 9 (by decide)) id
      have hex := hka.cell (v := .string e.data) (p := ⟨A, 9, none⟩) (by have := hE'.c9; rw [Nat.zero_add] at this; exact this) id
      have HB5 := Pin.Aside.mk (HB.out.keep hka)
      have HW5 := Pin.Aside.mk (HW.out.trans (hka.below (B := w.heap.size) (Nat.le_of_lt hBl) fun _ q => q.elim))
      clear hka
      go_upto_region 5 with fail
      generalize wr.alloc (.cells #[.func (.func 107) #[] #[.pointer (some ⟨P 9, 0, none⟩)], .func (.func 109) #[] #[.pointer (some ⟨P 9, 0, none⟩)]] 131) = w5 at *
      clear ca cb hS' hE'
      have hp5 : w5.cell? ⟨P 9, 0, none⟩ = some (.pointer (some ⟨A, 9, none⟩)) := hbx
      have CC := Pin.Aside.mk (sec_put_text (P 9) A 9 e.data (by have := hs.data; omega) w5 hp5 hex)
      clear hbx hex hp5
      go_wp2_with fail
      refine CC.out.mono ?_
      rintro x w6 ⟨rfl, hb6⟩
      have hB5 : w.heap.size < w5.heap.size := HB5.out.lt
      have HB6 := Pin.Aside.mk (HB5.out.below hb6)
      have HW6 := Pin.Aside.mk (HW5.out.trans (hb6.mono (Nat.le_of_lt hB5)))
      have hB6 : w.heap.size < w6.heap.size := HB6.out.lt
      have HN := Pin.Aside.mk (secPre_succ e 9 (by decide))
      have hlen := secPre_len hs 9 (by decide)
      have hel := enc_len hs 9 (by decide)
      have HX := Pin.Aside.mk (show (txtB e.data) = bs ((e.fvs.map FV.enc).getD 9 []) from rfl)
      clear hb6 HB5 HW5 c5 CC hB5
      obtain ⟨EN, hEN⟩ : ∃ L, (e.fvs.map FV.enc).getD 9 [] = L := ⟨_, rfl⟩
      rw [hEN] at HN hel HX
      obtain ⟨X, hX⟩ : ∃ X, txtB e.data = X := ⟨_, rfl⟩
      rw [hX] at HX ⊢
      clear hX hEN
      obtain ⟨pre, hpre⟩ : ∃ L, secPre e 9 = L := ⟨_, rfl⟩
      rw [hpre] at HN hlen HB6
      clear hpre HB
      by_cases hem : EN = []
      · subst hem
        obtain rfl : X = ⟨#[]⟩ := HX.out
        clear HX
        go_wp2_with fail
        go_roundw
        case rel => exact ⟨10, 10, by decide, rfl, rfl, by rw [HN.out]; exact ⟨by simpa [piece] using HB6.out⟩, HW6⟩
        case measure => simp [intOf]
      · have hx1 : ¬ X.toList = [] := by rw [HX.out]; intro q; exact hem (by simpa [bs_data, ByteArray.toList_eq] using q)
        have hx2 : X.toList.isEmpty = false := by simpa using hx1
        have hxs : X.size ≤ 74 := by rw [HX.out, bs_size]; exact hel
        have HV := Pin.Aside.mk (fun W => var_put 10 (by decide) (by decide) W)
        have hvs := (vputS_size (10 : Int).toNat).1
        have HVl := Pin.Aside.mk (show (vputS (10 : Int).toNat) = bs (vput 10) from rfl)
        generalize vputS (10 : Int).toNat = V at *
        have hsum : V.size + X.size ≤ 9223372036854775807 := by omega
        have hps : (V ++ X).size ≤ 100 := by rw [ByteArray.size_append]; omega
        go_wp2_with fail
        refine (HV.out _).mono ?_
        rintro x w7 ⟨rfl, hb7⟩
        have HB7 := Pin.Aside.mk (HB6.out.below hb7)
        have HW7 := Pin.Aside.mk (HW6.out.trans (hb7.mono (Nat.le_of_lt hB6)))
        have hB7 : w.heap.size < w7.heap.size := HB7.out.lt
        clear hb7 HB6 HW6 hB6 HV
        have HP := Pin.Aside.mk (show (V ++ X).data.toList = vput 10 ++ EN by rw [HVl.out, HX.out, bs_append, bs_data])
        go_wp2_with fail
        refine (sb_writeString w.heap.size w.heap.size pre (V ++ X) _ HB7.out (by omega) (Nat.le_of_lt hB7)).mono ?_
        rintro x w8 ⟨rfl, hb8, hbb8⟩
        have HB8 := Pin.Aside.mk hb8
        have HW8 := Pin.Aside.mk (HW7.out.trans hbb8)
        clear hb8 hbb8
        go_wp2_with fail
        go_roundw
        case rel => exact ⟨10, 10, by decide, rfl, rfl, by rw [HN.out, piece, if_neg hem, ← HP.out]; exact HB8, HW8⟩
        case measure => simp [intOf]
    · obtain rfl : ki = 10 := by omega
      clear hki hk
      have ca : wr.cell? ⟨F, 20, none⟩ = some (.func (.func 107) #[] #[.pointer (some ⟨P 10, 0, none⟩)]) := hS'.row 20 (by decide)
      have cb : wr.cell? ⟨F, 21, none⟩ = some (.func (.func 109) #[] #[.pointer (some ⟨P 10, 0, none⟩)]) := hS'.row 21 (by decide)
      have hka := (Keep.refl (fun _ => False) wr).alloc (.cells #[.func (.func 107) #[] #[.pointer (some ⟨P 10, 0, none⟩)], .func (.func 109) #[] #[.pointer (some ⟨P 10, 0, none⟩)]] 131)
      have c5 : (wr.alloc (.cells #[.func (.func 107) #[] #[.pointer (some ⟨P 10, 0, none⟩)], .func (.func 109) #[] #[.pointer (some ⟨P 10, 0, none⟩)]] 131)).cell? ⟨wr.heap.size, 0, none⟩ = some (.func (.func 107) #[] #[.pointer (some ⟨P 10, 0, none⟩)]) := by simp
      have hbx := hka.cell (hS'.box 10 (by decide)) id
      have hex := hka.cell (v := .string e.old) (p := ⟨A, 10, none⟩) (by have := hE'.c10; rw [Nat.zero_add] at this; exact this) id
      have HB5 := Pin.Aside.mk (HB.out.keep hka)
      have HW5 := Pin.Aside.mk (HW.out.trans (hka.below (B := w.heap.size) (Nat.le_of_lt hBl) fun _ q => q.elim))
      clear hka
      go_upto_region 5 with fail
      generalize wr.alloc (.cells #[.func (.func 107) #[] #[.pointer (some ⟨P 10, 0, none⟩)], .func (.func 109) #[] #[.pointer (some ⟨P 10, 0, none⟩)]] 131) = w5 at *
      clear ca cb hS' hE'
      have hp5 : w5.cell? ⟨P 10, 0, none⟩ = some (.pointer (some ⟨A, 10, none⟩)) := hbx
      have CC := Pin.Aside.mk (sec_put_text (P 10) A 10 e.old (by have := hs.old; omega) w5 hp5 hex)
      clear hbx hex hp5
      go_wp2_with fail
      refine CC.out.mono ?_
      rintro x w6 ⟨rfl, hb6⟩
      have hB5 : w.heap.size < w5.heap.size := HB5.out.lt
      have HB6 := Pin.Aside.mk (HB5.out.below hb6)
      have HW6 := Pin.Aside.mk (HW5.out.trans (hb6.mono (Nat.le_of_lt hB5)))
      have hB6 : w.heap.size < w6.heap.size := HB6.out.lt
      have HN := Pin.Aside.mk (secPre_succ e 10 (by decide))
      have hlen := secPre_len hs 10 (by decide)
      have hel := enc_len hs 10 (by decide)
      have HX := Pin.Aside.mk (show (txtB e.old) = bs ((e.fvs.map FV.enc).getD 10 []) from rfl)
      clear hb6 HB5 HW5 c5 CC hB5
      obtain ⟨EN, hEN⟩ : ∃ L, (e.fvs.map FV.enc).getD 10 [] = L := ⟨_, rfl⟩
      rw [hEN] at HN hel HX
      obtain ⟨X, hX⟩ : ∃ X, txtB e.old = X := ⟨_, rfl⟩
      rw [hX] at HX ⊢
      clear hX hEN
      obtain ⟨pre, hpre⟩ : ∃ L, secPre e 10 = L := ⟨_, rfl⟩
      rw [hpre] at HN hlen HB6
      clear hpre HB
      by_cases hem : EN = []
      · subst hem
        obtain rfl : X = ⟨#[]⟩ := HX.out
        clear HX
        go_wp2_with fail
        go_roundw
        case rel => exact ⟨11, 11, by decide, rfl, rfl, by rw [HN.out]; exact ⟨by simpa [piece] using HB6.out⟩, HW6⟩
        case measure => simp [intOf]
      · have hx1 : ¬ X.toList = [] := by rw [HX.out]; intro q; exact hem (by simpa [bs_data, ByteArray.toList_eq] using q)
        have hx2 : X.toList.isEmpty = false := by simpa using hx1
        have hxs : X.size ≤ 74 := by rw [HX.out, bs_size]; exact hel
        have HV := Pin.Aside.mk (fun W => var_put 11 (by decide) (by decide) W)
        have hvs := (vputS_size (11 : Int).toNat).1
        have HVl := Pin.Aside.mk (show (vputS (11 : Int).toNat) = bs (vput 11) from rfl)
        generalize vputS (11 : Int).toNat = V at *
        have hsum : V.size + X.size ≤ 9223372036854775807 := by omega
        have hps : (V ++ X).size ≤ 100 := by rw [ByteArray.size_append]; omega
        go_wp2_with fail
        refine (HV.out _).mono ?_
        rintro x w7 ⟨rfl, hb7⟩
        have HB7 := Pin.Aside.mk (HB6.out.below hb7)
        have HW7 := Pin.Aside.mk (HW6.out.trans (hb7.mono (Nat.le_of_lt hB6)))
        have hB7 : w.heap.size < w7.heap.size := HB7.out.lt
        clear hb7 HB6 HW6 hB6 HV
        have HP := Pin.Aside.mk (show (V ++ X).data.toList = vput 11 ++ EN by rw [HVl.out, HX.out, bs_append, bs_data])
        go_wp2_with fail
        refine (sb_writeString w.heap.size w.heap.size pre (V ++ X) _ HB7.out (by omega) (Nat.le_of_lt hB7)).mono ?_
        rintro x w8 ⟨rfl, hb8, hbb8⟩
        have HB8 := Pin.Aside.mk hb8
        have HW8 := Pin.Aside.mk (HW7.out.trans hbb8)
        clear hb8 hbb8
        go_wp2_with fail
        go_roundw
        case rel => exact ⟨11, 11, by decide, rfl, rfl, by rw [HN.out, piece, if_neg hem, ← HP.out]; exact HB8, HW8⟩
        case measure => simp [intOf]
    · obtain rfl : ki = 11 := by omega
      clear hki hk
      have HSt := Pin.Aside.mk (sb_string w.heap.size w.heap.size _ (secPre_ne ht) _ HB.out)
      have hlen := secPre_len hs 11 (by decide)
      have HE2 := Pin.Aside.mk (secPre_11 e)
      clear hS' hE' HB
      obtain ⟨pre, hpre⟩ : ∃ L, secPre e 11 = L := ⟨_, rfl⟩
      rw [hpre] at HSt hlen HE2
      clear hpre
      have hsz : (⟨pre.toArray⟩ : ByteArray).size ≤ 1000 := by rw [size_mk]; omega
      have HP := Pin.Aside.mk (show (⟨pre.toArray⟩ : ByteArray) ++ ⟨#[0]⟩ = bs (secPut e) by rw [← HE2.out]; exact bs_append pre [0])
      generalize (⟨pre.toArray⟩ : ByteArray) = PR at *
      have hsum : PR.size + (⟨#[0]⟩ : ByteArray).size ≤ 9223372036854775807 := by show PR.size + 1 ≤ _; omega
      go_wp2_with fail
      refine HSt.out.mono ?_
      rintro x w9 ⟨rfl, hb9⟩
      go_wp2_with fail
      go_ret
      exact ⟨by rw [← HP.out]; rfl, HW.out.trans hb9⟩
end Go.Proofs.Ythlmigbimeldbaa
