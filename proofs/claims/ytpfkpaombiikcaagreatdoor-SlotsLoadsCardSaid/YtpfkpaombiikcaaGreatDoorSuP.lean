import Derived.Test.YtpfkpaombiikcaaGreatDoorSuD
import Derived.Test.YtpfkpaombiikcaaGreatDoorZPlain
/- A sector of super: what is put is got, and nothing else; the reader's own way and the document's come to the same. -/
set_option maxRecDepth 16000
namespace Go.Pin
open Go.RowKit
set_option linter.unusedVariables false
set_option linter.unusedSimpArgs false
theorem dropWhile_nil {p : UInt8 → Bool} (l : List UInt8) : l.dropWhile p = [] ↔ ∀ b ∈ l, p b = true := by
  induction l with
  | nil => simp
  | cons a l ih =>
    rw [List.dropWhile_cons]
    by_cases h : p a = true
    · rw [if_pos h, ih]
      constructor
      · intro q b hb
        rcases List.mem_cons.1 hb with e | e
        · rw [e]; exact h
        · exact q b e
      · exact fun q b hb => q b (List.mem_cons_of_mem _ hb)
    · rw [if_neg h]
      constructor
      · intro q; cases q
      · exact fun q => absurd (q a List.mem_cons_self) h
theorem trimB_nil (l : List UInt8) : Lib.trimB l 0 = [] ↔ ∀ b ∈ l, b = 0 := by
  unfold Lib.trimB Lib.trimLeftB
  rw [dropWhile_nil]
  constructor
  · intro h b hb
    have hr : b ∈ l.reverse := by simpa using hb
    have hs : l.reverse.takeWhile (· == 0) ++ l.reverse.dropWhile (· == 0) = l.reverse := List.takeWhile_append_dropWhile
    rw [← hs] at hr
    rcases List.mem_append.1 hr with q | q
    · have := List.all_eq_true.1 (List.all_takeWhile (p := (· == (0 : UInt8))) (l := l.reverse)) b q
      simpa using this
    · have := h b (by unfold Lib.trimRightB; simpa using q)
      simpa using this
  · intro h b hb
    have : b ∈ l := by
      unfold Lib.trimRightB at hb
      have := List.dropWhile_subset (fun x : UInt8 => x == 0) (List.mem_reverse.1 hb)
      simpa using this
    simp [h b this]
theorem all_zero {l : List UInt8} (h : ∀ b ∈ l, b = 0) : l = List.replicate l.length 0 := List.eq_replicate_iff.2 ⟨rfl, h⟩
theorem rd_fixed_putS (k : Int) (kn n : Nat) (hkn : k = (kn : Int)) (rest : List UInt8) (hk : kn ≤ 8) : (Rd.mk (bs (fixedL kn n ++ rest)) false).fixed k = (n % 256 ^ kn, ⟨bs rest, false⟩) := by
  subst hkn; exact rd_fixed_put kn n rest hk
theorem rd_bytes_appS (p rest : List UInt8) (k : Int) (hk : k = (p.length : Int)) : (Rd.mk (bs (p ++ rest)) false).bytes k = (bs p, ⟨bs rest, false⟩) := by
  subst hk; exact rd_bytes_app p rest
theorem bs_nil : (⟨#[]⟩ : ByteArray) = bs [] := rfl
theorem sbody_bs (n : Nat) (b : ByteArray) : sbody n b = bs (fixedL 8 n ++ (fixedL 1 b.size ++ (b.data.toList ++ List.replicate (51 - b.size) 0))) := by
  apply bs_ext
  unfold sbody
  rw [bs_data]
  have e1 := fixedS_data n 8 (by omega)
  have e2 := fixedS_data b.size 1 (by omega)
  have e3 : (zeros (51 - b.size)).data.toList = List.replicate (51 - b.size) 0 := by simp [zeros]
  simp only [ByteArray.data_append, Array.toList_append]
  rw [show ((8 : Int)) = ((8 : Nat) : Int) from rfl, show ((1 : Int)) = ((1 : Nat) : Int) from rfl, e1, e2, e3]
  simp [List.append_assoc]
theorem data_len (b : ByteArray) : b.data.toList.length = b.size := by rw [Array.length_toList]; rfl
theorem sbody_size60 (n : Nat) (b : ByteArray) (hb : b.size ≤ 51) : (sbody n b).size = 60 := by
  rw [sbody_bs, bs_size]
  simp only [List.length_append, fixedL_len, data_len, List.length_replicate]; omega
theorem sread8_body (n : Nat) (hn : n < 18446744073709551616) (b : ByteArray) (hb : b.size ≤ 51) : sread8 (sbody n b) = (n, b, zeros (51 - b.size), ⟨⟨#[]⟩, false⟩) := by
  rw [sbody_bs]
  unfold sread8
  rw [rd_fixed_putS 8 8 n rfl _ (by omega)]
  have e1 : n % 256 ^ 8 = n := Nat.mod_eq_of_lt (by omega)
  have e2 : b.size % 256 ^ 1 = b.size := Nat.mod_eq_of_lt (by omega)
  dsimp only
  rw [rd_fixed_putS 1 1 b.size rfl _ (by omega)]
  dsimp only
  rw [e1, e2, rd_bytes_appS b.data.toList _ _ (by rw [data_len])]
  dsimp only
  have e3 := rd_bytes_appS (List.replicate (51 - b.size) 0) [] ((bs (List.replicate (51 - b.size) (0 : UInt8))).size : Int) (by rw [bs_size])
  rw [List.append_nil] at e3
  rw [e3, bs_of, bs_nil]
  have : bs (List.replicate (51 - b.size) 0) = zeros (51 - b.size) := by apply bs_ext; rw [bs_data]; simp [zeros]
  rw [this]
theorem cput_size64 (n : Nat) (b : ByteArray) (hb : b.size ≤ 51) : (cput (sbody n b)).size = 64 := by rw [cput_size, sbody_size60 n b hb]
theorem sget_put (n : Nat) (h1 : 0 < n) (h2 : n < 18446744073709551616) (b : ByteArray) (hb : b.size ≤ 51) : sget (cput (sbody n b)) = ((n : Int), b, true) := by
  unfold sget
  rw [cget_cput, if_neg (by rw [cput_size64 n b hb]; simp)]
  dsimp only
  rw [sread8_body n h2 b hb]
  dsimp only
  rw [if_neg]
  rintro (q | q | q)
  · cases q
  · omega
  · exact q ((trimB_nil _).2 fun x hx => by simp [zeros] at hx; exact hx.2)
theorem rd_fail_bytesS (k : Int) : Rd.fail.bytes k = (⟨#[]⟩, Rd.fail) := by unfold Rd.bytes; rw [if_pos (.inl rfl)]
theorem sget_form (s : ByteArray) : sget s = (0, ⟨#[]⟩, false) ∨ ∃ (n : Nat) (b : ByteArray), 0 < n ∧ n < 18446744073709551616 ∧ b.size ≤ 51 ∧ s = cput (sbody n b) := by
  by_cases h1 : (cget s).2 = false ∨ s.size ≠ 64
  · left; unfold sget; rw [if_pos h1]
  · have hsz : s.size = 64 := by
      rcases Nat.decEq s.size 64 with h | h
      · exact absurd (.inr h) h1
      · exact h
    have hok : (cget s).2 ≠ false := fun q => h1 (.inl q)
    have hc : cput (s.extract 4 s.size) = s ∧ (cget s).1 = s.extract 4 s.size := by
      unfold cget at hok ⊢
      split at hok
      · exact absurd rfl hok
      · rename_i hq
        rw [if_neg hq]
        refine ⟨?_, rfl⟩
        by_cases e : cput (s.extract 4 s.size) = s
        · exact e
        · exact absurd (.inr e) hq
    obtain ⟨C, hC⟩ : ∃ C, s.extract 4 s.size = C := ⟨_, rfl⟩
    rw [hC] at hc
    have hCs : C.data.toList.length = 60 := by rw [data_len, ← hC, ByteArray.size_extract]; omega
    obtain ⟨L, hL⟩ : ∃ L, C.data.toList = L := ⟨_, rfl⟩
    have hCL : C = bs L := by rw [← hL, bs_of]
    rw [hL] at hCs
    have hf8 : (L.take 8).length = 8 := by rw [List.length_take]; omega
    have hf1 : ((L.drop 8).take 1).length = 1 := by rw [List.length_take, List.length_drop]; omega
    have hT : (L.drop 9).length = 51 := by rw [List.length_drop]; omega
    obtain ⟨n, hn⟩ : ∃ n, beNat (L.take 8) = n := ⟨_, rfl⟩
    obtain ⟨m, hm⟩ : ∃ m, beNat ((L.drop 8).take 1) = m := ⟨_, rfl⟩
    obtain ⟨T, hTT⟩ : ∃ T, L.drop 9 = T := ⟨_, rfl⟩
    have hn2 : n < 18446744073709551616 := by
      have := beNat_lt (L.take 8); rw [hn, hf8] at this; omega
    have hm2 : m < 256 := by
      have := beNat_lt ((L.drop 8).take 1); rw [hm, hf1] at this; omega
    have hLf : L = fixedL 8 n ++ (fixedL 1 m ++ T) := by
      rw [← hn, ← hm, fixed_beNat _ 8 hf8, fixed_beNat _ 1 hf1, ← hTT]
      rw [show (L.drop 9) = (L.drop 8).drop 1 from by rw [List.drop_drop], List.take_append_drop, List.take_append_drop]
    rw [hTT] at hT
    have e1 : n % 256 ^ 8 = n := Nat.mod_eq_of_lt (by omega)
    have e2 : m % 256 ^ 1 = m := Nat.mod_eq_of_lt (by omega)
    unfold sget
    rw [if_neg h1, hc.2]
    have hq : sread8 C = (n, ((Rd.mk (bs T) false).bytes (m : Int)).1, (((Rd.mk (bs T) false).bytes (m : Int)).2.bytes ((((Rd.mk (bs T) false).bytes (m : Int)).2.s.size : Nat) : Int)).1, (((Rd.mk (bs T) false).bytes (m : Int)).2.bytes ((((Rd.mk (bs T) false).bytes (m : Int)).2.s.size : Nat) : Int)).2) := by
      rw [hCL, hLf]
      unfold sread8
      rw [rd_fixed_putS 8 8 n rfl _ (by omega)]
      dsimp only
      rw [rd_fixed_putS 1 1 m rfl _ (by omega)]
      dsimp only
      rw [e1, e2]
    dsimp only
    rw [hq]
    dsimp only
    by_cases hm51 : m ≤ 51
    · have hTs : T = T.take m ++ T.drop m := (List.take_append_drop m T).symm
      have htl : (T.take m).length = m := by rw [List.length_take]; omega
      have hb := rd_bytes_appS (T.take m) (T.drop m) (m : Int) (by rw [htl])
      rw [List.take_append_drop] at hb
      have hr := rd_bytes_appS (T.drop m) [] ((bs (T.drop m)).size : Int) (by rw [bs_size])
      rw [List.append_nil] at hr
      rw [hb]
      dsimp only
      rw [hr]
      dsimp only
      by_cases hz : n = 0
      · left; rw [if_pos (.inr (.inl hz))]
      · by_cases ht : Lib.trimB (bs (T.drop m)).data.toList 0 = []
        · right
          refine ⟨n, bs (T.take m), by omega, hn2, by rw [bs_size, htl]; exact hm51, ?_⟩
          rw [← hc.1, sbody_bs, hCL]
          congr 2
          rw [hLf, bs_size, htl, bs_data]
          congr 2
          rw [bs_data] at ht
          have := all_zero ((trimB_nil _).1 ht)
          rw [List.length_drop, hT] at this
          rw [← this, List.take_append_drop]
        · left; rw [if_pos (.inr (.inr ht))]
    · left
      have hb : (Rd.mk (bs T) false).bytes (m : Int) = (⟨#[]⟩, Rd.fail) := by
        unfold Rd.bytes
        rw [if_pos (.inr (.inr (by show ((bs T).size : Int) < _; rw [bs_size, hT]; omega)))]
      rw [hb]
      dsimp only
      rw [rd_fail_bytesS]
      rw [if_pos (.inl rfl)]
theorem sget_cases (s : ByteArray) : sget s = (0, ⟨#[]⟩, false) ∨ ∃ (n : Nat) (b : ByteArray), 0 < n ∧ n < 18446744073709551616 ∧ b.size ≤ 51 ∧ s = cput (sbody n b) ∧ sget s = ((n : Int), b, true) := by
  rcases sget_form s with h | ⟨n, b, h1, h2, h3, rfl⟩
  · exact .inl h
  · exact .inr ⟨n, b, h1, h2, h3, rfl, sget_put n h1 h2 b h3⟩
theorem sget_range (s : ByteArray) : 0 ≤ (sget s).1 ∧ (sget s).1 ≤ 18446744073709551615 ∧ (sget s).2.1.size ≤ 51 := by
  rcases sget_cases s with h | ⟨n, b, h1, h2, h3, _, h⟩
  · rw [h]; exact ⟨Int.le_refl _, by simp, Nat.zero_le _⟩
  · rw [h]; exact ⟨by simp, by simp; omega, h3⟩
theorem sput_ok (n : Nat) (h1 : 0 < n) (b : ByteArray) (hb : b.size ≤ 51) : sput (n : Int) b = (cput (sbody n b), true) := by
  unfold sput
  rw [if_neg (by omega), Int.toNat_natCast]
theorem sput_cases (g : Int) (b : ByteArray) : sput g b = (⟨#[]⟩, false) ∧ (g = 0 ∨ 51 < b.size) ∨ sput g b = (cput (sbody g.toNat b), true) ∧ g ≠ 0 ∧ b.size ≤ 51 := by
  unfold sput
  split
  · rename_i h; exact .inl ⟨rfl, h⟩
  · rename_i h; exact .inr ⟨rfl, by omega, by omega⟩
theorem sput_size (g : Int) (b : ByteArray) : (sput g b).1.size ≤ 64 := by
  rcases sput_cases g b with ⟨h, _⟩ | ⟨h, _, hb⟩
  · rw [h]; exact Nat.zero_le _
  · rw [h, cput_size64 _ _ hb]; omega
theorem Rd.fixed_lt8S (r : Rd) : (r.fixed 8).1 < 18446744073709551616 := by
  unfold Rd.fixed
  rw [if_neg (by omega)]
  have h := Rd.bytes_size r 8
  have h2 := beNat_lt (r.bytes 8).1.data.toList
  have h3 : (r.bytes 8).1.data.toList.length ≤ 8 := by rw [data_len]; omega
  exact Nat.lt_of_lt_of_le h2 (Nat.pow_le_pow_right (by omega) h3)
/-- The document's way: it is put as it stands. -/
def srefget (s : ByteArray) : Int × ByteArray × Bool :=
  if s.size ≠ 64 then (0, ⟨#[]⟩, false) else
  let x := (Rd.mk (s.extract 4 s.size) false).fixed 8
  let y := x.2.fixed 1
  let b := (y.2.bytes (min (y.1 : Int) 51)).1
  if (sput x.1 b).2 = false ∨ (sput x.1 b).1 ≠ s then (0, ⟨#[]⟩, false) else (x.1, b, true)
theorem srefget_eq (s : ByteArray) : srefget s = sget s := by
  by_cases h64 : s.size = 64
  · rcases sget_cases s with h | ⟨n, b, h1, h2, h3, rfl, h⟩
    · rw [h]
      unfold srefget
      rw [if_neg (by simp [h64])]
      dsimp only
      rw [if_pos]
      refine Classical.byContradiction fun q => ?_
      obtain ⟨q1, q2⟩ := not_or.1 q
      have hx := Rd.fixed_lt8S (Rd.mk (s.extract 4 s.size) false)
      generalize ((Rd.mk (s.extract 4 s.size) false).fixed 8) = x at *
      generalize ((x.2.fixed 1).2.bytes (min ((x.2.fixed 1).1 : Int) 51)).1 = b at *
      rcases sput_cases x.1 b with ⟨e, _⟩ | ⟨e, e1, e2⟩
      · rw [e] at q1; exact q1 rfl
      · rw [e] at q2
        have q3 : cput (sbody ((x.1 : Int)).toNat b) = s := Classical.not_not.1 q2
        have := sget_put x.1 (by omega) hx b e2
        rw [Int.toNat_natCast] at q3
        rw [q3, h] at this
        simp at this
    · rw [h]
      unfold srefget
      rw [if_neg (by simp [h64])]
      have hx : (cput (sbody n b)).extract 4 (cput (sbody n b)).size = sbody n b := cput_extract _
      rw [hx, sbody_bs]
      rw [rd_fixed_putS 8 8 n rfl _ (by omega)]
      have e1 : n % 256 ^ 8 = n := Nat.mod_eq_of_lt (by omega)
      have e2 : b.size % 256 ^ 1 = b.size := Nat.mod_eq_of_lt (by omega)
      dsimp only
      rw [rd_fixed_putS 1 1 b.size rfl _ (by omega)]
      dsimp only
      rw [e1, e2, rd_bytes_appS b.data.toList _ _ (by rw [data_len]; omega)]
      dsimp only
      rw [bs_of, sput_ok n h1 b h3, ← sbody_bs]
      simp
  · unfold srefget sget
    rw [if_pos h64, if_pos (.inr h64)]
end Go.Pin
