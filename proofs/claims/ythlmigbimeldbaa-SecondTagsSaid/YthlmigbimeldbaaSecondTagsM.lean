/- SecondTags: plain laws. -/
import Derived.Test.YthlmigbimeldbaaSecL
set_option maxRecDepth 16000
namespace Go.Pin
open Go.RowKit
set_option linter.unusedVariables false
set_option linter.unusedSimpArgs false
theorem fail_var : Rd.fail.var = (0, Rd.fail) := by rfl
theorem getF_fail (f last : Nat) (e : En) : (getF (f + 1) last e Rd.fail) = (e, Rd.fail) := by
  rw [getF_succ, fail_var]; rfl
/-- One number more. -/
theorem getF_num (f last t : Nat) (e : En) (x : Nat) (rest : List UInt8) (h1 : last < t) (h2 : t ≤ 9) (h0 : 0 < x) (hx : x < 9223372036854775808) :
    getF (f + 1) last e ⟨bs (vput t ++ (vput x ++ rest)), false⟩ = getF f t (e.setN t x) ⟨bs rest, false⟩ := by
  have hr := rd_var_put t (vput x ++ rest) false (by omega)
  rw [getF_succ, hr]; unfold secGo
  dsimp only
  rw [if_neg (by omega), if_neg (by omega)]
  have hk := take_put t (.n (x : Int)) e rest ⟨h2, by omega, by omega, fun _ => by omega⟩ (by simp [FV.no]; omega)
  rw [enc_nat h0] at hk
  rw [hk]
  rfl
where
  enc_nat {x : Nat} (h : 0 < x) : FV.enc (.n (x : Int)) = vput x := by unfold FV.enc; dsimp only; rw [if_neg (by omega)]; rfl
/-- A tag that may not be. -/
theorem getF_tag (f last t : Nat) (e : En) (rest : List UInt8) (ht : t < 18446744073709551616) (h0 : 0 < t) (h : t ≤ last ∨ 11 < t) : getF (f + 1) last e ⟨bs (vput t ++ rest), false⟩ = (e, Rd.fail) := by
  have hr := rd_var_put t rest false ht
  rw [getF_succ, hr]; unfold secGo
  dsimp only
  rw [if_neg (by omega), if_pos h]
theorem getF_end (f last : Nat) (e : En) (rest : List UInt8) : getF (f + 1) last e ⟨bs (0 :: rest), false⟩ = (e, ⟨bs rest, false⟩) := by
  have hr := rd_var_put 0 rest false (by decide)
  rw [vput_0] at hr
  rw [getF_succ, show (0 :: rest) = [0] ++ rest from rfl, hr]
  rfl
theorem secGet_bad {s : ByteArray} (h : (getF 12 0 En.zero ⟨s, false⟩).2.bad = true) : (secGet ⟨s, false⟩).2.bad = true := by
  unfold secGet
  rw [if_neg]
  · rfl
  · rintro ⟨q, _⟩; rw [h] at q; cases q
theorem vput_1 : vput 1 = [1] := by rfl
theorem vput_2 : vput 2 = [2] := by rfl
theorem vput_3 : vput 3 = [3] := by rfl
theorem vput_10 : vput 10 = [10] := by rfl
section
variable (m n : Nat) (hm : 0 < m ∧ m < 4294967297) (hn : 0 < n ∧ n < 4294967297)
include hm hn
omit hm in
theorem tags_1 : (secGet ⟨bs ([3] ++ vput n ++ [2] ++ vput m ++ [0]), false⟩).2.bad = true := by
  apply secGet_bad
  have h := getF_num 11 0 3 En.zero n ([2] ++ vput m ++ [0]) (by decide) (by decide) hn.1 (by omega)
  rw [vput_3] at h
  simp only [List.append_assoc] at h ⊢
  rw [h]
  have h2 := getF_tag 10 3 2 (En.zero.setN 3 n) (vput m ++ [0]) (by decide) (by decide) (by decide)
  rw [vput_2] at h2
  rw [h2]; rfl
omit hn in
theorem tags_2 : (secGet ⟨bs ([2] ++ vput m ++ [2] ++ vput m ++ [3] ++ vput n ++ [0]), false⟩).2.bad = true := by
  apply secGet_bad
  have h := getF_num 11 0 2 En.zero m ([2] ++ vput m ++ [3] ++ vput n ++ [0]) (by decide) (by decide) hm.1 (by omega)
  rw [vput_2] at h
  simp only [List.append_assoc] at h ⊢
  rw [h]
  have h2 := getF_tag 10 2 2 (En.zero.setN 2 m) (vput m ++ ([3] ++ (vput n ++ [0]))) (by decide) (by decide) (by decide)
  rw [vput_2] at h2
  rw [h2]; rfl
omit hm hn in
theorem tags_3 (rest : List UInt8) : (secGet ⟨bs ([1, 0, 2] ++ rest), false⟩).2.bad = true := by
  apply secGet_bad
  have hr := rd_var_put 1 ([0, 2] ++ rest) false (by decide)
  rw [vput_1] at hr
  have hr2 := rd_var_put 0 ([2] ++ rest) false (by decide)
  rw [vput_0] at hr2
  rw [show ([1, 0, 2] ++ rest : List UInt8) = [1] ++ ([0, 2] ++ rest) from rfl, show 12 = 11 + 1 from rfl]
  rw [getF_succ, hr]; unfold secGo
  dsimp only
  rw [if_neg (by decide), if_neg (by decide)]
  have ht : (takeF 1 En.zero ⟨bs ([0, 2] ++ rest), false⟩).2 = Rd.fail := by
    unfold takeF
    rw [if_pos (by decide), show ([0, 2] ++ rest : List UInt8) = [0] ++ ([2] ++ rest) from rfl, hr2]
    rfl
  rw [ht, getF_fail]
  rfl
theorem two (f : Nat) (rest : List UInt8) : getF (f + 1 + 1) 0 En.zero ⟨bs ([2] ++ (vput m ++ ([3] ++ (vput n ++ rest)))), false⟩ = getF f 3 ((En.zero.setN 2 m).setN 3 n) ⟨bs rest, false⟩ := by
  have h := getF_num (f + 1) 0 2 En.zero m ([3] ++ (vput n ++ rest)) (by decide) (by decide) hm.1 (by omega)
  rw [vput_2] at h
  rw [h]
  have h2 := getF_num f 2 3 (En.zero.setN 2 m) n rest (by decide) (by decide) hn.1 (by omega)
  rw [vput_3] at h2
  exact h2
theorem tags_4 (t : Nat) (ht : 11 < t ∧ t < 18446744073709551616) : (secGet ⟨bs ([2] ++ vput m ++ [3] ++ vput n ++ vput t ++ [1, 0]), false⟩).2.bad = true := by
  apply secGet_bad
  simp only [List.append_assoc]
  rw [two m n hm hn 10, getF_tag 9 3 t _ _ ht.2 (by omega) (.inr ht.1)]
  rfl
theorem tags_5 : (secGet ⟨bs ([2] ++ vput m ++ [3] ++ vput n), false⟩).2.bad = true := by
  apply secGet_bad
  have h := two m n hm hn 10 []
  rw [List.append_nil] at h
  simp only [List.append_assoc]
  rw [h]
  rfl
omit hn in
theorem tags_6 : (secGet ⟨bs ([2] ++ vput m ++ [0]), false⟩).2.bad = true := by
  have h := getF_num 11 0 2 En.zero m [0] (by decide) (by decide) hm.1 (by omega)
  rw [vput_2] at h
  unfold secGet
  simp only [List.append_assoc]
  rw [h, getF_end]
  rw [if_neg]
  · rfl
  · rintro ⟨_, q⟩
    dsimp only at q
    unfold En.right at q
    simp [En.setN, En.zero] at q
theorem tags_7 : (secGet ⟨bs ([2] ++ vput m ++ [3] ++ vput n ++ [10, 0, 0]), false⟩).2.bad = true := by
  apply secGet_bad
  simp only [List.append_assoc]
  rw [two m n hm hn 10]
  have hr := rd_var_put 10 [0, 0] false (by decide)
  rw [vput_10] at hr
  rw [show ([10, 0, 0] : List UInt8) = [10] ++ [0, 0] from rfl, show 10 = 9 + 1 from rfl]
  rw [getF_succ, hr]; unfold secGo
  dsimp only
  rw [if_neg (by decide), if_neg (by decide)]
  have ht : ∀ e : En, (takeF 10 e ⟨bs [0, 0], false⟩).2 = Rd.fail := fun e => by
    unfold takeF
    rw [if_neg (by decide)]
    rfl
  rw [ht, getF_fail]
  rfl
theorem tags_8 : secGet ⟨bs ([2] ++ vput m ++ [3] ++ vput n ++ [0]), false⟩ = ((En.zero.setN 2 m).setN 3 n, ⟨bs [], false⟩) := by
  unfold secGet
  simp only [List.append_assoc]
  rw [two m n hm hn 10, getF_end, if_pos]
  refine ⟨rfl, ?_⟩
  dsimp only
  unfold En.right
  simp [En.setN, En.zero, enF, enFit, enHas, hm.1, hn.1]
end
end Go.Pin
