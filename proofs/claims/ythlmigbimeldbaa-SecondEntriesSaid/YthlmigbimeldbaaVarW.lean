/- What the functions of package varint and of its reference compute: numbers put. -/
import Derived.Test.YthlmigbimeldbaaProg
import Derived.Test.YthlmigbimeldbaaBytes
import Derived.Test.YthlmigbimeldbaaVarM
set_option maxRecDepth 16000
namespace Go.Pin
open Go.RowKit
set_option linter.unusedVariables false
set_option linter.unusedSimpArgs false

def bytesV (l : List UInt8) : List Value := l.map fun b => .int .u8 (b.toNat : Int)
theorem bytesV_len (l : List UInt8) : (bytesV l).length = l.length := by simp [bytesV]
theorem bytesV_append (a b : List UInt8) : bytesV (a ++ b) = bytesV a ++ bytesV b := by simp [bytesV]

/-- string(b) of a row of bytes of the call's own. -/
theorem own_string {P : Program} {w : World} {base n : Nat} {e' src dst e : TypeId} {v : Value} {l : List UInt8} (hs : P.underlying src = some (.slice e)) (he : P.underlying e = some (.int .u8)) (hd : P.underlying dst = some .string)
    (h : w.ownsRow base e' 1 v n (bytesV l)) : (convert src dst v).run P w = .ok (.string ⟨l.toArray⟩) w := by
  have hl : l.length = n := by have := h.1; simp [bytesV] at this; exact this
  rcases h.2 with ⟨rfl, rfl⟩ | ⟨g, cap, cur, rfl, _⟩
  · obtain rfl : l = [] := List.eq_nil_of_length_eq_zero hl
    exact run_convert_bytes_nil w src e hs he 0 0 dst hd
  · refine run_string_bytes w src dst e hs he hd g l n cap hl fun j hj => ?_
    have := h.cells (g := g) rfl j (.int .u8 (l.getD j 0).toNat) (by simp [bytesV, List.getElem?_eq_getElem hj, List.getD])
    rwa [show (⟨g, 0, none⟩ : Addr).add j = ⟨g, j, none⟩ from by unfold Addr.add; split <;> simp_all] at this
theorem own_below {w w' : World} {base : Nat} {e : TypeId} {size n : Nat} {v : Value} {xs : List Value} (h : w.ownsRow base e size v n xs) (hw : World.grownBy w w' v.ownBlock) {a : World} (hb : Below base a w) (hB : base ≤ w.heap.size) : Below base a w' := by
  refine hb.grown hw hB fun k hk => ?_
  rcases h.2 with ⟨rfl, _⟩ | ⟨g, cap, cur, rfl, hg, _⟩
  · simp [Value.ownBlock] at hk
  · have : g = k := by simpa [Value.ownBlock] using hk
    omega
theorem one_cell (k : IntKind) (x : Int) : ∀ u ∈ [Value.int k x], u.oneCell' = true := by
  intro u hu; rw [List.mem_singleton] at hu; subst hu; rfl
theorem byte_big (k : Int) (h : 0 ≤ k) : k % 128 + 128 = ((UInt8.ofNat (k.toNat % 128 + 128)).toNat : Int) := by
  rw [UInt8.toNat_ofNat']
  obtain ⟨n, rfl⟩ := Int.eq_ofNat_of_zero_le h
  simp only [Int.toNat_natCast]
  omega
theorem byte_small (k : Int) (h : 0 ≤ k) (h1 : k < 128) : k = ((UInt8.ofNat k.toNat).toNat : Int) := by
  rw [UInt8.toNat_ofNat']
  omega
theorem byte_or (k : Int) (h : 0 ≤ k) : bits BinOp.or IntKind.u8 (k % 256) 128 = ((UInt8.ofNat (k.toNat % 128 + 128)).toNat : Int) := by
  obtain ⟨n, rfl⟩ := Int.eq_ofNat_of_zero_le h
  have e : ((n : Int) % 256) = ((n % 256 : Nat) : Int) := by omega
  have h2 := (bits_nat .u8 8 (by decide) wraps_u8 (n % 256) 128 (by omega) (by omega)).2
  rw [e, show (128 : Int) = ((128 : Nat) : Int) from rfl, h2, UInt8.toNat_ofNat']
  simp only [Int.toNat_natCast]
  congr 1
  have : ∀ m : Fin 256, m.val ||| 128 = m.val % 128 + 128 := by decide +kernel
  have := this ⟨n % 256, by omega⟩
  simp only at this
  rw [this]; omega
theorem toNat_div128 (k : Int) (h : 0 ≤ k) : (k / 128).toNat = k.toNat / 128 := by omega
end Go.Pin

namespace Go.Proofs.Ythlmigbimeldbaa
open Go.RowKit Go.Pin
set_option linter.unusedVariables false
set_option linter.unusedSimpArgs false

theorem info_u8 : (Try.prog.info? 5).map (fun i => (i.zero, i.size, i.bytes)) = some (some (.int .u8 0), 1, 1) := by kernel_rfl

set_option maxHeartbeats 400000 in
theorem varref_put (n : Int) (hn0 : 0 ≤ n) (hn : n ≤ 18446744073709551615) (w : World) :
    Calls Try.prog 89 #[.int .u64 n] w fun e w' => e = .returned (.string (vputS n.toNat)) ∧ Below w.heap.size w w' := by
  obtain ⟨i0, hi, hz0, hz1, hz2⟩ := info_parts info_u8
  have hlen := vput_len n.toNat
  go_enter Try.func89, Try.ntmps89
  go_wp2_with fail
  go_loopw [0, 3] (fun m v wr => ∃ (pre : List UInt8) (k : Int), 0 ≤ k ∧ k ≤ 18446744073709551615 ∧ vput n.toNat = pre ++ vput k.toNat ∧ m = .int .u64 k ∧ wr.ownsRow w.heap.size 5 1 v pre.length (bytesV pre) ∧ Below w.heap.size w wr) (fun m _ _ => (intOf m).toNat)
  case atStart => exact ⟨[], n, hn0, hn, rfl, rfl, ⟨rfl, .inl ⟨rfl, rfl⟩⟩, Below.refl _ _⟩
  case round =>
    obtain ⟨pre, k, hk0, hk1, hp, rfl, hown, hbl⟩ := hrel
    have hpl : pre.length ≤ 10 := by have := congrArg List.length hp; simp at this; omega
    have Hp := Aside.mk hp
    clear hp hn hn0
    have hwz := hbl.size
    by_cases h : 128 ≤ k
    · go_wp2_with (at_builtin; refine wpList_append_own _ rfl _ _ 108 rfl w.heap.size 5 i0 (.int .u8 0) 1 1 Try.underlying108 hi hz0 hz1 hz2 rfl (by decide) _ _ _ rfl (hown.alloc _) ⟨wr.heap.size, 0, none⟩ 1 1 [.int .u8 (k % 128 + 128)] rfl rfl (cell_one_new _ _ _) (one_cell _ _) ?c3 ?c4 ?c5 ?_)
      case c3 => unfold maxLen; omega
      case c4 => omega
      case c5 => first | omega | (simp; omega)
      intro v' w1 hown' hgrow hnil
      have hbl' := own_below (hown.alloc (.cells #[Value.int .u8 (k % 128 + 128)] 5)) hgrow (hbl.alloc hwz _) (by simp; omega)
      have Hown := Aside.mk hown'
      clear hown' hgrow hnil
      go_wp2_with fail
      go_roundw
      case rel =>
        refine ⟨pre ++ [UInt8.ofNat (k.toNat % 128 + 128)], k / 128, by omega, by omega, ?_, rfl, ?_, hbl'⟩
        · rw [Hp.out, vput_big k.toNat (by omega) (by omega), toNat_div128 k hk0]; simp
        · have := Hown.out
          rw [byte_big k hk0] at this
          simpa [bytesV] using this
      case measure => simp [intOf]; omega
    · go_wp2_with (at_builtin; refine wpList_append_own _ rfl _ _ 108 rfl w.heap.size 5 i0 (.int .u8 0) 1 1 Try.underlying108 hi hz0 hz1 hz2 rfl (by decide) _ _ _ rfl (hown.alloc _) ⟨wr.heap.size, 0, none⟩ 1 1 [.int .u8 k] rfl rfl (cell_one_new _ _ _) (one_cell _ _) ?c3 ?c4 ?c5 ?_)
      case c3 => unfold maxLen; omega
      case c4 => omega
      case c5 => first | omega | (simp; omega)
      intro v' w1 hown' hgrow hnil
      have hbl' := own_below (hown.alloc (.cells #[Value.int .u8 k] 5)) hgrow (hbl.alloc hwz _) (by simp; omega)
      have hv : bytesV pre ++ [Value.int .u8 k] = bytesV (vput n.toNat) := by
        rw [Hp.out, vput_small k.toNat (by omega), bytesV_append]
        congr 1
        simp only [bytesV, List.map_cons, List.map_nil]
        rw [← byte_small k hk0 (by omega)]
      rw [hv] at hown'
      have hcv := own_string (P := Try.prog) Try.underlying108 Try.underlying5 Try.underlying9 hown'
      clear hown' hgrow hnil hv hown
      go_wp2_with fail
      go_ret
      exact ⟨rfl, hbl'⟩
set_option maxHeartbeats 400000 in
theorem var_put (n : Int) (hn0 : 0 ≤ n) (hn : n ≤ 18446744073709551615) (w : World) :
    Calls Try.prog 40 #[.int .u64 n] w fun e w' => e = .returned (.string (vputS n.toNat)) ∧ Below w.heap.size w w' := by
  obtain ⟨i0, hi, hz0, hz1, hz2⟩ := info_parts info_u8
  have hlen := vput_len n.toNat
  have hmk : ∀ w : World, (Instr.makeSlice 108 (.int .i64 0) (.int .i64 10)).run Try.prog w = .ok (.slice (some ⟨w.heap.size, 0, none⟩) 0 10) (w.alloc (.cells (madeCells #[.int .u8 0] 10) 5)) := by
    intro w
    have := run_make (P := Try.prog) w 108 5 i0 (.int .u8 0) Try.underlying108 hi hz0 .i64 .i64 0 10 (by omega) (by omega) (by rw [hz2]; omega) (by omega)
    rw [this, hz1]; rfl
  go_enter Try.func40, Try.ntmps40
  go_wp2_with fail
  go_loopw [0, 3] (fun m v wr => ∃ (pre : List UInt8) (k : Int), 0 ≤ k ∧ k ≤ 18446744073709551615 ∧ vput n.toNat = pre ++ vput k.toNat ∧ m = .int .u64 k ∧ wr.ownsRow w.heap.size 5 1 v pre.length (bytesV pre) ∧ Below w.heap.size w wr) (fun m _ _ => (intOf m).toNat)
  case atStart => exact ⟨[], n, hn0, hn, rfl, rfl, World.ownsRow_made w _ 10 (Nat.le_refl _) (by decide) (size_madeCells _ _), (Below.refl _ _).alloc (Nat.le_refl _) _⟩
  case round =>
    obtain ⟨pre, k, hk0, hk1, hp, rfl, hown, hbl⟩ := hrel
    have hpl : pre.length ≤ 10 := by have := congrArg List.length hp; simp at this; omega
    have Hp := Aside.mk hp
    clear hp hn hn0 hmk
    have hwz := hbl.size
    by_cases h : 128 ≤ k
    · obtain ⟨x, hx, hx2⟩ : ∃ x : UInt8, bits BinOp.or IntKind.u8 (k % 256) 128 = (x.toNat : Int) ∧ x = UInt8.ofNat (k.toNat % 128 + 128) := ⟨_, byte_or k hk0, rfl⟩
      have Hx := Aside.mk hx2
      clear hx2
      go_wp2_with (at_builtin; refine wpList_append_own _ rfl _ _ 108 rfl w.heap.size 5 i0 (.int .u8 0) 1 1 Try.underlying108 hi hz0 hz1 hz2 rfl (by decide) _ _ _ rfl (hown.alloc _) ⟨wr.heap.size, 0, none⟩ 1 1 [.int .u8 x.toNat] rfl rfl (cell_one_new _ _ _) (one_cell _ _) ?c3 ?c4 ?c5 ?_)
      case c3 => unfold maxLen; omega
      case c4 => omega
      case c5 => first | omega | (simp; omega)
      intro v' w1 hown' hgrow hnil
      have hbl' := own_below (hown.alloc (.cells #[Value.int .u8 x.toNat] 5)) hgrow (hbl.alloc hwz _) (by simp; omega)
      have Hown := Aside.mk hown'
      clear hown' hgrow hnil
      go_wp2_with fail
      go_roundw
      case rel =>
        refine ⟨pre ++ [x], k / 128, by omega, by omega, ?_, rfl, ?_, hbl'⟩
        · rw [Hp.out, vput_big k.toNat (by omega) (by omega), toNat_div128 k hk0, Hx.out]; simp
        · have := Hown.out
          simpa [bytesV] using this
      case measure => simp [intOf]; omega
    · go_wp2_with (at_builtin; refine wpList_append_own _ rfl _ _ 108 rfl w.heap.size 5 i0 (.int .u8 0) 1 1 Try.underlying108 hi hz0 hz1 hz2 rfl (by decide) _ _ _ rfl (hown.alloc _) ⟨wr.heap.size, 0, none⟩ 1 1 [.int .u8 k] rfl rfl (cell_one_new _ _ _) (one_cell _ _) ?c3 ?c4 ?c5 ?_)
      case c3 => unfold maxLen; omega
      case c4 => omega
      case c5 => first | omega | (simp; omega)
      intro v' w1 hown' hgrow hnil
      have hbl' := own_below (hown.alloc (.cells #[Value.int .u8 k] 5)) hgrow (hbl.alloc hwz _) (by simp; omega)
      have hv : bytesV pre ++ [Value.int .u8 k] = bytesV (vput n.toNat) := by
        rw [Hp.out, vput_small k.toNat (by omega), bytesV_append]
        congr 1
        simp only [bytesV, List.map_cons, List.map_nil]
        rw [← byte_small k hk0 (by omega)]
      rw [hv] at hown'
      have hcv := own_string (P := Try.prog) Try.underlying108 Try.underlying5 Try.underlying9 hown'
      clear hown' hgrow hnil hv hown
      go_wp2_with fail
      go_ret
      exact ⟨rfl, hbl'⟩
end Go.Proofs.Ythlmigbimeldbaa

namespace Go.Pin
set_option linter.unusedVariables false
set_option linter.unusedSimpArgs false
theorem fixed_byte (n : Int) (j : Nat) (h : 0 ≤ n) (hj : j < 8) : n / 2 ^ (8 * (7 - j)) % 256 = (((fixedL 8 n.toNat).getD j 0).toNat : Int) := by
  obtain ⟨m, rfl⟩ := Int.eq_ofNat_of_zero_le h
  rw [fixedL_getD _ _ _ hj, UInt8.toNat_ofNat', show 8 - 1 - j = 7 - j from by omega]
  simp only [Int.toNat_natCast]
  rw [show (256 : Nat) = 2 ^ 8 from rfl, ← Nat.pow_mul]
  simp
end Go.Pin
namespace Go.Proofs.Ythlmigbimeldbaa
open Go.RowKit Go.Pin
set_option linter.unusedVariables false
set_option linter.unusedSimpArgs false
theorem fixed_tail (q n : Nat) (hq : q ≤ 8) (w : World) (B : Nat) (X : List UInt8) (hX : X = fixedL 8 n) (hb : BytesAt w B X) (c : Nat) :
    (convert 108 9 (.slice (some ⟨B, if q = 0 then 0 else 8 - q, none⟩) q c)).run Try.prog w = .ok (.string (fixedS n q)) w := by
  have e : fixedS n q = ⟨(fixedL q n).toArray⟩ := by unfold fixedS; rw [if_neg (by omega)]; rfl
  rw [e]
  refine run_string_addr (P := Try.prog) w 108 9 5 Try.underlying108 Try.underlying5 Try.underlying9 ⟨B, if q = 0 then 0 else 8 - q, none⟩ (fixedL q n) q c (fixedL_len q n) ?_
  intro j hj
  rw [fixedL_len] at hj
  have h0 : ¬ q = 0 := by omega
  rw [if_neg h0]
  have hj2 := hb (8 - q + j) (by rw [hX, fixedL_len]; omega)
  rw [hX, fixedL_getD _ _ _ (by omega)] at hj2
  have hj3 := fixedL_getD q n j hj
  rw [List.getD, List.getElem?_eq_getElem (by rw [fixedL_len]; exact hj), Option.getD_some] at hj3
  rw [hj3]
  have ea : (⟨B, 8 - q, none⟩ : Addr).add j = ⟨B, 8 - q + j, none⟩ := by unfold Addr.add; split <;> simp_all
  rw [ea, hj2, show 8 - 1 - (8 - q + j) = q - 1 - j from by omega]

end Go.Proofs.Ythlmigbimeldbaa

namespace Go.Pin
set_option linter.unusedVariables false
set_option linter.unusedSimpArgs false
theorem fixed_low (n : Int) (q j : Nat) (h : 0 ≤ n) (hj : j < q) : n / (256 : Int) ^ (q - 1 - j) % 256 = (((fixedL q n.toNat).getD j 0).toNat : Int) := by
  obtain ⟨m, rfl⟩ := Int.eq_ofNat_of_zero_le h
  rw [fixedL_getD _ _ _ hj, UInt8.toNat_ofNat']
  simp
/-- The row filled from its end. -/
theorem set_back (l : List UInt8) (j n : Nat) (hn : l.length = n) (hj : j < n) : (List.replicate (j + 1) 0 ++ l.drop (j + 1)).set j (l.getD j 0) = List.replicate j 0 ++ l.drop j := by
  have hl : j < l.length := by omega
  rw [List.replicate_succ', List.append_assoc, List.set_append, List.length_replicate, if_neg (by omega), Nat.sub_self]
  rw [List.drop_eq_getElem_cons hl]
  simp [List.getD, hl]
end Go.Pin
namespace Go.Proofs.Ythlmigbimeldbaa
open Go.RowKit Go.Pin
set_option linter.unusedVariables false
set_option linter.unusedSimpArgs false
set_option maxHeartbeats 400000 in
theorem var_text (s : ByteArray) (hs : s.size ≤ 1152921504606846976) (w : World) :
    Calls Try.prog 108 #[.string s] w fun e w' => e = .returned (.string (textS s)) ∧ Below w.heap.size w w' := by
  have hsz := (vputS_size s.size).1
  go_enter Try.func108, Try.ntmps108
  go_wp2_with fail
  refine (var_put _ (by omega) (by omega) _).mono ?_
  rintro e w1 ⟨rfl, hb1⟩
  rw [Int.toNat_natCast]
  go_wp2_with fail
  go_ret
  exact ⟨rfl, hb1⟩
set_option maxHeartbeats 400000 in
theorem varref_text (s : ByteArray) (hs : s.size ≤ 1152921504606846976) (w : World) :
    Calls Try.prog 90 #[.string s] w fun e w' => e = .returned (.string (textS s)) ∧ Below w.heap.size w w' := by
  have hsz := (vputS_size s.size).1
  go_enter Try.func90, Try.ntmps90
  go_wp2_with fail
  refine (varref_put _ (by omega) (by omega) _).mono ?_
  rintro e w1 ⟨rfl, hb1⟩
  rw [Int.toNat_natCast]
  go_wp2_with fail
  go_ret
  exact ⟨rfl, hb1⟩
end Go.Proofs.Ythlmigbimeldbaa
