/- history: Order's search. -/
import Derived.Test.YtnilfjkodlmenaaDoorHiP
import Derived.Test.YtnilfjkodlmenaaDoorHiD
import Derived.BigQuiet
import Derived.Deep.AppendLies
import Derived.RangeFuncBox
set_option maxRecDepth 16000
namespace Go.Pin
open Go.RowKit
set_option linter.unusedVariables false
set_option linter.unusedSimpArgs false
/-- The blocks of the boxes that the search captured; the map's; below H they all lie. -/
structure HBox where
  o : Nat
  m : Nat
  l : Nat
  a : Nat
  q : Nat
  s : Nat
  M : Nat
  H : Nat
/-- What stands in them, but for the order. -/
structure SrAt (w : World) (b : HBox) (L : List HOp) (a : Option Addr) (c : Nat) : Prop where
  ov : w.cell? ⟨b.o, 0, none⟩ = some (.func (.func 20) #[] #[.pointer (some ⟨b.l, 0, none⟩)])
  me : w.cell? ⟨b.m, 0, none⟩ = some (.map (some b.M))
  li : w.cell? ⟨b.l, 0, none⟩ = some (.slice a L.length c)
  ma : w.cell? ⟨b.a, 0, none⟩ = some (.func (.func 21) #[] #[.pointer (some ⟨b.l, 0, none⟩)])
  se : w.cell? ⟨b.s, 0, none⟩ = some (.func (.func 22) #[] #[.pointer (some ⟨b.o, 0, none⟩), .pointer (some ⟨b.m, 0, none⟩), .pointer (some ⟨b.l, 0, none⟩), .pointer (some ⟨b.a, 0, none⟩), .pointer (some ⟨b.q, 0, none⟩), .pointer (some ⟨b.s, 0, none⟩)])
  ops : OpsAt w a L
/-- Where they lie. -/
structure HBox.ok (b : HBox) (L : List HOp) (sl : Option Addr) : Prop where
  o : b.o < b.H ∧ b.o ≠ b.q ∧ b.o ≠ b.M
  m : b.m < b.H ∧ b.m ≠ b.q ∧ b.m ≠ b.M
  l : b.l < b.H ∧ b.l ≠ b.q ∧ b.l ≠ b.M
  a : b.a < b.H ∧ b.a ≠ b.q ∧ b.a ≠ b.M
  s : b.s < b.H ∧ b.s ≠ b.q ∧ b.s ≠ b.M
  q : b.q < b.H ∧ b.q ≠ b.M
  M : b.M < b.H
  ops : L ≠ [] → ∀ A o, sl = some ⟨A, o, none⟩ → A < b.H ∧ A ≠ b.q ∧ A ≠ b.M
/-- What the search may write: the order's box, the map, the order's row R. -/
def srS (b : HBox) (R : Option Nat) (k : Nat) : Prop := k = b.q ∨ k = b.M ∨ R = some k
theorem SrAt.keep {S : Nat → Prop} {x w : World} {b : HBox} {L : List HOp} {a : Option Addr} {c : Nat} (h : SrAt x b L a c) (ho : b.ok L a) (hk : Keep S x w) (hS : ∀ k, k < b.H → k ≠ b.q → k ≠ b.M → ¬ S k) : SrAt w b L a c :=
  ⟨hk.cell h.ov (hS _ ho.o.1 ho.o.2.1 ho.o.2.2), hk.cell h.me (hS _ ho.m.1 ho.m.2.1 ho.m.2.2), hk.cell h.li (hS _ ho.l.1 ho.l.2.1 ho.l.2.2), hk.cell h.ma (hS _ ho.a.1 ho.a.2.1 ho.a.2.2), hk.cell h.se (hS _ ho.s.1 ho.s.2.1 ho.s.2.2),
    ⟨fun j x hx => by obtain ⟨A, o, q, h1⟩ := h.ops.at' j x hx; obtain ⟨q1, q2, q3⟩ := ho.ops (fun e => by rw [e] at hx; cases hx) A o q; exact ⟨A, o, q, h1.keep hk (hS _ q1 q2 q3)⟩⟩⟩
/-- The order so far: the box holds a row of the call's own. -/
def OrdAt (w : World) (b : HBox) (R : Option Nat) (pre : List Nat) : Prop :=
  ∃ v, v.ownBlock = R ∧ w.cell? ⟨b.q, 0, none⟩ = some v ∧ w.frozen? ⟨b.q, 0, none⟩ = false ∧ w.ownsRow b.H 3 1 v pre.length (pre.map fun (k : Nat) => Value.int .i64 (k : Int))
theorem OrdAt.keep {S : Nat → Prop} {x w : World} {b : HBox} {R : Option Nat} {pre : List Nat} (h : OrdAt x b R pre) (hk : Keep S x w) (h1 : ¬ S b.q) (h2 : ∀ k, R = some k → ¬ S k) : OrdAt w b R pre := by
  obtain ⟨v, q1, q2, q3, q4⟩ := h
  refine ⟨v, q1, hk.cell q2 h1, (hk.frozen_at (q := ⟨b.q, 0, none⟩) q2 rfl h1).trans q3, q4.1, ?_⟩
  rcases q4.2 with q | ⟨g, cap, cur, rfl, g1, g2, g3⟩
  · exact .inl q
  · exact .inr ⟨g, cap, cur, rfl, g1, by rw [hk.block g (Array.getElem?_eq_some_iff.1 g2).1 (h2 g q1.symm)]; exact g2, g3⟩
theorem OrdAt.row {w : World} {b : HBox} {R : Option Nat} {pre : List Nat} (h : OrdAt w b R pre) : ∀ k, R = some k → b.H ≤ k ∧ k < w.heap.size := by
  obtain ⟨v, q1, q2, q3, q4⟩ := h
  intro k hk
  exact World.ownsRow.lt q4 k (q1.trans hk)
/-- A key of the map: nothing is found there. -/
def hQ (L : List HOp) (s : ByteArray) : Prop := ∃ d C, s = hKey d C ∧ (∀ x ∈ C, x.size = 64) ∧ ∀ r, ¬ hFits L d C r
/-- Writes of S, then of T, that are of S or of what came since. -/
theorem Keep.after {S T : Nat → Prop} {x y w : World} (h1 : Keep S x y) (h2 : Keep T y w) (h : ∀ k, k < x.heap.size → T k → S k) : Keep S x w :=
  ⟨h2.os.trans h1.os, h2.tape.trans h1.tape, h2.output.trans h1.output, Nat.le_trans h1.size h2.size, fun k hk hn => (h2.block k (Nat.lt_of_lt_of_le hk h1.size) fun q => hn (h k hk q)).trans (h1.block k hk hn)⟩
/-- The blocks lie apart from what the search writes. -/
def Apart (b : HBox) (R : Option Nat) (v : Value) : Prop := ∀ p n c, v = .slice p n c → ∀ g o, p = some ⟨g, o, none⟩ → g ≠ b.q ∧ g ≠ b.M ∧ R ≠ some g
theorem dec_len (u : Nat) (h : u < 1024) : (Lib.decDigits u).length ≤ 4 := by
  have key : ∀ n v, v < n → (Lib.decDigits v).length = if h : v < 10 then 1 else (Lib.decDigits (v / 10)).length + 1 := fun n v _ => by
    conv => lhs; rw [Lib.decDigits.eq_def v]
    split <;> simp
  rw [key 1024 u h]
  split
  · omega
  · rw [key 1024 (u / 10) (by omega)]
    split
    · omega
    · rw [key 1024 (u / 10 / 10) (by omega)]
      split
      · omega
      · rw [key 1024 (u / 10 / 10 / 10) (by omega), dif_pos (by omega)]
        omega
theorem hjoin_size (B : List ByteArray) (h : HBlk B) : (hJoin B).size ≤ 8192 := by
  rw [← hJoin_eq B, hsize_mk, join_none, flat_len B h.all]
  have := h.len
  omega
theorem or_bit (done k : Nat) (hd : done < 1024) (hk : k < 10) : bits .or .i64 (done : Int) (wrap64 (2 ^ k)) = ((done ||| 1 <<< k : Nat) : Int) := by
  have h0 : k = 0 ∨ k = 1 ∨ k = 2 ∨ k = 3 ∨ k = 4 ∨ k = 5 ∨ k = 6 ∨ k = 7 ∨ k = 8 ∨ k = 9 := by omega
  have h2 : wrap64 ((2 : Int) ^ k) = ((1 <<< k : Nat) : Int) := by
    rcases h0 with rfl | rfl | rfl | rfl | rfl | rfl | rfl | rfl | rfl | rfl <;> kernel_rfl
  have hb : 1 <<< k < 2 ^ 10 := by
    rcases h0 with rfl | rfl | rfl | rfl | rfl | rfl | rfl | rfl | rfl | rfl <;> decide
  rw [h2]
  generalize 1 <<< k = m at *
  have h3 : done ||| m < 2 ^ 10 := Nat.or_lt_two_pow hd hb
  show IntKind.i64.wrap ((BitVec.ofInt 64 (done : Int) ||| BitVec.ofInt 64 (m : Int)).toNat : Int) = _
  rw [BitVec.ofInt_natCast, BitVec.ofInt_natCast, BitVec.toNat_or, BitVec.toNat_ofNat, BitVec.toNat_ofNat, Nat.mod_eq_of_lt (by omega : done < 2 ^ 64), Nat.mod_eq_of_lt (by omega : m < 2 ^ 64), IntKind.wrap_i64]
  omega
/-- What the search answers. -/
def SrMade (b : HBox) (L : List HOp) (a : Option Addr) (c : Nat) (pre : List Nat) (R : Option Nat) (x : Option (List Nat)) (w : World) (e : Ending) (w' : World) : Prop :=
  e = .returned (.bool x.isSome) ∧ ∃ R', (R' = R ∨ ∃ g, R' = some g ∧ w.heap.size ≤ g) ∧ OrdAt w' b R' (pre ++ x.getD []) ∧ SetAt w' b.M (.agg #[]) (hQ L) ∧ Keep (srS b R) w w'
end Go.Pin
namespace Go.Proofs.YtnilfjkodlmenaaDoor
open Go.RowKit Go.Pin
set_option linter.unusedVariables false
set_option linter.unusedSimpArgs false
theorem int_info : (Tryd.prog.info? 3).map (fun i => (i.zero, i.size, i.bytes)) = some (some (.int .i64 0), 1, 8) := by kernel_rfl
/-- What strconv.Itoa is asked for, and answers: in every world above. -/
def ItoaOk (n : Nat) (U : Nat) (w0 : World) : Prop := ∀ d : Nat, d < 2 ^ n → ∀ W, Keep (fun k => U ≤ k) w0 W → Calls Tryd.prog 23 #[.int .i64 (d : Int)] W fun e w' => e = .returned (.string ⟨(Lib.decDigits d).toArray⟩) ∧ Below W.heap.size W w'
/-- strings.Join without a text between. -/
theorem hi_join (B : List ByteArray) (hB : HBlk B) (v : Value) (w : World) (hV : BlkAt w v B) :
    Calls Tryd.prog 24 #[v, .string ⟨#[]⟩] w fun e w' => e = .returned (.string (hJoin B)) ∧ Below w.heap.size w w' := by
  rcases hV.of with ⟨rfl, rfl⟩ | ⟨b, o, c, rfl, h2, h3, h4⟩
  · exact (YtnilfjkodlmenaaDoorSh.strings_Join_none none 0 ⟨#[]⟩ w).mono (by rintro e w' ⟨rfl, rfl⟩; exact ⟨rfl, Below.refl _ _⟩)
  · have := YtnilfjkodlmenaaDoorSh.strings_Join b o c B ⟨#[]⟩ w h4 h3 (by have := hB.len; omega) h2 (by
      show (Lib.join (B.map (·.data.toList)) []).length ≤ _
      rw [join_none, flat_len _ hB.all]; have := hB.len; omega)
    refine this.mono ?_
    rintro e w' ⟨rfl, hb'⟩
    exact ⟨congrArg (fun s => Ending.returned (Value.string s)) (hJoin_eq B), hb'⟩
/-- The search at f steps. -/
def SearchOk (L : List HOp) (b : HBox) (a : Option Addr) (c U : Nat) (w0 : World) (f : Nat) : Prop :=
  ∀ (done : Nat) (B : List ByteArray) (v : Value) (w : World) (pre : List Nat) (R : Option Nat), hLeft L.length done ≤ f → done < 2 ^ L.length → HBlk B → BlkAt w v B → Apart b R v → SrAt w b L a c → OrdAt w b R pre → pre.length + f ≤ 100 →
    SetAt w b.M (.agg #[]) (hQ L) → Keep (fun k => U ≤ k) w0 w → b.H ≤ w.heap.size →
    Calls Tryd.prog 22 #[.int .i64 (done : Int), v, .pointer (some ⟨b.o, 0, none⟩), .pointer (some ⟨b.m, 0, none⟩), .pointer (some ⟨b.l, 0, none⟩), .pointer (some ⟨b.a, 0, none⟩), .pointer (some ⟨b.q, 0, none⟩), .pointer (some ⟨b.s, 0, none⟩)] w (SrMade b L a c pre R (hs L f done B) w)
set_option maxHeartbeats 6400000 in
theorem hi_search_step (L : List HOp) (hL : L.length ≤ 10) (hok : ∀ x ∈ L, x.ok) (b : HBox) (a : Option Addr) (c : Nat) (hbx : b.ok L a) (U : Nat) (w0 : World) (hIt : ItoaOk L.length U w0) (hU : U ≤ b.q ∧ U ≤ b.M ∧ U ≤ b.H) (f : Nat)
    (ih : ∀ f', f = f' + 1 → SearchOk L b a c U w0 f') : SearchOk L b a c U w0 f := by
  intro done B v w pre R hle hd hBk hV hAp hSr hO hpre hSet hK0 hHs
  obtain ⟨va, vc, rfl⟩ : ∃ a c, v = .slice a B.length c := by
    rcases hV.of with ⟨q, q2⟩ | ⟨b, o, c, q, _⟩
    · exact ⟨none, 0, by rw [q, q2]; rfl⟩
    · exact ⟨_, _, q⟩
  have hd10 : done < 1024 := Nat.lt_of_lt_of_le hd (Nat.pow_le_pow_right (by decide) hL)
  have hOver1 := Pin.Aside.mk (hi_over L hL a c b.l done hd10 w hSr.ops hSr.li)
  have HO := Pin.Aside.mk hO
  have HV := Pin.Aside.mk hV
  have HSet := Pin.Aside.mk hSet
  have HK0 := Pin.Aside.mk hK0
  have HIt := Pin.Aside.mk hIt
  have HIh := Pin.Aside.mk ih
  have HBk := Pin.Aside.mk hBk
  have HAp := Pin.Aside.mk hAp
  have HOk := Pin.Aside.mk hok
  have HSr := Pin.Aside.mk hSr
  have HLe := Pin.Aside.mk hle
  have HD := Pin.Aside.mk hd
  have HD10 := Pin.Aside.mk hd10
  have HBx := Pin.Aside.mk hbx
  have HU := Pin.Aside.mk hU
  have HPre := Pin.Aside.mk hpre
  have HHs := Pin.Aside.mk hHs
  have hov := hSr.ov
  have HNS : Pin.Aside (∀ k, k < b.H → k ≠ b.q → k ≠ b.M → ¬ srS b R k) := Pin.Aside.mk fun k h1 h2 h3 => by
    rintro (q | q | q)
    · exact h2 q
    · exact h3 q
    · have := (hO.row k q).1; omega
  clear hO hV hSet hK0 hIt ih hBk hAp hok hSr hle hd hd10 hbx hU hpre hHs
  obtain ⟨di, hdi⟩ : ∃ d : Int, (done : Int) = d := ⟨_, rfl⟩
  rw [hdi] at hOver1 ⊢
  have HDi := Pin.Aside.mk hdi
  clear hdi
  obtain ⟨nB, hnB⟩ : ∃ n, B.length = n := ⟨_, rfl⟩
  rw [hnB] at HV HAp ⊢
  have HnB := Pin.Aside.mk hnB
  clear hnB
  go_enter Tryd.func22, Tryd.ntmps22
  go_wp2_with fail
  refine hOver1.out.mono ?_
  rintro x w1 ⟨rfl, hb1⟩
  have hk1 : Keep (fun _ => False) w w1 := Keep.of_below hb1 fun _ q _ => q
  clear hOver1 hov hb1
  obtain ⟨bo, hbo⟩ : ∃ bo, hOver L done = bo := ⟨_, rfl⟩
  rw [hbo]
  have HOv := Pin.Aside.mk hbo
  clear hbo
  cases bo with
  | true =>
    go_wp2_with fail
    go_ret
    refine ⟨?_, R, .inl rfl, ?_, HSet.out.keep hk1 id, hk1.mono fun _ q => q.elim⟩
    · rw [hs_eq, if_pos HOv.out]; rfl
    · have := HO.out.keep hk1 id fun _ _ => id
      rw [hs_eq, if_pos HOv.out]
      show OrdAt w1 b R (pre ++ [])
      rw [List.append_nil]; exact this
  | false =>
    obtain ⟨f', hf'⟩ : ∃ f', f = f' + 1 := by
      cases f with
      | zero => exact absurd (hover_of_left (L := L) (done := done) (by have := HLe.out; omega)) (by rw [HOv.out]; exact Bool.false_ne_true)
      | succ f' => exact ⟨f', rfl⟩
    subst hf'
    replace HIh := Pin.Aside.mk (HIh.out f' rfl)
    have HIt1 := Pin.Aside.mk (HIt.out done HD.out w1 (HK0.out.trans (hk1.mono fun _ q => q.elim)))
    rw [HDi.out] at HIt1
    obtain ⟨D, hDq⟩ : ∃ D, (⟨(Lib.decDigits done).toArray⟩ : ByteArray) = D := ⟨_, rfl⟩
    rw [hDq] at HIt1
    have hDs : D.size ≤ 4 := by rw [← hDq, hsize_mk]; exact dec_len done HD10.out
    obtain ⟨T, hTq⟩ : ∃ T, hJoin B = T := ⟨_, rfl⟩
    have hTs : T.size ≤ 8192 := by rw [← hTq]; exact hjoin_size B HBk.out
    have HKey : Pin.Aside (hKey done B = D ++ ⟨#[32]⟩ ++ T) := Pin.Aside.mk (by unfold hKey; rw [hDq, hTq])
    have hss : (⟨#[32]⟩ : ByteArray).size = 1 := rfl
    have hDs2 : (D ++ ⟨#[32]⟩ : ByteArray).size ≤ 5 := by rw [ByteArray.size_append, hss]; omega
    have HTq := Pin.Aside.mk hTq
    clear hDq hTq
    go_upto_region 3 with fail
    go_wp2_with fail
    refine HIt1.out.mono ?_
    rintro x w2 ⟨rfl, hb2⟩
    have hk2 := hk1.trans (Keep.of_below hb2 fun _ q _ => q)
    have HJ := Pin.Aside.mk (hi_join B HBk.out (.slice va nB vc) w2 (HV.out.keep hk2))
    rw [HTq.out] at HJ
    clear HIt1 hb2 hk1
    go_wp2_with fail
    refine HJ.out.mono ?_
    rintro x w3 ⟨rfl, hb3⟩
    replace hk2 := hk2.trans (Keep.of_below hb3 fun _ q _ => q)
    clear HJ hb3
    go_upto_region 4 with fail
    generalize D ++ ⟨#[32]⟩ ++ T = key at *
    have hme := hk2.cell HSr.out.me id
    have hS3 := HSet.out.keep hk2 id
    obtain ⟨bb, hlk, hlq⟩ := run_set_lookup_ok (P := Tryd.prog) hS3 Tryd.underlying61 Tryd.underlying9 key (Tryd.zeroValue67 w3)
    have HLq := Pin.Aside.mk hlq
    have hk4 := hk2.trans ((Keep.refl (fun _ => False) w3).alloc (.cells #[] 67))
    clear hS3 hlq
    cases bb with
    | true =>
      go_upto_region 5 with fail
      generalize w3.alloc (.cells #[] 67) = w4 at *
      have hnone : hs L (f' + 1) done B = none := by
        obtain ⟨d, C, q1, q2, q3⟩ := HLq.out rfl
        obtain ⟨rfl, rfl⟩ := hKey_inj HBk.out.all q2 (HKey.out.trans q1)
        exact hs_none_of q3 _
      have HNo := Pin.Aside.mk hnone
      clear hnone hlk hme
      go_wp2_with fail
      go_ret
      refine ⟨?_, R, .inl rfl, ?_, HSet.out.keep hk4 id, hk4.mono fun _ q => q.elim⟩
      · rw [HNo.out]; rfl
      · rw [HNo.out]
        show OrdAt w4 b R (pre ++ [])
        rw [List.append_nil]
        exact HO.out.keep hk4 id fun _ _ => id
    | false =>
      go_upto_region 5 with fail
      generalize w3.alloc (.cells #[] 67) = w4 at *
      generalize w3.heap.size = U3 at *
      clear hlk hme HLq hk2 hDs hTs hss hDs2
      have hli4 := hk4.cell HSr.out.li id
      obtain ⟨nL, hnL⟩ : ∃ n, L.length = n := ⟨_, rfl⟩
      rw [hnL] at hli4
      have HnL := Pin.Aside.mk hnL
      have hnL10 : nL ≤ 10 := by omega
      clear hnL
      have HO4 := Pin.Aside.mk (HO.out.keep hk4 id fun _ _ => id)
      have HS4 := Pin.Aside.mk (HSet.out.keep hk4 id)
      have HK4 := Pin.Aside.mk (show Keep (srS b R) w w4 from hk4.mono fun _ q => q.elim)
      clear hk4
      go_upto_region 8 with fail
      clear hli4
      go_loopw [36] (fun y wr => ∃ (k : Nat) (R' : Option Nat), k ≤ nL ∧ y = .int .i64 k ∧ Pin.Aside (R' = R ∨ ∃ g, R' = some g ∧ w.heap.size ≤ g) ∧ Pin.Aside (OrdAt wr b R' pre) ∧ Pin.Aside (SetAt wr b.M (.agg #[]) (hQ L)) ∧ Pin.Aside (Keep (srS b R) w wr) ∧ Pin.Aside (∀ j, j < k → hArm L f' done B j = none)) (fun y _ => nL - (intOf y).toNat)
      case atStart => exact ⟨0, R, by omega, rfl, Pin.Aside.mk (.inl rfl), HO4, HS4, HK4, Pin.Aside.mk fun j hj => by omega⟩
      case round =>
        clear HO4 HS4 HK4
        obtain ⟨k, R', hk, rfl, HR', HOr, HSe, HKr, HArm⟩ := hrel
        have hsr := HSr.out.keep HBx.out HKr.out (HNS.out)
        have hwsz := HKr.out.size
        by_cases hlt : k < nL
        · obtain ⟨x, hx⟩ : ∃ x, L[k]? = some x := ⟨L[k]'(by rw [HnL.out]; exact hlt), List.getElem?_eq_getElem _⟩
          obtain ⟨A, o, ha, hA⟩ := hsr.ops.at' k x hx
          obtain ⟨c0, c1, c2, c3, c4, c5, c6, c7, c8, c9, c10, c11, c12, c13, c14⟩ := hA.cells
          have hk0 : (0 : Int) ≤ (k : Int) := by omega
          have hk1 : (k : Int) < (nL : Int) := by omega
          have hka := (Keep.refl (fun _ => False) wr).alloc (.cells x.cells 33)
          have hNew := Pin.Aside.mk (HOpAt.new wr 33 x)
          have hma := hka.cell hsr.ma id
          have hli := hka.cell hsr.li id
          have HOps := Pin.Aside.mk (hsr.ops.below (hka.below (Nat.le_refl _) fun _ q => q.elim))
          have HSr5 := Pin.Aside.mk (hsr.keep HBx.out hka fun _ _ _ _ => id)
          have HO5 := Pin.Aside.mk (HOr.out.keep hka id fun _ _ => id)
          have HSe5 := Pin.Aside.mk (HSe.out.keep hka id)
          have HK5 := Pin.Aside.mk (HKr.out.trans (hka.mono fun _ q => q.elim))
          have HX := Pin.Aside.mk hx
          have HAt : Pin.Aside (hAt L k = x) := Pin.Aside.mk (by unfold hAt; rw [List.getD, hx]; rfl)
          subst ha
          unfold HOp.cells at *
          clear hx hA hsr
          go_upto_region 10 with fail
          generalize wr.alloc (.cells #[.int .u64 x.e.term, .int .u64 x.e.index, .int .i64 x.e.kind, .int .u64 x.e.client, .int .u64 x.e.seq, .int .u64 x.e.block, .int .u64 x.e.many, .int .i64 x.e.node, .int .i64 x.e.level, .string x.e.data, .string x.e.old, .int .u64 x.start, .int .u64 x.stop, .int .i64 x.re, .string x.rd] 33) = w5 at *
          have HMay := Pin.Aside.mk (hi_may L hL (some ⟨A, o, none⟩) c b.l done HD10.out k (by rw [HnL.out]; exact hlt) w5 HOps.out hli)
          rw [HDi.out] at HMay
          obtain ⟨U5, hU5⟩ : ∃ U, wr.heap.size = U := ⟨_, rfl⟩
          rw [hU5] at hNew hwsz
          try rw [hU5]
          have HU5 := Pin.Aside.mk hU5
          have hU55 : U5 ≤ w5.heap.size := by rw [← hU5]; exact hka.size
          clear c0 c1 c2 c3 c4 c5 c6 c7 c8 c9 c10 c11 c12 c13 c14 hU5
          go_wp2_with fail
          refine HMay.out.mono ?_
          rintro y w6 ⟨rfl, hb6⟩
          have hk6 : Keep (fun _ => False) w5 w6 := Keep.of_below hb6 fun _ q _ => q
          have HO6 := Pin.Aside.mk (HO5.out.keep hk6 id fun _ _ => id)
          have HSe6 := Pin.Aside.mk (HSe5.out.keep hk6 id)
          have HK6 := Pin.Aside.mk (HK5.out.trans (hk6.mono fun _ q => q.elim))
          have HSr6 := Pin.Aside.mk (HSr5.out.keep HBx.out hk6 fun _ _ _ _ => id)
          have HNew6 := Pin.Aside.mk (hNew.out.keep hk6 id)
          have HV6 := Pin.Aside.mk (((HV.out.keepS HKr.out (by
            rintro g o' rfl
            obtain ⟨q1, q2, q3⟩ := HAp.out _ _ _ rfl g o' rfl
            rintro (q | q | q)
            · exact q1 q
            · exact q2 q
            · exact q3 q)).keep hka).keep hk6)
          clear HMay hb6 hma hli hka HO5 HSe5 HK5 HSr5 HOps hNew
          obtain ⟨bm, hbm⟩ : ∃ bm, hMay L done k = bm := ⟨_, rfl⟩
          rw [hbm]
          have HM := Pin.Aside.mk hbm
          clear hbm
          cases bm with
          | false =>
            go_wp2_with fail
            go_roundw
            case rel => exact ⟨k + 1, R', by omega, by go_num, HR', HO6, HSe6, HK6, Pin.Aside.mk fun j hj => by
              by_cases hjk : j < k
              · exact HArm.out j hjk
              · obtain rfl : j = k := by omega
                unfold hArm
                rw [HM.out]; rfl⟩
            case measure => simp [intOf]; omega
          | true =>
            have HDo := Pin.Aside.mk (hi_do B HBk.out.len HBk.out.all x (HOk.out x (List.mem_of_getElem? HX.out)) (.slice va nB vc) w6 HV6.out)
            obtain ⟨d0, d1, d2, d3, d4, d5, d6, d7, d8, d9, d10, d11, d12, d13, d14⟩ := HNew6.out.cells
            simp only [Nat.zero_add] at d0 d1 d2 d3 d4 d5 d6 d7 d8 d9 d10 d11 d12 d13 d14
            unfold HOp.cells at HDo
            go_upto_region 11 with fail
            go_wp2_with fail
            refine HDo.out.mono ?_
            rintro y w7 ⟨v', rfl, hV7, hfr, hb7⟩
            obtain ⟨p7, c7, rfl⟩ : ∃ p c, v' = .slice p (hdo B x).1.length c := by
              rcases hV7.of with ⟨q, q2⟩ | ⟨b, o, c, q, _⟩
              · exact ⟨none, 0, by rw [q, q2]; rfl⟩
              · exact ⟨_, _, q⟩
            obtain ⟨B', e', r', hdoq⟩ : ∃ B' e' r', hdo B x = (B', e', r') := ⟨_, _, _, rfl⟩
            rw [hdoq] at hV7
            rw [hdoq]
            dsimp only at hV7 ⊢
            have HDq := Pin.Aside.mk hdoq
            have hk7 : Keep (fun _ => False) w6 w7 := Keep.of_below hb7 fun _ q _ => q
            have hka7 := hk7.trans ((Keep.refl (fun _ => False) w7).alloc (.cells #[.int .i64 e', .string r'] 31))
            have r0 : (w7.alloc (.cells #[.int .i64 e', .string r'] 31)).cell? ⟨w7.heap.size, 0, none⟩ = some (.int .i64 e') := by simp
            have r1 : (w7.alloc (.cells #[.int .i64 e', .string r'] 31)).cell? ⟨w7.heap.size, 1, none⟩ = some (.string r') := by simp
            replace d12 := hka7.cell d12 id
            replace d13 := hka7.cell d13 id
            replace d14 := hka7.cell d14 id
            clear d0 d1 d2 d3 d4 d5 d6 d7 d8 d9 d10 d11 hdoq
            go_upto_region 12 with fail
            have HV8 := Pin.Aside.mk (hV7.keep ((Keep.refl (fun _ => False) w7).alloc (.cells #[.int .i64 e', .string r'] 31)))
            have HO8 := Pin.Aside.mk (HO6.out.keep hka7 id fun _ _ => id)
            have HSe8 := Pin.Aside.mk (HSe6.out.keep hka7 id)
            have HK8 := Pin.Aside.mk (HK6.out.trans (hka7.mono fun _ q => q.elim))
            have HSr8 := Pin.Aside.mk (HSr6.out.keep HBx.out hka7 fun _ _ _ _ => id)
            have HFr : Pin.Aside (∀ g o', p7 = some ⟨g, o', none⟩ → (∃ o2, va = some ⟨g, o2, none⟩) ∨ U5 ≤ g) := Pin.Aside.mk fun g o' q => by
              rcases hfr with h | h
              · injection h with h1 h2 h3
                exact .inl ⟨o', by rw [← h1]; exact q⟩
              · right
                have h1 := h _ _ _ rfl g o' q
                have h2 := HK6.out.size
                have h3 : U5 ≤ w6.heap.size := by
                  have := World.block_lt_of_cell? _ _ d12
                  have h4 := HNew6.out.cells.1
                  have h5 := World.block_lt_of_cell? _ _ h4
                  exact Nat.le_of_lt h5
                exact Nat.le_trans h3 h1
            have hV7s : Pin.Aside (∀ g o', p7 = some ⟨g, o', none⟩ → g < w7.heap.size) := Pin.Aside.mk fun g o' q => by
              rcases hV7.of with ⟨q2, _⟩ | ⟨b2, o2, c2, q2, _, q3, _⟩
              · injection q2 with q2; rw [q] at q2; cases q2
              · injection q2 with q2; rw [q] at q2; injection q2 with q2; injection q2 with q2; rw [q2]; exact q3
            have HUw : Pin.Aside (U5 ≤ w7.heap.size) := Pin.Aside.mk (Nat.le_trans hU55 (Nat.le_trans hk6.size hk7.size))
            have hsz8 : Pin.Aside (w7.heap.size < (w7.alloc (.cells #[.int .i64 e', .string r'] 31)).heap.size) := Pin.Aside.mk (by simp)
            generalize w7.alloc (.cells #[.int .i64 e', .string r'] 31) = w8 at *
            obtain ⟨U7, hU7⟩ : ∃ U, w7.heap.size = U := ⟨_, rfl⟩
            rw [hU7] at r0 r1 hV7s hsz8 HUw
            try rw [hU7]
            clear hfr hV7 hka7 hk7 hb7 HO6 HSe6 HK6 HSr6 HNew6 HV6 hU7 hk6 HDo
            obtain ⟨td, htd⟩ : ∃ t, hTold B x = t := ⟨_, rfl⟩
            have HTd : Pin.Aside (td = (decide (x.stop = 0) || decide (e' = x.re ∧ r' = x.rd))) := Pin.Aside.mk (by
              rw [← htd]; unfold hTold; rw [HDq.out]; congr 1; rw [decide_eq_decide]; simp)
            have HTdq := Pin.Aside.mk htd
            clear htd
            have hse := str_beq
            go_cut [36, 60] from 36 to 77 (fun v v2 wx => v = .int .i64 k ∧ v2 = .bool (!td) ∧ wx = w8)
            case first =>
              by_cases hz : x.stop = 0
              · have hz1 : (x.stop != 0) = false := by simp [hz]
                have htt : td = true := by rw [HTd.out, decide_eq_true hz]; rfl
                subst htt
                clear hz
                go_wp2_with fail
                go_meet
                exact ⟨rfl, rfl, rfl⟩
              · have hz1 : (x.stop != 0) = true := by simp [hz]
                have HZ := Pin.Aside.mk hz
                clear hz
                by_cases he : e' = x.re
                · by_cases hr : r' = x.rd
                  · have htt : td = true := by rw [HTd.out, decide_eq_true (show e' = x.re ∧ r' = x.rd from ⟨he, hr⟩), Bool.or_true]
                    subst htt
                    go_wp2_with fail
                    go_meet
                    exact ⟨rfl, rfl, rfl⟩
                  · have htt : td = false := by rw [HTd.out, decide_eq_false HZ.out, decide_eq_false (show ¬ (e' = x.re ∧ r' = x.rd) from fun q => hr q.2)]; rfl
                    subst htt
                    go_wp2_with fail
                    go_meet
                    exact ⟨rfl, rfl, rfl⟩
                · have htt : td = false := by rw [HTd.out, decide_eq_false HZ.out, decide_eq_false (show ¬ (e' = x.re ∧ r' = x.rd) from fun q => he q.1)]; rfl
                  subst htt
                  go_wp2_with fail
                  go_meet
                  exact ⟨rfl, rfl, rfl⟩
            case rest =>
              obtain ⟨rfl, rfl, rfl⟩ := hcut
              clear r0 r1 d12 d13 d14 hse HTd
              cases td with
              | false =>
                go_wp2_with fail
                go_roundw
                case rel => exact ⟨k + 1, R', by omega, by go_num, HR', HO8, HSe8, HK8, Pin.Aside.mk fun j hj => by
                  by_cases hjk : j < k
                  · exact HArm.out j hjk
                  · obtain rfl : j = k := by omega
                    unfold hArm
                    rw [HM.out, HAt.out, HTdq.out]; rfl⟩
                case measure => simp [intOf]; omega
              | true =>
                obtain ⟨i0, hif, hz0, hzs, hzb⟩ := info_parts int_info
                have hR0 := HO8.out.row
                have hRr := HOr.out.row
                obtain ⟨vq, hvR, hq, hfq, hown⟩ := HO8.out
                have hka := (Keep.refl (fun _ => False) wc).alloc (.cells #[.int .i64 (k : Int)] 3)
                have hownA : (wc.alloc (.cells #[.int .i64 (k : Int)] 3)).ownsRow b.H 3 1 vq pre.length (pre.map fun (j : Nat) => Value.int .i64 (j : Int)) := World.ownsRow.alloc hown _
                have hnew : (wc.alloc (.cells #[.int .i64 (k : Int)] 3)).heap[wc.heap.size]? = some (.cells #[.int .i64 (k : Int)] 3) := Go.heap_alloc_new wc _
                have hHc : b.H ≤ wc.heap.size := Nat.le_trans HHs.out HK8.out.size
                have hpl : pre.length ≤ 100 := by have := HPre.out; omega
                have HRr := Pin.Aside.mk hRr
                have HR0 := Pin.Aside.mk hR0
                clear hRr hR0
                go_upto_region 13 with fail
                go_wp2_with (at_builtin; refine wpList_append_lies _ rfl _ _ _ rfl b.H 3 i0 (.int .i64 0) 1 8 Tryd.underlying42 hif hz0 hzs hzb rfl (by omega) vq pre.length (pre.map fun (j : Nat) => Value.int .i64 (j : Int)) rfl hownA ⟨wc.heap.size, 0, none⟩ 1 1 [.int .i64 (k : Int)] rfl rfl (World.news_of_block (cs := #[.int .i64 (k : Int)]) (t := 3) (fr := (0, 0)) hnew) (by simp [Value.oneCell']) (by omega) (by unfold maxLen; omega) (by omega) (by simp; omega) _ rfl ?_)
                intro g cap w9 hown9 hgrow hat hlt9
                have hqA := hka.cell hq id
                have hfA := (hka.frozen_at (q := ⟨b.q, 0, none⟩) hq rfl id).trans hfq
                have hkg := keep_grownBy hgrow
                try rw [hvR] at hkg
                try rw [hvR] at hat
                have hbq := HBx.out.q
                have hnq : ¬ R' = some b.q := fun q => by have := (HR0.out _ q).1; omega
                have hnM : ¬ R' = some b.M := fun q => by have := (HR0.out _ q).1; have := HBx.out.M; omega
                have hq9 := hkg.cell hqA hnq
                have hfq9 := (hkg.frozen_at (q := ⟨b.q, 0, none⟩) hqA rfl hnq).trans hfA
                have hgq : b.q ≠ g := by
                  rcases hat with q | q
                  · have := (HR0.out _ q).1; omega
                  · omega
                have hks := (Keep.refl (fun j => j = b.q) w9).setCell (p := ⟨b.q, 0, none⟩) (.inl rfl) (.slice (some ⟨g, 0, none⟩) (pre.length + 1) cap)
                have hk10 : Keep (fun j => j = b.q ∨ R' = some j) wc (w9.setCell ⟨b.q, 0, none⟩ (.slice (some ⟨g, 0, none⟩) (pre.length + 1) cap)) :=
                  ((hka.mono fun _ q => q.elim).trans (hkg.mono fun j q => .inr q)).trans (hks.mono fun j q => .inl q)
                have HO10 : Pin.Aside (OrdAt (w9.setCell ⟨b.q, 0, none⟩ (.slice (some ⟨g, 0, none⟩) (pre.length + 1) cap)) b (some g) (pre ++ [k])) := Pin.Aside.mk
                  ⟨_, rfl, World.cell?_setCell_same _ _ _ hq9, by rw [World.frozen?_setCell]; exact hfq9, by
                    rw [List.length_append, List.map_append]
                    exact World.ownsRow.kept hown9 (grownBy_setCell' w9 b.q _) (.inr (by simp [Value.ownBlock]; omega))⟩
                clear hown9 hgrow hkg hqA hfA hq hfq hownA hnew hks hka hown
                go_upto_region 14 with fail
                generalize w9.setCell ⟨b.q, 0, none⟩ (.slice (some ⟨g, 0, none⟩) (pre.length + 1) cap) = w10 at *
                clear hq9 hfq9
                have HSe10 := Pin.Aside.mk (HSe8.out.keep hk10 (by
                  rintro (q | q)
                  · exact hbq.2 q.symm
                  · exact hnM q))
                replace hk10 : Keep (srS b R') wc w10 := hk10.mono fun j q => by rcases q with q | q; exact .inl q; exact .inr (.inr q)
                have HK10 := Pin.Aside.mk hk10
                have hnS : ∀ j, j < b.H → j ≠ b.q → j ≠ b.M → ¬ srS b R' j := fun j h1 h2 h3 => by
                  rintro (q | q | q)
                  · exact h2 q
                  · exact h3 q
                  · have := (HR0.out _ q).1; omega
                have hgH : b.H ≤ g := (HO10.out.row g rfl).1
                have hnS2 : ∀ j, j < b.H → j ≠ b.q → j ≠ b.M → ¬ srS b (some g) j := fun j h1 h2 h3 => by
                  rintro (q | q | q)
                  · exact h2 q
                  · exact h3 q
                  · injection q with q; omega
                have HSr10 := Pin.Aside.mk (HSr8.out.keep HBx.out hk10 hnS)
                have hse := HSr10.out.se
                have HnS := Pin.Aside.mk hnS
                have HnS2 := Pin.Aside.mk hnS2
                have l7 : ∀ s' : KW (srS b (some g)) w10, s'.w.cell? ⟨b.s, 0, none⟩ = _ := fun s' => s'.keep.cell hse (HnS2.out _ HBx.out.s.1 HBx.out.s.2.1 HBx.out.s.2.2)
                have hS0 : ∃ s' : KW (srS b (some g)) w10, w10.drew = s'.w := ⟨⟨w10.drew, (Keep.refl _ w10).drew⟩, rfl⟩
                clear hk10 hnS hnS2 hse
                refine wp_region_stay (S := fun w' => ∃ s' : KW (srS b (some g)) w10, w' = s'.w) 6 (by kernel_rfl) (by simp) (by kernel_rfl) (by kernel_rfl) hS0 ?_
                simp only [List.take_succ_cons, List.take_zero]
                refine wpStay_quietS 6 _ _ (by kernel_rfl) ?_
                simp only [List.take_succ_cons, List.take_zero, List.drop_succ_cons, List.drop_zero]
                repeat (go_big_quiet_step (fail))
                refine wpQuiet_nil ?_
                refine wpStay_nil ?_
                refine wpAnyH_one 6 (by kernel_rfl) rfl (fun K' hK' => ?_)
                go_simp
                have hor := or_bit done k HD10.out (by omega)
                rw [HDi.out] at hor
                have hkd : Keep (fun _ => False) w10 w10.drew := (Keep.refl _ w10).drew
                have hU58 : U5 ≤ wc.heap.size := Nat.le_of_lt (Nat.lt_of_le_of_lt HUw.out hsz8.out)
                have hwU : w.heap.size ≤ U5 := hwsz
                have hHw := HHs.out
                have hfar : ∀ q o', p7 = some ⟨q, o', none⟩ → q ≠ b.q ∧ q ≠ b.M ∧ R' ≠ some q ∧ q ≠ g := by
                  intro q o' hpq
                  have hq7 := hV7s.out q o' hpq
                  have hg' : R' = some g ∨ g = wc.heap.size + 1 := hat
                  rcases HFr.out q o' hpq with ⟨o2, h2⟩ | h2
                  · obtain ⟨q1, q2, q3⟩ := HAp.out _ _ _ rfl q o2 h2
                    have hqw : q < w.heap.size := by
                      rcases HV.out.of with ⟨q5, _⟩ | ⟨b2, o3, c2, q5, _, q6, _⟩
                      · injection q5 with q5; rw [h2] at q5; cases q5
                      · injection q5 with q5; rw [h2] at q5; injection q5 with q5; injection q5 with q5; rw [q5]; exact q6
                    have hR'q : R' ≠ some q := by
                      rcases HR'.out with h | ⟨g1, h, h4⟩
                      · rw [h]; exact q3
                      · rw [h]; intro h5; injection h5 with h5; omega
                    refine ⟨q1, q2, hR'q, ?_⟩
                    rintro rfl
                    rcases hg' with h | h
                    · exact hR'q h
                    · omega
                  · have hM := HBx.out.M
                    have hR'q : R' ≠ some q := fun h => by have := (HRr.out q h).2; have := HU5.out; omega
                    refine ⟨by omega, by omega, hR'q, ?_⟩
                    rintro rfl
                    rcases hg' with h | h
                    · exact hR'q h
                    · have := hsz8.out; omega
                have hgw : ∀ j, j < w.heap.size → srS b (some g) j → srS b R j := by
                  intro j hj
                  rintro (q | q | q)
                  · exact .inl q
                  · exact .inr (.inl q)
                  · injection q with q
                    subst q
                    rcases hat with h | h
                    · rcases HR'.out with h2 | ⟨g1, h2, h4⟩
                      · exact .inr (.inr (by rw [← h2]; exact h))
                      · rw [h2] at h; injection h with h; omega
                    · have := HK8.out.size; omega
                have hRw : ∀ j, j < w.heap.size → srS b R' j → srS b R j := by
                  intro j hj
                  rintro (q | q | q)
                  · exact .inl q
                  · exact .inr (.inl q)
                  · rcases HR'.out with h2 | ⟨g1, h2, h4⟩
                    · exact .inr (.inr (by rw [← h2]; exact q))
                    · rw [h2] at q; injection q with q; omega
                have hKw10 : Keep (srS b R) w w10.drew := (HK8.out.after HK10.out hRw).after (hkd.mono fun _ q => q.elim) fun _ _ q => q
                have hB' : HBlk B' := by have := hdo_blk HBk.out x; rw [HDq.out] at this; exact this
                have hbit := hMay_bit HM.out
                have hkL : k < L.length := by rw [HnL.out]; exact hlt
                have HS := HIh.out (done ||| 1 <<< k) B' (.slice p7 B'.length c7) w10.drew (pre ++ [k]) (some g)
                  (by have := hLeft_set L.length done k hkL hbit; have := HLe.out; omega)
                  (Nat.or_lt_two_pow HD.out (by rw [Nat.one_shiftLeft]; exact Nat.pow_lt_pow_right (by decide) hkL))
                  hB'
                  ((HV8.out.keepS HK10.out (by
                    rintro q o' h
                    obtain ⟨q1, q2, q3, q4⟩ := hfar q o' h
                    rintro (q5 | q5 | q5)
                    · exact q1 q5
                    · exact q2 q5
                    · exact q3 q5)).keep hkd)
                  (by
                    intro p n c q r o' hr
                    injection q with q
                    rw [hr] at q
                    obtain ⟨q1, q2, q3, q4⟩ := hfar r o' q
                    exact ⟨q1, q2, fun h => by injection h with h; exact q4 h.symm⟩)
                  (HSr10.out.keep HBx.out hkd fun _ _ _ _ => id)
                  (HO10.out.keep hkd id fun _ _ => id)
                  (by rw [List.length_append, List.length_singleton]; have := HPre.out; omega)
                  (HSe10.out.keep hkd id)
                  (HK0.out.trans (hKw10.mono fun j q => by
                    obtain ⟨u1, u2, u3⟩ := HU.out
                    rcases q with q | q | q
                    · rw [q]; exact u1
                    · rw [q]; exact u2
                    · have := (HO.out.row j q).1; omega))
                  (Nat.le_trans hHw hKw10.size)
                rw [← hor] at HS
                have hkw : Keep (srS b R) w w10.drew := hKw10
                have HSx := Pin.Aside.mk HS
                have HKw := Pin.Aside.mk hkw
                have HGw := Pin.Aside.mk hgw
                have HB' := Pin.Aside.mk hB'
                have Hat := Pin.Aside.mk hat
                have hwc : w.heap.size ≤ wc.heap.size := HK8.out.size
                clear HS hkw hKw10 hgw hRw hfar hB' hat l7 hS0 hor
                refine HSx.out.mono ?_
                rintro y w11 ⟨rfl, R2, hR2, hO11, hSe11, hk11⟩
                dsimp only
                refine hK'.out _ _ ⟨⟨w11, (hkd.mono fun _ q => q.elim).trans hk11⟩, rfl⟩ (fun _ => ?_)
                clear hK' K' HSx
                refine wpAnyH_done (by kernel_rfl) (NoPanic.normal ?_) _
                have HKf : Pin.Aside (Keep (srS b R) w w11) := Pin.Aside.mk (HKw.out.after hk11 fun j hj q => HGw.out j hj q)
                have HR2 : Pin.Aside (R2 = R ∨ ∃ g, R2 = some g ∧ w.heap.size ≤ g) := Pin.Aside.mk (by
                  rcases hR2 with h | ⟨g1, h, h2⟩
                  · rcases Hat.out with h3 | h3
                    · rcases HR'.out with h4 | ⟨g2, h4, h5⟩
                      · left; rw [h, ← h4]; exact h3.symm
                      · right; exact ⟨g, h, by rw [h4] at h3; injection h3 with h3; omega⟩
                    · right; exact ⟨g, h, by omega⟩
                  · right; exact ⟨g1, h, Nat.le_trans HKw.out.size h2⟩)
                have HO11 := Pin.Aside.mk hO11
                have HSe11 := Pin.Aside.mk hSe11
                have HBq := Pin.Aside.mk hbq
                clear hR2 hO11 hSe11 hk11 HKw HGw Hat hbq hnq hnM hgq hgH hU58 hwU hHw hwc
                obtain ⟨xo, hxo⟩ : ∃ xo, hs L f' (done ||| 1 <<< k) B' = xo := ⟨_, rfl⟩
                rw [hxo] at HO11
                rw [hxo]
                have HXo := Pin.Aside.mk hxo
                clear hxo
                cases xo with
                | some r1 =>
                  have HRes : Pin.Aside (hs L (f' + 1) done B = some (k :: r1)) := Pin.Aside.mk (hs_first HOv.out (by rw [HnL.out]; exact hlt) HArm.out (by
                    unfold hArm
                    rw [HM.out, HAt.out, HTdq.out, HDq.out, HXo.out]; rfl))
                  simp only [Option.isSome_some]
                  go_wp2_with fail
                  go_ret
                  refine ⟨by rw [HRes.out]; rfl, R2, HR2.out, ?_, HSe11.out, HKf.out⟩
                  rw [HRes.out]
                  have := HO11.out
                  rw [List.append_assoc] at this
                  exact this
                | none =>
                  simp only [Option.isSome_none]
                  have hO12 : OrdAt w11 b R2 (pre ++ [k]) := by have := HO11.out; rw [show (none : Option (List Nat)).getD [] = [] from rfl, List.append_nil] at this; exact this
                  have hR2r := hO12.row
                  obtain ⟨v2, hv2R, hq2, hfq2, hown2⟩ := hO12
                  rw [List.length_append, List.map_append] at hown2
                  obtain ⟨g2, cap2, rfl, hg2, hg2l⟩ := World.ownsRow.form hown2 (by simp)
                  have hpop := ownsRow_pop (size := 1) (n := pre.length) (xs := pre.map fun (k : Nat) => Value.int .i64 (k : Int)) (last := [k].map fun (k : Nat) => Value.int .i64 (k : Int)) (by simp) hown2
                  have hp1 : ((pre.length + [k].length : Nat) : Int) - 1 = (pre.length : Int) := by simp
                  have hcap : (pre.length : Int) ≤ (cap2 : Int) := by
                    rcases hpop.2 with ⟨q, _⟩ | ⟨g', cap', cur, q, _, _, hnc, _⟩
                    · cases q
                    · injection q with q1 q2 q3; omega
                  clear hown2
                  have hMq := HBq.out.2
                  have hR2g := (hR2r g2 (by rw [← hv2R]; rfl)).1
                  have hks := (Keep.refl (fun j => j = b.q) w11).setCell (p := ⟨b.q, 0, none⟩) (.inl rfl) (.slice (some ⟨g2, 0, none⟩) pre.length cap2)
                  have HSe12 := Pin.Aside.mk (HSe11.out.keep hks (fun q => hMq q.symm))
                  have HK12 := Pin.Aside.mk (HKf.out.trans (hks.mono fun j q => (.inl q : srS b R j)))
                  have HO12 : Pin.Aside (OrdAt (w11.setCell ⟨b.q, 0, none⟩ (.slice (some ⟨g2, 0, none⟩) pre.length cap2)) b R2 pre) := Pin.Aside.mk
                    ⟨.slice (some ⟨g2, 0, none⟩) pre.length cap2, by rw [← hv2R]; rfl, World.cell?_setCell_same _ _ _ hq2, by rw [World.frozen?_setCell]; exact hfq2,
                      World.ownsRow.kept hpop (grownBy_setCell' w11 b.q _) (.inr (by have := HBq.out; simp [Value.ownBlock]; omega))⟩
                  have HNone : Pin.Aside (hArm L f' done B k = none) := Pin.Aside.mk (by
                    unfold hArm
                    rw [HM.out, HAt.out, HTdq.out, HDq.out, HXo.out]; rfl)
                  clear hks hpop hMq hR2g hR2r
                  go_wp2_with fail
                  go_roundw
                  case rel => exact ⟨k + 1, R2, by omega, by go_num, HR2, HO12, HSe12, HK12, Pin.Aside.mk fun j hj => by
                    by_cases hjk : j < k
                    · exact HArm.out j hjk
                    · obtain rfl : j = k := by omega
                      exact HNone.out⟩
                  case measure => simp [intOf]; omega
        · obtain rfl : k = nL := by omega
          have hnone : hs L (f' + 1) done B = none := hs_last HOv.out (fun j hj => HArm.out j (by rw [HnL.out] at hj; exact hj))
          have HNo := Pin.Aside.mk hnone
          have hQk : hQ L key := ⟨done, B, HKey.out.symm, HBk.out.all, hs_none HLe.out hnone⟩
          obtain ⟨w5, hupd, hSe5, hk5, hsz5⟩ := run_set_update (P := Tryd.prog) HSe.out Tryd.underlying61 Tryd.underlying9 key hQk
          have hme := hsr.me
          have HSe5 := Pin.Aside.mk hSe5
          have hnR : ∀ j, R' = some j → ¬ j = b.M := fun j q => by have := (HOr.out.row j q).1; have := HBx.out.M; omega
          have HO5 := Pin.Aside.mk (HOr.out.keep hk5 (fun q => HBx.out.q.2 q) hnR)
          have HK5 := Pin.Aside.mk (HKr.out.trans (hk5.mono fun j q => (.inr (.inl q) : srS b R j)))
          clear hnone hQk hSe5 hk5 hnR hsr
          go_wp2_with fail
          go_ret
          refine ⟨by rw [HNo.out]; rfl, R', HR'.out, ?_, HSe5.out, HK5.out⟩
          rw [HNo.out]
          show OrdAt w5 b R' (pre ++ [])
          rw [List.append_nil]; exact HO5.out
theorem hi_search (L : List HOp) (hL : L.length ≤ 10) (hok : ∀ x ∈ L, x.ok) (b : HBox) (a : Option Addr) (c : Nat) (hbx : b.ok L a) (U : Nat) (w0 : World) (hIt : ItoaOk L.length U w0) (hU : U ≤ b.q ∧ U ≤ b.M ∧ U ≤ b.H) : ∀ f, SearchOk L b a c U w0 f
  | 0 => hi_search_step L hL hok b a c hbx U w0 hIt hU 0 (fun f' h => by omega)
  | f + 1 => hi_search_step L hL hok b a c hbx U w0 hIt hU (f + 1) (fun f' h => by
      have : f' = f := by omega
      rw [this]
      exact hi_search L hL hok b a c hbx U w0 hIt hU f)
end Go.Proofs.YtnilfjkodlmenaaDoor
