/- SuperHolds: its walk. -/
import Derived.Test.YtpfkpaombiikcaaDoorSuCr
import Derived.Test.YtpfkpaombiikcaaDoorSuperTurnsW
import Derived.Deep.AppendSrc
import Derived.Lib.AppendZeros
set_option maxRecDepth 16000
namespace Go.Pin
open Go.RowKit
set_option linter.unusedVariables false
set_option linter.unusedSimpArgs false
/-- A text in each of the first n cells of block g. -/
def TextsAt (w : World) (g n : Nat) : Prop := ∀ i, i < n → ∃ X : ByteArray, w.cell? ⟨g, i, none⟩ = some (.string X) ∧ X.size ≤ 140737488351232
theorem TextsAt.keep {S : Nat → Prop} {a w : World} {g n : Nat} (h : TextsAt a g n) (hk : Keep S a w) (hn : ¬ S g) : TextsAt w g n := fun i hi => by
  obtain ⟨X, hX, hz⟩ := h i hi; exact ⟨X, hk.cell hX hn, hz⟩
theorem TextsAt.below {a w : World} {g n : Nat} (h : TextsAt a g n) (hk : Below a.heap.size a w) : TextsAt w g n := h.keep (Keep.of_below (S := fun _ => False) hk fun _ hk _ => hk) id
theorem list_of {P : Nat → ByteArray → Prop} (n : Nat) (h : ∀ i, i < n → ∃ x, P i x) : ∃ xs : List ByteArray, xs.length = n ∧ ∀ i x, xs[i]? = some x → P i x := by
  induction n with
  | zero => exact ⟨[], rfl, fun i x hx => by simp at hx⟩
  | succ n ih =>
    obtain ⟨xs, hl, hx⟩ := ih fun i hi => h i (by omega)
    obtain ⟨y, hy⟩ := h n (by omega)
    refine ⟨xs ++ [y], by simp [hl], fun i x hix => ?_⟩
    by_cases hi : i < n
    · rw [List.getElem?_append_left (by omega)] at hix; exact hx i x hix
    · have hin : i = n := by have := (List.getElem?_eq_some_iff.1 hix).1; simp [hl] at this; omega
      subst hin
      rw [List.getElem?_append_right (by omega), hl] at hix
      simp at hix; subst hix; exact hy
end Go.Pin
namespace Go.Proofs.YtpfkpaombiikcaaDoor
open Go.RowKit Go.Pin
set_option linter.unusedVariables false
set_option linter.unusedSimpArgs false
theorem str_infoH : (Tryd.prog.info? 9).map (fun i => (i.zero, i.size, i.bytes)) = some (some (.string ⟨#[]⟩), 1, 16) := by kernel_rfl
set_option maxHeartbeats 4000000 in
theorem superHolds_walk (a : Option Addr) (len cap : Nat) (st : Int) (lost : Bool) (w : World) (h : isSlice [isStr] w (.slice a len cap)) (hst : 0 ≤ st ∧ st ≤ 255) :
    Calls Tryd.prog 7 #[.slice a len cap, .int .u8 st, .bool lost] w fun e w' => e = .returned (.bool true) ∧ Below w.heap.size w w' := by
  have hse := str_beq
  have hlen := slice_len h
  have hl2 : (len : Int) ≤ 9223372036854775807 := by omega
  have hcap : len ≤ cap := by obtain ⟨_, _, _, e, q, _⟩ := h; cases e; exact q
  obtain ⟨m, hm1, hm2, hm6, hml⟩ : ∃ m : Nat, (if (6 : Int) < (len : Int) then 6 else (len : Int)) = (m : Int) ∧ min (len : Int) 6 = (m : Int) ∧ m ≤ 6 ∧ m ≤ len := ⟨min 6 len, by split <;> omega, by omega, by omega, by omega⟩
  have hmc : (m : Int) ≤ (cap : Int) := by omega
  have hst3 : 0 ≤ st % 3 ∧ st % 3 ≤ 2 := by omega
  have H := Pin.Aside.mk h
  have hb := Below.refl w.heap.size w
  clear h hlen
  go_enter Tryd.func7, Tryd.ntmps7
  go_wp2_with fail
  refine (super_examples _).mono ?_
  rintro e w1 ⟨rfl, hbb⟩
  replace hb := Below.next hb hbb
  clear hbb
  go_wp2_with fail
  with_reducible refine (dev_new' 2 2 rfl (by omega) (by omega) _).mono ?_
  rintro e w4 ⟨bA, fA, mA, rfl, hbA, hfA, hmA, dA, hbb⟩
  replace hbA := Nat.le_trans hb.size hbA
  replace hfA := Nat.le_trans hb.size hfA
  replace hmA := Nat.le_trans hb.size hmA
  replace hb := Below.next hb hbb
  clear hbb
  have Hlt := Pin.Aside.mk dA.lt
  have hwz := hb.size
  go_upto_region 7 with fail
  go_cut [0] (fun v wx => ∃ g c M : Nat, v = .slice (some ⟨g, 0, none⟩) M c ∧ 1 ≤ M ∧ M ≤ 7 ∧ TextsAt wx g M ∧ DevAt wx bA fA mA (dnew 2) ∧ Below w.heap.size w wx ∧ w4.heap.size ≤ g)
  case first =>
    obtain ⟨i0, hi, hz0, hzs, hzb⟩ := info_parts str_infoH
    have hfirst : (⟨#[102, 105, 114, 115, 116]⟩ : ByteArray).size ≤ 140737488351232 := by decide
    have hk4 : Keep (fun _ => False) w4 (w4.alloc (.cells #[.string ⟨#[102, 105, 114, 115, 116]⟩] 9)) := (Keep.refl _ _).alloc _
    have hdA := dA.keep hk4 ⟨id, id, id⟩
    have hb5 := hb.alloc hb.size (.cells #[.string ⟨#[102, 105, 114, 115, 116]⟩] 9)
    cases a with
    | none =>
      have hm0 : m = 0 := by
        obtain ⟨_, _, _, e, _, _, q⟩ := H.out
        cases e
        by_cases q0 : 0 < len
        · obtain ⟨_, _, e, _⟩ := q q0; cases e
        · omega
      subst hm0
      have hrun := fun ty => run_append_room_src (P := Tryd.prog) (w := w4.alloc (.cells #[.string ⟨#[102, 105, 114, 115, 116]⟩] 9)) 30 30 ty 9 i0 Tryd.underlying30 hi w4.heap.size 0 1 1 (.slice none 0 cap) 0 [] (by rw [hzs]; exact Src.ofNil _ Tryd.underlying30 cap) (by omega) (fun j hj => absurd hj (by simp)) (fun j hj => absurd hj (by simp))
      have Hrun := Pin.Aside.mk hrun
      clear hrun
      go_wp2_with (at_builtin; refine Lib.wpList_append_run _ rfl _ _ 30 30 rfl _ _ rfl rfl _ _ (Hrun.out _) ?_)
      go_meet
      case rel =>
        refine ⟨w4.heap.size, 1, 1, rfl, by omega, by omega, fun i hi1 => ?_, hdA, hb5, Nat.le_refl _⟩
        obtain rfl : i = 0 := by omega
        exact ⟨_, World.cell?_alloc_new w4 _ _ 0, hfirst⟩
    | some ad =>
      obtain ⟨news, hnl, hnx⟩ := list_of (P := fun i X => w.cell? (ad.add i) = some (.string X) ∧ X.size ≤ 140737488351232) m (fun i hi => by
        obtain ⟨_, _, _, e, _, _, q⟩ := H.out
        cases e
        obtain ⟨b, o, e, hx⟩ := q (by omega)
        cases e
        obtain ⟨x, hx1, X, rfl, hX⟩ := hx i (by omega) 0 isStr rfl
        simp at hx1
        exact ⟨X, by rw [Addr.add_mid]; exact hx1, hX⟩)
      have Hnews := Pin.Aside.mk (show ∀ j u, (news.map Value.string)[j]? = some u → (w4.alloc (.cells #[.string ⟨#[102, 105, 114, 115, 116]⟩] 9)).cell? (ad.add j) = some u from fun j u hj => by
        rw [List.getElem?_map] at hj
        cases hq : news[j]? with
        | none => rw [hq] at hj; cases hj
        | some X =>
          rw [hq] at hj; cases hj
          have hc := (hnx j X hq).1
          exact (hb5.cell (World.block_lt_of_cell? _ _ hc)).trans hc)
      have Hone := Pin.Aside.mk (show ∀ u ∈ news.map Value.string, u.oneCell' = true from fun u hu => by obtain ⟨_, _, rfl⟩ := List.mem_map.1 hu; rfl)
      have hown : (w4.alloc (.cells #[.string ⟨#[102, 105, 114, 115, 116]⟩] 9)).ownsRow w4.heap.size 9 1 (.slice (some ⟨w4.heap.size, 0, none⟩) 1 1) 1 [.string ⟨#[102, 105, 114, 115, 116]⟩] :=
        ⟨rfl, .inr ⟨w4.heap.size, 1, _, rfl, Nat.le_refl _, Go.heap_alloc_new w4 _, Nat.le_refl _, by unfold maxLen; omega, rfl, rfl⟩⟩
      have Hown := Pin.Aside.mk hown
      have Hnl := Pin.Aside.mk (show (news.map Value.string).length = m * 1 by rw [List.length_map, hnl, Nat.mul_one])
      have Hnx := Pin.Aside.mk hnx
      clear hown hnl hnx
      go_wp2_with (at_builtin; refine wpList_append_own _ rfl _ _ 30 rfl w4.heap.size 9 i0 (.string ⟨#[]⟩) 1 16 Tryd.underlying30 hi hz0 hzs hzb rfl (by decide) _ _ _ rfl Hown.out ad m cap (news.map Value.string) rfl Hnl.out Hnews.out Hone.out ?c3 ?c4 ?c5 ?_)
      case c3 => unfold maxLen; omega
      case c4 => omega
      case c5 => simp
      rintro v' w' hown' hgr hiff
      obtain ⟨g, c, rfl, hg1, hg2⟩ := hown'.form (by omega)
      have hcl := hown'.cells (g := g) rfl
      have hkg := keep_of_grown hgr
      go_wp2_with fail
      go_meet
      case rel =>
        refine ⟨g, c, 1 + m, rfl, by omega, by omega, fun i hi1 => ?_, ?_, ?_, hg1⟩
        · cases i with
          | zero => exact ⟨_, by have := hcl 0 _ rfl; simpa [Addr.add_mid] using this, hfirst⟩
          | succ i =>
            obtain ⟨X, hX⟩ : ∃ X, news[i]? = some X := ⟨news[i]'(by have := Hnl.out; simp at this; omega), List.getElem?_eq_getElem _⟩
            refine ⟨X, ?_, (Hnx.out i X hX).2⟩
            have := hcl (i + 1) (.string X) (by simp [hX])
            simpa [Addr.add_mid] using this
        · have hlt := dA.lt
          refine hdA.keep hkg ⟨?_, ?_, ?_⟩ <;> simp [Value.ownBlock] <;> omega
        · exact hb5.grown hgr hb5.size fun k hk => by simp [Value.ownBlock] at hk; have := hb.size; omega
  case rest =>
    obtain ⟨g, c, M, rfl, hM1, hM, hT, dA, hb, hgw⟩ := hcut
    have Hgd := Pin.Aside.mk (show ¬ devS bA fA mA g from fun q => by have := Hlt.out; rcases q with q | q | q <;> omega)
    have hwM : IntKind.i64.wrap ((M : Int) - 1) = (M : Int) - 1 := by rw [IntKind.wrap_i64]; omega
    clear hm1 hm2 hml hmc H hcap Hlt hgw
    go_wp2_with fail
    go_loopw [10, 11] (fun ov iv wr => ∃ (k : Int) (D : Dv) (r : ByteArray × Int × Int × Int) (O : ByteArray), 0 ≤ k ∧ k < (M : Int) ∧ iv = .int .i64 k ∧ ov = .string O ∧ DevAt wr bA fA mA D ∧ TextsAt wr g M ∧ Below w.heap.size w wr ∧ Pin.Aside (D.ok ∧ Live D ∧ D.n = 2 ∧ (∀ i, D.w i = false) ∧ suread D ((0 : Nat) : Int) = r ∧ r.2.1 = k ∧ (suNext r).1 = k + 1 ∧ (k = 0 → r = (⟨#[]⟩, 0, 0, 6)) ∧ (0 < k → r.1 = O ∧ r.2.2.2 = 0))) (fun _ iv _ => 10 - (intOf iv).toNat)
    case atStart =>
      exact ⟨0, dnew 2, (⟨#[]⟩, 0, 0, 6), _, by omega, by omega, rfl, rfl, dA, hT, hb, Pin.Aside.mk (And.intro (dnew_ok 2 (by omega) (by omega)) (And.intro (live_new 2) (And.intro (dnew_n 2) (And.intro (fun i => getD_rep _ _ _) (And.intro (suread_new 2 0 (by omega)) (And.intro rfl (And.intro rfl (And.intro (fun _ => rfl) (fun q => absurd q (by omega))))))))))⟩
    case round =>
      clear hb dA hT
      obtain ⟨k, D, r, O, hk0, hkM, rfl, rfl, dA, hT, hb, HR⟩ := hrel
      obtain ⟨X, hX, hXz⟩ := hT k.toNat (by omega)
      have cX : wr.cell? ⟨g, 0 + k.toNat, none⟩ = some (.string X) := by rw [Nat.zero_add]; exact hX
      obtain ⟨x, hx1, hx2, hx51, hxX, hXm⟩ := cut51 X
      obtain ⟨S, hS⟩ : ∃ S, X.extract 0 x = S := ⟨_, rfl⟩
      rw [hS] at hXm
      have hrg : r.2.1 ≤ 100 := by have := HR.out.2.2.2.2.2.1; omega
      by_cases hlast : k < (M : Int) - 1
      · obtain ⟨E, hE1, hE2, hE3, hE4, hE5, hE6, hE7⟩ := su_stepW HR.out.1 HR.out.2.1 (a := 0) (by rw [HR.out.2.2.1]; omega) S hXm r HR.out.2.2.2.2.1 (by omega)
        rw [HR.out.2.2.2.2.2.2.1] at hE5
        have HE1 := Pin.Aside.mk hE1
        have HE := Pin.Aside.mk (And.intro hE2 (And.intro hE3 (And.intro (hE4.trans HR.out.2.2.1) (And.intro hE7 hE5))))
        clear hE1 hE2 hE3 hE4 hE5 hE6 hE7 HR hrg
        go_upto_region 12 with fail
        go_quiet (fail)
        go_wp2_with fail
        refine (super_write_to bA fA mA _ 0 0 rfl (by omega) S (by omega) 0 E HE1.out _ (dA.drewN _)).mono ?_
        rintro e w7 ⟨rfl, qA, hkk⟩
        replace hT := (hT.keep ((Keep.refl (fun _ => False) wr).drewN _) id).keep hkk Hgd.out
        replace hb := Below.dev (below_drewNT hb _) hkk hb.size hbA hfA hmA
        clear dA hkk
        go_wp2_with fail
        go_roundw
        case rel =>
          refine ⟨k + 1, E, _, S, by omega, by omega, rfl, rfl, qA, hT, hb, Pin.Aside.mk (And.intro HE.out.1 (And.intro HE.out.2.1 (And.intro HE.out.2.2.1 (And.intro HE.out.2.2.2.1 (And.intro HE.out.2.2.2.2 (And.intro rfl (And.intro ?_ (And.intro (fun q => absurd q (by omega)) (fun _ => ⟨rfl, rfl⟩)))))))))⟩
          unfold suNext; rw [if_neg (by simp)]
        case measure => simp [intOf]; omega
      · have hkM1 : k + 1 = (M : Int) := by omega
        cases lost with
        | true =>
          obtain ⟨c', Y, b', g', i', h', hW, hRd, hcase⟩ := su_crash HR.out.1 HR.out.2.1 HR.out.2.2.1 HR.out.2.2.2.1 S hXm r HR.out.2.2.2.2.1 hrg (st % 3) ⟨by omega, by omega⟩ [0, 1] (.inr rfl)
          have HW := Pin.Aside.mk hW
          have HRd := Pin.Aside.mk hRd
          have Hcase := Pin.Aside.mk hcase
          clear hW hRd hcase hrg
          go_upto_region 12 with fail
          go_quiet (fail)
          go_wp2_with fail
          refine (dev_arm bA fA mA D (st % 3) (by omega) _ (dA.drewN _)).mono ?_
          rintro e w7 ⟨rfl, qA, hkk⟩
          replace hb := Below.dev (below_drewNT hb _) hkk hb.size hbA hfA hmA
          clear dA hkk
          go_wp2_with fail
          refine (super_write_to bA fA mA _ 0 0 rfl (by omega) S (by omega) _ Y HW.out _ qA).mono ?_
          rintro e w8 ⟨rfl, dA, hkk⟩
          replace hb := Below.dev hb hkk hb.size hbA hfA hmA
          clear qA hkk
          go_wp2_with fail
          have k9 : Keep (fun _ => False) w8 (w8.alloc (.cells #[.int .i64 0, .int .i64 1] 3)) := (Keep.refl _ _).alloc _
          have hb9 := hb.alloc hb.size (.cells #[.int .i64 0, .int .i64 1] 3)
          have hl9 : SlI (w8.alloc (.cells #[.int .i64 0, .int .i64 1] 3)) (some ⟨w8.heap.size, 0, none⟩) [0, 1] := fun _ => ⟨w8.heap.size, 0, rfl, fun i hi => by
            match i, hi with
            | 0, _ => exact World.cell?_alloc_new w8 _ _ 0
            | 1, _ => exact World.cell?_alloc_new w8 _ _ 1⟩
          refine (dev_after' bA fA mA Y (some ⟨w8.heap.size, 0, none⟩) 2 2 [0, 1] rfl _ (dA.keep k9 ⟨id, id, id⟩) (by decide) hl9).mono ?_
          rintro e w9 ⟨bX, fX, mX, rfl, hbX, hfX, hmX, dX, hbb⟩
          replace hb := Below.next hb9 hbb
          clear hbb hb9
          go_wp2_with fail
          refine (super_read_to bX fX mX _ 0 0 rfl (by omega) _ _ _ _ HRd.out _ dX).mono ?_
          rintro e w10 ⟨rfl, hbb⟩
          replace hb := Below.next hb hbb
          clear hbb dX dA
          have hwk : IntKind.i64.wrap (k + 1) = k + 1 := by rw [IntKind.wrap_i64]; omega
          rcases Hcase.out with ⟨h1, rfl, rfl, rfl, h5⟩ | ⟨h1, rfl, h3⟩ | ⟨h1, rfl, rfl, rfl, h5⟩
          · have q1 : (st % 3 == 2) = true := by simpa using h1
            have q2 : g' = k + 1 := h5.trans HR.out.2.2.2.2.2.2.1
            subst q2
            clear h1 h5 hkM1
            go_wp2_with fail
            go_ret
            exact ⟨rfl, hb⟩
          · by_cases hk1 : k = 0
            · have hr := HR.out.2.2.2.2.2.2.2.1 hk1
              rw [hr] at h3
              cases h3
              have q1 : (k == 0) = true := by simpa using hk1
              clear h1 hk1 hr hkM1
              go_wp2_with fail
              go_ret
              exact ⟨rfl, hb⟩
            · obtain ⟨hrO, hr0⟩ := HR.out.2.2.2.2.2.2.2.2 (by omega)
              have q1 : (k == 0) = false := by simpa using hk1
              obtain ⟨r1, r2, r3, r4⟩ := r
              cases h3
              dsimp only at hrO hr0
              subst hrO hr0
              clear h1 hk1 hkM1
              go_wp2_with fail
              go_ret
              exact ⟨rfl, hb⟩
          · cases h5
        | false =>
          obtain ⟨c', Y, b', g', i', h', hW, hRd, hcase⟩ := su_crash HR.out.1 HR.out.2.1 HR.out.2.2.1 HR.out.2.2.2.1 S hXm r HR.out.2.2.2.2.1 hrg (st % 3) ⟨by omega, by omega⟩ [] (.inl rfl)
          have HW := Pin.Aside.mk hW
          have HRd := Pin.Aside.mk hRd
          have Hcase := Pin.Aside.mk hcase
          clear hW hRd hcase hrg
          go_upto_region 12 with fail
          go_quiet (fail)
          go_wp2_with fail
          refine (dev_arm bA fA mA D (st % 3) (by omega) _ (dA.drewN _)).mono ?_
          rintro e w7 ⟨rfl, qA, hkk⟩
          replace hb := Below.dev (below_drewNT hb _) hkk hb.size hbA hfA hmA
          clear dA hkk
          go_wp2_with fail
          refine (super_write_to bA fA mA _ 0 0 rfl (by omega) S (by omega) _ Y HW.out _ qA).mono ?_
          rintro e w8 ⟨rfl, dA, hkk⟩
          replace hb := Below.dev hb hkk hb.size hbA hfA hmA
          clear qA hkk
          go_wp2_with fail
          have hb9 := hb
          refine (dev_after' bA fA mA Y none 0 0 [] rfl _ dA (by decide) (slI_nil _ _)).mono ?_
          rintro e w9 ⟨bX, fX, mX, rfl, hbX, hfX, hmX, dX, hbb⟩
          replace hb := Below.next hb9 hbb
          clear hbb hb9
          go_wp2_with fail
          refine (super_read_to bX fX mX _ 0 0 rfl (by omega) _ _ _ _ HRd.out _ dX).mono ?_
          rintro e w10 ⟨rfl, hbb⟩
          replace hb := Below.next hb hbb
          clear hbb dX dA
          have hwk : IntKind.i64.wrap (k + 1) = k + 1 := by rw [IntKind.wrap_i64]; omega
          rcases Hcase.out with ⟨h1, rfl, rfl, rfl, h5⟩ | ⟨h1, rfl, h3⟩ | ⟨h1, rfl, rfl, rfl, h5⟩
          · have q1 : (st % 3 == 2) = true := by simpa using h1
            have q2 : g' = k + 1 := h5.trans HR.out.2.2.2.2.2.2.1
            subst q2
            clear h1 h5 hkM1
            go_wp2_with fail
            go_ret
            exact ⟨rfl, hb⟩
          · by_cases hk1 : k = 0
            · have hr := HR.out.2.2.2.2.2.2.2.1 hk1
              rw [hr] at h3
              cases h3
              have q1 : (k == 0) = true := by simpa using hk1
              clear h1 hk1 hr hkM1
              go_wp2_with fail
              go_ret
              exact ⟨rfl, hb⟩
            · obtain ⟨hrO, hr0⟩ := HR.out.2.2.2.2.2.2.2.2 (by omega)
              have q1 : (k == 0) = false := by simpa using hk1
              obtain ⟨r1, r2, r3, r4⟩ := r
              cases h3
              dsimp only at hrO hr0
              subst hrO hr0
              clear h1 hk1 hkM1
              go_wp2_with fail
              go_ret
              exact ⟨rfl, hb⟩
          · by_cases hk1 : k = 0
            · have q1 : (k == 0) = true := by simpa using hk1
              clear h1 h5 hk1 hkM1
              go_wp2_with fail
              go_ret
              exact ⟨rfl, hb⟩
            · have q1 : (k == 0) = false := by simpa using hk1
              by_cases hSO : b' = O
              · have q2 : decide (b' = O) = true := by simpa using hSO
                clear h1 h5 hk1 hkM1 hSO
                go_wp2_with fail
                go_ret
                exact ⟨rfl, hb⟩
              · have q2 : decide (b' = O) = false := by simpa using hSO
                clear h1 h5 hk1 hkM1 hSO
                go_wp2_with fail
                go_ret
                exact ⟨rfl, hb⟩
end Go.Proofs.YtpfkpaombiikcaaDoor
