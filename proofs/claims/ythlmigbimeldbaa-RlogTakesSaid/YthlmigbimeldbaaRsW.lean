/- pintlelaw16: logged. -/
import Derived.Test.YthlmigbimeldbaaLgT
import Derived.Test.YthlmigbimeldbaaMkW
set_option maxRecDepth 16000
namespace Go.Pin
open Go.RowKit
set_option linter.unusedVariables false
set_option linter.unusedSimpArgs false
/-- A slice of parts. -/
structure MadesAt (w : World) (p : Option Addr) (n : Nat) (M : List (En × Bool)) : Prop where
  len : M.length = n
  ok : ∀ x ∈ M, x.1.ok
  at' : ∀ j x, M[j]? = some x → ∃ A o, p = some ⟨A, o, none⟩ ∧ EnAt w A (o + j * 12) x.1 ∧ w.cell? ⟨A, o + j * 12 + 11, none⟩ = some (.bool x.2)
theorem MadesAt.below {a w : World} {p : Option Addr} {n : Nat} {M : List (En × Bool)} (h : MadesAt a p n M) (hk : Below a.heap.size a w) : MadesAt w p n M := by
  have hq : Keep (fun _ => False) a w := Keep.of_below hk fun _ q _ => q
  exact ⟨h.len, h.ok, fun j x hx => by obtain ⟨A, o, q, h1, h2⟩ := h.at' j x hx; exact ⟨A, o, q, h1.keep hq id, hq.cell h2 id⟩⟩
def lgPlaced (base : Int) (i : Nat) (x : En × Bool) : En := { x.1.own with index := base + i + 1 }
def lgLogged (base : Int) (M : List (En × Bool)) : List En := M.mapIdx (lgPlaced base)
theorem lgLogged_snoc (base : Int) (M : List (En × Bool)) (k : Nat) (x : En × Bool) (h : M[k]? = some x) : lgLogged base (M.take (k + 1)) = lgLogged base (M.take k) ++ [lgPlaced base k x] := by
  have hk : k < M.length := (List.getElem?_eq_some_iff.1 h).1
  unfold lgLogged
  rw [List.take_add_one, h]
  simp only [Option.toList_some]
  rw [List.mapIdx_append]
  simp [List.length_take, Nat.min_eq_left (Nat.le_of_lt hk)]
theorem lgLogged_len (base : Int) (M : List (En × Bool)) : (lgLogged base M).length = M.length := by simp [lgLogged]
end Go.Pin
namespace Go.Proofs.Ythlmigbimeldbaa
open Go.RowKit Go.Pin
set_option linter.unusedVariables false
set_option linter.unusedSimpArgs false
set_option maxHeartbeats 3200000 in
theorem mk_logged (base : Int) (hb0 : 0 ≤ base ∧ base ≤ 1000) (most : Nat) (hmost : most ≤ 100) (M : List (En × Bool)) (p : Option Addr) (n c : Nat) (w : World) (hM : MadesAt w p n M) :
    Calls Try.prog 48 #[.slice p n c, .int .u64 base, .int .i64 most, .int .i64 2] w fun x w' => (∃ v, x = .returned v ∧ OwnE w' w.heap.size 32 v (lgLogged base (M.take most))) ∧ Below w.heap.size w w' := by
  obtain ⟨i0, hi, hz0, hzs, hzb⟩ := info_parts en_info
  have hb := Below.refl w.heap.size w
  have HM := Pin.Aside.mk hM
  have hn := hM.len
  clear hM
  have hB0 : w.heap.size = w.heap.size := rfl
  generalize hB : w.heap.size = B at hb hB0 ⊢
  clear hB0
  go_enter Try.func48, Try.ntmps48
  go_wp2_with fail
  go_loopw [9, 10] (fun v x wr => ∃ k : Nat, k ≤ n ∧ k ≤ most ∧ x = .int .i64 k ∧ Below B w wr ∧ Pin.Aside (OwnE wr B 32 v (lgLogged base (M.take k)))) (fun _ x _ => n - (intOf x).toNat)
  case atStart => exact ⟨0, by omega, by omega, rfl, hb, Pin.Aside.mk (ownE_nil _ _ _)⟩
  case round =>
    clear hb
    obtain ⟨k, hk, hkm, rfl, hb, HO⟩ := hrel
    by_cases hlt : k < n
    · by_cases hlm : k < most
      · obtain ⟨⟨e, own⟩, he⟩ : ∃ x, M[k]? = some x := ⟨M[k], List.getElem?_eq_getElem (by omega)⟩
        obtain ⟨A, o, rfl, hE, hO⟩ := HM.out.at' k _ he
        have hok := HM.out.ok _ (List.mem_of_getElem? he)
        dsimp only at hE hO hok
        have hkr : Keep (fun _ => False) w wr := Keep.of_below (S := fun _ => False) hb fun _ q _ => by rw [← hB]; exact q
        replace hE := hE.keep hkr id
        replace hO := hkr.cell hO id
        have hk0 : (0 : Int) ≤ (k : Int) := by omega
        have hk1 : (k : Int) < (n : Int) := by omega
        have hk2 : (k : Int) < (most : Int) := by omega
        have hka := (Keep.refl (fun _ => False) wr).alloc (.cells #[.int .u64 e.term, .int .u64 e.index, .int .i64 e.kind, .int .u64 e.client, .int .u64 e.seq, .int .u64 e.block, .int .u64 e.many, .int .i64 e.node, .int .i64 e.level, .string e.data, .string e.old, .bool true] 118)
        have Hm := Pin.Aside.mk (fun W => mk_made_own e hok W)
        have Hst := Pin.Aside.mk (lgLogged_snoc base M k _ he)
        obtain ⟨Y, hY⟩ : ∃ Y, lgLogged base (M.take k) = Y := ⟨_, rfl⟩
        have hll : Pin.Aside (Y.length = k) := Pin.Aside.mk (by rw [← hY, lgLogged_len, List.length_take]; omega)
        rw [hY] at HO Hst
        obtain ⟨c0, c1, c2, c3, c4, c5, c6, c7, c8, c9, c10⟩ := hE
        clear he hkr hok hY
        go_wp2_with fail
        refine (Hm.out _).mono ?_
        rintro x w1 ⟨rfl, hbb⟩
        have hb1 := (hb.trans (hka.below (by first | exact hb.size | (rw [← hB]; exact hb.size)) fun _ q => q.elim))
        replace hb := hb1.trans (hbb.mono (by first | exact hb1.size | (rw [← hB]; exact hb1.size)))
        have HO1 := Pin.Aside.mk (ownE_keep (ownE_keep HO.out hka fun _ _ => id) (Keep.of_below (S := fun _ => False) hbb fun _ q _ => q) fun _ _ => id)
        clear hbb hka hb1 HO c0 c1 c2 c3 c4 c5 c6 c7 c8 c9 c10 hO Hm
        generalize hX : e.own = X at *
        have hPl : lgPlaced base k (e, own) = { X with index := base + k + 1 } := by unfold lgPlaced; rw [← hX]
        rw [hPl] at Hst
        clear hX hPl
        have hka := (Keep.refl (fun _ => False) w1).alloc (.cells X.cells 32)
        have HE2 := Pin.Aside.mk (EnAt.new w1 32 X)
        have HR2 := Pin.Aside.mk (RowOk.new w1 32 X)
        have Hl := Pin.Aside.mk (mk_level X (w1.alloc (.cells X.cells 32)))
        have HO2 := Pin.Aside.mk (ownE_keep HO1.out hka fun _ _ => id)
        have hb2 := hb.trans (hka.below (by first | exact hb.size | (rw [← hB]; exact hb.size)) fun _ q => q.elim)
        have HG := Pin.Aside.mk (fun g (hg : _ = some g) => (HO1.out.lt g hg).2)
        have HBE := Pin.Aside.mk (show B ≤ w1.heap.size by first | exact hb.size | (rw [← hB]; exact hb.size))
        clear HO1 hka hb
        obtain ⟨lv, hlv, hlv2⟩ : ∃ lv : Int, (if X.kind = 11 then (2 : Int) else 1) = lv ∧ lv ≤ 2 := ⟨_, rfl, by split <;> omega⟩
        rw [hlv] at Hl
        clear hlv
        obtain ⟨xterm, xindex, xkind, xclient, xseq, xblock, xmany, xnode, xlevel, xdata, xold⟩ := X
        dsimp only [En.cells] at *
        go_upto_region 8 with fail
        generalize hw2 : World.alloc w1 _ = w2 at *
        generalize w1.heap.size = E at *
        clear hw2
        obtain ⟨x0, x1, x2, x3, x4, x5, x6, x7, x8, x9, x10⟩ := HE2.out
        dsimp only at x0 x1 x2 x3 x4 x5 x6 x7 x8 x9 x10
        simp only [Nat.zero_add] at x0 x1 x2 x3 x4 x5 x6 x7 x8 x9 x10
        go_wp2_with fail
        refine (Hl.out).mono ?_
        rintro x w3 ⟨rfl, hbb⟩
        have hkk : Keep (fun _ => False) w2 w3 := Keep.of_below hbb fun _ q _ => q
        have hb3 := hb2.trans (hbb.mono (by first | exact hb2.size | (rw [← hB]; exact hb2.size)))
        have HO3 := Pin.Aside.mk (ownE_keep HO2.out hkk fun _ _ => id)
        have HE3 := HE2.out.keep hkk id
        obtain ⟨⟨y1, n1⟩, f1⟩ := (HR2.out.keep hkk id) 1 (by omega)
        clear x0 x1 x2 x3 x4 x5 x6 x7 x8 x9 x10 hbb hkk HO2 HE2 HR2 Hl hb2
        have hw1 : IntKind.u64.wrap (base + (k : Int)) = base + k := by rw [IntKind.wrap_u64]; omega
        have hw2 : IntKind.u64.wrap (base + (k : Int) + 1) = base + k + 1 := by rw [IntKind.wrap_u64]; omega
        have hks := (Keep.refl (fun b => b = E) w3).setCell (p := ⟨E, 1, none⟩) (.inl rfl) (.int .u64 (base + k + 1))
        have HE4 := HE3.set (e' := ⟨xterm, base + k + 1, xkind, xclient, xseq, xblock, xmany, xnode, xlevel, xdata, xold⟩) 1 (by omega) (.int .u64 (base + k + 1)) rfl
        have HO4 := Pin.Aside.mk (ownE_keep HO3.out hks fun g hg q => by have := HG.out g hg; omega)
        have hb4 := hb3.trans (hks.below (by first | exact hb3.size | (rw [← hB]; exact hb3.size)) fun q h => by rw [h]; exact HBE.out)
        have HX4 := Pin.Aside.mk HE4
        clear hks HE4 HE3 HO3 hb3
        go_upto_region 11 with fail
        generalize World.setCell w3 _ _ = w4 at *
        clear n1 f1 hw1 hw2 HG HBE
        obtain ⟨x0, x1, x2, x3, x4, x5, x6, x7, x8, x9, x10⟩ := HX4.out
        dsimp only at x0 x1 x2 x3 x4 x5 x6 x7 x8 x9 x10
        try simp only [Nat.zero_add] at x0 x1 x2 x3 x4 x5 x6 x7 x8 x9 x10
        have hnew : (w4.alloc (.cells #[.int .u64 xterm, .int .u64 (base + k + 1), .int .i64 xkind, .int .u64 xclient, .int .u64 xseq, .int .u64 xblock, .int .u64 xmany, .int .i64 xnode, .int .i64 xlevel, .string xdata, .string xold] 32)).heap[w4.heap.size]? = some (.cells #[.int .u64 xterm, .int .u64 (base + k + 1), .int .i64 xkind, .int .u64 xclient, .int .u64 xseq, .int .u64 xblock, .int .u64 xmany, .int .i64 xnode, .int .i64 xlevel, .string xdata, .string xold] 32) := Go.heap_alloc_new w4 _
        have hka := (Keep.refl (fun _ => False) w4).alloc (.cells #[.int .u64 xterm, .int .u64 (base + k + 1), .int .i64 xkind, .int .u64 xclient, .int .u64 xseq, .int .u64 xblock, .int .u64 xmany, .int .i64 xnode, .int .i64 xlevel, .string xdata, .string xold] 32)
        have hown := ownE_keep HO4.out hka fun _ _ => id
        have hsz := hb4.size
        go_wp2_with (at_builtin; refine wpList_append_lies _ rfl _ _ _ rfl B 32 i0 _ 11 104 Try.underlying25 hi hz0 hzs hzb rfl (by omega) _ Y.length (enCells Y) rfl hown ⟨w4.heap.size, 0, none⟩ 1 1 [.int .u64 xterm, .int .u64 (base + k + 1), .int .i64 xkind, .int .u64 xclient, .int .u64 xseq, .int .u64 xblock, .int .u64 xmany, .int .i64 xnode, .int .i64 xlevel, .string xdata, .string xold] rfl rfl (World.news_of_block (cs := #[.int .u64 xterm, .int .u64 (base + k + 1), .int .i64 xkind, .int .u64 xclient, .int .u64 xseq, .int .u64 xblock, .int .u64 xmany, .int .i64 xnode, .int .i64 xlevel, .string xdata, .string xold]) (t := 32) (fr := (0, 0)) hnew) (by simp [Value.oneCell']) (by omega) (by have := hll.out; unfold maxLen; omega) (by have := hll.out; omega) (by simp; omega) _ rfl ?_)
        intro g cap w5 hown5 hgrow hat hlt5
        have hb5 := (hb4.trans (hka.below (by omega) fun _ q => q.elim)).grown hgrow (by simp; omega) (fun q hq => (hown.lt q hq).1)
        have HO5 := Pin.Aside.mk (ownE_snoc (w := w5) (N := B) (T := 32) (g := g) (cap := cap) (L := Y) (e := ⟨xterm, base + k + 1, xkind, xclient, xseq, xblock, xmany, xnode, xlevel, xdata, xold⟩) hown5)
        clear x0 x1 x2 x3 x4 x5 x6 x7 x8 x9 x10 hown hown5 hgrow hnew hka hat hlt5 hb4 HO4 HX4
        go_wp2_with fail
        go_roundw
        case rel => exact ⟨k + 1, by omega, by omega, by go_num, hb5, Pin.Aside.mk (by rw [Hst.out]; exact HO5.out)⟩
        case measure => simp [intOf]; omega
      · have hk2 : k = most := by omega
        subst hk2
        go_wp2_with fail
        go_ret
        exact ⟨⟨_, rfl, HO.out⟩, hb⟩
    · have hk2 : k = n := by omega
      subst hk2
      have hfin : M.take k = M.take most := by rw [List.take_of_length_le (by omega), List.take_of_length_le (by omega)]
      rw [hfin] at HO
      go_wp2_with fail
      go_ret
      exact ⟨⟨_, rfl, HO.out⟩, hb⟩
end Go.Proofs.Ythlmigbimeldbaa
