/- The laws' entries: made, rising, as plain words; pintleref04.Fields, Level. -/
import Derived.Test.YthlmigbimeldbaaEnX
set_option maxRecDepth 16000
namespace Go.Pin
open Go.RowKit
set_option linter.unusedVariables false
set_option linter.unusedSimpArgs false
/-- The first 64 bytes. -/
def cut64 (s : ByteArray) : ByteArray := s.extract 0 (min s.size 64)
def enPut (e : En) (c : UInt8) (o : En) : En :=
  if c = 99 then { o with client := e.client % 5 + 1, seq := e.seq % 9 }
  else if c = 98 then { o with block := e.block % 9 }
  else if c = 109 then { o with many := e.many % 9 }
  else if c = 110 then { o with node := e.node % 18446744073709551616 % 7 + 1 }
  else if c = 108 then { o with level := e.level % 18446744073709551616 % 2 + 1 }
  else if c = 100 then { o with data := cut64 e.data }
  else if c = 111 then { o with old := cut64 e.old }
  else o
def enKind (k : Int) : Int := if k.tmod 12 < 0 then k.tmod 12 + 12 else k.tmod 12
def enStart (e : En) : En := { En.zero with term := e.term % 1000 + 1, index := e.index % 1000 + 1, kind := enKind e.kind }
def En.own (e : En) : En := (enF (enKind e.kind)).1.data.toList.foldl (fun o c => enPut e c o) (enStart e)
def En.made (e : En) (own : Bool) : En := if own = true then e.own else e
theorem enKind_in (k : Int) : 0 ≤ enKind k ∧ enKind k ≤ 11 := by
  unfold enKind
  have h1 := Int.tmod_lt_of_pos k (show (0 : Int) < 12 by omega)
  have h2 := Int.lt_tmod_of_pos k (show (0 : Int) < 12 by omega)
  split <;> omega
end Go.Pin
namespace Go.Proofs.Ythlmigbimeldbaa
open Go.RowKit Go.Pin
set_option linter.unusedVariables false
set_option linter.unusedSimpArgs false
set_option maxHeartbeats 1600000 in
theorem mk_fields (k : Int) (w : World) : Calls Try.prog 62 #[.int .i64 k] w fun e w' => e = .returned (.tuple #[.string (enF k).1, .bool (enF k).2]) ∧ Below w.heap.size w w' := by
  have hb := Below.refl w.heap.size w
  by_cases h1 : k < 0
  · have HR := Pin.Aside.mk (show enF k = (⟨#[]⟩, false) by
      unfold enF
      rw [if_neg (by omega), if_neg (by omega), if_neg (by omega), if_neg (by omega), if_neg (by omega), if_neg (by omega), if_neg (by omega), if_neg (by omega)])
    go_enter Try.func62, Try.ntmps62
    go_wp2_with fail
    go_ret2
    exact ⟨by rw [HR.out]; rfl, hb⟩
  by_cases h2 : 11 < k
  · have HR := Pin.Aside.mk (show enF k = (⟨#[]⟩, false) by
      unfold enF
      rw [if_neg (by omega), if_neg (by omega), if_neg (by omega), if_neg (by omega), if_neg (by omega), if_neg (by omega), if_neg (by omega), if_neg (by omega)])
    go_enter Try.func62, Try.ntmps62
    go_wp2_with fail
    go_ret2
    exact ⟨by rw [HR.out]; rfl, hb⟩
  have hk := (Keep.refl (fun _ => False) w).alloc (.cells #[.string ⟨#[]⟩, .string ⟨#[99, 98, 100]⟩, .string ⟨#[99, 98, 109]⟩, .string ⟨#[99, 109]⟩, .string ⟨#[99]⟩, .string ⟨#[110]⟩, .string ⟨#[110]⟩, .string ⟨#[110, 108]⟩, .string ⟨#[]⟩, .string ⟨#[]⟩, .string ⟨#[]⟩, .string ⟨#[99, 98, 100, 111]⟩] 9)
  have HB := Pin.Aside.mk (hk.below (Nat.le_refl _) fun _ q => q.elim)
  clear hk hb
  have hc : k = 0 ∨ k = 1 ∨ k = 2 ∨ k = 3 ∨ k = 4 ∨ k = 5 ∨ k = 6 ∨ k = 7 ∨ k = 8 ∨ k = 9 ∨ k = 10 ∨ k = 11 := by omega
  clear h1 h2
  rcases hc with rfl | rfl | rfl | rfl | rfl | rfl | rfl | rfl | rfl | rfl | rfl | rfl
  all_goals
    go_enter Try.func62, Try.ntmps62
    go_wp2_with fail
    go_ret2
    exact ⟨rfl, HB.out⟩
theorem mk_level (e : En) (w : World) : Calls Try.prog 77 #[.agg e.cells] w fun x w' => x = .returned (.int .i64 (if e.kind = 11 then 2 else 1)) ∧ Below w.heap.size w w' := by
  have hk := (Keep.refl (fun _ => False) w).alloc (.cells e.cells 32)
  have hb := hk.below (Nat.le_refl _) fun _ q => q.elim
  have hE := EnAt.new w 32 e
  clear hk
  obtain ⟨term, index, kind, client, seq, block, many, node, level, data, old⟩ := e
  dsimp only [En.cells] at *
  by_cases h : kind = 11
  · subst h
    rw [if_pos rfl]
    go_enter Try.func77, Try.ntmps77
    go_upto_region 1 with fail
    generalize World.alloc _ _ = wa at *
    generalize hB : w.heap.size = B at *
    have c := hE.c2
    dsimp only at c
    try simp only [Nat.zero_add] at c
    clear hE
    go_wp2_with fail
    go_ret
    exact ⟨rfl, by first | exact hb | (rw [hB]; exact hb)⟩
  · rw [if_neg h]
    go_enter Try.func77, Try.ntmps77
    go_upto_region 1 with fail
    generalize World.alloc _ _ = wa at *
    generalize hB : w.heap.size = B at *
    have c := hE.c2
    dsimp only at c
    try simp only [Nat.zero_add] at c
    clear hE
    go_wp2_with fail
    go_ret
    exact ⟨rfl, by first | exact hb | (rw [hB]; exact hb)⟩
end Go.Proofs.Ythlmigbimeldbaa
