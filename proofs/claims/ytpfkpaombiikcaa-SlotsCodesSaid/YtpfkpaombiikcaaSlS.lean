/- slots: a super near to what may be. -/
import Derived.Test.YtpfkpaombiikcaaSlF
set_option maxRecDepth 16000
namespace Go.Pin
open Go.RowKit
set_option linter.unusedVariables false
set_option linter.unusedSimpArgs false
def Sup.near (s : Sup) : Sup := ⟨s.v.tmod 4, s.snap.tmod 1003, s.log.tmod 1003, s.area.tmod 3, s.half.tmod 3, s.goal.tmod 4, s.step.tmod 11⟩
end Go.Pin
namespace Go.Proofs.Ytpfkpaombiikcaa
open Go.RowKit Go.Pin
set_option linter.unusedVariables false
set_option linter.unusedSimpArgs false
set_option maxHeartbeats 1600000 in
theorem slots_small (v snap log area half goal step : Int) (w : World) : Calls Try.prog 7 #[.agg #[.int .i64 v, .int .i64 snap, .int .i64 log, .int .i64 area, .int .i64 half, .int .i64 goal, .int .i64 step]] w fun e w' => e = .returned (.agg #[.int .i64 (v.tmod 4), .int .i64 (snap.tmod 1003), .int .i64 (log.tmod 1003), .int .i64 (area.tmod 3), .int .i64 (half.tmod 3), .int .i64 (goal.tmod 4), .int .i64 (step.tmod 11)]) ∧ Below w.heap.size w w' := by
  have hz : (w.alloc (.cells #[.int .i64 v, .int .i64 snap, .int .i64 log, .int .i64 area, .int .i64 half, .int .i64 goal, .int .i64 step] 23)).heap.size = w.heap.size + 1 := by simp
  have hn := SevenAt.new (w.alloc (.cells #[.int .i64 v, .int .i64 snap, .int .i64 log, .int .i64 area, .int .i64 half, .int .i64 goal, .int .i64 step] 23)) ⟨(v.tmod 4), (snap.tmod 1003), (log.tmod 1003), (area.tmod 3), (half.tmod 3), (goal.tmod 4), (step.tmod 11)⟩ 23
  rw [hz] at hn
  unfold sevenO at hn
  dsimp only at hn
  have hb := ((Below.refl w.heap.size w).alloc (Nat.le_refl _) (.cells #[.int .i64 v, .int .i64 snap, .int .i64 log, .int .i64 area, .int .i64 half, .int .i64 goal, .int .i64 step] 23)).alloc (by simp) (.cells #[.int .i64 (v.tmod 4), .int .i64 (snap.tmod 1003), .int .i64 (log.tmod 1003), .int .i64 (area.tmod 3), .int .i64 (half.tmod 3), .int .i64 (goal.tmod 4), .int .i64 (step.tmod 11)] 23)
  have Hn := Pin.Aside.mk hn
  have Hb := Pin.Aside.mk hb
  clear hn hb
  go_enter Try.func7, Try.ntmps7
  go_wp2_with fail
  obtain ⟨c0, c1, c2, c3, c4, c5, c6⟩ := Hn.out
  dsimp only at c0 c1 c2 c3 c4 c5 c6
  refine bodyPost_ret (v := .agg #[.int .i64 (v.tmod 4), .int .i64 (snap.tmod 1003), .int .i64 (log.tmod 1003), .int .i64 (area.tmod 3), .int .i64 (half.tmod 3), .int .i64 (goal.tmod 4), .int .i64 (step.tmod 11)]) (by simp [results, Try.results7, go_sem, *]) rfl ?_
  exact ⟨rfl, Hb.out⟩
end Go.Proofs.Ytpfkpaombiikcaa
