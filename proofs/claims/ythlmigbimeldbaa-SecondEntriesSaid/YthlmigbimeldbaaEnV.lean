/- entry.fit: what is there may be, and what may be is right. -/
import Derived.Test.YthlmigbimeldbaaEnU
set_option maxRecDepth 16000
namespace Go.Proofs.Ythlmigbimeldbaa
open Go.RowKit Go.Pin
set_option linter.unusedVariables false
set_option linter.unusedSimpArgs false
set_option maxHeartbeats 1600000 in
theorem en_fitF (s : ByteArray) (A n : Nat) (L : List (UInt8 × Bool × Bool)) (hn : L.length = n) (hn2 : n ≤ 1000) (w : World) (hF : FieldsAt w A L) :
    Calls Try.prog 80 #[.string s, .slice (some ⟨A, 0, none⟩) n n] w fun e w' => e = .returned (.bool (!L.any (enBad s))) ∧ Below w.heap.size w w' := by
  have hk := (Keep.refl (fun _ => False) w).alloc (.cells #[.string s] 9)
  have hb := hk.below (Nat.le_refl _) fun _ q => q.elim
  have hM : (w.alloc (.cells #[.string s] 9)).cell? ⟨w.heap.size, 0, none⟩ = some (.string s) := by rw [World.cell?_alloc_new]; rfl
  have Hc := Pin.Aside.mk (en_anyF s A w.heap.size n L hn hn2 _ (hF.keep hk id) hM)
  clear hF hk hM
  go_enter Try.func80, Try.ntmps80
  go_wp2_with fail
  refine Hc.out.mono ?_
  rintro e w1 ⟨rfl, hbb⟩
  replace hb := hb.trans (hbb.mono hb.size)
  clear hbb Hc
  go_wp2_with fail
  go_ret
  exact ⟨rfl, hb⟩
end Go.Proofs.Ythlmigbimeldbaa
