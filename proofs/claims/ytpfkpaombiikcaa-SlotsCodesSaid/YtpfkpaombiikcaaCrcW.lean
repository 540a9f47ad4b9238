/- What the functions of package crc compute. -/
import Derived.Test.YtpfkpaombiikcaaProg
import Derived.Test.YtpfkpaombiikcaaBase
import Derived.Test.YtpfkpaombiikcaaCrcM
set_option maxRecDepth 16000
namespace Go.Proofs.Ytpfkpaombiikcaa
set_option linter.unusedVariables false
set_option linter.unusedSimpArgs false
open Go.RowKit Go.Pin

theorem crc_mf : ∀ (fn : Fn) (first cap : Array Value) (w : World), (Instr.makeFunc fn first cap).run Try.prog w = .ok (.func fn first cap) w := fun _ _ _ _ => rfl

end Go.Proofs.Ytpfkpaombiikcaa
