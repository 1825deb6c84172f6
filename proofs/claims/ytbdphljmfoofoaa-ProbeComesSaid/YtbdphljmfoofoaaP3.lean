/- Probe's awake: its word. -/
import Derived.Test.YtbdphljmfoofoaaP2
set_option linter.unusedSimpArgs false
set_option linter.unusedVariables false
namespace Go.Proofs.Ytbdphljmfoofoaa
open Go Go.SY
set_option maxRecDepth 100000 in
theorem awake_run : runX Try.prog kDel pls pts [] 5000 16 [] = true := by kernel_rfl
def kAwake : KT := fun g => if 16 = g then some (conK specT) else kDel g
theorem kAwake_ok : KOk Try.prog (plOf pls) kAwake := ktW_ok kDel_ok (conK_ok plsOk (spec_true plsOk kDel_ok awake_run))
end Go.Proofs.Ytbdphljmfoofoaa
