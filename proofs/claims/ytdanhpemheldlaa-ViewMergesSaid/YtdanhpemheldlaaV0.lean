/- The view's awake: its word. -/
import Derived.Test.YtdanhpemheldlaaI1
set_option linter.unusedSimpArgs false
set_option linter.unusedVariables false
namespace Go.Proofs.Ytdanhpemheldlaa
open Go Go.SY
set_option maxRecDepth 100000 in
theorem awake_run : runX Try.prog kIns pls pts [] 6000 9 [] = true := by kernel_rfl
def kAwake : KT := fun g => if 9 = g then some (conK specT) else kIns g
theorem kAwake_ok : KOk Try.prog (plOf pls) kAwake := ktW_ok kIns_ok (conK_ok plsOk (spec_true plsOk kIns_ok awake_run))
end Go.Proofs.Ytdanhpemheldlaa
