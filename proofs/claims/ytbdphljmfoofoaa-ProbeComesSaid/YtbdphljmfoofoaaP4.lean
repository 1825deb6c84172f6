/- ProbeKnown: its run. -/
import Derived.Test.YtbdphljmfoofoaaP3
set_option linter.unusedSimpArgs false
set_option linter.unusedVariables false
namespace Go.Proofs.Ytbdphljmfoofoaa
open Go Go.SY
set_option maxRecDepth 100000 in
theorem known_run : runX Try.prog kAwake pls pts [] 12000 4 [] = true := by kernel_rfl
end Go.Proofs.Ytbdphljmfoofoaa
