/- FieldKnown: its closed run. -/
import Derived.Test.YteknibmnaclhmaaE1
set_option linter.unusedSimpArgs false
set_option linter.unusedVariables false
namespace Go.Proofs.Yteknibmnaclhmaa
open Go Go.SY
set_option maxRecDepth 100000 in
theorem known_run : runG Try.prog kX pls 10000 4 = some true := by kernel_rfl
end Go.Proofs.Yteknibmnaclhmaa
