/- Manifests: the examples, gone through. -/
import Derived.Test.YtipahnpijmplhaaM4
set_option linter.unusedSimpArgs false
set_option linter.unusedVariables false
namespace Go.Proofs.Ytipahnpijmplhaa
open Go Go.SY
set_option maxRecDepth 1000000 in
theorem known_run : runX Try.prog kM pls pts [] 60000 5 [] = true := by kernel_rfl
end Go.Proofs.Ytipahnpijmplhaa
