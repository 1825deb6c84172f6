/- Manifests: a digest. -/
import Derived.Test.YtipahnpijmplhaaM0
set_option linter.unusedSimpArgs false
set_option linter.unusedVariables false
namespace Go.Proofs.Ytipahnpijmplhaa
open Go Go.SY
def sum0 : List Int := [161, 40, 113, 254, 226, 16, 251, 134, 25, 41, 30, 174, 161, 148, 88, 28, 189, 37, 49, 228, 178, 55, 89, 210, 37, 246, 128, 105, 35, 246, 50, 34]
set_option maxRecDepth 1000000 in
theorem sum_run0 : runA Try.prog (fun _ => none) pls 60000 38 [.imn true .u8 [1, 2] (some 2)] = some (.ch 32 .u8 sum0) := by kernel_rfl
end Go.Proofs.Ytipahnpijmplhaa
