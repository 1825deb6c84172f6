/- Manifests: a digest. -/
import Derived.Test.YtipahnpijmplhaaM0
set_option linter.unusedSimpArgs false
set_option linter.unusedVariables false
namespace Go.Proofs.Ytipahnpijmplhaa
open Go Go.SY
def sum2 : List Int := [199, 155, 147, 46, 30, 29, 163, 192, 224, 152, 229, 173, 44, 66, 41, 55, 235, 144, 74, 118, 207, 97, 216, 57, 117, 167, 74, 104, 251, 176, 75, 153]
set_option maxRecDepth 1000000 in
theorem sum_run2 : runA Try.prog (fun _ => none) pls 60000 38 [.imn true .u8 [1, 3] (some 2)] = some (.ch 32 .u8 sum2) := by kernel_rfl
end Go.Proofs.Ytipahnpijmplhaa
