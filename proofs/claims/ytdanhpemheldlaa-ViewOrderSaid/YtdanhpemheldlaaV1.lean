/- ViewKnown: its run. -/
import Derived.Test.YtdanhpemheldlaaV0
set_option linter.unusedSimpArgs false
set_option linter.unusedVariables false
namespace Go.Proofs.Ytdanhpemheldlaa
open Go Go.SY
set_option maxRecDepth 100000 in
theorem known_run : runX Try.prog kAwake pls pts [] 20000 5 [] = true := by kernel_rfl
end Go.Proofs.Ytdanhpemheldlaa
