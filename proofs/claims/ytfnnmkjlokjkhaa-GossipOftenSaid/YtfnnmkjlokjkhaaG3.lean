/- GossipKnown, GossipNone: their runs. -/
import Derived.Test.YtfnnmkjlokjkhaaG2
set_option linter.unusedSimpArgs false
set_option linter.unusedVariables false
namespace Go.Proofs.Ytfnnmkjlokjkhaa
open Go Go.SY
set_option maxRecDepth 100000 in
theorem awake_run : runX Try.prog kDel pls pts [] 5000 10 [] = true := by kernel_rfl
set_option maxRecDepth 100000 in
theorem known_run : runX Try.prog kDel pls pts [] 8000 5 [] = true := by kernel_rfl
end Go.Proofs.Ytfnnmkjlokjkhaa
