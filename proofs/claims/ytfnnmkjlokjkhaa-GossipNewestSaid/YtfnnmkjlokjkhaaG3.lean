/- GossipKnown, GossipNone: their runs. -/
import Derived.Test.YtfnnmkjlokjkhaaG2
set_option linter.unusedSimpArgs false
set_option linter.unusedVariables false
namespace Go.Proofs.Ytfnnmkjlokjkhaa
open Go Go.SY
set_option maxRecDepth 100000 in
theorem awake_run : runX Try.prog kDel pls pts [] 5000 10 [] = true := by kernel_rfl
set_option maxRecDepth 100000 in
theorem known_run : runX Try.prog kDel pls pts [] 8000 5 [] = true := by kernel_rfl
def kAwake : KT := fun g => if 10 = g then some (conK specT) else kDel g
theorem kAwake_ok : KOk Try.prog (plOf pls) kAwake := ktW_ok kDel_ok (conK_ok plsOk (spec_true plsOk kDel_ok awake_run))
set_option maxRecDepth 100000 in
theorem none_run (a b c n : Int) : runX Try.prog kAwake pls pts [] 3000 4 [.agg [.v (.int .i64 a), .v (.int .i64 b), .v (.int .i64 c)], .v (.int .i64 n)] = true := by kernel_rfl
end Go.Proofs.Ytfnnmkjlokjkhaa
