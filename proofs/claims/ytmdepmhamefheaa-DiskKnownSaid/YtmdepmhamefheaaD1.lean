/- DiskKnown: its closed run. -/
import Derived.Test.YtmdepmhamefheaaPl
import Derived.Test.YtmdepmhamefheaaProg
import Derived.Test.YtmdepmhamefheaaSy29
import Derived.KernelRfl
set_option linter.unusedSimpArgs false
set_option linter.unusedVariables false
namespace Go.Proofs.Ytmdepmhamefheaa
open Go Go.SY
theorem plsOk : PlOk Try.prog (plOf pls) := plsB_ok (by kernel_rfl) (by kernel_rfl)
theorem noK : KOk Try.prog (plOf pls) (fun _ => none) := fun g c h => by cases h
set_option maxRecDepth 100000 in
theorem known_run : runG Try.prog (fun _ => none) pls 4000 4 = some true := by kernel_rfl
end Go.Proofs.Ytmdepmhamefheaa
