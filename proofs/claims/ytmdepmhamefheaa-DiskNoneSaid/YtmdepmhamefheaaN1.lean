/- DiskNone: its run, whatever its inputs are. -/
import Derived.Test.YtmdepmhamefheaaPl
import Derived.Test.YtmdepmhamefheaaFn
import Derived.Test.YtmdepmhamefheaaSy32
import Derived.KernelRfl
set_option linter.unusedSimpArgs false
set_option linter.unusedVariables false
namespace Go.Proofs.Ytmdepmhamefheaa
open Go Go.SY
theorem plsOkN : PlOk Try.prog (plOf pls) := plsB_ok (by kernel_rfl) (by kernel_rfl)
theorem noKN : KOk Try.prog (plOf pls) (fun _ => none) := fun g c h => by cases h
set_option maxRecDepth 100000 in
theorem none_run (xs : List Int) (c : Option Nat) (n : Int) : runA Try.prog (fun _ => none) pls 8000 7 [.imn false .u8 xs c, .v (.int .i64 n)] = some (.v (.bool true)) := by kernel_rfl
end Go.Proofs.Ytmdepmhamefheaa
