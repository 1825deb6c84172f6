/- Manifests: plans. -/
import Derived.Test.YtipahnpijmplhaaPl
import Derived.Test.YtipahnpijmplhaaFn
import Derived.Test.YtipahnpijmplhaaTi
import Derived.Test.YtipahnpijmplhaaSy42
import Derived.KernelRfl
set_option linter.unusedSimpArgs false
set_option linter.unusedVariables false
namespace Go.Proofs.Ytipahnpijmplhaa
open Go Go.SY
theorem plsOk : PlOk Try.prog (plOf pls) := plsB_ok (by kernel_rfl) (by kernel_rfl)
theorem noK : KOk Try.prog (plOf pls) (fun _ => none) := fun g c h => by cases h
end Go.Proofs.Ytipahnpijmplhaa
