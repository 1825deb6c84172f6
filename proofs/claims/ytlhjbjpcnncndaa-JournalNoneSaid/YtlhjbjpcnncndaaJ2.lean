/- JournalNone: its run, whatever its input is. -/
import Derived.Test.YtlhjbjpcnncndaaJ1
import Derived.Test.YtlhjbjpcnncndaaSy34
set_option linter.unusedSimpArgs false
set_option linter.unusedVariables false
namespace Go.Proofs.Ytlhjbjpcnncndaa
open Go Go.SY
set_option maxRecDepth 100000 in
theorem none_run (xs : List Int) (c : Option Nat) : runX Try.prog kTab pls pts [0] 20000 3 [.imn false .u8 xs c] = true := by kernel_rfl
end Go.Proofs.Ytlhjbjpcnncndaa
