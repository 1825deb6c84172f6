/- JournalKnown: its closed run. -/
import Derived.Test.YtlhjbjpcnncndaaC2
set_option linter.unusedSimpArgs false
set_option linter.unusedVariables false
namespace Go.Proofs.Ytlhjbjpcnncndaa
open Go Go.SY
def kTab : KT := ktOf [(57, fun args => match args with
      | [] => some (true, .ch 256 .u32 crcTab, [])
      | _ => none)]
theorem kTab_ok : KOk Try.prog (plOf pls) kTab := ktOf_ok plsOk fun x hx => by
  simp only [List.mem_singleton] at hx
  subst hx
  exact table_ok


set_option maxRecDepth 100000 in
theorem known_run : runG Try.prog kTab pls 20000 4 = some true := by kernel_rfl
end Go.Proofs.Ytlhjbjpcnncndaa
