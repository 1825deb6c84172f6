/- JournalCrash: its walk. -/
import Derived.Test.YtlhjbjpcnncndaaJL3
set_option linter.unusedSimpArgs false
set_option linter.unusedVariables false
namespace Go.Proofs.Ytlhjbjpcnncndaa
open Go Go.SY
namespace JC
open DW JW JL
theorem plsOk : PlOk Try.prog (plOf pls) := KB.plsOk
def kC0 : KT := ktOf [(4, specT), (19, sFin0), (17, sSam), (20, KB.sPick)]
def kJC : KT := kAll (ktW 21 (conK sLaid) kC0)
def IsT (r : AV) (_ : Bls) : Prop := r = .v (.bool true)
end JC
end Go.Proofs.Ytlhjbjpcnncndaa
