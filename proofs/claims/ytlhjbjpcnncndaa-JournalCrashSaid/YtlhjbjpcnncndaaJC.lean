/- JournalCrash: its walk. -/
import Derived.Test.YtlhjbjpcnncndaaJL3
set_option linter.unusedSimpArgs false
set_option linter.unusedVariables false
namespace Go.Proofs.Ytlhjbjpcnncndaa
open Go Go.SY
namespace JC
open DW JW JL
theorem plsOk : PlOk Try.prog (plOf pls) := KB.plsOk
set_option maxRecDepth 100000 in
theorem known_run : runX Try.prog kTab pls pts [] 20000 4 [] = true := by kernel_rfl
def kC0 : KT := ktOf [(4, specT), (19, sFin0), (17, sSam), (20, KB.sPick)]
theorem kC0_ok : KOk Try.prog (plOf pls) kC0 := ktOf_ok plsOk fun x hx => by
  simp only [List.mem_cons, List.not_mem_nil, or_false] at hx
  rcases hx with rfl | rfl | rfl | rfl
  · exact spec_true plsOk kTab_ok known_run
  · exact fine_ok
  · exact same_ok
  · exact KB.pick_ok
def kJC : KT := kAll (ktW 21 (conK sLaid) kC0)
theorem kJC_ok : KOk Try.prog (plOf pls) kJC := kAll_ok (ktW_ok kC0_ok (specW_ok plsOk laid_ok))
def IsT (r : AV) (_ : Bls) : Prop := r = .v (.bool true)
end JC
end Go.Proofs.Ytlhjbjpcnncndaa
