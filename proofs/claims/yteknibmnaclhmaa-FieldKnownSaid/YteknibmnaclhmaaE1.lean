/- FieldKnown: contracts. -/
import Derived.Test.YteknibmnaclhmaaPl
import Derived.Test.YteknibmnaclhmaaProg
import Derived.Test.YteknibmnaclhmaaSy30
import Derived.KernelRfl
set_option linter.unusedSimpArgs false
set_option linter.unusedVariables false
namespace Go.Proofs.Yteknibmnaclhmaa
open Go Go.SY
theorem plsOk : PlOk Try.prog (plOf pls) := plsB_ok (by kernel_rfl) (by kernel_rfl)
def kX : KT := ktX [(47, xIndexByteString)] (fun _ => none)
theorem kX_ok : KOk Try.prog (plOf pls) kX := ktX_ok (fun g c h => by cases h) fun x hx => by
  simp only [List.mem_singleton] at hx
  subst hx
  exact indexByteString_ok Try.func47 (by kernel_rfl) rfl (by kernel_rfl) (by kernel_rfl)
end Go.Proofs.Yteknibmnaclhmaa
