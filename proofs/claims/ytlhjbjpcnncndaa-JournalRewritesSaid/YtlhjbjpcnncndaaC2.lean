/- crc.table: its word. -/
import Derived.Test.YtlhjbjpcnncndaaC1
set_option linter.unusedSimpArgs false
set_option linter.unusedVariables false
namespace Go.Proofs.Ytlhjbjpcnncndaa
open Go Go.SY
def kOn : KT := ktOf [(58, sOn)]
theorem kOn_ok : KOk Try.prog (plOf pls) kOn := ktOf_ok plsOk fun x hx => by
  simp only [List.mem_singleton] at hx
  subst hx
  exact on_ok
def crcTab : List Int := (List.range 256).map fun i => ((crcB 8 i : Nat) : Int)
set_option maxRecDepth 100000 in
theorem table_run : runV Try.prog kOn pls 20000 57 = some (.ch 256 .u32 crcTab) := by kernel_rfl
theorem table_ok : SpecOk Try.prog (plOf pls) 57 (fun args => match args with
      | [] => some (true, .ch 256 .u32 crcTab, [])
      | _ => none) := spec_val plsOk kOn_ok table_run rfl
end Go.Proofs.Ytlhjbjpcnncndaa
