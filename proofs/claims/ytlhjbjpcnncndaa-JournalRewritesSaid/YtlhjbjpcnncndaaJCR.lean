/- Records that are handed in. -/
import Derived.Test.YtlhjbjpcnncndaaJC2
set_option linter.unusedSimpArgs false
set_option linter.unusedVariables false
namespace Go.Proofs.Ytlhjbjpcnncndaa
open Go Go.SY
def rwC (r : List Int × Nat) : List AV := [.imn false .u8 r.1 (some r.2)]
theorem rwC_all (ms : List (List Int × Nat)) : (ms.map rwC).all isB = true := List.all_eq_true.2 fun r hr => by
  obtain ⟨x, _, rfl⟩ := List.mem_map.1 hr
  rfl
theorem rwC_ok {ms : List (List Int × Nat)} (h : ∀ r ∈ ms, okN .u8 r.1 ∧ r.1.length ≤ r.2 ∧ r.2 ≤ maxLen) : ∀ x ∈ bys (ms.map rwC), okN .u8 x := fun x hx => by
  rw [bys, List.map_map] at hx
  obtain ⟨r, hr, rfl⟩ := List.mem_map.1 hx
  exact (h r hr).1
end Go.Proofs.Ytlhjbjpcnncndaa
