/- Gossip: what calls are as rows. -/
import Derived.Test.YtfnnmkjlokjkhaaGSC
import Derived.Test.YtfnnmkjlokjkhaaEL
set_option linter.unusedSimpArgs false
set_option linter.unusedVariables false
namespace Go.Proofs.Ytfnnmkjlokjkhaa
open Go Go.SY
namespace GS
def actR (r : (Int × Int × Int) × (Int × Unit)) : List AV := [.v (.int .i64 r.1.1), .v (.int .i64 r.1.2.1), .v (.int .i64 r.1.2.2), .v (.int .i64 r.2.1)]
theorem actR_flat (z : List ((Int × Int × Int) × (Int × Unit))) : FlatR (z.map actR) := FlatR.of fun r hr => by
  obtain ⟨t, -, rfl⟩ := List.mem_map.1 hr
  rfl
theorem actR_at {z : List ((Int × Int × Int) × (Int × Unit))} (h : ∀ r ∈ z, (inK .i64 r.1.1 = true ∧ inK .i64 r.1.2.1 = true ∧ inK .i64 r.1.2.2 = true) ∧ inK .i64 r.2.1 = true ∧ True) :
    ∀ i, i < (z.map actR).length → ∃ a b c d : Int, (z.map actR)[i]?.getD [] = [.v (.int .i64 a), .v (.int .i64 b), .v (.int .i64 c), .v (.int .i64 d)] ∧ -9223372036854775808 ≤ d ∧ d ≤ 9223372036854775807 := fun i hi => by
  rw [List.length_map] at hi
  have hk := (h z[i] (List.getElem_mem hi)).2.1
  simp only [inK, Bool.and_eq_true, decide_eq_true_eq] at hk
  exact ⟨_, _, _, _, by rw [List.getElem?_map, List.getElem?_eq_getElem hi]; rfl, hk.1, hk.2⟩
end GS
end Go.Proofs.Ytfnnmkjlokjkhaa
