/-
  The symbolic machine: a word for a closed call (its arguments told).
-/
import Derived.Test.YtconldbakjfbhaaSy41
set_option linter.unusedSimpArgs false
set_option linter.unusedVariables false
namespace Go.SY
open Go Go.RowKit
theorem runA_word {P : Program} {T : Pls} {K : KT} (hpl : PlOk P (plOf T)) (hK : KOk P (plOf T) K) {g : FuncId} {F : FI} (hF : fi P g = some F) {n : Nat} {args : List AV} {r : AV} (hr : runA P K T n g args = some r) (he : r = ren (nm []) r) :
    args.length ≤ F.n ∧ ∀ C : Ctx, C.β.b = [] → C.bl = [] → Rch P (plOf T) C (conf0 g F args []) (Res r []) := by
  unfold runA at hr
  rw [hF] at hr
  dsimp only at hr
  split at hr
  · rename_i hn
    split at hr
    · rename_i r' bl' e
      obtain rfl := Option.some.inj hr
      rw [runQ_eq] at e
      exact ⟨of_decide_eq_true hn, fun C _ _ => runK_ok hpl hK ⟨[], List.nodup_nil, rfl, he, fun l c h => by simp at h⟩ e⟩
    · cases hr
  · cases hr
end Go.SY
