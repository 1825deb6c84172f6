/-
  The symbolic machine: a word for a closed call (its arguments told).
-/
import Derived.Test.YtmdepmhamefheaaSy41
set_option linter.unusedSimpArgs false
set_option linter.unusedVariables false
namespace Go.SY
open Go Go.RowKit
theorem runA_word {P : Program} {T : Pls} {K : KT} (hpl : PlOk P (plOf T)) (hK : KOk P (plOf T) K) {g : FuncId} {F : FI} (hF : fi P g = some F) {n : Nat} {args : List AV} {r : AV} (hr : runA P K T n g args = some r) (he : r = ren (nm []) r) :
    args.length ≤ F.n ∧ ∀ C : Ctx, C.β.b = [] → C.bl = [] → Rch P (plOf T) C (conf0 g F args []) (Res r []) := by
  unfold runA at hr
  rw [hF] at hr
  dsimp only at hr
  split at hr
  · rename_i hn
    split at hr
    · rename_i r' bl' e
      obtain rfl := Option.some.inj hr
      rw [runQ_eq] at e
      exact ⟨of_decide_eq_true hn, fun C _ _ => runK_ok hpl hK ⟨[], List.nodup_nil, rfl, he, fun l c h => by simp at h⟩ e⟩
    · cases hr
  · cases hr
/-- A closed rest of a run, its end looked at. -/
def runT (P : Program) (K : KT) (pl : FuncId → Nat → Option Plan) (tst : AV → Bool) (n : Nat) (c : Conf) : Bool := match runQ P K pl n c with
  | some (r, _) => tst r
  | none => false
theorem runT_ok {P : Program} {K : KT} {pl : FuncId → Nat → Option Plan} (hpl : PlOk P pl) (hK : KOk P pl K) {tst : AV → Bool} {C : Ctx} {S : AV → Bls → Prop} (hS : ∀ r bl, tst r = true → S r bl) {n : Nat} {c : Conf} (h : runT P K pl tst n c = true) : Rch P pl C c S := by
  unfold runT at h
  split at h
  · rename_i r bl e
    rw [runQ_eq] at e
    exact runK_ok hpl hK (hS r bl h) e
  · cases h
end Go.SY
