/- Manifests: the examples. -/
import Derived.Test.YtipahnpijmplhaaM1
import Derived.Test.YtipahnpijmplhaaM2
import Derived.Test.YtipahnpijmplhaaM3
set_option linter.unusedSimpArgs false
set_option linter.unusedVariables false
namespace Go.Proofs.Ytipahnpijmplhaa
open Go Go.SY
def sSum : List AV → Option (Bool × AV × Bls)
  | [.imn true .u8 [1, 2] (some 2)] => some (true, .ch 32 .u8 sum0, [])
  | [.imn true .u8 [1, 3] (some 2)] => some (true, .ch 32 .u8 sum2, [])
  | [.imn true .u8 [] (some 0)] => some (true, .ch 32 .u8 sum1, [])
  | _ => none
theorem sum_ok : SpecOk Try.prog (plOf pls) 38 sSum := by
  refine ⟨_, fi38, fun args r bl1 h => ?_⟩
  unfold sSum at h
  split at h
  · simp only [Option.some.injEq, Prod.mk.injEq, true_and] at h
    obtain ⟨rfl, rfl⟩ := h
    exact runA_word plsOk noK fi38 sum_run0 rfl
  · simp only [Option.some.injEq, Prod.mk.injEq, true_and] at h
    obtain ⟨rfl, rfl⟩ := h
    exact runA_word plsOk noK fi38 sum_run2 rfl
  · simp only [Option.some.injEq, Prod.mk.injEq, true_and] at h
    obtain ⟨rfl, rfl⟩ := h
    exact ⟨by simp, fun C hC _ => sum_nil C hC⟩
  · cases h
def kM0 : KT := ktOf [(38, sSum)]
theorem kM0_ok : KOk Try.prog (plOf pls) kM0 := ktOf_ok plsOk fun x hx => by
  simp only [List.mem_cons, List.not_mem_nil, or_false] at hx
  rcases hx with rfl
  exact sum_ok
def kM : KT := ktX [(88, xIndexByteString)] kM0
theorem kM_ok : KOk Try.prog (plOf pls) kM := ktX_ok kM0_ok fun x hx => by
  simp only [List.mem_singleton] at hx
  subst hx
  exact indexByteString_ok Try.func88 (by kernel_rfl) rfl (by kernel_rfl) (by kernel_rfl)
end Go.Proofs.Ytipahnpijmplhaa
