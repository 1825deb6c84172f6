/- Journals: the contract of Open; the tables. -/
import Derived.Test.YtlhjbjpcnncndaaJW5
set_option linter.unusedSimpArgs false
set_option linter.unusedVariables false
namespace Go.Proofs.Ytlhjbjpcnncndaa
open Go Go.SY
namespace JW
open DW
theorem layO_ok (s : DS) (rs : List (List AV)) (h : FlatR rs) : okBls (layO s rs).length (layO s rs) = true := by
  obtain ⟨l, f, x, xf, room, n, u, out⟩ := s
  cases u <;> (simp [layO, fuL, fu5, okBls, lvCt, lvB, h.lv, lvE]; and_intros <;> rfl)
theorem opR_isB (s : DS) : (opR s).2.2.all isB = true := by
  unfold opR
  split
  · exact jRw_isB (rwN_all _)
  · exact rwN_all _
theorem opL_len (s : DS) : 1 ≤ (opL s).length := by
  unfold opL
  split
  · simp [layD]
  · split
    · simp [layO]
    · simp [layD]
theorem opL_ok (s : DS) : lvB (opL s).length false (opV s) = true ∧ okBls (opL s).length (opL s) = true := by
  unfold opL opV
  split
  · exact ⟨rfl, layD_ok _⟩
  · split
    · exact ⟨by simp [lvB, lvL, layO], layO_ok _ _ (isB_flat (opR_isB s))⟩
    · exact ⟨rfl, layD_ok _⟩
theorem jopen_word {s : DS} (h : numJ s [] = true) : Word Try.prog (plOf pls) 14 [.ptr 0 0 9 0] (layD s) (ObQ 1 (opV s) (opL s)) := by
  obtain ⟨l, f, x, xf, room, n, u, out⟩ := s
  cases u with
  | none => exact jopen_n l f x xf room n out h
  | some w => exact jopen_s l f x xf room n w out h
def osOp : OSpec := fun args bl => match args with
  | [.ptr l 0 9 0] => (match findD bl l with
    | some (v1, σ, s) => some (v1 && numJ s [], σ, [.ptr 0 0 9 0], layD s, opV s, opL s)
    | none => none)
  | _ => none
theorem osOp_ok : ObjOk Try.prog (plOf pls) 14 1 osOp := by
  intro args bl σ args0 bl0 r1 bl1 hs
  unfold osOp at hs
  split at hs
  · rename_i l
    split at hs
    · rename_i v1 σ' s e
      simp only [Option.some.injEq, Prod.mk.injEq, Bool.and_eq_true] at hs
      obtain ⟨⟨rfl, h1⟩, rfl, rfl, rfl, rfl, rfl⟩ := hs
      obtain ⟨a1, a2, a3, a4, a5, a6⟩ := findD_ok e
      exact ⟨jopen_word h1, ⟨_, ⟨_, _, rfl, .inl ⟨by simp [ren, a6], by simp [lvB]; omega⟩, rfl⟩, fun _ _ h => h⟩, a1, a2, a3, a4, a5, opL_len s, (opL_ok s).1, (opL_ok s).2⟩
    · cases hs
  · cases hs
def kAll (K : KT) : KT := kJ (ktO 14 1 osOp (kDj K))
theorem kAll_ok {K : KT} (hK : KOk Try.prog (plOf pls) K) : KOk Try.prog (plOf pls) (kAll K) := kJ_ok (ktO_ok plsOk (kDj_ok hK) ⟨_, fi14⟩ osOp_ok)
end JW
end Go.Proofs.Ytlhjbjpcnncndaa
