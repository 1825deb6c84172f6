/-
  The symbolic machine: code under names, unfolded where it is to be run.
-/
import Derived.Test.YtmdepmhamefheaaSy39
set_option linter.unusedSimpArgs false
set_option linter.unusedVariables false
namespace Go.SY
open Go
theorem exs_cd {c c' : Code} (h : c = c') {P : Program} {K : KT} {pl : FuncId → Nat → Option Plan} {st : List Nat} {n m : Nat} {fn : FuncId} {tm : TM} {k : List SI} {rd : Option Nat} {ms lk : List Nat} {fs : List Fr} {bl : Bls} {S : AV → Bls → Prop} {R : Conf → Prop} :
    ExS P K pl st (n + 1) none ⟨⟨fn, m, tm, .code c :: k, rd, ms, lk⟩ :: fs, bl⟩ S R = ExS P K pl st (n + 1) none ⟨⟨fn, m, tm, .code c' :: k, rd, ms, lk⟩ :: fs, bl⟩ S R := by subst h; rfl
/-- The operations of a region, by the way to it. -/
def regAt : List Nat → Code → Array Oper
  | [], .region _ a _ => a
  | i :: r, .seq x y => (match i with
    | 0 => regAt r x
    | _ => regAt r y)
  | _ :: r, .block _ c => regAt r c
  | _ :: r, .scope c => regAt r c
  | _ :: r, .loop c => regAt r c
  | i :: r, .cond _ x y => (match i with
    | 1 => regAt r x
    | _ => regAt r y)
  | i :: r, .rangeFunc _ _ x y => (match i with
    | 2 => regAt r x
    | _ => regAt r y)
  | _, _ => #[]
end Go.SY
