/-
  The symbolic machine: runs by simp once more, as a thing that the kernel can't unfold (what is left of the steps costs nothing then).
-/
import Derived.Test.YtmdepmhamefheaaSy40
set_option linter.unusedSimpArgs false
set_option linter.unusedVariables false
namespace Go.SY
open Go Go.RowKit
structure ExQ (P : Program) (K : KT) (pl : FuncId → Nat → Option Plan) (st : List Nat) (n : Nat) (o : Option (Bool × Conf)) (c : Conf) (S : AV → Bls → Prop) (R : Conf → Prop) : Prop where
  mk :: (out : ExS P K pl st n o c S R)
/-- An arm behind a split: gone when its turn comes (`rw [exh]`). -/
structure ExH (P : Program) (K : KT) (pl : FuncId → Nat → Option Plan) (st : List Nat) (n : Nat) (c : Conf) (S : AV → Bls → Prop) (R : Conf → Prop) : Prop where
  mk :: (out : ExS P K pl st n none c S R)
section
variable {P : Program} {K : KT} {pl : FuncId → Nat → Option Plan} {st : List Nat} {n : Nat} {c c1 c2 : Conf} {S : AV → Bls → Prop} {R : Conf → Prop}
theorem exq_eq {o : Option (Bool × Conf)} : ExQ P K pl st n o c S R = ExS P K pl st n o c S R := propext ⟨fun h => h.out, fun h => ⟨h⟩⟩
theorem exh : ExH P K pl st n c S R = ExQ P K pl st n none c S R := propext ⟨fun h => ⟨h.out⟩, fun h => ⟨h.out⟩⟩
theorem exq_zero : ExQ P K pl st 0 none c S R = R c := by rw [exq_eq, exs_zero]
theorem exq_go {f : Fr} {fs : List Fr} {bl : Bls} : ExQ P K pl st (n + 1) none ⟨f :: fs, bl⟩ S R = (match stops st ⟨f :: fs, bl⟩ with
      | true => R ⟨f :: fs, bl⟩
      | false => (match stepF P K pl false ⟨f :: fs, bl⟩ with
        | .next vc c' => vc = true ∧ ExQ P K pl st n none c' S R
        | .split b c1 c2 => ExQ P K pl st n (some (b, c2)) c1 S R
        | .fin vc r bl => vc = true ∧ S r bl
        | .stop => R ⟨f :: fs, bl⟩)) := by
  simp only [exq_eq]
  exact exs_go
theorem exq_t : ExQ P K pl st (n + 1) (some (true, c2)) c1 S R = ExQ P K pl st n none c1 S R := by simp only [exq_eq, exs_t]
theorem exq_f : ExQ P K pl st (n + 1) (some (false, c2)) c1 S R = ExQ P K pl st n none c2 S R := by simp only [exq_eq, exs_f]
theorem exq_t0 : ExQ P K pl st 0 (some (true, c2)) c1 S R = R c1 := by simp only [exq_eq, exs_t0]
theorem exq_f0 : ExQ P K pl st 0 (some (false, c2)) c1 S R = R c2 := by simp only [exq_eq, exs_f0]
theorem exq_sp {b : Bool} : ExQ P K pl st (n + 1) (some (b, c2)) c1 S R = ((b = true → ExH P K pl st n c1 S R) ∧ (b = false → ExH P K pl st n c2 S R)) := by
  rw [exq_eq]
  simp only [ExS, exh, exq_eq]
theorem exq_d {p : Prop} [Decidable p] : ExQ P K pl st (n + 1) (some (decide p, c2)) c1 S R = ((decide p = true → ExH P K pl st n c1 S R) ∧ (decide p = false → ExH P K pl st n c2 S R)) := exq_sp
theorem exq_n {b : Bool} : ExQ P K pl st (n + 1) (some (!b, c2)) c1 S R = ((b = false → ExH P K pl st n c1 S R) ∧ (b = true → ExH P K pl st n c2 S R)) := by
  rw [exq_sp]
  cases b <;> simp
theorem exq_cd {c c' : Code} (h : c = c') {n m : Nat} {fn : FuncId} {tm : TM} {k : List SI} {rd : Option Nat} {ms lk : List Nat} {fs : List Fr} {bl : Bls} :
    ExQ P K pl st (n + 1) none ⟨⟨fn, m, tm, .code c :: k, rd, ms, lk⟩ :: fs, bl⟩ S R = ExQ P K pl st (n + 1) none ⟨⟨fn, m, tm, .code c' :: k, rd, ms, lk⟩ :: fs, bl⟩ S R := by subst h; rfl
theorem ExQ_ok (st : List Nat) (n : Nat) (hpl : PlOk P pl) (hK : KOk P pl K) {C : Ctx} (h : ExQ P K pl st n none c S (fun c => Rch P pl C c S)) : Rch P pl C c S := ExS_ok st n hpl hK h.out
/-- A law, by a walk of its function. -/
theorem law_walk (hpl : PlOk P pl) {f : FuncId} {F : FI} {args : List AV} {S : AV → Bls → Prop} (hF : fi P f = some F) (hn : args.length ≤ F.n) (hS : ∀ r bl, S r bl → r = .v (.bool true))
    (h : ∀ C : Ctx, C.β.b = [] → C.bl = [] → Rch P pl C (conf0 f F args []) S) {w : World} {vs : List Value} (hd : DenL (ice P pl w) args vs) : Calls P f vs.toArray w fun e w' => e = .returned (.bool true) ∧ Below w.heap.size w w' :=
  law_calls hpl hF hn hS hd h
end
end Go.SY
