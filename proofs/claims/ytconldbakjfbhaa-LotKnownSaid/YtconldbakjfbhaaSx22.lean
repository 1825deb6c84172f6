/-
  The symbolic machine: what a function leaves, told by fewer levels.
-/
import Derived.Test.YtconldbakjfbhaaSx21
set_option linter.unusedSimpArgs false
set_option linter.unusedVariables false
namespace Go.SX
open Go

section
variable {P : Program} {C : Ctx} {k : List It} {st : St} {R : St → Prop}

theorem iwp_mono {Q Q' : Exit → Act → World → Prop} (hq : ∀ e a w, Q e a w → Q' e a w) : ∀ k : List It, ∀ e a w, iwp P C k Q e a w → iwp P C k Q' e a w := by
  intro k
  induction k with
  | nil => exact hq
  | cons x k ih =>
    intro e a w h
    cases x with
    | code c => cases e <;> simp only [iwp] at h ⊢ <;> first | exact ih _ _ _ h | exact wp_mono h ih
    | ops all os =>
      cases e <;> simp only [iwp] at h ⊢ <;> first | exact ih _ _ _ h | skip
      skip
      induction os generalizing a w with
      | nil => exact ih _ _ _ h
      | cons o os iho =>
        simp only [wpList] at h ⊢
        split
        · rename_i hw
          rw [if_pos hw] at h
          rcases h with h | ⟨h1, a0, w0, h2⟩
          · refine .inl ?_
            unfold Oper.wp at *
            generalize (execOp a.eval o).run P w = r at *
            cases r with
            | ok n w' =>
              cases n <;> simp only [Oper.upon] at h ⊢ <;>
                first
                  | exact iho _ _ h
                  | exact Calls.mono h (fun e w'' he => by
                      cases e with
                      | returned v => exact iho _ _ he
                      | panicked c => exact ih _ _ _ he
                      | outgrown => obtain ⟨a0, w0, h2⟩ := he; exact ⟨a0, w0, ih _ _ _ h2⟩)
                  | exact Rows.mono h (fun _ _ he => iho _ _ he)
            | halt x w' => cases x <;> simp only [Oper.upon] at h ⊢ <;> first | exact ih _ _ _ h | exact h
          · exact .inr ⟨h1, a0, w0, ih _ _ _ h2⟩
        · rename_i hw
          rw [if_neg hw] at h
          exact iho _ _ h
    | blk id =>
      cases e <;> simp only [iwp] at h ⊢ <;> first | exact ih _ _ _ h | skip
      split <;> rename_i hi
      · rw [if_pos hi] at h; exact ih _ _ _ h
      · rw [if_neg hi] at h; exact ih _ _ _ h
    | fin I => cases e <;> simp only [iwp] at h ⊢ <;> first | exact ih _ _ _ h | exact h

theorem go_normR (live : List Nat) (h : Go P C k st (fun s => ∃ lv, okLv C.bl0.length s.bl.length lv = true ∧ R (norm live lv s))) : Go P C k st R := fun β a w hr => by
  refine iwp_mono (fun e a w he => ?_) _ _ _ _ (h β a w hr)
  cases e <;> first | exact he | (obtain ⟨st, β, h1, lv, h2, h3⟩ := he; exact ⟨_, _, h1.norm h2, h3⟩)

/-- A contract out of the body; behind it one names the levels that are told of. -/
theorem SC.of_goN (live : List Nat) {P : Program} {f : FuncId} {fn : Func} {c : Code} {args : List AV} {bl : Bls} {K : AV → Bls → Prop} (hf : P.funcs[f]? = some fn) (hb : fn.body = some c)
    (hname : (fn.name == "runtime.NumGoroutine") = false) (hn : args.length ≤ fn.ntmps)
    (h : ∀ C : Ctx, C.bl0 = bl → Go P C [.code c] ⟨fn.ntmps, ini 0 args, bl⟩ fun s => ∃ lv, okLv C.bl0.length s.bl.length lv = true ∧ ∃ r, resOf (keep lv s.tm live) fn.results.toList = some r ∧ K r (pickL lv s.bl lv) ∧ NewOwn bl.length (pickL lv s.bl lv)) : SC P f args bl K :=
  SC.of_go hf hb hname hn fun C hC => go_normR live (h C hC)

end

end Go.SX
