/-
  The symbolic machine: comparisons that the context decides (simp with omega as its discharger).
-/
import Derived.Test.YtmdepmhamefheaaSy42
set_option linter.unusedSimpArgs false
set_option linter.unusedVariables false
namespace Go.SY
theorem dLtF {a b : Int} (h : b ≤ a) : decide (a < b) = false := decide_eq_false (by omega)
theorem dLtT {a b : Int} (h : a < b) : decide (a < b) = true := decide_eq_true h
theorem dLeF {a b : Int} (h : b < a) : decide (a ≤ b) = false := decide_eq_false (by omega)
theorem dLeT {a b : Int} (h : a ≤ b) : decide (a ≤ b) = true := decide_eq_true h
theorem dEqF {a b : Int} (h : a < b ∨ b < a) : decide (a = b) = false := decide_eq_false (by omega)
theorem dEqT {a b : Int} (h : a = b) : decide (a = b) = true := decide_eq_true h
theorem dLtFN {a b : Nat} (h : b ≤ a) : decide (a < b) = false := decide_eq_false (by omega)
theorem dLtTN {a b : Nat} (h : a < b) : decide (a < b) = true := decide_eq_true h
theorem dLeFN {a b : Nat} (h : b < a) : decide (a ≤ b) = false := decide_eq_false (by omega)
theorem dLeTN {a b : Nat} (h : a ≤ b) : decide (a ≤ b) = true := decide_eq_true h
theorem dEqFN {a b : Nat} (h : a < b ∨ b < a) : decide (a = b) = false := decide_eq_false (by omega)
theorem dEqTN {a b : Nat} (h : a = b) : decide (a = b) = true := decide_eq_true h
theorem iLt {a b : Int} {α : Sort _} {x y : α} (h : a < b) : (if a < b then x else y) = x := if_pos h
theorem iLtN {a b : Int} {α : Sort _} {x y : α} (h : b ≤ a) : (if a < b then x else y) = y := if_neg (by omega)
open Go
section
variable {P : Program} {pl : FuncId → Nat → Option Plan} {C : Ctx} {S : AV → Bls → Prop} {fn : FuncId} {n : Nat} {tm : TM} {k : List SI} {rd : Option Nat} {ms lk : List Nat} {fs : List Fr} {bl : Bls}
/-- A slice of one's own held against nil: it is nil only where it has nothing. -/
theorem Rch.eqnilS {all : Array Oper} {o : Oper} {os : List Oper} {s : Nat} {t u : TypeId} {T : TI} {e : TypeId} {sz by_ : Nat} {l0 i0 w0 n0 : Nat} {c : Option Nat} (hg : o.guard = none) (hop : o.op = .binOp .eql t (.tmp s) (.const (.slice none 0 0)) u) (hT : ti P t = some T) (hk : T.kd = .slice e sz by_) (hs : get tm s = .sl l0 i0 w0 n0 c)
    (h : ∀ b, (b = true → n0 = 0) → Rch P pl C ⟨⟨fn, n, put n tm o.dst (.v (.bool b)), .ops all os none :: k, rd, ms, lk⟩ :: fs, bl⟩ S) : Rch P pl C ⟨⟨fn, n, tm, .ops all (o :: os) none :: k, rd, ms, lk⟩ :: fs, bl⟩ S := by
  rintro β m ⟨⟨f, fs', fr, ts, w, e1, rfl, h1, h2, h3⟩, h4, h5⟩
  simp only [List.cons.injEq] at e1
  obtain ⟨rfl, rfl⟩ := e1
  obtain ⟨tmps, ds, i, t', ro, rfl, ho, hos, htm, g1, g2, g3, g4, g5, g6⟩ := ops_at h1
  obtain ⟨hut, -, -⟩ := kd_slice hT hk
  have hd := htm.2 s
  rw [hs] at hd
  simp only [Den] at hd
  obtain ⟨A, q, hA, hnq, -, -, hq0⟩ := hd
  have hz : A.isNone = true → n0 = 0 := fun hN => by
    by_cases hq : q = 0
    · omega
    · obtain ⟨b, s, -, e, -⟩ := hq0 hq
      rw [e] at hN
      cases hN
  have hpo := htm.poised all o
  have hws : WS all n tm o.guard true := by rw [hg]; rfl
  have hrun : (execOp (evT tmps) o).run P w = .ok (.value (.bool A.isNone)) w := by
    have ex : evT tmps (.tmp s) = .slice A n0 q := hA
    refine binOp_exec hop ?_ ?_
    · rw [ex]
      exact eqGuard_run (.inr ⟨rfl, by simp⟩)
    · rw [ex]
      show (binOp .eql t (.slice A n0 q) (.slice none 0 0)).run P w = _
      have e1 : binOp .eql t (.slice A n0 q) (.slice none 0 0) = (do pure (.bool (← Op.equal t (.slice A n0 q) (.slice none 0 0)))) := rfl
      rw [e1, equal_unfold]
      simp only [Sem.run_bind, slice_nil_run hut, Result.andThen_ok, Sem.run_pure]
  have hnd : ∀ c, o.op ≠ .defer c := fun c => by rw [hop]; simp
  have hst : step P (lone ((fr0 fn ro).atR ⟨tmps, ds⟩ (.inRegion all (i :: List.range' (i + 1) (all.size - (i + 1))) :: t')) (ts ++ C.cs) w) = .next (lone ((fr0 fn ro).atR ⟨putV tmps o.dst (.bool A.isNone), ds⟩ (.inRegion all (List.range' (i + 1) (all.size - (i + 1))) :: t')) (ts ++ C.cs) w) := by
    have hgg := stepGR_op (P := P) (b := fr0 fn ro) (a := ⟨tmps, ds⟩) (k := t') (cs := ts ++ C.cs) (w := w) (rest := List.range' (i + 1) (all.size - (i + 1))) ho (hpo.wt true hws)
    rw [Oper.semAt_eq _ _ _ hnd, eval_act] at hgg
    have hfin := Frame.finish_atR (fr0 fn ro) ⟨tmps, ds⟩ all i (List.range' (i + 1) (all.size - (i + 1))) t' (.bool A.isNone)
    rw [ho] at hfin
    simp only [Option.bind_some, put_act] at hfin
    refine step_lone_go ?_
    rw [hgg, ← hfin]
    simp [stepG.apply, hrun]
  refine Fin.steps (.one hst) (h A.isNone hz β _ ⟨⟨_, fs, _, ts, w, rfl, rfl, ⟨_, ds, _, ro, rfl, g1, g2, (htm.put (mk_bool _) o.dst), ?_, fun b hb => by cases hb⟩, h2, h3⟩, Bot.same (f := ⟨fn, n, tm, .ops all (o :: os) none :: k, rd, ms, lk⟩) h4 rfl, h5⟩)
  exact ⟨_, t', rfl, ⟨rfl, i + 1, hos, rfl⟩, g3⟩
end
end Go.SY
