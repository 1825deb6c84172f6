/-
  The symbolic machine: rows that came in held against nil; a nil slice of rows, as one of nothing.
-/
import Derived.Test.YtdoeopcimhpjaaaSm
import Derived.Test.YtdoeopcimhpjaaaSy45
set_option linter.unusedSimpArgs false
set_option linter.unusedVariables false
namespace Go.SY
open Go Go.RowKit
section
variable {P : Program} {pl : FuncId → Nat → Option Plan} {C : Ctx} {S : AV → Bls → Prop} {fn : FuncId} {n : Nat} {tm : TM} {k : List SI} {rd : Option Nat} {ms lk : List Nat} {fs : List Fr} {bl : Bls}
theorem Rch.eqnilR {all : Array Oper} {o : Oper} {os : List Oper} {s : Nat} {t u : TypeId} {T : TI} {e : TypeId} {sz by_ : Nat} {tt : Bool} {w0 : Nat} {xs : List (List AV)} {c : Option Nat} (hg : o.guard = none) (hop : o.op = .binOp .eql t (.tmp s) (.const (.slice none 0 0)) u) (hT : ti P t = some T) (hk : T.kd = .slice e sz by_) (hs : get tm s = .imr tt w0 xs c)
    (h : ∀ b, Rch P pl C ⟨⟨fn, n, put n tm o.dst (.v (.bool b)), .ops all os none :: k, rd, ms, lk⟩ :: fs, bl⟩ S) : Rch P pl C ⟨⟨fn, n, tm, .ops all (o :: os) none :: k, rd, ms, lk⟩ :: fs, bl⟩ S := by
  rintro β m ⟨⟨f, fs', fr, ts, w, e1, rfl, h1, h2, h3⟩, h4, h5⟩
  simp only [List.cons.injEq] at e1
  obtain ⟨rfl, rfl⟩ := e1
  obtain ⟨tmps, ds, i, t', ro, rfl, ho, hos, htm, g1, g2, g3, g4, g5, g6⟩ := ops_at h1
  obtain ⟨hut, -, -⟩ := kd_slice hT hk
  have hd := htm.2 s
  rw [hs] at hd
  simp only [Den] at hd
  obtain ⟨A, q, ys, hA, -⟩ := hd
  have hpo := htm.poised all o
  have hws : WS all n tm o.guard true := by rw [hg]; rfl
  have hrun : (execOp (evT tmps) o).run P w = .ok (.value (.bool A.isNone)) w := by
    have ex : evT tmps (.tmp s) = .slice A xs.length q := hA
    refine binOp_exec hop ?_ ?_
    · rw [ex]
      exact eqGuard_run (.inr ⟨rfl, by simp⟩)
    · rw [ex]
      show (binOp .eql t (.slice A xs.length q) (.slice none 0 0)).run P w = _
      have e1 : binOp .eql t (.slice A xs.length q) (.slice none 0 0) = (do pure (.bool (← Op.equal t (.slice A xs.length q) (.slice none 0 0)))) := rfl
      rw [e1, equal_unfold]
      simp only [Sem.run_bind, slice_nil_run hut, Result.andThen_ok, Sem.run_pure]
  have hnd : ∀ c, o.op ≠ .defer c := fun c => by rw [hop]; simp
  have hst : step P (lone ((fr0 fn ro).atR ⟨tmps, ds⟩ (.inRegion all (i :: List.range' (i + 1) (all.size - (i + 1))) :: t')) (ts ++ C.cs) w) = .next (lone ((fr0 fn ro).atR ⟨putV tmps o.dst (.bool A.isNone), ds⟩ (.inRegion all (List.range' (i + 1) (all.size - (i + 1))) :: t')) (ts ++ C.cs) w) := by
    have hgg := stepGR_op (P := P) (b := fr0 fn ro) (a := ⟨tmps, ds⟩) (k := t') (cs := ts ++ C.cs) (w := w) (rest := List.range' (i + 1) (all.size - (i + 1))) ho (hpo.wt true hws)
    rw [Oper.semAt_eq _ _ _ hnd, eval_act] at hgg
    have hfin := Frame.finish_atR (fr0 fn ro) ⟨tmps, ds⟩ all i (List.range' (i + 1) (all.size - (i + 1))) t' (.bool A.isNone)
    rw [ho] at hfin
    simp only [Option.bind_some, put_act] at hfin
    refine step_lone_go ?_
    rw [hgg, ← hfin]
    simp [stepG.apply, hrun]
  refine Fin.steps (.one hst) (h A.isNone β _ ⟨⟨_, fs, _, ts, w, rfl, rfl, ⟨_, ds, _, ro, rfl, g1, g2, (htm.put (mk_bool _) o.dst), ?_, fun b hb => by cases hb⟩, h2, h3⟩, Bot.same (f := ⟨fn, n, tm, .ops all (o :: os) none :: k, rd, ms, lk⟩) h4 rfl, h5⟩)
  exact ⟨_, t', rfl, ⟨rfl, i + 1, hos, rfl⟩, g3⟩
/-- A slice that is nil, as one of nothing. -/
theorem Rch.nilslR (s i w wr : Nat) (hs : get tm s = .nil) (hk : hdPlain k = true) (h : Rch P pl C ⟨⟨fn, n, (s, .sl bl.length i w 0 none) :: tm, k, rd, ms, []⟩ :: fs, bl ++ [some (.rows wr [])]⟩ S) : Rch P pl C ⟨⟨fn, n, tm, k, rd, ms, []⟩ :: fs, bl⟩ S := by
  rintro β m ⟨⟨f, fs', fr, ts, w', e1, rfl, h1, h2, h3⟩, h4, h5⟩
  simp only [List.cons.injEq] at e1
  obtain ⟨rfl, rfl⟩ := e1
  have hh := h3.heap
  obtain ⟨tmps, ds, t, ro, rfl, g1, g2, g3⟩ := h1
  have hx := hh.nothing (c := .rows wr []) (by simp only [CsDen, DenR])
  have g3' : TodoR P β bl (some []) fn n tm k tmps t := by
    cases k with
    | nil => exact g3
    | cons x k => cases x with
      | dr all p A g => simp [hdPlain] at hk
      | _ => exact g3
  have g4 := TodoR.mono (bl' := bl ++ [some (.rows wr [])]) g3' hx.le (Kp.app _ _ _)
  have g5 := todo_tm (tm' := (s, .sl bl.length i w 0 none) :: tm) hk g4
  have g6 : TodoR P { β with b := β.b ++ [none] } (bl ++ [some (.rows wr [])]) none fn n ((s, .sl bl.length i w 0 none) :: tm) k tmps t := by
    have htm : TmOk { β with b := β.b ++ [none] } n ((s, .sl bl.length i w 0 none) :: tm) tmps := by
      refine ⟨g5.1.1, fun s' => ?_⟩
      simp only [get]
      split
      · rename_i e
        subst e
        have := g5.1.2 s
        rw [hs] at this
        simp only [Den] at this ⊢
        exact ⟨none, 0, this, Nat.le_refl _, by decide, (fun m hm => by cases hm), fun h => absurd rfl h⟩
      · exact g5.1.2 s'
    have g7 := g5.2 htm
    cases k with
    | nil => exact g7
    | cons x k => cases x with
      | dr all p A g => simp [hdPlain] at hk
      | _ => exact g7
  exact h _ _ ⟨⟨_, fs, _, ts, w', rfl, rfl, ⟨tmps, ds, t, ro, rfl, g1.mono hx.le, g2.mono hx.le, g6⟩, h2.mono hx.le (Kp.app _ _ _), h3.trans hx⟩, Bot.same (f := ⟨fn, n, tm, k, rd, ms, []⟩) h4 rfl, hx.le.ck.trans h5⟩
end
end Go.SY
