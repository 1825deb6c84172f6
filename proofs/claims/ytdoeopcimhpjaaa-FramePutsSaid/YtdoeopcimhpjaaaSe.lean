/- The symbolic machine (Sm, Sy45, Sy46, Sy47, Sy48, Sy49). -/
import Derived.Test.YtdoeopcimhpjaaaSd
import Derived.Deep.Slices
import Derived.Deep.Fields
import Derived.Lib.SmallJoins
set_option linter.unusedSimpArgs false
set_option linter.unusedVariables false
/-
  The symbolic machine: a level of numbers told in whole.
-/

namespace Go.SY
open Go
theorem tB_tt (t : Bool) : tB true t = true := by cases t <;> rfl
theorem tB_ft : tB false true = false := rfl
theorem tB_ff : tB false false = true := rfl
theorem todo_bl {P : Program} {β : Env} {bl bl' : Bls} {pr : Option (List Nat)} {fn : FuncId} {n : Nat} {tm : TM} {k : List SI} {tmps : Array Value} {t : List Item} (hk : hdPlain k = true) (h : TodoR P β bl pr fn n tm k tmps t) : TodoR P β bl' pr fn n tm k tmps t := by
  cases k with
  | nil => exact h
  | cons x k => cases x with
    | dr all p A g => simp [hdPlain] at hk
    | _ => exact h
theorem nums_of {k : IntKind} : ∀ {sp : List Value}, (∀ x ∈ sp, SpV (some k) x) → ∃ zs : List Int, sp = zs.map (.int k) ∧ okN k zs
  | [], _ => ⟨[], rfl, fun _ h => by cases h⟩
  | x :: sp, h => by
    obtain ⟨-, h1⟩ := h x (by simp)
    obtain ⟨z, rfl, hz⟩ := h1 k rfl
    obtain ⟨zs, rfl, hzs⟩ := nums_of (sp := sp) fun y hy => h y (by simp [hy])
    exact ⟨z :: zs, rfl, fun y hy => by
      rcases List.mem_cons.1 hy with rfl | hy
      · exact hz
      · exact hzs y hy⟩
section
variable {P : Program} {pl : FuncId → Nat → Option Plan} {C : Ctx} {S : AV → Bls → Prop} {fn : FuncId} {n : Nat} {tm : TM} {k : List SI} {rd : Option Nat} {ms : List Nat} {fs : List Fr} {bl : Bls}
/-- What lies behind numbers are numbers: told in whole. -/
theorem Rch.whole (s : Nat) {l i nn q : Nat} {kk : IntKind} {xs : List Int} (hs : get tm s = .sl l i 1 nn (some q)) (hl : lvl bl l = some (.num kk xs)) (hk : hdPlain k = true)
    (h : ∀ ys, okN kk (xs ++ ys) → (q = 0 ∨ i + q ≤ (xs ++ ys).length) → Rch P pl C ⟨⟨fn, n, tm, k, rd, ms, []⟩ :: fs, setl bl l (some (.num kk (xs ++ ys)))⟩ S) :
    Rch P pl C ⟨⟨fn, n, tm, k, rd, ms, []⟩ :: fs, bl⟩ S := by
  rintro β m ⟨⟨f, fs', fr, ts, w, e, rfl, h1, h2, h3⟩, h4, h5⟩
  simp only [List.cons.injEq] at e
  obtain ⟨rfl, rfl⟩ := e
  have hh := h3.heap
  obtain ⟨tmps, ds, t, ro, rfl, g1, g2, g3⟩ := h1
  simp only at g1 g2 g3 h4 h2 h3 hh
  have hd := (todo_tm (tm' := tm) hk g3).1.2 s
  rw [hs] at hd
  simp only [Den] at hd
  obtain ⟨A, q', -, -, -, hq', hA⟩ := hd
  obtain rfl := hq' _ rfl
  have fin : ∀ ys, okN kk (xs ++ ys) → (q' = 0 ∨ i + q' ≤ (xs ++ ys).length) → Ext β bl w β (setl bl l (some (.num kk (xs ++ ys)))) w → _root_.Go.SY.Fin P C S (lone ((fr0 fn ro).atR ⟨tmps, ds⟩ t) (ts ++ C.cs) w) := fun ys hy1 hy2 hx =>
    h ys hy1 hy2 β _ ⟨⟨_, fs, _, ts, w, rfl, rfl, ⟨tmps, ds, t, ro, rfl, g1, g2, todo_bl hk g3⟩, h2.mono (.refl _) (fun q hq => by cases hq), h3.trans hx⟩, Bot.same (f := ⟨fn, n, tm, k, rd, ms, []⟩) h4 rfl, h5⟩
  obtain ⟨base, hbase, hin⟩ := hh.lv l _ (lvl_get hl)
  cases base with
  | none =>
    have hq0 : q' = 0 := by
      apply Decidable.byContradiction
      intro hne
      obtain ⟨b, sz, hb, -⟩ := hA hne
      rw [hb] at hbase; cases hbase
    have hok : okN kk xs := hin.2
    refine fin [] (by simpa using hok) (.inl hq0) ?_
    rw [List.append_nil, setl_same hl]
    exact .refl hh
  | some p =>
    obtain ⟨b, sz⟩ := p
    obtain ⟨ys, sp, T, fz, hg, hsz, hc, hsp, hfz⟩ := heap_cells hh hl hbase rfl
    simp only [CsDen] at hc
    obtain ⟨rfl, hok⟩ := hc
    obtain ⟨zs, rfl, hzs⟩ := nums_of hsp
    refine fin zs (okN_append hok hzs) ?_ ?_
    · by_cases hq0 : q' = 0
      · exact .inl hq0
      · obtain ⟨b', sz', hb, -, hf⟩ := hA hq0
        rw [hbase] at hb
        simp only [Option.some.injEq, Prod.mk.injEq] at hb
        obtain ⟨rfl, rfl⟩ := hb
        simp only [List.length_map] at hsz
        simp only [List.length_append]
        omega
    · have hwr := hh.write2 (c' := .num kk (xs ++ zs)) (ys' := (xs ++ zs).map (Value.int kk)) (sp' := []) (lvl_get hl) hbase hg (by simpa using hsz) (fun x hx => by cases hx) hfz ⟨rfl, okN_append hok hzs⟩
      have e1 : (xs ++ zs).map (Value.int kk) ++ [] = xs.map (Value.int kk) ++ zs.map (Value.int kk) := by simp
      rw [e1, setRow_self w b _ T fz hg, ← setl_set] at hwr
      exact hwr
end
end Go.SY

/-
  The symbolic machine: a slice of nothing against nil.
-/
namespace Go.SY
open Go
section
variable {P : Program} {pl : FuncId → Nat → Option Plan} {C : Ctx} {S : AV → Bls → Prop} {fn : FuncId} {n : Nat} {tm : TM} {k : List SI} {rd : Option Nat} {ms lk : List Nat} {fs : List Fr} {bl : Bls}
/-- Numbers held against nil: either may come of it. -/
theorem Rch.eqnil {all : Array Oper} {o : Oper} {os : List Oper} {s : Nat} {t u : TypeId} {T : TI} {e : TypeId} {sz by_ : Nat} {tt : Bool} {kk : IntKind} {xs : List Int} {c : Option Nat} (hg : o.guard = none) (hop : o.op = .binOp .eql t (.tmp s) (.const (.slice none 0 0)) u) (hT : ti P t = some T) (hk : T.kd = .slice e sz by_) (hs : get tm s = .imn tt kk xs c)
    (h : ∀ b, Rch P pl C ⟨⟨fn, n, put n tm o.dst (.v (.bool b)), .ops all os none :: k, rd, ms, lk⟩ :: fs, bl⟩ S) : Rch P pl C ⟨⟨fn, n, tm, .ops all (o :: os) none :: k, rd, ms, lk⟩ :: fs, bl⟩ S := by
  rintro β m ⟨⟨f, fs', fr, ts, w, e1, rfl, h1, h2, h3⟩, h4, h5⟩
  simp only [List.cons.injEq] at e1
  obtain ⟨rfl, rfl⟩ := e1
  obtain ⟨tmps, ds, i, t', ro, rfl, ho, hos, htm, g1, g2, g3, g4, g5, g6⟩ := ops_at h1
  obtain ⟨hut, -, -⟩ := kd_slice hT hk
  have hd := htm.2 s
  rw [hs] at hd
  simp only [Den] at hd
  obtain ⟨A, q, hA, -⟩ := hd
  have hpo := htm.poised all o
  have hws : WS all n tm o.guard true := by rw [hg]; rfl
  have hrun : (execOp (evT tmps) o).run P w = .ok (.value (.bool A.isNone)) w := by
    have ex : evT tmps (.tmp s) = .slice A xs.length q := hA
    refine binOp_exec hop ?_ ?_
    · rw [ex]
      exact eqGuard_run (.inr ⟨rfl, by simp⟩)
    · rw [ex]
      show (binOp .eql t (.slice A xs.length q) (.slice none 0 0)).run P w = _
      have e1 : binOp .eql t (.slice A xs.length q) (.slice none 0 0) = (do pure (.bool (← Op.equal t (.slice A xs.length q) (.slice none 0 0)))) := rfl
      rw [e1, equal_unfold]
      simp only [Sem.run_bind, slice_nil_run hut, Result.andThen_ok, Sem.run_pure]
  have hnd : ∀ c, o.op ≠ .defer c := fun c => by rw [hop]; simp
  have hst : step P (lone ((fr0 fn ro).atR ⟨tmps, ds⟩ (.inRegion all (i :: List.range' (i + 1) (all.size - (i + 1))) :: t')) (ts ++ C.cs) w) = .next (lone ((fr0 fn ro).atR ⟨putV tmps o.dst (.bool A.isNone), ds⟩ (.inRegion all (List.range' (i + 1) (all.size - (i + 1))) :: t')) (ts ++ C.cs) w) := by
    have hgg := stepGR_op (P := P) (b := fr0 fn ro) (a := ⟨tmps, ds⟩) (k := t') (cs := ts ++ C.cs) (w := w) (rest := List.range' (i + 1) (all.size - (i + 1))) ho (hpo.wt true hws)
    rw [Oper.semAt_eq _ _ _ hnd, eval_act] at hgg
    have hfin := Frame.finish_atR (fr0 fn ro) ⟨tmps, ds⟩ all i (List.range' (i + 1) (all.size - (i + 1))) t' (.bool A.isNone)
    rw [ho] at hfin
    simp only [Option.bind_some, put_act] at hfin
    refine step_lone_go ?_
    rw [hgg, ← hfin]
    simp [stepG.apply, hrun]
  refine Fin.steps (.one hst) (h A.isNone β _ ⟨⟨_, fs, _, ts, w, rfl, rfl, ⟨_, ds, _, ro, rfl, g1, g2, (htm.put (mk_bool _) o.dst), ?_, fun b hb => by cases hb⟩, h2, h3⟩, Bot.same (f := ⟨fn, n, tm, .ops all (o :: os) none :: k, rd, ms, lk⟩) h4 rfl, h5⟩)
  exact ⟨_, t', rfl, ⟨rfl, i + 1, hos, rfl⟩, g3⟩
/-- A slice that is nil, as one of nothing. -/
theorem Rch.nilsl (s i w : Nat) (kk : IntKind) (hs : get tm s = .nil) (hk : hdPlain k = true) (h : Rch P pl C ⟨⟨fn, n, (s, .sl bl.length i w 0 none) :: tm, k, rd, ms, []⟩ :: fs, bl ++ [some (.num kk [])]⟩ S) : Rch P pl C ⟨⟨fn, n, tm, k, rd, ms, []⟩ :: fs, bl⟩ S := by
  rintro β m ⟨⟨f, fs', fr, ts, w', e1, rfl, h1, h2, h3⟩, h4, h5⟩
  simp only [List.cons.injEq] at e1
  obtain ⟨rfl, rfl⟩ := e1
  have hh := h3.heap
  obtain ⟨tmps, ds, t, ro, rfl, g1, g2, g3⟩ := h1
  have hx := hh.nothing (c := .num kk []) ⟨rfl, fun _ h => by cases h⟩
  have g3' : TodoR P β bl (some []) fn n tm k tmps t := by
    cases k with
    | nil => exact g3
    | cons x k => cases x with
      | dr all p A g => simp [hdPlain] at hk
      | _ => exact g3
  have g4 := TodoR.mono (bl' := bl ++ [some (.num kk [])]) g3' hx.le (Kp.app _ _ _)
  have g5 := todo_tm (tm' := (s, .sl bl.length i w 0 none) :: tm) hk g4
  have g6 : TodoR P { β with b := β.b ++ [none] } (bl ++ [some (.num kk [])]) none fn n ((s, .sl bl.length i w 0 none) :: tm) k tmps t := by
    have htm : TmOk { β with b := β.b ++ [none] } n ((s, .sl bl.length i w 0 none) :: tm) tmps := by
      refine ⟨g5.1.1, fun s' => ?_⟩
      simp only [get]
      split
      · rename_i e
        subst e
        have := g5.1.2 s
        rw [hs] at this
        simp only [Den] at this ⊢
        exact ⟨none, 0, this, Nat.le_refl _, by decide, (fun m hm => by cases hm), fun h => absurd rfl h⟩
      · exact g5.1.2 s'
    have g7 := g5.2 htm
    cases k with
    | nil => exact g7
    | cons x k => cases x with
      | dr all p A g => simp [hdPlain] at hk
      | _ => exact g7
  exact h _ _ ⟨⟨_, fs, _, ts, w', rfl, rfl, ⟨tmps, ds, t, ro, rfl, g1.mono hx.le, g2.mono hx.le, g6⟩, h2.mono hx.le (Kp.app _ _ _), h3.trans hx⟩, Bot.same (f := ⟨fn, n, tm, k, rd, ms, []⟩) h4 rfl, hx.le.ck.trans h5⟩
end
end Go.SY

/-
  The symbolic machine: code under names, unfolded where it is to be run.
-/
namespace Go.SY
open Go
theorem exs_cd {c c' : Code} (h : c = c') {P : Program} {K : KT} {pl : FuncId → Nat → Option Plan} {st : List Nat} {n m : Nat} {fn : FuncId} {tm : TM} {k : List SI} {rd : Option Nat} {ms lk : List Nat} {fs : List Fr} {bl : Bls} {S : AV → Bls → Prop} {R : Conf → Prop} :
    ExS P K pl st (n + 1) none ⟨⟨fn, m, tm, .code c :: k, rd, ms, lk⟩ :: fs, bl⟩ S R = ExS P K pl st (n + 1) none ⟨⟨fn, m, tm, .code c' :: k, rd, ms, lk⟩ :: fs, bl⟩ S R := by subst h; rfl
/-- The operations of a region, by the way to it. -/
def regAt : List Nat → Code → Array Oper
  | [], .region _ a _ => a
  | i :: r, .seq x y => (match i with
    | 0 => regAt r x
    | _ => regAt r y)
  | _ :: r, .block _ c => regAt r c
  | _ :: r, .scope c => regAt r c
  | _ :: r, .loop c => regAt r c
  | i :: r, .cond _ x y => (match i with
    | 1 => regAt r x
    | _ => regAt r y)
  | i :: r, .rangeFunc _ _ x y => (match i with
    | 2 => regAt r x
    | _ => regAt r y)
  | _, _ => #[]
end Go.SY

/-
  The symbolic machine: runs by simp once more, as a thing that the kernel can't unfold (what is left of the steps costs nothing then).
-/
namespace Go.SY
open Go Go.RowKit
structure ExQ (P : Program) (K : KT) (pl : FuncId → Nat → Option Plan) (st : List Nat) (n : Nat) (o : Option (Bool × Conf)) (c : Conf) (S : AV → Bls → Prop) (R : Conf → Prop) : Prop where
  mk :: (out : ExS P K pl st n o c S R)
/-- An arm behind a split: gone when its turn comes (`rw [exh]`). -/
structure ExH (P : Program) (K : KT) (pl : FuncId → Nat → Option Plan) (st : List Nat) (n : Nat) (c : Conf) (S : AV → Bls → Prop) (R : Conf → Prop) : Prop where
  mk :: (out : ExS P K pl st n none c S R)
section
variable {P : Program} {K : KT} {pl : FuncId → Nat → Option Plan} {st : List Nat} {n : Nat} {c c1 c2 : Conf} {S : AV → Bls → Prop} {R : Conf → Prop}
theorem exq_eq {o : Option (Bool × Conf)} : ExQ P K pl st n o c S R = ExS P K pl st n o c S R := propext ⟨fun h => h.out, fun h => ⟨h⟩⟩
theorem exh : ExH P K pl st n c S R = ExQ P K pl st n none c S R := propext ⟨fun h => ⟨h.out⟩, fun h => ⟨h.out⟩⟩
theorem exq_zero : ExQ P K pl st 0 none c S R = R c := by rw [exq_eq, exs_zero]
theorem exq_go {f : Fr} {fs : List Fr} {bl : Bls} : ExQ P K pl st (n + 1) none ⟨f :: fs, bl⟩ S R = (match stops st ⟨f :: fs, bl⟩ with
      | true => R ⟨f :: fs, bl⟩
      | false => (match stepF P K pl false ⟨f :: fs, bl⟩ with
        | .next vc c' => vc = true ∧ ExQ P K pl st n none c' S R
        | .split b c1 c2 => ExQ P K pl st n (some (b, c2)) c1 S R
        | .fin vc r bl => vc = true ∧ S r bl
        | .stop => R ⟨f :: fs, bl⟩)) := by
  simp only [exq_eq]
  exact exs_go
theorem exq_t : ExQ P K pl st (n + 1) (some (true, c2)) c1 S R = ExQ P K pl st n none c1 S R := by simp only [exq_eq, exs_t]
theorem exq_f : ExQ P K pl st (n + 1) (some (false, c2)) c1 S R = ExQ P K pl st n none c2 S R := by simp only [exq_eq, exs_f]
theorem exq_t0 : ExQ P K pl st 0 (some (true, c2)) c1 S R = R c1 := by simp only [exq_eq, exs_t0]
theorem exq_f0 : ExQ P K pl st 0 (some (false, c2)) c1 S R = R c2 := by simp only [exq_eq, exs_f0]
theorem exq_sp {b : Bool} : ExQ P K pl st (n + 1) (some (b, c2)) c1 S R = ((b = true → ExH P K pl st n c1 S R) ∧ (b = false → ExH P K pl st n c2 S R)) := by
  rw [exq_eq]
  simp only [ExS, exh, exq_eq]
theorem exq_d {p : Prop} [Decidable p] : ExQ P K pl st (n + 1) (some (decide p, c2)) c1 S R = ((decide p = true → ExH P K pl st n c1 S R) ∧ (decide p = false → ExH P K pl st n c2 S R)) := exq_sp
theorem exq_n {b : Bool} : ExQ P K pl st (n + 1) (some (!b, c2)) c1 S R = ((b = false → ExH P K pl st n c1 S R) ∧ (b = true → ExH P K pl st n c2 S R)) := by
  rw [exq_sp]
  cases b <;> simp
theorem exq_cd {c c' : Code} (h : c = c') {n m : Nat} {fn : FuncId} {tm : TM} {k : List SI} {rd : Option Nat} {ms lk : List Nat} {fs : List Fr} {bl : Bls} :
    ExQ P K pl st (n + 1) none ⟨⟨fn, m, tm, .code c :: k, rd, ms, lk⟩ :: fs, bl⟩ S R = ExQ P K pl st (n + 1) none ⟨⟨fn, m, tm, .code c' :: k, rd, ms, lk⟩ :: fs, bl⟩ S R := by subst h; rfl
theorem ExQ_ok (st : List Nat) (n : Nat) (hpl : PlOk P pl) (hK : KOk P pl K) {C : Ctx} (h : ExQ P K pl st n none c S (fun c => Rch P pl C c S)) : Rch P pl C c S := ExS_ok st n hpl hK h.out
/-- A law, by a walk of its function. -/
theorem law_walk (hpl : PlOk P pl) {f : FuncId} {F : FI} {args : List AV} {S : AV → Bls → Prop} (hF : fi P f = some F) (hn : args.length ≤ F.n) (hS : ∀ r bl, S r bl → r = .v (.bool true))
    (h : ∀ C : Ctx, C.β.b = [] → C.bl = [] → Rch P pl C (conf0 f F args []) S) {w : World} {vs : List Value} (hd : DenL (ice P pl w) args vs) : Calls P f vs.toArray w fun e w' => e = .returned (.bool true) ∧ Below w.heap.size w w' :=
  law_calls hpl hF hn hS hd h
end
end Go.SY

/-
  The symbolic machine: a word for a closed call (its arguments told).
-/
namespace Go.SY
open Go Go.RowKit
theorem runA_word {P : Program} {T : Pls} {K : KT} (hpl : PlOk P (plOf T)) (hK : KOk P (plOf T) K) {g : FuncId} {F : FI} (hF : fi P g = some F) {n : Nat} {args : List AV} {r : AV} (hr : runA P K T n g args = some r) (he : r = ren (nm []) r) :
    args.length ≤ F.n ∧ ∀ C : Ctx, C.β.b = [] → C.bl = [] → Rch P (plOf T) C (conf0 g F args []) (Res r []) := by
  unfold runA at hr
  rw [hF] at hr
  dsimp only at hr
  split at hr
  · rename_i hn
    split at hr
    · rename_i r' bl' e
      obtain rfl := Option.some.inj hr
      rw [runQ_eq] at e
      exact ⟨of_decide_eq_true hn, fun C _ _ => runK_ok hpl hK ⟨[], List.nodup_nil, rfl, he, fun l c h => by simp at h⟩ e⟩
    · cases hr
  · cases hr
/-- A closed rest of a run, its end looked at. -/
def runT (P : Program) (K : KT) (pl : FuncId → Nat → Option Plan) (tst : AV → Bool) (n : Nat) (c : Conf) : Bool := match runQ P K pl n c with
  | some (r, _) => tst r
  | none => false
theorem runT_ok {P : Program} {K : KT} {pl : FuncId → Nat → Option Plan} (hpl : PlOk P pl) (hK : KOk P pl K) {tst : AV → Bool} {C : Ctx} {S : AV → Bls → Prop} (hS : ∀ r bl, tst r = true → S r bl) {n : Nat} {c : Conf} (h : runT P K pl tst n c = true) : Rch P pl C c S := by
  unfold runT at h
  split at h
  · rename_i r bl e
    rw [runQ_eq] at e
    exact runK_ok hpl hK (hS r bl h) e
  · cases h
end Go.SY

/-
  The symbolic machine: comparisons that the context decides (simp with omega as its discharger).
-/
namespace Go.SY
theorem dLtF {a b : Int} (h : b ≤ a) : decide (a < b) = false := decide_eq_false (by omega)
theorem dLtT {a b : Int} (h : a < b) : decide (a < b) = true := decide_eq_true h
theorem dLeF {a b : Int} (h : b < a) : decide (a ≤ b) = false := decide_eq_false (by omega)
theorem dLeT {a b : Int} (h : a ≤ b) : decide (a ≤ b) = true := decide_eq_true h
theorem dEqF {a b : Int} (h : a < b ∨ b < a) : decide (a = b) = false := decide_eq_false (by omega)
theorem dEqT {a b : Int} (h : a = b) : decide (a = b) = true := decide_eq_true h
theorem dLtFN {a b : Nat} (h : b ≤ a) : decide (a < b) = false := decide_eq_false (by omega)
theorem dLtTN {a b : Nat} (h : a < b) : decide (a < b) = true := decide_eq_true h
theorem dLeFN {a b : Nat} (h : b < a) : decide (a ≤ b) = false := decide_eq_false (by omega)
theorem dLeTN {a b : Nat} (h : a ≤ b) : decide (a ≤ b) = true := decide_eq_true h
theorem dEqFN {a b : Nat} (h : a < b ∨ b < a) : decide (a = b) = false := decide_eq_false (by omega)
theorem dEqTN {a b : Nat} (h : a = b) : decide (a = b) = true := decide_eq_true h
theorem iLt {a b : Int} {α : Sort _} {x y : α} (h : a < b) : (if a < b then x else y) = x := if_pos h
theorem iLtN {a b : Int} {α : Sort _} {x y : α} (h : b ≤ a) : (if a < b then x else y) = y := if_neg (by omega)
open Go
section
variable {P : Program} {pl : FuncId → Nat → Option Plan} {C : Ctx} {S : AV → Bls → Prop} {fn : FuncId} {n : Nat} {tm : TM} {k : List SI} {rd : Option Nat} {ms lk : List Nat} {fs : List Fr} {bl : Bls}
/-- A slice of one's own held against nil: it is nil only where it has nothing. -/
theorem Rch.eqnilS {all : Array Oper} {o : Oper} {os : List Oper} {s : Nat} {t u : TypeId} {T : TI} {e : TypeId} {sz by_ : Nat} {l0 i0 w0 n0 : Nat} {c : Option Nat} (hg : o.guard = none) (hop : o.op = .binOp .eql t (.tmp s) (.const (.slice none 0 0)) u) (hT : ti P t = some T) (hk : T.kd = .slice e sz by_) (hs : get tm s = .sl l0 i0 w0 n0 c)
    (h : ∀ b, (b = true → n0 = 0) → Rch P pl C ⟨⟨fn, n, put n tm o.dst (.v (.bool b)), .ops all os none :: k, rd, ms, lk⟩ :: fs, bl⟩ S) : Rch P pl C ⟨⟨fn, n, tm, .ops all (o :: os) none :: k, rd, ms, lk⟩ :: fs, bl⟩ S := by
  rintro β m ⟨⟨f, fs', fr, ts, w, e1, rfl, h1, h2, h3⟩, h4, h5⟩
  simp only [List.cons.injEq] at e1
  obtain ⟨rfl, rfl⟩ := e1
  obtain ⟨tmps, ds, i, t', ro, rfl, ho, hos, htm, g1, g2, g3, g4, g5, g6⟩ := ops_at h1
  obtain ⟨hut, -, -⟩ := kd_slice hT hk
  have hd := htm.2 s
  rw [hs] at hd
  simp only [Den] at hd
  obtain ⟨A, q, hA, hnq, -, -, hq0⟩ := hd
  have hz : A.isNone = true → n0 = 0 := fun hN => by
    by_cases hq : q = 0
    · omega
    · obtain ⟨b, s, -, e, -⟩ := hq0 hq
      rw [e] at hN
      cases hN
  have hpo := htm.poised all o
  have hws : WS all n tm o.guard true := by rw [hg]; rfl
  have hrun : (execOp (evT tmps) o).run P w = .ok (.value (.bool A.isNone)) w := by
    have ex : evT tmps (.tmp s) = .slice A n0 q := hA
    refine binOp_exec hop ?_ ?_
    · rw [ex]
      exact eqGuard_run (.inr ⟨rfl, by simp⟩)
    · rw [ex]
      show (binOp .eql t (.slice A n0 q) (.slice none 0 0)).run P w = _
      have e1 : binOp .eql t (.slice A n0 q) (.slice none 0 0) = (do pure (.bool (← Op.equal t (.slice A n0 q) (.slice none 0 0)))) := rfl
      rw [e1, equal_unfold]
      simp only [Sem.run_bind, slice_nil_run hut, Result.andThen_ok, Sem.run_pure]
  have hnd : ∀ c, o.op ≠ .defer c := fun c => by rw [hop]; simp
  have hst : step P (lone ((fr0 fn ro).atR ⟨tmps, ds⟩ (.inRegion all (i :: List.range' (i + 1) (all.size - (i + 1))) :: t')) (ts ++ C.cs) w) = .next (lone ((fr0 fn ro).atR ⟨putV tmps o.dst (.bool A.isNone), ds⟩ (.inRegion all (List.range' (i + 1) (all.size - (i + 1))) :: t')) (ts ++ C.cs) w) := by
    have hgg := stepGR_op (P := P) (b := fr0 fn ro) (a := ⟨tmps, ds⟩) (k := t') (cs := ts ++ C.cs) (w := w) (rest := List.range' (i + 1) (all.size - (i + 1))) ho (hpo.wt true hws)
    rw [Oper.semAt_eq _ _ _ hnd, eval_act] at hgg
    have hfin := Frame.finish_atR (fr0 fn ro) ⟨tmps, ds⟩ all i (List.range' (i + 1) (all.size - (i + 1))) t' (.bool A.isNone)
    rw [ho] at hfin
    simp only [Option.bind_some, put_act] at hfin
    refine step_lone_go ?_
    rw [hgg, ← hfin]
    simp [stepG.apply, hrun]
  refine Fin.steps (.one hst) (h A.isNone hz β _ ⟨⟨_, fs, _, ts, w, rfl, rfl, ⟨_, ds, _, ro, rfl, g1, g2, (htm.put (mk_bool _) o.dst), ?_, fun b hb => by cases hb⟩, h2, h3⟩, Bot.same (f := ⟨fn, n, tm, .ops all (o :: os) none :: k, rd, ms, lk⟩) h4 rfl, h5⟩)
  exact ⟨_, t', rfl, ⟨rfl, i + 1, hos, rfl⟩, g3⟩
end
end Go.SY

/-
  The symbolic machine: states under other names, the frames that wait for a call included (their operation bears no guard).
-/
namespace Go.SY
open Go
/-- What may stand under other names; on top also an operation that is known to be done and bears no guard. -/
def okK2 (N : Nat) : List SI → Bool
  | .ops _ (o :: _) (some true) :: k => o.guard.isNone && k.all (okSI N)
  | k => k.all (okSI N)
structure FitF2 (ρ : Nat → Nat) (N : Nat) (f f' : Fr) : Prop where
  fn : f.fn = f'.fn
  n : f.n = f'.n
  tm : fitT ρ f.tm f'.tm
  lt : lvT N true f'.tm = true
  k : f.k = f'.k.map (renSI ρ)
  ok : okK2 N f'.k = true
  rd : f.rd = f'.rd.map ρ
  rl : ∀ l, f'.rd = some l → l < N
  ms : f.ms = f'.ms.map ρ
  ml : f'.ms.all (fun l => decide (l < N)) = true
  lk : f.lk = []
  lk' : f'.lk = []
def FitFs2 (ρ : Nat → Nat) (N : Nat) : List Fr → List Fr → Prop
  | [], fs' => fs' = []
  | f :: fs, fs' => ∃ f' fs2, fs' = f' :: fs2 ∧ FitF2 ρ N f f' ∧ FitFs2 ρ N fs fs2
structure Fit2 (R : List Nat) (c c' : Conf) : Prop where
  nd : R.Nodup
  len : R.length = c'.bl.length
  fs : FitFs2 (nm R) c'.bl.length c.fs c'.fs
  bl : FitB (nm R) c'.bl.length c.bl 0 c'.bl
section
variable {P : Program} {β β' : Env} {ρ : Nat → Nat} {N : Nat} {bl bl' : Bls}
theorem fit_fr2 (h : Tr β β' ρ (fun l => l) N true) (hck : β'.ck = β.ck) {f f' : Fr} {fr : Frame} {pr pr' : Option (List Nat)} (hf : FitF2 ρ N f f') (hr : FrR P β bl pr f fr) : FrR P β' bl' pr' f' fr := by
  by_cases hp : f'.k.all (okSI N) = true
  · exact fit_fr h hck ⟨hf.fn, hf.n, hf.tm, hf.lt, hf.k, hp, hf.rd, hf.rl, hf.ms, hf.ml, hf.lk, hf.lk'⟩ hr
  obtain ⟨fn, n, tm, k, rd, ms, lk⟩ := f
  obtain ⟨fn', n', tm', k', rd', ms', lk'⟩ := f'
  obtain ⟨h1, h2, h3, h4, h5, h6, h7, h8, h9, h10, -, -⟩ := hf
  simp only at h1 h2 h3 h4 h5 h6 h7 h8 h9 h10 hp
  subst h1 h2 h5 h7 h9
  obtain ⟨tmps, ds, t, ro, e, g1, g2, g3⟩ := hr
  simp only at e g1 g2 g3
  unfold okK2 at h6
  split at h6
  · rename_i all o os k2
    simp only [Bool.and_eq_true, Option.isNone_iff_eq_none] at h6
    obtain ⟨hg, hk2⟩ := h6
    simp only [List.map_cons, renSI] at g3
    obtain ⟨q1, q2, -⟩ := g3
    refine ⟨tmps, ds, t, ro, e, fit_ms h h10 g1, ?_, ⟨fit_tm h h3 h4 q1, fit_k (k' := .ops all (o :: os) none :: k2) h hck (by simp [okSI, hk2]) (by simpa only [List.map_cons, renSI] using q2), fun b hb => ?_⟩⟩
    · cases rd' with
      | none => exact g2
      | some l =>
        obtain ⟨b, s, hb, e⟩ := g2
        exact ⟨b, s, h.b l _ (h8 l rfl) hb, e⟩
    · obtain rfl := Option.some.inj hb
      exact ⟨o, os, rfl, by rw [hg]; rfl⟩
  · exact absurd h6 hp
theorem fit_sus2 (h : Tr β β' ρ (fun l => l) N true) (hck : β'.ck = β.ck) : ∀ {fs fs' : List Fr} {lk lk' : List Nat} {ts : List Frame}, FitFs2 ρ N fs fs' → SusR P β bl lk fs ts → SusR P β' bl' lk' fs' ts
  | [], fs', _, _, ts, hf, hs => by
    simp only [FitFs2] at hf
    subst hf
    exact hs
  | f :: fs, fs', lk, lk', ts, ⟨f', fs2, e, h1, h2⟩, ⟨fr, ts', e', g1, g2, g3⟩ => by
    subst e e'
    exact ⟨fr, ts', rfl, fit_fr2 h hck h1 g1, (fun q hq => by rw [h1.lk'] at hq; cases hq), fit_sus2 h hck h2 g3⟩

theorem fit_bot2 {F : FuncId} : ∀ {fs fs' : List Fr}, FitFs2 ρ N fs fs' → Bot F fs → Bot F fs'
  | [], _, hf, hb => hb.elim
  | [f], fs', ⟨f', fs2, e, h1, h2⟩, hb => by
    simp only [FitFs2] at h2
    subst e h2
    exact h1.fn.symm.trans hb
  | f :: g :: fs, fs', ⟨f', fs2, e, h1, h2⟩, hb => by
    have := fit_bot2 h2 hb
    obtain ⟨g', fs3, e3, -, -⟩ := h2
    subst e e3
    exact this

end
/-- A state under other names comes to the same end (frames that wait for a call included). -/
theorem Rch.fit2 {P : Program} {pl : FuncId → Nat → Option Plan} {C : Ctx} (hC : C.β.b = []) {S : AV → Bls → Prop} {c c' : Conf} (R : List Nat) (hf : Fit2 R c c') (h : Rch P pl C c' S) : Rch P pl C c S := by
  rintro β m ⟨⟨f, fs, fr, ts, w, e, rfl, h1, h2, h3⟩, h4, h5⟩
  obtain ⟨cfs, bl⟩ := c
  obtain ⟨cfs', bl'⟩ := c'
  simp only at e
  subst e
  obtain ⟨hnd, hlen, hfs, hbl⟩ := hf
  simp only at hlen hfs hbl h1 h2 h3 h4
  have hh := h3.heap
  let β' : Env := { β with b := R.map (fun x => (β.b[x]?).join) }
  have gnew : ∀ j : Nat, j < bl'.length → β'.b[j]? = some ((β.b[nm R j]?).join) := fun j hj => by
    show (R.map _)[j]? = _
    rw [List.getElem?_map, List.getElem?_eq_getElem (by omega)]
    simp [nm, List.getD_eq_getElem?_getD, List.getElem?_eq_getElem (show j < R.length by omega)]
  have tr : Tr β β' (nm R) (fun l => l) bl'.length true := ⟨fun l x hl hb => by show β'.b[l]? = _; rw [gnew l hl, hb]; rfl, fun _ _ h => h, fun _ _ _ h => h⟩
  have hat : ∀ {l : Nat} {c : Ct}, bl'[l]? = some (some c) → l < bl'.length ∧ bl[nm R l]? = some (some (renCt (nm R) c)) ∧ lvCt bl'.length true c = true := fun {l c} hl => by
    have := fitB_at hbl hl
    rw [Nat.zero_add] at this
    exact ⟨(List.getElem?_eq_some_iff.1 hl).1, lvl_get this.1, this.2⟩
  have back : ∀ {j : Nat} {b s : Nat}, j < bl'.length → β'.b[j]? = some (some (b, s)) → β.b[nm R j]? = some (some (b, s)) := fun {j b s} hj hb => by
    rw [gnew j hj] at hb
    cases e : β.b[nm R j]? with
    | none => rw [e] at hb; cases hb
    | some y => rw [e] at hb; simpa using hb
  have own : ∀ b, Owned β' bl' b → Owned β bl b := by
    rintro b ⟨l, c, s, hl, hb⟩
    obtain ⟨a1, a2, a3⟩ := hat hl
    exact ⟨nm R l, _, s, a2, back a1 hb⟩
  have heap' : Heap β' bl' w := by
    refine ⟨by show (R.map _).length = _; simp [hlen], fun l c hl => ?_, fun l l' c c' b s s' hne hl hl' hb hb' => ?_, fun t b cs hz => ⟨(hh.frz t b cs (by cases t <;> exact hz)).1, fun ho => (hh.frz t b cs (by cases t <;> exact hz)).2 (own b ho)⟩⟩
    · obtain ⟨a1, a2, a3⟩ := hat hl
      obtain ⟨base, e, hin⟩ := hh.lv _ _ a2
      have hi := hin.ren tr rfl a3
      refine ⟨base, by rw [gnew l a1, e]; rfl, ?_⟩
      have : renCt (fun l => l) c = c := by
        cases c with
        | lit cs => simp only [renCt, renL_id]
        | num k xs => rfl
        | rows w rs => simp only [renCt, renR_id]
        | loop st pend fn n tm ps a b df => simp only [renCt, renT_id]
        | defs => rfl
        | map es =>
          have he : ∀ es : List (AV × AV), renE (fun l => l) es = es := fun es => by
            induction es with
            | nil => rfl
            | cons x r ih => obtain ⟨a, b⟩ := x; simp only [renE, ren_id, ih]
          simp only [renCt, he]
      rwa [this] at hi
    · obtain ⟨a1, a2, a3⟩ := hat hl
      obtain ⟨b1, b2, b3⟩ := hat hl'
      refine hh.sep _ _ _ _ b s s' (fun e => ?_) a2 b2 (back a1 hb) (back b1 hb')
      have hj1 : l < R.length := by omega
      have hj2 : l' < R.length := by omega
      simp only [nm, List.getD_eq_getElem?_getD, List.getElem?_eq_getElem hj1, List.getElem?_eq_getElem hj2, Option.getD_some] at e
      exact hne (nodup_inj hnd hj1 hj2 e)
  have hb := fit_bot2 hfs h4
  obtain ⟨f', fs', e', hf1, hf2⟩ := hfs
  subst e'
  refine h β' _ ⟨⟨f', fs', fr, ts, w, rfl, rfl, fit_fr2 tr rfl hf1 h1, fit_sus2 tr rfl hf2 h2, ?_⟩, hb, h5⟩
  refine ⟨⟨by rw [hC]; exact List.nil_prefix, h3.le.z, h3.le.y, h3.le.ck⟩, heap', h3.step, fun b ho => h3.own b (own b ho), h3.zn, h3.y⟩

theorem Rch.fit2K {P : Program} {pl : FuncId → Nat → Option Plan} {C : Ctx} {k : Nat} (hC : C.β.b.length = k) {S : AV → Bls → Prop} {c c' : Conf} (R : List Nat) (hR : R.take k = List.range k) (hf : Fit2 R c c') (h : Rch P pl C c' S) : Rch P pl C c S := by
  rintro β m ⟨⟨f, fs, fr, ts, w, e, rfl, h1, h2, h3⟩, h4, h5⟩
  obtain ⟨cfs, bl⟩ := c
  obtain ⟨cfs', bl'⟩ := c'
  simp only at e
  subst e
  obtain ⟨hnd, hlen, hfs, hbl⟩ := hf
  simp only at hlen hfs hbl h1 h2 h3 h4
  have hh := h3.heap
  let β' : Env := { β with b := R.map (fun x => (β.b[x]?).join) }
  have gnew : ∀ j : Nat, j < bl'.length → β'.b[j]? = some ((β.b[nm R j]?).join) := fun j hj => by
    show (R.map _)[j]? = _
    rw [List.getElem?_map, List.getElem?_eq_getElem (by omega)]
    simp [nm, List.getD_eq_getElem?_getD, List.getElem?_eq_getElem (show j < R.length by omega)]
  have tr : Tr β β' (nm R) (fun l => l) bl'.length true := ⟨fun l x hl hb => by show β'.b[l]? = _; rw [gnew l hl, hb]; rfl, fun _ _ h => h, fun _ _ _ h => h⟩
  have hat : ∀ {l : Nat} {c : Ct}, bl'[l]? = some (some c) → l < bl'.length ∧ bl[nm R l]? = some (some (renCt (nm R) c)) ∧ lvCt bl'.length true c = true := fun {l c} hl => by
    have := fitB_at hbl hl
    rw [Nat.zero_add] at this
    exact ⟨(List.getElem?_eq_some_iff.1 hl).1, lvl_get this.1, this.2⟩
  have back : ∀ {j : Nat} {b s : Nat}, j < bl'.length → β'.b[j]? = some (some (b, s)) → β.b[nm R j]? = some (some (b, s)) := fun {j b s} hj hb => by
    rw [gnew j hj] at hb
    cases e : β.b[nm R j]? with
    | none => rw [e] at hb; cases hb
    | some y => rw [e] at hb; simpa using hb
  have own : ∀ b, Owned β' bl' b → Owned β bl b := by
    rintro b ⟨l, c, s, hl, hb⟩
    obtain ⟨a1, a2, a3⟩ := hat hl
    exact ⟨nm R l, _, s, a2, back a1 hb⟩
  have heap' : Heap β' bl' w := by
    refine ⟨by show (R.map _).length = _; simp [hlen], fun l c hl => ?_, fun l l' c c' b s s' hne hl hl' hb hb' => ?_, fun t b cs hz => ⟨(hh.frz t b cs (by cases t <;> exact hz)).1, fun ho => (hh.frz t b cs (by cases t <;> exact hz)).2 (own b ho)⟩⟩
    · obtain ⟨a1, a2, a3⟩ := hat hl
      obtain ⟨base, e, hin⟩ := hh.lv _ _ a2
      have hi := hin.ren tr rfl a3
      refine ⟨base, by rw [gnew l a1, e]; rfl, ?_⟩
      rwa [renCt_id] at hi
    · obtain ⟨a1, a2, a3⟩ := hat hl
      obtain ⟨b1, b2, b3⟩ := hat hl'
      refine hh.sep _ _ _ _ b s s' (fun e => ?_) a2 b2 (back a1 hb) (back b1 hb')
      have hj1 : l < R.length := by omega
      have hj2 : l' < R.length := by omega
      simp only [nm, List.getD_eq_getElem?_getD, List.getElem?_eq_getElem hj1, List.getElem?_eq_getElem hj2, Option.getD_some] at e
      exact hne (nodup_inj hnd hj1 hj2 e)
  have hb := fit_bot2 hfs h4
  obtain ⟨f', fs', e', hf1, hf2⟩ := hfs
  subst e'
  have hpre : C.β.b <+: β'.b := by
    obtain ⟨r, hr⟩ := h3.le.b
    show _ <+: R.map _
    rw [← List.take_append_drop k R, hR, List.map_append]
    refine ⟨(R.drop k).map fun x => (β.b[x]?).join, ?_⟩
    congr 1
    apply List.ext_getElem
    · simp [hC]
    · intro i i1 i2
      simp only [List.getElem_map, List.getElem_range]
      rw [← hr, List.getElem?_append_left i1, List.getElem?_eq_getElem i1]
      rfl
  refine h β' _ ⟨⟨f', fs', fr, ts, w, rfl, rfl, fit_fr2 tr rfl hf1 h1, fit_sus2 tr rfl hf2 h2, ?_⟩, hb, h5⟩
  exact ⟨⟨hpre, h3.le.z, h3.le.y, h3.le.ck⟩, heap', h3.step, fun b ho => h3.own b (own b ho), h3.zn, h3.y⟩

/-- A frame whose call is under way, its slots told anew. -/
theorem FitF2.mk' {ρ : Nat → Nat} {N : Nat} {fn : FuncId} {n : Nat} {tm tm' : TM} {k : List SI} {rd : Option Nat} {ms : List Nat} (ht : fitT ρ tm tm') (hlt : lvT N true tm' = true) (hk : k = k.map (renSI ρ)) (hok : okK2 N k = true) (hrd : rd = rd.map ρ) (hrl : ∀ l, rd = some l → l < N) (hms : ms = ms.map ρ) (hml : (ms.all fun l => decide (l < N)) = true) :
    FitF2 ρ N ⟨fn, n, tm, k, rd, ms, []⟩ ⟨fn, n, tm', k, rd, ms, []⟩ := ⟨rfl, rfl, ht, hlt, hk, hok, hrd, hrl, hms, hml, rfl, rfl⟩
theorem Kp.updT {τ : Nat → Nat} {lk : List Nat} : ∀ {σ : List Nat} {bs bl : Bls}, (∀ q ∈ lk, q ∉ σ) → Kp lk bl (Go.SY.updT τ σ bs bl)
  | [], _, _, _ => Kp.refl _ _
  | _ :: _, [], _, _ => Kp.refl _ _
  | s :: σ, b :: bs, bl, h => by
    simp only [Go.SY.updT]
    exact Kp.trans (Kp.out fun hs => h s hs (List.mem_cons_self ..)) (Kp.updT fun q hq hm => h q hq (List.mem_cons_of_mem _ hm))
section
variable {P : Program} {pl : FuncId → Nat → Option Plan}
/-- A word in use, some levels being locked that are not handed over. -/
theorem Rch.callL {C : Ctx} {S : AV → Bls → Prop} {g : FuncId} {n : Nat} {res : List ResultVar} {code : Code} {args0 : List AV} {tm : TM} {bl bl0 : Bls} {Q : AV → Bls → Prop} {g0 : Fr} {fs : List Fr} {lk : List Nat} (σ : List Nat) (hlk : (lk.all fun q => !σ.contains q) = true) (hW : Word P pl g args0 bl0 Q) (hF : fi P g = some ⟨n, res, code⟩)
    (hT : LntT bl σ tm (ini 0 args0)) (hn : σ.Nodup) (hσ : (σ.all fun l => decide (l < bl.length)) = true) (hlen : σ.length = bl0.length) (hb : FitB (nm σ) σ.length bl 0 bl0)
    (hk : ∀ r bl', Q r bl' → (okRet r bl' = true ∧ bl0.length ≤ bl'.length) ∧ ∃ g1, finishS g0 (ren (tauN σ bl.length) r) = some g1 ∧ Rch P pl C ⟨g1 :: fs, aftT σ bl bl'⟩ S) :
    Rch P pl C ⟨⟨g, n, tm, [.code code], none, [], lk⟩ :: g0 :: fs, bl⟩ S := by
  rintro β m ⟨⟨f, fs', fr, ts, w, e, rfl, h1, h2, h3⟩, h4, h5⟩
  simp only [List.cons.injEq] at e
  obtain ⟨rfl, rfl⟩ := e
  have hh := h3.heap
  obtain ⟨F, hF', hargs, hrun⟩ := hW
  rw [hF] at hF'
  obtain rfl := Option.some.inj hF'
  have hk0 := take_heap hh hn hlen hb
  obtain ⟨tmps, ds, t, ro, rfl, g1, g2, g3⟩ := h1
  have g3 : TmOk β n tm tmps ∧ KR β g [.code code] t := g3
  obtain ⟨⟨gt1, gt2⟩, gk⟩ := g3
  have gck : (takeE σ β bl w).ck = β.ck := rfl
  have fr0' : FrR P (takeE σ β bl w) bl0 none ⟨g, n, ini 0 args0, [.code code], none, [], []⟩ ((fr0 g ro).atR ⟨tmps, ds⟩ t) := by
    obtain ⟨y, t', e1, e2, e3⟩ := gk
    exact ⟨tmps, ds, t, ro, rfl, g1, g2, ⟨gt1, fun s => lntT_get hh hT (gt2 s)⟩, y, t', e1, ⟨e2.1, by rw [gck]; exact e2.2⟩, e3⟩
  have run := hrun ⟨takeE σ β bl w, bl0, w, ts ++ C.cs, g⟩ rfl hk0.len (takeE σ β bl w) (lone ((fr0 g ro).atR ⟨tmps, ds⟩ t) (ts ++ C.cs) w)
    ⟨⟨_, [], _, [], w, rfl, rfl, fr0', rfl, .refl hk0⟩, rfl, h5⟩
  obtain ⟨v, fr, β1, r, bl', w', k1, k2, k3, k4, k5, k6⟩ := run
  have kx : Ext (takeE σ β bl w) bl0 w β1 bl' w' := k5
  obtain ⟨⟨hok, hlen'⟩, gg, hfin, hgo⟩ := hk r bl' k6
  obtain ⟨β2, hden, hext⟩ := ret_core hh hn hσ hlen hb kx k4 hok hlen'
  obtain ⟨frg, ts', rfl, a1, a2, a3⟩ := h2
  have hkp : Kp lk bl (aftT σ bl bl') := by
    refine Kp.trans (Kp.updT (fun q hq => ?_)) (Kp.app _ _ _)
    have := (List.all_eq_true.1 hlk) q hq
    simpa using this
  obtain ⟨f1, f2, f3⟩ := finish_ok (bl' := aftT σ bl bl') hfin a1 hext.le hkp hden
  refine Fin.steps (k1.trans (.one (step_leave_returned k3))) (hgo β2 _ ⟨⟨gg, fs, frg.finish v, ts', w', rfl, rfl, f1, ?_, h3.trans hext⟩, ?_, hext.le.ck.trans h5⟩)
  · rw [f3]
    exact a3.mono hext.le (hkp.sub a2)
  · exact Bot.same (f := g0) h4 f2
end
end Go.SY

/-
  The symbolic machine: slices of structs, of slices .. that a row hands in are frozen data.
-/
namespace Go.SY
open Go Go.RowKit Go.ChangeShapes Go.WideShapes Go.Deep

section
variable {H : Type} {enc : TypeId × Value → H} {P : Program} {pl : FuncId → Nat → Option Plan} {W : World} {base : Nat} {held : Bool}

/-- What reads as one cell of type t. -/
def OneIn (enc : TypeId × Value → H) (P : Program) (pl : FuncId → Nat → Option Plan) (W : World) (base : Nat) (held : Bool) (t : TypeId) {R : Type} (g : R → AV) (good : R → Prop) : Prop :=
  ∀ n v y, DataW.trod enc P W base (fun _ => true) held n t [v] = some y → ∃ r : R, Den (ice P pl W) (g r) v ∧ one v = true ∧ (g r).scal = true ∧ good r
/-- What reads as the cells of type e. -/
def ElIn (enc : TypeId × Value → H) (P : Program) (pl : FuncId → Nat → Option Plan) (W : World) (base : Nat) (held : Bool) (e : TypeId) {R : Type} (f : R → List AV) (good : R → Prop) : Prop :=
  ∀ n cs y, cs.length = P.cellsOf e → DataW.trod enc P W base (fun _ => true) held n e cs = some y → ∃ r : R, DenC (ice P pl W) (f r) cs ∧ good r

theorem one_int {t : TypeId} {k : IntKind} (ht : P.underlying t = some (.int k)) : OneIn enc P pl W base held t (fun z : Int => .v (.int k z)) (fun z => inK k z = true) := by
  intro n v y h
  obtain ⟨z, hz, -, hw⟩ := DataW.trod_int ht h
  obtain rfl := (List.cons.inj hz).1
  exact ⟨z, mk_int (wf_inK hw), rfl, rfl, wf_inK hw⟩
theorem one_bool {t : TypeId} (ht : P.underlying t = some .bool) : OneIn enc P pl W base held t (fun b : Bool => .v (.bool b)) (fun _ => True) := by
  intro n v y h
  obtain ⟨b, hb, -⟩ := DataW.trod_bool ht h
  obtain rfl := (List.cons.inj hb).1
  exact ⟨b, by simp [Den, one, wfV], rfl, rfl, trivial⟩
theorem one_nums {t e : TypeId} {k : IntKind} (ht : P.underlying t = some (.slice e)) (he : P.underlying e = some (.int k)) (hc : P.cellsOf e = 1) : OneIn enc P pl W base held t (fun r : List Int × Nat => .imn false k r.1 (some r.2)) (fun r => okN k r.1 ∧ r.1.length ≤ r.2 ∧ r.2 ≤ maxLen) := by
  intro n v y h
  rcases open_ints ht he hc h with ⟨hcs, _⟩ | ⟨x, l, c, zs, hcs, _, hl, hm, hz, hx, hcell, hwz⟩
  · obtain rfl := (List.cons.inj hcs).1
    have hr : IsRow k W none 0 0 [] := .inl ⟨rfl, rfl, rfl, rfl⟩
    exact ⟨([], 0), by simpa using hr.den, rfl, rfl, by simp [okN], by simp, by simp⟩
  · obtain rfl := (List.cons.inj hcs).1
    rw [if_pos rfl] at hz
    have hr : IsRow k W (some x) l c zs := .inr ⟨x, rfl, hl, hm, hz, hcell, hwz⟩
    refine ⟨(zs.take l, c), hr.den, rfl, rfl, fun z hz' => wf_inK (hwz z (List.mem_of_mem_take hz')), ?_, hm⟩
    simp only [List.length_take]
    omega
theorem el_one {t : TypeId} {R : Type} {g : R → AV} {good : R → Prop} (hc : P.cellsOf t = 1) (h : OneIn enc P pl W base held t g good) : ElIn enc P pl W base held t (fun r => [g r]) good := by
  intro n cs y hl ht
  rw [hc] at hl
  match cs, hl with
  | [v], _ =>
    obtain ⟨r, h1, h2, h3, h4⟩ := h n v y ht
    exact ⟨r, (denC_cons h3).2 ⟨v, [], rfl, h1, h2, by simp only [DenC]⟩, h4⟩
theorem el_struct3 {t : TypeId} {f0 f1 f2 : Field} {R0 R1 R2 : Type} {g0 : R0 → AV} {g1 : R1 → AV} {g2 : R2 → AV} {q0 : R0 → Prop} {q1 : R1 → Prop} {q2 : R2 → Prop}
    (hs : P.underlying t = some (.struct #[f0, f1, f2])) (hone : oneCellFields P #[f0, f1, f2] = true) (hC : P.cellsOf t = 3)
    (h0 : OneIn enc P pl W base held f0.type g0 q0) (h1 : OneIn enc P pl W base held f1.type g1 q1) (h2 : OneIn enc P pl W base held f2.type g2 q2) :
    ElIn enc P pl W base held t (fun r : R0 × R1 × R2 => [g0 r.1, g1 r.2.1, g2 r.2.2]) (fun r => q0 r.1 ∧ q1 r.2.1 ∧ q2 r.2.2) := by
  intro n cs y hl ht
  rw [hC] at hl
  match cs, hl with
  | [v0, v1, v2], _ =>
    obtain ⟨xs, m, _, _, _, hxl, hf⟩ := DataW.trod_struct hs ht
    match xs, hxl with
    | [y0, y1, y2], _ =>
      obtain ⟨o0, k0⟩ := hone_of hone 0 f0 rfl
      obtain ⟨o1, k1⟩ := hone_of hone 1 f1 rfl
      obtain ⟨o2, k2⟩ := hone_of hone 2 f2 rfl
      have e0 := hf 0 f0 rfl
      have e1 := hf 1 f1 rfl
      have e2 := hf 2 f2 rfl
      rw [o0, k0] at e0
      rw [o1, k1] at e1
      rw [o2, k2] at e2
      obtain ⟨r0, a0, b0, c0, d0⟩ := h0 m v0 y0 e0
      obtain ⟨r1, a1, b1, c1, d1⟩ := h1 m v1 y1 e1
      obtain ⟨r2, a2, b2, c2, d2⟩ := h2 m v2 y2 e2
      exact ⟨(r0, r1, r2), (denC_cons c0).2 ⟨_, _, rfl, a0, b0, (denC_cons c1).2 ⟨_, _, rfl, a1, b1, (denC_cons c2).2 ⟨_, _, rfl, a2, b2, by simp only [DenC]⟩⟩⟩, d0, d1, d2⟩

theorem denR_flat {β : Env} {R : Type} {f : R → List AV} {c : Nat} : ∀ (l : List (R × List Value)), (∀ p ∈ l, DenC β (f p.1) p.2 ∧ p.2.length = c) → DenR β c ((l.map (·.1)).map f) (l.flatMap (·.2))
  | [], _ => by simp only [List.map_nil, List.flatMap_nil, DenR]
  | p :: l, h => by
    simp only [List.map_cons, List.flatMap_cons, DenR]
    have := h p (List.mem_cons_self ..)
    exact ⟨p.2, _, rfl, this.2, this.1, denR_flat l fun q hq => h q (List.mem_cons_of_mem _ hq)⟩
theorem flat_at {g : Nat → List Value} {c : Nat} : ∀ (len : Nat), (∀ i, i < len → (g i).length = c) → ∀ j v, ((List.range len).flatMap g)[j]? = some v → ∃ i k, i < len ∧ k < c ∧ j = i * c + k ∧ (g i)[k]? = some v
  | 0, _, j, v, h => by simp at h
  | len + 1, hl, j, v, h => by
    rw [List.range_succ, List.flatMap_append] at h
    have hll : ∀ m, m ≤ len → ((List.range m).flatMap g).length = m * c := by
      intro m
      induction m with
      | zero => intro _; simp
      | succ m ih =>
        intro hm
        rw [List.range_succ, List.flatMap_append, List.length_append, ih (by omega)]
        simp only [List.flatMap_cons, List.flatMap_nil, List.append_nil]
        rw [hl m (by omega), Nat.succ_mul]
    by_cases hj : j < len * c
    · rw [List.getElem?_append_left (by rw [hll len (Nat.le_refl _)]; exact hj)] at h
      obtain ⟨i, k, h1, h2, h3, h4⟩ := flat_at len (fun i hi => hl i (by omega)) j v h
      exact ⟨i, k, by omega, h2, h3, h4⟩
    · rw [List.getElem?_append_right (by rw [hll len (Nat.le_refl _)]; omega), hll len (Nat.le_refl _)] at h
      simp only [List.flatMap_cons, List.flatMap_nil, List.append_nil] at h
      have hk := (List.getElem?_eq_some_iff.1 h).1
      rw [hl len (by omega)] at hk
      exact ⟨len, j - len * c, by omega, hk, by omega, h⟩

/-- A slice that came in, of whatever elements. -/
theorem slice_in {t e : TypeId} {R : Type} [Inhabited R] {f : R → List AV} {good : R → Prop} (ht : P.underlying t = some (.slice e)) (hpos : 0 < P.cellsOf e) (hel : ElIn enc P pl W base held e f good)
    {a : Option Addr} {len cap : Nat} {d : DataW H} {ps : List MemPlace} (h : DataW.Trod enc P W base (fun _ => true) held t (.slice a len cap) d ps) :
    ∃ rs : List R, rs.length = len ∧ len ≤ cap ∧ cap ≤ maxLen ∧ (∀ r ∈ rs, good r) ∧ Den (ice P pl W) (.imr false (P.cellsOf e) (rs.map f) (some cap)) (.slice a len cap) ∧ (cap = 0 ∨ ∃ as bs, d = .slice as bs ∧ as.length + bs.length = cap) := by
  obtain ⟨fuel, hf⟩ := h
  rcases open_slice ht hf with ⟨hcs, _⟩ | ⟨x, l, c, m, n, D, Pl, hcs, hb, hl, hm, hmm, hx, hi⟩
  · simp only [Value.cells, List.cons.injEq, Value.slice.injEq, and_true] at hcs
    obtain ⟨rfl, rfl, rfl⟩ := hcs
    refine ⟨[], rfl, Nat.le_refl _, Nat.zero_le _, (fun r hr => by cases hr), ?_, .inl rfl⟩
    simp only [Den]
    exact ⟨none, 0, [], rfl, Nat.le_refl _, by decide, fun m hm => by cases hm; rfl, by simp only [List.map_nil, DenR], fun h => absurd rfl h⟩
  · simp only [Value.cells, List.cons.injEq, Value.slice.injEq, and_true] at hcs
    obtain ⟨rfl, rfl, rfl⟩ := hcs
    rw [if_pos rfl] at hmm
    subst hmm
    have hmL : maxLen = 9223372036854775807 := rfl
    have each : ∀ i, i < len → ∃ p : R × List Value, DenC (ice P pl W) (f p.1) p.2 ∧ good p.1 ∧ p.2.length = P.cellsOf e ∧ ∀ j, j < P.cellsOf e → W.cell? (x.add (i * P.cellsOf e + j)) = p.2[j]? := fun i hil => by
      obtain ⟨cs', h1, h2⟩ := hi i (by omega)
      obtain ⟨_, hcl, hat⟩ := World.cells?_some h1
      obtain ⟨r, h3, h4⟩ := hel n cs' _ hcl h2
      refine ⟨(r, cs'), h3, h4, hcl, fun j hj => ?_⟩
      rw [← Go.Deep.add_add]
      exact hat j hj
    haveI : Inhabited (R × List Value) := ⟨(default, [])⟩
    obtain ⟨q, hq⟩ := choose_lt each
    obtain ⟨hd, _⟩ := Prod.mk.inj hx
    refine ⟨(List.range len).map fun i => (q i).1, by simp, hl, hm, fun r hr => ?_, ?_, .inr ⟨_, _, hd, by simp; omega⟩⟩
    · obtain ⟨i, hi', rfl⟩ := List.mem_map.1 hr
      exact (hq i (List.mem_range.1 hi')).2.1
    · simp only [Den]
      refine ⟨some x, m, (List.range len).flatMap fun i => (q i).2, by simp, by simpa using hl, by omega, fun m' hm' => by cases hm'; rfl, ?_, fun h0 => ?_⟩
      · have := denR_flat (β := ice P pl W) (f := f) (c := P.cellsOf e) ((List.range len).map q) (fun p hp => by
          obtain ⟨i, hi', rfl⟩ := List.mem_map.1 hp
          have := hq i (List.mem_range.1 hi')
          exact ⟨this.1, this.2.2.1⟩)
        simpa only [List.map_map, List.flatMap_map, Function.comp_def] using this
      · obtain ⟨b, o, sp⟩ := x
        obtain ⟨cs0, h1, _⟩ := hi 0 (by omega)
        obtain ⟨_, hcl, hat⟩ := World.cells?_some h1
        have h00 := hat 0 hpos
        simp only [Nat.zero_mul, Addr.add, if_true] at h00
        have hsome : cs0[0]? = some (cs0[0]'(by omega)) := List.getElem?_eq_getElem (by omega)
        rw [hsome] at h00
        simp only [World.cell?] at h00
        cases hbk : W.heap[b]? with
        | none => rw [hbk] at h00; simp at h00
        | some O =>
          rw [hbk] at h00
          cases O with
          | cells cs T fz =>
            cases sp with
            | some s => simp at h00
            | none =>
              refine ⟨b, o, rfl, cs, by simp only [Env.fz, ice, hbk], fun j v hj => ?_⟩
              obtain ⟨i, k, hi1, hk1, rfl, hgk⟩ := flat_at len (fun i hil => (hq i hil).2.2.1) j v hj
              have := (hq i hi1).2.2.2 k hk1
              rw [hgk] at this
              have hcell : W.cell? ((⟨b, o, none⟩ : Addr).add (i * P.cellsOf e + k)) = cs[o + (i * P.cellsOf e + k)]? := by
                unfold Addr.add
                split
                · rename_i e; rw [e]; simp [World.cell?, hbk]
                · simp [World.cell?, hbk]
              rw [hcell] at this
              exact this
          | _ => simp at h00
end
/-- Values with no level within. -/
def flatA : AV → Bool
  | .v _ => true
  | .imn false _ _ _ => true
  | .ch _ _ _ => true
  | _ => false
theorem flatA_ren {x : AV} (h : flatA x = true) (ρ : Nat → Nat) : ren ρ x = x := by
  cases x <;> first | rfl | (simp [flatA] at h; done)
theorem flatA_lv {x : AV} (h : flatA x = true) (N : Nat) (T : Bool) : lvB N T x = true := by
  cases x <;> first | rfl | (simp [flatA] at h; done) | skip
  rename_i t _ _ _
  cases t
  · cases T <;> rfl
  · simp [flatA] at h
theorem flatL_ren {xs : List AV} (h : xs.all flatA = true) (ρ : Nat → Nat) : renL ρ xs = xs := by
  induction xs with
  | nil => rfl
  | cons x r ih =>
    simp only [List.all_cons, Bool.and_eq_true] at h
    simp only [renL, flatA_ren h.1, ih h.2]
theorem flatL_lv {xs : List AV} (h : xs.all flatA = true) (N : Nat) (T : Bool) : lvL N T xs = true := by
  induction xs with
  | nil => rfl
  | cons x r ih =>
    simp only [List.all_cons, Bool.and_eq_true] at h
    simp only [lvL, flatA_lv h.1, ih h.2, Bool.and_self]
/-- Rows with no level within. -/
structure FlatR (rs : List (List AV)) : Prop where
  ren : ∀ ρ, renR ρ rs = rs
  lv : ∀ N T, lvR N T rs = true
theorem FlatR.of {rs : List (List AV)} (h : ∀ r ∈ rs, r.all flatA = true) : FlatR rs := by
  induction rs with
  | nil => exact ⟨fun _ => rfl, fun _ _ => rfl⟩
  | cons r rs ih =>
    have h1 := h r (List.mem_cons_self ..)
    have h2 := ih fun q hq => h q (List.mem_cons_of_mem _ hq)
    exact ⟨fun ρ => by simp only [renR, flatL_ren h1, h2.ren], fun N T => by simp only [lvR, flatL_lv h1, h2.lv, Bool.and_self]⟩
end Go.SY

/-
  The symbolic machine: rows that came in held against nil; a nil slice of rows, as one of nothing.
-/
namespace Go.SY
open Go Go.RowKit
section
variable {P : Program} {pl : FuncId → Nat → Option Plan} {C : Ctx} {S : AV → Bls → Prop} {fn : FuncId} {n : Nat} {tm : TM} {k : List SI} {rd : Option Nat} {ms lk : List Nat} {fs : List Fr} {bl : Bls}
theorem Rch.eqnilR {all : Array Oper} {o : Oper} {os : List Oper} {s : Nat} {t u : TypeId} {T : TI} {e : TypeId} {sz by_ : Nat} {tt : Bool} {w0 : Nat} {xs : List (List AV)} {c : Option Nat} (hg : o.guard = none) (hop : o.op = .binOp .eql t (.tmp s) (.const (.slice none 0 0)) u) (hT : ti P t = some T) (hk : T.kd = .slice e sz by_) (hs : get tm s = .imr tt w0 xs c)
    (h : ∀ b, Rch P pl C ⟨⟨fn, n, put n tm o.dst (.v (.bool b)), .ops all os none :: k, rd, ms, lk⟩ :: fs, bl⟩ S) : Rch P pl C ⟨⟨fn, n, tm, .ops all (o :: os) none :: k, rd, ms, lk⟩ :: fs, bl⟩ S := by
  rintro β m ⟨⟨f, fs', fr, ts, w, e1, rfl, h1, h2, h3⟩, h4, h5⟩
  simp only [List.cons.injEq] at e1
  obtain ⟨rfl, rfl⟩ := e1
  obtain ⟨tmps, ds, i, t', ro, rfl, ho, hos, htm, g1, g2, g3, g4, g5, g6⟩ := ops_at h1
  obtain ⟨hut, -, -⟩ := kd_slice hT hk
  have hd := htm.2 s
  rw [hs] at hd
  simp only [Den] at hd
  obtain ⟨A, q, ys, hA, -⟩ := hd
  have hpo := htm.poised all o
  have hws : WS all n tm o.guard true := by rw [hg]; rfl
  have hrun : (execOp (evT tmps) o).run P w = .ok (.value (.bool A.isNone)) w := by
    have ex : evT tmps (.tmp s) = .slice A xs.length q := hA
    refine binOp_exec hop ?_ ?_
    · rw [ex]
      exact eqGuard_run (.inr ⟨rfl, by simp⟩)
    · rw [ex]
      show (binOp .eql t (.slice A xs.length q) (.slice none 0 0)).run P w = _
      have e1 : binOp .eql t (.slice A xs.length q) (.slice none 0 0) = (do pure (.bool (← Op.equal t (.slice A xs.length q) (.slice none 0 0)))) := rfl
      rw [e1, equal_unfold]
      simp only [Sem.run_bind, slice_nil_run hut, Result.andThen_ok, Sem.run_pure]
  have hnd : ∀ c, o.op ≠ .defer c := fun c => by rw [hop]; simp
  have hst : step P (lone ((fr0 fn ro).atR ⟨tmps, ds⟩ (.inRegion all (i :: List.range' (i + 1) (all.size - (i + 1))) :: t')) (ts ++ C.cs) w) = .next (lone ((fr0 fn ro).atR ⟨putV tmps o.dst (.bool A.isNone), ds⟩ (.inRegion all (List.range' (i + 1) (all.size - (i + 1))) :: t')) (ts ++ C.cs) w) := by
    have hgg := stepGR_op (P := P) (b := fr0 fn ro) (a := ⟨tmps, ds⟩) (k := t') (cs := ts ++ C.cs) (w := w) (rest := List.range' (i + 1) (all.size - (i + 1))) ho (hpo.wt true hws)
    rw [Oper.semAt_eq _ _ _ hnd, eval_act] at hgg
    have hfin := Frame.finish_atR (fr0 fn ro) ⟨tmps, ds⟩ all i (List.range' (i + 1) (all.size - (i + 1))) t' (.bool A.isNone)
    rw [ho] at hfin
    simp only [Option.bind_some, put_act] at hfin
    refine step_lone_go ?_
    rw [hgg, ← hfin]
    simp [stepG.apply, hrun]
  refine Fin.steps (.one hst) (h A.isNone β _ ⟨⟨_, fs, _, ts, w, rfl, rfl, ⟨_, ds, _, ro, rfl, g1, g2, (htm.put (mk_bool _) o.dst), ?_, fun b hb => by cases hb⟩, h2, h3⟩, Bot.same (f := ⟨fn, n, tm, .ops all (o :: os) none :: k, rd, ms, lk⟩) h4 rfl, h5⟩)
  exact ⟨_, t', rfl, ⟨rfl, i + 1, hos, rfl⟩, g3⟩
/-- A slice that is nil, as one of nothing. -/
theorem Rch.nilslR (s i w wr : Nat) (hs : get tm s = .nil) (hk : hdPlain k = true) (h : Rch P pl C ⟨⟨fn, n, (s, .sl bl.length i w 0 none) :: tm, k, rd, ms, []⟩ :: fs, bl ++ [some (.rows wr [])]⟩ S) : Rch P pl C ⟨⟨fn, n, tm, k, rd, ms, []⟩ :: fs, bl⟩ S := by
  rintro β m ⟨⟨f, fs', fr, ts, w', e1, rfl, h1, h2, h3⟩, h4, h5⟩
  simp only [List.cons.injEq] at e1
  obtain ⟨rfl, rfl⟩ := e1
  have hh := h3.heap
  obtain ⟨tmps, ds, t, ro, rfl, g1, g2, g3⟩ := h1
  have hx := hh.nothing (c := .rows wr []) (by simp only [CsDen, DenR])
  have g3' : TodoR P β bl (some []) fn n tm k tmps t := by
    cases k with
    | nil => exact g3
    | cons x k => cases x with
      | dr all p A g => simp [hdPlain] at hk
      | _ => exact g3
  have g4 := TodoR.mono (bl' := bl ++ [some (.rows wr [])]) g3' hx.le (Kp.app _ _ _)
  have g5 := todo_tm (tm' := (s, .sl bl.length i w 0 none) :: tm) hk g4
  have g6 : TodoR P { β with b := β.b ++ [none] } (bl ++ [some (.rows wr [])]) none fn n ((s, .sl bl.length i w 0 none) :: tm) k tmps t := by
    have htm : TmOk { β with b := β.b ++ [none] } n ((s, .sl bl.length i w 0 none) :: tm) tmps := by
      refine ⟨g5.1.1, fun s' => ?_⟩
      simp only [get]
      split
      · rename_i e
        subst e
        have := g5.1.2 s
        rw [hs] at this
        simp only [Den] at this ⊢
        exact ⟨none, 0, this, Nat.le_refl _, by decide, (fun m hm => by cases hm), fun h => absurd rfl h⟩
      · exact g5.1.2 s'
    have g7 := g5.2 htm
    cases k with
    | nil => exact g7
    | cons x k => cases x with
      | dr all p A g => simp [hdPlain] at hk
      | _ => exact g7
  exact h _ _ ⟨⟨_, fs, _, ts, w', rfl, rfl, ⟨tmps, ds, t, ro, rfl, g1.mono hx.le, g2.mono hx.le, g6⟩, h2.mono hx.le (Kp.app _ _ _), h3.trans hx⟩, Bot.same (f := ⟨fn, n, tm, k, rd, ms, []⟩) h4 rfl, hx.le.ck.trans h5⟩
end
end Go.SY

/- A symbolic machine: words for what is less known; nil slices as slices of nothing; rows that are one slice of bytes. -/
namespace Go.SY
open Go
theorem Rch.tms {P : Program} {pl : FuncId → Nat → Option Plan} {C : Ctx} {S : AV → Bls → Prop} {fn : FuncId} {n : Nat} {tm tm' : TM} {k : List SI} {rd : Option Nat} {ms lk : List Nat} {fs : List Fr} {bl : Bls}
    (hx : ∀ (β : Env) s v, Den β (get tm s) v → Den β (get tm' s) v) (hk : hdPlain k = true)
    (h : Rch P pl C ⟨⟨fn, n, tm', k, rd, ms, lk⟩ :: fs, bl⟩ S) : Rch P pl C ⟨⟨fn, n, tm, k, rd, ms, lk⟩ :: fs, bl⟩ S := by
  rintro β m ⟨⟨f, fs0, fr, ts, w, e, rfl, h1, h2, h3⟩, h4, h5⟩
  simp only [List.cons.injEq] at e
  obtain ⟨rfl, rfl⟩ := e
  obtain ⟨tmps, ds, t, ro, rfl, g1, g2, g3⟩ := h1
  simp only at g1 g2 g3 h2
  have ht := (todo_tm (tm' := tm) hk g3).1
  have ht' : TmOk β n tm' tmps := ⟨ht.1, fun s' => hx β s' _ (ht.2 s')⟩
  exact h β _ ⟨⟨_, _, _, ts, w, rfl, rfl, ⟨tmps, ds, t, ro, rfl, g1, g2, (todo_tm hk g3).2 ht'⟩, h2, h3⟩, Bot.same h4 rfl, h5⟩
def mapI (φ : Nat → AV → AV) : Nat → List AV → List AV
  | _, [] => []
  | i, x :: r => φ i x :: mapI φ (i + 1) r
theorem mapI_len {φ : Nat → AV → AV} : ∀ {i : Nat} {xs : List AV}, (mapI φ i xs).length = xs.length
  | _, [] => rfl
  | _, _ :: _ => by simp [mapI, mapI_len]
theorem get_mapI {φ : Nat → AV → AV} {β : Env} (hφ : ∀ i x v, Den β x v → Den β (φ i x) v) {s : Nat} {v : Value} : ∀ {i : Nat} {xs : List AV}, Den β (get (ini i xs) s) v → Den β (get (ini i (mapI φ i xs)) s) v
  | _, [], h => h
  | i, x :: xs, h => by
    simp only [mapI, ini, get] at h ⊢
    split
    · rename_i e
      rw [if_pos e] at h
      exact hφ _ _ _ h
    · rename_i e
      rw [if_neg e] at h
      exact get_mapI hφ h
/-- A word holds of what is less known of its inputs. -/
theorem SpecOk.weak {P : Program} {pl : FuncId → Nat → Option Plan} {g : FuncId} {spec : List AV → Option (Bool × AV × Bls)} (h : SpecOk P pl g spec) (φ : Nat → AV → AV) (hφ : ∀ β i x v, Den β x v → Den β (φ i x) v) : SpecOk P pl g (fun args => spec (mapI φ 0 args)) := by
  obtain ⟨F, hF, h2⟩ := h
  refine ⟨F, hF, fun args r bl1 e => ?_⟩
  obtain ⟨h3, h4⟩ := h2 _ r bl1 e
  rw [mapI_len] at h3
  exact ⟨h3, fun C hC hb => Rch.tms (fun β s v hd => get_mapI (hφ β) hd) rfl (h4 C hC hb)⟩
def nilN (k : IntKind) : AV → AV
  | .nil => .imn false k [] none
  | x => x
def nilR (w : Nat) : AV → AV
  | .nil => .imr false w [] none
  | x => x
theorem nilN_den {β : Env} (k : IntKind) {x : AV} {v : Value} (h : Den β x v) : Den β (nilN k x) v := by
  unfold nilN
  split
  · simp only [Den] at h ⊢
    exact ⟨none, 0, h, Nat.le_refl _, by decide, (fun m hm => by cases hm), (fun z hz => by simp at hz), fun h => absurd rfl h⟩
  · exact h
theorem nilR_den {β : Env} (w : Nat) {x : AV} {v : Value} (h : Den β x v) : Den β (nilR w x) v := by
  unfold nilR
  split
  · simp only [Den] at h ⊢
    exact ⟨none, 0, [], h, Nat.le_refl _, by decide, (fun m hm => by cases hm), (by simp only [DenR]), fun h => absurd rfl h⟩
  · exact h
/-- A row that is one slice of bytes. -/
def isB : List AV → Bool
  | [.imn false .u8 _ _] => true
  | _ => false
def byR : List AV → List Int
  | [.imn false .u8 xs _] => xs
  | _ => []
def kpR : List AV → Option Nat
  | [.imn false .u8 _ c] => c
  | _ => none
theorem isB_eq {r : List AV} (h : isB r = true) : r = [.imn false .u8 (byR r) (kpR r)] := by
  unfold isB at h
  split at h
  · rfl
  · cases h
theorem isB_flat {rs : List (List AV)} (h : rs.all isB = true) : FlatR rs := FlatR.of fun r hr => by
  rw [isB_eq (List.all_eq_true.1 h r hr)]
  rfl
def byA (rs : List (List AV)) (i : Nat) : List Int := byR (rs[i]?.getD [])
def kpA (rs : List (List AV)) (i : Nat) : Option Nat := kpR (rs[i]?.getD [])
theorem isB_row {rs : List (List AV)} (h : rs.all isB = true) {i : Nat} (hi : i < rs.length) : rs[i]?.getD [] = [.imn false .u8 (byA rs i) (kpA rs i)] := by
  have : rs[i]?.getD [] = rs[i] := by rw [List.getElem?_eq_getElem hi]; rfl
  rw [byA, kpA, this]
  exact isB_eq (List.all_eq_true.1 h _ (List.getElem_mem hi))
/-- The bytes of rows. -/
def bys (rs : List (List AV)) : List (List Int) := rs.map byR
theorem bys_len {rs : List (List AV)} : (bys rs).length = rs.length := by simp [bys]
theorem bys_get {rs : List (List AV)} {i : Nat} (hi : i < rs.length) : (bys rs)[i]? = some (byA rs i) := by
  rw [bys, List.getElem?_map, byA, List.getElem?_eq_getElem hi]
  rfl
end Go.SY

/-
  The symbolic machine: slices that a row hands in, with what is known of their data (for statements with a bound on the bulk).
-/
namespace Go.SY
open Go Go.RowKit Go.ChangeShapes Go.WideShapes Go.Deep

section
variable {H : Type} {enc : TypeId × Value → H} {P : Program} {pl : FuncId → Nat → Option Plan} {W : World} {base : Nat} {held : Bool}
def AllR {R D : Type} (rel : R → D → Prop) : List R → List D → Prop
  | [], [] => True
  | r :: rs, d :: ds => rel r d ∧ AllR rel rs ds
  | _, _ => False
theorem allR_map {I R D : Type} {rel : R → D → Prop} {f : I → R} {g : I → D} : ∀ (l : List I), (∀ i ∈ l, rel (f i) (g i)) → AllR rel (l.map f) (l.map g)
  | [], _ => trivial
  | i :: l, h => ⟨h i (List.mem_cons_self ..), allR_map l fun j hj => h j (List.mem_cons_of_mem _ hj)⟩
def OneInD (enc : TypeId × Value → H) (P : Program) (pl : FuncId → Nat → Option Plan) (W : World) (base : Nat) (held : Bool) (t : TypeId) {R : Type} (g : R → AV) (good : R → Prop) (rel : R → DataW H → Prop) : Prop :=
  ∀ n v y, DataW.trod enc P W base (fun _ => true) held n t [v] = some y → ∃ r : R, Den (ice P pl W) (g r) v ∧ one v = true ∧ (g r).scal = true ∧ good r ∧ rel r y.1
def ElInD (enc : TypeId × Value → H) (P : Program) (pl : FuncId → Nat → Option Plan) (W : World) (base : Nat) (held : Bool) (e : TypeId) {R : Type} (f : R → List AV) (good : R → Prop) (rel : R → DataW H → Prop) : Prop :=
  ∀ n cs y, cs.length = P.cellsOf e → DataW.trod enc P W base (fun _ => true) held n e cs = some y → ∃ r : R, DenC (ice P pl W) (f r) cs ∧ good r ∧ rel r y.1
/-- Numbers as they are read: so many places. -/
def relN (r : List Int × Nat) (d : DataW H) : Prop := r.1 = [] ∨ ∃ as bs, d = .slice as bs ∧ r.1.length ≤ as.length
theorem one_numsD {t e : TypeId} {k : IntKind} (ht : P.underlying t = some (.slice e)) (he : P.underlying e = some (.int k)) (hc : P.cellsOf e = 1) : OneInD enc P pl W base held t (fun r : List Int × Nat => .imn false k r.1 (some r.2)) (fun r => okN k r.1 ∧ r.1.length ≤ r.2 ∧ r.2 ≤ maxLen) relN := by
  intro n v y h
  rcases open_ints ht he hc h with ⟨hcs, _⟩ | ⟨x, l, c, zs, hcs, _, hl, hm, hz, hx, hcell, hwz⟩
  · obtain rfl := (List.cons.inj hcs).1
    have hr : IsRow k W none 0 0 [] := .inl ⟨rfl, rfl, rfl, rfl⟩
    exact ⟨([], 0), by simpa using hr.den, rfl, rfl, ⟨by simp [okN], by simp, by simp⟩, .inl rfl⟩
  · obtain rfl := (List.cons.inj hcs).1
    rw [if_pos rfl] at hz
    have hr : IsRow k W (some x) l c zs := .inr ⟨x, rfl, hl, hm, hz, hcell, hwz⟩
    refine ⟨(zs.take l, c), hr.den, rfl, rfl, ⟨fun z hz' => wf_inK (hwz z (List.mem_of_mem_take hz')), ?_, hm⟩, .inr ⟨_, _, by rw [hx], ?_⟩⟩
    · simp only [List.length_take]
      omega
    · rw [lits, List.length_map]
      exact Nat.le_refl _
theorem el_oneD {t : TypeId} {R : Type} {g : R → AV} {good : R → Prop} {rel : R → DataW H → Prop} (hc : P.cellsOf t = 1) (h : OneInD enc P pl W base held t g good rel) : ElInD enc P pl W base held t (fun r => [g r]) good rel := by
  intro n cs y hl ht
  rw [hc] at hl
  match cs, hl with
  | [v], _ =>
    obtain ⟨r, h1, h2, h3, h4, h5⟩ := h n v y ht
    exact ⟨r, (denC_cons h3).2 ⟨v, [], rfl, h1, h2, by simp only [DenC]⟩, h4, h5⟩
/-- A slice that came in, of whatever elements. -/
theorem slice_inD {t e : TypeId} {R : Type} [Inhabited R] {f : R → List AV} {good : R → Prop} {rel : R → DataW H → Prop} (ht : P.underlying t = some (.slice e)) (hpos : 0 < P.cellsOf e) (hel : ElInD enc P pl W base held e f good rel)
    {a : Option Addr} {len cap : Nat} {d : DataW H} {ps : List MemPlace} (h : DataW.Trod enc P W base (fun _ => true) held t (.slice a len cap) d ps) :
    ∃ rs : List R, rs.length = len ∧ len ≤ cap ∧ cap ≤ maxLen ∧ (∀ r ∈ rs, good r) ∧ Den (ice P pl W) (.imr false (P.cellsOf e) (rs.map f) (some cap)) (.slice a len cap) ∧ (cap = 0 ∨ ∃ as bs, d = .slice as bs ∧ as.length + bs.length = cap) ∧ (rs = [] ∨ ∃ as bs, d = .slice as bs ∧ AllR rel rs as) := by
  obtain ⟨fuel, hf⟩ := h
  rcases open_slice ht hf with ⟨hcs, _⟩ | ⟨x, l, c, m, n, D, Pl, hcs, hb, hl, hm, hmm, hx, hi⟩
  · simp only [Value.cells, List.cons.injEq, Value.slice.injEq, and_true] at hcs
    obtain ⟨rfl, rfl, rfl⟩ := hcs
    refine ⟨[], rfl, Nat.le_refl _, Nat.zero_le _, (fun r hr => by cases hr), ?_, .inl rfl, .inl rfl⟩
    simp only [Den]
    exact ⟨none, 0, [], rfl, Nat.le_refl _, by decide, fun m hm => by cases hm; rfl, by simp only [List.map_nil, DenR], fun h => absurd rfl h⟩
  · simp only [Value.cells, List.cons.injEq, Value.slice.injEq, and_true] at hcs
    obtain ⟨rfl, rfl, rfl⟩ := hcs
    rw [if_pos rfl] at hmm
    subst hmm
    have hmL : maxLen = 9223372036854775807 := rfl
    have each : ∀ i, i < len → ∃ p : R × List Value, DenC (ice P pl W) (f p.1) p.2 ∧ good p.1 ∧ rel p.1 (D i) ∧ p.2.length = P.cellsOf e ∧ ∀ j, j < P.cellsOf e → W.cell? (x.add (i * P.cellsOf e + j)) = p.2[j]? := fun i hil => by
      obtain ⟨cs', h1, h2⟩ := hi i (by omega)
      obtain ⟨_, hcl, hat⟩ := World.cells?_some h1
      obtain ⟨r, h3, h4, h5⟩ := hel n cs' _ hcl h2
      refine ⟨(r, cs'), h3, h4, h5, hcl, fun j hj => ?_⟩
      rw [← Go.Deep.add_add]
      exact hat j hj
    haveI : Inhabited (R × List Value) := ⟨(default, [])⟩
    obtain ⟨q, hq⟩ := choose_lt each
    obtain ⟨hd, _⟩ := Prod.mk.inj hx
    refine ⟨(List.range len).map fun i => (q i).1, by simp, hl, hm, fun r hr => ?_, ?_, .inr ⟨_, _, hd, by simp; omega⟩, .inr ⟨_, _, hd, allR_map _ fun i hi' => (hq i (List.mem_range.1 hi')).2.2.1⟩⟩
    · obtain ⟨i, hi', rfl⟩ := List.mem_map.1 hr
      exact (hq i (List.mem_range.1 hi')).2.1
    · simp only [Den]
      refine ⟨some x, m, (List.range len).flatMap fun i => (q i).2, by simp, by simpa using hl, by omega, fun m' hm' => by cases hm'; rfl, ?_, fun h0 => ?_⟩
      · have := denR_flat (β := ice P pl W) (f := f) (c := P.cellsOf e) ((List.range len).map q) (fun p hp => by
          obtain ⟨i, hi', rfl⟩ := List.mem_map.1 hp
          have := hq i (List.mem_range.1 hi')
          exact ⟨this.1, this.2.2.2.1⟩)
        simpa only [List.map_map, List.flatMap_map, Function.comp_def] using this
      · obtain ⟨b, o, sp⟩ := x
        obtain ⟨cs0, h1, _⟩ := hi 0 (by omega)
        obtain ⟨_, hcl, hat⟩ := World.cells?_some h1
        have h00 := hat 0 hpos
        simp only [Nat.zero_mul, Addr.add, if_true] at h00
        have hsome : cs0[0]? = some (cs0[0]'(by omega)) := List.getElem?_eq_getElem (by omega)
        rw [hsome] at h00
        simp only [World.cell?] at h00
        cases hbk : W.heap[b]? with
        | none => rw [hbk] at h00; simp at h00
        | some O =>
          rw [hbk] at h00
          cases O with
          | cells cs T fz =>
            cases sp with
            | some s => simp at h00
            | none =>
              refine ⟨b, o, rfl, cs, by simp only [Env.fz, ice, hbk], fun j v hj => ?_⟩
              obtain ⟨i, k, hi1, hk1, rfl, hgk⟩ := flat_at len (fun i hil => (hq i hil).2.2.2.1) j v hj
              have := (hq i hi1).2.2.2.2 k hk1
              rw [hgk] at this
              have hcell : W.cell? ((⟨b, o, none⟩ : Addr).add (i * P.cellsOf e + k)) = cs[o + (i * P.cellsOf e + k)]? := by
                unfold Addr.add
                split
                · rename_i e; rw [e]; simp [World.cell?, hbk]
                · simp [World.cell?, hbk]
              rw [hcell] at this
              exact this
          | _ => simp at h00
end
end Go.SY

/-
  The symbolic machine: numbers that a function writes over are given up.
-/
namespace Go.SY
open Go
def overK (kk : IntKind) (args : List AV) (bl : Bls) : Option (Bool × AV × Bls) := match args with
  | [s] => (match s with
    | .sl l i w' _ _ => (match lvl bl l with
      | some (.num k2 _) => if w' = 1 ∧ k2 = kk then some (decide (i = 0), .tup [], setl bl l none) else none
      | _ => none)
    | .nil => some (true, .tup [], bl)
    | _ => none)
  | _ => none
def OvQ (kk : IntKind) (r : AV) (bl' : Bls) : Prop := r = .tup [] ∧ ∃ ys, bl' = [some (.num kk ys)]
structure OverOk (P : Program) (pl : FuncId → Nat → Option Plan) (g : FuncId) (kk : IntKind) : Prop where
  sl : ∀ (xs : List Int) (n : Nat), Word P pl g [.sl 0 0 1 n none] [some (.num kk xs)] (OvQ kk)
  nl : Word P pl g [.nil] [] (fun r bl' => r = .tup [] ∧ bl' = [])
theorem overK_ok {P : Program} {pl : FuncId → Nat → Option Plan} (hpl : PlOk P pl) {g : FuncId} {kk : IntKind} (h : OverOk P pl g kk) (hF : ∃ F, fi P g = some F) :
    (∃ F, fi P g = some F) ∧ ∀ args bl r bl', overK kk args bl = some (true, r, bl') → Kl bl bl' ∧
    ∀ (β : Env) (w : World) (vs : List Value) (cs : List Frame), Heap β bl w → β.ck = Ck P pl → DenL β args vs →
      ∃ v fr β' w', Steps P (lone (Frame.enter P g vs.toArray .normal) cs w) (lone fr cs w') ∧ fr.leaving P w' (.returned v) ∧ Den β' r v ∧ Ext β bl w β' bl' w' := by
  refine ⟨hF, fun args bl r bl' hx => ?_⟩
  unfold overK at hx
  split at hx
  · rename_i s
    split at hx
    · rename_i l i w' n c
      split at hx
      · rename_i kk2 xs hl
        split at hx
        · rename_i hw
          obtain ⟨rfl, rfl⟩ := hw
          simp only [Option.some.injEq, Prod.mk.injEq, decide_eq_true_eq] at hx
          obtain ⟨rfl, rfl, rfl⟩ := hx
          have hll : l < bl.length := (List.getElem?_eq_some_iff.1 (lvl_get hl)).1
          have hkk := (Kll.kill bl l).app []
          rw [List.append_nil] at hkk
          refine ⟨hkk, fun β w vs cs hh hck hd => ?_⟩
          have hd' : DenL β [.sl l 0 1 n none] vs := by
            simp only [DenL] at hd ⊢
            obtain ⟨y, zs, e, h1, h2⟩ := hd
            exact ⟨y, zs, e, den_capless h1, h2⟩
          obtain ⟨v', fr, β2, w', r, bl', k1, k2, k3, k4, k5⟩ := word_core (bl := bl) hpl [l] (h.sl xs n) (args := [.sl l 0 1 n none]) ⟨_, _, rfl, .inl ⟨by simp [ren, nm], by simp [lvB]⟩, rfl⟩ (by simp) (by simpa using hll) rfl
            ⟨⟨by rw [show nm [l] 0 = l from rfl, hl]; rfl, rfl⟩, trivial⟩
            (fun r bl' hq => by
              obtain ⟨rfl, ys, rfl⟩ := hq
              exact ⟨by simp [okRet, lvB, lvL, okBls, Ct.cell, lvCt], by simp⟩) cs hh hck hd'
          obtain ⟨rfl, ys, rfl⟩ := k3
          have ea : aftT [l] bl [some (.num kk2 ys)] = setl bl l (some (.num kk2 ys)) := by
            simp only [aftT, updT, mapB, List.drop_succ_cons, List.drop_zero, List.length_cons, List.length_nil, List.drop_nil, List.append_nil, renCt]
          rw [ea] at k5
          have hkl := k5.trans (killO_ext k5.heap (some l))
          have : killO (some l) (setl bl l (some (.num kk2 ys))) = setl bl l none := by
            simp only [killO, setl_set, List.set_set]
          rw [this] at hkl
          exact ⟨v', fr, β2, w', k1, k2, k4, hkl⟩
        · cases hx
      · cases hx
    · simp only [Option.some.injEq, Prod.mk.injEq, true_and] at hx
      obtain ⟨rfl, rfl⟩ := hx
      refine ⟨Kl.refl bl, fun β w vs cs hh hck hd => ?_⟩
      obtain ⟨v', fr, β2, w', r, bl', k1, k2, k3, k4, k5⟩ := word_core (bl := bl) hpl [] h.nl (args := [.nil])
        ⟨_, _, rfl, .inl ⟨rfl, rfl⟩, rfl⟩ (by simp) rfl rfl trivial
        (fun r bl' hq => by
          obtain ⟨rfl, rfl⟩ := hq
          exact ⟨rfl, Nat.le_refl _⟩) cs hh hck hd
      obtain ⟨rfl, rfl⟩ := k3
      have ea : aftT [] bl [] = bl := by simp [aftT, updT, mapB]
      rw [ea] at k5
      exact ⟨v', fr, β2, w', k1, k2, k4, k5⟩
    · cases hx
  · cases hx
end Go.SY
