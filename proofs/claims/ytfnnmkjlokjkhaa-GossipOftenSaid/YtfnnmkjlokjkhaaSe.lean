/- The symbolic machine (Sm, Sy45, Sy46, Sy47, Sy48, Sy49, Sy50). -/
import Derived.Test.YtfnnmkjlokjkhaaSd
import Derived.Deep.Slices
import Derived.Deep.Fields
import Derived.Lib.SmallJoins
set_option linter.unusedSimpArgs false
set_option linter.unusedVariables false
/-
  The symbolic machine: a level of numbers told in whole.
-/
namespace Go.SY
open Go
theorem tB_tt (t : Bool) : tB true t = true := by cases t <;> rfl
theorem tB_ft : tB false true = false := rfl
theorem tB_ff : tB false false = true := rfl
theorem todo_bl {P : Program} {β : Env} {bl bl' : Bls} {pr : Option (List Nat)} {fn : FuncId} {n : Nat} {tm : TM} {k : List SI} {tmps : Array Value} {t : List Item} (hk : hdPlain k = true) (h : TodoR P β bl pr fn n tm k tmps t) : TodoR P β bl' pr fn n tm k tmps t := by
  cases k with
  | nil => exact h
  | cons x k => cases x with
    | dr all p A g => simp [hdPlain] at hk
    | _ => exact h
theorem nums_of {k : IntKind} : ∀ {sp : List Value}, (∀ x ∈ sp, SpV (some k) x) → ∃ zs : List Int, sp = zs.map (.int k) ∧ okN k zs
  | [], _ => ⟨[], rfl, fun _ h => by cases h⟩
  | x :: sp, h => by
    obtain ⟨-, h1⟩ := h x (by simp)
    obtain ⟨z, rfl, hz⟩ := h1 k rfl
    obtain ⟨zs, rfl, hzs⟩ := nums_of (sp := sp) fun y hy => h y (by simp [hy])
    exact ⟨z :: zs, rfl, fun y hy => by
      rcases List.mem_cons.1 hy with rfl | hy
      · exact hz
      · exact hzs y hy⟩
section
variable {P : Program} {pl : FuncId → Nat → Option Plan} {C : Ctx} {S : AV → Bls → Prop} {fn : FuncId} {n : Nat} {tm : TM} {k : List SI} {rd : Option Nat} {ms : List Nat} {fs : List Fr} {bl : Bls}
theorem Rch.whole (s : Nat) {l i nn q : Nat} {kk : IntKind} {xs : List Int} (hs : get tm s = .sl l i 1 nn (some q)) (hl : lvl bl l = some (.num kk xs)) (hk : hdPlain k = true)
    (h : ∀ ys, okN kk (xs ++ ys) → (q = 0 ∨ i + q ≤ (xs ++ ys).length) → Rch P pl C ⟨⟨fn, n, tm, k, rd, ms, []⟩ :: fs, setl bl l (some (.num kk (xs ++ ys)))⟩ S) :
    Rch P pl C ⟨⟨fn, n, tm, k, rd, ms, []⟩ :: fs, bl⟩ S := by
  rintro β m ⟨⟨f, fs', fr, ts, w, e, rfl, h1, h2, h3⟩, h4, h5⟩
  simp only [List.cons.injEq] at e
  obtain ⟨rfl, rfl⟩ := e
  have hh := h3.heap
  obtain ⟨tmps, ds, t, ro, rfl, g1, g2, g3⟩ := h1
  simp only at g1 g2 g3 h4 h2 h3 hh
  have hd := (todo_tm (tm' := tm) hk g3).1.2 s
  rw [hs] at hd
  simp only [Den] at hd
  obtain ⟨A, q', -, -, -, hq', hA⟩ := hd
  obtain rfl := hq' _ rfl
  have fin : ∀ ys, okN kk (xs ++ ys) → (q' = 0 ∨ i + q' ≤ (xs ++ ys).length) → Ext β bl w β (setl bl l (some (.num kk (xs ++ ys)))) w → _root_.Go.SY.Fin P C S (lone ((fr0 fn ro).atR ⟨tmps, ds⟩ t) (ts ++ C.cs) w) := fun ys hy1 hy2 hx =>
    h ys hy1 hy2 β _ ⟨⟨_, fs, _, ts, w, rfl, rfl, ⟨tmps, ds, t, ro, rfl, g1, g2, todo_bl hk g3⟩, h2.mono (.refl _) (fun q hq => by cases hq), h3.trans hx⟩, Bot.same (f := ⟨fn, n, tm, k, rd, ms, []⟩) h4 rfl, h5⟩
  obtain ⟨base, hbase, hin⟩ := hh.lv l _ (lvl_get hl)
  cases base with
  | none =>
    have hq0 : q' = 0 := by
      apply Decidable.byContradiction
      intro hne
      obtain ⟨b, sz, hb, -⟩ := hA hne
      rw [hb] at hbase; cases hbase
    have hok : okN kk xs := hin.2
    refine fin [] (by simpa using hok) (.inl hq0) ?_
    rw [List.append_nil, setl_same hl]
    exact .refl hh
  | some p =>
    obtain ⟨b, sz⟩ := p
    obtain ⟨ys, sp, T, fz, hg, hsz, hc, hsp, hfz⟩ := heap_cells hh hl hbase rfl
    simp only [CsDen] at hc
    obtain ⟨rfl, hok⟩ := hc
    obtain ⟨zs, rfl, hzs⟩ := nums_of hsp
    refine fin zs (okN_append hok hzs) ?_ ?_
    · by_cases hq0 : q' = 0
      · exact .inl hq0
      · obtain ⟨b', sz', hb, -, hf⟩ := hA hq0
        rw [hbase] at hb
        simp only [Option.some.injEq, Prod.mk.injEq] at hb
        obtain ⟨rfl, rfl⟩ := hb
        simp only [List.length_map] at hsz
        simp only [List.length_append]
        omega
    · have hwr := hh.write2 (c' := .num kk (xs ++ zs)) (ys' := (xs ++ zs).map (Value.int kk)) (sp' := []) (lvl_get hl) hbase hg (by simpa using hsz) (fun x hx => by cases hx) hfz ⟨rfl, okN_append hok hzs⟩
      have e1 : (xs ++ zs).map (Value.int kk) ++ [] = xs.map (Value.int kk) ++ zs.map (Value.int kk) := by simp
      rw [e1, setRow_self w b _ T fz hg, ← setl_set] at hwr
      exact hwr
end
end Go.SY
/-
  The symbolic machine: a slice of nothing against nil.
-/
namespace Go.SY
open Go
section
variable {P : Program} {pl : FuncId → Nat → Option Plan} {C : Ctx} {S : AV → Bls → Prop} {fn : FuncId} {n : Nat} {tm : TM} {k : List SI} {rd : Option Nat} {ms lk : List Nat} {fs : List Fr} {bl : Bls}
end
end Go.SY
/-
  The symbolic machine: code under names, unfolded where it is to be run.
-/
namespace Go.SY
open Go
def regAt : List Nat → Code → Array Oper
  | [], .region _ a _ => a
  | i :: r, .seq x y => (match i with
    | 0 => regAt r x
    | _ => regAt r y)
  | _ :: r, .block _ c => regAt r c
  | _ :: r, .scope c => regAt r c
  | _ :: r, .loop c => regAt r c
  | i :: r, .cond _ x y => (match i with
    | 1 => regAt r x
    | _ => regAt r y)
  | i :: r, .rangeFunc _ _ x y => (match i with
    | 2 => regAt r x
    | _ => regAt r y)
  | _, _ => #[]
end Go.SY
/-
  The symbolic machine: runs by simp once more, as a thing that the kernel can't unfold (what is left of the steps costs nothing then).
-/
namespace Go.SY
open Go Go.RowKit
structure ExQ (P : Program) (K : KT) (pl : FuncId → Nat → Option Plan) (st : List Nat) (n : Nat) (o : Option (Bool × Conf)) (c : Conf) (S : AV → Bls → Prop) (R : Conf → Prop) : Prop where
  mk :: (out : ExS P K pl st n o c S R)
structure ExH (P : Program) (K : KT) (pl : FuncId → Nat → Option Plan) (st : List Nat) (n : Nat) (c : Conf) (S : AV → Bls → Prop) (R : Conf → Prop) : Prop where
  mk :: (out : ExS P K pl st n none c S R)
section
variable {P : Program} {K : KT} {pl : FuncId → Nat → Option Plan} {st : List Nat} {n : Nat} {c c1 c2 : Conf} {S : AV → Bls → Prop} {R : Conf → Prop}
theorem exq_eq {o : Option (Bool × Conf)} : ExQ P K pl st n o c S R = ExS P K pl st n o c S R := propext ⟨fun h => h.out, fun h => ⟨h⟩⟩
theorem exh : ExH P K pl st n c S R = ExQ P K pl st n none c S R := propext ⟨fun h => ⟨h.out⟩, fun h => ⟨h.out⟩⟩
theorem exq_zero : ExQ P K pl st 0 none c S R = R c := by rw [exq_eq, exs_zero]
theorem exq_go {f : Fr} {fs : List Fr} {bl : Bls} : ExQ P K pl st (n + 1) none ⟨f :: fs, bl⟩ S R = (match stops st ⟨f :: fs, bl⟩ with
      | true => R ⟨f :: fs, bl⟩
      | false => (match stepF P K pl false ⟨f :: fs, bl⟩ with
        | .next vc c' => vc = true ∧ ExQ P K pl st n none c' S R
        | .split b c1 c2 => ExQ P K pl st n (some (b, c2)) c1 S R
        | .fin vc r bl => vc = true ∧ S r bl
        | .stop => R ⟨f :: fs, bl⟩)) := by
  simp only [exq_eq]
  exact exs_go
theorem exq_t : ExQ P K pl st (n + 1) (some (true, c2)) c1 S R = ExQ P K pl st n none c1 S R := by simp only [exq_eq, exs_t]
theorem exq_f : ExQ P K pl st (n + 1) (some (false, c2)) c1 S R = ExQ P K pl st n none c2 S R := by simp only [exq_eq, exs_f]
theorem exq_t0 : ExQ P K pl st 0 (some (true, c2)) c1 S R = R c1 := by simp only [exq_eq, exs_t0]
theorem exq_f0 : ExQ P K pl st 0 (some (false, c2)) c1 S R = R c2 := by simp only [exq_eq, exs_f0]
theorem exq_sp {b : Bool} : ExQ P K pl st (n + 1) (some (b, c2)) c1 S R = ((b = true → ExH P K pl st n c1 S R) ∧ (b = false → ExH P K pl st n c2 S R)) := by
  rw [exq_eq]
  simp only [ExS, exh, exq_eq]
theorem exq_d {p : Prop} [Decidable p] : ExQ P K pl st (n + 1) (some (decide p, c2)) c1 S R = ((decide p = true → ExH P K pl st n c1 S R) ∧ (decide p = false → ExH P K pl st n c2 S R)) := exq_sp
theorem exq_n {b : Bool} : ExQ P K pl st (n + 1) (some (!b, c2)) c1 S R = ((b = false → ExH P K pl st n c1 S R) ∧ (b = true → ExH P K pl st n c2 S R)) := by
  rw [exq_sp]
  cases b <;> simp
theorem exq_cd {c c' : Code} (h : c = c') {n m : Nat} {fn : FuncId} {tm : TM} {k : List SI} {rd : Option Nat} {ms lk : List Nat} {fs : List Fr} {bl : Bls} :
    ExQ P K pl st (n + 1) none ⟨⟨fn, m, tm, .code c :: k, rd, ms, lk⟩ :: fs, bl⟩ S R = ExQ P K pl st (n + 1) none ⟨⟨fn, m, tm, .code c' :: k, rd, ms, lk⟩ :: fs, bl⟩ S R := by subst h; rfl
abbrev CdEq (c c' : Code) : Prop := ∀ (P : Program) (K : KT) (pl : FuncId → Nat → Option Plan) (st : List Nat) (S : AV → Bls → Prop) (R : Conf → Prop) (n m : Nat) (fn : FuncId) (tm : TM) (k : List SI) (rd : Option Nat) (ms lk : List Nat) (fs : List Fr) (bl : Bls),
    ExQ P K pl st (n + 1) none ⟨⟨fn, m, tm, .code c :: k, rd, ms, lk⟩ :: fs, bl⟩ S R = ExQ P K pl st (n + 1) none ⟨⟨fn, m, tm, .code c' :: k, rd, ms, lk⟩ :: fs, bl⟩ S R
theorem cdEq {c c' : Code} (h : c = c') : CdEq c c' := fun _ _ _ _ _ _ _ _ _ _ _ _ _ _ _ _ => exq_cd h
theorem ExQ_ok (st : List Nat) (n : Nat) (hpl : PlOk P pl) (hK : KOk P pl K) {C : Ctx} (h : ExQ P K pl st n none c S (fun c => Rch P pl C c S)) : Rch P pl C c S := ExS_ok st n hpl hK h.out
theorem law_walk (hpl : PlOk P pl) {f : FuncId} {F : FI} {args : List AV} {S : AV → Bls → Prop} (hF : fi P f = some F) (hn : args.length ≤ F.n) (hS : ∀ r bl, S r bl → r = .v (.bool true))
    (h : ∀ C : Ctx, C.β.b = [] → C.bl = [] → Rch P pl C (conf0 f F args []) S) {w : World} {vs : List Value} (hd : DenL (ice P pl w) args vs) : Calls P f vs.toArray w fun e w' => e = .returned (.bool true) ∧ Below w.heap.size w w' :=
  law_calls hpl hF hn hS hd h
end
end Go.SY
/-
  The symbolic machine: a word for a closed call (its arguments told).
-/
namespace Go.SY
open Go Go.RowKit
theorem runA_word {P : Program} {T : Pls} {K : KT} (hpl : PlOk P (plOf T)) (hK : KOk P (plOf T) K) {g : FuncId} {F : FI} (hF : fi P g = some F) {n : Nat} {args : List AV} {r : AV} (hr : runA P K T n g args = some r) (he : r = ren (nm []) r) :
    args.length ≤ F.n ∧ ∀ C : Ctx, C.β.b = [] → C.bl = [] → Rch P (plOf T) C (conf0 g F args []) (Res r []) := by
  unfold runA at hr
  rw [hF] at hr
  dsimp only at hr
  split at hr
  · rename_i hn
    split at hr
    · rename_i r' bl' e
      obtain rfl := Option.some.inj hr
      rw [runQ_eq] at e
      exact ⟨of_decide_eq_true hn, fun C _ _ => runK_ok hpl hK ⟨[], List.nodup_nil, rfl, he, fun l c h => by simp at h⟩ e⟩
    · cases hr
  · cases hr
end Go.SY
/-
  The symbolic machine: comparisons that the context decides (simp with omega as its discharger).
-/
namespace Go.SY
open Go
section
variable {P : Program} {pl : FuncId → Nat → Option Plan} {C : Ctx} {S : AV → Bls → Prop} {fn : FuncId} {n : Nat} {tm : TM} {k : List SI} {rd : Option Nat} {ms lk : List Nat} {fs : List Fr} {bl : Bls}
end
end Go.SY
/-
  The symbolic machine: states under other names, the frames that wait for a call included (their operation bears no guard).
-/
namespace Go.SY
open Go
def okK2 (N : Nat) : List SI → Bool
  | .ops _ (o :: _) (some true) :: k => o.guard.isNone && k.all (okSI N)
  | k => k.all (okSI N)
structure FitF2 (ρ : Nat → Nat) (N : Nat) (f f' : Fr) : Prop where
  fn : f.fn = f'.fn
  n : f.n = f'.n
  tm : fitT ρ f.tm f'.tm
  lt : lvT N true f'.tm = true
  k : f.k = f'.k.map (renSI ρ)
  ok : okK2 N f'.k = true
  rd : f.rd = f'.rd.map ρ
  rl : ∀ l, f'.rd = some l → l < N
  ms : f.ms = f'.ms.map ρ
  ml : f'.ms.all (fun l => decide (l < N)) = true
  lk : f.lk = []
  lk' : f'.lk = []
def FitFs2 (ρ : Nat → Nat) (N : Nat) : List Fr → List Fr → Prop
  | [], fs' => fs' = []
  | f :: fs, fs' => ∃ f' fs2, fs' = f' :: fs2 ∧ FitF2 ρ N f f' ∧ FitFs2 ρ N fs fs2
structure Fit2 (R : List Nat) (c c' : Conf) : Prop where
  nd : R.Nodup
  len : R.length = c'.bl.length
  fs : FitFs2 (nm R) c'.bl.length c.fs c'.fs
  bl : FitB (nm R) c'.bl.length c.bl 0 c'.bl
section
variable {P : Program} {β β' : Env} {ρ : Nat → Nat} {N : Nat} {bl bl' : Bls}
end
theorem Kp.updT {τ : Nat → Nat} {lk : List Nat} : ∀ {σ : List Nat} {bs bl : Bls}, (∀ q ∈ lk, q ∉ σ) → Kp lk bl (Go.SY.updT τ σ bs bl)
  | [], _, _, _ => Kp.refl _ _
  | _ :: _, [], _, _ => Kp.refl _ _
  | s :: σ, b :: bs, bl, h => by
    simp only [Go.SY.updT]
    exact Kp.trans (Kp.out fun hs => h s hs (List.mem_cons_self ..)) (Kp.updT fun q hq hm => h q hq (List.mem_cons_of_mem _ hm))
section
variable {P : Program} {pl : FuncId → Nat → Option Plan}
end
end Go.SY
/-
  The symbolic machine: slices of structs, of slices .. that a row hands in are frozen data.
-/
namespace Go.SY
open Go Go.RowKit Go.ChangeShapes Go.WideShapes Go.Deep
section
variable {H : Type} {enc : TypeId × Value → H} {P : Program} {pl : FuncId → Nat → Option Plan} {W : World} {base : Nat} {held : Bool}
end
def flatA : AV → Bool
  | .v _ => true
  | .imn false _ _ _ => true
  | .ch _ _ _ => true
  | _ => false
theorem flatA_ren {x : AV} (h : flatA x = true) (ρ : Nat → Nat) : ren ρ x = x := by
  cases x <;> first | rfl | (simp [flatA] at h; done)
theorem flatA_lv {x : AV} (h : flatA x = true) (N : Nat) (T : Bool) : lvB N T x = true := by
  cases x <;> first | rfl | (simp [flatA] at h; done) | skip
  rename_i t _ _ _
  cases t
  · cases T <;> rfl
  · simp [flatA] at h
theorem flatL_ren {xs : List AV} (h : xs.all flatA = true) (ρ : Nat → Nat) : renL ρ xs = xs := by
  induction xs with
  | nil => rfl
  | cons x r ih =>
    simp only [List.all_cons, Bool.and_eq_true] at h
    simp only [renL, flatA_ren h.1, ih h.2]
theorem flatL_lv {xs : List AV} (h : xs.all flatA = true) (N : Nat) (T : Bool) : lvL N T xs = true := by
  induction xs with
  | nil => rfl
  | cons x r ih =>
    simp only [List.all_cons, Bool.and_eq_true] at h
    simp only [lvL, flatA_lv h.1, ih h.2, Bool.and_self]
structure FlatR (rs : List (List AV)) : Prop where
  ren : ∀ ρ, renR ρ rs = rs
  lv : ∀ N T, lvR N T rs = true
theorem FlatR.of {rs : List (List AV)} (h : ∀ r ∈ rs, r.all flatA = true) : FlatR rs := by
  induction rs with
  | nil => exact ⟨fun _ => rfl, fun _ _ => rfl⟩
  | cons r rs ih =>
    have h1 := h r (List.mem_cons_self ..)
    have h2 := ih fun q hq => h q (List.mem_cons_of_mem _ hq)
    exact ⟨fun ρ => by simp only [renR, flatL_ren h1, h2.ren], fun N T => by simp only [lvR, flatL_lv h1, h2.lv, Bool.and_self]⟩
end Go.SY
/-
  The symbolic machine: rows that came in held against nil; a nil slice of rows, as one of nothing.
-/
namespace Go.SY
open Go Go.RowKit
section
variable {P : Program} {pl : FuncId → Nat → Option Plan} {C : Ctx} {S : AV → Bls → Prop} {fn : FuncId} {n : Nat} {tm : TM} {k : List SI} {rd : Option Nat} {ms lk : List Nat} {fs : List Fr} {bl : Bls}
theorem Rch.eqnilR {all : Array Oper} {o : Oper} {os : List Oper} {s : Nat} {t u : TypeId} {T : TI} {e : TypeId} {sz by_ : Nat} {tt : Bool} {w0 : Nat} {xs : List (List AV)} {c : Option Nat} (hg : o.guard = none) (hop : o.op = .binOp .eql t (.tmp s) (.const (.slice none 0 0)) u) (hT : ti P t = some T) (hk : T.kd = .slice e sz by_) (hs : get tm s = .imr tt w0 xs c)
    (h : ∀ b, Rch P pl C ⟨⟨fn, n, put n tm o.dst (.v (.bool b)), .ops all os none :: k, rd, ms, lk⟩ :: fs, bl⟩ S) : Rch P pl C ⟨⟨fn, n, tm, .ops all (o :: os) none :: k, rd, ms, lk⟩ :: fs, bl⟩ S := by
  rintro β m ⟨⟨f, fs', fr, ts, w, e1, rfl, h1, h2, h3⟩, h4, h5⟩
  simp only [List.cons.injEq] at e1
  obtain ⟨rfl, rfl⟩ := e1
  obtain ⟨tmps, ds, i, t', ro, rfl, ho, hos, htm, g1, g2, g3, g4, g5, g6⟩ := ops_at h1
  obtain ⟨hut, -, -⟩ := kd_slice hT hk
  have hd := htm.2 s
  rw [hs] at hd
  simp only [Den] at hd
  obtain ⟨A, q, ys, hA, -⟩ := hd
  have hpo := htm.poised all o
  have hws : WS all n tm o.guard true := by rw [hg]; rfl
  have hrun : (execOp (evT tmps) o).run P w = .ok (.value (.bool A.isNone)) w := by
    have ex : evT tmps (.tmp s) = .slice A xs.length q := hA
    refine binOp_exec hop ?_ ?_
    · rw [ex]
      exact eqGuard_run (.inr ⟨rfl, by simp⟩)
    · rw [ex]
      show (binOp .eql t (.slice A xs.length q) (.slice none 0 0)).run P w = _
      have e1 : binOp .eql t (.slice A xs.length q) (.slice none 0 0) = (do pure (.bool (← Op.equal t (.slice A xs.length q) (.slice none 0 0)))) := rfl
      rw [e1, equal_unfold]
      simp only [Sem.run_bind, slice_nil_run hut, Result.andThen_ok, Sem.run_pure]
  have hnd : ∀ c, o.op ≠ .defer c := fun c => by rw [hop]; simp
  have hst : step P (lone ((fr0 fn ro).atR ⟨tmps, ds⟩ (.inRegion all (i :: List.range' (i + 1) (all.size - (i + 1))) :: t')) (ts ++ C.cs) w) = .next (lone ((fr0 fn ro).atR ⟨putV tmps o.dst (.bool A.isNone), ds⟩ (.inRegion all (List.range' (i + 1) (all.size - (i + 1))) :: t')) (ts ++ C.cs) w) := by
    have hgg := stepGR_op (P := P) (b := fr0 fn ro) (a := ⟨tmps, ds⟩) (k := t') (cs := ts ++ C.cs) (w := w) (rest := List.range' (i + 1) (all.size - (i + 1))) ho (hpo.wt true hws)
    rw [Oper.semAt_eq _ _ _ hnd, eval_act] at hgg
    have hfin := Frame.finish_atR (fr0 fn ro) ⟨tmps, ds⟩ all i (List.range' (i + 1) (all.size - (i + 1))) t' (.bool A.isNone)
    rw [ho] at hfin
    simp only [Option.bind_some, put_act] at hfin
    refine step_lone_go ?_
    rw [hgg, ← hfin]
    simp [stepG.apply, hrun]
  refine Fin.steps (.one hst) (h A.isNone β _ ⟨⟨_, fs, _, ts, w, rfl, rfl, ⟨_, ds, _, ro, rfl, g1, g2, (htm.put (mk_bool _) o.dst), ?_, fun b hb => by cases hb⟩, h2, h3⟩, Bot.same (f := ⟨fn, n, tm, .ops all (o :: os) none :: k, rd, ms, lk⟩) h4 rfl, h5⟩)
  exact ⟨_, t', rfl, ⟨rfl, i + 1, hos, rfl⟩, g3⟩
theorem Rch.nilslR (s i w wr : Nat) (hs : get tm s = .nil) (hk : hdPlain k = true) (h : Rch P pl C ⟨⟨fn, n, (s, .sl bl.length i w 0 none) :: tm, k, rd, ms, []⟩ :: fs, bl ++ [some (.rows wr [])]⟩ S) : Rch P pl C ⟨⟨fn, n, tm, k, rd, ms, []⟩ :: fs, bl⟩ S := by
  rintro β m ⟨⟨f, fs', fr, ts, w', e1, rfl, h1, h2, h3⟩, h4, h5⟩
  simp only [List.cons.injEq] at e1
  obtain ⟨rfl, rfl⟩ := e1
  have hh := h3.heap
  obtain ⟨tmps, ds, t, ro, rfl, g1, g2, g3⟩ := h1
  have hx := hh.nothing (c := .rows wr []) (by simp only [CsDen, DenR])
  have g3' : TodoR P β bl (some []) fn n tm k tmps t := by
    cases k with
    | nil => exact g3
    | cons x k => cases x with
      | dr all p A g => simp [hdPlain] at hk
      | _ => exact g3
  have g4 := TodoR.mono (bl' := bl ++ [some (.rows wr [])]) g3' hx.le (Kp.app _ _ _)
  have g5 := todo_tm (tm' := (s, .sl bl.length i w 0 none) :: tm) hk g4
  have g6 : TodoR P { β with b := β.b ++ [none] } (bl ++ [some (.rows wr [])]) none fn n ((s, .sl bl.length i w 0 none) :: tm) k tmps t := by
    have htm : TmOk { β with b := β.b ++ [none] } n ((s, .sl bl.length i w 0 none) :: tm) tmps := by
      refine ⟨g5.1.1, fun s' => ?_⟩
      simp only [get]
      split
      · rename_i e
        subst e
        have := g5.1.2 s
        rw [hs] at this
        simp only [Den] at this ⊢
        exact ⟨none, 0, this, Nat.le_refl _, by decide, (fun m hm => by cases hm), fun h => absurd rfl h⟩
      · exact g5.1.2 s'
    have g7 := g5.2 htm
    cases k with
    | nil => exact g7
    | cons x k => cases x with
      | dr all p A g => simp [hdPlain] at hk
      | _ => exact g7
  exact h _ _ ⟨⟨_, fs, _, ts, w', rfl, rfl, ⟨tmps, ds, t, ro, rfl, g1.mono hx.le, g2.mono hx.le, g6⟩, h2.mono hx.le (Kp.app _ _ _), h3.trans hx⟩, Bot.same (f := ⟨fn, n, tm, k, rd, ms, []⟩) h4 rfl, hx.le.ck.trans h5⟩
end
end Go.SY
/- A symbolic machine: words for what is less known; nil slices as slices of nothing; rows that are one slice of bytes. -/
namespace Go.SY
open Go
theorem Rch.tms {P : Program} {pl : FuncId → Nat → Option Plan} {C : Ctx} {S : AV → Bls → Prop} {fn : FuncId} {n : Nat} {tm tm' : TM} {k : List SI} {rd : Option Nat} {ms lk : List Nat} {fs : List Fr} {bl : Bls}
    (hx : ∀ (β : Env) s v, Den β (get tm s) v → Den β (get tm' s) v) (hk : hdPlain k = true)
    (h : Rch P pl C ⟨⟨fn, n, tm', k, rd, ms, lk⟩ :: fs, bl⟩ S) : Rch P pl C ⟨⟨fn, n, tm, k, rd, ms, lk⟩ :: fs, bl⟩ S := by
  rintro β m ⟨⟨f, fs0, fr, ts, w, e, rfl, h1, h2, h3⟩, h4, h5⟩
  simp only [List.cons.injEq] at e
  obtain ⟨rfl, rfl⟩ := e
  obtain ⟨tmps, ds, t, ro, rfl, g1, g2, g3⟩ := h1
  simp only at g1 g2 g3 h2
  have ht := (todo_tm (tm' := tm) hk g3).1
  have ht' : TmOk β n tm' tmps := ⟨ht.1, fun s' => hx β s' _ (ht.2 s')⟩
  exact h β _ ⟨⟨_, _, _, ts, w, rfl, rfl, ⟨tmps, ds, t, ro, rfl, g1, g2, (todo_tm hk g3).2 ht'⟩, h2, h3⟩, Bot.same h4 rfl, h5⟩
def mapI (φ : Nat → AV → AV) : Nat → List AV → List AV
  | _, [] => []
  | i, x :: r => φ i x :: mapI φ (i + 1) r
theorem mapI_len {φ : Nat → AV → AV} : ∀ {i : Nat} {xs : List AV}, (mapI φ i xs).length = xs.length
  | _, [] => rfl
  | _, _ :: _ => by simp [mapI, mapI_len]
theorem get_mapI {φ : Nat → AV → AV} {β : Env} (hφ : ∀ i x v, Den β x v → Den β (φ i x) v) {s : Nat} {v : Value} : ∀ {i : Nat} {xs : List AV}, Den β (get (ini i xs) s) v → Den β (get (ini i (mapI φ i xs)) s) v
  | _, [], h => h
  | i, x :: xs, h => by
    simp only [mapI, ini, get] at h ⊢
    split
    · rename_i e
      rw [if_pos e] at h
      exact hφ _ _ _ h
    · rename_i e
      rw [if_neg e] at h
      exact get_mapI hφ h
theorem SpecOk.weak {P : Program} {pl : FuncId → Nat → Option Plan} {g : FuncId} {spec : List AV → Option (Bool × AV × Bls)} (h : SpecOk P pl g spec) (φ : Nat → AV → AV) (hφ : ∀ β i x v, Den β x v → Den β (φ i x) v) : SpecOk P pl g (fun args => spec (mapI φ 0 args)) := by
  obtain ⟨F, hF, h2⟩ := h
  refine ⟨F, hF, fun args r bl1 e => ?_⟩
  obtain ⟨h3, h4⟩ := h2 _ r bl1 e
  rw [mapI_len] at h3
  exact ⟨h3, fun C hC hb => Rch.tms (fun β s v hd => get_mapI (hφ β) hd) rfl (h4 C hC hb)⟩
def nilR (w : Nat) : AV → AV
  | .nil => .imr false w [] none
  | x => x
theorem nilR_den {β : Env} (w : Nat) {x : AV} {v : Value} (h : Den β x v) : Den β (nilR w x) v := by
  unfold nilR
  split
  · simp only [Den] at h ⊢
    exact ⟨none, 0, [], h, Nat.le_refl _, by decide, (fun m hm => by cases hm), (by simp only [DenR]), fun h => absurd rfl h⟩
  · exact h
end Go.SY
/-
  The symbolic machine: slices that a row hands in, with what is known of their data (for statements with a bound on the bulk).
-/
namespace Go.SY
open Go Go.RowKit Go.ChangeShapes Go.WideShapes Go.Deep
section
variable {H : Type} {enc : TypeId × Value → H} {P : Program} {pl : FuncId → Nat → Option Plan} {W : World} {base : Nat} {held : Bool}
end
end Go.SY
/-
  The symbolic machine: numbers that a function writes over are given up.
-/
namespace Go.SY
open Go
def OvQ (kk : IntKind) (r : AV) (bl' : Bls) : Prop := r = .tup [] ∧ ∃ ys, bl' = [some (.num kk ys)]
structure OverOk (P : Program) (pl : FuncId → Nat → Option Plan) (g : FuncId) (kk : IntKind) : Prop where
  sl : ∀ (xs : List Int) (n : Nat), Word P pl g [.sl 0 0 1 n none] [some (.num kk xs)] (OvQ kk)
  nl : Word P pl g [.nil] [] (fun r bl' => r = .tup [] ∧ bl' = [])
end Go.SY
/-
  The symbolic machine: memory told with less (ghost steps); contracts of functions on objects: roots stay where they are, what hangs on them is told anew.
-/
namespace Go.SY
open Go
def Wk (bl bl2 : Bls) : Prop := ∀ (β : Env) (w : World), Heap β bl w → ∃ β', Ext β bl w β' bl2 w
theorem Wk.refl (bl : Bls) : Wk bl bl := fun β _ h => ⟨β, .refl h⟩
theorem Wk.trans {a b c : Bls} (h : Wk a b) (k : Wk b c) : Wk a c := fun β w hh => by
  obtain ⟨β1, e1⟩ := h β w hh
  obtain ⟨β2, e2⟩ := k β1 w e1.heap
  exact ⟨β2, e1.trans e2⟩
theorem Heap.recast {β : Env} {w : World} {bl : Bls} {l : Nat} {c c' : Ct} (h : Heap β bl w) (hl : bl[l]? = some (some c)) (hc : ∀ base, CtIn β w base c → CtIn β w base c') : Ext β bl w β (bl.set l (some c')) w := by
  have hllt : l < bl.length := (List.getElem?_eq_some_iff.1 hl).1
  have get : ∀ {m : Nat} {c0 : Ct}, (bl.set l (some c'))[m]? = some (some c0) → (m = l ∧ c0 = c') ∨ (m ≠ l ∧ bl[m]? = some (some c0)) := by
    intro m c0 hm
    rw [List.getElem?_set] at hm
    split at hm
    · rename_i e
      subst e
      try rw [if_pos hllt] at hm
      exact .inl ⟨rfl, (Option.some.inj (Option.some.inj hm)).symm⟩
    · rename_i e
      exact .inr ⟨fun h => e h.symm, hm⟩
  have old : ∀ {m : Nat} {c0 : Ct}, (bl.set l (some c'))[m]? = some (some c0) → ∃ c1, bl[m]? = some (some c1) := by
    intro m c0 hm
    rcases get hm with ⟨rfl, -⟩ | ⟨-, h⟩
    · exact ⟨c, hl⟩
    · exact ⟨c0, h⟩
  have ownk : ∀ b', Owned β (bl.set l (some c')) b' → Owned β bl b' := by
    rintro b' ⟨m, c0, s', hm, hb'⟩
    obtain ⟨c1, h1⟩ := old hm
    exact ⟨m, c1, s', h1, hb'⟩
  refine ⟨.refl _, ⟨by simpa using h.len, fun m c0 hm => ?_, fun m m' c0 c1 b0 s0 s1 hne h1 h2 => ?_, fun t b' cs' hz => ?_⟩, .refl _ _, fun b' hb' => .inl (ownk b' hb'), fun b' cs' hz => .inl hz, rfl⟩
  · rcases get hm with ⟨rfl, rfl⟩ | ⟨hne, hm⟩
    · obtain ⟨base, e, hin⟩ := h.lv m c hl
      exact ⟨base, e, hc base hin⟩
    · exact h.lv m c0 hm
  · obtain ⟨c2, g1⟩ := old h1
    obtain ⟨c3, g2⟩ := old h2
    exact h.sep m m' c2 c3 b0 s0 s1 hne g1 g2
  · obtain ⟨h1, hno⟩ := h.frz t b' cs' hz
    exact ⟨h1, fun ho => hno (ownk b' ho)⟩
theorem Wk.lit {bl : Bls} {l : Nat} {cs cs' : List AV} (hl : lvl bl l = some (.lit cs)) (h : ∀ β ys, DenC β cs ys → DenC β cs' ys) : Wk bl (setl bl l (some (.lit cs'))) := fun β w hh => by
  refine ⟨β, ?_⟩
  rw [setl_set]
  refine hh.recast (lvl_get hl) fun base hin => ?_
  unfold CtIn at hin ⊢
  cases base with
  | none => exact h β _ hin
  | some p =>
    obtain ⟨b, s⟩ := p
    rcases hin with ⟨-, ys, sp, T, fz, h1, h2, h3, h4, h5⟩ | ⟨h0, -⟩
    · exact .inl ⟨rfl, ys, sp, T, fz, h1, h2, h β _ h3, h4, h5⟩
    · cases h0
theorem Wk.cut {bl : Bls} {l n : Nat} {k : IntKind} {xs : List Int} (hl : lvl bl l = some (.num k xs)) : Wk bl (setl bl l (some (.num k (xs.take n)))) := fun β w hh => by
  refine ⟨β, ?_⟩
  rw [setl_set]
  refine hh.recast (lvl_get hl) fun base hin => ?_
  unfold CtIn at hin ⊢
  cases base with
  | none =>
    simp only [CsDen] at hin ⊢
    obtain ⟨e, h2⟩ := hin
    have : xs = [] := List.map_eq_nil_iff.1 e.symm
    subst this
    exact ⟨by simp, by simpa using h2⟩
  | some p =>
    obtain ⟨b, s⟩ := p
    rcases hin with ⟨-, ys, sp, T, fz, h1, h2, h3, h4, h5⟩ | ⟨h0, -⟩
    · simp only [CsDen] at h3
      obtain ⟨rfl, hok⟩ := h3
      have hok1 := okN_take hok n
      have hok2 := okN_drop hok n
      refine .inl ⟨rfl, (xs.take n).map (.int k), (xs.drop n).map (.int k) ++ sp, T, fz, ?_, ?_, ⟨rfl, hok1⟩, fun x hx => ?_, h5⟩
      · rw [← List.append_assoc, ← List.map_append, List.take_append_drop]
        exact h1
      · rw [List.length_map, List.length_append, List.length_map, ← h2, List.length_map, ← Nat.add_assoc, ← List.length_append, List.take_append_drop]
      · rcases List.mem_append.1 hx with hx | hx
        · exact SpV.num hok2 x hx
        · exact h4 x hx
    · cases h0
theorem Wk.none (bl : Bls) (k : IntKind) : Wk bl (bl ++ [some (.num k [])]) := fun β w hh => ⟨_, hh.nothing (c := .num k []) ⟨rfl, fun _ h => by cases h⟩⟩
theorem Wk.noneR (bl : Bls) (w : Nat) : Wk bl (bl ++ [some (.rows w [])]) := fun β w' hh => ⟨_, hh.nothing (c := .rows w []) (by simp only [CsDen, DenR])⟩
theorem Wk.kill (bl : Bls) (l : Nat) : Wk bl (setl bl l Option.none) := fun β w hh => ⟨β, by rw [setl_set]; exact hh.kill l⟩
theorem den_nilsl {β : Env} {l i w : Nat} {v : Value} (h : Den β .nil v) : Den β (.sl l i w 0 none) v := by
  simp only [Den] at h ⊢
  exact ⟨none, 0, h, Nat.le_refl _, by decide, (fun m hm => by cases hm), fun h => absurd rfl h⟩
theorem denC_cell {x x' : AV} (hs : x.scal = true) (hs' : x'.scal = true) (h : ∀ β v, Den β x v → Den β x' v) : ∀ {pre : List AV} {post : List AV} {β : Env} {ys : List Value}, DenC β (pre ++ x :: post) ys → DenC β (pre ++ x' :: post) ys
  | [], post, β, ys, hd => by
    simp only [List.nil_append] at hd ⊢
    obtain ⟨y, zs, e, h1, h2, h3⟩ := (denC_cons hs).1 hd
    exact (denC_cons hs').2 ⟨y, zs, e, h _ _ h1, h2, h3⟩
  | p :: pre, post, β, ys, hd => by
    simp only [List.cons_append] at hd ⊢
    rcases denC_case hd with ⟨hp, y, zs, e, h1, h2, h3⟩ | ⟨n, k, ns, rfl, zs, e, h1, h2, h3⟩
    · exact (denC_cons hp).2 ⟨y, zs, e, h1, h2, denC_cell hs hs' h h3⟩
    · exact denC_ch.2 ⟨zs, e, h1, h2, denC_cell hs hs' h h3⟩
theorem Rch.wk {P : Program} {pl : FuncId → Nat → Option Plan} {C : Ctx} {S : AV → Bls → Prop} {fn : FuncId} {n : Nat} {tm : TM} {k : List SI} {rd : Option Nat} {ms : List Nat} {fs : List Fr} {bl bl2 : Bls} (hk : hdPlain k = true) (hw : Wk bl bl2)
    (h : Rch P pl C ⟨⟨fn, n, tm, k, rd, ms, []⟩ :: fs, bl2⟩ S) : Rch P pl C ⟨⟨fn, n, tm, k, rd, ms, []⟩ :: fs, bl⟩ S := by
  rintro β m ⟨⟨f, fs', fr, ts, w', e1, rfl, h1, h2, h3⟩, h4, h5⟩
  simp only [List.cons.injEq] at e1
  obtain ⟨rfl, rfl⟩ := e1
  have hh := h3.heap
  obtain ⟨tmps, ds, t, ro, rfl, g1, g2, g3⟩ := h1
  obtain ⟨β', hx⟩ := hw β w' hh
  have g3' : TodoR P β bl (some []) fn n tm k tmps t := by
    cases k with
    | nil => exact g3
    | cons x k => cases x with
      | dr all p A g => simp [hdPlain] at hk
      | _ => exact g3
  have g4 := TodoR.mono (bl' := bl2) g3' hx.le (fun q hq => by cases hq)
  have g6 : TodoR P β' bl2 none fn n tm k tmps t := by
    cases k with
    | nil => exact g4
    | cons x k => cases x with
      | dr all p A g => simp [hdPlain] at hk
      | _ => exact g4
  exact h _ _ ⟨⟨_, fs, _, ts, w', rfl, rfl, ⟨tmps, ds, t, ro, rfl, g1.mono hx.le, g2.mono hx.le, g6⟩, h2.mono hx.le (fun q hq => by cases hq), h3.trans hx⟩, Bot.same (f := ⟨fn, n, tm, k, rd, ms, []⟩) h4 rfl, hx.le.ck.trans h5⟩
def ResP (p : Nat) (r : AV) (bl1 : Bls) (r' : AV) (bl' : Bls) : Prop := ∃ R : List Nat, R.Nodup ∧ R.length = bl1.length ∧ R.take p = List.range p ∧ r' = ren (nm R) r ∧ ∀ l c, bl1[l]? = some (some c) → bl'[nm R l]? = some (some (renCt (nm R) c))
def DenW (r r2 : AV) : Prop := ∀ β v, Den β r v → Den β r2 v
theorem DenW.refl (r : AV) : DenW r r := fun _ _ h => h
def ObQ (p : Nat) (r1 : AV) (bl1 : Bls) (r : AV) (bl : Bls) : Prop := ∃ bl2 r2, Wk bl bl2 ∧ DenW r r2 ∧ ResP p r1 bl1 r2 bl2
def FitL (R : List Nat) (bl : Bls) : Nat → Bls → Prop
  | _, [] => True
  | i, none :: r => FitL R bl (i + 1) r
  | i, some c :: r => lvl bl (nm R i) = some (renCt (nm R) c) ∧ FitL R bl (i + 1) r
theorem fitL_at {R : List Nat} {bl : Bls} : ∀ {bl1 : Bls} {i l : Nat} {c : Ct}, FitL R bl i bl1 → bl1[l]? = some (some c) → lvl bl (nm R (i + l)) = some (renCt (nm R) c)
  | [], _, _, _, _, h => by simp at h
  | none :: r, i, 0, _, _, h => by simp at h
  | none :: r, i, l + 1, c, hf, h => by
    have := fitL_at (l := l) (c := c) (bl1 := r) (i := i + 1) hf (by simpa using h)
    rwa [show i + 1 + l = i + (l + 1) by omega] at this
  | some c0 :: r, i, 0, c, hf, h => by
    simp at h; subst h; exact hf.1
  | some c0 :: r, i, l + 1, c, hf, h => by
    have := fitL_at (l := l) (c := c) (bl1 := r) (i := i + 1) hf.2 (by simpa using h)
    rwa [show i + 1 + l = i + (l + 1) by omega] at this
theorem ObQ.mk {p : Nat} {r1 r : AV} {bl1 bl : Bls} (R : List Nat) (hn : R.Nodup) (hl : R.length = bl1.length) (hp : R.take p = List.range p) (hr : r = ren (nm R) r1) (hf : FitL R bl 0 bl1) : ObQ p r1 bl1 r bl :=
  ⟨bl, r, .refl _, .refl _, R, hn, hl, hp, hr, fun l c h => by have := fitL_at hf h; rw [Nat.zero_add] at this; exact lvl_get this⟩
theorem ObQ.wk {p : Nat} {r1 r : AV} {bl1 bl bl2 : Bls} (h : Wk bl bl2) (hq : ObQ p r1 bl1 r bl2) : ObQ p r1 bl1 r bl := by
  obtain ⟨bl3, r2, h1, h2⟩ := hq
  exact ⟨bl3, r2, h.trans h1, h2⟩
theorem ObQ.den {p : Nat} {r1 r r2 : AV} {bl1 bl : Bls} (h : DenW r r2) (hq : ObQ p r1 bl1 r2 bl) : ObQ p r1 bl1 r bl := by
  obtain ⟨bl3, r3, h1, h2, h3⟩ := hq
  exact ⟨bl3, r3, h1, fun β v hd => h2 β v (h β v hd), h3⟩
def rhoN (p : Nat) (σ : List Nat) (d l : Nat) : Nat := if l < p then nm σ l else d + (l - p)
def objB (p : Nat) (σ : List Nat) (bl bl1 : Bls) : Bls := updT (rhoN p σ bl.length) (σ.take p) bl1 (killL σ bl) ++ mapB (rhoN p σ bl.length) (bl1.drop p)
theorem nm_take {σ : List Nat} {p j : Nat} (hj : j < p) : nm (σ.take p) j = nm σ j := by
  simp only [nm, List.getD_eq_getElem?_getD, List.getElem?_take_of_lt hj]
theorem nm_root {R : List Nat} {p j : Nat} (hR : R.take p = List.range p) (hj : j < p) : nm R j = j := by
  rw [← nm_take hj, hR]
  simp only [nm, List.getD_eq_getElem?_getD, List.getElem?_range hj, Option.getD_some]
theorem obj_core {p : Nat} {β β1 : Env} {bl bl0 bl1 bl' : Bls} {w w' : World} {σ : List Nat} {r r1 : AV} {v : Value} (hh : Heap β bl w) (hn : σ.Nodup) (hσ : (σ.all fun l => decide (l < bl.length)) = true) (hlen : σ.length = bl0.length) (hb : FitB (nm σ) σ.length bl 0 bl0) (hp : p ≤ σ.length) (hp1 : p ≤ bl1.length)
    (kx : Ext (takeE σ β bl w) bl0 w β1 bl' w') (k4 : Den β1 r v) (hq : ResP p r1 bl1 r bl') (hok1 : lvB bl1.length false r1 = true) (hok2 : okBls bl1.length bl1 = true) : ∃ β2, Den β2 (ren (rhoN p σ bl.length) r1) v ∧ Ext β bl w β2 (objB p σ bl bl1) w' := by
  obtain ⟨R, hR1, hR2, hRp, rfl, hR3⟩ := hq
  have ownC : ∀ b, Owned (takeE σ β bl w) bl0 b → Owned β bl b := fun b hb' => by
    obtain ⟨j, c, s, hj, q1, q2⟩ := take_own hlen hb hb'
    exact ⟨_, c, s, q1, q2⟩
  have kept : ∀ b, b < w.heap.size → ¬ Owned (takeE σ β bl w) bl0 b → w'.heap[b]? = w.heap[b]? := kx.step.kept
  have new : ∀ b, Owned β1 bl' b → Owned (takeE σ β bl w) bl0 b ∨ w.heap.size ≤ b := kx.own
  let β2 : Env := { b := β.b ++ (R.drop p).map (fun x => (β1.b[x]?).join), z := β1.z, y := β.y, ck := β.ck }
  have hl : β.b.length = bl.length := hh.len
  have le : β.le β2 := ⟨List.prefix_append _ _, fun i cs hz => kx.le.z i cs hz, fun i cs hy => hy, rfl⟩
  have nmlt : ∀ {j : Nat}, j < σ.length → nm σ j < bl.length := fun {j} hj => by
    have := List.all_eq_true.1 hσ _ (nm_mem hj)
    simpa using this
  have gold : ∀ {m : Nat}, m < bl.length → β2.b[m]? = β.b[m]? := fun {m} hm => by
    show (β.b ++ _)[m]? = _
    rw [List.getElem?_append_left (by omega)]
  have rho1 : ∀ {j : Nat}, j < p → rhoN p σ bl.length j = nm σ j := fun h => by simp [rhoN, h]
  have rho2 : ∀ {j : Nat}, ¬ j < p → rhoN p σ bl.length j = bl.length + (j - p) := fun h => by simp [rhoN, h]
  have groot : ∀ {j : Nat}, j < p → β2.b[nm σ j]? = β1.b[j]? := fun {j} hj => by
    have h6 := nmlt (j := j) (by omega)
    rw [gold h6]
    obtain ⟨rest, hr⟩ := kx.le.b
    rw [← hr, List.getElem?_append_left (by rw [show (takeE σ β bl w).b.length = σ.length from by show (σ.map _).length = _; simp]; omega), take_at (by omega)]
    rw [List.getElem?_eq_getElem (by omega)]
    rfl
  have gnew : ∀ {j : Nat}, ¬ j < p → j < bl1.length → β2.b[bl.length + (j - p)]? = some ((β1.b[nm R j]?).join) := fun {j} hj hj1 => by
    show (β.b ++ _)[_]? = _
    rw [List.getElem?_append_right (by omega), hl, Nat.add_sub_cancel_left, List.getElem?_map, List.getElem?_drop, show p + (j - p) = j by omega, List.getElem?_eq_getElem (by omega)]
    simp [nm, List.getD_eq_getElem?_getD, List.getElem?_eq_getElem (show j < R.length by omega)]
  have grho : ∀ {l : Nat} {x}, l < bl1.length → (β2.b[rhoN p σ bl.length l]? = some (some x) ↔ β1.b[nm R l]? = some (some x)) := fun {l x} hl1 => by
    by_cases hlp : l < p
    · rw [rho1 hlp, groot hlp, nm_root hRp hlp]
    · rw [rho2 hlp, gnew hlp hl1]
      cases e : β1.b[nm R l]? with
      | none => simp
      | some y => simp
  have tr : Tr β1 β2 (nm R) (rhoN p σ bl.length) bl1.length false := ⟨fun l x hl1 hb' => (grho hl1).2 hb', fun i cs hz => hz, fun h => by cases h⟩
  have hckE : β2.ck = β1.ck := by rw [kx.le.ck]; rfl
  have hul : (updT (rhoN p σ bl.length) (σ.take p) bl1 (killL σ bl)).length = bl.length := by rw [updT_len, killL_len]
  have at2 : ∀ {m : Nat} {c : Ct}, (objB p σ bl bl1)[m]? = some (some c) → (m < bl.length ∧ m ∉ σ ∧ bl[m]? = some (some c)) ∨ ∃ j c0, j < bl1.length ∧ m = rhoN p σ bl.length j ∧ bl1[j]? = some (some c0) ∧ c = renCt (rhoN p σ bl.length) c0 := by
    intro m c hm
    unfold objB at hm
    by_cases hlt : m < bl.length
    · rw [List.getElem?_append_left (by rw [hul]; exact hlt)] at hm
      rcases updT_at (hn.sublist (List.take_sublist _ _)) (by rw [List.length_take]; omega) hm with ⟨q1, q2⟩ | ⟨j, c0, hj, rfl, q3, q4⟩
      · obtain ⟨q3, q4⟩ := killL_in σ bl m c q2
        exact .inl ⟨hlt, q4, q3⟩
      · rw [List.length_take] at hj
        have hjp : j < p := by omega
        exact .inr ⟨j, c0, by omega, by rw [rho1 hjp, nm_take hjp], q3, q4⟩
    · rw [List.getElem?_append_right (by rw [hul]; omega), hul] at hm
      obtain ⟨c0, q1, q2⟩ := mapB_at hm
      rw [List.getElem?_drop] at q1
      have := (List.getElem?_eq_some_iff.1 q1).1
      refine .inr ⟨p + (m - bl.length), c0, this, ?_, q1, q2⟩
      rw [rho2 (by omega)]
      omega
  have ownR : ∀ {j : Nat} {c0 : Ct} {b s : Nat}, j < bl1.length → bl1[j]? = some (some c0) → β2.b[rhoN p σ bl.length j]? = some (some (b, s)) → Owned β1 bl' b := fun {j c0 b s} hj1 q1 hb' => ⟨nm R j, _, s, hR3 j c0 q1, (grho hj1).1 hb'⟩
  have own2 : ∀ b, Owned β2 (objB p σ bl bl1) b → (∃ m c s, m ∉ σ ∧ m < bl.length ∧ bl[m]? = some (some c) ∧ β.b[m]? = some (some (b, s))) ∨ Owned β1 bl' b := by
    rintro b ⟨m, c, s, hm, hb'⟩
    rcases at2 hm with ⟨hlt, q1, q2⟩ | ⟨j, c0, hj1, rfl, q1, q2⟩
    · exact .inl ⟨m, c, s, q1, hlt, q2, by rw [gold hlt] at hb'; exact hb'⟩
    · exact .inr (ownR hj1 q1 hb')
  have apart : ∀ {m b s : Nat} {c : Ct}, m ∉ σ → bl[m]? = some (some c) → β.b[m]? = some (some (b, s)) → ¬ Owned (takeE σ β bl w) bl0 b := fun {m b s c} hm q1 q2 ho => by
    obtain ⟨j, c', s', hj, r1, r2⟩ := take_own hlen hb ho
    exact hh.sep _ _ _ _ b s s' (fun e => hm (by rw [e]; exact nm_mem hj)) q1 r1 q2 r2
  have own3 : ∀ b, Owned β2 (objB p σ bl bl1) b → Owned β bl b ∨ w.heap.size ≤ b := fun b ho => by
    rcases own2 b ho with ⟨m, c, s, -, -, q1, q2⟩ | ho
    · exact .inl ⟨m, c, s, q1, q2⟩
    · exact (new b ho).imp_left (ownC b)
  have hal : (objB p σ bl bl1).length = bl.length + (bl1.length - p) := by
    unfold objB
    rw [List.length_append, hul, mapB_len, List.length_drop]
  have hden : Den β2 (ren (rhoN p σ bl.length) r1) v := Den.ren tr hok1 k4
  have hext : Ext β bl w β2 (objB p σ bl bl1) w' := by
    refine ⟨le, ⟨?_, fun m c hm => ?_, fun m m' c c' b s s' hne hm hm' hb1 hb2 => ?_, fun t b cs' hz => ?_⟩, kx.step.mono ownC, own3, fun b cs' hz => ?_, rfl⟩
    · show (β.b ++ _).length = _
      rw [List.length_append, List.length_map, List.length_drop, hal, hR2, hl]
    · rcases at2 hm with ⟨hlt, q1, q2⟩ | ⟨j, c0, hj1, rfl, q1, rfl⟩
      · obtain ⟨base, e, hin⟩ := hh.lv m c q2
        refine ⟨base, by rw [gold hlt]; exact e, (hin.mono le).same fun b s hb' => ?_⟩
        subst hb'
        exact kept b (hh.lt q2 e) (apart q1 q2 e)
      · obtain ⟨base, e, hin⟩ := kx.heap.lv _ _ (hR3 j c0 q1)
        refine ⟨base, ?_, hin.ren tr hckE (okBls_at hok2 q1).2⟩
        by_cases hjp : j < p
        · rw [rho1 hjp, groot hjp, ← nm_root hRp hjp]; exact e
        · rw [rho2 hjp, gnew hjp hj1, e]; rfl
    · rcases at2 hm with ⟨l1, q1, q2⟩ | ⟨j, c0, hj1, rfl, q1, rfl⟩ <;> rcases at2 hm' with ⟨l2, r1, r2⟩ | ⟨j', c0', hj1', rfl, r1, rfl⟩
      · exact hh.sep m m' c c' b s s' hne q2 r2 (by rw [gold l1] at hb1; exact hb1) (by rw [gold l2] at hb2; exact hb2)
      · rw [gold l1] at hb1
        rcases new b (ownR hj1' r1 hb2) with ho | ho
        · exact apart q1 q2 hb1 ho
        · have := hh.lt q2 hb1; omega
      · rw [gold l2] at hb2
        rcases new b (ownR hj1 q1 hb1) with ho | ho
        · exact apart r1 r2 hb2 ho
        · have := hh.lt r2 hb2; omega
      · refine kx.heap.sep _ _ _ _ b s s' (fun e => ?_) (hR3 j c0 q1) (hR3 j' c0' r1) ((grho hj1).1 hb1) ((grho hj1').1 hb2)
        have : j = j' := by
          have g1 : j < R.length := by omega
          have g2 : j' < R.length := by omega
          simp only [nm, List.getD_eq_getElem?_getD, List.getElem?_eq_getElem g1, List.getElem?_eq_getElem g2, Option.getD_some] at e
          exact nodup_inj hR1 g1 g2 e
        exact hne (by rw [this])
    · cases t with
      | false =>
        refine ⟨(kx.heap.frz false b cs' hz).1, fun ho => ?_⟩
        rcases own2 b ho with ⟨m, c, s, q1, q2, q3, q4⟩ | ho
        · rcases kx.zn b cs' hz with h6 | h6 | h6
          · exact (hh.frz false b cs' h6).2 ⟨m, c, s, q3, q4⟩
          · exact apart q1 q3 q4 h6
          · have := hh.lt q3 q4; omega
        · exact (kx.heap.frz false b cs' hz).2 ho
      | true =>
        have hz' : β.fz true b = some cs' := hz
        obtain ⟨⟨T, fz, hg⟩, hno⟩ := hh.frz true b cs' hz'
        have hlt := hh.frz_lt hz'
        refine ⟨⟨T, fz, by rw [kept b hlt fun ho => hno (ownC b ho)]; exact hg⟩, fun ho => ?_⟩
        rcases own3 b ho with ho | ho
        · exact hno ho
        · omega
    · rcases kx.zn b cs' hz with h6 | h6 | h6
      · exact .inl h6
      · exact .inr (.inl (ownC b h6))
      · exact .inr (.inr h6)
  exact ⟨β2, hden, hext⟩
theorem updT_keep {τ : Nat → Nat} : ∀ {σ : List Nat} {bs bl : Bls} {m : Nat}, m ∉ σ → (updT τ σ bs bl)[m]? = bl[m]?
  | [], _, _, _, _ => rfl
  | _ :: _, [], _, _, _ => rfl
  | s :: σ, b :: bs, bl, m, h => by
    simp only [updT]
    rw [updT_keep (fun hm => h (List.mem_cons_of_mem _ hm)), setl_set, List.getElem?_set]
    rw [if_neg (fun e => h (by rw [e]; exact List.mem_cons_self ..))]
theorem updT_get {τ : Nat → Nat} : ∀ {σ : List Nat} {bs bl : Bls} {j : Nat} {c : Ct}, σ.Nodup → j < σ.length → (∀ i ∈ σ, i < bl.length) → bs[j]? = some (some c) → (updT τ σ bs bl)[nm σ j]? = some (some (renCt τ c))
  | [], _, _, _, _, _, hj, _, _ => by simp at hj
  | _ :: _, [], _, _, _, _, _, _, h => by simp at h
  | s :: σ, b :: bs, bl, 0, c, hn, _, hlt, h => by
    simp at h
    subst h
    have hs := hlt s (List.mem_cons_self ..)
    simp only [updT]
    rw [show nm (s :: σ) 0 = s from rfl, updT_keep (List.nodup_cons.1 hn).1, setl_set, List.getElem?_set, if_pos rfl]
    simp [hs]
  | s :: σ, b :: bs, bl, j + 1, c, hn, hj, hlt, h => by
    simp only [updT]
    rw [show nm (s :: σ) (j + 1) = nm σ j from by simp [nm]]
    exact updT_get (List.nodup_cons.1 hn).2 (by simpa using hj) (fun i hi => by rw [setl_set, List.length_set]; exact hlt i (List.mem_cons_of_mem _ hi)) (by simpa using h)
abbrev OSpec := List AV → Bls → Option (Bool × List Nat × List AV × Bls × AV × Bls)
def ObjOk (P : Program) (pl : FuncId → Nat → Option Plan) (g : FuncId) (p : Nat) (spec : OSpec) : Prop := ∀ args bl σ args0 bl0 r1 bl1, spec args bl = some (true, σ, args0, bl0, r1, bl1) →
  Word P pl g args0 bl0 (ObQ p r1 bl1) ∧ (∃ as, LntL bl σ args as ∧ ∀ β vs, DenL β as vs → DenL β args0 vs) ∧ σ.Nodup ∧ (σ.all fun l => decide (l < bl.length)) = true ∧ σ.length = bl0.length ∧ FitB (nm σ) σ.length bl 0 bl0 ∧ p ≤ σ.length ∧ p ≤ bl1.length ∧ lvB bl1.length false r1 = true ∧ okBls bl1.length bl1 = true
def mrk : List Nat → Bls
  | [] => []
  | l :: r => some (.rows 0 (List.replicate l [])) :: mrk r
def objK (p : Nat) (spec : OSpec) (args : List AV) (bl : Bls) : Option (Bool × AV × Bls) := match spec args bl with
  | some (vc, σ, _, _, r1, bl1) => some (vc, ren (rhoN p σ bl.length) r1, objB p σ bl bl1 ++ mrk (σ.take p))
  | none => none
theorem denR_zero {β : Env} : ∀ n : Nat, DenR β 0 (List.replicate n []) []
  | 0 => by simp only [List.replicate_zero, DenR]
  | n + 1 => by
    simp only [List.replicate_succ, DenR]
    exact ⟨[], [], rfl, rfl, by simp only [DenC], denR_zero n⟩
theorem Wk.mrk : ∀ (ls : List Nat) (bl : Bls), Wk bl (bl ++ mrk ls)
  | [], bl => by rw [SY.mrk, List.append_nil]; exact .refl bl
  | l :: r, bl => by
    have h1 : Wk bl (bl ++ [some (.rows 0 (List.replicate l []))]) := fun β w hh => ⟨_, hh.nothing (c := .rows 0 (List.replicate l [])) (denR_zero l)⟩
    have h2 := Wk.mrk r (bl ++ [some (.rows 0 (List.replicate l []))])
    rw [List.append_assoc] at h2
    exact h1.trans h2
theorem mks_app : ∀ (a b : Bls), mks (a ++ b) = mks a ++ mks b
  | [], _ => rfl
  | none :: r, b => by simp only [List.cons_append, mks, mks_app r b]
  | some (.rows 0 rs) :: r, b => by simp only [List.cons_append, mks, mks_app r b]
  | some (.rows (w + 1) rs) :: r, b => by simp only [List.cons_append, mks, mks_app r b]
  | some (.lit _) :: r, b => by simp only [List.cons_append, mks, mks_app r b]
  | some (.num _ _) :: r, b => by simp only [List.cons_append, mks, mks_app r b]
  | some (.loop ..) :: r, b => by simp only [List.cons_append, mks, mks_app r b]
  | some .defs :: r, b => by simp only [List.cons_append, mks, mks_app r b]
  | some (.map _) :: r, b => by simp only [List.cons_append, mks, mks_app r b]
theorem mks_mrk : ∀ ls : List Nat, mks (mrk ls) = ls
  | [] => rfl
  | l :: r => by simp only [mrk, mks, List.length_replicate, mks_mrk r]
theorem killL_keep : ∀ {σ : List Nat} {bl : Bls} {q : Nat}, q ∉ σ → lvl (killL σ bl) q = lvl bl q
  | [], _, _, _ => rfl
  | s :: r, bl, q, h => by
    simp only [killL]
    rw [killL_keep (fun hq => h (List.mem_cons_of_mem _ hq))]
    exact lvl_ne (fun e => h (by rw [e]; exact List.mem_cons_self ..))
theorem killL_none : ∀ {σ : List Nat} {bl : Bls} {q : Nat}, q ∈ σ → lvl (killL σ bl) q = none
  | [], _, _, h => by cases h
  | s :: r, bl, q, h => by
    simp only [killL]
    by_cases hr : q ∈ r
    · exact killL_none hr
    · rw [killL_keep hr]
      have : q = s := (List.mem_cons.1 h).resolve_right hr
      subst this
      rw [lvl_join, setl_set, List.getElem?_set, if_pos rfl]
      split <;> rfl
theorem obj_klm {p : Nat} {σ : List Nat} {bl bl1 : Bls} : Klm bl (objB p σ bl bl1 ++ mrk (σ.take p)) := fun q c hq hm => by
  rw [mks_app, mks_mrk] at hm
  have hq2 : q ∉ σ.take p := fun h => hm (List.mem_append_right _ h)
  have hlt : q < bl.length := (List.getElem?_eq_some_iff.1 (lvl_get hq)).1
  have e : lvl (objB p σ bl bl1 ++ mrk (σ.take p)) q = lvl (killL σ bl) q := by
    rw [lvl_join, lvl_join, objB, List.append_assoc, List.getElem?_append_left (by rw [updT_len, killL_len]; exact hlt), updT_keep hq2]
  rw [e]
  by_cases hs : q ∈ σ
  · exact .inr (killL_none hs)
  · exact .inl (by rw [killL_keep hs]; exact hq)
def ktO (g : FuncId) (p : Nat) (spec : OSpec) (K : KT) : KT := fun f => if g = f then some (objK p spec) else K f
theorem ktO_ok {P : Program} {pl : FuncId → Nat → Option Plan} {K : KT} (hpl : PlOk P pl) (hK : KOk P pl K) {g : FuncId} {p : Nat} {spec : OSpec} (hF : ∃ F, fi P g = some F) (h : ObjOk P pl g p spec) : KOk P pl (ktO g p spec K) := fun f c' hc => by
  simp only [ktO] at hc
  split at hc
  · rename_i e
    subst e
    obtain rfl := Option.some.inj hc
    refine .inr ⟨hF, fun args bl r bl' hx => ?_⟩
    unfold objK at hx
    split at hx
    · rename_i vc σ args0 bl0 r1 bl1 hs
      simp only [Option.some.injEq, Prod.mk.injEq] at hx
      obtain ⟨rfl, rfl, rfl⟩ := hx
      obtain ⟨hW, ⟨as0, hT, has⟩, hn, hσ, hlen, hb, hp, hp1, hok1, hok2⟩ := h args bl σ args0 bl0 r1 bl1 hs
      refine ⟨obj_klm, fun β w vs cs hh hck hd => ?_⟩
      obtain ⟨F, hF', hargs, hrun⟩ := hW
      have hk0 := take_heap hh hn hlen hb
      have run := hrun ⟨takeE σ β bl w, bl0, w, cs, g⟩ rfl hk0.len (takeE σ β bl w) (lone (Frame.enter P g vs.toArray .normal) cs w)
        ⟨⟨_, [], _, [], w, rfl, rfl, enter_ok hF' (hpl.ck g F hF') hck (has _ _ (lntL_den hh hT hd)) hargs, rfl, .refl hk0⟩, rfl, hck⟩
      obtain ⟨v, fr, β1, r, bl', w', k1, k2, k3, k4, k5, bl2, r2, hwk, hdw, hres⟩ := run
      have k5 : Ext (takeE σ β bl w) bl0 w β1 bl' w' := k5
      obtain ⟨β1', e1⟩ := hwk β1 w' k5.heap
      obtain ⟨β2, q1, q2⟩ := obj_core hh hn hσ hlen hb hp hp1 (k5.trans e1) (hdw _ _ (k4.mono e1.le)) hres hok1 hok2
      obtain ⟨β3, e3⟩ := Wk.mrk (σ.take p) _ β2 w' q2.heap
      exact ⟨v, fr, _, w', k1, k3, q1.mono e3.le, q2.trans e3⟩
    · cases hx
  · exact hK f c' hc
def SpecW (P : Program) (pl : FuncId → Nat → Option Plan) (g : FuncId) (spec : List AV → Option (Bool × AV × Bls)) : Prop := ∃ F, fi P g = some F ∧ ∀ args r bl1, spec args = some (true, r, bl1) → args.length ≤ F.n ∧
  ∀ C : Ctx, C.β.b = [] → C.bl = [] → Rch P pl C (conf0 g F args []) (ObQ 0 r bl1)
theorem shB_mapB {d : Nat} : ∀ {bl : Bls}, mapB (d + ·) bl = shB d bl
  | [] => rfl
  | none :: r => by simp only [mapB, shB, shB_mapB]
  | some c :: r => by simp only [mapB, shB, shB_mapB]
theorem objB_nil {bl bl1 : Bls} : objB 0 [] bl bl1 = bl ++ shB bl.length bl1 := by
  have e : rhoN 0 [] bl.length = (bl.length + ·) := by funext l; simp [rhoN]
  rw [objB, e, List.drop_zero, shB_mapB]
  rfl
theorem lntL_nil {bl : Bls} : ∀ {args as : List AV}, lndL bl args = some (true, as) → LntL bl [] args as
  | [], as, h => by
    simp only [lndL, Option.some.injEq, Prod.mk.injEq, true_and] at h
    subst h
    rfl
  | x :: r, as, h => by
    simp only [lndL] at h
    split at h
    · rename_i v1 y e1
      split at h
      · rename_i v2 ys e2
        simp only [Option.some.injEq, Prod.mk.injEq, Bool.and_eq_true] at h
        obtain ⟨⟨rfl, rfl⟩, rfl⟩ := h
        exact ⟨_, _, rfl, .inr e1, lntL_nil e2⟩
      · cases h
    · cases h
theorem specW_ok {P : Program} {pl : FuncId → Nat → Option Plan} (hpl : PlOk P pl) {g : FuncId} {spec : List AV → Option (Bool × AV × Bls)} (hs : SpecW P pl g spec) : KOne P pl g (conK spec) := by
  obtain ⟨F, hF, hs⟩ := hs
  refine ⟨⟨F, hF⟩, fun args bl r0 bl0 hc => ?_⟩
  unfold conK at hc
  split at hc
  · rename_i v1 as e1
    split at hc
    · rename_i v2 r bl1 e2
      simp only [Option.some.injEq, Prod.mk.injEq, Bool.and_eq_true] at hc
      obtain ⟨⟨rfl, rfl, hlr, hok⟩, rfl, rfl⟩ := hc
      refine ⟨(Kll.refl bl).app _, fun β w vs cs hh hck hd => ?_⟩
      obtain ⟨hn, hrch⟩ := hs as r bl1 e2
      have hb : FitB (nm []) ([] : List Nat).length bl 0 [] := trivial
      have hk0 := take_heap (σ := []) (bl0 := []) hh List.nodup_nil rfl hb
      have run := hrch ⟨takeE [] β bl w, [], w, cs, g⟩ rfl rfl (takeE [] β bl w) (lone (Frame.enter P g vs.toArray .normal) cs w)
        ⟨⟨_, [], _, [], w, rfl, rfl, enter_ok hF (hpl.ck g F hF) hck (lntL_den hh (lntL_nil e1) hd) hn, rfl, .refl hk0⟩, rfl, hck⟩
      obtain ⟨v, fr, β1, r', bl', w', k1, k2, k3, k4, k5, bl2, r2, hwk, hdw, hres⟩ := run
      have k5 : Ext (takeE [] β bl w) [] w β1 bl' w' := k5
      obtain ⟨β1', e1'⟩ := hwk β1 w' k5.heap
      obtain ⟨β2, q1, q2⟩ := obj_core (p := 0) (σ := []) hh List.nodup_nil rfl rfl hb (Nat.le_refl _) (Nat.zero_le _) (k5.trans e1') (hdw _ _ (k4.mono e1'.le)) hres hlr hok
      rw [objB_nil] at q2
      have e : rhoN 0 [] bl.length = (bl.length + ·) := by funext l; simp [rhoN]
      rw [e] at q1
      exact ⟨v, fr, β2, w', k1, k3, q1, q2⟩
    · cases hc
  · cases hc
mutual
theorem ren_same {ρ σ : Nat → Nat} {N : Nat} {T : Bool} (h : ∀ l, l < N → ρ l = σ l) : ∀ {x : AV}, lvB N T x = true → ren ρ x = ren σ x
  | .ptr .., hl => by simp only [lvB, decide_eq_true_eq] at hl; simp only [ren, h _ hl]
  | .sl .., hl => by simp only [lvB, decide_eq_true_eq] at hl; simp only [ren, h _ hl]
  | .mp _, hl => by simp only [lvB, decide_eq_true_eq] at hl; simp only [ren, h _ hl]
  | .yld _, hl => by simp only [lvB, decide_eq_true_eq] at hl; simp only [ren, h _ hl]
  | .fn f a b, hl => by simp only [lvB, Bool.and_eq_true] at hl; simp only [ren, renL_same h hl.1, renL_same h hl.2]
  | .agg xs, hl => by simp only [lvB] at hl; simp only [ren, renL_same h hl]
  | .tup xs, hl => by simp only [lvB] at hl; simp only [ren, renL_same h hl]
  | .imr t w rs c, hl => by simp only [lvB, Bool.and_eq_true] at hl; simp only [ren, renR_same h hl.2]
  | .ip t row k, hl => by simp only [lvB, Bool.and_eq_true] at hl; simp only [ren, renL_same h hl.2]
  | .v _, _ => rfl
  | .nil, _ => rfl
  | .imn .., _ => rfl
  | .ch .., _ => rfl
  | .any, _ => rfl
theorem renL_same {ρ σ : Nat → Nat} {N : Nat} {T : Bool} (h : ∀ l, l < N → ρ l = σ l) : ∀ {xs : List AV}, lvL N T xs = true → renL ρ xs = renL σ xs
  | [], _ => rfl
  | x :: r, hl => by simp only [lvL, Bool.and_eq_true] at hl; simp only [renL, ren_same h hl.1, renL_same h hl.2]
theorem renR_same {ρ σ : Nat → Nat} {N : Nat} {T : Bool} (h : ∀ l, l < N → ρ l = σ l) : ∀ {xs : List (List AV)}, lvR N T xs = true → renR ρ xs = renR σ xs
  | [], _ => rfl
  | x :: r, hl => by simp only [lvR, Bool.and_eq_true] at hl; simp only [renR, renL_same h hl.1, renR_same h hl.2]
end
theorem renCt_same {ρ σ : Nat → Nat} {N : Nat} {T : Bool} {c : Ct} (h : ∀ l, l < N → ρ l = σ l) (hc : c.cell = true ∧ lvCt N T c = true) : renCt ρ c = renCt σ c := by
  cases c with
  | lit cs => simp only [lvCt] at hc; simp only [renCt, renL_same h hc.2]
  | num k xs => rfl
  | rows w rs => simp only [lvCt] at hc; simp only [renCt, renR_same h hc.2]
  | _ => exact absurd hc.1 (by simp [Ct.cell])
def readK (spec : OSpec) (args : List AV) (bl : Bls) : Option (Bool × AV × Bls) := match spec args bl with
  | some (vc, σ, _, bl0, r1, ex) => some (vc, ren (rhoN bl0.length σ bl.length) r1, bl ++ mapB (rhoN bl0.length σ bl.length) ex)
  | none => none
def ReadOk (P : Program) (pl : FuncId → Nat → Option Plan) (g : FuncId) (spec : OSpec) : Prop := ∀ args bl σ args0 bl0 r1 ex, spec args bl = some (true, σ, args0, bl0, r1, ex) →
  Word P pl g args0 bl0 (ObQ bl0.length r1 (bl0 ++ ex)) ∧ (∃ as, LntL bl σ args as ∧ ∀ β vs, DenL β as vs → DenL β args0 vs) ∧ σ.Nodup ∧ (σ.all fun l => decide (l < bl.length)) = true ∧ σ.length = bl0.length ∧ FitB (nm σ) σ.length bl 0 bl0 ∧ (∀ (l : Nat) (x : Option Ct), bl0[l]? = some x → x ≠ none) ∧ okBls bl0.length bl0 = true ∧ lvB (bl0 ++ ex).length false r1 = true ∧ okBls (bl0 ++ ex).length (bl0 ++ ex) = true
theorem lvl_ext {a b : Bls} (hl : a.length = b.length) (h : ∀ l : Nat, l < a.length → lvl a l = lvl b l) : a = b := by
  apply List.ext_getElem? fun l => ?_
  rcases Nat.lt_or_ge l a.length with hlt | hge
  · have := h l hlt
    rw [lvl_join, lvl_join] at this
    rw [List.getElem?_eq_getElem hlt, List.getElem?_eq_getElem (by omega)] at this ⊢
    simpa using this
  · rw [List.getElem?_eq_none hge, List.getElem?_eq_none (by omega)]
theorem updT_pre {τ : Nat → Nat} : ∀ {σ : List Nat} {bs ex bl : Bls}, σ.length = bs.length → updT τ σ (bs ++ ex) bl = updT τ σ bs bl
  | [], bs, ex, bl, _ => by cases bs <;> cases ex <;> rfl
  | _ :: _, [], _, _, h => by simp at h
  | s :: σ, b :: bs, ex, bl, h => by
    simp only [List.cons_append, updT]
    exact updT_pre (by simpa using h)
theorem objB_all {σ : List Nat} {bl bl0 ex : Bls} (hn : σ.Nodup) (hσ : (σ.all fun l => decide (l < bl.length)) = true) (hlen : σ.length = bl0.length) (hb : FitB (nm σ) σ.length bl 0 bl0) (hsome : ∀ (l : Nat) (x : Option Ct), bl0[l]? = some x → x ≠ none) (hok : okBls bl0.length bl0 = true) : objB bl0.length σ bl (bl0 ++ ex) = bl ++ mapB (rhoN bl0.length σ bl.length) ex := by
  have hlt : ∀ i ∈ σ, i < bl.length := fun i hi => by simpa using List.all_eq_true.1 hσ i hi
  rw [objB, ← hlen, List.take_length, hlen, List.drop_left, updT_pre hlen]
  congr 1
  refine lvl_ext (by rw [updT_len, killL_len]) fun l hl => ?_
  rw [updT_len, killL_len] at hl
  by_cases hm : l ∈ σ
  · obtain ⟨j, hj, rfl⟩ := List.getElem_of_mem hm
    have hj0 : j < bl0.length := by omega
    obtain ⟨c, hc⟩ : ∃ c, bl0[j]? = some (some c) := by
      cases e : bl0[j]? with
      | none => rw [List.getElem?_eq_getElem hj0] at e; cases e
      | some x =>
        cases x with
        | none => exact absurd rfl (hsome j _ e)
        | some c => exact ⟨c, rfl⟩
    have h1 := updT_get (τ := rhoN bl0.length σ bl.length) (σ := σ) (bs := bl0) (bl := killL σ bl) hn hj (fun i hi => by rw [killL_len]; exact hlt i hi) hc
    have h2 := (fitB_at hb hc).1
    have enm : nm σ j = σ[j] := by simp [nm, List.getD_eq_getElem?_getD, List.getElem?_eq_getElem hj]
    rw [Nat.zero_add, enm] at h2
    rw [enm] at h1
    rw [h2, lvl_join, h1]
    have := renCt_same (ρ := rhoN bl0.length σ bl.length) (σ := nm σ) (N := bl0.length) (T := false) (c := c) (fun l hl => by simp [rhoN, hl]) (okBls_at hok hc)
    rw [this]
    rfl
  · rw [lvl_join, updT_keep hm, ← lvl_join, killL_keep hm]
theorem readK_ok {P : Program} {pl : FuncId → Nat → Option Plan} (hpl : PlOk P pl) {g : FuncId} {spec : OSpec} (hF : ∃ F, fi P g = some F) (h : ReadOk P pl g spec) : KOne P pl g (readK spec) := by
  refine ⟨hF, fun args bl r bl' hx => ?_⟩
  unfold readK at hx
  split at hx
  · rename_i vc σ args0 bl0 r1 ex hs
    simp only [Option.some.injEq, Prod.mk.injEq] at hx
    obtain ⟨rfl, rfl, rfl⟩ := hx
    obtain ⟨hW, ⟨as0, hT, has⟩, hn, hσ, hlen, hb, hsome, hok, hok1, hok2⟩ := h args bl σ args0 bl0 r1 ex hs
    refine ⟨(Kll.refl bl).app _, fun β w vs cs hh hck hd => ?_⟩
    obtain ⟨F, hF', hargs, hrun⟩ := hW
    have hk0 := take_heap hh hn hlen hb
    have run := hrun ⟨takeE σ β bl w, bl0, w, cs, g⟩ rfl hk0.len (takeE σ β bl w) (lone (Frame.enter P g vs.toArray .normal) cs w)
      ⟨⟨_, [], _, [], w, rfl, rfl, enter_ok hF' (hpl.ck g F hF') hck (has _ _ (lntL_den hh hT hd)) hargs, rfl, .refl hk0⟩, rfl, hck⟩
    obtain ⟨v, fr, β1, r, bl', w', k1, k2, k3, k4, k5, bl2, r2, hwk, hdw, hres⟩ := run
    have k5 : Ext (takeE σ β bl w) bl0 w β1 bl' w' := k5
    obtain ⟨β1', e1⟩ := hwk β1 w' k5.heap
    obtain ⟨β2, q1, q2⟩ := obj_core hh hn hσ hlen hb (by omega) (by rw [List.length_append]; omega) (k5.trans e1) (hdw _ _ (k4.mono e1.le)) hres hok1 hok2
    rw [objB_all hn hσ hlen hb hsome hok] at q2
    exact ⟨v, fr, β2, w', k1, k3, q1, q2⟩
  · cases hx
end Go.SY
