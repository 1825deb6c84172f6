/-
  The symbolic machine: what its states stand for in the model's machine.
-/
import Derived.Test.YtdoeopcimhpjaaaSy17
import Derived.RangeFuncNested
set_option linter.unusedSimpArgs false
set_option linter.unusedVariables false
namespace Go.SY
open Go

def MsR (β : Env) : List Nat → List Deferred → Prop
  | [], ds => ds = []
  | m :: ms, ds => ∃ b s ds', β.b[m]? = some (some (b, s)) ∧ ds = { target := .collected b, args := #[] } :: ds' ∧ MsR β ms ds'

theorem MsR.mono {β β' : Env} (h : β.le β') : ∀ {ms : List Nat} {ds : List Deferred}, MsR β ms ds → MsR β' ms ds
  | [], _, hm => hm
  | _ :: _, _, ⟨b, s, ds', h1, h2, h3⟩ => ⟨b, s, ds', h.at h1, h2, MsR.mono h h3⟩

def RoR (β : Env) : Option Nat → Option Nat → Prop
  | none, ro => ro = none
  | some l, ro => ∃ b s, β.b[l]? = some (some (b, s)) ∧ ro = some b

theorem RoR.mono {β β' : Env} (h : β.le β') {rd ro : Option Nat} (hr : RoR β rd ro) : RoR β' rd ro := by
  cases rd with
  | none => exact hr
  | some l => obtain ⟨b, s, h1, h2⟩ := hr; exact ⟨b, s, h.at h1, h2⟩

def TodoR (P : Program) (β : Env) (bl : Bls) (pr : Option (List Nat)) (fn : FuncId) (n : Nat) (tm : TM) (k : List SI) (tmps : Array Value) (t : List Item) : Prop := match k with
  | .dr all plan A g :: k => ∃ L t', t = .inRegion all L :: t' ∧ KR β fn k t' ∧ DrR P β bl pr n tm all plan A tmps L ∧ (∀ b, g = some b → ∃ i un rest o, plan = (i, un) :: rest ∧ all[i]? = some o ∧ WS all n tm o.guard b)
  | .ops all os g :: k => TmOk β n tm tmps ∧ KR β fn (.ops all os none :: k) t ∧ ∀ b, g = some b → ∃ o os', os = o :: os' ∧ WS all n tm o.guard b
  | k => TmOk β n tm tmps ∧ KR β fn k t

theorem todo_of {P : Program} {β : Env} {bl : Bls} {pr : Option (List Nat)} {fn : FuncId} {n : Nat} {tm : TM} {k : List SI} {tmps : Array Value} {t : List Item} (h1 : TmOk β n tm tmps) (h2 : KR β fn k t) : TodoR P β bl pr fn n tm k tmps t := by
  unfold TodoR
  split
  · obtain ⟨y, t', -, h, -⟩ := h2; exact h.elim
  · rename_i all os g k
    obtain ⟨y, t', e, ⟨rfl, h3⟩, h5⟩ := h2
    exact ⟨h1, ⟨y, t', e, ⟨rfl, h3⟩, h5⟩, fun b hb => by cases hb⟩
  · exact ⟨h1, h2⟩

theorem KR.dr {β : Env} {fn : FuncId} {all : Array Oper} {plan : Plan} {A : List (Nat × List Nat)} {g : Option Bool} {k : List SI} {t : List Item} : ¬ KR β fn (.dr all plan A g :: k) t := fun ⟨_, _, _, h, _⟩ => h

theorem TodoR.mono {P : Program} {β β' : Env} {bl bl' : Bls} {lk : List Nat} {fn : FuncId} {n : Nat} {tm : TM} {k : List SI} {tmps : Array Value} {t : List Item} (h : TodoR P β bl (some lk) fn n tm k tmps t) (hle : β.le β') (hk : Kp lk bl bl') : TodoR P β' bl' (some lk) fn n tm k tmps t := by
  unfold TodoR at *
  split
  · simp only at h
    obtain ⟨L, t', e, h1, h2, h3⟩ := h
    exact ⟨L, t', e, h1.mono hle, h2.mono hle hk, h3⟩
  · simp only at h
    exact ⟨h.1.mono hle, h.2.1.mono hle, h.2.2⟩
  · rename_i h1 h2
    split at h
    · exact absurd rfl (h1 _ _ _ _ _)
    · exact absurd rfl (h2 _ _ _ _)
    · exact ⟨h.1.mono hle, h.2.mono hle⟩

def FrR (P : Program) (β : Env) (bl : Bls) (pr : Option (List Nat)) (f : Fr) (fr : Frame) : Prop :=
  ∃ tmps ds t ro, fr = (fr0 f.fn ro).atR ⟨tmps, ds⟩ t ∧ MsR β f.ms ds ∧ RoR β f.rd ro ∧ TodoR P β bl pr f.fn f.n f.tm f.k tmps t

theorem FrR.mono {P : Program} {β β' : Env} {bl bl' : Bls} {lk : List Nat} {f : Fr} {fr : Frame} (h : FrR P β bl (some lk) f fr) (hle : β.le β') (hk : Kp lk bl bl') : FrR P β' bl' (some lk) f fr := by
  obtain ⟨tmps, ds, t, ro, e, h1, h2, h3⟩ := h
  exact ⟨tmps, ds, t, ro, e, h1.mono hle, h2.mono hle, h3.mono hle hk⟩

/-- Frames that wait. -/
def SusR (P : Program) (β : Env) (bl : Bls) : List Nat → List Fr → List Frame → Prop
  | _, [], t => t = []
  | lk, f :: fs, t => ∃ fr ts, t = fr :: ts ∧ FrR P β bl (some lk) f fr ∧ (∀ q ∈ f.lk, q ∈ lk) ∧ SusR P β bl f.lk fs ts

theorem SusR.mono {P : Program} {β β' : Env} {bl bl' : Bls} (hle : β.le β') : ∀ {fs : List Fr} {lk : List Nat} {t : List Frame}, SusR P β bl lk fs t → Kp lk bl bl' → SusR P β' bl' lk fs t
  | [], _, _, h, _ => h
  | _ :: _, _, _, ⟨fr, ts, e, h1, h2, h3⟩, hk => ⟨fr, ts, e, h1.mono hle hk, h2, SusR.mono hle h3 (hk.sub h2)⟩

/-- Where a run begins. -/
structure Ctx where
  β : Env
  bl : Bls
  w : World
  cs : List Frame
  f : FuncId

/-- The lowest frame is the function's that was called. -/
def Bot (F : FuncId) : List Fr → Prop
  | [] => False
  | [f] => f.fn = F
  | _ :: g :: fs => Bot F (g :: fs)

theorem Bot.same {F : FuncId} {f f' : Fr} {fs : List Fr} (h : Bot F (f :: fs)) (e : f'.fn = f.fn) : Bot F (f' :: fs) := by
  cases fs with
  | nil => exact e.trans h
  | cons g fs => exact h

/-- Code whose regions' plans are in order. -/
def Ck (P : Program) (pl : FuncId → Nat → Option Plan) (fn : FuncId) : Code → Prop
  | .seq x y => Ck P pl fn x ∧ Ck P pl fn y
  | .block _ c => Ck P pl fn c
  | .scope c => Ck P pl fn c
  | .loop c => Ck P pl fn c
  | .cond _ x y => Ck P pl fn x ∧ Ck P pl fn y
  | .rangeFunc _ _ a b => Ck P pl fn a ∧ Ck P pl fn b
  | .region id all draw => draw = true → ∀ p, pl fn id = some p → Ord P all p
  | _ => True

/-- What is asked of a program and its plans. -/
structure PlOk (P : Program) (pl : FuncId → Nat → Option Plan) : Prop where
  ck : ∀ f F, fi P f = some F → Ck P pl f F.body
  mix : P.follows .mixedOrders = true

structure CR (P : Program) (pl : FuncId → Nat → Option Plan) (C : Ctx) (c : Conf) (β : Env) (m : Machine) : Prop where
  ex : ∃ f fs fr ts w, c.fs = f :: fs ∧ m = lone fr (ts ++ C.cs) w ∧ FrR P β c.bl none f fr ∧ SusR P β c.bl f.lk fs ts ∧ Ext C.β C.bl C.w β c.bl w
  bot : Bot C.f c.fs
  ck : β.ck = Ck P pl

def Fin (P : Program) (C : Ctx) (S : AV → Bls → Prop) (m : Machine) : Prop :=
  ∃ v fr β' r bl' w', Steps P m (lone fr C.cs w') ∧ fr.fn = C.f ∧ fr.leaving P w' (.returned v) ∧ Den β' r v ∧ Ext C.β C.bl C.w β' bl' w' ∧ S r bl'

theorem Fin.steps {P : Program} {C : Ctx} {S : AV → Bls → Prop} {m m' : Machine} (h : Steps P m m') (hf : Fin P C S m') : Fin P C S m := by
  obtain ⟨v, fr, β', r, bl', w', h1, h2⟩ := hf
  exact ⟨v, fr, β', r, bl', w', h.trans h1, h2⟩

/-- From this state on the machine comes to an end as told. -/
def Rch (P : Program) (pl : FuncId → Nat → Option Plan) (C : Ctx) (c : Conf) (S : AV → Bls → Prop) : Prop := ∀ β m, CR P pl C c β m → Fin P C S m

def To (P : Program) (pl : FuncId → Nat → Option Plan) (C : Ctx) (c c' : Conf) : Prop := ∀ β m, CR P pl C c β m → ∃ β' m', Steps P m m' ∧ CR P pl C c' β' m'

theorem To.rch {P : Program} {pl : FuncId → Nat → Option Plan} {C : Ctx} {c c' : Conf} {S : AV → Bls → Prop} (h : To P pl C c c') (k : Rch P pl C c' S) : Rch P pl C c S := fun β m hm => by
  obtain ⟨β', m', h1, h2⟩ := h β m hm
  exact (k β' m' h2).steps h1

section
variable {P : Program} {pl : FuncId → Nat → Option Plan} {C : Ctx} {f f' g : Fr} {fs : List Fr} {bl bl' : Bls}

/-- The frame on top goes on. -/
theorem to_top (hfn : f'.fn = f.fn) (hlk : f'.lk = f.lk)
    (h : ∀ β fr cs w, FrR P β bl none f fr → Heap β bl w → β.ck = Ck P pl → ∃ β' fr' w', Steps P (lone fr cs w) (lone fr' cs w') ∧ FrR P β' bl' none f' fr' ∧ Ext β bl w β' bl' w' ∧ Kp f.lk bl bl') :
    To P pl C ⟨f :: fs, bl⟩ ⟨f' :: fs, bl'⟩ := by
  rintro β m ⟨⟨f0, fs0, fr, ts, w, e, rfl, h1, h2, h3⟩, h4, h5⟩
  simp only [List.cons.injEq] at e
  obtain ⟨rfl, rfl⟩ := e
  obtain ⟨β', fr', w', k1, k2, k3, k4⟩ := h β fr (ts ++ C.cs) w h1 h3.heap h5
  exact ⟨β', _, k1, ⟨⟨_, _, fr', ts, w', rfl, rfl, k2, by rw [hlk]; exact h2.mono k3.le k4, h3.trans k3⟩, h4.same hfn, by rw [k3.le.ck]; exact h5⟩⟩

/-- A frame is laid upon it. -/
theorem to_push (hfn : f'.fn = f.fn) (hlk : f'.lk = f.lk) (hsub : ∀ q ∈ f'.lk, q ∈ g.lk)
    (h : ∀ β fr cs w, FrR P β bl none f fr → Heap β bl w → β.ck = Ck P pl → ∃ β' fr' frg w', Steps P (lone fr cs w) (lone frg (fr' :: cs) w') ∧ FrR P β' bl' none g frg ∧ FrR P β' bl' (some g.lk) f' fr' ∧ Ext β bl w β' bl' w' ∧ Kp f.lk bl bl') :
    To P pl C ⟨f :: fs, bl⟩ ⟨g :: f' :: fs, bl'⟩ := by
  rintro β m ⟨⟨f0, fs0, fr, ts, w, e, rfl, h1, h2, h3⟩, h4, h5⟩
  simp only [List.cons.injEq] at e
  obtain ⟨rfl, rfl⟩ := e
  obtain ⟨β', fr', frg, w', k1, k2, k3, k4, k5⟩ := h β fr (ts ++ C.cs) w h1 h3.heap h5
  exact ⟨β', _, k1, ⟨⟨_, _, frg, fr' :: ts, w', rfl, rfl, k2, ⟨fr', ts, rfl, k3, hsub, by rw [hlk]; exact h2.mono k4.le k5⟩, h3.trans k4⟩, h4.same hfn, by rw [k4.le.ck]; exact h5⟩⟩

/-- The frame on top ends. -/
theorem to_pop {g' : Fr} (hfn : g'.fn = g.fn) (hlk : g'.lk = g.lk)
    (h : ∀ β fr frg cs w, FrR P β bl none f fr → FrR P β bl (some f.lk) g frg → Heap β bl w → β.ck = Ck P pl → ∃ β' frg' w', Steps P (lone fr (frg :: cs) w) (lone frg' cs w') ∧ FrR P β' bl' none g' frg' ∧ Ext β bl w β' bl' w' ∧ Kp f.lk bl bl') :
    To P pl C ⟨f :: g :: fs, bl⟩ ⟨g' :: fs, bl'⟩ := by
  rintro β m ⟨⟨f0, fs0, fr, ts, w, e, rfl, h1, h2, h3⟩, h4, h5⟩
  simp only [List.cons.injEq] at e
  obtain ⟨rfl, rfl⟩ := e
  obtain ⟨frg, ts', rfl, g1, g2, g3⟩ := h2
  obtain ⟨β', frg', w', k1, k2, k3, k4⟩ := h β fr frg (ts' ++ C.cs) w h1 g1 h3.heap h5
  exact ⟨β', _, k1, ⟨⟨_, _, frg', ts', w', rfl, rfl, k2, by rw [hlk]; exact g3.mono k3.le (k4.sub g2), h3.trans k3⟩, Bot.same (f := g) h4 hfn, by rw [k3.le.ck]; exact h5⟩⟩

/-- A call's result comes back. -/
theorem finish_ok {β β' : Env} {lk : List Nat} {g' : Fr} {r : AV} {y : Value} {frg : Frame} (hg : finishS g r = some g') (h : FrR P β bl (some lk) g frg) (hle : β.le β') (hk : Kp lk bl bl') (hy : Den β' r y) :
    FrR P β' bl' none g' (frg.finish y) ∧ g'.fn = g.fn ∧ g'.lk = g.lk := by
  obtain ⟨fn, n, tm, k, rd, ms, lk0⟩ := g
  obtain ⟨tmps, ds, t, ro, rfl, h1, h2, h3⟩ := h
  simp only at h1 h2 h3 ⊢
  have eput : ∀ d : Option Nat, (Act.put ⟨tmps, ds⟩ d y : Act) = ⟨match d with
      | some d => tmps.setIfInBounds d y
      | none => tmps, ds⟩ := fun d => by cases d <;> rfl
  unfold finishS at hg
  simp only at hg
  split at hg
  · rename_i all o os g0 k
    obtain rfl := Option.some.inj hg
    refine ⟨?_, rfl, rfl⟩
    obtain ⟨h4, ⟨y0, t', rfl, ⟨-, m, hm, rfl⟩, h6⟩, -⟩ := h3
    have hlt : m < all.size := by
      apply Decidable.byContradiction
      intro hn
      rw [List.drop_of_length_le (by simp; omega)] at hm
      cases hm
    have ho : all[m]? = some o := by
      have := congrArg (·[0]?) hm
      simp only [List.getElem?_cons_zero, List.getElem?_drop, Nat.add_zero] at this
      rw [← Array.getElem?_toList]; exact this.symm
    have hr : List.range' m (all.size - m) = m :: List.range' (m + 1) (all.size - (m + 1)) := by
      have : all.size - m = (all.size - (m + 1)) + 1 := by omega
      rw [this, List.range'_succ]
    rw [hr, Frame.finish_atR, ho]
    simp only [Option.bind_some, eput]
    refine ⟨_, ds, _, ro, rfl, h1.mono hle, h2.mono hle, ⟨(h4.mono hle).put hy _, ⟨_, t', rfl, ⟨rfl, m + 1, ?_, rfl⟩, h6.mono hle⟩, fun b hb => by cases hb⟩⟩
    have := congrArg List.tail hm
    simpa using this
  · rename_i all i un rest A g0 k
    split at hg
    · rename_i o ho
      obtain rfl := Option.some.inj hg
      refine ⟨?_, rfl, rfl⟩
      obtain ⟨L, t', rfl, h5, h6, -⟩ := h3
      rw [nth_eq] at ho
      have ho' : all[i]? = some o := by simpa using ho
      have h7 := h6
      obtain ⟨X, tm0, hh, l, -, -, -, -, -, -, -, -, -, ⟨i', un', rest', L', e1, rfl, hcl⟩, -⟩ := h7
      simp only [List.cons.injEq, Prod.mk.injEq] at e1
      obtain ⟨⟨rfl, rfl⟩, rfl⟩ := e1
      rw [Frame.finish_atR, ho']
      simp only [Option.bind_some, eput]
      exact ⟨_, ds, _, ro, rfl, h1.mono hle, h2.mono hle, ⟨L', t', rfl, h5.mono hle, h6.done ho' (hcl o ho') hle hy (.inr ⟨lk, rfl, hk⟩), fun b hb => by cases hb⟩⟩
    · cases hg
  · rename_i l k
    obtain rfl := Option.some.inj hg
    refine ⟨?_, rfl, rfl⟩
    obtain ⟨h4, y0, t', rfl, ⟨b, s, hb, rfl⟩, h6⟩ := h3
    rw [finish_atR_inRangeFunc]
    exact ⟨tmps, ds, _, ro, rfl, h1.mono hle, h2.mono hle, ⟨h4.mono hle, _, t', rfl, ⟨b, s, hle.at hb, rfl⟩, h6.mono hle⟩⟩
  · cases hg

/-- A frame of the simple kind. -/
theorem FrR.plain {β : Env} {fn : FuncId} {n : Nat} {tm : TM} {x : SI} {k : List SI} {rd : Option Nat} {ms lk : List Nat} {fr : Frame} {pr : Option (List Nat)} (h : FrR P β bl pr ⟨fn, n, tm, x :: k, rd, ms, lk⟩ fr)
    (h1 : ∀ all plan A g, x ≠ .dr all plan A g) (h2 : ∀ all os g, x ≠ .ops all os g) :
    ∃ tmps ds y t ro, fr = (fr0 fn ro).atR ⟨tmps, ds⟩ (y :: t) ∧ MsR β ms ds ∧ RoR β rd ro ∧ TmOk β n tm tmps ∧ IR β fn x y ∧ KR β fn k t := by
  obtain ⟨tmps, ds, t, ro, e, g1, g2, g3⟩ := h
  simp only at e g1 g2 g3
  unfold TodoR at g3
  split at g3
  · rename_i e'; simp only [List.cons.injEq] at e'; exact absurd e'.1 (h1 _ _ _ _)
  · rename_i e'; simp only [List.cons.injEq] at e'; exact absurd e'.1 (h2 _ _ _)
  · obtain ⟨h3, y, t', rfl, h4, h5⟩ := g3
    exact ⟨tmps, ds, y, t', ro, e, g1, g2, h3, h4, h5⟩

theorem Ext.self {β : Env} {w : World} (h : Heap β bl w) : Ext β bl w β bl w := .refl h

end

end Go.SY
