/-
  The symbolic machine: its steps are steps of the model's machine: operations.
-/
import Derived.Test.YtdoeopcimhpjaaaSy19
set_option linter.unusedSimpArgs false
set_option linter.unusedVariables false
namespace Go.SY
open Go

def OutOk (P : Program) (pl : FuncId → Nat → Option Plan) (C : Ctx) (c : Conf) : Out → Prop
  | .next vc c' => vc = true → To P pl C c c'
  | .split b c1 c2 => (b = true → To P pl C c c1) ∧ (b = false → To P pl C c c2)
  | .fin vc r bl => vc = true → ∀ S : AV → Bls → Prop, S r bl → Rch P pl C c S
  | .stop => True

/-- What a contract says. -/
def ExtOk (P : Program) (g : FuncId) (c : List AV → Bls → Option (Bool × AV × Bls)) : Prop := ∀ args bl r bl', c args bl = some (true, r, bl') → bl' = bl ∧ ∀ (β : Env) (w : World) (vs : List Value), Heap β bl w → DenL β args vs → ∃ y, Den β r y ∧ (callFunc g vs.toArray).run P w = .ok (.value y) w

/-- What contracts say: of functions with a body; of functions without one. -/
def KOk (P : Program) (pl : FuncId → Nat → Option Plan) (K : KT) : Prop := ∀ g c, K g = some c → ExtOk P g c ∨ ((∃ F, fi P g = some F) ∧ ∀ args bl r bl', c args bl = some (true, r, bl') → Kl bl bl' ∧
  ∀ (β : Env) (w : World) (vs : List Value) (cs : List Frame), Heap β bl w → β.ck = Ck P pl → DenL β args vs →
    ∃ v fr β' w', Steps P (lone (Frame.enter P g vs.toArray .normal) cs w) (lone fr cs w') ∧ fr.leaving P w' (.returned v) ∧ Den β' r v ∧ Ext β bl w β' bl' w')

/-! ### guards -/
section
variable {all : Array Oper} {n : Nat} {tm : TM} {kn : Option Bool} {gd : Option (Nat × Bool)}

theorem wtS_yes (h : wtS all n tm kn gd = .yes) (hk : ∀ b, kn = some b → WS all n tm gd b) : WS all n tm gd true := by
  unfold wtS at h
  split at h
  · exact hk _ rfl
  · cases h
  · split at h
    · rfl
    · split at h
      · split at h
        · split at h <;> cases h
        · cases h
      · cases h

theorem wtS_no (h : wtS all n tm kn gd = .no) (hk : ∀ b, kn = some b → WS all n tm gd b) : WS all n tm gd false := by
  unfold wtS at h
  split at h
  · cases h
  · exact hk _ rfl
  · split at h
    · cases h
    · rename_i j want
      split at h
      · rename_i d hd
        split at h
        · rename_i hlt
          split at h
          · cases h
          · rename_i e
            exact ⟨d, hd, hlt, .inr ⟨rfl, e⟩⟩
          · cases h
        · cases h
      · cases h

theorem wtS_spl {b want : Bool} {d : Nat} (h : wtS all n tm kn gd = .spl b want d) : (∃ j, gd = some (j, want) ∧ gdst all j = some d) ∧ d < n ∧ get tm d = .v (.bool b) := by
  unfold wtS at h
  split at h
  · cases h
  · cases h
  · split at h
    · cases h
    · rename_i j want'
      split at h
      · rename_i d' hd
        split at h
        · rename_i hlt
          split at h
          · rename_i b' e
            simp only [Wt.spl.injEq] at h
            obtain ⟨rfl, rfl, rfl⟩ := h
            exact ⟨⟨j, rfl, hd⟩, hlt, e⟩
          · cases h
          · cases h
        · cases h
      · cases h

theorem WS.told {j d : Nat} {want b : Bool} (hd : gdst all j = some d) (hlt : d < n) : WS all n ((d, .v (.bool b)) :: tm) (some (j, want)) (if b = true then want else !want) := by
  refine ⟨d, hd, hlt, .inl ?_⟩
  simp only [get, if_true]
  cases b <;> cases want <;> rfl

theorem imp_told {d : Nat} {b : Bool} (h : get tm d = .v (.bool b)) : Imp tm ((d, .v (.bool b)) :: tm) := fun β s v hv => by
  simp only [get]
  split
  · rename_i e; subst e; rw [h] at hv; exact hv
  · exact hv
end

section
variable {P : Program} {β : Env} {bl bl' : Bls} {fn : FuncId} {n : Nat} {tm : TM} {all : Array Oper} {o : Oper} {tmps : Array Value} {ds : List Deferred} {ro : Option Nat} {i : Nat} {L : List Nat} {t : List Item} {cs : List Frame} {w : World} {lk : List Nat} {r : AV} {vc : Bool}

def putV (tmps : Array Value) (d : Option Nat) (y : Value) : Array Value := match d with
  | some d => tmps.setIfInBounds d y
  | none => tmps

theorem put_act (d : Option Nat) (y : Value) : (Act.put ⟨tmps, ds⟩ d y : Act) = ⟨putV tmps d y, ds⟩ := by cases d <;> rfl

theorem eval_act : (Act.eval ⟨tmps, ds⟩ : Operand → Value) = evT tmps := by funext x; cases x <;> rfl

theorem op_val (hpo : Poised β n tm all o tmps) (hws : WS all n tm o.guard true) (ho : all[i]? = some o) (hso : sop P tm bl lk o.op = .val vc r bl') (hv : vc = true) (hh : Heap β bl w) :
    ∃ y w' β', step P (lone ((fr0 fn ro).atR ⟨tmps, ds⟩ (.inRegion all (i :: L) :: t)) cs w) = .next (lone ((fr0 fn ro).atR ⟨putV tmps o.dst y, ds⟩ (.inRegion all L :: t)) cs w') ∧ Den β' r y ∧ Ext β bl w β' bl' w' ∧ Kp lk bl bl' := by
  obtain ⟨ρ, hev, hex⟩ := hpo.ev
  obtain ⟨⟨y, w', β', hrun, hy, hext⟩, hk⟩ := sop_val_sound hev hh hso hv
  refine ⟨y, w', β', ?_, hy, hext, hk⟩
  have hg := stepGR_op (P := P) (b := fr0 fn ro) (a := ⟨tmps, ds⟩) (k := t) (cs := cs) (w := w) (rest := L) ho (hpo.wt true hws)
  rw [Oper.semAt_eq _ _ _ (sop_not_defer hso (by simp)), eval_act, ← hex] at hg
  have hfin := Frame.finish_atR (fr0 fn ro) ⟨tmps, ds⟩ all i L t y
  rw [ho] at hfin
  simp only [Option.bind_some, put_act] at hfin
  refine step_lone_go ?_
  rw [hg, ← hfin]
  rcases hrun with hrun | ⟨rfl, hrun⟩ <;> simp [stepG.apply, hrun]

theorem op_call {g : FuncId} {args : List AV} {F : FI} (hpo : Poised β n tm all o tmps) (hws : WS all n tm o.guard true) (ho : all[i]? = some o) (hso : sop P tm bl lk o.op = .call g args) (hF : fi P g = some F) :
    ∃ vs : List Value, DenL β args vs ∧ step P (lone ((fr0 fn ro).atR ⟨tmps, ds⟩ (.inRegion all (i :: L) :: t)) cs w) = .next (lone (Frame.enter P g vs.toArray .normal) ((fr0 fn ro).atR ⟨tmps, ds⟩ (.inRegion all (i :: L) :: t) :: cs) w) := by
  obtain ⟨ρ, hev, hex⟩ := hpo.ev
  obtain ⟨vs, h1, hrun⟩ := sop_call (w := w) hev hso hF
  refine ⟨vs, h1, ?_⟩
  have hg := stepGR_op (P := P) (b := fr0 fn ro) (a := ⟨tmps, ds⟩) (k := t) (cs := cs) (w := w) (rest := L) ho (hpo.wt true hws)
  rw [Oper.semAt_eq _ _ _ (sop_not_defer hso (by simp)), eval_act, ← hex] at hg
  refine step_lone_go ?_
  rw [hg]
  simp [stepG.apply, hrun, Frame.atR]

theorem op_ext {g : FuncId} {args : List AV} {c : List AV → Bls → Option (Bool × AV × Bls)} (hpo : Poised β n tm all o tmps) (hws : WS all n tm o.guard true) (ho : all[i]? = some o) (hso : sop P tm bl lk o.op = .call g args) (hx : ExtOk P g c) (hc : c args bl = some (true, r, bl')) (hhp : Heap β bl w) :
    ∃ y, step P (lone ((fr0 fn ro).atR ⟨tmps, ds⟩ (.inRegion all (i :: L) :: t)) cs w) = .next (lone ((fr0 fn ro).atR ⟨putV tmps o.dst y, ds⟩ (.inRegion all L :: t)) cs w) ∧ Den β r y := by
  obtain ⟨ρ, hev, hex⟩ := hpo.ev
  obtain ⟨vs, h1, hrun⟩ := sop_callF (w := w) hev hso
  obtain ⟨y, hy, hrun2⟩ := (hx args bl r bl' hc).2 β w vs hhp h1
  rw [hrun2] at hrun
  refine ⟨y, ?_, hy⟩
  have hg := stepGR_op (P := P) (b := fr0 fn ro) (a := ⟨tmps, ds⟩) (k := t) (cs := cs) (w := w) (rest := L) ho (hpo.wt true hws)
  rw [Oper.semAt_eq _ _ _ (sop_not_defer hso (by simp)), eval_act, ← hex] at hg
  have hfin := Frame.finish_atR (fr0 fn ro) ⟨tmps, ds⟩ all i L t y
  rw [ho] at hfin
  simp only [Option.bind_some, put_act] at hfin
  refine step_lone_go ?_
  rw [hg, ← hfin]
  simp [stepG.apply, hrun]

theorem op_yld {l : Nat} {args : List AV} (hpo : Poised β n tm all o tmps) (hws : WS all n tm o.guard true) (ho : all[i]? = some o) (hso : sop P tm bl lk o.op = .yld l args) :
    ∃ (vs : List Value) (b s : Nat), DenL β args vs ∧ β.b[l]? = some (some (b, s)) ∧ ∀ g tmps' as body, (Instr.yield b vs.toArray).run P w = .ok (.round b g tmps' as body) w →
      step P (lone ((fr0 fn ro).atR ⟨tmps, ds⟩ (.inRegion all (i :: L) :: t)) cs w) = .next (lone (Frame.round b g tmps' as body .normal) ((fr0 fn ro).atR ⟨tmps, ds⟩ (.inRegion all (i :: L) :: t) :: cs) w) := by
  obtain ⟨ρ, hev, hex⟩ := hpo.ev
  obtain ⟨vs, b, s, h1, hb, hrun⟩ := sop_yld (P := P) (w := w) hev hso
  refine ⟨vs, b, s, h1, hb, fun g tmps' as body hy => ?_⟩
  rw [hy] at hrun
  have hg := stepGR_op (P := P) (b := fr0 fn ro) (a := ⟨tmps, ds⟩) (k := t) (cs := cs) (w := w) (rest := L) ho (hpo.wt true hws)
  rw [Oper.semAt_eq _ _ _ (sop_not_defer hso (by simp)), eval_act, ← hex] at hg
  refine step_lone_go ?_
  rw [hg]
  simp [stepG.apply, hrun]

/-- A frame that stands at an operation that is wanted. -/
def At (P : Program) (β : Env) (bl : Bls) (f : Fr) (o : Oper) (k' : List SI) (lk : List Nat) (fr : Frame) : Prop :=
  ∃ tmps ds all i L t ro, fr = (fr0 f.fn ro).atR ⟨tmps, ds⟩ (.inRegion all (i :: L) :: t) ∧ all[i]? = some o ∧ Poised β f.n f.tm all o tmps ∧ WS all f.n f.tm o.guard true ∧ MsR β f.ms ds ∧ RoR β f.rd ro ∧
    (∀ β' bl' r y, β.le β' → Den β' r y → Kp lk bl bl' → TodoR P β' bl' none f.fn f.n (put f.n f.tm o.dst r) k' (putV tmps o.dst y) (.inRegion all L :: t)) ∧ FrR P β bl (some lk) f fr

theorem At.after {f : Fr} {k' : List SI} {fr : Frame} {y : Value} {β' : Env} (h : At P β bl f o k' lk fr) (hle : β.le β') (hy : Den β' r y) (hk : Kp lk bl bl') :
    FrR P β' bl' none ⟨f.fn, f.n, put f.n f.tm o.dst r, k', f.rd, f.ms, f.lk⟩ (fr.finish y) := by
  obtain ⟨tmps, ds, all, i, L, t, ro, rfl, ho, -, -, h1, h2, h3, -⟩ := h
  rw [Frame.finish_atR, ho]
  simp only [Option.bind_some, put_act]
  exact ⟨_, ds, _, ro, rfl, h1.mono hle, h2.mono hle, h3 β' bl' r y hle hy hk⟩

variable {pl : FuncId → Nat → Option Plan} {C : Ctx} {f f0 : Fr} {fs : List Fr} {K : KT} {k' : List SI}

theorem enterS_ok (hpl : PlOk P pl) {g : FuncId} {args : List AV} (hfn : f.fn = f0.fn) (hlk : f.lk = f0.lk) (hsub : ∀ q ∈ f0.lk, q ∈ lk)
    (h : ∀ β fr cs w F, fi P g = some F → FrR P β bl none f0 fr → Heap β bl w → β.ck = Ck P pl → ∃ β' vs fr' w', DenL β' args vs ∧ Steps P (lone fr cs w) (lone (Frame.enter P g vs.toArray .normal) (fr' :: cs) w') ∧ FrR P β' bl' (some lk) f fr' ∧ Ext β bl w β' bl' w' ∧ Kp f0.lk bl bl') :
    OutOk P pl C ⟨f0 :: fs, bl⟩ (enterS P g args lk (f :: fs) bl') := by
  unfold enterS
  split
  · rename_i F hF
    split
    · rename_i hlen
      intro _
      refine to_push hfn hlk (by rw [hlk]; exact hsub) fun β fr cs w h1 hh hck => ?_
      obtain ⟨β', vs, fr', w', h2, h3, h4, h5, h6⟩ := h β fr cs w F hF h1 hh hck
      exact ⟨β', fr', _, w', h3, enter_ok hF (hpl.ck g F hF) (by rw [h5.le.ck]; exact hck) h2 hlen, h4, h5, h6⟩
    · trivial
  · trivial

theorem opS_ok (hpl : PlOk P pl) (hK : KOk P pl K) (hfn : f.fn = f0.fn) (hlk : f.lk = f0.lk) (hsub : ∀ q ∈ f0.lk, q ∈ lk)
    (hat : ∀ β fr cs w, FrR P β bl none f0 fr → β.ck = Ck P pl → Heap β bl w → ∃ fr', Steps P (lone fr cs w) (lone fr' cs w) ∧ At P β bl f o k' lk fr') :
    OutOk P pl C ⟨f0 :: fs, bl⟩ (opS P K f o k' lk fs bl) := by
  obtain ⟨fn, n, tm, k, rd, ms, lk0⟩ := f
  simp only at hfn hlk
  unfold opS
  simp only
  split
  · -- a value
    rename_i vc r bl' hso
    intro hv
    refine to_top hfn hlk fun β fr cs w h1 hh hck => ?_
    obtain ⟨fr', hs, hat'⟩ := hat β fr cs w h1 hck hh
    have hat2 := hat'
    obtain ⟨tmps, ds, all, i, L, t, ro, rfl, ho, hpo, hws, g1, g2, g3, -⟩ := hat'
    obtain ⟨y, w', β', h2, hy, h3, h4⟩ := op_val (fn := fn) (ro := ro) (ds := ds) (L := L) (t := t) (cs := cs) hpo hws ho hso hv hh
    refine ⟨β', _, w', hs.trans (.one h2), ?_, h3, h4.sub hsub⟩
    exact ⟨_, ds, _, ro, rfl, g1.mono h3.le, g2.mono h3.le, g3 β' bl' r y h3.le hy h4⟩
  · rename_i g args hso
    split
    · -- a contract
      rename_i c hc
      split
      · rename_i vc r bl' hcr
        intro hv
        rw [Bool.and_eq_true] at hv
        obtain ⟨rfl, hal⟩ := hv
        rcases hK g c hc with hx | ⟨⟨F, hF⟩, hcon⟩
        · obtain ⟨rfl, -⟩ := hx args bl r bl' hcr
          refine to_top hfn hlk fun β fr cs w h1 hh hck => ?_
          obtain ⟨fr', hs, hat'⟩ := hat β fr cs w h1 hck hh
          obtain ⟨tmps, ds, all, i, L, t, ro, rfl, ho, hpo, hws, g1, g2, g3, -⟩ := hat'
          obtain ⟨y, h2, hy⟩ := op_ext (fn := fn) (ro := ro) (ds := ds) (L := L) (t := t) (cs := cs) (w := w) hpo hws ho hso hx hcr hh
          exact ⟨β, _, w, hs.trans (.one h2), ⟨_, ds, _, ro, rfl, g1, g2, g3 β _ r y (.refl _) hy (.refl _ _)⟩, .refl hh, .refl _ _⟩
        obtain ⟨hkl, hcon⟩ := hcon args bl r bl' hcr
        have hkp := alive_keep hkl hal
        refine to_top hfn hlk fun β fr cs w h1 hh hck => ?_
        obtain ⟨fr', hs, hat'⟩ := hat β fr cs w h1 hck hh
        have hat2 := hat'
        obtain ⟨tmps, ds, all, i, L, t, ro, rfl, ho, hpo, hws, g1, g2, g3, -⟩ := hat'
        obtain ⟨vs, hvs, h2⟩ := op_call (fn := fn) (ro := ro) (ds := ds) (L := L) (t := t) (cs := cs) (w := w) hpo hws ho hso hF
        obtain ⟨v, frl, β', w', h3, h4, h5, h6⟩ := hcon β w vs (_ :: cs) hh hck hvs
        exact ⟨β', _, w', hs.trans (.head h2 (h3.trans (.one (step_leave_returned h4)))), hat2.after h6.le h5 hkp, h6, hkp.sub hsub⟩
      · trivial
    · -- entered
      refine enterS_ok hpl hfn hlk hsub fun β fr cs w F hF h1 hh hck => ?_
      obtain ⟨fr', hs, hat'⟩ := hat β fr cs w h1 hck hh
      obtain ⟨tmps, ds, all, i, L, t, ro, rfl, ho, hpo, hws, g1, g2, g3, g4⟩ := hat'
      obtain ⟨vs, hvs, h2⟩ := op_call (fn := fn) (ro := ro) (ds := ds) (L := L) (t := t) (cs := cs) (w := w) hpo hws ho hso hF
      exact ⟨β, vs, _, w, hvs, hs.trans (.one h2), g4, .refl hh, .refl _ _⟩
  · -- a round
    rename_i l args hso
    unfold roundS
    split
    · rename_i st pend g n' tm' ps a b df hl
      split
      · rename_i hlen
        intro _
        refine to_push hfn hlk (by rw [hlk]; exact hsub) fun β fr cs w h1 hh hck => ?_
        obtain ⟨fr', hs, hat'⟩ := hat β fr cs w h1 hck hh
        obtain ⟨tmps, ds, all, i, L, t, ro, rfl, ho, hpo, hws, g1, g2, g3, g4⟩ := hat'
        obtain ⟨vs, b', s, hvs, hb, h2⟩ := op_yld (P := P) (fn := fn) (ro := ro) (ds := ds) (L := L) (t := t) (cs := cs) (w := w) hpo hws ho hso
        obtain ⟨tmps', hy, hfr⟩ := round_ok (P := P) (lk := lk) hh hl hb hvs hlen.1 hlen.2
        exact ⟨β, _, _, w, hs.trans (.one (h2 _ _ _ _ hy)), hfr, g4, .refl hh, .refl _ _⟩
      · trivial
    · trivial
  · trivial

end

end Go.SY
