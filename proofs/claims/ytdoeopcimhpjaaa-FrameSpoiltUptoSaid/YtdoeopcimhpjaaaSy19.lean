/-
  The symbolic machine: jumps, ends, entries.
-/
import Derived.Test.YtdoeopcimhpjaaaSy18
set_option linter.unusedSimpArgs false
set_option linter.unusedVariables false
namespace Go.SY
open Go

section
variable {P : Program} {pl : FuncId → Nat → Option Plan} {β : Env} {fn : FuncId}

theorem exitS_ok {id : Nat} : ∀ {k : List SI} {t : List Item}, KR β fn k t → match exitS id k with
    | some k' => ∃ t', exitTo id t = some t' ∧ KR β fn k' t'
    | none => exitTo id t = none
  | [], t, h => by simp only [KR] at h; subst h; simp [exitS, exitTo]
  | x :: k, t, ⟨y, t', e, h1, h2⟩ => by
    subst e
    have ih := exitS_ok (id := id) h2
    cases x with
    | blk id' =>
      simp only [IR] at h1
      subst h1
      simp only [exitS, exitTo]
      by_cases e : id = id'
      · subst e; simp only [if_true, beq_self_eq_true]; exact ⟨t', rfl, h2⟩
      · have : (id' == id) = false := by simpa using fun h => e h.symm
        simp only [e, if_false, this, Bool.false_eq_true]; exact ih
    | code c => obtain ⟨rfl, -⟩ := h1; simpa only [exitS, exitTo] using ih
    | lp c => obtain ⟨rfl, -⟩ := h1; simpa only [exitS, exitTo] using ih
    | sc c => obtain ⟨rfl, -⟩ := h1; simpa only [exitS, exitTo] using ih
    | ops all os g => obtain ⟨-, m, -, rfl⟩ := h1; simpa only [exitS, exitTo] using ih
    | dr all p A g => exact h1.elim
    | rf l => obtain ⟨b, s, -, rfl⟩ := h1; simpa only [exitS, exitTo] using ih
    | erf l => obtain ⟨b, s, -, rfl⟩ := h1; simpa only [exitS, exitTo] using ih
    | br => simp only [IR] at h1; subst h1; simpa only [exitS, exitTo] using ih

theorem ck_label {l : Nat} : ∀ {c r : Code}, Ck P pl fn c → findLabel c l = some r → Ck P pl fn r := by
  intro c
  induction c with
  | seq a b iha ihb =>
    intro r hc h
    simp only [Ck] at hc
    simp only [findLabel] at h
    split at h
    · rename_i rest hr
      obtain rfl := Option.some.inj h
      exact ⟨iha hc.1 hr, hc.2⟩
    · exact ihb hc.2 h
  | label l' =>
    intro r hc h
    simp only [findLabel] at h
    split at h
    · obtain rfl := Option.some.inj h; trivial
    · cases h
  | _ => intro r hc h; simp [findLabel] at h

theorem gotoS_ok {l : Nat} (hck : β.ck = Ck P pl) : ∀ {k : List SI} {t : List Item}, KR β fn k t → match gotoS l k with
    | some k' => ∃ t', gotoIn l t = some t' ∧ KR β fn k' t'
    | none => gotoIn l t = none
  | [], t, h => by simp only [KR] at h; subst h; simp [gotoS, gotoIn]
  | x :: k, t, ⟨y, t', e, h1, h2⟩ => by
    subst e
    have ih := gotoS_ok (l := l) hck h2
    cases x with
    | sc c =>
      obtain ⟨rfl, hc⟩ := h1
      simp only [gotoS, gotoIn]
      cases hf : findLabel c l with
      | none => exact ih
      | some r => exact ⟨_, rfl, ⟨_, _, rfl, ⟨rfl, by rw [hck] at hc ⊢; exact ck_label hc hf⟩, ⟨_, _, rfl, ⟨rfl, hc⟩, h2⟩⟩⟩
    | code c => obtain ⟨rfl, -⟩ := h1; simpa only [gotoS, gotoIn] using ih
    | lp c => obtain ⟨rfl, -⟩ := h1; simpa only [gotoS, gotoIn] using ih
    | blk id => simp only [IR] at h1; subst h1; simpa only [gotoS, gotoIn] using ih
    | ops all os g => obtain ⟨-, m, -, rfl⟩ := h1; simpa only [gotoS, gotoIn] using ih
    | dr all p A g => exact h1.elim
    | rf l => obtain ⟨b, s, -, rfl⟩ := h1; simpa only [gotoS, gotoIn] using ih
    | erf l => obtain ⟨b, s, -, rfl⟩ := h1; simpa only [gotoS, gotoIn] using ih
    | br => simp only [IR] at h1; subst h1; simpa only [gotoS, gotoIn] using ih

/-! ### results -/
def resV (tmps : Array Value) : ResultVar → Sem Value
  | .tmp t => pure (tmps.getD t undef)
  | .cell a t => do loadVar t (← asAddr (tmps.getD a undef))

theorem resV_tmp (tmps : Array Value) (t : Nat) : resV tmps (.tmp t) = pure (tmps.getD t undef) := rfl
theorem resV_cell (tmps : Array Value) (a : Nat) (t : TypeId) : resV tmps (.cell a t) = (do loadVar t (← asAddr (tmps.getD a undef))) := rfl
theorem results_resV (f : Func) (tmps : Array Value) : results f tmps = (do
  let vs ← f.results.mapM (resV tmps)
  pure (if h : vs.size = 1 then vs[0] else .tuple vs)) := rfl

theorem resAll_run {n : Nat} {tm : TM} {tmps : Array Value} {bl : Bls} {w : World} (ht : TmOk β n tm tmps) (hh : Heap β bl w) : ∀ {rs : List ResultVar} {vc : Bool} {xs : List AV}, resAll P tm bl rs = some (vc, xs) → vc = true →
    ∃ vs, DenL β xs vs ∧ (rs.mapM (resV tmps)).run P w = .ok vs w
  | [], vc, xs, h, _ => by
    simp only [resAll, Option.some.injEq, Prod.mk.injEq] at h
    obtain ⟨-, rfl⟩ := h
    exact ⟨[], by simp only [DenL], by simp [Sem.run_pure]⟩
  | .tmp t :: r, vc, xs, h, hv => by
    simp only [resAll] at h
    split at h
    · rename_i vc' xs' e
      simp only [Option.some.injEq, Prod.mk.injEq] at h
      obtain ⟨rfl, rfl⟩ := h
      obtain ⟨vs, h1, h2⟩ := resAll_run ht hh e hv
      refine ⟨tmps.getD t undef :: vs, by simp only [DenL]; exact ⟨_, _, rfl, ht.2 t, h1⟩, ?_⟩
      rw [List.mapM_cons]
      simp only [resV_tmp, Sem.run_bind, Sem.run_pure, Result.andThen_ok, h2]
    · cases h
  | .cell a t :: r, vc, xs, h, hv => by
    simp only [resAll] at h
    split at h
    · rename_i T hT
      split at h
      · rename_i l i w' k he
        split at h
        · rename_i c hc
          split at h
          · rename_i v1 x hx
            split at h
            · rename_i vc' xs' e
              simp only [Option.some.injEq, Prod.mk.injEq] at h
              obtain ⟨h3, rfl⟩ := h
              rw [hv, Bool.and_eq_true] at h3
              obtain ⟨vs, h1, h2⟩ := resAll_run ht hh e h3.2
              have hd := ht.2 a
              rw [he] at hd
              simp only [Den] at hd
              obtain ⟨b, s, hb, ha⟩ := hd
              obtain ⟨ys, sp, U, fz, hg, -, hcs, -⟩ := heap_cells hh hc hb (rdCt_cell hx)
              have hr := rdCt_sound hcs hx h3.1
              obtain ⟨y, g1, g2⟩ := load_rd hT (InW.of_cells hg) hr
              rw [Nat.zero_add] at g1
              refine ⟨y :: vs, by simp only [DenL]; exact ⟨_, _, rfl, g2, h1⟩, ?_⟩
              rw [List.mapM_cons]
              simp only [resV_cell, ha, asAddr, Sem.run_bind, Sem.run_pure, Result.andThen_ok, g1, h2]
            · cases h
          · cases h
        · cases h
      · cases h
    · cases h

theorem den_tup1 {xs : List AV} {vs : List Value} (h : DenL β xs vs) : Den β (tup1 xs) (if h : vs.toArray.size = 1 then vs.toArray[0] else .tuple vs.toArray) := by
  match xs, h with
  | [], h => simp only [DenL] at h; subst h; simp only [tup1]; simp only [Den, DenL]; exact ⟨[], rfl, rfl⟩
  | [x], h =>
    simp only [DenL] at h
    obtain ⟨y, zs, rfl, h1, rfl⟩ := h
    simpa [tup1] using h1
  | a :: b :: r, h =>
    have hl := denL_length h
    have : ¬ vs.toArray.size = 1 := by simp at hl ⊢; omega
    rw [dif_neg this]
    show Den β (.tup (a :: b :: r)) _
    rw [Den]
    exact ⟨vs, rfl, h⟩

theorem results_run {F : FI} {f : Func} {n : Nat} {tm : TM} {tmps : Array Value} {bl : Bls} {w : World} {r : AV} (hF : F.res = f.results.toList) (ht : TmOk β n tm tmps) (hh : Heap β bl w) (h : resS P tm bl F.res = some (true, r)) :
    ∃ v, Den β r v ∧ (results f tmps).run P w = .ok v w := by
  unfold resS at h
  split at h
  · rename_i vc xs e
    simp only [Option.some.injEq, Prod.mk.injEq] at h
    obtain ⟨rfl, rfl⟩ := h
    obtain ⟨vs, h1, h2⟩ := resAll_run ht hh e rfl
    refine ⟨_, den_tup1 h1, ?_⟩
    rw [results_resV, Array.mapM_eq_mapM_toList, ← hF]
    simp only [Sem.run_bind, Sem.run_map, h2, Result.andThen_ok, Sem.run_pure]
  · cases h

theorem fi_func {F : FI} (h : fi P fn = some F) : ∃ f c, P.funcs[fn]? = some f ∧ f.body = some c ∧ F = ⟨f.ntmps, f.results.toList, c⟩ := by
  unfold fi at h
  split at h
  · rename_i f hf
    split at h
    · rename_i c hc
      split at h
      · cases h
      · exact ⟨f, c, hf, hc, (Option.some.inj h).symm⟩
    · cases h
  · cases h

/-! ### a function ends -/
theorem marks_run {tmps : Array Value} {t : List Item} {ro : Option Nat} {cs : List Frame} : ∀ {ms : List Nat} {ds : List Deferred} {bl : Bls} {w : World}, MsR β ms ds → Heap β bl w → isDefs bl ms = true →
    ∃ w', Steps P (lone { (fr0 fn ro).atR ⟨tmps, ds⟩ t with mode := .returning } cs w) (lone { (fr0 fn ro).atR ⟨tmps, []⟩ t with mode := .returning } cs w') ∧ Ext β bl w β (killL ms bl) w' ∧ ∀ lk, Kp lk bl (killL ms bl)
  | [], ds, bl, w, hm, hh, _ => by
    simp only [MsR] at hm
    subst hm
    exact ⟨w, .refl _ _, .refl hh, fun lk => .refl _ _⟩
  | m :: ms, ds, bl, w, ⟨b, s, ds', hb, e, hm⟩, hh, hi => by
    subst e
    simp only [isDefs] at hi
    split at hi
    · rename_i hl
      obtain ⟨o, ho, hd⟩ := heap_rec hh hl hb rfl
      simp only [ObDen] at hd
      subst hd
      have hext := hh.put (o := .deferred none) (x := none) (lvl_get hl) hb (fun c' h => by cases h)
      rw [← setl_set] at hext
      obtain ⟨w', h1, h2, h3⟩ := marks_run (tmps := tmps) (t := t) (ro := ro) (cs := cs) hm hext.heap hi
      refine ⟨w', .head ?_ h1, hext.trans h2, fun lk => (Kp.rec hl rfl).trans (h3 lk)⟩
      have := step_collected (P := P) (fr := { (fr0 fn ro).atR ⟨tmps, { target := .collected b, args := #[] } :: ds'⟩ t with mode := .returning }) (cs := cs) (w := w) (by simp) rfl rfl (run_takeDeferred ho)
      simpa [Frame.atR] using this
    · cases hi

/-- From where a function goes out to where it is left. -/
theorem leave_run {F : FI} {n : Nat} {tm : TM} {tmps : Array Value} {t : List Item} {cs : List Frame} {ms : List Nat} {ds : List Deferred} {bl : Bls} {w : World} {r : AV} (hF : fi P fn = some F) (hm : MsR β ms ds) (ht : TmOk β n tm tmps) (hh : Heap β bl w)
    (hi : isDefs bl ms = true) (hr : resS P tm (killL ms bl) F.res = some (true, r)) :
    ∃ v fr w', Steps P (lone { (fr0 fn none).atR ⟨tmps, ds⟩ t with mode := .returning } cs w) (lone fr cs w') ∧ fr.fn = fn ∧ fr.leaving P w' (.returned v) ∧ Den β r v ∧ Ext β bl w β (killL ms bl) w' ∧ ∀ lk, Kp lk bl (killL ms bl) := by
  obtain ⟨w', h1, h2, h3⟩ := marks_run (P := P) (fn := fn) (tmps := tmps) (t := t) (ro := none) (cs := cs) hm hh hi
  obtain ⟨f, c, hf, hc, rfl⟩ := fi_func hF
  obtain ⟨v, hv, hres⟩ := results_run (f := f) rfl ht h2.heap hr
  exact ⟨v, _, w', h1, rfl, ⟨rfl, rfl, rfl, f, hf, hres⟩, hv, h2, h3⟩

/-! ### a function is entered -/
theorem ini_get : ∀ {args : List AV} {vs : List Value} {i s : Nat}, DenL β args vs → i ≤ s → Den β (get (ini i args) s) (vs[s - i]?.getD undef)
  | [], vs, i, s, h, _ => by simp only [ini, get, Den]
  | x :: r, vs, i, s, h, hi => by
    simp only [DenL] at h
    obtain ⟨y, zs, rfl, h1, h2⟩ := h
    simp only [ini, get]
    by_cases e : i = s
    · subst e; simpa using h1
    · rw [if_neg e]
      have := ini_get (i := i + 1) (s := s) h2 (by omega)
      have e2 : s - i = (s - (i + 1)) + 1 := by omega
      rw [e2, List.getElem?_cons_succ]; exact this

theorem enter_ok {g : FuncId} {F : FI} {args : List AV} {vs : List Value} {bl : Bls} {lk : List Nat} (hF : fi P g = some F) (hck : Ck P pl g F.body) (hβ : β.ck = Ck P pl) (ha : DenL β args vs) (hn : args.length ≤ F.n) :
    FrR P β bl none ⟨g, F.n, ini 0 args, [.code F.body], none, [], lk⟩ (Frame.enter P g vs.toArray .normal) := by
  obtain ⟨f, c, hf, hc, rfl⟩ := fi_func hF
  simp only at hck hn ⊢
  have hl := denL_length ha
  refine ⟨vs.toArray ++ Array.replicate (f.ntmps - vs.toArray.size) undef, [], [.code c], none, by simp [Frame.enter, Frame.atR, hf, hc], rfl, rfl, ⟨⟨by simp; omega, fun s => ?_⟩, _, _, rfl, ⟨rfl, by rw [hβ]; exact hck⟩, rfl⟩⟩
  have := ini_get (i := 0) (s := s) ha (Nat.zero_le _)
  simp only [Nat.sub_zero] at this
  rw [Array.getD_eq_getD_getElem?, Array.getElem?_append]
  by_cases e : s < vs.toArray.size
  · rw [if_pos e]; simpa using this
  · rw [if_neg e]
    have e2 : vs[s]? = none := by rw [List.getElem?_eq_none]; simpa using e
    rw [e2] at this
    have e3 : ((Array.replicate (f.ntmps - vs.toArray.size) undef)[s - vs.toArray.size]?).getD undef = undef := by
      rw [Array.getElem?_replicate]; split <;> rfl
    rw [e3]; exact this

theorem setPs_ok {n : Nat} : ∀ {ps : List Nat} {args : List AV} {vs : List Value} {tm : TM} {tmps : Array Value}, TmOk β n tm tmps → DenL β args vs → args.length = ps.length → (ps.all fun p => decide (p < n)) = true →
    TmOk β n (setPs tm ps args) ((ps.zip vs).foldl (fun tmps (t, a) => tmps.setIfInBounds t a) tmps)
  | [], args, vs, tm, tmps, ht, ha, hl, _ => by
    cases args with
    | nil => simpa [setPs] using ht
    | cons a r => simp at hl
  | p :: ps, [], vs, tm, tmps, _, _, hl, _ => by simp at hl
  | p :: ps, a :: args, vs, tm, tmps, ht, ha, hl, hp => by
    simp only [DenL] at ha
    obtain ⟨y, zs, rfl, h1, h2⟩ := ha
    simp only [List.all_cons, Bool.and_eq_true, decide_eq_true_eq] at hp
    simp only [setPs, List.zip_cons_cons, List.foldl_cons]
    refine setPs_ok ?_ h2 (by simpa using hl) hp.2
    have := ht.put h1 (some p)
    unfold put at this
    simpa [hp.1] using this

theorem round_ok {l b s : Nat} {st : LoopState} {pend : Option Code} {g : FuncId} {n : Nat} {tm : TM} {ps : List Nat} {as body : Code} {df : Nat} {args : List AV} {vs : List Value} {bl : Bls} {w : World} {lk : List Nat} (hh : Heap β bl w)
    (hl : lvl bl l = some (.loop st pend g n tm ps as body df)) (hb : β.b[l]? = some (some (b, s))) (ha : DenL β args vs) (hlen : args.length = ps.length) (hps : (ps.all fun p => decide (p < n)) = true) :
    ∃ tmps, (Instr.yield b vs.toArray).run P w = .ok (.round b g tmps as body) w ∧ FrR P β bl none ⟨g, n, setPs tm ps args, [.code as, .br, .code body], some l, [], lk⟩ (Frame.round b g tmps as body .normal) := by
  obtain ⟨o, ho, hd⟩ := heap_rec hh hl hb rfl
  simp only [ObDen] at hd
  obtain ⟨tmps, b', s', rfl, ht, hdf, hc1, hc2, -⟩ := hd
  have hl' := denL_length ha
  have hy := run_yield (P := P) (args := vs.toArray) ho (by simp; omega)
  have e : ((ps.toArray.zip vs.toArray).foldl (fun tmps (x : Tmp × Value) => tmps.setIfInBounds x.1 x.2) tmps) = (ps.zip vs).foldl (fun tmps (x : Tmp × Value) => tmps.setIfInBounds x.1 x.2) tmps := by
    rw [← Array.foldl_toList]; simp
  refine ⟨(ps.zip vs).foldl (fun tmps (x : Tmp × Value) => tmps.setIfInBounds x.1 x.2) tmps, by rw [← e]; exact hy, ?_⟩
  refine ⟨_, [], [.code as, .beginRound, .code body], some b, by simp [Frame.round, Frame.atR]; rfl, rfl, ⟨b, s, hb, rfl⟩, ⟨?_, _, _, rfl, ⟨rfl, hc1⟩, _, _, rfl, rfl, _, _, rfl, ⟨rfl, hc2⟩, rfl⟩⟩
  exact setPs_ok ht ha hlen hps

end

end Go.SY
