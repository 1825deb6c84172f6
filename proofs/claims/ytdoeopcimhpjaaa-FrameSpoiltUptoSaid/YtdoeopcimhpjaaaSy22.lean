/-
  The symbolic machine: its steps are steps of the model's machine: all of them.
-/
import Derived.Test.YtdoeopcimhpjaaaSy21
set_option linter.unusedSimpArgs false
set_option linter.unusedVariables false
namespace Go.SY
open Go

section
variable {P : Program} {pl : FuncId → Nat → Option Plan} {C : Ctx} {fn : FuncId} {n : Nat} {tm : TM} {k k' : List SI} {rd : Option Nat} {ms lk : List Nat} {fs : List Fr} {bl bl' : Bls} {K : KT} {x : SI} {f : Fr}

theorem retS_ok (hf : f.fn = fn) (hlkf : f.lk = lk) (hms : f.ms = ms) (h : ∀ β fr cs w, FrR P β bl none f fr → Heap β bl w → β.ck = Ck P pl → ∃ tmps ds t, step P (lone fr cs w) = .next (lone { (fr0 fn none).atR ⟨tmps, ds⟩ t with mode := .returning } cs w) ∧ TmOk β n tm tmps ∧ MsR β ms ds) :
    OutOk P pl C ⟨f :: fs, bl⟩ (retS P fn tm ms lk fs bl) := by
  unfold retS
  split
  · rename_i F hF
    split
    · rename_i hi
      split
      · rename_i vc r hr
        split
        · -- the run's end
          intro hv S hS
          subst hv
          rintro β m ⟨⟨f0, fs0, fr, ts, w, e, rfl, h1, h2, h3⟩, h4, h5⟩
          simp only [List.cons.injEq] at e
          obtain ⟨rfl, rfl⟩ := e
          simp only [SusR] at h2
          subst h2
          obtain ⟨tmps, ds, t, hst, ht, hm⟩ := h β fr C.cs w h1 h3.heap h5
          obtain ⟨v, frl, w', s1, s2, s3, s4, s5, -⟩ := leave_run (t := t) (cs := C.cs) hF hm ht h3.heap hi hr
          exact ⟨v, frl, β, r, _, w', .head hst s1, by rw [s2, ← hf]; exact h4, s3, s4, h3.trans s5, hS⟩
        · rename_i g fs'
          split
          · rename_i g' hg
            intro hv
            subst hv
            have hfg : g'.fn = g.fn ∧ g'.lk = g.lk := by
              obtain ⟨fn', n', tm', k', rd', ms', lk'⟩ := g
              unfold finishS at hg
              simp only at hg
              split at hg
              · obtain rfl := Option.some.inj hg; exact ⟨rfl, rfl⟩
              · split at hg
                · obtain rfl := Option.some.inj hg; exact ⟨rfl, rfl⟩
                · cases hg
              · obtain rfl := Option.some.inj hg; exact ⟨rfl, rfl⟩
              · cases hg
            refine to_pop hfg.1 hfg.2 fun β fr frg cs w h1 h2 hh hck => ?_
            obtain ⟨tmps, ds, t, hst, ht, hm⟩ := h β fr (frg :: cs) w h1 hh hck
            obtain ⟨v, frl, w', s1, s2, s3, s4, s5, s6⟩ := leave_run (t := t) (cs := frg :: cs) hF hm ht hh hi hr
            exact ⟨β, _, w', .head hst (s1.trans (.one (step_leave_returned s3))), (finish_ok hg h2 (.refl _) (s6 _) s4).1, s5, s6 _⟩
          · trivial
      · trivial
    · trivial
  · trivial

theorem endS_ok {l : Nat} {jump : Option Code} (hj : ∀ c, jump = some c → ∀ f, Ck P pl f c)
    (h : ∀ β fr, FrR P β bl none f fr → β.ck = Ck P pl → ∃ b s, β.b[l]? = some (some (b, s)) ∧ ∀ (g : Frame) cs w v w', (Instr.endRound b jump).run P w = .ok v w' → step P (lone fr (g :: cs) w) = .next (lone (g.finish v) cs w')) :
    OutOk P pl C ⟨f :: fs, bl⟩ (endS l jump fs bl) := by
  unfold endS
  split
  · rename_i st pend g n' tm' ps a b df hl
    split
    · rename_i gf fs'
      split
      · rename_i g' hg
        intro _
        have hfg : g'.fn = gf.fn ∧ g'.lk = gf.lk := by
          obtain ⟨fn', n', tm', k', rd', ms', lk'⟩ := gf
          unfold finishS at hg
          simp only at hg
          split at hg
          · obtain rfl := Option.some.inj hg; exact ⟨rfl, rfl⟩
          · split at hg
            · obtain rfl := Option.some.inj hg; exact ⟨rfl, rfl⟩
            · cases hg
          · obtain rfl := Option.some.inj hg; exact ⟨rfl, rfl⟩
          · cases hg
        refine to_pop hfg.1 hfg.2 fun β fr frg cs w h1 h2 hh hck => ?_
        obtain ⟨bb, s, hb, hst⟩ := h β fr h1 hck
        obtain ⟨o, ho, hd⟩ := heap_rec hh hl hb rfl
        simp only [ObDen] at hd
        obtain ⟨tmps, b', s', rfl, ht, hdf, hc1, hc2, -⟩ := hd
        have hrun := run_endRound (P := P) jump ho
        have hext := hh.put (x := some (.loop (if jump.isNone then .ready else .done) jump g n' tm' ps a b df)) (o := .loop { state := if jump.isNone then .ready else .done, pending := jump, fn := g, tmps := tmps, params := ps.toArray, assign := a, body := b, defers := b' }) (lvl_get hl) hb (fun c' hc' => by
          obtain rfl := Option.some.inj hc'
          exact ⟨rfl, tmps, b', s', rfl, ht, hdf, hc1, hc2, fun c hc f => by rw [hck]; exact hj c hc f⟩)
        rw [← setl_set] at hext
        exact ⟨β, _, _, .one (hst frg cs w _ _ hrun), (finish_ok hg h2 (.refl _) (Kp.rec hl rfl) (mk_bool _)).1, hext, Kp.rec hl rfl⟩
      · trivial
    · trivial
  · trivial

theorem loop_inner {β : Env} {w : World} {tmps : Array Value} {ps : Array Tmp} {a b : Code} {df d s : Nat} (hh : Heap β bl w) (ht : TmOk β n tm tmps) (ha : β.ck fn a) (hb : β.ck fn b) (hd : β.b[df]? = some (some (d, s))) :
    ∃ β', Ext β bl w β' (bl ++ [some (.loop .ready none fn n tm ps.toList a b df)]) (w.alloc (.loop { state := .ready, pending := none, fn, tmps, params := ps, assign := a, body := b, defers := d })) ∧
      β'.b[bl.length]? = some (some (w.heap.size, 0)) := by
  have le : β.le { β with b := β.b ++ [some (w.heap.size, 0)] } := ⟨List.prefix_append _ _, fun _ _ e => e, fun _ _ e => e, rfl⟩
  have e2 := hh.make (c := .loop .ready none fn n tm ps.toList a b df) (o := .loop { state := .ready, pending := none, fn, tmps, params := ps, assign := a, body := b, defers := d }) (s := 0)
    (w' := w.alloc (.loop { state := .ready, pending := none, fn, tmps, params := ps, assign := a, body := b, defers := d })) rfl rfl rfl rfl
    (.inr ⟨rfl, _, World.alloc_heap_new _ _, tmps, d, s, rfl, ht.mono le, le.at hd, ha, hb, fun c hc => by cases hc⟩)
  exact ⟨_, e2, at_new hh⟩

/-- Two blocks laid: the mark's, the loop's. -/
theorem loop_outer {β : Env} {w : World} {tmps : Array Value} {ps : Array Tmp} {a b : Code} (hh : Heap β bl w) (ht : TmOk β n tm tmps) (ha : β.ck fn a) (hb : β.ck fn b) :
    ∃ β', Ext β bl w β' (bl ++ [some .defs, some (.loop .ready none fn n tm ps.toList a b bl.length)]) ((w.alloc (.deferred (some []))).alloc (.loop { state := .ready, pending := none, fn, tmps, params := ps, assign := a, body := b, defers := w.heap.size })) ∧
      β'.b[bl.length]? = some (some (w.heap.size, 0)) ∧ β'.b[bl.length + 1]? = some (some (w.heap.size + 1, 0)) := by
  obtain ⟨β1, e1, hb1⟩ : ∃ β1, Ext β bl w β1 (bl ++ [some .defs]) (w.alloc (.deferred (some []))) ∧ β1.b[bl.length]? = some (some (w.heap.size, 0)) :=
    ⟨_, hh.make (c := .defs) (o := .deferred (some [])) (s := 0) (w' := w.alloc (.deferred (some []))) rfl rfl rfl rfl (.inr ⟨rfl, _, World.alloc_heap_new _ _, rfl⟩), at_new hh⟩
  obtain ⟨β2, e2, hb2⟩ := loop_inner (a := a) (b := b) (ps := ps) (tmps := tmps) (tm := tm) (fn := fn) (n := n) (df := bl.length) e1.heap (ht.mono e1.le) (by rw [e1.le.ck]; exact ha) (by rw [e1.le.ck]; exact hb) hb1
  have e3 := e1.trans e2
  have eb : ∀ x : Option Ct, bl ++ [some .defs] ++ [x] = bl ++ [some .defs, x] := fun x => by simp
  rw [eb] at e3
  refine ⟨β2, e3, e2.le.at hb1, ?_⟩
  simpa using hb2

theorem range_call {β β' : Env} {tmps : Array Value} {ds : List Deferred} {g : Operand} {h : FuncId} {fst caps : List AV} {l y : Nat} {s : Nat} {F : FI} {w : World} (ht : TmOk β n tm tmps) (he : ev tm g = .fn h fst caps) (hF : fi P h = some F) (hle : β.le β') (hl : β'.b[y]? = some (some (l, s))) :
    ∃ (d : Deferred) (vs : List Value), (resolve (Act.eval ⟨tmps, ds⟩) (rangeCall g l) 0).run P w = .ok d w ∧ (invoke d.target d.args).run P w = .ok (.enter h vs.toArray) w ∧ DenL β' (fst ++ (.yld y :: caps)) vs := by
  have hd := ht.ev g
  rw [he] at hd
  simp only [Den] at hd
  obtain ⟨xs, ys, hv, h1, h2⟩ := hd
  refine ⟨{ target := .fn (.func h) ys.toArray, args := xs.toArray ++ #[.func (.yield l) #[] #[]] }, xs ++ (.func (.yield l) #[] #[] :: ys), ?_, ?_, denL_append (DenL.mono hle h1) ?_⟩
  · rw [eval_act]
    simp only [resolve, rangeCall, hv, Deferred.ofValue]
    simp [Sem.run_pure, evT]
  · simp only [invoke]
    rw [fi_enter hF]
    have : (xs ++ (Value.func (.yield l) #[] #[] :: ys)).toArray = xs.toArray ++ #[.func (.yield l) #[] #[]] ++ ys.toArray := by apply Array.ext'; simp
    rw [this]
  · simp only [DenL]
    exact ⟨_, _, rfl, by simp only [Den]; exact ⟨l, s, hl, rfl⟩, DenL.mono hle h2⟩

end

end Go.SY
