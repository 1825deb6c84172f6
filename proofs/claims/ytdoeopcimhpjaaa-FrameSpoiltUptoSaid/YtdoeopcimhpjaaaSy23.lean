/-
  The symbolic machine: every step of it is the model's.
-/
import Derived.Test.YtdoeopcimhpjaaaSy22
set_option linter.unusedSimpArgs false
set_option linter.unusedVariables false
namespace Go.SY
open Go

section
variable {P : Program} {pl : FuncId → Nat → Option Plan} {C : Ctx} {fn : FuncId} {n : Nat} {tm : TM} {k k' : List SI} {rd : Option Nat} {ms lk : List Nat} {fs : List Fr} {bl bl' : Bls} {K : KT} {x : SI} {f : Fr}

theorem leaveS_ok {jump : Option Code} (hfn : f.fn = fn) (hlk : f.lk = lk) (hms : f.ms = ms) (hj : ∀ c, jump = some c → ∀ f, Ck P pl f c)
    (h : ∀ β fr, FrR P β bl none f fr → β.ck = Ck P pl → ∃ tmps ds t ro, TmOk β n tm tmps ∧ MsR β ms ds ∧ RoR β rd ro ∧
      ((jump = none ∨ jump = some .ret) → ro = none → ∀ cs w, step P (lone fr cs w) = .next (lone { (fr0 fn none).atR ⟨tmps, ds⟩ t with mode := .returning } cs w)) ∧
      (∀ b, ro = some b → ∀ (g : Frame) cs w v w', (Instr.endRound b jump).run P w = .ok v w' → step P (lone fr (g :: cs) w) = .next (lone (g.finish v) cs w'))) :
    OutOk P pl C ⟨f :: fs, bl⟩ (leaveS P fn tm rd ms lk jump fs bl) := by
  have ret : rd = none → (jump = none ∨ jump = some .ret) → OutOk P pl C ⟨f :: fs, bl⟩ (retS P fn tm ms lk fs bl) := by
    intro hrd hjr
    subst hrd
    refine retS_ok (n := n) hfn hlk hms fun β fr cs w hf hh hck => ?_
    obtain ⟨tmps, ds, t, ro, h1, h2, h3, h4, -⟩ := h β fr hf hck
    exact ⟨tmps, ds, t, h4 hjr h3 cs w, h1, h2⟩
  unfold leaveS
  split
  · split
    · exact ret rfl (.inl rfl)
    · exact ret rfl (.inr rfl)
    · trivial
  · rename_i l
    split
    · refine endS_ok hj fun β fr hf hck => ?_
      obtain ⟨tmps, ds, t, ro, h1, h2, ⟨b, s, hb, hro⟩, -, h5⟩ := h β fr hf hck
      exact ⟨b, s, hb, h5 b hro⟩
    · trivial

theorem code_ok (hpl : PlOk P pl) {u : Bool} {drS} {c : Code} :
    OutOk P pl C ⟨⟨fn, n, tm, .code c :: k, rd, ms, lk⟩ :: fs, bl⟩ (stepS P K pl u drS ⟨⟨fn, n, tm, .code c :: k, rd, ms, lk⟩ :: fs, bl⟩) := by
  unfold stepS
  simp only
  cases c with
  | skip => exact fun _ => to_plain (by simp) (by simp) fun β tmps ds ro y t cs w h1 h2 ⟨e, h3⟩ h4 hh hck => by subst e; exact ⟨t, stepR_skip, todo_of h1 h4⟩
  | label l => exact fun _ => to_plain (by simp) (by simp) fun β tmps ds ro y t cs w h1 h2 ⟨e, h3⟩ h4 hh hck => by subst e; exact ⟨t, stepR_label, todo_of h1 h4⟩
  | seq a b =>
    intro _
    refine to_plain (by simp) (by simp) fun β tmps ds ro y t cs w h1 h2 ⟨e, h3⟩ h4 hh hck => ?_
    subst e
    rw [hck] at h3
    exact ⟨_, stepR_seq, todo_of h1 ⟨_, _, rfl, ⟨rfl, by rw [hck]; exact h3.1⟩, _, _, rfl, ⟨rfl, by rw [hck]; exact h3.2⟩, h4⟩⟩
  | block id c =>
    intro _
    refine to_plain (by simp) (by simp) fun β tmps ds ro y t cs w h1 h2 ⟨e, h3⟩ h4 hh hck => ?_
    subst e
    rw [hck] at h3
    exact ⟨_, stepR_block, todo_of h1 ⟨_, _, rfl, ⟨rfl, by rw [hck]; exact h3⟩, _, _, rfl, rfl, h4⟩⟩
  | scope c =>
    intro _
    refine to_plain (by simp) (by simp) fun β tmps ds ro y t cs w h1 h2 ⟨e, h3⟩ h4 hh hck => ?_
    subst e
    rw [hck] at h3
    exact ⟨_, step_lone_go (by simp [stepG, stepG.exec, Frame.atR]), todo_of h1 ⟨_, _, rfl, ⟨rfl, by rw [hck]; exact h3⟩, _, _, rfl, ⟨rfl, by rw [hck]; exact h3⟩, h4⟩⟩
  | loop c =>
    cases u with
    | false => trivial
    | true =>
      intro _
      refine to_plain (by simp) (by simp) fun β tmps ds ro y t cs w h1 h2 ⟨e, h3⟩ h4 hh hck => ?_
      subst e
      rw [hck] at h3
      exact ⟨_, stepR_loop, todo_of h1 ⟨_, _, rfl, ⟨rfl, by rw [hck]; exact h3⟩, _, _, rfl, ⟨rfl, by rw [hck]; exact h3⟩, h4⟩⟩
  | cond c a b =>
    simp only
    split
    · rename_i v he
      have gen : ∀ d, v = d → To P pl C ⟨⟨fn, n, tm, .code (.cond c a b) :: k, rd, ms, lk⟩ :: fs, bl⟩ ⟨⟨fn, n, tm, .code (if d = true then a else b) :: k, rd, ms, lk⟩ :: fs, bl⟩ := by
        rintro d rfl
        refine to_plain (by simp) (by simp) fun β tmps ds ro y t cs w h1 h2 ⟨e, h3⟩ h4 hh hck => ?_
        subst e
        rw [hck] at h3
        have hd := h1.ev c
        rw [he] at hd
        simp only [Den] at hd
        refine ⟨_, stepR_cond (by rw [eval_act]; exact hd.1), todo_of h1 ⟨_, _, rfl, ⟨rfl, ?_⟩, h4⟩⟩
        rw [hck]
        split
        · exact h3.1
        · exact h3.2
      exact ⟨fun hv => gen true hv, fun hv => gen false hv⟩
    · trivial
  | exit id =>
    simp only
    split
    · rename_i k1 hk
      intro _
      refine to_plain (by simp) (by simp) fun β tmps ds ro y t cs w h1 h2 ⟨e, h3⟩ h4 hh hck => ?_
      subst e
      have := exitS_ok (id := id) h4
      rw [hk] at this
      obtain ⟨t', e1, e2⟩ := this
      exact ⟨t', stepR_exit e1, todo_of h1 e2⟩
    · rename_i hk
      refine leaveS_ok (n := n) rfl rfl rfl (by rintro c hc f; obtain rfl := Option.some.inj hc; trivial) fun β fr hf hck => ?_
      obtain ⟨tmps, ds, y, t, ro, rfl, g1, g2, g3, ⟨rfl, -⟩, g5⟩ := hf.plain (by simp) (by simp)
      have := exitS_ok (id := id) g5
      rw [hk] at this
      exact ⟨tmps, ds, [], ro, g3, g1, g2, fun hc => by simp at hc, fun b hb g cs w v w' hr => stepR_round_exit hb rfl this hr⟩
  | goto l =>
    simp only
    split
    · rename_i k1 hk
      intro _
      refine to_plain (by simp) (by simp) fun β tmps ds ro y t cs w h1 h2 ⟨e, h3⟩ h4 hh hck => ?_
      subst e
      have := gotoS_ok (l := l) hck h4
      rw [hk] at this
      obtain ⟨t', e1, e2⟩ := this
      exact ⟨t', stepR_goto e1, todo_of h1 e2⟩
    · rename_i hk
      refine leaveS_ok (n := n) rfl rfl rfl (by rintro c hc f; obtain rfl := Option.some.inj hc; trivial) fun β fr hf hck => ?_
      obtain ⟨tmps, ds, y, t, ro, rfl, g1, g2, g3, ⟨rfl, -⟩, g5⟩ := hf.plain (by simp) (by simp)
      have := gotoS_ok (l := l) hck g5
      rw [hk] at this
      exact ⟨tmps, ds, [], ro, g3, g1, g2, fun hc => by simp at hc, fun b hb g cs w v w' hr => stepR_round_goto hb rfl this hr⟩
  | ret =>
    refine leaveS_ok (n := n) rfl rfl rfl (by rintro c hc f; obtain rfl := Option.some.inj hc; trivial) fun β fr hf hck => ?_
    obtain ⟨tmps, ds, y, t, ro, rfl, g1, g2, g3, ⟨rfl, -⟩, g5⟩ := hf.plain (by simp) (by simp)
    exact ⟨tmps, ds, _, ro, g3, g1, g2, fun _ hro cs w => by subst hro; exact stepR_ret rfl, fun b hb g cs w v w' hr => stepR_round_ret hb rfl hr⟩
  | region id all draw =>
    cases draw with
    | false =>
      intro _
      refine to_plain (by simp) (by simp) fun β tmps ds ro y t cs w h1 h2 ⟨e, h3⟩ h4 hh hck => ?_
      subst e
      refine ⟨_, stepR_region, ⟨h1, ?_, fun b hb => by cases hb⟩⟩
      rw [List.range_eq_range']
      exact KR.ops (m := 0) (by simp) h4
    | true =>
      simp only
      split
      · rename_i p hp
        exact fun _ => to_draw hpl hp
      · trivial
  | rangeFunc g ps a b =>
    simp only
    split
    · rename_i h fst caps he
      split
      · -- outermost
        refine enterS_ok hpl rfl rfl (fun q hq => hq) fun β fr cs w F hF hf hh hck => ?_
        obtain ⟨tmps, ds, y, t, ro, rfl, g1, g2, g3, ⟨rfl, hc⟩, g5⟩ := hf.plain (by simp) (by simp)
        simp only [RoR] at g2
        subst g2
        rw [hck] at hc
        obtain ⟨β', hext, hb1, hb2⟩ := loop_outer (ps := ps) (a := a) (b := b) hh g3 (by rw [hck]; exact hc.1) (by rw [hck]; exact hc.2)
        obtain ⟨d, vs, c1, c2, c3⟩ := range_call (P := P) (ds := ds) (w := (w.alloc (.deferred (some []))).alloc (.loop { state := .ready, pending := none, fn, tmps, params := ps, assign := a, body := b, defers := w.heap.size })) g3 he hF hext.le hb2
        refine ⟨β', vs, _, _, c3, .one (stepR_rangeFunc (run_enterLoop_outer fn tmps ps a b) c1 c2), ?_, hext, Kp.app _ _ _⟩
        exact ⟨tmps, _, _, none, rfl, ⟨_, 0, ds, hb1, rfl, g1.mono hext.le⟩, rfl, ⟨g3.mono hext.le, _, t, rfl, ⟨_, 0, hb2, rfl⟩, g5.mono hext.le⟩⟩
      · -- in a round
        rename_i l0
        split
        · rename_i st pend g' n' tm' ps' a' b' df hl
          refine enterS_ok hpl rfl rfl (fun q hq => hq) fun β fr cs w F hF hf hh hck => ?_
          obtain ⟨tmps, ds, y, t, ro, rfl, g1, g2, g3, ⟨rfl, hc⟩, g5⟩ := hf.plain (by simp) (by simp)
          obtain ⟨bb, s, hb, rfl⟩ := g2
          rw [hck] at hc
          obtain ⟨o, ho, hd⟩ := heap_rec hh hl hb rfl
          simp only [ObDen] at hd
          obtain ⟨tmps0, b0, s0, rfl, ht0, hdf, -⟩ := hd
          obtain ⟨β', hext, hb2⟩ := loop_inner (ps := ps) (a := a) (b := b) hh g3 (by rw [hck]; exact hc.1) (by rw [hck]; exact hc.2) hdf
          obtain ⟨d, vs, c1, c2, c3⟩ := range_call (P := P) (ds := ds) (w := w.alloc (.loop { state := .ready, pending := none, fn, tmps, params := ps, assign := a, body := b, defers := b0 })) g3 he hF hext.le hb2
          refine ⟨β', vs, _, _, c3, .one (stepR_rangeFunc (mark := []) (run_enterLoop_inner ho fn tmps ps a b) c1 c2), ?_, hext, Kp.app _ _ _⟩
          exact ⟨tmps, ds, _, some bb, rfl, g1.mono hext.le, ⟨bb, s, hext.le.at hb, rfl⟩, ⟨g3.mono hext.le, _, t, rfl, ⟨_, 0, hb2, rfl⟩, g5.mono hext.le⟩⟩
        · trivial
    · trivial
  | refuse why => trivial

theorem stp_ok (hpl : PlOk P pl) (hK : KOk P pl K) (u : Bool) (c : Conf) : OutOk P pl C c (stp P K pl u c) := by
  obtain ⟨fs, bl⟩ := c
  cases fs with
  | nil => trivial
  | cons f fs =>
    obtain ⟨fn, n, tm, k, rd, ms, lk⟩ := f
    cases k with
    | nil =>
      show OutOk P pl C _ (leaveS P fn tm rd ms lk none fs bl)
      refine leaveS_ok (n := n) rfl rfl rfl (by rintro c hc; cases hc) fun β fr hf hck => ?_
      obtain ⟨tmps, ds, t, ro, rfl, g1, g2, g3, g4⟩ := hf
      simp only [KR] at g4
      subst g4
      exact ⟨tmps, ds, _, ro, g3, g1, g2, fun _ hro cs w => by subst hro; exact stepR_end rfl, fun b hb g cs w v w' hr => stepR_round_end hb rfl hr⟩
    | cons x k =>
      cases x with
      | code c => exact code_ok hpl
      | blk id =>
        intro _
        refine to_plain (by simp) (by simp) fun β tmps ds ro y t cs w h1 h2 e h4 hh hck => ?_
        simp only [IR] at e; subst e; exact ⟨t, stepR_inBlock, todo_of h1 h4⟩
      | sc c =>
        intro _
        refine to_plain (by simp) (by simp) fun β tmps ds ro y t cs w h1 h2 ⟨e, _⟩ h4 hh hck => ?_
        subst e; exact ⟨t, step_lone_go (by simp [stepG, stepG.exec, Frame.atR]), todo_of h1 h4⟩
      | lp c =>
        cases u with
        | false => trivial
        | true =>
          intro _
          refine to_plain (by simp) (by simp) fun β tmps ds ro y t cs w h1 h2 ⟨e, h3⟩ h4 hh hck => ?_
          subst e
          exact ⟨_, stepR_inLoop, todo_of h1 ⟨_, _, rfl, ⟨rfl, h3⟩, _, _, rfl, ⟨rfl, h3⟩, h4⟩⟩
      | ops all os g => exact ops_ok hpl hK
      | dr all plan A g => exact dr_ok hpl hK
      | rf l => trivial
      | erf l =>
        show OutOk P pl C _ (match lvl bl l with
          | some (.loop st pend g n' tm' ps a b df) => if st = .busy then .stop else (match pend with
            | none => .next true ⟨⟨fn, n, tm, k, rd, ms, lk⟩ :: fs, setl bl l (some (.loop .exhausted none g n' tm' ps a b df))⟩
            | some c => .next true ⟨⟨fn, n, tm, .code c :: k, rd, ms, lk⟩ :: fs, setl bl l (some (.loop .exhausted (some c) g n' tm' ps a b df))⟩)
          | _ => .stop)
        split
        · rename_i st pend g n' tm' ps a b df hl
          split
          · trivial
          · rename_i hst
            have gen : ∀ k1, (∀ (β : Env) t, (∀ c, pend = some c → β.ck fn c) → KR β fn k t → KR β fn k1 ((pend.map Item.code).toList ++ t)) →
                To P pl C ⟨⟨fn, n, tm, .erf l :: k, rd, ms, lk⟩ :: fs, bl⟩ ⟨⟨fn, n, tm, k1, rd, ms, lk⟩ :: fs, setl bl l (some (.loop .exhausted pend g n' tm' ps a b df))⟩ := by
              intro k1 hk1
              refine to_top rfl rfl fun β fr cs w hf hh hck => ?_
              obtain ⟨tmps, ds, y, t, ro, rfl, g1, g2, g3, ⟨bb, s, hb, rfl⟩, g5⟩ := hf.plain (by simp) (by simp)
              obtain ⟨o, ho, hd⟩ := heap_rec hh hl hb rfl
              simp only [ObDen] at hd
              obtain ⟨tmps0, b0, s0, rfl, ht0, hdf, hc1, hc2, hc3⟩ := hd
              have hrun := run_endLoop (P := P) ho hst
              have hext := hh.put (x := some (.loop .exhausted pend g n' tm' ps a b df)) (o := .loop { state := .exhausted, pending := pend, fn := g, tmps := tmps0, params := ps.toArray, assign := a, body := b, defers := b0 }) (lvl_get hl) hb (fun c' hc' => by
                obtain rfl := Option.some.inj hc'
                exact ⟨rfl, tmps0, b0, s0, rfl, ht0, hdf, hc1, hc2, hc3⟩)
              rw [← setl_set] at hext
              exact ⟨β, _, _, .one (stepR_endRangeFunc hrun), ⟨tmps, ds, _, ro, rfl, g1, g2, todo_of g3 (hk1 β t (fun c hc => hc3 c hc fn) g5)⟩, hext, Kp.rec hl rfl⟩
            cases pend with
            | none => exact fun _ => gen k fun β t _ h => h
            | some c => exact fun _ => gen (.code c :: k) fun β t hc h => ⟨_, _, rfl, ⟨rfl, hc c rfl⟩, h⟩
        · trivial
      | br =>
        show OutOk P pl C _ (match rd with
          | some l => (match lvl bl l with
            | some (.loop .ready pend g n' tm' ps a b df) => .next true ⟨⟨fn, n, tm, k, rd, ms, lk⟩ :: fs, setl bl l (some (.loop .busy pend g n' tm' ps a b df))⟩
            | _ => .stop)
          | none => .stop)
        split
        · rename_i l
          split
          · rename_i pend g n' tm' ps a b df hl
            intro _
            refine to_top rfl rfl fun β fr cs w hf hh hck => ?_
            obtain ⟨tmps, ds, y, t, ro, rfl, g1, ⟨bb, s, hb, rfl⟩, g3, g4, g5⟩ := hf.plain (by simp) (by simp)
            simp only [IR] at g4
            subst g4
            obtain ⟨o, ho, hd⟩ := heap_rec hh hl hb rfl
            simp only [ObDen] at hd
            obtain ⟨tmps0, b0, s0, rfl, ht0, hdf, hc1, hc2, hc3⟩ := hd
            have hrun := run_beginRound (P := P) ho rfl
            have hext := hh.put (x := some (.loop .busy pend g n' tm' ps a b df)) (o := .loop { state := .busy, pending := pend, fn := g, tmps := tmps0, params := ps.toArray, assign := a, body := b, defers := b0 }) (lvl_get hl) hb (fun c' hc' => by
              obtain rfl := Option.some.inj hc'
              exact ⟨rfl, tmps0, b0, s0, rfl, ht0, hdf, hc1, hc2, hc3⟩)
            rw [← setl_set] at hext
            exact ⟨β, _, _, .one (stepR_beginRound rfl hrun), ⟨tmps, ds, t, some bb, rfl, g1, ⟨bb, s, hb, rfl⟩, todo_of g3 g5⟩, hext, Kp.rec hl rfl⟩
          · trivial
        · trivial

end

end Go.SY
