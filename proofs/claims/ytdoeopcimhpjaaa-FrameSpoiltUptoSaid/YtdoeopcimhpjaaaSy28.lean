/-
  The symbolic machine: runs told by hand: steps one after another; states under other names; closed runs with contracts.
-/
import Derived.Test.YtdoeopcimhpjaaaSy27
set_option linter.unusedSimpArgs false
set_option linter.unusedVariables false
namespace Go.SY
open Go Go.RowKit

def bsplit (b : Bool) (X Y : Prop) : Prop := (b = true → X) ∧ (b = false → Y)
theorem bsplit_true {X Y : Prop} : bsplit true X Y = X := by simp [bsplit]
theorem bsplit_false {X Y : Prop} : bsplit false X Y = Y := by simp [bsplit]

/-- So many steps, loops left alone. -/
def Ex (P : Program) (K : KT) (pl : FuncId → Nat → Option Plan) : Nat → Conf → (AV → Bls → Prop) → (Conf → Prop) → Prop
  | 0, c, _, R => R c
  | n + 1, c, S, R => (match stepF P K pl false c with
    | .next vc c' => vc = true ∧ Ex P K pl n c' S R
    | .split b c1 c2 => bsplit b (Ex P K pl n c1 S R) (Ex P K pl n c2 S R)
    | .fin vc r bl => vc = true ∧ S r bl
    | .stop => R c)

theorem Ex_ok {P : Program} {K : KT} {pl : FuncId → Nat → Option Plan} (hpl : PlOk P pl) (hK : KOk P pl K) {C : Ctx} {S : AV → Bls → Prop} {R : Conf → Prop} (hR : ∀ c, R c → Rch P pl C c S) : ∀ {n : Nat} {c : Conf}, Ex P K pl n c S R → Rch P pl C c S
  | 0, c, h => hR c h
  | n + 1, c, h => by
    have hok := stp_ok (C := C) hpl hK false c
    simp only [Ex, stepF_eq, pre] at h
    split at h
    · rename_i vc c' e
      rw [e] at hok
      exact (hok h.1).rch (Ex_ok hpl hK hR h.2)
    · rename_i b c1 c2 e
      rw [e] at hok
      cases b with
      | true => exact (hok.1 rfl).rch (Ex_ok hpl hK hR (h.1 rfl))
      | false => exact (hok.2 rfl).rch (Ex_ok hpl hK hR (h.2 rfl))
    · rename_i vc r bl e
      rw [e] at hok
      exact hok h.1 S h.2
    · exact hR c h

/-- Into a loop's round; a loop entered. -/
theorem Rch.loop {P : Program} {pl : FuncId → Nat → Option Plan} (hpl : PlOk P pl) {C : Ctx} {S : AV → Bls → Prop} {fn : FuncId} {n : Nat} {tm : TM} {c : Code} {k : List SI} {rd : Option Nat} {ms lk : List Nat} {fs : List Fr} {bl : Bls}
    (h : Rch P pl C ⟨⟨fn, n, tm, .code c :: .lp c :: k, rd, ms, lk⟩ :: fs, bl⟩ S) : Rch P pl C ⟨⟨fn, n, tm, .code (.loop c) :: k, rd, ms, lk⟩ :: fs, bl⟩ S := by
  have hok := stp_ok (P := P) (pl := pl) (K := fun _ => none) (C := C) hpl (fun g c h => by cases h) true ⟨⟨fn, n, tm, .code (.loop c) :: k, rd, ms, lk⟩ :: fs, bl⟩
  exact To.rch (hok rfl) h

theorem Rch.round {P : Program} {pl : FuncId → Nat → Option Plan} (hpl : PlOk P pl) {C : Ctx} {S : AV → Bls → Prop} {fn : FuncId} {n : Nat} {tm : TM} {c : Code} {k : List SI} {rd : Option Nat} {ms lk : List Nat} {fs : List Fr} {bl : Bls}
    (h : Rch P pl C ⟨⟨fn, n, tm, .code c :: .lp c :: k, rd, ms, lk⟩ :: fs, bl⟩ S) : Rch P pl C ⟨⟨fn, n, tm, .lp c :: k, rd, ms, lk⟩ :: fs, bl⟩ S := by
  have hok := stp_ok (P := P) (pl := pl) (K := fun _ => none) (C := C) hpl (fun g c h => by cases h) true ⟨⟨fn, n, tm, .lp c :: k, rd, ms, lk⟩ :: fs, bl⟩
  exact To.rch (hok rfl) h

/-! ### states under other names -/
def renSI (ρ : Nat → Nat) : SI → SI
  | .rf l => .rf (ρ l)
  | .erf l => .erf (ρ l)
  | x => x

def okSI (N : Nat) : SI → Bool
  | .rf l => decide (l < N)
  | .erf l => decide (l < N)
  | .dr _ _ _ _ => false
  | .ops _ _ (some _) => false
  | _ => true

/-- Slots as another list tells them. -/
def fitT (ρ : Nat → Nat) (tm : TM) : TM → Prop
  | [] => True
  | (s, x) :: r => get tm s = ren ρ x ∧ fitT ρ tm r

structure FitF (ρ : Nat → Nat) (N : Nat) (f f' : Fr) : Prop where
  fn : f.fn = f'.fn
  n : f.n = f'.n
  tm : fitT ρ f.tm f'.tm
  lt : lvT N true f'.tm = true
  k : f.k = f'.k.map (renSI ρ)
  ok : f'.k.all (okSI N) = true
  rd : f.rd = f'.rd.map ρ
  rl : ∀ l, f'.rd = some l → l < N
  ms : f.ms = f'.ms.map ρ
  ml : f'.ms.all (fun l => decide (l < N)) = true
  lk : f.lk = []
  lk' : f'.lk = []

def FitFs (ρ : Nat → Nat) (N : Nat) : List Fr → List Fr → Prop
  | [], fs' => fs' = []
  | f :: fs, fs' => ∃ f' fs2, fs' = f' :: fs2 ∧ FitF ρ N f f' ∧ FitFs ρ N fs fs2

def FitB (ρ : Nat → Nat) (N : Nat) (bl : Bls) : Nat → Bls → Prop
  | _, [] => True
  | i, none :: r => FitB ρ N bl (i + 1) r
  | i, some c :: r => (lvl bl (ρ i) = some (renCt ρ c) ∧ lvCt N true c = true) ∧ FitB ρ N bl (i + 1) r

structure Fit (R : List Nat) (c c' : Conf) : Prop where
  nd : R.Nodup
  len : R.length = c'.bl.length
  fs : FitFs (nm R) c'.bl.length c.fs c'.fs
  bl : FitB (nm R) c'.bl.length c.bl 0 c'.bl

theorem fitB_at {ρ : Nat → Nat} {N : Nat} {bl : Bls} : ∀ {bl' : Bls} {i l : Nat} {c : Ct}, FitB ρ N bl i bl' → bl'[l]? = some (some c) → lvl bl (ρ (i + l)) = some (renCt ρ c) ∧ lvCt N true c = true
  | [], _, _, _, _, h => by simp at h
  | none :: r, i, 0, _, _, h => by simp at h
  | none :: r, i, l + 1, c, hf, h => by
    have := fitB_at (l := l) (c := c) (bl' := r) (i := i + 1) hf (by simpa using h)
    rwa [show i + 1 + l = i + (l + 1) by omega] at this
  | some c0 :: r, i, 0, c, hf, h => by
    simp at h; subst h; exact hf.1
  | some c0 :: r, i, l + 1, c, hf, h => by
    have := fitB_at (l := l) (c := c) (bl' := r) (i := i + 1) hf.2 (by simpa using h)
    rwa [show i + 1 + l = i + (l + 1) by omega] at this

theorem fitT_get {ρ : Nat → Nat} {tm : TM} : ∀ {tm' : TM} {s : Nat}, fitT ρ tm tm' → get tm' s = .any ∨ get tm s = ren ρ (get tm' s)
  | [], _, _ => .inl rfl
  | (d, x) :: r, s, h => by
    simp only [get]
    split
    · rename_i e; subst e; exact .inr h.1
    · exact fitT_get h.2

section
variable {P : Program} {β β' : Env} {bl bl' : Bls} {ρ : Nat → Nat} {N : Nat} {w : World}

theorem fit_tm (h : Tr β β' ρ (fun l => l) N true) {n : Nat} {tm tm' : TM} {tmps : Array Value} (hf : fitT ρ tm tm') (hl : lvT N true tm' = true) (ht : TmOk β n tm tmps) : TmOk β' n tm' tmps := by
  refine ⟨ht.1, fun s => ?_⟩
  rcases fitT_get (s := s) hf with e | e
  · rw [e]; simp only [Den]
  · have := ht.2 s
    rw [e] at this
    have := Den.ren h (lvT_get hl) this
    rwa [ren_id] at this

theorem fit_k (h : Tr β β' ρ (fun l => l) N true) (hck : β'.ck = β.ck) {fn : FuncId} : ∀ {k' : List SI} {t : List Item}, k'.all (okSI N) = true → KR β fn (k'.map (renSI ρ)) t → KR β' fn k' t
  | [], _, _, hk => hk
  | x :: k', t, ho, hk => by
    simp only [List.all_cons, Bool.and_eq_true] at ho
    obtain ⟨y, t', e, h1, h2⟩ := hk
    refine ⟨y, t', e, ?_, fit_k h hck ho.2 h2⟩
    cases x with
    | rf l =>
      obtain ⟨b, s, hb, e⟩ := h1
      exact ⟨b, s, h.b l _ (by simpa [okSI] using ho.1) hb, e⟩
    | erf l =>
      obtain ⟨b, s, hb, e⟩ := h1
      exact ⟨b, s, h.b l _ (by simpa [okSI] using ho.1) hb, e⟩
    | code c => exact ⟨h1.1, by rw [hck]; exact h1.2⟩
    | lp c => exact ⟨h1.1, by rw [hck]; exact h1.2⟩
    | sc c => exact ⟨h1.1, by rw [hck]; exact h1.2⟩
    | dr all p A g => simp [okSI] at ho
    | _ => exact h1

theorem fit_ms (h : Tr β β' ρ (fun l => l) N true) : ∀ {ms' : List Nat} {ds : List Deferred}, (ms'.all fun l => decide (l < N)) = true → MsR β (ms'.map ρ) ds → MsR β' ms' ds
  | [], _, _, hm => hm
  | m :: ms', ds, ho, ⟨b, s, ds', hb, e, hm⟩ => by
    simp only [List.all_cons, Bool.and_eq_true, decide_eq_true_eq] at ho
    exact ⟨b, s, ds', h.b m _ ho.1 hb, e, fit_ms h ho.2 hm⟩

theorem fit_fr (h : Tr β β' ρ (fun l => l) N true) (hck : β'.ck = β.ck) {f f' : Fr} {fr : Frame} {pr pr' : Option (List Nat)} (hf : FitF ρ N f f') (hr : FrR P β bl pr f fr) : FrR P β' bl' pr' f' fr := by
  obtain ⟨fn, n, tm, k, rd, ms, lk⟩ := f
  obtain ⟨fn', n', tm', k', rd', ms', lk'⟩ := f'
  obtain ⟨h1, h2, h3, h4, h5, h6, h7, h8, h9, h10, -, -⟩ := hf
  simp only at h1 h2 h3 h4 h5 h6 h7 h8 h9 h10
  subst h1 h2 h5 h7 h9
  obtain ⟨tmps, ds, t, ro, e, g1, g2, g3⟩ := hr
  simp only at e g1 g2 g3
  have hg : TmOk β n tm tmps ∧ KR β fn (k'.map (renSI ρ)) t := by
    cases k' with
    | nil => exact g3
    | cons x k' =>
      simp only [List.all_cons, Bool.and_eq_true] at h6
      cases x with
      | dr all p A g => simp [okSI] at h6
      | ops all os g =>
        cases g with
        | some b => simp [okSI] at h6
        | none => exact ⟨g3.1, g3.2.1⟩
      | _ => exact g3
  refine ⟨tmps, ds, t, ro, e, fit_ms h h10 g1, ?_, todo_of (fit_tm h h3 h4 hg.1) (fit_k h hck h6 hg.2)⟩
  cases rd' with
  | none => exact g2
  | some l =>
    obtain ⟨b, s, hb, e⟩ := g2
    exact ⟨b, s, h.b l _ (h8 l rfl) hb, e⟩

theorem fit_sus (h : Tr β β' ρ (fun l => l) N true) (hck : β'.ck = β.ck) : ∀ {fs fs' : List Fr} {lk lk' : List Nat} {ts : List Frame}, FitFs ρ N fs fs' → SusR P β bl lk fs ts → SusR P β' bl' lk' fs' ts
  | [], fs', _, _, ts, hf, hs => by
    simp only [FitFs] at hf
    subst hf
    exact hs
  | f :: fs, fs', lk, lk', ts, ⟨f', fs2, e, h1, h2⟩, ⟨fr, ts', e', g1, g2, g3⟩ => by
    subst e e'
    exact ⟨fr, ts', rfl, fit_fr h hck h1 g1, (fun q hq => by rw [h1.lk'] at hq; cases hq), fit_sus h hck h2 g3⟩

theorem fit_bot {F : FuncId} : ∀ {fs fs' : List Fr}, FitFs ρ N fs fs' → Bot F fs → Bot F fs'
  | [], _, hf, hb => hb.elim
  | [f], fs', ⟨f', fs2, e, h1, h2⟩, hb => by
    simp only [FitFs] at h2
    subst e h2
    exact h1.fn.symm.trans hb
  | f :: g :: fs, fs', ⟨f', fs2, e, h1, h2⟩, hb => by
    have := fit_bot h2 hb
    obtain ⟨g', fs3, e3, -, -⟩ := h2
    subst e e3
    exact this

end

/-- A state under other names comes to the same end. -/
theorem Rch.fit {P : Program} {pl : FuncId → Nat → Option Plan} {C : Ctx} (hC : C.β.b = []) {S : AV → Bls → Prop} {c c' : Conf} (R : List Nat) (hf : Fit R c c') (h : Rch P pl C c' S) : Rch P pl C c S := by
  rintro β m ⟨⟨f, fs, fr, ts, w, e, rfl, h1, h2, h3⟩, h4, h5⟩
  obtain ⟨cfs, bl⟩ := c
  obtain ⟨cfs', bl'⟩ := c'
  simp only at e
  subst e
  obtain ⟨hnd, hlen, hfs, hbl⟩ := hf
  simp only at hlen hfs hbl h1 h2 h3 h4
  have hh := h3.heap
  let β' : Env := { β with b := R.map (fun x => (β.b[x]?).join) }
  have gnew : ∀ j : Nat, j < bl'.length → β'.b[j]? = some ((β.b[nm R j]?).join) := fun j hj => by
    show (R.map _)[j]? = _
    rw [List.getElem?_map, List.getElem?_eq_getElem (by omega)]
    simp [nm, List.getD_eq_getElem?_getD, List.getElem?_eq_getElem (show j < R.length by omega)]
  have tr : Tr β β' (nm R) (fun l => l) bl'.length true := ⟨fun l x hl hb => by show β'.b[l]? = _; rw [gnew l hl, hb]; rfl, fun _ _ h => h, fun _ _ _ h => h⟩
  have hat : ∀ {l : Nat} {c : Ct}, bl'[l]? = some (some c) → l < bl'.length ∧ bl[nm R l]? = some (some (renCt (nm R) c)) ∧ lvCt bl'.length true c = true := fun {l c} hl => by
    have := fitB_at hbl hl
    rw [Nat.zero_add] at this
    exact ⟨(List.getElem?_eq_some_iff.1 hl).1, lvl_get this.1, this.2⟩
  have back : ∀ {j : Nat} {b s : Nat}, j < bl'.length → β'.b[j]? = some (some (b, s)) → β.b[nm R j]? = some (some (b, s)) := fun {j b s} hj hb => by
    rw [gnew j hj] at hb
    cases e : β.b[nm R j]? with
    | none => rw [e] at hb; cases hb
    | some y => rw [e] at hb; simpa using hb
  have own : ∀ b, Owned β' bl' b → Owned β bl b := by
    rintro b ⟨l, c, s, hl, hb⟩
    obtain ⟨a1, a2, a3⟩ := hat hl
    exact ⟨nm R l, _, s, a2, back a1 hb⟩
  have heap' : Heap β' bl' w := by
    refine ⟨by show (R.map _).length = _; simp [hlen], fun l c hl => ?_, fun l l' c c' b s s' hne hl hl' hb hb' => ?_, fun t b cs hz => ⟨(hh.frz t b cs (by cases t <;> exact hz)).1, fun ho => (hh.frz t b cs (by cases t <;> exact hz)).2 (own b ho)⟩⟩
    · obtain ⟨a1, a2, a3⟩ := hat hl
      obtain ⟨base, e, hin⟩ := hh.lv _ _ a2
      have hi := hin.ren tr rfl a3
      refine ⟨base, by rw [gnew l a1, e]; rfl, ?_⟩
      have : renCt (fun l => l) c = c := by
        cases c with
        | lit cs => simp only [renCt, renL_id]
        | num k xs => rfl
        | rows w rs => simp only [renCt, renR_id]
        | loop st pend fn n tm ps a b df => simp only [renCt, renT_id]
        | defs => rfl
        | map es =>
          have he : ∀ es : List (AV × AV), renE (fun l => l) es = es := fun es => by
            induction es with
            | nil => rfl
            | cons x r ih => obtain ⟨a, b⟩ := x; simp only [renE, ren_id, ih]
          simp only [renCt, he]
      rwa [this] at hi
    · obtain ⟨a1, a2, a3⟩ := hat hl
      obtain ⟨b1, b2, b3⟩ := hat hl'
      refine hh.sep _ _ _ _ b s s' (fun e => ?_) a2 b2 (back a1 hb) (back b1 hb')
      have hj1 : l < R.length := by omega
      have hj2 : l' < R.length := by omega
      simp only [nm, List.getD_eq_getElem?_getD, List.getElem?_eq_getElem hj1, List.getElem?_eq_getElem hj2, Option.getD_some] at e
      exact hne (nodup_inj hnd hj1 hj2 e)
  have hb := fit_bot hfs h4
  obtain ⟨f', fs', e', hf1, hf2⟩ := hfs
  subst e'
  refine h β' _ ⟨⟨f', fs', fr, ts, w, rfl, rfl, fit_fr tr rfl hf1 h1, fit_sus tr rfl hf2 h2, ?_⟩, hb, h5⟩
  refine ⟨⟨by rw [hC]; exact List.nil_prefix, h3.le.z, h3.le.y, h3.le.ck⟩, heap', h3.step, fun b ho => h3.own b (own b ho), h3.zn, h3.y⟩

/-! ### closed runs with contracts -/
def runG (P : Program) (K : KT) (T : Pls) (n : Nat) (f : FuncId) : Option Bool := match fi P f with
  | some F => (match runQ P K (plOf T) n (conf0 f F [] []) with
    | some (.v (.bool b), _) => some b
    | _ => none)
  | none => none

/-- A law without inputs. -/
theorem closed_law2 {P : Program} {T : Pls} {K : KT} (hpl : PlOk P (plOf T)) (hK : KOk P (plOf T) K) {f : FuncId} {n : Nat} (h : runG P K T n f = some true) (w : World) :
    Calls P f #[] w fun e w' => e = .returned (.bool true) ∧ Below w.heap.size w w' := by
  unfold runG at h
  split at h
  · rename_i F hF
    split at h
    · rename_i b bl hr
      rw [runQ_eq] at hr
      obtain rfl := Option.some.inj h
      intro cs
      obtain ⟨v, fr, β', r, bl', w', h1, h2, h3, h4, h5, rfl⟩ := rch_calls (S := fun r _ => r = .v (.bool true)) hpl hF (Nat.zero_le _) (β := ⟨[], fun _ => none, fun _ => none, Ck P (plOf T)⟩) (bl := []) (w := w) (vs := [])
        ⟨rfl, fun l c h => by simp at h, fun l l' c c' b s s' _ h => by simp at h, fun t b cs h => by cases t <;> cases h⟩ rfl (by simp only [DenL]) (fun C => runK_ok hpl hK rfl hr) cs
      simp only [Den] at h4
      refine ⟨.returned v, w', fr, ⟨by rw [h4.1], ?_⟩, h1, h2, h3⟩
      refine ⟨h5.step.os, h5.step.tape, h5.step.output, h5.step.size, fun b hb => h5.step.kept b hb ?_⟩
      rintro ⟨l, c, s, hl, -⟩
      simp at hl
    · cases h
  · cases h

/-- A closed function's word: what its run comes to. -/
theorem spec_closed {P : Program} {T : Pls} {K : KT} (hpl : PlOk P (plOf T)) (hK : KOk P (plOf T) K) {g : FuncId} {F : FI} (hF : fi P g = some F) {n : Nat} {R : List Nat} {r : AV} {bl1 : Bls} {r' : AV} {bl' : Bls} (hr : runQ P K (plOf T) n (conf0 g F [] []) = some (r', bl'))
    (hn : R.Nodup) (hl : R.length = bl1.length) (he : r' = ren (nm R) r) (hb : ∀ l c, bl1[l]? = some (some c) → bl'[nm R l]? = some (some (renCt (nm R) c))) :
    SpecOk P (plOf T) g (fun args => match args with
      | [] => some (true, r, bl1)
      | _ => none) := by
  refine ⟨F, hF, fun args r0 bl0 h => ?_⟩
  dsimp only at h
  split at h
  · simp only [Option.some.injEq, Prod.mk.injEq, true_and] at h
    obtain ⟨rfl, rfl⟩ := h
    rw [runQ_eq] at hr
    exact ⟨Nat.zero_le _, fun C _ _ => runK_ok hpl hK ⟨R, hn, hl, he, hb⟩ hr⟩
  · cases h

end Go.SY
