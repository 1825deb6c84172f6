/-
  The symbolic machine: regions that draw their order: their steps.
-/
import Derived.Test.YtdoeopcimhpjaaaSy15
set_option linter.unusedSimpArgs false
set_option linter.unusedVariables false
namespace Go.SY
open Go

theorem HCh.mid {n : Nat} {all : Array Oper} {tm0 : TM} {e : HE} {h1 : List HE} : ∀ {h2 : List HE} {tm : TM}, HCh n all tm0 (h2 ++ e :: h1) tm → HCh n all tm0 h1 e.tm
  | [], _, h => h.1
  | _ :: h2, _, h => HCh.mid (h2 := h2) h.1

theorem tmF_true {n : Nat} {all : Array Oper} {tm0 : TM} {M : Nat → Bool} : ∀ {h : List HE}, (∀ e ∈ h, M e.i = true) → tmF n all tm0 M h = tmF n all tm0 (fun _ => true) h
  | [], _ => rfl
  | e :: h, hm => by
    have h1 := hm e (by simp)
    simp only [tmF, h1]
    rw [tmF_true fun e' he => hm e' (by simp [he])]

theorem Imp.tm {β : Env} {n : Nat} {tm tm' : TM} {tmps : Array Value} (h : Imp tm tm') (ht : TmOk β n tm tmps) : TmOk β n tm' tmps := ⟨ht.1, fun s => h β s _ (ht.2 s)⟩

/-- Slots and results: one more. -/
theorem TmOk.put {β : Env} {n : Nat} {tm : TM} {tmps : Array Value} (h : TmOk β n tm tmps) {r : AV} {y : Value} (hy : Den β r y) (d : Option Nat) : TmOk β n (put n tm d r) (match d with
    | some d => tmps.setIfInBounds d y
    | none => tmps) := by
  cases d with
  | none => exact h
  | some d =>
    refine ⟨by simp [h.1], fun s => ?_⟩
    rw [get_put]
    simp only
    by_cases e : d = s
    · subst e
      by_cases hd : d < n
      · rw [if_pos ⟨rfl, hd⟩, Array.getD_eq_getD_getElem?, Array.getElem?_setIfInBounds_self_of_lt (by rw [h.1]; exact hd)]
        exact hy
      · rw [if_neg (fun hc => hd hc.2)]
        have e1 : tmps.setIfInBounds d y = tmps := by simp [Array.setIfInBounds, h.1, hd]
        rw [e1]; exact h.2 d
    · rw [if_neg (fun hc => e (Option.some.inj hc.1)), Array.getD_eq_getD_getElem?, Array.getElem?_setIfInBounds_ne e, ← Array.getD_eq_getD_getElem?]
      exact h.2 s

def FactP (P : Program) (bl : Bls) (n : Nat) (all : Array Oper) (tm : TM) (i : Nat) (o : Oper) (A : List (Nat × List Nat)) (r : AV) : Prop :=
  (WS all n tm o.guard true ∧ (pop P tm o.op = some (true, r) ∨ (lop P tm bl o.op = some (true, r) ∧ cls P o.op = .load ∧ (i, rdl tm o.op) ∈ A))) ∨ (WS all n tm o.guard false ∧ r = .tup [])

section
variable {P : Program} {β : Env} {bl : Bls} {n : Nat} {tm : TM} {all : Array Oper} {plan rest : Plan} {A A' : List (Nat × List Nat)} {tmps : Array Value} {L : List Nat} {i : Nat} {un : List Nat} {o : Oper} {r : AV} {w : World}

/-- An operation executed, the machine left where it is. -/
theorem DrR.float (hd : DrR P β bl none n tm all ((i, un) :: rest) A tmps L) (ho : all[i]? = some o) (hf : FactP P bl n all tm i o A' r) (hA : ∀ p ∈ A, p ∈ A') (hy : ∃ y, Den β r y) :
    DrR P β bl none n (put n tm o.dst r) all rest A' tmps L := by
  obtain ⟨X, tm0, h, l, hs, hsc, hc, hp, hord', hch, htm, hfa, ⟨gt, hgt⟩, -⟩ := hd
  obtain ⟨y, hy⟩ := hy
  have hl : l.getD i false = false := hp (i, un) (by simp)
  have hdst : opDst all i = o.dst := by simp [opDst, ho]
  refine ⟨X, tm0, ⟨i, un, r, tm⟩ :: h, l, hs, hsc, hc, fun p hp' => hp p (by simp [hp']), ?_, ⟨hch, ?_⟩, ?_, fun e he hle => ?_, ⟨_, hgt.put hy o.dst⟩, trivial⟩
  · have : hord (⟨i, un, r, tm⟩ :: h) ++ rest = hord h ++ (i, un) :: rest := by simp [SY.hord]
    rw [this]; exact hord'
  · simp only [hdst]; exact fun _ _ _ h => h
  · simp only [tmF, hl]; exact htm
  · rcases List.mem_cons.1 he with rfl | he
    · exact ⟨⟨gt, hgt⟩, o, ho, hf⟩
    · obtain ⟨hg, o', ho', hf'⟩ := hfa e he hle
      refine ⟨hg, o', ho', ?_⟩
      rcases hf' with ⟨h1, h2⟩ | h1
      · rcases h2 with h2 | ⟨h2, h3, h4⟩
        · exact .inl ⟨h1, .inl h2⟩
        · exact .inl ⟨h1, .inr ⟨h2, h3, hA _ h4⟩⟩
      · exact .inr h1

/-- What an operation is executed with. -/
structure Poised (β : Env) (n : Nat) (tm : TM) (all : Array Oper) (o : Oper) (tmps : Array Value) : Prop where
  ev : ∃ ρ, EvOk β tm ρ ∧ execOp ρ o = execOp (evT tmps) o
  wt : ∀ b, WS all n tm o.guard b → Region.wanted o (yielded all tmps) = b

theorem TmOk.poised (h : TmOk β n tm tmps) (all : Array Oper) (o : Oper) : Poised β n tm all o tmps :=
  ⟨⟨_, h.ev, rfl⟩, fun b hb => WS.run h.1 (fun _ _ d _ _ => h.2 d) hb⟩

/-- Looked-at slots as they are; the others as a ghost has them. -/
theorem poised_of {gt : Array Value} (hs : tmps.size = n) (hg : TmOk β n tm gt) (hsel : ∀ cs b, o.op ≠ .select cs b) (hk : ∀ t ∈ lks all o, Den β (get tm t) (tmps.getD t undef)) : Poised β n tm all o tmps := by
  classical
  refine ⟨⟨fun x => if x ∈ o.op.operands then evT tmps x else evT gt x, fun x => ?_, execOp_congr o hsel fun x hx => by simp [hx]⟩, fun b hb => WS.run (β := β) hs (fun j want d hg' hj => ?_) hb⟩
  · simp only
    split
    · rename_i hx
      cases x with
      | tmp t =>
        refine hk t ?_
        unfold lks
        refine List.mem_append_left _ (List.mem_filterMap.2 ⟨.tmp t, by simpa using hx, rfl⟩)
      | const v => exact hg.ev (.const v)
      | global g => exact hg.ev (.global g)
      | func f => exact hg.ev (.func f)
    · exact hg.ev x
  · refine hk d ?_
    unfold lks
    refine List.mem_append_right _ ?_
    rw [hg']
    simp [hj]

/-- What an executed operation looks at, where the machine comes to it. -/
theorem look_den {tm0 : TM} {h2 h1 : List HE} {e : HE} {l : Array Bool} {X : Pairs} (ho : OrdX P X all (hord (h2 ++ e :: h1) ++ plan)) (hc : Clo X all l) (hoe : all[e.i]? = some o) (hl : l.getD e.i false = false)
    (hdeps : ∀ j, Dep X all j e.i → l.getD j false = true) (hch : HCh n all tm0 h1 e.tm) (htm : TmOk β n (tmF n all tm0 (fun i => l.getD i false) (h2 ++ e :: h1)) tmps) {t : Nat} (ht : t ∈ lks all o) :
    Den β (get e.tm t) (tmps.getD t undef) := by
  have h1' := htm.2 t
  rw [look_get ho hc hoe hl hdeps ht] at h1'
  exact hch.imp β t _ h1'

/-- One step of the machine: an operation that was executed before. -/
theorem DrR.run1 {j : Nat} (hd : DrR P β bl none n tm all plan A tmps (j :: L)) (hh : Heap β bl w) (hj : ∀ p ∈ plan, p.1 ≠ j) (fn : FuncId) (ro : Option Nat) (ds : List Deferred) (t : List Item) (cs : List Frame) :
    ∃ tmps', step P (lone ((fr0 fn ro).atR ⟨tmps, ds⟩ (.inRegion all (j :: L) :: t)) cs w) = .next (lone ((fr0 fn ro).atR ⟨tmps', ds⟩ (.inRegion all L :: t)) cs w) ∧ DrR P β bl none n tm all plan A tmps' L := by
  obtain ⟨X, tm0, h, l, hs, hsc, hc, hp, hord', hch, htm, hfa, hgh, -⟩ := hd
  cases hsc with
  | cons hr hxx hsc =>
    obtain ⟨hl, hlt⟩ := ready_not hs hr
    have hdeps := ready_deps hc hr hxx
    obtain ⟨a, ha, hai⟩ := hord'.cm j hlt
    have hah : a ∈ hord h := by
      rcases List.mem_append.1 ha with h1 | h1
      · exact h1
      · exact absurd hai (hj a h1)
    obtain ⟨e, he, rfl⟩ := of_hord hah
    simp only at hai
    obtain ⟨h2, h1, rfl⟩ := List.append_of_mem he
    subst hai
    obtain ⟨⟨gt, hgt⟩, o, ho, hf⟩ := hfa e he hl
    have hlook : ∀ t ∈ lks all o, Den β (get e.tm t) (tmps.getD t undef) := fun t ht => look_den hord' hc ho hl hdeps hch.mid htm ht
    have hpo := poised_of htm.1 hgt (hord'.sl _ _ ho).1 hlook
    have fin : ∀ y, Den β e.r y → DrR P β bl none n tm all plan A (match o.dst with
        | some d => tmps.setIfInBounds d y
        | none => tmps) L := fun y hy =>
      ⟨X, tm0, h2 ++ e :: h1, l.setIfInBounds e.i true, by simp [hs], hsc, hc.set hs hr hxx, fun p hp' => by
        simpa [Array.getElem?_setIfInBounds_ne (Ne.symm (hj p hp'))] using hp p hp', hord', hch, tmF_done hord' hc hs ho hl htm hy, fun e' he' hle => hfa e' he' (by
          apply Decidable.byContradiction
          intro hn
          have := getD_listed (i := e.i) (by simpa using hn : l.getD e'.i false = true)
          rw [hle] at this; cases this), hgh, trivial⟩
    have eput : ∀ y, (Act.put ⟨tmps, ds⟩ o.dst y : Act) = ⟨match o.dst with
        | some d => tmps.setIfInBounds d y
        | none => tmps, ds⟩ := fun y => by cases o.dst <;> rfl
    rcases hf with ⟨hw, hf⟩ | ⟨hw, hr'⟩
    · obtain ⟨ρ, hev, hex⟩ := hpo.ev
      have hwt := hpo.wt true hw
      have : ∃ y, Den β e.r y ∧ (execOp (evT tmps) o).run P w = .ok (.value y) w := by
        rw [← hex]
        rcases hf with hf | ⟨hf, -, -⟩
        · obtain ⟨y, hy, hrun⟩ := pop_sound hev hf rfl
          exact ⟨y, hy, hrun w⟩
        · exact lop_sound hev hh hf rfl
      obtain ⟨y, hy, hrun⟩ := this
      refine ⟨_, ?_, fin y hy⟩
      have hg := stepGR_op (P := P) (b := fr0 fn ro) (a := ⟨tmps, ds⟩) (k := t) (cs := cs) (w := w) (rest := L) ho hwt
      rw [Oper.semAt_eq _ _ _ (hord'.sl _ _ ho).2] at hg
      refine step_lone_go ?_
      have he : (Act.eval ⟨tmps, ds⟩ : Operand → Value) = evT tmps := by funext x; cases x <;> rfl
      have hfin := Frame.finish_atR (fr0 fn ro) ⟨tmps, ds⟩ all e.i L t y
      rw [ho] at hfin
      simp only [Option.bind_some, eput] at hfin
      rw [hg, he, ← hfin]
      simp [stepG.apply, hrun]
    · have hwt := hpo.wt false hw
      refine ⟨_, ?_, fin undef (by rw [hr']; simp only [Den, DenL]; exact ⟨[], rfl, rfl⟩)⟩
      have hst := stepR_op_skip (P := P) (b := fr0 fn ro) (a := ⟨tmps, ds⟩) (k := t) (cs := cs) (w := w) (ops := all) (i := e.i) (rest := L) (by simp [ho, hwt])
      rw [hst, ho]
      simp only [Option.bind_some, eput]

/-- The machine comes to the operation that the plan names. -/
theorem DrR.catch (hh : Heap β bl w) (ho : all[i]? = some o) (hcl : cls P o.op = .eff) (fn : FuncId) (ro : Option Nat) (ds : List Deferred) (t : List Item) (cs : List Frame) : ∀ (L : List Nat) (tmps : Array Value), DrR P β bl none n tm all ((i, un) :: rest) A tmps L →
    ∃ tmps' L', Steps P (lone ((fr0 fn ro).atR ⟨tmps, ds⟩ (.inRegion all L :: t)) cs w) (lone ((fr0 fn ro).atR ⟨tmps', ds⟩ (.inRegion all (i :: L') :: t)) cs w) ∧ DrR P β bl none n tm all ((i, un) :: rest) A tmps' (i :: L')
  | [], tmps, hd => by
    obtain ⟨X, tm0, h, l, hs, hsc, hc, hp, hord', hch, htm, hfa, hgh, -⟩ := hd
    cases hsc with
    | nil hr =>
      have := all_done hord' hs hr (i, un) (by simp)
      rw [hp (i, un) (by simp)] at this; cases this
  | j :: L, tmps, hd => by
    by_cases e : j = i
    · subst e; exact ⟨tmps, L, .refl _ _, hd⟩
    · have hj : ∀ p ∈ (i, un) :: rest, p.1 ≠ j := by
        obtain ⟨X, tm0, h, l, hs, hsc, hc, hp, hord', hch, htm, hfa, hgh, -⟩ := hd
        intro p hp' e'
        rcases List.mem_cons.1 hp' with rfl | hp'
        · exact e e'.symm
        · cases hsc with
          | cons hr hxx hsc =>
            have hpw := (List.pairwise_append.1 hord'.pw).2.1
            have := ((List.pairwise_cons.1 hpw).1 p hp').ef o ho hcl
            rw [e'] at this
            have := ready_deps hc hr hxx _ this
            rw [hp (i, un) (by simp)] at this; cases this
      obtain ⟨tmps1, hst, hd1⟩ := hd.run1 hh hj fn ro ds t cs
      obtain ⟨tmps', L', hsts, hd'⟩ := DrR.catch hh ho hcl fn ro ds t cs L tmps1 hd1
      exact ⟨tmps', L', .head hst hsts, hd'⟩

/-- The machine does what is left. -/
theorem DrR.last (hh : Heap β bl w) (fn : FuncId) (ro : Option Nat) (ds : List Deferred) (t : List Item) (cs : List Frame) : ∀ (L : List Nat) (tmps : Array Value), DrR P β bl none n tm all [] A tmps L →
    ∃ tmps', Steps P (lone ((fr0 fn ro).atR ⟨tmps, ds⟩ (.inRegion all L :: t)) cs w) (lone ((fr0 fn ro).atR ⟨tmps', ds⟩ t) cs w) ∧ TmOk β n tm tmps'
  | [], tmps, hd => by
    obtain ⟨X, tm0, h, l, hs, hsc, hc, hp, hord', hch, htm, hfa, hgh, -⟩ := hd
    cases hsc with
    | nil hr =>
      refine ⟨tmps, .one stepR_region_end, ?_⟩
      have hall := all_done hord' hs hr
      rw [tmF_true fun e he => hall _ (List.mem_append_left _ (mem_hord he))] at htm
      exact hch.imp.tm htm
  | j :: L, tmps, hd => by
    obtain ⟨tmps1, hst, hd1⟩ := hd.run1 hh (fun p hp => by cases hp) fn ro ds t cs
    obtain ⟨tmps', hsts, ht⟩ := DrR.last hh fn ro ds t cs L tmps1 hd1
    exact ⟨tmps', .head hst hsts, ht⟩

/-- The operation that the plan names, where the machine has come to it. -/
theorem DrR.poised (hd : DrR P β bl none n tm all ((i, un) :: rest) A tmps (i :: L)) (ho : all[i]? = some o) : Poised β n tm all o tmps := by
  obtain ⟨X, tm0, h, l, hs, hsc, hc, hp, hord', hch, htm, hfa, ⟨gt, hgt⟩, -⟩ := hd
  cases hsc with
  | cons hr hxx hsc =>
    obtain ⟨hl, -⟩ := ready_not hs hr
    have hdeps := ready_deps hc hr hxx
    refine poised_of htm.1 hgt (hord'.sl _ _ ho).1 fun t ht => ?_
    have e1 : hord h ++ (i, un) :: rest = hord ([] ++ (⟨i, un, .any, tm⟩ : HE) :: h) ++ rest := by simp [SY.hord]
    rw [e1] at hord'
    refine look_den (h2 := []) (e := ⟨i, un, .any, tm⟩) (h1 := h) hord' hc ho hl hdeps hch ?_ ht
    simp only [List.nil_append, tmF, hl]
    exact htm

/-- What is locked stays. -/
def Kp (lk : List Nat) (bl bl' : Bls) : Prop := ∀ q ∈ lk, ∀ c, c.cell = true → lvl bl q = some c → lvl bl' q = some c

theorem Kp.refl (lk : List Nat) (bl : Bls) : Kp lk bl bl := fun _ _ _ _ h => h
theorem Kp.trans {lk : List Nat} {a b c : Bls} (h : Kp lk a b) (k : Kp lk b c) : Kp lk a c := fun q hq x hx e => k q hq x hx (h q hq x hx e)
theorem Kp.sub {lk lk' : List Nat} {a b : Bls} (h : Kp lk a b) (hs : ∀ q ∈ lk', q ∈ lk) : Kp lk' a b := fun q hq => h q (hs q hq)

theorem lvA_mem {un : List Nat} {j : Nat} {ls : List Nat} (hj : j ∈ un) : ∀ {A : List (Nat × List Nat)}, (j, ls) ∈ A → ∀ q ∈ ls, q ∈ lvA un A
  | [], h, _, _ => by cases h
  | (a, b) :: A, h, q, hq => by
    rcases List.mem_cons.1 h with h | h
    · cases h
      have : un.contains j = true := List.contains_iff_mem.2 hj
      simp only [lvA, this, if_true]
      exact List.mem_append_left _ hq
    · have ih := lvA_mem hj h q hq
      simp only [lvA]
      split
      · exact List.mem_append_right _ ih
      · exact ih

theorem rdCt_cell {c : Ct} {i w' k : Nat} {T : TI} {x} (h : rdCt c i w' k T = some x) : c.cell = true := by
  cases c <;> first | rfl | (simp [rdCt] at h)

/-- What is read stays where its level stays. -/
theorem lop_keep {bl' : Bls} {op : Op} {x} (hk : Kp (rdl tm op) bl bl') (h : lop P tm bl op = some x) : lop P tm bl' op = some x := by
  by_cases hall : ∀ l ∈ rdl tm op, ∃ c, c.cell = true ∧ lvl bl l = some c
  · rw [lop_congr (bl := bl)]
    · exact h
    · intro l hl
      obtain ⟨c, hc, e⟩ := hall l hl
      rw [e]; exact hk l hl c hc e
  · exfalso
    refine hall fun l hl => ?_
    cases op with
    | load t a =>
      simp only [rdl] at hl
      simp only [lop] at h
      split at hl
      · rename_i he
        simp only [List.mem_singleton] at hl
        subst hl
        simp only [he] at h
        split at h
        · split at h
          · rename_i c hc
            exact ⟨c, rdCt_cell h, hc⟩
          · cases h
        · cases h
      · cases hl
    | convert s d a =>
      simp only [rdl] at hl
      simp only [lop] at h
      split at hl
      · rename_i he
        simp only [List.mem_singleton] at hl
        subst hl
        simp only [he, numsAt] at h
        split at h
        · split at h
          · split at h
            · split at h
              · rename_i h2
                split at h2
                · rename_i hc; exact ⟨_, rfl, hc⟩
                · cases h2
              · cases h
            · cases h
          · cases h
        · cases h
      · cases hl
    | slice t a lo hi mx =>
      simp only [rdl] at hl
      simp only [lop] at h
      split at hl
      · rename_i he
        simp only [List.mem_singleton] at hl
        subst hl
        simp only [he] at h
        split at h
        · split at h
          · split at h
            · split at h
              · split at h
                · split at h
                  · rename_i c hc _ _ _
                    refine ⟨c, ?_, hc⟩
                    cases c <;> first | rfl | (simp at h; done) | (rename_i hh; simp at hh; done) | skip
                    all_goals simp_all
                  · cases h
                · cases h
              · cases h
            · cases h
          · cases h
        · cases h
      · cases hl
    | _ => simp [rdl] at hl

/-- An operation executed where the machine stands at it. -/
theorem DrR.done {pr : Option (List Nat)} {β' : Env} {bl' : Bls} {y : Value} (hd : DrR P β bl pr n tm all ((i, un) :: rest) A tmps (i :: L)) (ho : all[i]? = some o) (hcl : cls P o.op = .eff) (hle : β.le β') (hy : Den β' r y)
    (hk : (pr = none ∧ Kp (lvA un A) bl bl') ∨ ∃ lk, pr = some lk ∧ Kp lk bl bl') : DrR P β' bl' none n (put n tm o.dst r) all rest A (match o.dst with
      | some d => tmps.setIfInBounds d y
      | none => tmps) L := by
  obtain ⟨X, tm0, h, l, hs, hsc, hc, hp, hord', hch, htm, hfa, ⟨gt, hgt⟩, hpr⟩ := hd
  have hdst : opDst all i = o.dst := by simp [opDst, ho]
  cases hsc with
  | cons hr hxx hsc =>
    obtain ⟨hl, hlt⟩ := ready_not hs hr
    have hdeps := ready_deps hc hr hxx
    have e1 : hord h ++ (i, un) :: rest = hord ([] ++ (⟨i, un, r, tm⟩ : HE) :: h) ++ rest := by simp [SY.hord]
    have hpw := hord'.pw
    have hne : ∀ p ∈ rest, p.1 ≠ i := fun p hp' => ((List.pairwise_cons.1 (List.pairwise_append.1 hpw).2.1).1 p hp').ne.symm
    rw [e1] at hord'
    refine ⟨X, tm0, (⟨i, un, r, tm⟩ : HE) :: h, l.setIfInBounds i true, by simp [hs], hsc, hc.set hs hr hxx, fun p hp' => ?_, hord', ⟨hch, ?_⟩, ?_, fun e he hle' => ?_, ⟨_, (hgt.mono hle).put hy o.dst⟩, trivial⟩
    · simpa [Array.getElem?_setIfInBounds_ne (Ne.symm (hne p hp'))] using hp p (by simp [hp'])
    · simp only [hdst]; exact fun _ _ _ h => h
    · refine tmF_done (h2 := []) (e := (⟨i, un, r, tm⟩ : HE)) (h1 := h) hord' hc hs ho hl ?_ hy
      simp only [List.nil_append, tmF, hl]
      exact htm.mono hle
    · have hlold : l.getD e.i false = false := by
        apply Decidable.byContradiction
        intro hn
        have := getD_listed (i := i) (by simpa using hn : l.getD e.i false = true)
        rw [hle'] at this; cases this
      rcases List.mem_cons.1 he with rfl | he
      · simp [hs, hlt] at hle'
      · obtain ⟨⟨g, hg⟩, o', ho', hf⟩ := hfa e he hlold
        refine ⟨⟨g, hg.mono hle⟩, o', ho', ?_⟩
        rcases hf with ⟨h1, h2⟩ | h1
        · rcases h2 with h2 | ⟨h2, h3, h4⟩
          · exact .inl ⟨h1, .inl h2⟩
          · refine .inl ⟨h1, .inr ⟨lop_keep ?_ h2, h3, h4⟩⟩
            rcases hk with ⟨-, hk⟩ | ⟨lk, rfl, hk⟩
            · have hpre : PR P X all (e.i, e.un) (i, un) := (List.pairwise_append.1 hpw).2.2 _ (mem_hord he) _ (by simp)
              rcases hpre.ld o' o ho' ho h3 hcl with hdep | hin
              · have := hdeps _ hdep
                rw [hlold] at this; cases this
              · exact hk.sub (lvA_mem hin h4)
            · exact hk.sub (hpr.2 e he hlold _ h4 o' ho' h3 rfl)
        · exact .inr h1

/-- While a call of it runs. -/
theorem DrR.wait {lk : List Nat} (hd : DrR P β bl none n tm all ((i, un) :: rest) A tmps (i :: L)) (ho : all[i]? = some o) (hcl : cls P o.op = .eff) (hlk : ∀ q ∈ lvA un A, q ∈ lk) : DrR P β bl (some lk) n tm all ((i, un) :: rest) A tmps (i :: L) := by
  obtain ⟨X, tm0, h, l, hs, hsc, hc, hp, hord', hch, htm, hfa, hgh, -⟩ := hd
  refine ⟨X, tm0, h, l, hs, hsc, hc, hp, hord', hch, htm, hfa, hgh, ⟨i, un, rest, L, rfl, rfl, fun o' h' => by rw [ho] at h'; rw [← Option.some.inj h']; exact hcl⟩, fun e he hle ls hls o' ho' hcl' hr q hq => ?_⟩
  cases hsc with
  | cons hr' hxx hsc =>
    have hpre : PR P X all (e.i, e.un) (i, un) := (List.pairwise_append.1 hord'.pw).2.2 _ (mem_hord he) _ (by simp)
    rcases hpre.ld o' o ho' ho hcl' hcl with hdep | hin
    · have := ready_deps hc hr' hxx _ hdep
      rw [hle] at this; cases this
    · exact hlk q (lvA_mem hin hls q hq)

/-- While it waits memory may turn. -/
theorem DrR.mono {lk : List Nat} {β' : Env} {bl' : Bls} (hd : DrR P β bl (some lk) n tm all plan A tmps L) (hle : β.le β') (hk : Kp lk bl bl') : DrR P β' bl' (some lk) n tm all plan A tmps L := by
  obtain ⟨X, tm0, h, l, hs, hsc, hc, hp, hord', hch, htm, hfa, ⟨gt, hgt⟩, hpr⟩ := hd
  refine ⟨X, tm0, h, l, hs, hsc, hc, hp, hord', hch, htm.mono hle, fun e he hle' => ?_, ⟨gt, hgt.mono hle⟩, hpr⟩
  obtain ⟨⟨g, hg⟩, o', ho', hf⟩ := hfa e he hle'
  refine ⟨⟨g, hg.mono hle⟩, o', ho', ?_⟩
  rcases hf with ⟨h1, h2⟩ | h1
  · rcases h2 with h2 | ⟨h2, h3, h4⟩
    · exact .inl ⟨h1, .inl h2⟩
    · exact .inl ⟨h1, .inr ⟨lop_keep (hk.sub (hpr.2 e he hle' _ h4 o' ho' h3 rfl)) h2, h3, h4⟩⟩
  · exact .inr h1

/-- A slot told in another way. -/
theorem DrR.imp {tm' : TM} (hd : DrR P β bl none n tm all plan A tmps L) (hi : Imp tm tm') : DrR P β bl none n tm' all plan A tmps L := by
  obtain ⟨X, tm0, h, l, hs, hsc, hc, hp, hord', hch, htm, hfa, ⟨gt, hgt⟩, hpr⟩ := hd
  exact ⟨X, tm0, h, l, hs, hsc, hc, hp, hord', hch.weak hi, htm, hfa, ⟨gt, hi.tm hgt⟩, hpr⟩

/-- The region is entered. -/
theorem DrR.startX {X : Pairs} {L : List Nat} (ho : OrdX P X all plan) (ht : TmOk β n tm tmps) (hsc : Sched X all (Array.replicate all.size false) L) : DrR P β bl none n tm all plan [] tmps L := by
  refine ⟨X, tm, [], Array.replicate all.size false, by simp, hsc, fun j k hj _ => ?_, fun p hp => ?_, by simpa [SY.hord] using ho, fun _ _ _ h => h, by simpa [tmF] using ht, (fun e he => by cases he), ⟨tmps, ht⟩, trivial⟩
  · by_cases hjs : j < all.size <;> simp [hjs] at hj
  · have := ho.ib p hp
    simp [this]
theorem DrR.start (ho : Ord P all plan) (ht : TmOk β n tm tmps) (t : Nat) : DrR P β bl none n tm all plan [] tmps (Region.linearise .any all t) := DrR.startX ho ht (sched_init t)

end

end Go.SY
