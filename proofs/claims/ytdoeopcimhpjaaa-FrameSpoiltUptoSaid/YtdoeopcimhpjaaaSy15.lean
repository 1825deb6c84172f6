/-
  The symbolic machine: what states stand for; regions that draw their order.
-/
import Derived.Test.YtdoeopcimhpjaaaSy14
import Derived.AtR
set_option linter.unusedSimpArgs false
set_option linter.unusedVariables false
namespace Go.SY
open Go

abbrev fr0 (fn : FuncId) (ro : Option Nat) : Frame := { fn := fn, tmps := #[], todo := [], defers := [], mode := .run, kind := .normal, roundOf := ro }

/-! ### items -/
def IR (β : Env) (fn : FuncId) : SI → Item → Prop
  | .code c, y => y = .code c ∧ β.ck fn c
  | .blk id, y => y = .inBlock id
  | .lp c, y => y = .inLoop c ∧ β.ck fn c
  | .sc c, y => y = .inScope c ∧ β.ck fn c
  | .ops all os g, y => g = none ∧ ∃ m, os = all.toList.drop m ∧ y = .inRegion all (List.range' m (all.size - m))
  | .dr _ _ _ _, _ => False
  | .rf l, y => ∃ b s, β.b[l]? = some (some (b, s)) ∧ y = .inRangeFunc b
  | .erf l, y => ∃ b s, β.b[l]? = some (some (b, s)) ∧ y = .endRangeFunc b
  | .br, y => y = .beginRound

def KR (β : Env) (fn : FuncId) : List SI → List Item → Prop
  | [], t => t = []
  | x :: k, t => ∃ y t', t = y :: t' ∧ IR β fn x y ∧ KR β fn k t'

theorem IR.mono {β β' : Env} (h : β.le β') {fn : FuncId} {x : SI} {y : Item} (hx : IR β fn x y) : IR β' fn x y := by
  cases x with
  | code c => exact ⟨hx.1, by rw [h.ck]; exact hx.2⟩
  | lp c => exact ⟨hx.1, by rw [h.ck]; exact hx.2⟩
  | sc c => exact ⟨hx.1, by rw [h.ck]; exact hx.2⟩
  | rf l => obtain ⟨b, s, h1, h2⟩ := hx; exact ⟨b, s, h.at h1, h2⟩
  | erf l => obtain ⟨b, s, h1, h2⟩ := hx; exact ⟨b, s, h.at h1, h2⟩
  | _ => exact hx

theorem KR.mono {β β' : Env} (h : β.le β') {fn : FuncId} : ∀ {k : List SI} {t : List Item}, KR β fn k t → KR β' fn k t
  | [], _, hk => hk
  | _ :: _, _, ⟨y, t', e, h1, h2⟩ => ⟨y, t', e, h1.mono h, KR.mono h h2⟩

/-! ### guards -/
def WS (all : Array Oper) (n : Nat) (tm : TM) (g : Option (Nat × Bool)) (b : Bool) : Prop := match g with
  | none => b = true
  | some (j, want) => ∃ d, gdst all j = some d ∧ d < n ∧ (get tm d = .v (.bool (if b = true then want else !want)) ∨ (b = false ∧ get tm d = .tup []))

theorem WS.run {β : Env} {all : Array Oper} {n : Nat} {tm : TM} {tmps : Array Value} {o : Oper} {b : Bool} (hs : tmps.size = n) (hd : ∀ j want d, o.guard = some (j, want) → gdst all j = some d → Den β (get tm d) (tmps.getD d undef))
    (h : WS all n tm o.guard b) : Region.wanted o (yielded all tmps) = b := by
  unfold WS at h
  unfold Region.wanted
  split at h
  · rename_i hg; rw [hg, h]
  · rename_i j want hg
    obtain ⟨d, hj, hlt, hb⟩ := h
    have hv := hd j want d hg hj
    rw [hg]
    have hsz : d < tmps.size := by omega
    rw [gdst_eq] at hj
    rcases hb with hb | ⟨rfl, hb⟩
    · rw [hb] at hv
      simp only [Den] at hv
      have hget : tmps[d]? = some (.bool (if b = true then want else !want)) := by
        have := hv.1
        rw [Array.getD_eq_getD_getElem?, Array.getElem?_eq_getElem hsz] at this
        rw [Array.getElem?_eq_getElem hsz]; simpa using this
      simp only [yielded, hj, Option.bind_some, hget]
      cases b <;> cases want <;> rfl
    · rw [hb] at hv
      simp only [Den, DenL] at hv
      obtain ⟨ys, hv, rfl⟩ := hv
      have hget : tmps[d]? = some (.tuple [].toArray) := by
        have := hv
        rw [Array.getD_eq_getD_getElem?, Array.getElem?_eq_getElem hsz] at this
        rw [Array.getElem?_eq_getElem hsz]; simpa using this
      simp only [yielded, hj, Option.bind_some, hget]
      cases want <;> rfl

/-! ### orders -/
def after1 (o : Oper) (i : Nat) : Prop := ∃ e ∈ o.after, Region.binds .any e = true ∧ e.on = i

/-- Pairs of which the first was drawn ahead of the second. -/
abbrev Pairs := List (Nat × Nat)
/-- j comes behind i at once: by an edge; or as it was drawn. -/
def aft (X : Pairs) (all : Array Oper) (j i : Nat) : Prop := (∃ o, all[j]? = some o ∧ after1 o i) ∨ (i, j) ∈ X

/-- j comes behind i, whatever is drawn (of what is drawn as X says). -/
inductive Dep (X : Pairs) (all : Array Oper) (i : Nat) : Nat → Prop where
  | one {j : Nat} : aft X all j i → Dep X all i j
  | step {j k : Nat} : aft X all j k → Dep X all i k → Dep X all i j

/-- The slots that an operation looks at. -/
def lks (all : Array Oper) (o : Oper) : List Nat := (o.op.operands.toList.filterMap fun | .tmp t => some t | _ => none) ++
  (match o.guard with
    | some (g, _) => (gdst all g).toList
    | none => [])

structure PR (P : Program) (X : Pairs) (all : Array Oper) (a b : Nat × List Nat) : Prop where
  sh : ∀ oa ob, all[a.1]? = some oa → all[b.1]? = some ob → ((∃ t, oa.dst = some t ∧ (t ∈ lks all ob ∨ ob.dst = some t)) ∨ (∃ t, ob.dst = some t ∧ t ∈ lks all oa)) → Dep X all a.1 b.1
  ef : ∀ oa, all[a.1]? = some oa → cls P oa.op = .eff → Dep X all a.1 b.1
  ld : ∀ oa ob, all[a.1]? = some oa → all[b.1]? = some ob → cls P oa.op = .load → cls P ob.op = .eff → Dep X all a.1 b.1 ∨ a.1 ∈ b.2
  ne : a.1 ≠ b.1

structure OrdX (P : Program) (X : Pairs) (all : Array Oper) (pl : Plan) : Prop where
  pw : pl.Pairwise (PR P X all)
  dp : ∀ l1 a l2, pl = l1 ++ a :: l2 → ∀ j, aft X all a.1 j → ∃ b ∈ l1, b.1 = j
  cm : ∀ i, i < all.size → ∃ a ∈ pl, a.1 = i
  ib : ∀ a ∈ pl, a.1 < all.size
  sl : ∀ (i : Nat) o, all[i]? = some o → (∀ cs b, o.op ≠ .select cs b) ∧ ∀ c, o.op ≠ .defer c

abbrev Ord (P : Program) (all : Array Oper) (pl : Plan) : Prop := OrdX P [] all pl

def Clo (X : Pairs) (all : Array Oper) (l : Array Bool) : Prop := ∀ (j k : Nat), l.getD j false = true → aft X all j k → l.getD k false = true

theorem Clo.dep {X : Pairs} {all : Array Oper} {l : Array Bool} (hc : Clo X all l) {i j : Nat} (hd : Dep X all i j) (hj : l.getD j false = true) : l.getD i false = true := by
  induction hd with
  | one ha => exact hc _ _ hj ha
  | step ha _ ih => exact ih (hc _ _ hj ha)

/-- What may be drawn from here on. -/
inductive Sched (X : Pairs) (all : Array Oper) : Array Bool → List Nat → Prop where
  | nil {l : Array Bool} : Region.ready .any all l = [] → Sched X all l []
  | cons {l : Array Bool} {i : Nat} {L : List Nat} : i ∈ Region.ready .any all l → (∀ k, (k, i) ∈ X → l.getD k false = true) → Sched X all (l.setIfInBounds i true) L → Sched X all l (i :: L)

def cnt (N : Nat) (l : Array Bool) : Nat := (List.range N).countP fun i => !l.getD i true

theorem countP_lt {p q : Nat → Bool} : ∀ (xs : List Nat) (i : Nat), (∀ j, q j = true → p j = true) → i ∈ xs → p i = true → q i = false → xs.countP q < xs.countP p
  | [], _, _, h, _, _ => by cases h
  | x :: xs, i, hpq, hi, hp, hq => by
    have mono : ∀ ys : List Nat, ys.countP q ≤ ys.countP p := fun ys => by
      induction ys with
      | nil => simp
      | cons y ys ih =>
        simp only [List.countP_cons]
        have := hpq y
        by_cases hy : q y = true
        · simp [hy, this hy]; exact ih
        · simp [hy]; split <;> omega
    simp only [List.countP_cons]
    rcases List.mem_cons.1 hi with rfl | hi
    · have := mono xs
      simp [hp, hq]; omega
    · have := countP_lt xs i hpq hi hp hq
      have h2 := hpq x
      by_cases hx : q x = true
      · simp [hx, h2 hx]; exact this
      · simp [hx]; split <;> omega

theorem sched_go {all : Array Oper} : ∀ (fuel t : Nat) (l : Array Bool), l.size = all.size → cnt all.size l ≤ fuel → Sched [] all l (Region.linearise.go .any all fuel t l []) := by
  intro fuel
  induction fuel with
  | zero =>
    intro t l hs hc
    simp only [Region.linearise.go, List.reverse_nil]
    refine .nil ?_
    cases hr : Region.ready .any all l with
    | nil => rfl
    | cons x xs =>
      exfalso
      have hx : x ∈ Region.ready .any all l := by rw [hr]; simp
      obtain ⟨h1, o, ho, -⟩ := mem_ready.1 hx
      have hlt : x < all.size := (Array.getElem?_eq_some_iff.1 ho).1
      have : 0 < cnt all.size l := by
        unfold cnt
        exact List.countP_pos_iff.2 ⟨x, List.mem_range.2 hlt, by simp [h1]⟩
      omega
  | succ fuel ih =>
    intro t l hs hc
    simp only [Region.linearise.go]
    change Sched [] all l (match (Region.ready .any all l)[t % (Region.ready .any all l).length]? with
      | some i => Region.linearise.go .any all fuel (t / (Region.ready .any all l).length) (l.setIfInBounds i true) [i]
      | none => [].reverse)
    cases hi : (Region.ready .any all l)[t % (Region.ready .any all l).length]? with
    | none =>
      have hnil : Region.ready .any all l = [] := by
        cases hr : Region.ready .any all l with
        | nil => rfl
        | cons x xs =>
          rw [hr] at hi
          have hlt : t % (x :: xs).length < (x :: xs).length := Nat.mod_lt _ (by simp)
          simp at hi
          simp at hlt
          omega
      exact .nil hnil
    | some i =>
      simp only []
      rw [linearise_go_acc, List.reverse_singleton, List.singleton_append]
      have hm := List.mem_of_getElem? hi
      refine .cons hm (fun k hk => by cases hk) (ih _ _ (by simpa using hs) ?_)
      obtain ⟨h1, o, ho, -⟩ := mem_ready.1 hm
      have hlt : i < all.size := (Array.getElem?_eq_some_iff.1 ho).1
      have : cnt all.size (l.setIfInBounds i true) < cnt all.size l := by
        unfold cnt
        refine countP_lt _ i (fun j hj => ?_) (List.mem_range.2 hlt) (by simp [h1]) (by simp [hs, hlt])
        by_cases e : i = j
        · subst e; simp [hs, hlt] at hj
        · simpa [Array.getElem?_setIfInBounds_ne e] using hj
      omega

theorem sched_init {all : Array Oper} (t : Nat) : Sched [] all (Array.replicate all.size false) (Region.linearise .any all t) := by
  unfold Region.linearise
  refine sched_go _ _ _ (by simp) ?_
  unfold cnt
  exact Nat.le_trans List.countP_le_length (by simp)

/-! ### what was executed, symbolically -/
structure HE where
  i : Nat
  un : List Nat
  r : AV
  tm : TM

def opDst (all : Array Oper) (i : Nat) : Option Nat := (all[i]?).bind (·.dst)

/-- The slots behind those of the executed ones that the machine has done. -/
def tmF (n : Nat) (all : Array Oper) (tm0 : TM) (M : Nat → Bool) : List HE → TM
  | [] => tm0
  | e :: h => match M e.i with
    | true => put n (tmF n all tm0 M h) (opDst all e.i) e.r
    | false => tmF n all tm0 M h

def Imp (tm tm' : TM) : Prop := ∀ β s v, Den β (get tm s) v → Den β (get tm' s) v

def HCh (n : Nat) (all : Array Oper) (tm0 : TM) : List HE → TM → Prop
  | [], tm => Imp tm0 tm
  | e :: h, tm => HCh n all tm0 h e.tm ∧ Imp (put n e.tm (opDst all e.i) e.r) tm

def hord (h : List HE) : Plan := (h.map fun e => (e.i, e.un)).reverse

theorem get_put {n : Nat} {tm : TM} {d : Option Nat} {x : AV} {s : Nat} : get (put n tm d x) s = if d = some s ∧ s < n then x else get tm s := by
  unfold put
  cases d with
  | none => simp
  | some d =>
    simp only
    by_cases hd : d < n
    · rw [if_pos hd]
      simp only [get]
      by_cases e : d = s
      · subst e; simp [hd]
      · simp [e]
    · rw [if_neg hd]
      by_cases e : d = s
      · subst e; simp [hd]
      · simp [e]

theorem Imp.put {n : Nat} {tm tm' : TM} (h : Imp tm tm') (d : Option Nat) (x : AV) : Imp (put n tm d x) (put n tm' d x) := by
  intro β s v hv
  rw [get_put] at hv ⊢
  split
  · rename_i hc; rw [if_pos hc] at hv; exact hv
  · rename_i hc; rw [if_neg hc] at hv; exact h β s v hv

theorem Imp.trans {a b c : TM} (h : Imp a b) (k : Imp b c) : Imp a c := fun β s v hv => k β s v (h β s v hv)

theorem HCh.imp {n : Nat} {all : Array Oper} {tm0 : TM} : ∀ {h : List HE} {tm : TM}, HCh n all tm0 h tm → Imp (tmF n all tm0 (fun _ => true) h) tm
  | [], _, h => h
  | _ :: _, _, ⟨h1, h2⟩ => (h1.imp.put _ _).trans h2

theorem HCh.weak {n : Nat} {all : Array Oper} {tm0 : TM} {h : List HE} {tm tm' : TM} (hc : HCh n all tm0 h tm) (hi : Imp tm tm') : HCh n all tm0 h tm' := by
  cases h with
  | nil => exact Imp.trans hc hi
  | cons e h => exact ⟨hc.1, hc.2.trans hi⟩

/-- An executed operation's word, as long as the machine has not done it. -/
structure Fact (P : Program) (β : Env) (bl : Bls) (all : Array Oper) (n : Nat) (A : List (Nat × List Nat)) (e : HE) : Prop where
  gh : ∃ gt, TmOk β n e.tm gt
  ex : ∃ o, all[e.i]? = some o ∧ ((WS all n e.tm o.guard true ∧ (pop P e.tm o.op = some (true, e.r) ∨ (lop P e.tm bl o.op = some (true, e.r) ∧ cls P o.op = .load ∧ (e.i, rdl e.tm o.op) ∈ A))) ∨ (WS all n e.tm o.guard false ∧ e.r = .tup []))

/-- A region that draws its order, in its midst. pr: what is locked while a call of it runs. -/
def DrR (P : Program) (β : Env) (bl : Bls) (pr : Option (List Nat)) (n : Nat) (tm : TM) (all : Array Oper) (plan : Plan) (A : List (Nat × List Nat)) (tmps : Array Value) (L : List Nat) : Prop :=
  ∃ (X : Pairs) (tm0 : TM) (h : List HE) (l : Array Bool), l.size = all.size ∧ Sched X all l L ∧ Clo X all l ∧ (∀ p ∈ plan, l.getD p.1 false = false) ∧ OrdX P X all (hord h ++ plan) ∧ HCh n all tm0 h tm ∧
    TmOk β n (tmF n all tm0 (fun i => l.getD i false) h) tmps ∧ (∀ e ∈ h, l.getD e.i false = false → Fact P β bl all n A e) ∧ (∃ gt, TmOk β n tm gt) ∧
    (match pr with
      | none => True
      | some lk => (∃ i un rest L', plan = (i, un) :: rest ∧ L = i :: L' ∧ ∀ o, all[i]? = some o → cls P o.op = .eff) ∧ ∀ e ∈ h, l.getD e.i false = false → ∀ ls, (e.i, ls) ∈ A → ∀ o, all[e.i]? = some o → cls P o.op = .load → ls = rdl e.tm o.op → ∀ q ∈ ls, q ∈ lk)

theorem mem_hord {h : List HE} {e : HE} (he : e ∈ h) : (e.i, e.un) ∈ hord h := by
  unfold hord
  rw [List.mem_reverse]
  exact List.mem_map.2 ⟨e, he, rfl⟩

theorem of_hord {h : List HE} {p : Nat × List Nat} (hp : p ∈ hord h) : ∃ e ∈ h, (e.i, e.un) = p := by
  unfold hord at hp
  rw [List.mem_reverse] at hp
  exact List.mem_map.1 hp

theorem hord_app (h2 h1 : List HE) : hord (h2 ++ h1) = hord h1 ++ hord h2 := by simp [hord]

section
variable {P : Program} {all : Array Oper} {n : Nat} {tm0 : TM} {l : Array Bool} {plan : Plan} {X : Pairs}

/-- Slots that nobody among some has written. -/
theorem tmF_skip {M : Nat → Bool} {t : Nat} {g : List HE} : ∀ {h : List HE}, (∀ e ∈ h, M e.i = true → opDst all e.i ≠ some t) → get (tmF n all tm0 M (h ++ g)) t = get (tmF n all tm0 M g) t
  | [], _ => rfl
  | e :: h, hn => by
    have ih := tmF_skip (g := g) (h := h) (fun e' he => hn e' (by simp [he]))
    simp only [List.cons_append, tmF]
    split
    · rename_i hm
      rw [get_put, if_neg (fun hc => hn e (by simp) hm hc.1)]
      exact ih
    · exact ih

theorem tmF_all {M M' : Nat → Bool} {t : Nat} : ∀ {h : List HE}, (∀ e ∈ h, opDst all e.i = some t → M e.i = M' e.i) → get (tmF n all tm0 M h) t = get (tmF n all tm0 M' h) t
  | [], _ => rfl
  | e :: h, hm => by
    have ih := tmF_all (M := M) (M' := M') (h := h) (fun e' he => hm e' (by simp [he]))
    simp only [tmF]
    by_cases hd : opDst all e.i = some t
    · rw [hm e (by simp) hd]
      cases M' e.i
      · exact ih
      · simp only; rw [get_put, get_put]; split
        · rfl
        · exact ih
    · have h1 : ∀ (b : Bool) (q : TM), get (match b with
        | true => put n q (opDst all e.i) e.r
        | false => q) t = get q t := fun b q => by
        cases b
        · rfl
        · simp only; rw [get_put, if_neg (fun hc => hd hc.1)]
      rw [h1, h1]; exact ih

theorem pw_of {h2 h1 : List HE} {e : HE} (ho : OrdX P X all (hord (h2 ++ e :: h1) ++ plan)) : (∀ e' ∈ h1, PR P X all (e'.i, e'.un) (e.i, e.un)) ∧ (∀ e' ∈ h2, PR P X all (e.i, e.un) (e'.i, e'.un)) := by
  have hp := ho.pw
  rw [hord_app] at hp
  have e1 : hord (e :: h1) = hord h1 ++ [(e.i, e.un)] := by simp [hord]
  rw [e1] at hp
  have hp' : (hord h1 ++ ((e.i, e.un) :: (hord h2 ++ plan))).Pairwise (PR P X all) := by simpa using hp
  rw [List.pairwise_append] at hp'
  obtain ⟨-, h3, h4⟩ := hp'
  rw [List.pairwise_cons] at h3
  refine ⟨fun e' he => h4 _ (mem_hord he) _ (by simp), fun e' he => h3.1 _ ?_⟩
  exact List.mem_append_left _ (mem_hord he)

/-- What an executed operation looks at is in the machine as it was for the run. -/
theorem look_get {h2 h1 : List HE} {e : HE} {o : Oper} {t : Nat} (ho : OrdX P X all (hord (h2 ++ e :: h1) ++ plan)) (hc : Clo X all l) (hoe : all[e.i]? = some o) (hl : l.getD e.i false = false)
    (hdeps : ∀ j, Dep X all j e.i → l.getD j false = true) (ht : t ∈ lks all o) :
    get (tmF n all tm0 (fun i => l.getD i false) (h2 ++ e :: h1)) t = get (tmF n all tm0 (fun _ => true) h1) t := by
  obtain ⟨p1, p2⟩ := pw_of ho
  have s1 : get (tmF n all tm0 (fun i => l.getD i false) (h2 ++ e :: h1)) t = get (tmF n all tm0 (fun i => l.getD i false) (e :: h1)) t := by
    refine tmF_skip fun e' he hm hd => ?_
    obtain ⟨o', ho', hd'⟩ := Option.bind_eq_some_iff.1 hd
    have := (p2 e' he).sh o o' hoe ho' (.inr ⟨t, hd', ht⟩)
    have := hc.dep this hm
    rw [hl] at this; cases this
  rw [s1]
  have s2 : tmF n all tm0 (fun i => l.getD i false) (e :: h1) = tmF n all tm0 (fun i => l.getD i false) h1 := by
    simp only [tmF, hl]
  rw [s2]
  refine tmF_all fun e' he hd => ?_
  obtain ⟨o', ho', hd'⟩ := Option.bind_eq_some_iff.1 hd
  exact hdeps _ ((p1 e' he).sh o' o ho' hoe (.inl ⟨t, hd', .inl ht⟩))

/-- The slots behind one more operation that the machine does. -/
theorem tmF_done {β : Env} {h2 h1 : List HE} {e : HE} {o : Oper} {tmps : Array Value} {y : Value} (ho : OrdX P X all (hord (h2 ++ e :: h1) ++ plan)) (hc : Clo X all l) (hs : l.size = all.size) (hoe : all[e.i]? = some o) (hl : l.getD e.i false = false)
    (htm : TmOk β n (tmF n all tm0 (fun i => l.getD i false) (h2 ++ e :: h1)) tmps) (hy : Den β e.r y) :
    TmOk β n (tmF n all tm0 (fun i => (l.setIfInBounds e.i true).getD i false) (h2 ++ e :: h1)) (match o.dst with
      | some d => tmps.setIfInBounds d y
      | none => tmps) := by
  obtain ⟨p1, p2⟩ := pw_of ho
  have hlt : e.i < all.size := (Array.getElem?_eq_some_iff.1 hoe).1
  have hne : ∀ j, j ≠ e.i → (l.setIfInBounds e.i true).getD j false = l.getD j false := fun j hj => by
    simp [Array.getElem?_setIfInBounds_ne (Ne.symm hj)]
  have hse : (l.setIfInBounds e.i true).getD e.i false = true := by simp [hs, hlt]
  have hdst : opDst all e.i = o.dst := by simp [opDst, hoe]
  have other : ∀ e' ∈ h2 ++ h1, e'.i ≠ e.i := fun e' he' => by
    rcases List.mem_append.1 he' with h | h
    · exact fun eq => (p2 e' h).ne eq.symm
    · exact (p1 e' h).ne
  -- slots that it does not write
  have keep : ∀ s, o.dst ≠ some s → get (tmF n all tm0 (fun i => (l.setIfInBounds e.i true).getD i false) (h2 ++ e :: h1)) s = get (tmF n all tm0 (fun i => l.getD i false) (h2 ++ e :: h1)) s := by
    intro s hsn
    refine tmF_all fun e' he hd => ?_
    by_cases eq : e'.i = e.i
    · rw [eq, hdst] at hd; exact absurd hd hsn
    · exact hne _ eq
  have size : (match o.dst with
      | some d => tmps.setIfInBounds d y
      | none => tmps).size = n := by cases o.dst <;> simp [htm.1]
  refine ⟨size, fun s => ?_⟩
  by_cases hsd : o.dst = some s
  · by_cases hsn : s < n
    · have hg : get (tmF n all tm0 (fun i => (l.setIfInBounds e.i true).getD i false) (h2 ++ e :: h1)) s = e.r := by
        have s1 : get (tmF n all tm0 (fun i => (l.setIfInBounds e.i true).getD i false) (h2 ++ e :: h1)) s = get (tmF n all tm0 (fun i => (l.setIfInBounds e.i true).getD i false) (e :: h1)) s := by
          refine tmF_skip fun e' he hm hd => ?_
          obtain ⟨o', ho', hd'⟩ := Option.bind_eq_some_iff.1 hd
          have hdep := (p2 e' he).sh o o' hoe ho' (.inl ⟨s, hsd, .inr hd'⟩)
          rw [hne _ (other e' (by simp [he]))] at hm
          have := hc.dep hdep hm
          rw [hl] at this; cases this
        rw [s1]
        simp only [tmF, hse]
        rw [get_put, if_pos ⟨by rw [hdst, hsd], hsn⟩]
      rw [hg, hsd]
      simp only
      rw [Array.getD_eq_getD_getElem?, Array.getElem?_setIfInBounds_self_of_lt (by rw [htm.1]; exact hsn)]
      exact hy
    · -- beyond the slots
      have hg : get (tmF n all tm0 (fun i => (l.setIfInBounds e.i true).getD i false) (h2 ++ e :: h1)) s = get (tmF n all tm0 (fun i => l.getD i false) (h2 ++ e :: h1)) s := by
        have gen : ∀ (M M' : Nat → Bool) (h : List HE), get (tmF n all tm0 M h) s = get (tmF n all tm0 M' h) s := by
          intro M M' h
          induction h with
          | nil => rfl
          | cons a h ih =>
            have h1 : ∀ (b : Bool) (q : TM), get (match b with
              | true => put n q (opDst all a.i) a.r
              | false => q) s = get q s := fun b q => by
              cases b
              · rfl
              · simp only; rw [get_put, if_neg (fun hc => hsn hc.2)]
            simp only [tmF]
            rw [h1, h1]; exact ih
        exact gen _ _ _
      rw [hg, hsd]
      simp only
      have e1 : tmps.setIfInBounds s y = tmps := by simp [Array.setIfInBounds, htm.1, hsn]
      rw [e1]
      exact htm.2 s
  · rw [keep s hsd]
    have e1 : (match o.dst with
      | some d => tmps.setIfInBounds d y
      | none => tmps).getD s undef = tmps.getD s undef := by
      cases hd : o.dst with
      | none => rfl
      | some d =>
        have : d ≠ s := fun e => hsd (by rw [hd, e])
        simp only
        rw [Array.getD_eq_getD_getElem?, Array.getElem?_setIfInBounds_ne this, ← Array.getD_eq_getD_getElem?]
    rw [e1]
    exact htm.2 s

theorem getD_listed {i j : Nat} (h : l.getD j false = true) : (l.setIfInBounds i true).getD j false = true := getD_set_true h

theorem ready_aft {i : Nat} (hr : i ∈ Region.ready .any all l) (hx : ∀ k, (k, i) ∈ X → l.getD k false = true) : ∀ k, aft X all i k → l.getD k false = true := by
  obtain ⟨h1, o, ho, hall⟩ := mem_ready.1 hr
  rintro k (⟨o', ho', ha⟩ | ha)
  · rw [ho] at ho'
    obtain rfl := Option.some.inj ho'
    obtain ⟨e, he, hb, rfl⟩ := ha
    exact hall e he hb
  · exact hx k ha

theorem Clo.set {i : Nat} (hc : Clo X all l) (hs : l.size = all.size) (hr : i ∈ Region.ready .any all l) (hx : ∀ k, (k, i) ∈ X → l.getD k false = true) : Clo X all (l.setIfInBounds i true) := by
  intro j k hj ha
  by_cases e : i = j
  · subst e
    exact getD_set_true (ready_aft hr hx k ha)
  · have : l.getD j false = true := by simpa [Array.getElem?_setIfInBounds_ne e] using hj
    exact getD_set_true (hc j k this ha)

theorem ready_deps {i : Nat} (hc : Clo X all l) (hr : i ∈ Region.ready .any all l) (hx : ∀ k, (k, i) ∈ X → l.getD k false = true) : ∀ j, Dep X all j i → l.getD j false = true := by
  intro j hd
  cases hd with
  | one ha => exact ready_aft hr hx j ha
  | step ha hd => exact hc.dep hd (ready_aft hr hx _ ha)

theorem ready_not {i : Nat} (hs : l.size = all.size) (hr : i ∈ Region.ready .any all l) : l.getD i false = false ∧ i < all.size := by
  obtain ⟨h1, o, ho, -⟩ := mem_ready.1 hr
  have hlt : i < all.size := (Array.getElem?_eq_some_iff.1 ho).1
  refine ⟨?_, hlt⟩
  have : i < l.size := by omega
  simpa [this] using h1

/-- Where nothing is ready everything is done. -/
theorem all_done {pl : Plan} (ho : OrdX P X all pl) (hs : l.size = all.size) (hr : Region.ready .any all l = []) : ∀ a ∈ pl, l.getD a.1 false = true := by
  have key : ∀ (l2 l1 : Plan), pl = l1 ++ l2 → (∀ a ∈ l1, l.getD a.1 false = true) → ∀ a ∈ l2, l.getD a.1 false = true := by
    intro l2
    induction l2 with
    | nil => intro l1 _ _ a ha; cases ha
    | cons x l2 ih =>
      intro l1 he hl1
      have hx : l.getD x.1 false = true := by
        apply Decidable.byContradiction
        intro hn
        have hlt := ho.ib x (by rw [he]; simp)
        have hxr : x.1 ∈ Region.ready .any all l := by
          refine mem_ready.2 ⟨?_, all[x.1], Array.getElem?_eq_getElem hlt, fun e he' hb => ?_⟩
          · have : x.1 < l.size := by omega
            simpa [this] using hn
          · obtain ⟨b, hb1, hb2⟩ := ho.dp l1 x l2 he e.on (.inl ⟨_, Array.getElem?_eq_getElem hlt, e, he', hb, rfl⟩)
            rw [← hb2]; exact hl1 b hb1
        rw [hr] at hxr; cases hxr
      intro a ha
      rcases List.mem_cons.1 ha with rfl | ha
      · exact hx
      · exact ih (l1 ++ [x]) (by rw [he]; simp) (fun b hb => by
          rcases List.mem_append.1 hb with h | h
          · exact hl1 b h
          · rw [List.mem_singleton.1 h]; exact hx) a ha
  exact key pl [] rfl (fun a ha => by cases ha)

end

/-! ### of two that no edge orders one is drawn first -/
theorem Sched.pair {all : Array Oper} {X : Pairs} {a b : Nat} {l : Array Bool} {L : List Nat} (hl : l.getD a false = true) (h : Sched X all l L) : Sched ((a, b) :: X) all l L := by
  induction h with
  | nil hr => exact .nil hr
  | cons hr hx _ ih =>
    refine .cons hr (fun k hk => ?_) (ih (getD_listed hl))
    rcases List.mem_cons.1 hk with e | hk
    · obtain ⟨rfl, rfl⟩ := Prod.mk.inj e
      exact hl
    · exact hx k hk

theorem Sched.either {all : Array Oper} {X : Pairs} {a b : Nat} (hab : a ≠ b) {l : Array Bool} {L : List Nat} (hs : l.size = all.size) (h : Sched X all l L) : l.getD a false = false → l.getD b false = false → Sched ((a, b) :: X) all l L ∨ Sched ((b, a) :: X) all l L := by
  induction h with
  | nil hr => exact fun _ _ => .inl (.nil hr)
  | @cons l i L hr hx hL ih =>
    intro ha hb
    have hlt := (ready_not hs hr).2
    have set_i : (l.setIfInBounds i true).getD i false = true := by simp [hs, hlt]
    have set_n : ∀ j, j ≠ i → (l.setIfInBounds i true).getD j false = l.getD j false := fun j hj => by simp [Array.getElem?_setIfInBounds_ne (Ne.symm hj)]
    by_cases e1 : i = a
    · subst e1
      refine .inl (.cons hr (fun k hk => ?_) (hL.pair set_i))
      rcases List.mem_cons.1 hk with e | hk
      · exact absurd (Prod.mk.inj e).2 hab
      · exact hx k hk
    · by_cases e2 : i = b
      · subst e2
        refine .inr (.cons hr (fun k hk => ?_) (hL.pair set_i))
        rcases List.mem_cons.1 hk with e | hk
        · exact absurd (Prod.mk.inj e).2 (Ne.symm hab)
        · exact hx k hk
      · rcases ih (by simpa using hs) (by rw [set_n _ (Ne.symm e1)]; exact ha) (by rw [set_n _ (Ne.symm e2)]; exact hb) with h | h
        · refine .inl (.cons hr (fun k hk => ?_) h)
          rcases List.mem_cons.1 hk with e | hk
          · exact absurd (Prod.mk.inj e).2 e2
          · exact hx k hk
        · refine .inr (.cons hr (fun k hk => ?_) h)
          rcases List.mem_cons.1 hk with e | hk
          · exact absurd (Prod.mk.inj e).2 e1
          · exact hx k hk

end Go.SY
