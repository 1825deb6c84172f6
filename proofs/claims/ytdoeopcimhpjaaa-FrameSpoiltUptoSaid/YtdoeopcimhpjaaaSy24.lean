/-
  The symbolic machine: plans looked over; runs that are closed.
-/
import Derived.Test.YtdoeopcimhpjaaaSy23
import Derived.Below
set_option linter.unusedSimpArgs false
set_option linter.unusedVariables false
namespace Go.SY
open Go Go.RowKit

/-! ### plans -/
def afts (o : Oper) : List Nat := (o.after.toList.filter fun e => Region.binds .any e).map (·.on)

theorem mem_afts {o : Oper} {j : Nat} : after1 o j ↔ j ∈ afts o := by
  unfold after1 afts
  constructor
  · rintro ⟨e, he, hb, rfl⟩
    exact List.mem_map.2 ⟨e, List.mem_filter.2 ⟨by simpa using he, hb⟩, rfl⟩
  · intro h
    obtain ⟨e, he, rfl⟩ := List.mem_map.1 h
    obtain ⟨h1, h2⟩ := List.mem_filter.1 he
    exact ⟨e, by simpa using h1, h2, rfl⟩

def mlook : List (Nat × Nat) → Nat → Nat
  | [], _ => 0
  | (k, m) :: r, i => if k = i then m else mlook r i

def mfold (T : List (Nat × Nat)) : List Nat → Nat
  | [] => 0
  | j :: r => (2 ^ j) ||| (mlook T j ||| mfold T r)

def share (all : Array Oper) (oa ob : Oper) : Bool := (match oa.dst with
  | some t => (lks all ob).contains t || (match ob.dst with
    | some u => Nat.beq u t
    | none => false)
  | none => false) || (match ob.dst with
  | some t => (lks all oa).contains t
  | none => false)

def prB (P : Program) (all : Array Oper) (m i : Nat) (un : List Nat) (o : Oper) : List (Nat × Oper) → Bool
  | [] => true
  | (j, oj) :: r => (m.testBit j || (!share all oj o && (match cls P oj.op with
      | .pure => true
      | .load => (match cls P o.op with
        | .eff => un.contains j
        | _ => true)
      | .eff => false))) && (!Nat.beq j i && prB P all m i un o r)

def okOp (o : Oper) : Bool := match o.op with
  | .select _ _ => false
  | .defer _ => false
  | _ => true

/-- What must be ahead of an operation: by its edges; as it was drawn. -/
def prevs (X : Pairs) (i : Nat) : List Nat := match X with
  | [] => []
  | (k, j) :: r => if j = i then k :: prevs r i else prevs r i
def aftsX (X : Pairs) (i : Nat) (o : Oper) : List Nat := match X with
  | [] => afts o
  | X => afts o ++ prevs X i
theorem mem_prevs {i k : Nat} : ∀ {X : Pairs}, k ∈ prevs X i ↔ (k, i) ∈ X
  | [] => by simp [prevs]
  | (a, b) :: r => by
    simp only [prevs]
    split
    · rename_i e
      subst e
      simp [mem_prevs (X := r)]
    · rename_i e
      rw [mem_prevs (X := r)]
      simp [Ne.symm e]
theorem mem_aftsX {X : Pairs} {all : Array Oper} {i j : Nat} {o : Oper} (ho : all[i]? = some o) : aft X all i j ↔ j ∈ aftsX X i o := by
  have h1 : aft X all i j ↔ j ∈ afts o ++ prevs X i := by
    rw [List.mem_append, mem_prevs, ← mem_afts]
    unfold aft
    rw [ho]
    simp
  rw [h1]
  unfold aftsX
  split
  · simp [prevs]
  · rfl

def ordGo (P : Program) (X : Pairs) (all : Array Oper) : List (Nat × Oper) → List (Nat × Nat) → Nat → Plan → Bool
  | _, _, _, [] => true
  | E, T, s, (i, un) :: r => (match nth all.toList i with
    | none => false
    | some o => (aftsX X i o).all (fun j => s.testBit j) && (prB P all (mfold T (aftsX X i o)) i un o E && (okOp o && ordGo P X all ((i, o) :: E) ((i, mfold T (aftsX X i o)) :: T) (s ||| 2 ^ i) r)))

def ordXB (P : Program) (X : Pairs) (all : Array Oper) (p : Plan) : Bool := ordGo P X all [] [] 0 p && (List.range all.size).all fun i => p.any fun a => Nat.beq a.1 i

theorem testBit_or_pow {s i j : Nat} (h : (s ||| 2 ^ i).testBit j = true) : s.testBit j = true ∨ j = i := by
  rw [Nat.testBit_or, Bool.or_eq_true] at h
  rcases h with h | h
  · exact .inl h
  · rw [Nat.testBit_two_pow] at h
    exact .inr (by simpa using (of_decide_eq_true h).symm)

theorem mfold_dep {X : Pairs} {all : Array Oper} {T : List (Nat × Nat)} {i : Nat} (hT : ∀ j k, (mlook T j).testBit k = true → Dep X all k j) : ∀ {l : List Nat} {k : Nat}, (∀ j ∈ l, aft X all i j) → (mfold T l).testBit k = true → Dep X all k i
  | [], k, _, h => by simp [mfold] at h
  | j :: l, k, hl, h => by
    simp only [mfold, Nat.testBit_or, Bool.or_eq_true] at h
    rcases h with h | h | h
    · rw [Nat.testBit_two_pow] at h
      obtain rfl : j = k := of_decide_eq_true h
      exact .one (hl j (by simp))
    · exact .step (hl j (by simp)) (hT _ _ h)
    · exact mfold_dep hT (fun j' hj' => hl j' (by simp [hj'])) h

theorem share_of {all : Array Oper} {oa ob : Oper} (h : (∃ t, oa.dst = some t ∧ (t ∈ lks all ob ∨ ob.dst = some t)) ∨ (∃ t, ob.dst = some t ∧ t ∈ lks all oa)) : share all oa ob = true := by
  unfold share
  rw [Bool.or_eq_true]
  rcases h with ⟨t, h1, h2⟩ | ⟨t, h1, h2⟩
  · left
    rw [h1]
    simp only [Bool.or_eq_true]
    rcases h2 with h2 | h2
    · exact .inl (List.contains_iff_mem.2 h2)
    · right; rw [h2]; simp
  · right
    rw [h1]
    exact List.contains_iff_mem.2 h2

theorem prB_ok {P : Program} {X : Pairs} {all : Array Oper} {m i : Nat} {un : List Nat} {o : Oper} (ho : all[i]? = some o) (hm : ∀ k, m.testBit k = true → Dep X all k i) : ∀ {E : List (Nat × Oper)}, prB P all m i un o E = true → ∀ j oj, (j, oj) ∈ E → all[j]? = some oj → ∀ unj, PR P X all (j, unj) (i, un)
  | [], _, _, _, hmem, _, _ => by cases hmem
  | (j, oj) :: E, h, j', oj', hmem, hj, unj => by
    simp only [prB, Bool.and_eq_true] at h
    obtain ⟨h1, h2, h3⟩ := h
    rcases List.mem_cons.1 hmem with e | hmem
    · simp only [Prod.mk.injEq] at e
      obtain ⟨rfl, rfl⟩ := e
      have hne : j' ≠ i := fun e => by subst e; simp at h2
      rw [Bool.or_eq_true] at h1
      rcases h1 with h1 | h1
      · have hd := hm _ h1
        exact ⟨fun _ _ _ _ _ => hd, fun _ _ _ => hd, fun _ _ _ _ _ _ => .inl hd, hne⟩
      · rw [Bool.and_eq_true] at h1
        obtain ⟨hs, hc⟩ := h1
        simp only [Bool.not_eq_true'] at hs
        refine ⟨fun oa ob ha hb hsh => ?_, fun oa ha hcl => ?_, fun oa ob ha hb hca hcb => ?_, hne⟩
        · rw [hj] at ha; rw [ho] at hb
          obtain rfl := Option.some.inj ha
          obtain rfl := Option.some.inj hb
          have := share_of hsh
          rw [hs] at this; cases this
        · rw [hj] at ha
          obtain rfl := Option.some.inj ha
          rw [hcl] at hc; cases hc
        · rw [hj] at ha; rw [ho] at hb
          obtain rfl := Option.some.inj ha
          obtain rfl := Option.some.inj hb
          rw [hca, hcb] at hc
          exact .inr (List.contains_iff_mem.1 hc)
    · exact prB_ok ho hm h3 j' oj' hmem hj unj

theorem ordGo_ok {P : Program} {X : Pairs} {all : Array Oper} : ∀ {r : Plan} {E : List (Nat × Oper)} {T : List (Nat × Nat)} {s : Nat} {l1 : Plan}, (∀ a ∈ l1, ∃ oa, all[a.1]? = some oa ∧ (a.1, oa) ∈ E) → (∀ j k, (mlook T j).testBit k = true → Dep X all k j) →
    (∀ j, s.testBit j = true → ∃ b ∈ l1, b.1 = j) → ordGo P X all E T s r = true →
    r.Pairwise (PR P X all) ∧ (∀ a ∈ l1, ∀ b ∈ r, PR P X all a b) ∧ (∀ l2 a l3, r = l2 ++ a :: l3 → ∀ j, aft X all a.1 j → ∃ b ∈ l1 ++ l2, b.1 = j) ∧ ∀ a ∈ r, ∃ o, all[a.1]? = some o ∧ okOp o = true
  | [], _, _, _, _, _, _, _, _ => ⟨.nil, (fun _ _ _ h => by cases h), (fun l2 a l3 h => by simp at h), (fun _ h => by cases h)⟩
  | (i, un) :: r, E, T, s, l1, hE, hT, hs, h => by
    simp only [ordGo] at h
    split at h
    · cases h
    · rename_i o ho
      rw [nth_eq] at ho
      have ho' : all[i]? = some o := by simpa using ho
      simp only [Bool.and_eq_true] at h
      obtain ⟨h1, h2, h3, h4⟩ := h
      have hm : ∀ k, (mfold T (aftsX X i o)).testBit k = true → Dep X all k i := fun k hk => mfold_dep hT (fun j hj => (mem_aftsX ho').2 hj) hk
      have hnew : ∀ a ∈ l1, PR P X all a (i, un) := fun a ha => by
        obtain ⟨oa, h5, h6⟩ := hE a ha
        exact prB_ok ho' hm h2 a.1 oa h6 h5 a.2
      have ih := ordGo_ok (r := r) (E := (i, o) :: E) (T := (i, mfold T (aftsX X i o)) :: T) (s := s ||| 2 ^ i) (l1 := l1 ++ [(i, un)]) (fun a ha => by
          rcases List.mem_append.1 ha with ha | ha
          · obtain ⟨oa, h5, h6⟩ := hE a ha; exact ⟨oa, h5, List.mem_cons_of_mem _ h6⟩
          · obtain rfl := List.mem_singleton.1 ha
            exact ⟨o, ho', List.mem_cons_self⟩) (fun j k hk => by
          simp only [mlook] at hk
          split at hk
          · rename_i e; subst e; exact hm k hk
          · exact hT j k hk) (fun j hj => by
          rcases testBit_or_pow hj with hj | rfl
          · obtain ⟨b, h5, h6⟩ := hs j hj; exact ⟨b, List.mem_append_left _ h5, h6⟩
          · exact ⟨(j, un), by simp, rfl⟩) h4
      obtain ⟨g1, g2, g3, g4⟩ := ih
      refine ⟨List.pairwise_cons.2 ⟨fun b hb => g2 _ (by simp) b hb, g1⟩, fun a ha b hb => ?_, fun l2 a l3 he j hj => ?_, fun a ha => ?_⟩
      · rcases List.mem_cons.1 hb with rfl | hb
        · exact hnew a ha
        · exact g2 a (by simp [ha]) b hb
      · cases l2 with
        | nil =>
          simp only [List.nil_append, List.cons.injEq] at he
          obtain ⟨rfl, rfl⟩ := he
          have := List.all_eq_true.1 h1 j ((mem_aftsX ho').1 hj)
          obtain ⟨b, h5, h6⟩ := hs j this
          exact ⟨b, by simpa using h5, h6⟩
        | cons x l2 =>
          simp only [List.cons_append, List.cons.injEq] at he
          obtain ⟨rfl, he⟩ := he
          obtain ⟨b, h5, h6⟩ := g3 l2 a l3 he j hj
          exact ⟨b, by simpa using h5, h6⟩
      · rcases List.mem_cons.1 ha with rfl | ha
        · exact ⟨o, ho', h3⟩
        · exact g4 a ha

theorem ordXB_ok {P : Program} {X : Pairs} {all : Array Oper} {p : Plan} (h : ordXB P X all p = true) : OrdX P X all p := by
  unfold ordXB at h
  rw [Bool.and_eq_true] at h
  obtain ⟨h1, h2, h3, h4⟩ := ordGo_ok (l1 := []) (fun _ h => by cases h) (fun _ _ h => by simp [mlook] at h) (fun _ h => by simp at h) h.1
  have hcm : ∀ i, i < all.size → ∃ a ∈ p, a.1 = i := fun i hi => by
    have := List.all_eq_true.1 h.2 i (List.mem_range.2 hi)
    obtain ⟨a, ha, he⟩ := List.any_eq_true.1 this
    exact ⟨a, ha, by simpa using he⟩
  refine ⟨h1, fun l1 a l2 he j hj => ?_, hcm, fun a ha => ?_, fun i o ho => ?_⟩
  · simpa using h3 l1 a l2 he j hj
  · obtain ⟨o, ho, -⟩ := h4 a ha
    exact (Array.getElem?_eq_some_iff.1 ho).1
  · obtain ⟨a, ha, rfl⟩ := hcm i (Array.getElem?_eq_some_iff.1 ho).1
    obtain ⟨o', ho', hok⟩ := h4 a ha
    rw [ho] at ho'
    obtain rfl := Option.some.inj ho'
    refine ⟨fun cs b e => ?_, fun c e => ?_⟩ <;> simp [okOp, e] at hok

def ordB (P : Program) (all : Array Oper) (p : Plan) : Bool := ordXB P [] all p
theorem ordB_ok {P : Program} {all : Array Oper} {p : Plan} (h : ordB P all p = true) : Ord P all p := ordXB_ok h

/-- Code looked over. -/
def ckB (P : Program) (g : Nat → Option Plan) : Code → Bool
  | .seq x y => ckB P g x && ckB P g y
  | .block _ c => ckB P g c
  | .scope c => ckB P g c
  | .loop c => ckB P g c
  | .cond _ x y => ckB P g x && ckB P g y
  | .rangeFunc _ _ a b => ckB P g a && ckB P g b
  | .region id all draw => (match draw with
    | true => (match g id with
      | some p => ordB P all p
      | none => true)
    | false => true)
  | _ => true

theorem ckB_ok {P : Program} {pl : FuncId → Nat → Option Plan} {fn : FuncId} : ∀ {c : Code}, ckB P (pl fn) c = true → Ck P pl fn c := by
  intro c
  induction c with
  | seq a b iha ihb => intro h; simp only [ckB, Bool.and_eq_true] at h; exact ⟨iha h.1, ihb h.2⟩
  | cond _ a b iha ihb => intro h; simp only [ckB, Bool.and_eq_true] at h; exact ⟨iha h.1, ihb h.2⟩
  | rangeFunc _ _ a b iha ihb => intro h; simp only [ckB, Bool.and_eq_true] at h; exact ⟨iha h.1, ihb h.2⟩
  | block _ c ih => intro h; exact ih (by simpa [ckB] using h)
  | scope c ih => intro h; exact ih (by simpa [ckB] using h)
  | loop c ih => intro h; exact ih (by simpa [ckB] using h)
  | region id all draw =>
    intro h hd p hp
    subst hd
    simp only [ckB, hp] at h
    exact ordB_ok h
  | _ => intro _; trivial

theorem ck_none {P : Program} {pl : FuncId → Nat → Option Plan} {fn : FuncId} (hn : ∀ id, pl fn id = none) : ∀ c : Code, Ck P pl fn c := by
  intro c
  induction c with
  | seq a b iha ihb => exact ⟨iha, ihb⟩
  | cond _ a b iha ihb => exact ⟨iha, ihb⟩
  | rangeFunc _ _ a b iha ihb => exact ⟨iha, ihb⟩
  | block _ c ih => exact ih
  | scope c ih => exact ih
  | loop c ih => exact ih
  | region id all draw => intro _ p hp; rw [hn] at hp; cases hp
  | _ => trivial

/-- Plans, function by function. -/
abbrev Pls := List (Nat × List (Nat × Plan))

def plk : List (Nat × Plan) → Nat → Option Plan
  | [], _ => none
  | (k, p) :: r, i => if k = i then some p else plk r i

def plt : Pls → FuncId → List (Nat × Plan)
  | [], _ => []
  | (k, p) :: r, f => if k = f then p else plt r f

def plOf (T : Pls) (f : FuncId) (id : Nat) : Option Plan := plk (plt T f) id

def plsB (P : Program) (T : Pls) : Bool := T.all fun (f, _) => match fi P f with
  | some F => ckB P (plk (plt T f)) F.body
  | none => true

theorem plt_nil : ∀ {T : Pls} {f : FuncId}, (∀ x ∈ T, x.1 ≠ f) → plt T f = []
  | [], _, _ => rfl
  | (k, p) :: r, f, h => by
    have h1 := h (k, p) (by simp)
    simp only at h1
    rw [plt, if_neg h1]
    exact plt_nil fun x hx => h x (by simp [hx])

theorem plsB_ok {P : Program} {T : Pls} (h : plsB P T = true) (hm : P.follows .mixedOrders = true) : PlOk P (plOf T) := by
  refine ⟨fun f F hF => ?_, hm⟩
  by_cases hex : ∃ x ∈ T, x.1 = f
  · obtain ⟨x, hx, rfl⟩ := hex
    have := List.all_eq_true.1 h x hx
    obtain ⟨k, p⟩ := x
    simp only [hF] at this
    exact ckB_ok this
  · have hn := plt_nil (T := T) (f := f) fun x hx e => hex ⟨x, hx, e⟩
    exact ck_none (fun id => by simp [plOf, hn, plk]) F.body

/-! ### closed runs -/
/-- Each slot once. -/
def dd (s : Nat) : TM → TM
  | [] => []
  | (d, x) :: r => (match s.testBit d with
    | true => dd s r
    | false => (d, x) :: dd (s ||| 2 ^ d) r)

theorem get_dd : ∀ {tm : TM} {s t : Nat}, s.testBit t = false → get (dd s tm) t = get tm t
  | [], _, _, _ => rfl
  | (d, x) :: r, s, t, h => by
    simp only [dd]
    split
    · rename_i hd
      rw [get_dd h]
      simp only [get]
      rw [if_neg (fun e => by subst e; rw [h] at hd; cases hd)]
    · simp only [get]
      split
      · rfl
      · rename_i hne
        refine get_dd ?_
        rw [Nat.testBit_or, h, Nat.testBit_two_pow]
        simpa using hne

theorem imp_dd (tm : TM) : Imp tm (dd 0 tm) := fun β s v h => by rw [get_dd (by simp)]; exact h

def isLp : List SI → Bool
  | .lp _ :: _ => true
  | _ => false

def clean (c : Conf) : Conf := match c with
  | ⟨⟨fn, n, tm, k, rd, ms, lk⟩ :: fs, bl⟩ => (match isLp k with
    | true => ⟨⟨fn, n, dd 0 tm, k, rd, ms, lk⟩ :: fs, bl⟩
    | false => c)
  | _ => c

theorem clean_to (P : Program) (pl : FuncId → Nat → Option Plan) (C : Ctx) (c : Conf) : To P pl C c (clean c) := by
  have self : To P pl C c c := fun β m h => ⟨β, m, .refl _ _, h⟩
  obtain ⟨fs, bl⟩ := c
  cases fs with
  | nil => exact self
  | cons f fs =>
    obtain ⟨fn, n, tm, k, rd, ms, lk⟩ := f
    simp only [clean]
    cases hk : isLp k with
    | false => exact self
    | true =>
      cases k with
      | nil => cases hk
      | cons x k =>
        cases x with
        | lp c =>
          refine to_self rfl rfl fun β fr hf hck => ?_
          obtain ⟨tmps, ds, y, t, ro, rfl, g1, g2, g3, g4, g5⟩ := hf.plain (by simp) (by simp)
          exact ⟨tmps, ds, _, ro, rfl, g1, g2, todo_of ((imp_dd tm).tm g3) ⟨y, t, rfl, g4, g5⟩⟩
        | _ => cases hk

def runK (P : Program) (K : KT) (pl : FuncId → Nat → Option Plan) : Nat → Conf → Option (AV × Bls)
  | 0, _ => none
  | n + 1, c => (match stp P K pl true (clean c) with
    | .next vc c' => (match vc with
      | true => runK P K pl n c'
      | false => none)
    | .split b c1 c2 => (match b with
      | true => runK P K pl n c1
      | false => runK P K pl n c2)
    | .fin vc r bl => (match vc with
      | true => some (r, bl)
      | false => none)
    | .stop => none)

theorem runK_ok {P : Program} {K : KT} {pl : FuncId → Nat → Option Plan} (hpl : PlOk P pl) (hK : KOk P pl K) {C : Ctx} {S : AV → Bls → Prop} {r : AV} {bl : Bls} (hS : S r bl) : ∀ {n : Nat} {c : Conf}, runK P K pl n c = some (r, bl) → Rch P pl C c S
  | 0, _, h => by simp [runK] at h
  | n + 1, c, h => by
    have hok := stp_ok (C := C) hpl hK true (clean c)
    refine (clean_to P pl C c).rch ?_
    simp only [runK] at h
    split at h
    · rename_i vc c' e
      rw [e] at hok
      split at h
      · exact (hok rfl).rch (runK_ok hpl hK hS h)
      · cases h
    · rename_i b c1 c2 e
      rw [e] at hok
      split at h
      · exact (hok.1 rfl).rch (runK_ok hpl hK hS h)
      · exact (hok.2 rfl).rch (runK_ok hpl hK hS h)
    · rename_i vc r' bl' e
      rw [e] at hok
      split at h
      · simp only [Option.some.injEq, Prod.mk.injEq] at h
        obtain ⟨rfl, rfl⟩ := h
        exact hok rfl S hS
      · cases h
    · cases h

/-- A run's beginning. -/
def conf0 (f : FuncId) (F : FI) (args : List AV) (bl : Bls) : Conf := ⟨[⟨f, F.n, ini 0 args, [.code F.body], none, [], []⟩], bl⟩

theorem rch_calls {P : Program} {pl : FuncId → Nat → Option Plan} (hpl : PlOk P pl) {f : FuncId} {F : FI} {args : List AV} {bl : Bls} {S : AV → Bls → Prop} (hF : fi P f = some F) (hn : args.length ≤ F.n) {β : Env} {w : World} {vs : List Value} (hh : Heap β bl w) (hck : β.ck = Ck P pl) (hd : DenL β args vs)
    (h : ∀ C, Rch P pl C (conf0 f F args bl) S) (cs : List Frame) :
    ∃ v fr β' r bl' w', Steps P (lone (Frame.enter P f vs.toArray .normal) cs w) (lone fr cs w') ∧ fr.fn = f ∧ fr.leaving P w' (.returned v) ∧ Den β' r v ∧ Ext β bl w β' bl' w' ∧ S r bl' := by
  have := h ⟨β, bl, w, cs, f⟩ β (lone (Frame.enter P f vs.toArray .normal) cs w) ⟨⟨_, [], _, [], w, rfl, rfl, enter_ok hF (hpl.ck f F hF) hck hd hn, rfl, .refl hh⟩, rfl, hck⟩
  exact this

/-- What a closed run comes to. -/
def runF (P : Program) (T : Pls) (n : Nat) (f : FuncId) : Option Bool := match fi P f with
  | some F => (match runK P (fun _ => none) (plOf T) n (conf0 f F [] []) with
    | some (.v (.bool b), _) => some b
    | _ => none)
  | none => none

/-- A law without inputs. -/
theorem closed_law {P : Program} {T : Pls} (hT : plsB P T = true) (hm : P.follows .mixedOrders = true) {f : FuncId} {n : Nat} (h : runF P T n f = some true) (w : World) :
    Calls P f #[] w fun e w' => e = .returned (.bool true) ∧ Below w.heap.size w w' := by
  unfold runF at h
  split at h
  · rename_i F hF
    split at h
    · rename_i b bl hr
      obtain rfl := Option.some.inj h
      intro cs
      have hpl := plsB_ok hT hm
      obtain ⟨v, fr, β', r, bl', w', h1, h2, h3, h4, h5, rfl⟩ := rch_calls (S := fun r _ => r = .v (.bool true)) hpl hF (Nat.zero_le _) (β := ⟨[], fun _ => none, fun _ => none, Ck P (plOf T)⟩) (bl := []) (w := w) (vs := [])
        ⟨rfl, fun l c h => by simp at h, fun l l' c c' b s s' _ h => by simp at h, fun t b cs h => by cases t <;> cases h⟩ rfl (by simp only [DenL]) (fun C => runK_ok hpl (fun g c h => by cases h) rfl hr) cs
      simp only [Den] at h4
      refine ⟨.returned v, w', fr, ⟨by rw [h4.1], ?_⟩, h1, h2, h3⟩
      refine ⟨h5.step.os, h5.step.tape, h5.step.output, h5.step.size, fun b hb => h5.step.kept b hb ?_⟩
      rintro ⟨l, c, s, hl, -⟩
      simp at hl
    · cases h
  · cases h

end Go.SY
