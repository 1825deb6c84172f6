/-
  The symbolic machine: states, what is still to be done, contracts of functions, the rules for blocks, branches, loops and calls.
-/
import Derived.Test.YtconldbakjfbhaaSx1
import Derived.Orders
set_option linter.unusedSimpArgs false
set_option linter.unusedVariables false
namespace Go.SX
open Go

structure St where
  n : Nat
  tm : List (Nat × AV)
  bl : Bls

def get : List (Nat × AV) → Nat → AV
  | [], _ => .any
  | (k, x) :: r, t => if k = t then x else get r t

def put (n : Nat) (tm : List (Nat × AV)) (d : Option Nat) (x : AV) : List (Nat × AV) :=
  match d with
  | none => tm
  | some d => if d < n then (d, x) :: tm else tm

/-- Where a function began: its world, its blocks. -/
structure Ctx where
  w0 : World
  β0 : Env
  bl0 : Bls

def TmOk (β : Env) (n : Nat) (tm : List (Nat × AV)) (a : Act) : Prop :=
  a.tmps.size = n ∧ ∀ s, Den β (get tm s) (a.tmps.getD s undef)

structure Rel (C : Ctx) (st : St) (β : Env) (a : Act) (w : World) : Prop where
  tm : TmOk β st.n st.tm a
  heap : Heap β st.bl w
  env : C.β0 <+: β
  env0 : C.β0.length = C.bl0.length
  own : ∀ b, Owned β st.bl b → Owned C.β0 C.bl0 b ∨ C.w0.heap.size ≤ b
  step : Step (Owned C.β0 C.bl0) C.w0 w
  defers : a.defers = []

theorem TmOk.put {β β' : Env} {n : Nat} {tm : List (Nat × AV)} {a : Act} {d : Option Nat} {x : AV} {y : Value} (h : TmOk β n tm a) (hb : β <+: β') (hx : Den β' x y) :
    TmOk β' n (put n tm d x) (a.put d y) := by
  obtain ⟨hs, ht⟩ := h
  cases d with
  | none => exact ⟨hs, fun s => (ht s).mono hb⟩
  | some d =>
    refine ⟨by simp [Act.put, hs], fun s => ?_⟩
    simp only [Go.SX.put, Act.put]
    by_cases hd : d < n
    · rw [if_pos hd]
      by_cases e : d = s
      · subst e
        simp only [get, if_true]
        rw [Array.getD_eq_getD_getElem?, Array.getElem?_setIfInBounds_self_of_lt (by omega)]
        exact hx
      · simp only [get, if_neg e]
        have := (ht s).mono hb
        rw [Array.getD_eq_getD_getElem?] at this ⊢
        rw [Array.getElem?_setIfInBounds_ne e]
        exact this
    · rw [if_neg hd]
      have := (ht s).mono hb
      have e : a.tmps.setIfInBounds d y = a.tmps := by
        simp [Array.setIfInBounds, hs, hd]
      rw [e]
      exact this

/-- What is still to be done. -/
inductive It where
  | code (c : Code)
  | ops (all : Array Oper) (os : List Oper)
  | blk (id : Nat)
  | fin (I : St → Prop)

def iwp (P : Program) (C : Ctx) : List It → (Exit → Act → World → Prop) → Exit → Act → World → Prop
  | [], Q, e, a, w => Q e a w
  | .code c :: k, Q, e, a, w => match e with
    | .normal => c.wp P (iwp P C k Q) a w
    | e => iwp P C k Q e a w
  | .ops all os :: k, Q, e, a, w => match e with
    | .normal => wpList P all (iwp P C k Q) os a w
    | e => iwp P C k Q e a w
  | .blk id :: k, Q, e, a, w => match e with
    | .exit id' => if id' = id then iwp P C k Q .normal a w else iwp P C k Q (.exit id') a w
    | e => iwp P C k Q e a w
  | .fin I :: k, Q, e, a, w => match e with
    | .normal => ∃ st β, Rel C st β a w ∧ I st
    | e => iwp P C k Q e a w

/-- How a function may end. -/
def Fin (C : Ctx) (R : St → Prop) : Exit → Act → World → Prop
  | .normal, a, w => ∃ st β, Rel C st β a w ∧ R st
  | .ret, a, w => ∃ st β, Rel C st β a w ∧ R st
  | _, _, _ => False

/-- From this symbolic state what is to be done comes to R. -/
def Go (P : Program) (C : Ctx) (k : List It) (st : St) (R : St → Prop) : Prop :=
  ∀ β a w, Rel C st β a w → iwp P C k (Fin C R) .normal a w

section rules
variable {P : Program} {C : Ctx} {k : List It} {st : St} {R : St → Prop}

theorem go_nil (h : R st) : Go P C [] st R := fun β a w hr => ⟨st, β, hr, h⟩

theorem go_seq {x y : Code} (h : Go P C (.code x :: .code y :: k) st R) : Go P C (.code (.seq x y) :: k) st R := fun β a w hr => by
  have := h β a w hr
  simp only [iwp] at this ⊢
  refine wp_seq (wp_mono this fun e a w he => ?_)
  cases e <;> exact he

theorem go_skip (h : Go P C k st R) : Go P C (.code .skip :: k) st R := fun β a w hr => wp_skip (h β a w hr)

theorem go_block {id : Nat} {c : Code} (h : Go P C (.code c :: .blk id :: k) st R) : Go P C (.code (.block id c) :: k) st R := fun β a w hr => by
  have := h β a w hr
  simp only [iwp] at this ⊢
  refine wp_block (wp_mono this fun e a w he => ?_)
  cases e <;> exact he

theorem go_blk {id : Nat} (h : Go P C k st R) : Go P C (.blk id :: k) st R := fun β a w hr => by
  have := h β a w hr
  simpa only [iwp] using this

/-- Where an exit goes. -/
def exitTo : Nat → List It → List It
  | _, [] => []
  | id, .blk id' :: k => if id = id' then k else exitTo id k
  | id, _ :: k => exitTo id k

def hasBlk : Nat → List It → Bool
  | _, [] => false
  | id, .blk id' :: k => if id = id' then true else hasBlk id k
  | id, _ :: k => hasBlk id k

theorem iwp_exit {Q : Exit → Act → World → Prop} {id : Nat} {a : Act} {w : World} : ∀ {k : List It}, hasBlk id k = true → iwp P C (exitTo id k) Q .normal a w → iwp P C k Q (.exit id) a w
  | [], h, _ => by simp [hasBlk] at h
  | .blk id' :: k, h, hh => by
    simp only [exitTo, hasBlk] at h hh
    simp only [iwp]
    by_cases e : id = id'
    · simp only [e, if_true] at hh ⊢; exact hh
    · simp only [e, if_false] at h hh ⊢; exact iwp_exit h hh
  | .code _ :: k, h, hh => by simp only [iwp]; exact iwp_exit (k := k) h hh
  | .ops _ _ :: k, h, hh => by simp only [iwp]; exact iwp_exit (k := k) h hh
  | .fin _ :: k, h, hh => by simp only [iwp]; exact iwp_exit (k := k) h hh

theorem go_exit {id : Nat} (hb : hasBlk id k = true) (h : Go P C (exitTo id k) st R) : Go P C (.code (.exit id) :: k) st R := fun β a w hr =>
  wp_exit (iwp_exit hb (h β a w hr))

theorem iwp_ret {Q : Exit → Act → World → Prop} {a : Act} {w : World} (h : Q .ret a w) : ∀ {k : List It}, iwp P C k Q .ret a w
  | [] => h
  | .blk _ :: k => by simp only [iwp]; exact iwp_ret h
  | .code _ :: k => by simp only [iwp]; exact iwp_ret h
  | .ops _ _ :: k => by simp only [iwp]; exact iwp_ret h
  | .fin _ :: k => by simp only [iwp]; exact iwp_ret h

theorem go_ret (h : R st) : Go P C (.code .ret :: k) st R := fun β a w hr => wp_ret (iwp_ret ⟨st, β, hr, h⟩)

theorem go_fin {I : St → Prop} (h : I st) : Go P C (.fin I :: k) st R := fun β a w hr => ⟨st, β, hr, h⟩

theorem go_ops_nil {all : Array Oper} (h : Go P C k st R) : Go P C (.ops all [] :: k) st R := fun β a w hr => h β a w hr

theorem go_region {id : Nat} {all : Array Oper} (h : Go P C (.ops all all.toList :: k) st R) : Go P C (.code (.region id all false) :: k) st R := fun β a w hr =>
  wp_region_list (h β a w hr)

theorem go_mono {R' : St → Prop} (h : Go P C k st R) (hR : ∀ st, R st → R' st) : Go P C k st R' := by
  have fin : ∀ e a w, Fin C R e a w → Fin C R' e a w := fun e a w h => by
    cases e <;> first | exact h | (obtain ⟨st, β, h1, h2⟩ := h; exact ⟨st, β, h1, hR _ h2⟩)
  have key : ∀ k : List It, ∀ e a w, iwp P C k (Fin C R) e a w → iwp P C k (Fin C R') e a w := by
    intro k
    induction k with
    | nil => exact fin
    | cons x k ih =>
      intro e a w h
      cases x with
      | code c => cases e <;> simp only [iwp] at h ⊢ <;> first | exact ih _ _ _ h | exact wp_mono h ih
      | ops all os =>
        cases e <;> simp only [iwp] at h ⊢ <;> first | exact ih _ _ _ h | skip
        clear fin hR
        induction os generalizing a w with
        | nil => exact ih _ _ _ h
        | cons o os iho =>
          simp only [wpList] at h ⊢
          split
          · rename_i hw
            rw [if_pos hw] at h
            rcases h with h | ⟨h1, a0, w0, h2⟩
            · refine .inl ?_
              unfold Oper.wp at *
              generalize (execOp a.eval o).run P w = r at *
              cases r with
              | ok n w' =>
                cases n <;> simp only [Oper.upon] at h ⊢ <;>
                  first
                    | exact iho _ _ h
                    | exact Calls.mono h (fun e w'' he => by
                        cases e with
                        | returned v => exact iho _ _ he
                        | panicked c => exact ih _ _ _ he
                        | outgrown => obtain ⟨a0, w0, h2⟩ := he; exact ⟨a0, w0, ih _ _ _ h2⟩)
                    | exact Rows.mono h (fun _ _ he => iho _ _ he)
              | halt x w' => cases x <;> simp only [Oper.upon] at h ⊢ <;> first | exact ih _ _ _ h | exact h
            · exact .inr ⟨h1, a0, w0, ih _ _ _ h2⟩
          · rename_i hw
            rw [if_neg hw] at h
            exact iho _ _ h
      | blk id =>
        cases e <;> simp only [iwp] at h ⊢ <;> first | exact ih _ _ _ h | skip
        split <;> rename_i hi
        · rw [if_pos hi] at h; exact ih _ _ _ h
        · rw [if_neg hi] at h; exact ih _ _ _ h
      | fin I => cases e <;> simp only [iwp] at h ⊢ <;> first | exact ih _ _ _ h | exact h
  exact fun β a w hr => key _ _ _ _ (h β a w hr)

/-! ### operands -/
def mk : Value → AV
  | .agg cs => if cs.toList.all one then .ch cs.size cs.toList else .any
  | .tuple _ => .any
  | .slice none 0 0 => .nil
  | x => .v x

theorem den_mk (β : Env) (x : Value) : Den β (mk x) x := by
  unfold mk
  split
  · rename_i cs
    split
    · rename_i h
      simp only [Den, Array.toArray_toList, Array.length_toList, true_and]
      exact fun y hy => (List.all_eq_true.1 h) y hy
    · simp only [Den]
  · simp only [Den]
  · simp only [Den]
  · rename_i h1 h2 h3
    simp only [Den, true_and]
    cases x <;> simp_all [one]

def ev (tm : List (Nat × AV)) : Operand → AV
  | .tmp t => get tm t
  | .const x => mk x
  | .global g => .v (.pointer (some ⟨g, 0, none⟩))
  | .func f => .fn f [] []

theorem den_ev {β : Env} {n : Nat} {tm : List (Nat × AV)} {a : Act} (h : TmOk β n tm a) (x : Operand) : Den β (ev tm x) (a.eval x) := by
  cases x with
  | tmp t => exact h.2 t
  | const x => exact den_mk β x
  | global g => simp [ev, Den, Act.eval, one]
  | func f => simp only [ev, Den, Act.eval]; exact ⟨[], [], rfl, by simp [DenL], by simp [DenL]⟩

/-! ### branches -/
def bsplit (b : Bool) (A B : Prop) : Prop := (b = true → A) ∧ (b = false → B)
theorem bsplit_true {A B : Prop} : bsplit true A B = A := by simp [bsplit]
theorem bsplit_false {A B : Prop} : bsplit false A B = B := by simp [bsplit]

theorem go_cond {c : Operand} {x y : Code} {b : Bool} (hc : ev st.tm c = .v (.bool b)) (h : bsplit b (Go P C (.code x :: k) st R) (Go P C (.code y :: k) st R)) :
    Go P C (.code (.cond c x y) :: k) st R := fun β a w hr => by
  have hd := den_ev hr.tm c
  rw [hc] at hd
  simp only [Den] at hd
  refine wp_cond_split hd.1 (fun e => ?_) (fun e => ?_)
  · exact h.1 e β a w hr
  · exact h.2 e β a w hr

/-! ### operations -/
/-- What an operation comes to. -/
def OpRel (P : Program) (o : Oper) (st : St) (K : AV → Bls → Prop) : Prop :=
  ∀ β a w, TmOk β st.n st.tm a → Heap β st.bl w →
    ∃ y w' β' r bl', ((execOp a.eval o).run P w = .ok (.value y) w' ∨ (y = undef ∧ (execOp a.eval o).run P w = .ok .skip w')) ∧ Den β' r y ∧ K r bl' ∧
      β <+: β' ∧ Heap β' bl' w' ∧ Step (Owned β st.bl) w w' ∧ (∀ b, Owned β' bl' b → Owned β st.bl b ∨ w.heap.size ≤ b)

theorem Rel.next {β β' : Env} {a : Act} {w w' : World} {d : Option Nat} {r : AV} {y : Value} {bl' : Bls} (hr : Rel C st β a w) (hd : Den β' r y) (hb : β <+: β') (hh : Heap β' bl' w')
    (hs : Step (Owned β st.bl) w w') (ho : ∀ b, Owned β' bl' b → Owned β st.bl b ∨ w.heap.size ≤ b) :
    Rel C ⟨st.n, put st.n st.tm d r, bl'⟩ β' (a.put d y) w' where
  tm := hr.tm.put hb hd
  heap := hh
  env := hr.env.trans hb
  env0 := hr.env0
  own := fun b hb' => (ho b hb').elim (hr.own b) (fun h => .inr (Nat.le_trans hr.step.size h))
  step := hr.step.trans' hs hr.own
  defers := by cases d <;> simp [Act.put, hr.defers]

theorem go_op {all : Array Oper} {o : Oper} {os : List Oper} {K : AV → Bls → Prop} (hg : o.guard = none) (ho : OpRel P o st K)
    (h : ∀ r bl, K r bl → Go P C (.ops all os :: k) ⟨st.n, put st.n st.tm o.dst r, bl⟩ R) : Go P C (.ops all (o :: os) :: k) st R := fun β a w hr => by
  obtain ⟨y, w', β', r, bl', hrun, hd, hK, hb, hh, hs, hown⟩ := ho β a w hr.tm hr.heap
  have hn := h r bl' hK β' _ w' (hr.next (d := o.dst) hd hb hh hs hown)
  simp only [iwp] at hn ⊢
  refine wpList_plain hg fun K hK => ?_
  unfold Oper.wp
  rcases hrun with hrun | ⟨rfl, hrun⟩
  · rw [hrun]; exact hK _ _ hn
  · rw [hrun]; exact hK _ _ hn

/-- Guards. -/
def gdl : List Oper → Nat → Option Nat
  | [], _ => none
  | o :: r, j => if j = 0 then o.dst else gdl r (j - 1)

def gdst (all : Array Oper) (j : Nat) : Option Nat := gdl all.toList j

theorem gdl_eq : ∀ (l : List Oper) (j : Nat), gdl l j = (l[j]?).bind (·.dst)
  | [], _ => by simp [gdl]
  | o :: r, 0 => by simp [gdl]
  | o :: r, j + 1 => by simp [gdl, gdl_eq r j]

theorem gdst_eq (all : Array Oper) (j : Nat) : gdst all j = (all[j]?).bind (·.dst) := by
  rw [gdst, gdl_eq]; simp

theorem go_guard {all : Array Oper} {o : Oper} {os : List Oper} {j d : Nat} {want b : Bool} (hg : o.guard = some (j, want)) (hj : gdst all j = some d) (hd : d < st.n)
    (hb : get st.tm d = .v (.bool b))
    (h : bsplit b
      (Go P C (.ops all ((if want = true then { o with guard := none } else { o with guard := none, op := .move (.const undef) }) :: os) :: k) ⟨st.n, (d, .v (.bool true)) :: st.tm, st.bl⟩ R)
      (Go P C (.ops all ((if want = false then { o with guard := none } else { o with guard := none, op := .move (.const undef) }) :: os) :: k) ⟨st.n, (d, .v (.bool false)) :: st.tm, st.bl⟩ R)) :
    Go P C (.ops all (o :: os) :: k) st R := fun β a w hr => by
  have hv := hr.tm.2 d
  rw [hb] at hv
  simp only [Den] at hv
  have hsz : d < a.tmps.size := by rw [hr.tm.1]; exact hd
  have hget : a.tmps[d]? = some (.bool b) := by
    have := hv.1
    rw [Array.getD_eq_getD_getElem?, Array.getElem?_eq_getElem hsz] at this
    rw [Array.getElem?_eq_getElem hsz]; simpa using this
  have hy : yielded all a.tmps j = some b := by
    rw [gdst_eq] at hj
    simp [yielded, hj, hget]
  have hrel : ∀ b', b = b' → Rel C ⟨st.n, (d, .v (.bool b')) :: st.tm, st.bl⟩ β a w := fun b' e => by
    refine { hr with tm := ⟨hr.tm.1, fun s => ?_⟩ }
    simp only [get]
    split
    · rename_i e'; subst e'; subst e; simp only [Den]; exact hv
    · exact hr.tm.2 s
  have wanted : Region.wanted o (yielded all a.tmps) = (b == want) := by
    simp [Region.wanted, hg, hy]
  have run : ∀ o' : Oper, o'.op = o.op → o'.dst = o.dst → o'.type = o.type → (execOp a.eval o').run P w = (execOp a.eval o).run P w := by
    intro o' h1 h2 h3
    obtain ⟨d1, op1, t1, p1, a1, g1⟩ := o'
    obtain ⟨d2, op2, t2, p2, a2, g2⟩ := o
    simp only at h1 h2 h3
    subst h1; subst h2; subst h3
    cases op1 <;> rfl
  have runT : ∀ o' : Oper, o'.op = o.op → o'.dst = o.dst → o'.type = o.type → (execOp a.eval o').runT P w #[] = (execOp a.eval o).runT P w #[] := by
    intro o' h1 h2 h3
    obtain ⟨d1, op1, t1, p1, a1, g1⟩ := o'
    obtain ⟨d2, op2, t2, p2, a2, g2⟩ := o
    simp only at h1 h2 h3
    subst h1; subst h2; subst h3
    cases op1 <;> rfl
  have fwd : ∀ b', b = b' → Go P C (.ops all ((if want = b' then { o with guard := none } else { o with guard := none, op := .move (.const undef) }) :: os) :: k) ⟨st.n, (d, .v (.bool b')) :: st.tm, st.bl⟩ R →
      iwp P C (.ops all (o :: os) :: k) (Fin C R) .normal a w := by
    intro b' e hgo
    have := hgo β a w (hrel b' e)
    simp only [iwp] at this ⊢
    unfold wpList at this ⊢
    rw [wanted]
    by_cases hw : want = b'
    · subst hw; subst e
      rw [if_pos rfl] at this
      rw [if_pos (by simp)]
      rw [if_pos (by simp [Region.wanted])] at this
      rcases this with h1 | ⟨h1, h2⟩
      · refine .inl ?_
        unfold Oper.wp at *
        rw [run { o with guard := none } rfl rfl rfl] at h1
        generalize (execOp a.eval o).run P w = r at *
        cases r with
        | ok n w' => cases n <;> exact h1
        | halt x w' => cases x <;> exact h1
      · refine .inr ⟨?_, h2⟩
        unfold Oper.asks at *
        rw [run { o with guard := none } rfl rfl rfl, runT { o with guard := none } rfl rfl rfl] at h1
        exact h1
    · rw [if_neg hw] at this
      have hne : (b == want) = false := by subst e; simp; exact fun h => hw h.symm
      rw [hne]
      simp only [Bool.false_eq_true, if_false]
      rw [if_pos (by simp [Region.wanted])] at this
      rcases this with h1 | ⟨h1, h2⟩
      · simpa [Oper.wp, execOp, Oper.upon, Act.eval] using h1
      · exfalso
        unfold Oper.asks at h1
        have h2 := h1.1
        simp [execOp, pure, Sem.events, Sem.runT] at h2
  cases hbb : b with
  | true => rw [hbb, bsplit_true] at h; exact fwd true hbb h
  | false => rw [hbb, bsplit_false] at h; exact fwd false hbb h

end rules

/-! ### contracts -/
theorem callFunc_run {P : Program} {f : FuncId} {fn : Func} {c : Code} (hf : P.funcs[f]? = some fn) (hname : (fn.name == "runtime.NumGoroutine") = false) (hb : fn.body = some c) (args : Array Value) (w : World) :
    (callFunc f args).run P w = .ok (.enter f args) w := by
  have h1 : fn.name ≠ "runtime.NumGoroutine" := by simpa using hname
  simp [callFunc, hf, h1, hb]

def Callable (P : Program) (f : FuncId) : Prop :=
  ∃ fn c, P.funcs[f]? = some fn ∧ (fn.name == "runtime.NumGoroutine") = false ∧ fn.body = some c

/-- The levels from n on are one's own. -/
def NewOwn (n : Nat) (bl : Bls) : Prop := ∀ (l : Nat) (B : Blk), n ≤ l → bl[l]? = some (some B) → B.own = true

/-- The blocks of some levels that may be written. -/
def OwnedIn (β : Env) (bl : Bls) (W : List Nat) (b : Nat) : Prop := ∃ (l : Nat) (B : Blk) (o : Nat), l ∈ W ∧ bl[l]? = some (some B) ∧ B.own = true ∧ β[l]? = some (some (b, o))

theorem OwnedIn.owned {β : Env} {bl : Bls} {W : List Nat} {b : Nat} (h : OwnedIn β bl W b) : Owned β bl b := by
  obtain ⟨l, B, o, -, h1, h2, h3⟩ := h
  exact ⟨l, B, o, h1, h2, h3⟩

theorem Owned.inAll {β : Env} {bl : Bls} {b : Nat} (h : Owned β bl b) : OwnedIn β bl (List.range bl.length) b := by
  obtain ⟨l, B, o, h1, h2, h3⟩ := h
  exact ⟨l, B, o, List.mem_range.2 (List.getElem?_eq_some_iff.1 h1).1, h1, h2, h3⟩

theorem Step.mono {O O' : Nat → Prop} {w w' : World} (h : Step O w w') (hO : ∀ b, O b → O' b) : Step O' w w' :=
  ⟨h.os, h.tape, h.output, h.size, fun b hb hn => h.kept b hb fun ho => hn (hO b ho)⟩

/-- The function f, called at these values over these blocks, comes to K; it writes none but the levels of W; what else lies in memory stays. -/
def SCW (P : Program) (f : FuncId) (args : List AV) (bl : Bls) (W : List Nat) (K : AV → Bls → Prop) : Prop :=
  Callable P f ∧ ∀ β w vs, Heap β bl w → DenL β args vs →
    Calls P f vs.toArray w fun e w' => ∃ v r bl' β', e = .returned v ∧ Den β' r v ∧ K r bl' ∧ β <+: β' ∧ Heap β' bl' w' ∧
      Step (OwnedIn β bl W) w w' ∧ (∀ b, Owned β' bl' b → Owned β bl b ∨ w.heap.size ≤ b) ∧ NewOwn bl.length bl'

/-- The same where any level that is one's own may be written. -/
abbrev SC (P : Program) (f : FuncId) (args : List AV) (bl : Bls) (K : AV → Bls → Prop) : Prop := SCW P f args bl (List.range bl.length) K

theorem SCW.mono {P : Program} {f : FuncId} {args : List AV} {bl : Bls} {W : List Nat} {K K' : AV → Bls → Prop} (h : SCW P f args bl W K) (hk : ∀ r bl, K r bl → K' r bl) : SCW P f args bl W K' :=
  ⟨h.1, fun β w vs h1 h2 => (h.2 β w vs h1 h2).mono fun e w' ⟨v, r, bl', β', he, hd, hK, rest⟩ => ⟨v, r, bl', β', he, hd, hk _ _ hK, rest⟩⟩

/-- What a call's callee and arguments are, symbolically. -/
def callee (tm : List (Nat × AV)) (c : Call) : Option (FuncId × List AV) :=
  match c.callee with
  | .value f => match ev tm f with
    | .fn g fst caps => some (g, fst ++ (c.args.toList.map (ev tm) ++ caps))
    | _ => none
  | _ => none

theorem denL_append {β : Env} : ∀ {xs ys : List AV} {us vs : List Value}, DenL β xs us → DenL β ys vs → DenL β (xs ++ ys) (us ++ vs)
  | [], _, _, _, h1, h2 => by simp only [DenL] at h1; subst h1; exact h2
  | x :: xs, _, _, _, h1, h2 => by
    simp only [DenL] at h1
    obtain ⟨y, zs, rfl, h3, h4⟩ := h1
    simp only [List.cons_append, DenL]
    exact ⟨y, _, rfl, h3, denL_append h4 h2⟩

theorem denL_map {β : Env} {n : Nat} {tm : List (Nat × AV)} {a : Act} (h : TmOk β n tm a) : ∀ xs : List Operand, DenL β (xs.map (ev tm)) (xs.map a.eval)
  | [] => by simp [DenL]
  | x :: xs => by simp only [List.map_cons, DenL]; exact ⟨_, _, rfl, den_ev h x, denL_map h xs⟩

theorem denL_length {β : Env} : ∀ {xs : List AV} {us : List Value}, DenL β xs us → us.length = xs.length
  | [], _, h => by simp only [DenL] at h; subst h; rfl
  | x :: xs, _, h => by
    simp only [DenL] at h
    obtain ⟨y, zs, rfl, -, h4⟩ := h
    simp [denL_length h4]

theorem go_call {P : Program} {C : Ctx} {k : List It} {st : St} {R : St → Prop} {all : Array Oper} {o : Oper} {os : List Oper} {c : Call} {f : FuncId} {args : List AV} {W : List Nat} {K : AV → Bls → Prop} (hg : o.guard = none) (hop : o.op = .call c)
    (hc : callee st.tm c = some (f, args)) (hs : SCW P f args st.bl W K)
    (h : ∀ r bl, K r bl → Go P C (.ops all os :: k) ⟨st.n, put st.n st.tm o.dst r, bl⟩ R) : Go P C (.ops all (o :: os) :: k) st R := fun β a w hr => by
  obtain ⟨⟨fn, cd, hfn, hname, hbody⟩, hs⟩ := hs
  simp only [iwp]
  refine wpList_plain hg fun K' hK' => ?_
  unfold callee at hc
  cases hcal : c.callee with
  | builtin b => simp [hcal] at hc
  | invoke r m => simp [hcal] at hc
  | value fo =>
    simp only [hcal] at hc
    cases hev : ev st.tm fo <;> simp [hev] at hc
    rename_i g fst caps
    obtain ⟨rfl, rfl⟩ := hc
    have hd := den_ev hr.tm fo
    rw [hev] at hd
    simp only [Den] at hd
    obtain ⟨xs, ys, he, hx, hy⟩ := hd
    have hargs := denL_append hx (denL_append (denL_map hr.tm c.args.toList) hy)
    have hcall := hs β w _ hr.heap hargs
    have hrun : (execOp a.eval o).run P w = .ok (.enter g (xs ++ (c.args.toList.map a.eval ++ ys)).toArray) w := by
      unfold execOp
      simp only [hop, Sem.run_bind, resolve, hcal, he, Deferred.ofValue]
      simp only [Sem.run_pure, Result.andThen_ok, invoke]
      rw [callFunc_run hfn hname hbody]
      congr 2
      apply Array.ext'
      simp
    unfold Oper.wp
    rw [hrun]
    simp only [Oper.upon]
    refine hcall.mono fun e w' ⟨v, r, bl', β', he, hd, hK, hb, hh, hst, hown, _⟩ => ?_
    subst he
    refine hK' _ _ ?_
    have := h r bl' hK β' _ w' (hr.next (d := o.dst) hd hb hh (hst.mono fun b hb => hb.owned) hown)
    simpa only [iwp] using this

/-! ### a function's body -/
def resAll (tm : List (Nat × AV)) : List ResultVar → Option (List AV)
  | [] => some []
  | .tmp t :: r => match resAll tm r with
    | some xs => some (get tm t :: xs)
    | none => none
  | .cell _ _ :: _ => none

def resOf (tm : List (Nat × AV)) (rs : List ResultVar) : Option AV :=
  match rs with
  | [.tmp t] => some (get tm t)
  | rs => match resAll tm rs with
    | some xs => some (.tup xs)
    | none => none

theorem denL_of_get {β : Env} {n : Nat} {tm : List (Nat × AV)} {a : Act} (h : TmOk β n tm a) : ∀ (rs : List ResultVar) (xs : List AV),
    resAll tm rs = some xs → ∃ ts : List Nat, rs = ts.map ResultVar.tmp ∧ DenL β xs (ts.map fun t => a.tmps.getD t undef)
  | [], xs, he => by simp [resAll] at he; subst he; exact ⟨[], rfl, by simp [DenL]⟩
  | .cell .. :: rs, xs, he => by simp [resAll] at he
  | .tmp t :: rs, xs, he => by
    simp only [resAll] at he
    cases h1 : resAll tm rs with
    | none => simp [h1] at he
    | some ys =>
      simp only [h1, Option.some.injEq] at he
      subst he
      obtain ⟨ts, rfl, hl⟩ := denL_of_get h rs ys h1
      refine ⟨t :: ts, rfl, ?_⟩
      simp only [DenL, List.map_cons]
      exact ⟨_, _, rfl, h.2 t, hl⟩

def resVar (tmps : Array Value) : ResultVar → Sem Value
  | .tmp t => pure (tmps.getD t undef)
  | .cell a t => do loadVar t (← asAddr (tmps.getD a undef))

theorem resVar_mapM (tmps : Array Value) : ∀ l : List Nat, (l.map ResultVar.tmp).mapM (resVar tmps) = pure (l.map fun t => tmps.getD t undef)
  | [] => rfl
  | t :: l => by
    rw [List.map_cons, List.mapM_cons, resVar_mapM tmps l]
    simp only [resVar, pure_bind, List.map_cons]

def resVal (tmps : Array Value) : List Nat → Value
  | [t] => tmps.getD t undef
  | ts => .tuple (ts.map fun t => tmps.getD t undef).toArray

theorem results_run {fn : Func} {P : Program} {w : World} (tmps : Array Value) (ts : List Nat) (h : fn.results = (ts.map ResultVar.tmp).toArray) :
    (results fn tmps).run P w = .ok (resVal tmps ts) w := by
  have e : results fn tmps = (do
      let vs ← fn.results.mapM (resVar tmps)
      pure (if h : vs.size = 1 then vs[0] else .tuple vs)) := by
    unfold results
    rfl
  rw [e, h, List.mapM_toArray, resVar_mapM]
  match ts with
  | [] => rfl
  | [t] => rfl
  | t :: u :: ts => simp [resVal]

/-- The slots of the arguments. -/
def ini : Nat → List AV → List (Nat × AV)
  | _, [] => []
  | i, x :: r => (i, x) :: ini (i + 1) r

/-- A contract out of the body. -/
theorem SC.of_go {P : Program} {f : FuncId} {fn : Func} {c : Code} {args : List AV} {bl : Bls} {K : AV → Bls → Prop} (hf : P.funcs[f]? = some fn) (hb : fn.body = some c)
    (hname : (fn.name == "runtime.NumGoroutine") = false) (hn : args.length ≤ fn.ntmps)
    (h : ∀ C : Ctx, C.bl0 = bl → Go P C [.code c] ⟨fn.ntmps, ini 0 args, bl⟩ fun st => ∃ r, resOf st.tm fn.results.toList = some r ∧ K r st.bl ∧ NewOwn bl.length st.bl) : SC P f args bl K := by
  refine ⟨⟨fn, c, hf, hname, hb⟩, fun β w vs hh hd => calls_of_wp hf hb ?_⟩
  have hlen := denL_length hd
  have htm : TmOk β fn.ntmps (ini 0 args) { tmps := vs.toArray ++ Array.replicate (fn.ntmps - vs.toArray.size) undef, defers := [] } := by
    refine ⟨by simp; omega, fun s => ?_⟩
    simp only
    have key : ∀ (args : List AV) (vs : List Value) (i n : Nat) (s : Nat), DenL β args vs → Den β (get (ini i args) (i + s)) ((vs ++ List.replicate n undef).getD s undef) := by
      intro args
      induction args with
      | nil => intro vs i n s _; simp [ini, get, Den]
      | cons x xs ih =>
        intro vs i n s hd
        simp only [DenL] at hd
        obtain ⟨y, zs, rfl, h1, h2⟩ := hd
        simp only [ini, get]
        cases s with
        | zero => simpa using h1
        | succ s =>
          rw [if_neg (by omega)]
          have := ih zs (i + 1) n s h2
          simpa [Nat.add_assoc, Nat.add_comm 1 s] using this
    have := key args vs 0 (fn.ntmps - vs.length) s hd
    simp only [Nat.zero_add] at this
    have e : (vs.toArray ++ Array.replicate (fn.ntmps - vs.toArray.size) undef).getD s undef = (vs ++ List.replicate (fn.ntmps - vs.length) undef).getD s undef := by
      rw [Array.getD_eq_getD_getElem?, List.getD_eq_getElem?_getD, ← Array.getElem?_toList]
      simp
    rw [e]
    exact this
  have hr : Rel ⟨w, β, bl⟩ ⟨fn.ntmps, ini 0 args, bl⟩ β { tmps := vs.toArray ++ Array.replicate (fn.ntmps - vs.toArray.size) undef, defers := [] } w :=
    { tm := htm, heap := hh, env := List.prefix_refl _, env0 := hh.len, own := fun b hb => .inl hb, step := Step.refl _ _, defers := rfl }
  have hgo := h ⟨w, β, bl⟩ rfl β _ w hr
  simp only [iwp] at hgo
  refine wp_mono hgo fun e a' w' he => ?_
  have fin : ∀ st β', Rel ⟨w, β, bl⟩ st β' a' w' → (∃ r, resOf st.tm fn.results.toList = some r ∧ K r st.bl ∧ NewOwn bl.length st.bl) →
      a'.defers = [] ∧ ∃ v, (results fn a'.tmps).run P w' = .ok v w' ∧ ∃ v' r bl' β', Ending.returned v = .returned v' ∧ Den β' r v' ∧ K r bl' ∧ β <+: β' ∧ Heap β' bl' w' ∧
        Step (OwnedIn β bl (List.range bl.length)) w w' ∧ (∀ b, Owned β' bl' b → Owned β bl b ∨ w.heap.size ≤ b) ∧ NewOwn bl.length bl' := by
    intro st β' hr' ⟨r, hres, hK, hnew⟩
    refine ⟨hr'.defers, ?_⟩
    have hone : ∃ v, (results fn a'.tmps).run P w' = .ok v w' ∧ Den β' r v := by
      unfold resOf at hres
      split at hres
      · rename_i t heq
        obtain rfl := Option.some.inj hres
        refine ⟨_, results_run a'.tmps [t] (by apply Array.ext'; simpa using heq), hr'.tm.2 t⟩
      · rename_i hnot
        obtain ⟨xs, h1, rfl⟩ : ∃ xs, resAll st.tm fn.results.toList = some xs ∧ AV.tup xs = r := by
          cases h1 : resAll st.tm fn.results.toList with
          | none => simp [h1] at hres
          | some xs => simp only [h1, Option.some.injEq] at hres; exact ⟨xs, rfl, hres⟩
        obtain ⟨ts, h2, h3⟩ := denL_of_get hr'.tm _ _ h1
        refine ⟨_, results_run a'.tmps ts (by apply Array.ext'; simpa using h2), ?_⟩
        have hne : ∀ t, ts ≠ [t] := fun t e => hnot t (by rw [h2, e]; rfl)
        match ts, h3, hne with
        | [], h3, _ => simp only [Den]; exact ⟨_, rfl, h3⟩
        | [t], _, hne => exact absurd rfl (hne t)
        | t :: u :: ts, h3, _ => simp only [Den]; exact ⟨_, rfl, h3⟩
    obtain ⟨v, h1, h2⟩ := hone
    exact ⟨v, h1, v, r, st.bl, β', rfl, h2, hK, hr'.env, hr'.heap, hr'.step.mono fun b hb => hb.inAll, hr'.own, hnew⟩
  cases e with
  | normal => obtain ⟨st, β', h1, h2⟩ := he; exact fin st β' h1 h2
  | ret => obtain ⟨st, β', h1, h2⟩ := he; exact fin st β' h1 h2
  | panic c => exact he.elim
  | exit id => exact he.elim
  | goto l => exact he.elim
  | outgrown => exact he.elim

end Go.SX
