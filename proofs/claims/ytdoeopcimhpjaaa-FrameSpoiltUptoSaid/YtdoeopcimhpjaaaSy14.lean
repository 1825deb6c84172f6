/-
  The symbolic machine: frames, states, what they stand for; one step.
-/
import Derived.Test.YtdoeopcimhpjaaaSy13
import Derived.RangeFuncRecord
set_option linter.unusedSimpArgs false
set_option linter.unusedVariables false
namespace Go.SY
open Go

abbrev TM := List (Nat × AV)
abbrev Plan := List (Nat × List Nat)

/-- What is still to be done in a frame. -/
inductive SI where
  | code (c : Code)
  | blk (id : Nat)
  | lp (c : Code)
  | sc (c : Code)
  | ops (all : Array Oper) (os : List Oper) (g : Option Bool)
  | dr (all : Array Oper) (plan : Plan) (A : List (Nat × List Nat)) (g : Option Bool)
  | rf (l : Nat)
  | erf (l : Nat)
  | br

structure Fr where
  fn : FuncId
  n : Nat
  tm : TM
  k : List SI
  rd : Option Nat
  ms : List Nat
  lk : List Nat

structure Conf where
  fs : List Fr
  bl : Bls

inductive Out where
  | next (vc : Bool) (c : Conf)
  | split (b : Bool) (c1 c2 : Conf)
  | fin (vc : Bool) (r : AV) (bl : Bls)
  | stop

/-! ### guards -/
def gdl : List Oper → Nat → Option Nat
  | [], _ => none
  | o :: r, j => if j = 0 then o.dst else gdl r (j - 1)

def gdst (all : Array Oper) (j : Nat) : Option Nat := gdl all.toList j

theorem gdl_eq : ∀ (l : List Oper) (j : Nat), gdl l j = (l[j]?).bind (·.dst)
  | [], _ => by simp [gdl]
  | o :: r, 0 => by simp [gdl]
  | o :: r, j + 1 => by simp [gdl, gdl_eq r j]

theorem gdst_eq (all : Array Oper) (j : Nat) : gdst all j = (all[j]?).bind (·.dst) := by
  rw [gdst, gdl_eq]; simp

inductive Wt where
  | yes
  | no
  | spl (b want : Bool) (d : Nat)
  | bad

/-- Is an operation's guard so? What is known of it already goes first. -/
def wtS (all : Array Oper) (n : Nat) (tm : TM) (kn : Option Bool) (g : Option (Nat × Bool)) : Wt := match kn with
  | some true => .yes
  | some false => .no
  | none => (match g with
    | none => .yes
    | some (j, want) => (match gdst all j with
      | some d => if d < n then (match get tm d with
        | .v (.bool b) => .spl b want d
        | .tup [] => .no
        | _ => .bad) else .bad
      | none => .bad))

/-! ### operations, all of them -/
def ini : Nat → List AV → TM
  | _, [] => []
  | i, x :: r => (i, x) :: ini (i + 1) r

inductive SO where
  | val (vc : Bool) (r : AV) (bl : Bls)
  | call (f : FuncId) (args : List AV)
  | yld (l : Nat) (args : List AV)
  | stop

/-- What is locked stays as it is. -/
def alive (bl bl' : Bls) : List Nat → Bool
  | [] => true
  | q :: r => (match lvl bl q with
    | none => alive bl bl' r
    | some _ => (match lvl bl' q with
      | some _ => alive bl bl' r
      | none => false))

def quiet (tm : TM) (bl : Bls) (lk : List Nat) (bl' : Bls) (o : Op) : Bool := match lk with
  | [] => true
  | lk => (match o with
    | .alloc _ => true
    | .box _ _ => true
    | .buildSlice _ _ _ => true
    | .makeSlice _ _ _ => true
    | .convert _ _ _ => true
    | .call c => (match c.callee with
      | .builtin .append => alive bl bl' lk
      | _ => false)
    | .store _ a _ => (match ev tm a with
      | .ptr l _ _ _ => !lk.contains l && (match lvl bl l with
        | some (.rows _ _) => false
        | _ => true)
      | _ => false)
    | _ => false)

def calleeS (tm : TM) (c : Call) : SO := match c.callee with
  | .value f => (match ev tm f with
    | .fn g fst caps => .call g (fst ++ (c.args.toList.map (ev tm) ++ caps))
    | .yld l => .yld l (c.args.toList.map (ev tm))
    | _ => .stop)
  | _ => .stop

def sopM (P : Program) (tm : TM) (bl : Bls) (lk : List Nat) (o : Op) : SO := match eop1 P tm bl o with
  | some (vc, r, bl') => .val (vc && quiet tm bl lk bl' o) r bl'
  | none => (match eop2 P tm bl o with
    | some (vc, r, bl') => .val (vc && quiet tm bl lk bl' o) r bl'
    | none => .stop)

def sopR (P : Program) (tm : TM) (bl : Bls) (lk : List Nat) (o : Op) : SO := match lop P tm bl o with
  | some (vc, r) => .val vc r bl
  | none => sopM P tm bl lk o

def sop (P : Program) (tm : TM) (bl : Bls) (lk : List Nat) (o : Op) : SO := match o with
  | .call c => (match c.callee with
    | .value _ => calleeS tm c
    | _ => (match pop P tm (.call c) with
      | some (vc, r) => .val vc r bl
      | none => sopM P tm bl lk (.call c)))
  | o => (match pop P tm o with
    | some (vc, r) => .val vc r bl
    | none => sopR P tm bl lk o)

/-! ### functions -/
structure FI where
  n : Nat
  res : List ResultVar
  body : Code

def fi (P : Program) (f : FuncId) : Option FI := match P.funcs[f]? with
  | some fn => (match fn.body with
    | some c => if (fn.name == "runtime.NumGoroutine") = true then none else some ⟨fn.ntmps, fn.results.toList, c⟩
    | none => none)
  | none => none

def resAll (P : Program) (tm : TM) (bl : Bls) : List ResultVar → Option (Bool × List AV)
  | [] => some (true, [])
  | .tmp t :: r => (match resAll P tm bl r with
    | some (vc, xs) => some (vc, get tm t :: xs)
    | none => none)
  | .cell a t :: r => (match ti P t with
    | some T => (match get tm a with
      | .ptr l i w k => (match lvl bl l with
        | some c => (match rdCt c i w k T with
          | some (v1, x) => (match resAll P tm bl r with
            | some (vc, xs) => some (v1 && vc, x :: xs)
            | none => none)
          | none => none)
        | none => none)
      | _ => none)
    | none => none)

def tup1 : List AV → AV
  | [x] => x
  | xs => .tup xs

def resS (P : Program) (tm : TM) (bl : Bls) (rs : List ResultVar) : Option (Bool × AV) := match resAll P tm bl rs with
  | some (vc, xs) => some (vc, tup1 xs)
  | none => none

/-! ### jumps -/
def exitS : Nat → List SI → Option (List SI)
  | _, [] => none
  | id, .blk id' :: k => if id = id' then some k else exitS id k
  | id, _ :: k => exitS id k

def gotoS : Nat → List SI → Option (List SI)
  | _, [] => none
  | l, .sc c :: k => (match findLabel c l with
    | some r => some (.code r :: .sc c :: k)
    | none => gotoS l k)
  | l, _ :: k => gotoS l k

/-- A call's result comes back. -/
def finishS (f : Fr) (r : AV) : Option Fr := match f with
  | ⟨fn, n, tm, k, rd, ms, lk⟩ => (match k with
    | .ops all (o :: os) _ :: k => some ⟨fn, n, put n tm o.dst r, .ops all os none :: k, rd, ms, lk⟩
    | .dr all ((i, _) :: rest) A _ :: k => (match nth all.toList i with
      | some o => some ⟨fn, n, put n tm o.dst r, .dr all rest A none :: k, rd, ms, lk⟩
      | none => none)
    | .rf l :: k => some ⟨fn, n, tm, .erf l :: k, rd, ms, lk⟩
    | _ => none)

def killL : List Nat → Bls → Bls
  | [], bl => bl
  | l :: r, bl => killL r (setl bl l none)

def isDefs (bl : Bls) : List Nat → Bool
  | [] => true
  | l :: r => (match lvl bl l with
    | some .defs => isDefs (setl bl l none) r
    | _ => false)

/-- A function ends. -/
def retS (P : Program) (fn : FuncId) (tm : TM) (ms lk : List Nat) (fs : List Fr) (bl : Bls) : Out := match fi P fn with
  | some F => (if isDefs bl ms = true then (match resS P tm (killL ms bl) F.res with
    | some (vc, r) => (match fs with
      | [] => .fin vc r (killL ms bl)
      | g :: fs => (match finishS g r with
        | some g => .next vc ⟨g :: fs, killL ms bl⟩
        | none => .stop))
    | none => .stop) else .stop)
  | none => .stop

/-- A round of a loop over a function ends. -/
def endS (l : Nat) (jump : Option Code) (fs : List Fr) (bl : Bls) : Out := match lvl bl l with
  | some (.loop _ _ g n tm ps a b df) => (match fs with
    | g' :: fs => (match finishS g' (.v (.bool jump.isNone)) with
      | some g' => .next true ⟨g' :: fs, setl bl l (some (.loop (if jump.isNone then .ready else .done) jump g n tm ps a b df))⟩
      | none => .stop)
    | [] => .stop)
  | _ => .stop

def leaveS (P : Program) (fn : FuncId) (tm : TM) (rd : Option Nat) (ms lk : List Nat) (jump : Option Code) (fs : List Fr) (bl : Bls) : Out := match rd with
  | none => (match jump with
    | none => retS P fn tm ms lk fs bl
    | some .ret => retS P fn tm ms lk fs bl
    | _ => .stop)
  | some l => (match ms with
    | [] => endS l jump fs bl
    | _ => .stop)

def setPs : TM → List Nat → List AV → TM
  | tm, [], _ => tm
  | tm, _, [] => tm
  | tm, t :: ts, x :: xs => setPs ((t, x) :: tm) ts xs

/-- A function is entered. -/
def enterS (P : Program) (g : FuncId) (args : List AV) (lk : List Nat) (fs : List Fr) (bl : Bls) : Out := match fi P g with
  | some F => if args.length ≤ F.n then .next true ⟨⟨g, F.n, ini 0 args, [.code F.body], none, [], lk⟩ :: fs, bl⟩ else .stop
  | none => .stop

/-- A round is entered. -/
def roundS (l : Nat) (args : List AV) (lk : List Nat) (fs : List Fr) (bl : Bls) : Out := match lvl bl l with
  | some (.loop _ _ g n tm ps a b _) => if args.length = ps.length ∧ (ps.all fun p => decide (p < n)) = true then .next true ⟨⟨g, n, setPs tm ps args, [.code a, .br, .code b], some l, [], lk⟩ :: fs, bl⟩ else .stop
  | _ => .stop

/-- Contracts: what a function comes to. -/
abbrev KT := FuncId → Option (List AV → Bls → Option (Bool × AV × Bls))

def opS (P : Program) (K : KT) (f : Fr) (o : Oper) (k' : List SI) (lk : List Nat) (fs : List Fr) (bl : Bls) : Out := match f with
  | ⟨fn, n, tm, k, rd, ms, lk0⟩ => (match sop P tm bl lk o.op with
    | .val vc r bl' => .next vc ⟨⟨fn, n, put n tm o.dst r, k', rd, ms, lk0⟩ :: fs, bl'⟩
    | .call g args => (match K g with
      | some c => (match c args bl with
        | some (vc, r, bl') => .next (vc && alive bl bl' lk) ⟨⟨fn, n, put n tm o.dst r, k', rd, ms, lk0⟩ :: fs, bl'⟩
        | none => .stop)
      | none => enterS P g args lk (⟨fn, n, tm, k, rd, ms, lk0⟩ :: fs) bl)
    | .yld l args => roundS l args lk (⟨fn, n, tm, k, rd, ms, lk0⟩ :: fs) bl
    | .stop => .stop)

/-- One step; of a region that draws its order: elsewhere (drS). -/
def stepS (P : Program) (K : KT) (pl : FuncId → Nat → Option Plan) (u : Bool) (drS : Fr → Array Oper → Plan → List (Nat × List Nat) → Option Bool → List SI → List Fr → Bls → Out) : Conf → Out
  | ⟨[], _⟩ => .stop
  | ⟨⟨fn, n, tm, k, rd, ms, lk⟩ :: fs, bl⟩ => (match k with
    | [] => leaveS P fn tm rd ms lk none fs bl
    | .code c :: k => (match c with
      | .skip => .next true ⟨⟨fn, n, tm, k, rd, ms, lk⟩ :: fs, bl⟩
      | .label _ => .next true ⟨⟨fn, n, tm, k, rd, ms, lk⟩ :: fs, bl⟩
      | .seq x y => .next true ⟨⟨fn, n, tm, .code x :: .code y :: k, rd, ms, lk⟩ :: fs, bl⟩
      | .block id c => .next true ⟨⟨fn, n, tm, .code c :: .blk id :: k, rd, ms, lk⟩ :: fs, bl⟩
      | .scope c => .next true ⟨⟨fn, n, tm, .code c :: .sc c :: k, rd, ms, lk⟩ :: fs, bl⟩
      | .loop c => (match u with
        | true => .next true ⟨⟨fn, n, tm, .code c :: .lp c :: k, rd, ms, lk⟩ :: fs, bl⟩
        | false => .stop)
      | .cond c x y => (match ev tm c with
        | .v (.bool b) => .split b ⟨⟨fn, n, tm, .code x :: k, rd, ms, lk⟩ :: fs, bl⟩ ⟨⟨fn, n, tm, .code y :: k, rd, ms, lk⟩ :: fs, bl⟩
        | _ => .stop)
      | .exit id => (match exitS id k with
        | some k => .next true ⟨⟨fn, n, tm, k, rd, ms, lk⟩ :: fs, bl⟩
        | none => leaveS P fn tm rd ms lk (some (.exit id)) fs bl)
      | .goto l => (match gotoS l k with
        | some k => .next true ⟨⟨fn, n, tm, k, rd, ms, lk⟩ :: fs, bl⟩
        | none => leaveS P fn tm rd ms lk (some (.goto l)) fs bl)
      | .ret => leaveS P fn tm rd ms lk (some .ret) fs bl
      | .region id all draw => (match draw with
        | false => .next true ⟨⟨fn, n, tm, .ops all all.toList none :: k, rd, ms, lk⟩ :: fs, bl⟩
        | true => (match pl fn id with
          | some p => .next true ⟨⟨fn, n, tm, .dr all p [] none :: k, rd, ms, lk⟩ :: fs, bl⟩
          | none => .stop))
      | .rangeFunc g ps a b => (match ev tm g with
        | .fn h fst caps => (match rd with
          | none => enterS P h (fst ++ (.yld (bl.length + 1) :: caps)) lk (⟨fn, n, tm, .rf (bl.length + 1) :: k, rd, bl.length :: ms, lk⟩ :: fs)
              (bl ++ [some .defs, some (.loop .ready none fn n tm ps.toList a b bl.length)])
          | some l0 => (match lvl bl l0 with
            | some (.loop _ _ _ _ _ _ _ _ df) => enterS P h (fst ++ (.yld bl.length :: caps)) lk (⟨fn, n, tm, .rf bl.length :: k, rd, ms, lk⟩ :: fs)
                (bl ++ [some (.loop .ready none fn n tm ps.toList a b df)])
            | _ => .stop))
        | _ => .stop)
      | .refuse _ => .stop)
    | .blk _ :: k => .next true ⟨⟨fn, n, tm, k, rd, ms, lk⟩ :: fs, bl⟩
    | .sc _ :: k => .next true ⟨⟨fn, n, tm, k, rd, ms, lk⟩ :: fs, bl⟩
    | .lp c :: k => (match u with
      | true => .next true ⟨⟨fn, n, tm, .code c :: .lp c :: k, rd, ms, lk⟩ :: fs, bl⟩
      | false => .stop)
    | .ops all os g :: k => (match os with
      | [] => .next true ⟨⟨fn, n, tm, k, rd, ms, lk⟩ :: fs, bl⟩
      | o :: os => (match wtS all n tm g o.guard with
        | .yes => opS P K ⟨fn, n, tm, .ops all (o :: os) (some true) :: k, rd, ms, lk⟩ o (.ops all os none :: k) lk fs bl
        | .no => .next true ⟨⟨fn, n, put n tm o.dst (.tup []), .ops all os none :: k, rd, ms, lk⟩ :: fs, bl⟩
        | .spl b want d => .split b ⟨⟨fn, n, (d, .v (.bool true)) :: tm, .ops all (o :: os) (some want) :: k, rd, ms, lk⟩ :: fs, bl⟩ ⟨⟨fn, n, (d, .v (.bool false)) :: tm, .ops all (o :: os) (some (!want)) :: k, rd, ms, lk⟩ :: fs, bl⟩
        | .bad => .stop))
    | .dr all plan A g :: k => drS ⟨fn, n, tm, .dr all plan A g :: k, rd, ms, lk⟩ all plan A g k fs bl
    | .rf _ :: _ => .stop
    | .erf l :: k => (match lvl bl l with
      | some (.loop st pend g n' tm' ps a b df) => if st = .busy then .stop else (match pend with
        | none => .next true ⟨⟨fn, n, tm, k, rd, ms, lk⟩ :: fs, setl bl l (some (.loop .exhausted none g n' tm' ps a b df))⟩
        | some c => .next true ⟨⟨fn, n, tm, .code c :: k, rd, ms, lk⟩ :: fs, setl bl l (some (.loop .exhausted (some c) g n' tm' ps a b df))⟩)
      | _ => .stop)
    | .br :: k => (match rd with
      | some l => (match lvl bl l with
        | some (.loop .ready pend g n' tm' ps a b df) => .next true ⟨⟨fn, n, tm, k, rd, ms, lk⟩ :: fs, setl bl l (some (.loop .busy pend g n' tm' ps a b df))⟩
        | _ => .stop)
      | none => .stop))

/-! ### regions that draw their order -/
inductive Cls where
  | pure
  | load
  | eff

def cls (P : Program) (o : Op) : Cls := match o with
  | .load _ _ => .load
  | .slice _ _ _ _ _ => .load
  | .convert s d _ => (match ti P s, ti P d with
    | some S, some D => (match S.kd, D.kd with
      | _, .slice _ _ _ => .eff
      | .slice _ _ _, _ => .load
      | _, _ => .pure)
    | _, _ => .eff)
  | .move _ => .pure
  | .assign _ => .pure
  | .pick _ _ _ => .pure
  | .nilCheck _ => .pure
  | .binOp _ _ _ _ _ => .pure
  | .unOp _ _ _ => .pure
  | .fieldAddr _ _ _ => .pure
  | .indexAddr _ _ _ => .pure
  | .index _ _ _ => .pure
  | .makeFunc _ _ _ => .pure
  | .extract _ _ => .pure
  | .field _ _ _ => .pure
  | .build _ _ => .pure
  | .call c => (match c.callee with
    | .builtin .len => .pure
    | .builtin .cap => .pure
    | .builtin .min => .pure
    | .builtin .max => .pure
    | _ => .eff)
  | _ => .eff

/-- The levels of loads that may come behind. -/
def lvA : List Nat → List (Nat × List Nat) → List Nat
  | _, [] => []
  | un, (i, ls) :: r => if un.contains i = true then ls ++ lvA un r else lvA un r

def drS (P : Program) (K : KT) (f : Fr) (all : Array Oper) (plan : Plan) (A : List (Nat × List Nat)) (g : Option Bool) (k : List SI) (fs : List Fr) (bl : Bls) : Out := match f with
  | ⟨fn, n, tm, _, rd, ms, lk⟩ => (match plan with
    | [] => .next true ⟨⟨fn, n, tm, k, rd, ms, lk⟩ :: fs, bl⟩
    | (i, un) :: rest => (match nth all.toList i with
      | none => .stop
      | some o => (match wtS all n tm g o.guard with
        | .yes => (match cls P o.op with
          | .pure => (match pop P tm o.op with
            | some (vc, r) => .next vc ⟨⟨fn, n, put n tm o.dst r, .dr all rest A none :: k, rd, ms, lk⟩ :: fs, bl⟩
            | none => .stop)
          | .load => (match pop P tm o.op with
            | some (vc, r) => .next vc ⟨⟨fn, n, put n tm o.dst r, .dr all rest A none :: k, rd, ms, lk⟩ :: fs, bl⟩
            | none => (match lop P tm bl o.op with
              | some (vc, r) => .next vc ⟨⟨fn, n, put n tm o.dst r, .dr all rest ((i, rdl tm o.op) :: A) none :: k, rd, ms, lk⟩ :: fs, bl⟩
              | none => .stop))
          | .eff => opS P K ⟨fn, n, tm, .dr all ((i, un) :: rest) A (some true) :: k, rd, ms, lk⟩ o (.dr all rest A none :: k) (lvA un A ++ lk) fs bl)
        | .no => .next true ⟨⟨fn, n, put n tm o.dst (.tup []), .dr all rest A none :: k, rd, ms, lk⟩ :: fs, bl⟩
        | .spl b want d => .split b ⟨⟨fn, n, (d, .v (.bool true)) :: tm, .dr all plan A (some want) :: k, rd, ms, lk⟩ :: fs, bl⟩ ⟨⟨fn, n, (d, .v (.bool false)) :: tm, .dr all plan A (some (!want)) :: k, rd, ms, lk⟩ :: fs, bl⟩
        | .bad => .stop)))

abbrev stp (P : Program) (K : KT) (pl : FuncId → Nat → Option Plan) (u : Bool) : Conf → Out := stepS P K pl u (drS P K)

end Go.SY
