/- The symbolic machine (Sy14, Sy15, Sy16, Sy17, Sy18, Sy19, Sy20, Sy21, Sy22, Sy23, Sy24). -/
import Derived.Test.YtfnnmkjlokjkhaaSb
import Derived.RangeFuncRecord
import Derived.AtR
import Derived.RangeFuncNested
import Derived.Below
set_option linter.unusedSimpArgs false
set_option linter.unusedVariables false
/-
  The symbolic machine: frames, states, what they stand for; one step.
-/
namespace Go.SY
open Go
abbrev TM := List (Nat × AV)
abbrev Plan := List (Nat × List Nat)
inductive SI where
  | code (c : Code)
  | blk (id : Nat)
  | lp (c : Code)
  | sc (c : Code)
  | ops (all : Array Oper) (os : List Oper) (g : Option Bool)
  | dr (all : Array Oper) (plan : Plan) (A : List (Nat × List Nat)) (g : Option Bool)
  | rf (l : Nat)
  | erf (l : Nat)
  | br
structure Fr where
  fn : FuncId
  n : Nat
  tm : TM
  k : List SI
  rd : Option Nat
  ms : List Nat
  lk : List Nat
structure Conf where
  fs : List Fr
  bl : Bls
inductive Out where
  | next (vc : Bool) (c : Conf)
  | split (b : Bool) (c1 c2 : Conf)
  | fin (vc : Bool) (r : AV) (bl : Bls)
  | stop
def gdl : List Oper → Nat → Option Nat
  | [], _ => none
  | o :: r, j => if j = 0 then o.dst else gdl r (j - 1)
def gdst (all : Array Oper) (j : Nat) : Option Nat := gdl all.toList j
theorem gdl_eq : ∀ (l : List Oper) (j : Nat), gdl l j = (l[j]?).bind (·.dst)
  | [], _ => by simp [gdl]
  | o :: r, 0 => by simp [gdl]
  | o :: r, j + 1 => by simp [gdl, gdl_eq r j]
theorem gdst_eq (all : Array Oper) (j : Nat) : gdst all j = (all[j]?).bind (·.dst) := by
  rw [gdst, gdl_eq]; simp
inductive Wt where
  | yes
  | no
  | spl (b want : Bool) (d : Nat)
  | bad
def wtS (all : Array Oper) (n : Nat) (tm : TM) (kn : Option Bool) (g : Option (Nat × Bool)) : Wt := match kn with
  | some true => .yes
  | some false => .no
  | none => (match g with
    | none => .yes
    | some (j, want) => (match gdst all j with
      | some d => if d < n then (match get tm d with
        | .v (.bool b) => .spl b want d
        | .tup [] => .no
        | _ => .bad) else .bad
      | none => .bad))
def ini : Nat → List AV → TM
  | _, [] => []
  | i, x :: r => (i, x) :: ini (i + 1) r
inductive SO where
  | val (vc : Bool) (r : AV) (bl : Bls)
  | call (f : FuncId) (args : List AV)
  | yld (l : Nat) (args : List AV)
  | stop
def alive0 (bl bl' : Bls) : List Nat → Bool
  | [] => true
  | q :: r => (match lvl bl q with
    | none => alive0 bl bl' r
    | some _ => (match lvl bl' q with
      | some _ => alive0 bl bl' r
      | none => false))
def mks : Bls → List Nat
  | [] => []
  | b :: r => (match b with
    | some (.rows 0 rs) => rs.length :: mks r
    | _ => mks r)
def noMk (m : List Nat) : List Nat → Bool
  | [] => true
  | q :: r => !m.contains q && noMk m r
def alive (bl bl' : Bls) (lk : List Nat) : Bool := match lk with
  | [] => true
  | lk => noMk (mks bl') lk && alive0 bl bl' lk
def quiet (tm : TM) (bl : Bls) (lk : List Nat) (bl' : Bls) (o : Op) : Bool := match lk with
  | [] => true
  | lk => (match o with
    | .alloc _ => true
    | .box _ _ => true
    | .buildSlice _ _ _ => true
    | .makeSlice _ _ _ => true
    | .convert _ _ _ => true
    | .call c => (match c.callee with
      | .builtin .append => alive bl bl' lk
      | _ => false)
    | .store _ a _ => (match ev tm a with
      | .ptr l _ _ _ => !lk.contains l && (match lvl bl l with
        | some (.rows _ _) => false
        | _ => true)
      | _ => false)
    | _ => false)
def calleeS (tm : TM) (c : Call) : SO := match c.callee with
  | .value f => (match ev tm f with
    | .fn g fst caps => .call g (fst ++ (c.args.toList.map (ev tm) ++ caps))
    | .yld l => .yld l (c.args.toList.map (ev tm))
    | _ => .stop)
  | _ => .stop
def sopM (P : Program) (tm : TM) (bl : Bls) (lk : List Nat) (o : Op) : SO := match eop1 P tm bl o with
  | some (vc, r, bl') => .val (vc && quiet tm bl lk bl' o) r bl'
  | none => (match eop2 P tm bl o with
    | some (vc, r, bl') => .val (vc && quiet tm bl lk bl' o) r bl'
    | none => .stop)
def sopR (P : Program) (tm : TM) (bl : Bls) (lk : List Nat) (o : Op) : SO := match lop P tm bl o with
  | some (vc, r) => .val vc r bl
  | none => sopM P tm bl lk o
def sop (P : Program) (tm : TM) (bl : Bls) (lk : List Nat) (o : Op) : SO := match o with
  | .call c => (match c.callee with
    | .value _ => calleeS tm c
    | _ => (match pop P tm (.call c) with
      | some (vc, r) => .val vc r bl
      | none => sopM P tm bl lk (.call c)))
  | o => (match pop P tm o with
    | some (vc, r) => .val vc r bl
    | none => sopR P tm bl lk o)
structure FI where
  n : Nat
  res : List ResultVar
  body : Code
def fi (P : Program) (f : FuncId) : Option FI := match P.funcs[f]? with
  | some fn => (match fn.body with
    | some c => if (fn.name == "runtime.NumGoroutine") = true then none else some ⟨fn.ntmps, fn.results.toList, c⟩
    | none => none)
  | none => none
def resAll (P : Program) (tm : TM) (bl : Bls) : List ResultVar → Option (Bool × List AV)
  | [] => some (true, [])
  | .tmp t :: r => (match resAll P tm bl r with
    | some (vc, xs) => some (vc, get tm t :: xs)
    | none => none)
  | .cell a t :: r => (match ti P t with
    | some T => (match get tm a with
      | .ptr l i w k => (match lvl bl l with
        | some c => (match rdCt c i w k T with
          | some (v1, x) => (match resAll P tm bl r with
            | some (vc, xs) => some (v1 && vc, x :: xs)
            | none => none)
          | none => none)
        | none => none)
      | _ => none)
    | none => none)
def tup1 : List AV → AV
  | [x] => x
  | xs => .tup xs
def resS (P : Program) (tm : TM) (bl : Bls) (rs : List ResultVar) : Option (Bool × AV) := match resAll P tm bl rs with
  | some (vc, xs) => some (vc, tup1 xs)
  | none => none
def exitS : Nat → List SI → Option (List SI)
  | _, [] => none
  | id, .blk id' :: k => if id = id' then some k else exitS id k
  | id, _ :: k => exitS id k
def gotoS : Nat → List SI → Option (List SI)
  | _, [] => none
  | l, .sc c :: k => (match findLabel c l with
    | some r => some (.code r :: .sc c :: k)
    | none => gotoS l k)
  | l, _ :: k => gotoS l k
def finishS (f : Fr) (r : AV) : Option Fr := match f with
  | ⟨fn, n, tm, k, rd, ms, lk⟩ => (match k with
    | .ops all (o :: os) _ :: k => some ⟨fn, n, put n tm o.dst r, .ops all os none :: k, rd, ms, lk⟩
    | .dr all ((i, _) :: rest) A _ :: k => (match nth all.toList i with
      | some o => some ⟨fn, n, put n tm o.dst r, .dr all rest A none :: k, rd, ms, lk⟩
      | none => none)
    | .rf l :: k => some ⟨fn, n, tm, .erf l :: k, rd, ms, lk⟩
    | _ => none)
def killL : List Nat → Bls → Bls
  | [], bl => bl
  | l :: r, bl => killL r (setl bl l none)
def isDefs (bl : Bls) : List Nat → Bool
  | [] => true
  | l :: r => (match lvl bl l with
    | some .defs => isDefs (setl bl l none) r
    | _ => false)
def retS (P : Program) (fn : FuncId) (tm : TM) (ms lk : List Nat) (fs : List Fr) (bl : Bls) : Out := match fi P fn with
  | some F => (if isDefs bl ms = true then (match resS P tm (killL ms bl) F.res with
    | some (vc, r) => (match fs with
      | [] => .fin vc r (killL ms bl)
      | g :: fs => (match finishS g r with
        | some g => .next vc ⟨g :: fs, killL ms bl⟩
        | none => .stop))
    | none => .stop) else .stop)
  | none => .stop
def endS (l : Nat) (jump : Option Code) (fs : List Fr) (bl : Bls) : Out := match lvl bl l with
  | some (.loop _ _ g n tm ps a b df) => (match fs with
    | g' :: fs => (match finishS g' (.v (.bool jump.isNone)) with
      | some g' => .next true ⟨g' :: fs, setl bl l (some (.loop (if jump.isNone then .ready else .done) jump g n tm ps a b df))⟩
      | none => .stop)
    | [] => .stop)
  | _ => .stop
def leaveS (P : Program) (fn : FuncId) (tm : TM) (rd : Option Nat) (ms lk : List Nat) (jump : Option Code) (fs : List Fr) (bl : Bls) : Out := match rd with
  | none => (match jump with
    | none => retS P fn tm ms lk fs bl
    | some .ret => retS P fn tm ms lk fs bl
    | _ => .stop)
  | some l => (match ms with
    | [] => endS l jump fs bl
    | _ => .stop)
def setPs : TM → List Nat → List AV → TM
  | tm, [], _ => tm
  | tm, _, [] => tm
  | tm, t :: ts, x :: xs => setPs ((t, x) :: tm) ts xs
def enterS (P : Program) (g : FuncId) (args : List AV) (lk : List Nat) (fs : List Fr) (bl : Bls) : Out := match fi P g with
  | some F => if args.length ≤ F.n then .next true ⟨⟨g, F.n, ini 0 args, [.code F.body], none, [], lk⟩ :: fs, bl⟩ else .stop
  | none => .stop
def roundS (l : Nat) (args : List AV) (lk : List Nat) (fs : List Fr) (bl : Bls) : Out := match lvl bl l with
  | some (.loop _ _ g n tm ps a b _) => if args.length = ps.length ∧ (ps.all fun p => decide (p < n)) = true then .next true ⟨⟨g, n, setPs tm ps args, [.code a, .br, .code b], some l, [], lk⟩ :: fs, bl⟩ else .stop
  | _ => .stop
abbrev KT := FuncId → Option (List AV → Bls → Option (Bool × AV × Bls))
def opS (P : Program) (K : KT) (f : Fr) (o : Oper) (k' : List SI) (lk : List Nat) (fs : List Fr) (bl : Bls) : Out := match f with
  | ⟨fn, n, tm, k, rd, ms, lk0⟩ => (match sop P tm bl lk o.op with
    | .val vc r bl' => .next vc ⟨⟨fn, n, put n tm o.dst r, k', rd, ms, lk0⟩ :: fs, bl'⟩
    | .call g args => (match K g with
      | some c => (match c args bl with
        | some (vc, r, bl') => .next (vc && alive bl bl' lk) ⟨⟨fn, n, put n tm o.dst r, k', rd, ms, lk0⟩ :: fs, bl'⟩
        | none => .stop)
      | none => enterS P g args lk (⟨fn, n, tm, k, rd, ms, lk0⟩ :: fs) bl)
    | .yld l args => roundS l args lk (⟨fn, n, tm, k, rd, ms, lk0⟩ :: fs) bl
    | .stop => .stop)
def stepS (P : Program) (K : KT) (pl : FuncId → Nat → Option Plan) (u : Bool) (drS : Fr → Array Oper → Plan → List (Nat × List Nat) → Option Bool → List SI → List Fr → Bls → Out) : Conf → Out
  | ⟨[], _⟩ => .stop
  | ⟨⟨fn, n, tm, k, rd, ms, lk⟩ :: fs, bl⟩ => (match k with
    | [] => leaveS P fn tm rd ms lk none fs bl
    | .code c :: k => (match c with
      | .skip => .next true ⟨⟨fn, n, tm, k, rd, ms, lk⟩ :: fs, bl⟩
      | .label _ => .next true ⟨⟨fn, n, tm, k, rd, ms, lk⟩ :: fs, bl⟩
      | .seq x y => .next true ⟨⟨fn, n, tm, .code x :: .code y :: k, rd, ms, lk⟩ :: fs, bl⟩
      | .block id c => .next true ⟨⟨fn, n, tm, .code c :: .blk id :: k, rd, ms, lk⟩ :: fs, bl⟩
      | .scope c => .next true ⟨⟨fn, n, tm, .code c :: .sc c :: k, rd, ms, lk⟩ :: fs, bl⟩
      | .loop c => (match u with
        | true => .next true ⟨⟨fn, n, tm, .code c :: .lp c :: k, rd, ms, lk⟩ :: fs, bl⟩
        | false => .stop)
      | .cond c x y => (match ev tm c with
        | .v (.bool b) => .split b ⟨⟨fn, n, tm, .code x :: k, rd, ms, lk⟩ :: fs, bl⟩ ⟨⟨fn, n, tm, .code y :: k, rd, ms, lk⟩ :: fs, bl⟩
        | _ => .stop)
      | .exit id => (match exitS id k with
        | some k => .next true ⟨⟨fn, n, tm, k, rd, ms, lk⟩ :: fs, bl⟩
        | none => leaveS P fn tm rd ms lk (some (.exit id)) fs bl)
      | .goto l => (match gotoS l k with
        | some k => .next true ⟨⟨fn, n, tm, k, rd, ms, lk⟩ :: fs, bl⟩
        | none => leaveS P fn tm rd ms lk (some (.goto l)) fs bl)
      | .ret => leaveS P fn tm rd ms lk (some .ret) fs bl
      | .region id all draw => (match draw with
        | false => .next true ⟨⟨fn, n, tm, .ops all all.toList none :: k, rd, ms, lk⟩ :: fs, bl⟩
        | true => (match pl fn id with
          | some p => .next true ⟨⟨fn, n, tm, .dr all p [] none :: k, rd, ms, lk⟩ :: fs, bl⟩
          | none => .stop))
      | .rangeFunc g ps a b => (match ev tm g with
        | .fn h fst caps => (match rd with
          | none => enterS P h (fst ++ (.yld (bl.length + 1) :: caps)) lk (⟨fn, n, tm, .rf (bl.length + 1) :: k, rd, bl.length :: ms, lk⟩ :: fs)
              (bl ++ [some .defs, some (.loop .ready none fn n tm ps.toList a b bl.length)])
          | some l0 => (match lvl bl l0 with
            | some (.loop _ _ _ _ _ _ _ _ df) => enterS P h (fst ++ (.yld bl.length :: caps)) lk (⟨fn, n, tm, .rf bl.length :: k, rd, ms, lk⟩ :: fs)
                (bl ++ [some (.loop .ready none fn n tm ps.toList a b df)])
            | _ => .stop))
        | _ => .stop)
      | .refuse _ => .stop)
    | .blk _ :: k => .next true ⟨⟨fn, n, tm, k, rd, ms, lk⟩ :: fs, bl⟩
    | .sc _ :: k => .next true ⟨⟨fn, n, tm, k, rd, ms, lk⟩ :: fs, bl⟩
    | .lp c :: k => (match u with
      | true => .next true ⟨⟨fn, n, tm, .code c :: .lp c :: k, rd, ms, lk⟩ :: fs, bl⟩
      | false => .stop)
    | .ops all os g :: k => (match os with
      | [] => .next true ⟨⟨fn, n, tm, k, rd, ms, lk⟩ :: fs, bl⟩
      | o :: os => (match wtS all n tm g o.guard with
        | .yes => opS P K ⟨fn, n, tm, .ops all (o :: os) (some true) :: k, rd, ms, lk⟩ o (.ops all os none :: k) lk fs bl
        | .no => .next true ⟨⟨fn, n, put n tm o.dst (.tup []), .ops all os none :: k, rd, ms, lk⟩ :: fs, bl⟩
        | .spl b want d => .split b ⟨⟨fn, n, (d, .v (.bool true)) :: tm, .ops all (o :: os) (some want) :: k, rd, ms, lk⟩ :: fs, bl⟩ ⟨⟨fn, n, (d, .v (.bool false)) :: tm, .ops all (o :: os) (some (!want)) :: k, rd, ms, lk⟩ :: fs, bl⟩
        | .bad => .stop))
    | .dr all plan A g :: k => drS ⟨fn, n, tm, .dr all plan A g :: k, rd, ms, lk⟩ all plan A g k fs bl
    | .rf _ :: _ => .stop
    | .erf l :: k => (match lvl bl l with
      | some (.loop st pend g n' tm' ps a b df) => if st = .busy then .stop else (match pend with
        | none => .next true ⟨⟨fn, n, tm, k, rd, ms, lk⟩ :: fs, setl bl l (some (.loop .exhausted none g n' tm' ps a b df))⟩
        | some c => .next true ⟨⟨fn, n, tm, .code c :: k, rd, ms, lk⟩ :: fs, setl bl l (some (.loop .exhausted (some c) g n' tm' ps a b df))⟩)
      | _ => .stop)
    | .br :: k => (match rd with
      | some l => (match lvl bl l with
        | some (.loop .ready pend g n' tm' ps a b df) => .next true ⟨⟨fn, n, tm, k, rd, ms, lk⟩ :: fs, setl bl l (some (.loop .busy pend g n' tm' ps a b df))⟩
        | _ => .stop)
      | none => .stop))
inductive Cls where
  | pure
  | load
  | eff
def cls (P : Program) (o : Op) : Cls := match o with
  | .load _ _ => .load
  | .slice _ _ _ _ _ => .load
  | .convert s d _ => (match ti P s, ti P d with
    | some S, some D => (match S.kd, D.kd with
      | _, .slice _ _ _ => .eff
      | .slice _ _ _, _ => .load
      | _, _ => .pure)
    | _, _ => .eff)
  | .move _ => .pure
  | .assign _ => .pure
  | .pick _ _ _ => .pure
  | .nilCheck _ => .pure
  | .binOp _ _ _ _ _ => .pure
  | .unOp _ _ _ => .pure
  | .fieldAddr _ _ _ => .pure
  | .indexAddr _ _ _ => .pure
  | .index _ _ _ => .pure
  | .makeFunc _ _ _ => .pure
  | .extract _ _ => .pure
  | .field _ _ _ => .pure
  | .build _ _ => .pure
  | .call c => (match c.callee with
    | .builtin .len => .pure
    | .builtin .cap => .pure
    | .builtin .min => .pure
    | .builtin .max => .pure
    | _ => .eff)
  | _ => .eff
def lvA : List Nat → List (Nat × List Nat) → List Nat
  | _, [] => []
  | un, (i, ls) :: r => if un.contains i = true then ls ++ lvA un r else lvA un r
def drS (P : Program) (K : KT) (f : Fr) (all : Array Oper) (plan : Plan) (A : List (Nat × List Nat)) (g : Option Bool) (k : List SI) (fs : List Fr) (bl : Bls) : Out := match f with
  | ⟨fn, n, tm, _, rd, ms, lk⟩ => (match plan with
    | [] => .next true ⟨⟨fn, n, tm, k, rd, ms, lk⟩ :: fs, bl⟩
    | (i, un) :: rest => (match nth all.toList i with
      | none => .stop
      | some o => (match wtS all n tm g o.guard with
        | .yes => (match cls P o.op with
          | .pure => (match pop P tm o.op with
            | some (vc, r) => .next vc ⟨⟨fn, n, put n tm o.dst r, .dr all rest A none :: k, rd, ms, lk⟩ :: fs, bl⟩
            | none => .stop)
          | .load => (match pop P tm o.op with
            | some (vc, r) => .next vc ⟨⟨fn, n, put n tm o.dst r, .dr all rest A none :: k, rd, ms, lk⟩ :: fs, bl⟩
            | none => (match lop P tm bl o.op with
              | some (vc, r) => .next vc ⟨⟨fn, n, put n tm o.dst r, .dr all rest ((i, rdl tm o.op) :: A) none :: k, rd, ms, lk⟩ :: fs, bl⟩
              | none => .stop))
          | .eff => opS P K ⟨fn, n, tm, .dr all ((i, un) :: rest) A (some true) :: k, rd, ms, lk⟩ o (.dr all rest A none :: k) (lvA un A ++ lk) fs bl)
        | .no => .next true ⟨⟨fn, n, put n tm o.dst (.tup []), .dr all rest A none :: k, rd, ms, lk⟩ :: fs, bl⟩
        | .spl b want d => .split b ⟨⟨fn, n, (d, .v (.bool true)) :: tm, .dr all plan A (some want) :: k, rd, ms, lk⟩ :: fs, bl⟩ ⟨⟨fn, n, (d, .v (.bool false)) :: tm, .dr all plan A (some (!want)) :: k, rd, ms, lk⟩ :: fs, bl⟩
        | .bad => .stop)))
abbrev stp (P : Program) (K : KT) (pl : FuncId → Nat → Option Plan) (u : Bool) : Conf → Out := stepS P K pl u (drS P K)
end Go.SY
/-
  The symbolic machine: what states stand for; regions that draw their order.
-/
namespace Go.SY
open Go
abbrev fr0 (fn : FuncId) (ro : Option Nat) : Frame := { fn := fn, tmps := #[], todo := [], defers := [], mode := .run, kind := .normal, roundOf := ro }
def IR (β : Env) (fn : FuncId) : SI → Item → Prop
  | .code c, y => y = .code c ∧ β.ck fn c
  | .blk id, y => y = .inBlock id
  | .lp c, y => y = .inLoop c ∧ β.ck fn c
  | .sc c, y => y = .inScope c ∧ β.ck fn c
  | .ops all os g, y => g = none ∧ ∃ m, os = all.toList.drop m ∧ y = .inRegion all (List.range' m (all.size - m))
  | .dr _ _ _ _, _ => False
  | .rf l, y => ∃ b s, β.b[l]? = some (some (b, s)) ∧ y = .inRangeFunc b
  | .erf l, y => ∃ b s, β.b[l]? = some (some (b, s)) ∧ y = .endRangeFunc b
  | .br, y => y = .beginRound
def KR (β : Env) (fn : FuncId) : List SI → List Item → Prop
  | [], t => t = []
  | x :: k, t => ∃ y t', t = y :: t' ∧ IR β fn x y ∧ KR β fn k t'
theorem IR.mono {β β' : Env} (h : β.le β') {fn : FuncId} {x : SI} {y : Item} (hx : IR β fn x y) : IR β' fn x y := by
  cases x with
  | code c => exact ⟨hx.1, by rw [h.ck]; exact hx.2⟩
  | lp c => exact ⟨hx.1, by rw [h.ck]; exact hx.2⟩
  | sc c => exact ⟨hx.1, by rw [h.ck]; exact hx.2⟩
  | rf l => obtain ⟨b, s, h1, h2⟩ := hx; exact ⟨b, s, h.at h1, h2⟩
  | erf l => obtain ⟨b, s, h1, h2⟩ := hx; exact ⟨b, s, h.at h1, h2⟩
  | _ => exact hx
theorem KR.mono {β β' : Env} (h : β.le β') {fn : FuncId} : ∀ {k : List SI} {t : List Item}, KR β fn k t → KR β' fn k t
  | [], _, hk => hk
  | _ :: _, _, ⟨y, t', e, h1, h2⟩ => ⟨y, t', e, h1.mono h, KR.mono h h2⟩
def WS (all : Array Oper) (n : Nat) (tm : TM) (g : Option (Nat × Bool)) (b : Bool) : Prop := match g with
  | none => b = true
  | some (j, want) => ∃ d, gdst all j = some d ∧ d < n ∧ (get tm d = .v (.bool (if b = true then want else !want)) ∨ (b = false ∧ get tm d = .tup []))
theorem WS.run {β : Env} {all : Array Oper} {n : Nat} {tm : TM} {tmps : Array Value} {o : Oper} {b : Bool} (hs : tmps.size = n) (hd : ∀ j want d, o.guard = some (j, want) → gdst all j = some d → Den β (get tm d) (tmps.getD d undef))
    (h : WS all n tm o.guard b) : Region.wanted o (yielded all tmps) = b := by
  unfold WS at h
  unfold Region.wanted
  split at h
  · rename_i hg; rw [hg, h]
  · rename_i j want hg
    obtain ⟨d, hj, hlt, hb⟩ := h
    have hv := hd j want d hg hj
    rw [hg]
    have hsz : d < tmps.size := by omega
    rw [gdst_eq] at hj
    rcases hb with hb | ⟨rfl, hb⟩
    · rw [hb] at hv
      simp only [Den] at hv
      have hget : tmps[d]? = some (.bool (if b = true then want else !want)) := by
        have := hv.1
        rw [Array.getD_eq_getD_getElem?, Array.getElem?_eq_getElem hsz] at this
        rw [Array.getElem?_eq_getElem hsz]; simpa using this
      simp only [yielded, hj, Option.bind_some, hget]
      cases b <;> cases want <;> rfl
    · rw [hb] at hv
      simp only [Den, DenL] at hv
      obtain ⟨ys, hv, rfl⟩ := hv
      have hget : tmps[d]? = some (.tuple [].toArray) := by
        have := hv
        rw [Array.getD_eq_getD_getElem?, Array.getElem?_eq_getElem hsz] at this
        rw [Array.getElem?_eq_getElem hsz]; simpa using this
      simp only [yielded, hj, Option.bind_some, hget]
      cases want <;> rfl
def after1 (o : Oper) (i : Nat) : Prop := ∃ e ∈ o.after, Region.binds .any e = true ∧ e.on = i
abbrev Pairs := List (Nat × Nat)
def aft (X : Pairs) (all : Array Oper) (j i : Nat) : Prop := (∃ o, all[j]? = some o ∧ after1 o i) ∨ (i, j) ∈ X
inductive Dep (X : Pairs) (all : Array Oper) (i : Nat) : Nat → Prop where
  | one {j : Nat} : aft X all j i → Dep X all i j
  | step {j k : Nat} : aft X all j k → Dep X all i k → Dep X all i j
def lks (all : Array Oper) (o : Oper) : List Nat := (o.op.operands.toList.filterMap fun | .tmp t => some t | _ => none) ++
  (match o.guard with
    | some (g, _) => (gdst all g).toList
    | none => [])
structure PR (P : Program) (X : Pairs) (all : Array Oper) (a b : Nat × List Nat) : Prop where
  sh : ∀ oa ob, all[a.1]? = some oa → all[b.1]? = some ob → ((∃ t, oa.dst = some t ∧ (t ∈ lks all ob ∨ ob.dst = some t)) ∨ (∃ t, ob.dst = some t ∧ t ∈ lks all oa)) → Dep X all a.1 b.1
  ef : ∀ oa, all[a.1]? = some oa → cls P oa.op = .eff → Dep X all a.1 b.1
  ld : ∀ oa ob, all[a.1]? = some oa → all[b.1]? = some ob → cls P oa.op = .load → cls P ob.op = .eff → Dep X all a.1 b.1 ∨ a.1 ∈ b.2
  ne : a.1 ≠ b.1
structure OrdX (P : Program) (X : Pairs) (all : Array Oper) (pl : Plan) : Prop where
  pw : pl.Pairwise (PR P X all)
  dp : ∀ l1 a l2, pl = l1 ++ a :: l2 → ∀ j, aft X all a.1 j → ∃ b ∈ l1, b.1 = j
  cm : ∀ i, i < all.size → ∃ a ∈ pl, a.1 = i
  ib : ∀ a ∈ pl, a.1 < all.size
  sl : ∀ (i : Nat) o, all[i]? = some o → (∀ cs b, o.op ≠ .select cs b) ∧ ∀ c, o.op ≠ .defer c
abbrev Ord (P : Program) (all : Array Oper) (pl : Plan) : Prop := OrdX P [] all pl
def Clo (X : Pairs) (all : Array Oper) (l : Array Bool) : Prop := ∀ (j k : Nat), l.getD j false = true → aft X all j k → l.getD k false = true
theorem Clo.dep {X : Pairs} {all : Array Oper} {l : Array Bool} (hc : Clo X all l) {i j : Nat} (hd : Dep X all i j) (hj : l.getD j false = true) : l.getD i false = true := by
  induction hd with
  | one ha => exact hc _ _ hj ha
  | step ha _ ih => exact ih (hc _ _ hj ha)
inductive Sched (X : Pairs) (all : Array Oper) : Array Bool → List Nat → Prop where
  | nil {l : Array Bool} : Region.ready .any all l = [] → Sched X all l []
  | cons {l : Array Bool} {i : Nat} {L : List Nat} : i ∈ Region.ready .any all l → (∀ k, (k, i) ∈ X → l.getD k false = true) → Sched X all (l.setIfInBounds i true) L → Sched X all l (i :: L)
def cnt (N : Nat) (l : Array Bool) : Nat := (List.range N).countP fun i => !l.getD i true
theorem countP_lt {p q : Nat → Bool} : ∀ (xs : List Nat) (i : Nat), (∀ j, q j = true → p j = true) → i ∈ xs → p i = true → q i = false → xs.countP q < xs.countP p
  | [], _, _, h, _, _ => by cases h
  | x :: xs, i, hpq, hi, hp, hq => by
    have mono : ∀ ys : List Nat, ys.countP q ≤ ys.countP p := fun ys => by
      induction ys with
      | nil => simp
      | cons y ys ih =>
        simp only [List.countP_cons]
        have := hpq y
        by_cases hy : q y = true
        · simp [hy, this hy]; exact ih
        · simp [hy]; split <;> omega
    simp only [List.countP_cons]
    rcases List.mem_cons.1 hi with rfl | hi
    · have := mono xs
      simp [hp, hq]; omega
    · have := countP_lt xs i hpq hi hp hq
      have h2 := hpq x
      by_cases hx : q x = true
      · simp [hx, h2 hx]; exact this
      · simp [hx]; split <;> omega
theorem sched_go {all : Array Oper} : ∀ (fuel t : Nat) (l : Array Bool), l.size = all.size → cnt all.size l ≤ fuel → Sched [] all l (Region.linearise.go .any all fuel t l []) := by
  intro fuel
  induction fuel with
  | zero =>
    intro t l hs hc
    simp only [Region.linearise.go, List.reverse_nil]
    refine .nil ?_
    cases hr : Region.ready .any all l with
    | nil => rfl
    | cons x xs =>
      exfalso
      have hx : x ∈ Region.ready .any all l := by rw [hr]; simp
      obtain ⟨h1, o, ho, -⟩ := mem_ready.1 hx
      have hlt : x < all.size := (Array.getElem?_eq_some_iff.1 ho).1
      have : 0 < cnt all.size l := by
        unfold cnt
        exact List.countP_pos_iff.2 ⟨x, List.mem_range.2 hlt, by simp [h1]⟩
      omega
  | succ fuel ih =>
    intro t l hs hc
    simp only [Region.linearise.go]
    change Sched [] all l (match (Region.ready .any all l)[t % (Region.ready .any all l).length]? with
      | some i => Region.linearise.go .any all fuel (t / (Region.ready .any all l).length) (l.setIfInBounds i true) [i]
      | none => [].reverse)
    cases hi : (Region.ready .any all l)[t % (Region.ready .any all l).length]? with
    | none =>
      have hnil : Region.ready .any all l = [] := by
        cases hr : Region.ready .any all l with
        | nil => rfl
        | cons x xs =>
          rw [hr] at hi
          have hlt : t % (x :: xs).length < (x :: xs).length := Nat.mod_lt _ (by simp)
          simp at hi
          simp at hlt
          omega
      exact .nil hnil
    | some i =>
      simp only []
      rw [linearise_go_acc, List.reverse_singleton, List.singleton_append]
      have hm := List.mem_of_getElem? hi
      refine .cons hm (fun k hk => by cases hk) (ih _ _ (by simpa using hs) ?_)
      obtain ⟨h1, o, ho, -⟩ := mem_ready.1 hm
      have hlt : i < all.size := (Array.getElem?_eq_some_iff.1 ho).1
      have : cnt all.size (l.setIfInBounds i true) < cnt all.size l := by
        unfold cnt
        refine countP_lt _ i (fun j hj => ?_) (List.mem_range.2 hlt) (by simp [h1]) (by simp [hs, hlt])
        by_cases e : i = j
        · subst e; simp [hs, hlt] at hj
        · simpa [Array.getElem?_setIfInBounds_ne e] using hj
      omega
theorem sched_init {all : Array Oper} (t : Nat) : Sched [] all (Array.replicate all.size false) (Region.linearise .any all t) := by
  unfold Region.linearise
  refine sched_go _ _ _ (by simp) ?_
  unfold cnt
  exact Nat.le_trans List.countP_le_length (by simp)
structure HE where
  i : Nat
  un : List Nat
  r : AV
  tm : TM
def opDst (all : Array Oper) (i : Nat) : Option Nat := (all[i]?).bind (·.dst)
def tmF (n : Nat) (all : Array Oper) (tm0 : TM) (M : Nat → Bool) : List HE → TM
  | [] => tm0
  | e :: h => match M e.i with
    | true => put n (tmF n all tm0 M h) (opDst all e.i) e.r
    | false => tmF n all tm0 M h
def Imp (tm tm' : TM) : Prop := ∀ β s v, Den β (get tm s) v → Den β (get tm' s) v
def HCh (n : Nat) (all : Array Oper) (tm0 : TM) : List HE → TM → Prop
  | [], tm => Imp tm0 tm
  | e :: h, tm => HCh n all tm0 h e.tm ∧ Imp (put n e.tm (opDst all e.i) e.r) tm
def hord (h : List HE) : Plan := (h.map fun e => (e.i, e.un)).reverse
theorem get_put {n : Nat} {tm : TM} {d : Option Nat} {x : AV} {s : Nat} : get (put n tm d x) s = if d = some s ∧ s < n then x else get tm s := by
  unfold put
  cases d with
  | none => simp
  | some d =>
    simp only
    by_cases hd : d < n
    · rw [if_pos hd]
      simp only [get]
      by_cases e : d = s
      · subst e; simp [hd]
      · simp [e]
    · rw [if_neg hd]
      by_cases e : d = s
      · subst e; simp [hd]
      · simp [e]
theorem Imp.put {n : Nat} {tm tm' : TM} (h : Imp tm tm') (d : Option Nat) (x : AV) : Imp (put n tm d x) (put n tm' d x) := by
  intro β s v hv
  rw [get_put] at hv ⊢
  split
  · rename_i hc; rw [if_pos hc] at hv; exact hv
  · rename_i hc; rw [if_neg hc] at hv; exact h β s v hv
theorem Imp.trans {a b c : TM} (h : Imp a b) (k : Imp b c) : Imp a c := fun β s v hv => k β s v (h β s v hv)
theorem HCh.imp {n : Nat} {all : Array Oper} {tm0 : TM} : ∀ {h : List HE} {tm : TM}, HCh n all tm0 h tm → Imp (tmF n all tm0 (fun _ => true) h) tm
  | [], _, h => h
  | _ :: _, _, ⟨h1, h2⟩ => (h1.imp.put _ _).trans h2
theorem HCh.weak {n : Nat} {all : Array Oper} {tm0 : TM} {h : List HE} {tm tm' : TM} (hc : HCh n all tm0 h tm) (hi : Imp tm tm') : HCh n all tm0 h tm' := by
  cases h with
  | nil => exact Imp.trans hc hi
  | cons e h => exact ⟨hc.1, hc.2.trans hi⟩
structure Fact (P : Program) (β : Env) (bl : Bls) (all : Array Oper) (n : Nat) (A : List (Nat × List Nat)) (e : HE) : Prop where
  gh : ∃ gt, TmOk β n e.tm gt
  ex : ∃ o, all[e.i]? = some o ∧ ((WS all n e.tm o.guard true ∧ (pop P e.tm o.op = some (true, e.r) ∨ (lop P e.tm bl o.op = some (true, e.r) ∧ cls P o.op = .load ∧ (e.i, rdl e.tm o.op) ∈ A))) ∨ (WS all n e.tm o.guard false ∧ e.r = .tup []))
def DrR (P : Program) (β : Env) (bl : Bls) (pr : Option (List Nat)) (n : Nat) (tm : TM) (all : Array Oper) (plan : Plan) (A : List (Nat × List Nat)) (tmps : Array Value) (L : List Nat) : Prop :=
  ∃ (X : Pairs) (tm0 : TM) (h : List HE) (l : Array Bool), l.size = all.size ∧ Sched X all l L ∧ Clo X all l ∧ (∀ p ∈ plan, l.getD p.1 false = false) ∧ OrdX P X all (hord h ++ plan) ∧ HCh n all tm0 h tm ∧
    TmOk β n (tmF n all tm0 (fun i => l.getD i false) h) tmps ∧ (∀ e ∈ h, l.getD e.i false = false → Fact P β bl all n A e) ∧ (∃ gt, TmOk β n tm gt) ∧
    (match pr with
      | none => True
      | some lk => (∃ i un rest L', plan = (i, un) :: rest ∧ L = i :: L' ∧ ∀ o, all[i]? = some o → cls P o.op = .eff) ∧ ∀ e ∈ h, l.getD e.i false = false → ∀ ls, (e.i, ls) ∈ A → ∀ o, all[e.i]? = some o → cls P o.op = .load → ls = rdl e.tm o.op → ∀ q ∈ ls, q ∈ lk)
theorem mem_hord {h : List HE} {e : HE} (he : e ∈ h) : (e.i, e.un) ∈ hord h := by
  unfold hord
  rw [List.mem_reverse]
  exact List.mem_map.2 ⟨e, he, rfl⟩
theorem of_hord {h : List HE} {p : Nat × List Nat} (hp : p ∈ hord h) : ∃ e ∈ h, (e.i, e.un) = p := by
  unfold hord at hp
  rw [List.mem_reverse] at hp
  exact List.mem_map.1 hp
theorem hord_app (h2 h1 : List HE) : hord (h2 ++ h1) = hord h1 ++ hord h2 := by simp [hord]
section
variable {P : Program} {all : Array Oper} {n : Nat} {tm0 : TM} {l : Array Bool} {plan : Plan} {X : Pairs}
theorem tmF_skip {M : Nat → Bool} {t : Nat} {g : List HE} : ∀ {h : List HE}, (∀ e ∈ h, M e.i = true → opDst all e.i ≠ some t) → get (tmF n all tm0 M (h ++ g)) t = get (tmF n all tm0 M g) t
  | [], _ => rfl
  | e :: h, hn => by
    have ih := tmF_skip (g := g) (h := h) (fun e' he => hn e' (by simp [he]))
    simp only [List.cons_append, tmF]
    split
    · rename_i hm
      rw [get_put, if_neg (fun hc => hn e (by simp) hm hc.1)]
      exact ih
    · exact ih
theorem tmF_all {M M' : Nat → Bool} {t : Nat} : ∀ {h : List HE}, (∀ e ∈ h, opDst all e.i = some t → M e.i = M' e.i) → get (tmF n all tm0 M h) t = get (tmF n all tm0 M' h) t
  | [], _ => rfl
  | e :: h, hm => by
    have ih := tmF_all (M := M) (M' := M') (h := h) (fun e' he => hm e' (by simp [he]))
    simp only [tmF]
    by_cases hd : opDst all e.i = some t
    · rw [hm e (by simp) hd]
      cases M' e.i
      · exact ih
      · simp only; rw [get_put, get_put]; split
        · rfl
        · exact ih
    · have h1 : ∀ (b : Bool) (q : TM), get (match b with
        | true => put n q (opDst all e.i) e.r
        | false => q) t = get q t := fun b q => by
        cases b
        · rfl
        · simp only; rw [get_put, if_neg (fun hc => hd hc.1)]
      rw [h1, h1]; exact ih
theorem pw_of {h2 h1 : List HE} {e : HE} (ho : OrdX P X all (hord (h2 ++ e :: h1) ++ plan)) : (∀ e' ∈ h1, PR P X all (e'.i, e'.un) (e.i, e.un)) ∧ (∀ e' ∈ h2, PR P X all (e.i, e.un) (e'.i, e'.un)) := by
  have hp := ho.pw
  rw [hord_app] at hp
  have e1 : hord (e :: h1) = hord h1 ++ [(e.i, e.un)] := by simp [hord]
  rw [e1] at hp
  have hp' : (hord h1 ++ ((e.i, e.un) :: (hord h2 ++ plan))).Pairwise (PR P X all) := by simpa using hp
  rw [List.pairwise_append] at hp'
  obtain ⟨-, h3, h4⟩ := hp'
  rw [List.pairwise_cons] at h3
  refine ⟨fun e' he => h4 _ (mem_hord he) _ (by simp), fun e' he => h3.1 _ ?_⟩
  exact List.mem_append_left _ (mem_hord he)
theorem look_get {h2 h1 : List HE} {e : HE} {o : Oper} {t : Nat} (ho : OrdX P X all (hord (h2 ++ e :: h1) ++ plan)) (hc : Clo X all l) (hoe : all[e.i]? = some o) (hl : l.getD e.i false = false)
    (hdeps : ∀ j, Dep X all j e.i → l.getD j false = true) (ht : t ∈ lks all o) :
    get (tmF n all tm0 (fun i => l.getD i false) (h2 ++ e :: h1)) t = get (tmF n all tm0 (fun _ => true) h1) t := by
  obtain ⟨p1, p2⟩ := pw_of ho
  have s1 : get (tmF n all tm0 (fun i => l.getD i false) (h2 ++ e :: h1)) t = get (tmF n all tm0 (fun i => l.getD i false) (e :: h1)) t := by
    refine tmF_skip fun e' he hm hd => ?_
    obtain ⟨o', ho', hd'⟩ := Option.bind_eq_some_iff.1 hd
    have := (p2 e' he).sh o o' hoe ho' (.inr ⟨t, hd', ht⟩)
    have := hc.dep this hm
    rw [hl] at this; cases this
  rw [s1]
  have s2 : tmF n all tm0 (fun i => l.getD i false) (e :: h1) = tmF n all tm0 (fun i => l.getD i false) h1 := by
    simp only [tmF, hl]
  rw [s2]
  refine tmF_all fun e' he hd => ?_
  obtain ⟨o', ho', hd'⟩ := Option.bind_eq_some_iff.1 hd
  exact hdeps _ ((p1 e' he).sh o' o ho' hoe (.inl ⟨t, hd', .inl ht⟩))
theorem tmF_done {β : Env} {h2 h1 : List HE} {e : HE} {o : Oper} {tmps : Array Value} {y : Value} (ho : OrdX P X all (hord (h2 ++ e :: h1) ++ plan)) (hc : Clo X all l) (hs : l.size = all.size) (hoe : all[e.i]? = some o) (hl : l.getD e.i false = false)
    (htm : TmOk β n (tmF n all tm0 (fun i => l.getD i false) (h2 ++ e :: h1)) tmps) (hy : Den β e.r y) :
    TmOk β n (tmF n all tm0 (fun i => (l.setIfInBounds e.i true).getD i false) (h2 ++ e :: h1)) (match o.dst with
      | some d => tmps.setIfInBounds d y
      | none => tmps) := by
  obtain ⟨p1, p2⟩ := pw_of ho
  have hlt : e.i < all.size := (Array.getElem?_eq_some_iff.1 hoe).1
  have hne : ∀ j, j ≠ e.i → (l.setIfInBounds e.i true).getD j false = l.getD j false := fun j hj => by
    simp [Array.getElem?_setIfInBounds_ne (Ne.symm hj)]
  have hse : (l.setIfInBounds e.i true).getD e.i false = true := by simp [hs, hlt]
  have hdst : opDst all e.i = o.dst := by simp [opDst, hoe]
  have other : ∀ e' ∈ h2 ++ h1, e'.i ≠ e.i := fun e' he' => by
    rcases List.mem_append.1 he' with h | h
    · exact fun eq => (p2 e' h).ne eq.symm
    · exact (p1 e' h).ne
  -- slots that it does not write
  have keep : ∀ s, o.dst ≠ some s → get (tmF n all tm0 (fun i => (l.setIfInBounds e.i true).getD i false) (h2 ++ e :: h1)) s = get (tmF n all tm0 (fun i => l.getD i false) (h2 ++ e :: h1)) s := by
    intro s hsn
    refine tmF_all fun e' he hd => ?_
    by_cases eq : e'.i = e.i
    · rw [eq, hdst] at hd; exact absurd hd hsn
    · exact hne _ eq
  have size : (match o.dst with
      | some d => tmps.setIfInBounds d y
      | none => tmps).size = n := by cases o.dst <;> simp [htm.1]
  refine ⟨size, fun s => ?_⟩
  by_cases hsd : o.dst = some s
  · by_cases hsn : s < n
    · have hg : get (tmF n all tm0 (fun i => (l.setIfInBounds e.i true).getD i false) (h2 ++ e :: h1)) s = e.r := by
        have s1 : get (tmF n all tm0 (fun i => (l.setIfInBounds e.i true).getD i false) (h2 ++ e :: h1)) s = get (tmF n all tm0 (fun i => (l.setIfInBounds e.i true).getD i false) (e :: h1)) s := by
          refine tmF_skip fun e' he hm hd => ?_
          obtain ⟨o', ho', hd'⟩ := Option.bind_eq_some_iff.1 hd
          have hdep := (p2 e' he).sh o o' hoe ho' (.inl ⟨s, hsd, .inr hd'⟩)
          rw [hne _ (other e' (by simp [he]))] at hm
          have := hc.dep hdep hm
          rw [hl] at this; cases this
        rw [s1]
        simp only [tmF, hse]
        rw [get_put, if_pos ⟨by rw [hdst, hsd], hsn⟩]
      rw [hg, hsd]
      simp only
      rw [Array.getD_eq_getD_getElem?, Array.getElem?_setIfInBounds_self_of_lt (by rw [htm.1]; exact hsn)]
      exact hy
    · -- beyond the slots
      have hg : get (tmF n all tm0 (fun i => (l.setIfInBounds e.i true).getD i false) (h2 ++ e :: h1)) s = get (tmF n all tm0 (fun i => l.getD i false) (h2 ++ e :: h1)) s := by
        have gen : ∀ (M M' : Nat → Bool) (h : List HE), get (tmF n all tm0 M h) s = get (tmF n all tm0 M' h) s := by
          intro M M' h
          induction h with
          | nil => rfl
          | cons a h ih =>
            have h1 : ∀ (b : Bool) (q : TM), get (match b with
              | true => put n q (opDst all a.i) a.r
              | false => q) s = get q s := fun b q => by
              cases b
              · rfl
              · simp only; rw [get_put, if_neg (fun hc => hsn hc.2)]
            simp only [tmF]
            rw [h1, h1]; exact ih
        exact gen _ _ _
      rw [hg, hsd]
      simp only
      have e1 : tmps.setIfInBounds s y = tmps := by simp [Array.setIfInBounds, htm.1, hsn]
      rw [e1]
      exact htm.2 s
  · rw [keep s hsd]
    have e1 : (match o.dst with
      | some d => tmps.setIfInBounds d y
      | none => tmps).getD s undef = tmps.getD s undef := by
      cases hd : o.dst with
      | none => rfl
      | some d =>
        have : d ≠ s := fun e => hsd (by rw [hd, e])
        simp only
        rw [Array.getD_eq_getD_getElem?, Array.getElem?_setIfInBounds_ne this, ← Array.getD_eq_getD_getElem?]
    rw [e1]
    exact htm.2 s
theorem getD_listed {i j : Nat} (h : l.getD j false = true) : (l.setIfInBounds i true).getD j false = true := getD_set_true h
theorem ready_aft {i : Nat} (hr : i ∈ Region.ready .any all l) (hx : ∀ k, (k, i) ∈ X → l.getD k false = true) : ∀ k, aft X all i k → l.getD k false = true := by
  obtain ⟨h1, o, ho, hall⟩ := mem_ready.1 hr
  rintro k (⟨o', ho', ha⟩ | ha)
  · rw [ho] at ho'
    obtain rfl := Option.some.inj ho'
    obtain ⟨e, he, hb, rfl⟩ := ha
    exact hall e he hb
  · exact hx k ha
theorem Clo.set {i : Nat} (hc : Clo X all l) (hs : l.size = all.size) (hr : i ∈ Region.ready .any all l) (hx : ∀ k, (k, i) ∈ X → l.getD k false = true) : Clo X all (l.setIfInBounds i true) := by
  intro j k hj ha
  by_cases e : i = j
  · subst e
    exact getD_set_true (ready_aft hr hx k ha)
  · have : l.getD j false = true := by simpa [Array.getElem?_setIfInBounds_ne e] using hj
    exact getD_set_true (hc j k this ha)
theorem ready_deps {i : Nat} (hc : Clo X all l) (hr : i ∈ Region.ready .any all l) (hx : ∀ k, (k, i) ∈ X → l.getD k false = true) : ∀ j, Dep X all j i → l.getD j false = true := by
  intro j hd
  cases hd with
  | one ha => exact ready_aft hr hx j ha
  | step ha hd => exact hc.dep hd (ready_aft hr hx _ ha)
theorem ready_not {i : Nat} (hs : l.size = all.size) (hr : i ∈ Region.ready .any all l) : l.getD i false = false ∧ i < all.size := by
  obtain ⟨h1, o, ho, -⟩ := mem_ready.1 hr
  have hlt : i < all.size := (Array.getElem?_eq_some_iff.1 ho).1
  refine ⟨?_, hlt⟩
  have : i < l.size := by omega
  simpa [this] using h1
theorem all_done {pl : Plan} (ho : OrdX P X all pl) (hs : l.size = all.size) (hr : Region.ready .any all l = []) : ∀ a ∈ pl, l.getD a.1 false = true := by
  have key : ∀ (l2 l1 : Plan), pl = l1 ++ l2 → (∀ a ∈ l1, l.getD a.1 false = true) → ∀ a ∈ l2, l.getD a.1 false = true := by
    intro l2
    induction l2 with
    | nil => intro l1 _ _ a ha; cases ha
    | cons x l2 ih =>
      intro l1 he hl1
      have hx : l.getD x.1 false = true := by
        apply Decidable.byContradiction
        intro hn
        have hlt := ho.ib x (by rw [he]; simp)
        have hxr : x.1 ∈ Region.ready .any all l := by
          refine mem_ready.2 ⟨?_, all[x.1], Array.getElem?_eq_getElem hlt, fun e he' hb => ?_⟩
          · have : x.1 < l.size := by omega
            simpa [this] using hn
          · obtain ⟨b, hb1, hb2⟩ := ho.dp l1 x l2 he e.on (.inl ⟨_, Array.getElem?_eq_getElem hlt, e, he', hb, rfl⟩)
            rw [← hb2]; exact hl1 b hb1
        rw [hr] at hxr; cases hxr
      intro a ha
      rcases List.mem_cons.1 ha with rfl | ha
      · exact hx
      · exact ih (l1 ++ [x]) (by rw [he]; simp) (fun b hb => by
          rcases List.mem_append.1 hb with h | h
          · exact hl1 b h
          · rw [List.mem_singleton.1 h]; exact hx) a ha
  exact key pl [] rfl (fun a ha => by cases ha)
end
theorem Sched.pair {all : Array Oper} {X : Pairs} {a b : Nat} {l : Array Bool} {L : List Nat} (hl : l.getD a false = true) (h : Sched X all l L) : Sched ((a, b) :: X) all l L := by
  induction h with
  | nil hr => exact .nil hr
  | cons hr hx _ ih =>
    refine .cons hr (fun k hk => ?_) (ih (getD_listed hl))
    rcases List.mem_cons.1 hk with e | hk
    · obtain ⟨rfl, rfl⟩ := Prod.mk.inj e
      exact hl
    · exact hx k hk
theorem Sched.either {all : Array Oper} {X : Pairs} {a b : Nat} (hab : a ≠ b) {l : Array Bool} {L : List Nat} (hs : l.size = all.size) (h : Sched X all l L) : l.getD a false = false → l.getD b false = false → Sched ((a, b) :: X) all l L ∨ Sched ((b, a) :: X) all l L := by
  induction h with
  | nil hr => exact fun _ _ => .inl (.nil hr)
  | @cons l i L hr hx hL ih =>
    intro ha hb
    have hlt := (ready_not hs hr).2
    have set_i : (l.setIfInBounds i true).getD i false = true := by simp [hs, hlt]
    have set_n : ∀ j, j ≠ i → (l.setIfInBounds i true).getD j false = l.getD j false := fun j hj => by simp [Array.getElem?_setIfInBounds_ne (Ne.symm hj)]
    by_cases e1 : i = a
    · subst e1
      refine .inl (.cons hr (fun k hk => ?_) (hL.pair set_i))
      rcases List.mem_cons.1 hk with e | hk
      · exact absurd (Prod.mk.inj e).2 hab
      · exact hx k hk
    · by_cases e2 : i = b
      · subst e2
        refine .inr (.cons hr (fun k hk => ?_) (hL.pair set_i))
        rcases List.mem_cons.1 hk with e | hk
        · exact absurd (Prod.mk.inj e).2 (Ne.symm hab)
        · exact hx k hk
      · rcases ih (by simpa using hs) (by rw [set_n _ (Ne.symm e1)]; exact ha) (by rw [set_n _ (Ne.symm e2)]; exact hb) with h | h
        · refine .inl (.cons hr (fun k hk => ?_) h)
          rcases List.mem_cons.1 hk with e | hk
          · exact absurd (Prod.mk.inj e).2 e2
          · exact hx k hk
        · refine .inr (.cons hr (fun k hk => ?_) h)
          rcases List.mem_cons.1 hk with e | hk
          · exact absurd (Prod.mk.inj e).2 e1
          · exact hx k hk
end Go.SY
/-
  The symbolic machine: regions that draw their order: their steps.
-/
namespace Go.SY
open Go
theorem HCh.mid {n : Nat} {all : Array Oper} {tm0 : TM} {e : HE} {h1 : List HE} : ∀ {h2 : List HE} {tm : TM}, HCh n all tm0 (h2 ++ e :: h1) tm → HCh n all tm0 h1 e.tm
  | [], _, h => h.1
  | _ :: h2, _, h => HCh.mid (h2 := h2) h.1
theorem tmF_true {n : Nat} {all : Array Oper} {tm0 : TM} {M : Nat → Bool} : ∀ {h : List HE}, (∀ e ∈ h, M e.i = true) → tmF n all tm0 M h = tmF n all tm0 (fun _ => true) h
  | [], _ => rfl
  | e :: h, hm => by
    have h1 := hm e (by simp)
    simp only [tmF, h1]
    rw [tmF_true fun e' he => hm e' (by simp [he])]
theorem Imp.tm {β : Env} {n : Nat} {tm tm' : TM} {tmps : Array Value} (h : Imp tm tm') (ht : TmOk β n tm tmps) : TmOk β n tm' tmps := ⟨ht.1, fun s => h β s _ (ht.2 s)⟩
theorem TmOk.put {β : Env} {n : Nat} {tm : TM} {tmps : Array Value} (h : TmOk β n tm tmps) {r : AV} {y : Value} (hy : Den β r y) (d : Option Nat) : TmOk β n (put n tm d r) (match d with
    | some d => tmps.setIfInBounds d y
    | none => tmps) := by
  cases d with
  | none => exact h
  | some d =>
    refine ⟨by simp [h.1], fun s => ?_⟩
    rw [get_put]
    simp only
    by_cases e : d = s
    · subst e
      by_cases hd : d < n
      · rw [if_pos ⟨rfl, hd⟩, Array.getD_eq_getD_getElem?, Array.getElem?_setIfInBounds_self_of_lt (by rw [h.1]; exact hd)]
        exact hy
      · rw [if_neg (fun hc => hd hc.2)]
        have e1 : tmps.setIfInBounds d y = tmps := by simp [Array.setIfInBounds, h.1, hd]
        rw [e1]; exact h.2 d
    · rw [if_neg (fun hc => e (Option.some.inj hc.1)), Array.getD_eq_getD_getElem?, Array.getElem?_setIfInBounds_ne e, ← Array.getD_eq_getD_getElem?]
      exact h.2 s
def FactP (P : Program) (bl : Bls) (n : Nat) (all : Array Oper) (tm : TM) (i : Nat) (o : Oper) (A : List (Nat × List Nat)) (r : AV) : Prop :=
  (WS all n tm o.guard true ∧ (pop P tm o.op = some (true, r) ∨ (lop P tm bl o.op = some (true, r) ∧ cls P o.op = .load ∧ (i, rdl tm o.op) ∈ A))) ∨ (WS all n tm o.guard false ∧ r = .tup [])
section
variable {P : Program} {β : Env} {bl : Bls} {n : Nat} {tm : TM} {all : Array Oper} {plan rest : Plan} {A A' : List (Nat × List Nat)} {tmps : Array Value} {L : List Nat} {i : Nat} {un : List Nat} {o : Oper} {r : AV} {w : World}
theorem DrR.float (hd : DrR P β bl none n tm all ((i, un) :: rest) A tmps L) (ho : all[i]? = some o) (hf : FactP P bl n all tm i o A' r) (hA : ∀ p ∈ A, p ∈ A') (hy : ∃ y, Den β r y) :
    DrR P β bl none n (put n tm o.dst r) all rest A' tmps L := by
  obtain ⟨X, tm0, h, l, hs, hsc, hc, hp, hord', hch, htm, hfa, ⟨gt, hgt⟩, -⟩ := hd
  obtain ⟨y, hy⟩ := hy
  have hl : l.getD i false = false := hp (i, un) (by simp)
  have hdst : opDst all i = o.dst := by simp [opDst, ho]
  refine ⟨X, tm0, ⟨i, un, r, tm⟩ :: h, l, hs, hsc, hc, fun p hp' => hp p (by simp [hp']), ?_, ⟨hch, ?_⟩, ?_, fun e he hle => ?_, ⟨_, hgt.put hy o.dst⟩, trivial⟩
  · have : hord (⟨i, un, r, tm⟩ :: h) ++ rest = hord h ++ (i, un) :: rest := by simp [SY.hord]
    rw [this]; exact hord'
  · simp only [hdst]; exact fun _ _ _ h => h
  · simp only [tmF, hl]; exact htm
  · rcases List.mem_cons.1 he with rfl | he
    · exact ⟨⟨gt, hgt⟩, o, ho, hf⟩
    · obtain ⟨hg, o', ho', hf'⟩ := hfa e he hle
      refine ⟨hg, o', ho', ?_⟩
      rcases hf' with ⟨h1, h2⟩ | h1
      · rcases h2 with h2 | ⟨h2, h3, h4⟩
        · exact .inl ⟨h1, .inl h2⟩
        · exact .inl ⟨h1, .inr ⟨h2, h3, hA _ h4⟩⟩
      · exact .inr h1
structure Poised (β : Env) (n : Nat) (tm : TM) (all : Array Oper) (o : Oper) (tmps : Array Value) : Prop where
  ev : ∃ ρ, EvOk β tm ρ ∧ execOp ρ o = execOp (evT tmps) o
  wt : ∀ b, WS all n tm o.guard b → Region.wanted o (yielded all tmps) = b
theorem TmOk.poised (h : TmOk β n tm tmps) (all : Array Oper) (o : Oper) : Poised β n tm all o tmps :=
  ⟨⟨_, h.ev, rfl⟩, fun b hb => WS.run h.1 (fun _ _ d _ _ => h.2 d) hb⟩
theorem poised_of {gt : Array Value} (hs : tmps.size = n) (hg : TmOk β n tm gt) (hsel : ∀ cs b, o.op ≠ .select cs b) (hk : ∀ t ∈ lks all o, Den β (get tm t) (tmps.getD t undef)) : Poised β n tm all o tmps := by
  classical
  refine ⟨⟨fun x => if x ∈ o.op.operands then evT tmps x else evT gt x, fun x => ?_, execOp_congr o hsel fun x hx => by simp [hx]⟩, fun b hb => WS.run (β := β) hs (fun j want d hg' hj => ?_) hb⟩
  · simp only
    split
    · rename_i hx
      cases x with
      | tmp t =>
        refine hk t ?_
        unfold lks
        refine List.mem_append_left _ (List.mem_filterMap.2 ⟨.tmp t, by simpa using hx, rfl⟩)
      | const v => exact hg.ev (.const v)
      | global g => exact hg.ev (.global g)
      | func f => exact hg.ev (.func f)
    · exact hg.ev x
  · refine hk d ?_
    unfold lks
    refine List.mem_append_right _ ?_
    rw [hg']
    simp [hj]
theorem look_den {tm0 : TM} {h2 h1 : List HE} {e : HE} {l : Array Bool} {X : Pairs} (ho : OrdX P X all (hord (h2 ++ e :: h1) ++ plan)) (hc : Clo X all l) (hoe : all[e.i]? = some o) (hl : l.getD e.i false = false)
    (hdeps : ∀ j, Dep X all j e.i → l.getD j false = true) (hch : HCh n all tm0 h1 e.tm) (htm : TmOk β n (tmF n all tm0 (fun i => l.getD i false) (h2 ++ e :: h1)) tmps) {t : Nat} (ht : t ∈ lks all o) :
    Den β (get e.tm t) (tmps.getD t undef) := by
  have h1' := htm.2 t
  rw [look_get ho hc hoe hl hdeps ht] at h1'
  exact hch.imp β t _ h1'
theorem DrR.run1 {j : Nat} (hd : DrR P β bl none n tm all plan A tmps (j :: L)) (hh : Heap β bl w) (hj : ∀ p ∈ plan, p.1 ≠ j) (fn : FuncId) (ro : Option Nat) (ds : List Deferred) (t : List Item) (cs : List Frame) :
    ∃ tmps', step P (lone ((fr0 fn ro).atR ⟨tmps, ds⟩ (.inRegion all (j :: L) :: t)) cs w) = .next (lone ((fr0 fn ro).atR ⟨tmps', ds⟩ (.inRegion all L :: t)) cs w) ∧ DrR P β bl none n tm all plan A tmps' L := by
  obtain ⟨X, tm0, h, l, hs, hsc, hc, hp, hord', hch, htm, hfa, hgh, -⟩ := hd
  cases hsc with
  | cons hr hxx hsc =>
    obtain ⟨hl, hlt⟩ := ready_not hs hr
    have hdeps := ready_deps hc hr hxx
    obtain ⟨a, ha, hai⟩ := hord'.cm j hlt
    have hah : a ∈ hord h := by
      rcases List.mem_append.1 ha with h1 | h1
      · exact h1
      · exact absurd hai (hj a h1)
    obtain ⟨e, he, rfl⟩ := of_hord hah
    simp only at hai
    obtain ⟨h2, h1, rfl⟩ := List.append_of_mem he
    subst hai
    obtain ⟨⟨gt, hgt⟩, o, ho, hf⟩ := hfa e he hl
    have hlook : ∀ t ∈ lks all o, Den β (get e.tm t) (tmps.getD t undef) := fun t ht => look_den hord' hc ho hl hdeps hch.mid htm ht
    have hpo := poised_of htm.1 hgt (hord'.sl _ _ ho).1 hlook
    have fin : ∀ y, Den β e.r y → DrR P β bl none n tm all plan A (match o.dst with
        | some d => tmps.setIfInBounds d y
        | none => tmps) L := fun y hy =>
      ⟨X, tm0, h2 ++ e :: h1, l.setIfInBounds e.i true, by simp [hs], hsc, hc.set hs hr hxx, fun p hp' => by
        simpa [Array.getElem?_setIfInBounds_ne (Ne.symm (hj p hp'))] using hp p hp', hord', hch, tmF_done hord' hc hs ho hl htm hy, fun e' he' hle => hfa e' he' (by
          apply Decidable.byContradiction
          intro hn
          have := getD_listed (i := e.i) (by simpa using hn : l.getD e'.i false = true)
          rw [hle] at this; cases this), hgh, trivial⟩
    have eput : ∀ y, (Act.put ⟨tmps, ds⟩ o.dst y : Act) = ⟨match o.dst with
        | some d => tmps.setIfInBounds d y
        | none => tmps, ds⟩ := fun y => by cases o.dst <;> rfl
    rcases hf with ⟨hw, hf⟩ | ⟨hw, hr'⟩
    · obtain ⟨ρ, hev, hex⟩ := hpo.ev
      have hwt := hpo.wt true hw
      have : ∃ y, Den β e.r y ∧ (execOp (evT tmps) o).run P w = .ok (.value y) w := by
        rw [← hex]
        rcases hf with hf | ⟨hf, -, -⟩
        · obtain ⟨y, hy, hrun⟩ := pop_sound hev hf rfl
          exact ⟨y, hy, hrun w⟩
        · exact lop_sound hev hh hf rfl
      obtain ⟨y, hy, hrun⟩ := this
      refine ⟨_, ?_, fin y hy⟩
      have hg := stepGR_op (P := P) (b := fr0 fn ro) (a := ⟨tmps, ds⟩) (k := t) (cs := cs) (w := w) (rest := L) ho hwt
      rw [Oper.semAt_eq _ _ _ (hord'.sl _ _ ho).2] at hg
      refine step_lone_go ?_
      have he : (Act.eval ⟨tmps, ds⟩ : Operand → Value) = evT tmps := by funext x; cases x <;> rfl
      have hfin := Frame.finish_atR (fr0 fn ro) ⟨tmps, ds⟩ all e.i L t y
      rw [ho] at hfin
      simp only [Option.bind_some, eput] at hfin
      rw [hg, he, ← hfin]
      simp [stepG.apply, hrun]
    · have hwt := hpo.wt false hw
      refine ⟨_, ?_, fin undef (by rw [hr']; simp only [Den, DenL]; exact ⟨[], rfl, rfl⟩)⟩
      have hst := stepR_op_skip (P := P) (b := fr0 fn ro) (a := ⟨tmps, ds⟩) (k := t) (cs := cs) (w := w) (ops := all) (i := e.i) (rest := L) (by simp [ho, hwt])
      rw [hst, ho]
      simp only [Option.bind_some, eput]
theorem DrR.catch (hh : Heap β bl w) (ho : all[i]? = some o) (hcl : cls P o.op = .eff) (fn : FuncId) (ro : Option Nat) (ds : List Deferred) (t : List Item) (cs : List Frame) : ∀ (L : List Nat) (tmps : Array Value), DrR P β bl none n tm all ((i, un) :: rest) A tmps L →
    ∃ tmps' L', Steps P (lone ((fr0 fn ro).atR ⟨tmps, ds⟩ (.inRegion all L :: t)) cs w) (lone ((fr0 fn ro).atR ⟨tmps', ds⟩ (.inRegion all (i :: L') :: t)) cs w) ∧ DrR P β bl none n tm all ((i, un) :: rest) A tmps' (i :: L')
  | [], tmps, hd => by
    obtain ⟨X, tm0, h, l, hs, hsc, hc, hp, hord', hch, htm, hfa, hgh, -⟩ := hd
    cases hsc with
    | nil hr =>
      have := all_done hord' hs hr (i, un) (by simp)
      rw [hp (i, un) (by simp)] at this; cases this
  | j :: L, tmps, hd => by
    by_cases e : j = i
    · subst e; exact ⟨tmps, L, .refl _ _, hd⟩
    · have hj : ∀ p ∈ (i, un) :: rest, p.1 ≠ j := by
        obtain ⟨X, tm0, h, l, hs, hsc, hc, hp, hord', hch, htm, hfa, hgh, -⟩ := hd
        intro p hp' e'
        rcases List.mem_cons.1 hp' with rfl | hp'
        · exact e e'.symm
        · cases hsc with
          | cons hr hxx hsc =>
            have hpw := (List.pairwise_append.1 hord'.pw).2.1
            have := ((List.pairwise_cons.1 hpw).1 p hp').ef o ho hcl
            rw [e'] at this
            have := ready_deps hc hr hxx _ this
            rw [hp (i, un) (by simp)] at this; cases this
      obtain ⟨tmps1, hst, hd1⟩ := hd.run1 hh hj fn ro ds t cs
      obtain ⟨tmps', L', hsts, hd'⟩ := DrR.catch hh ho hcl fn ro ds t cs L tmps1 hd1
      exact ⟨tmps', L', .head hst hsts, hd'⟩
theorem DrR.last (hh : Heap β bl w) (fn : FuncId) (ro : Option Nat) (ds : List Deferred) (t : List Item) (cs : List Frame) : ∀ (L : List Nat) (tmps : Array Value), DrR P β bl none n tm all [] A tmps L →
    ∃ tmps', Steps P (lone ((fr0 fn ro).atR ⟨tmps, ds⟩ (.inRegion all L :: t)) cs w) (lone ((fr0 fn ro).atR ⟨tmps', ds⟩ t) cs w) ∧ TmOk β n tm tmps'
  | [], tmps, hd => by
    obtain ⟨X, tm0, h, l, hs, hsc, hc, hp, hord', hch, htm, hfa, hgh, -⟩ := hd
    cases hsc with
    | nil hr =>
      refine ⟨tmps, .one stepR_region_end, ?_⟩
      have hall := all_done hord' hs hr
      rw [tmF_true fun e he => hall _ (List.mem_append_left _ (mem_hord he))] at htm
      exact hch.imp.tm htm
  | j :: L, tmps, hd => by
    obtain ⟨tmps1, hst, hd1⟩ := hd.run1 hh (fun p hp => by cases hp) fn ro ds t cs
    obtain ⟨tmps', hsts, ht⟩ := DrR.last hh fn ro ds t cs L tmps1 hd1
    exact ⟨tmps', .head hst hsts, ht⟩
theorem DrR.poised (hd : DrR P β bl none n tm all ((i, un) :: rest) A tmps (i :: L)) (ho : all[i]? = some o) : Poised β n tm all o tmps := by
  obtain ⟨X, tm0, h, l, hs, hsc, hc, hp, hord', hch, htm, hfa, ⟨gt, hgt⟩, -⟩ := hd
  cases hsc with
  | cons hr hxx hsc =>
    obtain ⟨hl, -⟩ := ready_not hs hr
    have hdeps := ready_deps hc hr hxx
    refine poised_of htm.1 hgt (hord'.sl _ _ ho).1 fun t ht => ?_
    have e1 : hord h ++ (i, un) :: rest = hord ([] ++ (⟨i, un, .any, tm⟩ : HE) :: h) ++ rest := by simp [SY.hord]
    rw [e1] at hord'
    refine look_den (h2 := []) (e := ⟨i, un, .any, tm⟩) (h1 := h) hord' hc ho hl hdeps hch ?_ ht
    simp only [List.nil_append, tmF, hl]
    exact htm
def Kp (lk : List Nat) (bl bl' : Bls) : Prop := ∀ q ∈ lk, ∀ c, c.cell = true → lvl bl q = some c → lvl bl' q = some c
theorem Kp.refl (lk : List Nat) (bl : Bls) : Kp lk bl bl := fun _ _ _ _ h => h
theorem Kp.trans {lk : List Nat} {a b c : Bls} (h : Kp lk a b) (k : Kp lk b c) : Kp lk a c := fun q hq x hx e => k q hq x hx (h q hq x hx e)
theorem Kp.sub {lk lk' : List Nat} {a b : Bls} (h : Kp lk a b) (hs : ∀ q ∈ lk', q ∈ lk) : Kp lk' a b := fun q hq => h q (hs q hq)
theorem lvA_mem {un : List Nat} {j : Nat} {ls : List Nat} (hj : j ∈ un) : ∀ {A : List (Nat × List Nat)}, (j, ls) ∈ A → ∀ q ∈ ls, q ∈ lvA un A
  | [], h, _, _ => by cases h
  | (a, b) :: A, h, q, hq => by
    rcases List.mem_cons.1 h with h | h
    · cases h
      have : un.contains j = true := List.contains_iff_mem.2 hj
      simp only [lvA, this, if_true]
      exact List.mem_append_left _ hq
    · have ih := lvA_mem hj h q hq
      simp only [lvA]
      split
      · exact List.mem_append_right _ ih
      · exact ih
theorem rdCt_cell {c : Ct} {i w' k : Nat} {T : TI} {x} (h : rdCt c i w' k T = some x) : c.cell = true := by
  cases c <;> first | rfl | (simp [rdCt] at h)
theorem lop_keep {bl' : Bls} {op : Op} {x} (hk : Kp (rdl tm op) bl bl') (h : lop P tm bl op = some x) : lop P tm bl' op = some x := by
  by_cases hall : ∀ l ∈ rdl tm op, ∃ c, c.cell = true ∧ lvl bl l = some c
  · rw [lop_congr (bl := bl)]
    · exact h
    · intro l hl
      obtain ⟨c, hc, e⟩ := hall l hl
      rw [e]; exact hk l hl c hc e
  · exfalso
    refine hall fun l hl => ?_
    cases op with
    | load t a =>
      simp only [rdl] at hl
      simp only [lop] at h
      split at hl
      · rename_i he
        simp only [List.mem_singleton] at hl
        subst hl
        simp only [he] at h
        split at h
        · split at h
          · rename_i c hc
            exact ⟨c, rdCt_cell h, hc⟩
          · cases h
        · cases h
      · cases hl
    | convert s d a =>
      simp only [rdl] at hl
      simp only [lop] at h
      split at hl
      · rename_i he
        simp only [List.mem_singleton] at hl
        subst hl
        simp only [he, numsAt] at h
        split at h
        · split at h
          · split at h
            · split at h
              · rename_i h2
                split at h2
                · rename_i hc; exact ⟨_, rfl, hc⟩
                · cases h2
              · cases h
            · cases h
          · cases h
        · cases h
      · cases hl
    | slice t a lo hi mx =>
      simp only [rdl] at hl
      simp only [lop] at h
      split at hl
      · rename_i he
        simp only [List.mem_singleton] at hl
        subst hl
        simp only [he] at h
        split at h
        · split at h
          · split at h
            · split at h
              · split at h
                · split at h
                  · rename_i c hc _ _ _
                    refine ⟨c, ?_, hc⟩
                    cases c <;> first | rfl | (simp at h; done) | (rename_i hh; simp at hh; done) | skip
                    all_goals simp_all
                  · cases h
                · cases h
              · cases h
            · cases h
          · cases h
        · cases h
      · cases hl
    | _ => simp [rdl] at hl
theorem DrR.done {pr : Option (List Nat)} {β' : Env} {bl' : Bls} {y : Value} (hd : DrR P β bl pr n tm all ((i, un) :: rest) A tmps (i :: L)) (ho : all[i]? = some o) (hcl : cls P o.op = .eff) (hle : β.le β') (hy : Den β' r y)
    (hk : (pr = none ∧ Kp (lvA un A) bl bl') ∨ ∃ lk, pr = some lk ∧ Kp lk bl bl') : DrR P β' bl' none n (put n tm o.dst r) all rest A (match o.dst with
      | some d => tmps.setIfInBounds d y
      | none => tmps) L := by
  obtain ⟨X, tm0, h, l, hs, hsc, hc, hp, hord', hch, htm, hfa, ⟨gt, hgt⟩, hpr⟩ := hd
  have hdst : opDst all i = o.dst := by simp [opDst, ho]
  cases hsc with
  | cons hr hxx hsc =>
    obtain ⟨hl, hlt⟩ := ready_not hs hr
    have hdeps := ready_deps hc hr hxx
    have e1 : hord h ++ (i, un) :: rest = hord ([] ++ (⟨i, un, r, tm⟩ : HE) :: h) ++ rest := by simp [SY.hord]
    have hpw := hord'.pw
    have hne : ∀ p ∈ rest, p.1 ≠ i := fun p hp' => ((List.pairwise_cons.1 (List.pairwise_append.1 hpw).2.1).1 p hp').ne.symm
    rw [e1] at hord'
    refine ⟨X, tm0, (⟨i, un, r, tm⟩ : HE) :: h, l.setIfInBounds i true, by simp [hs], hsc, hc.set hs hr hxx, fun p hp' => ?_, hord', ⟨hch, ?_⟩, ?_, fun e he hle' => ?_, ⟨_, (hgt.mono hle).put hy o.dst⟩, trivial⟩
    · simpa [Array.getElem?_setIfInBounds_ne (Ne.symm (hne p hp'))] using hp p (by simp [hp'])
    · simp only [hdst]; exact fun _ _ _ h => h
    · refine tmF_done (h2 := []) (e := (⟨i, un, r, tm⟩ : HE)) (h1 := h) hord' hc hs ho hl ?_ hy
      simp only [List.nil_append, tmF, hl]
      exact htm.mono hle
    · have hlold : l.getD e.i false = false := by
        apply Decidable.byContradiction
        intro hn
        have := getD_listed (i := i) (by simpa using hn : l.getD e.i false = true)
        rw [hle'] at this; cases this
      rcases List.mem_cons.1 he with rfl | he
      · simp [hs, hlt] at hle'
      · obtain ⟨⟨g, hg⟩, o', ho', hf⟩ := hfa e he hlold
        refine ⟨⟨g, hg.mono hle⟩, o', ho', ?_⟩
        rcases hf with ⟨h1, h2⟩ | h1
        · rcases h2 with h2 | ⟨h2, h3, h4⟩
          · exact .inl ⟨h1, .inl h2⟩
          · refine .inl ⟨h1, .inr ⟨lop_keep ?_ h2, h3, h4⟩⟩
            rcases hk with ⟨-, hk⟩ | ⟨lk, rfl, hk⟩
            · have hpre : PR P X all (e.i, e.un) (i, un) := (List.pairwise_append.1 hpw).2.2 _ (mem_hord he) _ (by simp)
              rcases hpre.ld o' o ho' ho h3 hcl with hdep | hin
              · have := hdeps _ hdep
                rw [hlold] at this; cases this
              · exact hk.sub (lvA_mem hin h4)
            · exact hk.sub (hpr.2 e he hlold _ h4 o' ho' h3 rfl)
        · exact .inr h1
theorem DrR.wait {lk : List Nat} (hd : DrR P β bl none n tm all ((i, un) :: rest) A tmps (i :: L)) (ho : all[i]? = some o) (hcl : cls P o.op = .eff) (hlk : ∀ q ∈ lvA un A, q ∈ lk) : DrR P β bl (some lk) n tm all ((i, un) :: rest) A tmps (i :: L) := by
  obtain ⟨X, tm0, h, l, hs, hsc, hc, hp, hord', hch, htm, hfa, hgh, -⟩ := hd
  refine ⟨X, tm0, h, l, hs, hsc, hc, hp, hord', hch, htm, hfa, hgh, ⟨i, un, rest, L, rfl, rfl, fun o' h' => by rw [ho] at h'; rw [← Option.some.inj h']; exact hcl⟩, fun e he hle ls hls o' ho' hcl' hr q hq => ?_⟩
  cases hsc with
  | cons hr' hxx hsc =>
    have hpre : PR P X all (e.i, e.un) (i, un) := (List.pairwise_append.1 hord'.pw).2.2 _ (mem_hord he) _ (by simp)
    rcases hpre.ld o' o ho' ho hcl' hcl with hdep | hin
    · have := ready_deps hc hr' hxx _ hdep
      rw [hle] at this; cases this
    · exact hlk q (lvA_mem hin hls q hq)
theorem DrR.mono {lk : List Nat} {β' : Env} {bl' : Bls} (hd : DrR P β bl (some lk) n tm all plan A tmps L) (hle : β.le β') (hk : Kp lk bl bl') : DrR P β' bl' (some lk) n tm all plan A tmps L := by
  obtain ⟨X, tm0, h, l, hs, hsc, hc, hp, hord', hch, htm, hfa, ⟨gt, hgt⟩, hpr⟩ := hd
  refine ⟨X, tm0, h, l, hs, hsc, hc, hp, hord', hch, htm.mono hle, fun e he hle' => ?_, ⟨gt, hgt.mono hle⟩, hpr⟩
  obtain ⟨⟨g, hg⟩, o', ho', hf⟩ := hfa e he hle'
  refine ⟨⟨g, hg.mono hle⟩, o', ho', ?_⟩
  rcases hf with ⟨h1, h2⟩ | h1
  · rcases h2 with h2 | ⟨h2, h3, h4⟩
    · exact .inl ⟨h1, .inl h2⟩
    · exact .inl ⟨h1, .inr ⟨lop_keep (hk.sub (hpr.2 e he hle' _ h4 o' ho' h3 rfl)) h2, h3, h4⟩⟩
  · exact .inr h1
theorem DrR.imp {tm' : TM} (hd : DrR P β bl none n tm all plan A tmps L) (hi : Imp tm tm') : DrR P β bl none n tm' all plan A tmps L := by
  obtain ⟨X, tm0, h, l, hs, hsc, hc, hp, hord', hch, htm, hfa, ⟨gt, hgt⟩, hpr⟩ := hd
  exact ⟨X, tm0, h, l, hs, hsc, hc, hp, hord', hch.weak hi, htm, hfa, ⟨gt, hi.tm hgt⟩, hpr⟩
theorem DrR.startX {X : Pairs} {L : List Nat} (ho : OrdX P X all plan) (ht : TmOk β n tm tmps) (hsc : Sched X all (Array.replicate all.size false) L) : DrR P β bl none n tm all plan [] tmps L := by
  refine ⟨X, tm, [], Array.replicate all.size false, by simp, hsc, fun j k hj _ => ?_, fun p hp => ?_, by simpa [SY.hord] using ho, fun _ _ _ h => h, by simpa [tmF] using ht, (fun e he => by cases he), ⟨tmps, ht⟩, trivial⟩
  · by_cases hjs : j < all.size <;> simp [hjs] at hj
  · have := ho.ib p hp
    simp [this]
theorem DrR.start (ho : Ord P all plan) (ht : TmOk β n tm tmps) (t : Nat) : DrR P β bl none n tm all plan [] tmps (Region.linearise .any all t) := DrR.startX ho ht (sched_init t)
end
end Go.SY
/-
  The symbolic machine: records in memory; operations, all of them: what they are run to.
-/
namespace Go.SY
open Go
theorem lvl_join : ∀ (bl : Bls) (l : Nat), lvl bl l = (bl[l]?).join
  | [], _ => by simp [lvl]
  | b :: r, 0 => by simp [lvl]
  | b :: r, l + 1 => by simp [lvl, lvl_join r l]
theorem lvl_ne {bl : Bls} {l q : Nat} {x : Option Ct} (h : q ≠ l) : lvl (setl bl l x) q = lvl bl q := by
  rw [lvl_join, lvl_join, setl_set, List.getElem?_set_ne (Ne.symm h)]
theorem lvl_app {bl bs : Bls} {q : Nat} {c : Ct} (h : lvl bl q = some c) : lvl (bl ++ bs) q = some c := by
  have h1 := lvl_get h
  rw [lvl_join, List.getElem?_append_left (List.getElem?_eq_some_iff.1 h1).1, h1]; rfl
theorem Kp.app (lk : List Nat) (bl bs : Bls) : Kp lk bl (bl ++ bs) := fun _ _ _ _ h => lvl_app h
theorem Kp.rec {lk : List Nat} {bl : Bls} {l : Nat} {c : Ct} {x : Option Ct} (hl : lvl bl l = some c) (hc : c.cell = false) : Kp lk bl (setl bl l x) := fun q _ c' hc' h => by
  by_cases e : q = l
  · subst e
    rw [hl] at h
    obtain rfl := Option.some.inj h
    rw [hc] at hc'; cases hc'
  · rw [lvl_ne e]; exact h
theorem Kp.out {lk : List Nat} {bl : Bls} {l : Nat} {x : Option Ct} (hl : l ∉ lk) : Kp lk bl (setl bl l x) := fun q hq c' _ h => by
  rw [lvl_ne (fun e => hl (by rw [← e]; exact hq))]; exact h
theorem Heap.put {β : Env} {bl : Bls} {w : World} {l b s : Nat} {c : Ct} {o : Obj} {x : Option Ct} (h : Heap β bl w) (hl : bl[l]? = some (some c)) (hb : β.b[l]? = some (some (b, s))) (hx : ∀ c', x = some c' → c'.cell = false ∧ ObDen β c' o) :
    Ext β bl w β (bl.set l x) (w.putObj b o) := by
  have hllt : l < bl.length := (List.getElem?_eq_some_iff.1 hl).1
  have hblt := h.lt hl hb
  have get : ∀ {m : Nat} {c0 : Ct}, (bl.set l x)[m]? = some (some c0) → (m = l ∧ x = some c0) ∨ (m ≠ l ∧ bl[m]? = some (some c0)) := by
    intro m c0 hm
    rw [List.getElem?_set] at hm
    split at hm
    · rename_i e
      subst e
      try rw [if_pos hllt] at hm
      exact .inl ⟨rfl, Option.some.inj hm⟩
    · rename_i e
      exact .inr ⟨fun h => e h.symm, hm⟩
  have old : ∀ {m : Nat} {c0 : Ct}, (bl.set l x)[m]? = some (some c0) → ∃ c1, bl[m]? = some (some c1) := by
    intro m c0 hm
    rcases get hm with ⟨rfl, -⟩ | ⟨-, h⟩
    · exact ⟨c, hl⟩
    · exact ⟨c0, h⟩
  have ownk : ∀ b', Owned β (bl.set l x) b' → Owned β bl b' := by
    rintro b' ⟨m, c0, s', hm, hb'⟩
    obtain ⟨c1, h1⟩ := old hm
    exact ⟨m, c1, s', h1, hb'⟩
  refine ⟨.refl _, ⟨by simpa using h.len, fun m c0 hm => ?_, fun m m' c0 c1 b0 s0 s1 hne h1 h2 => ?_, fun t b' cs' hz => ?_⟩, ⟨rfl, rfl, rfl, by simp, fun b' _ hno => ?_⟩, fun b' hb' => .inl (ownk b' hb'), fun b' cs' hz => .inl hz, rfl⟩
  · rcases get hm with ⟨rfl, hx'⟩ | ⟨hne, hm⟩
    · obtain ⟨h1, h2⟩ := hx _ hx'
      exact ⟨_, hb, .inr ⟨h1, o, World.putObj_heap_same hblt, h2⟩⟩
    · obtain ⟨base, e, hin⟩ := h.lv m c0 hm
      refine ⟨base, e, hin.same fun b' s' hb' => ?_⟩
      subst hb'
      exact World.putObj_heap_other (fun e3 => h.sep l m c c0 b s s' (fun e4 => hne e4.symm) hl hm hb (by rw [e, e3]))
  · obtain ⟨c2, g1⟩ := old h1
    obtain ⟨c3, g2⟩ := old h2
    exact h.sep m m' c2 c3 b0 s0 s1 hne g1 g2
  · obtain ⟨⟨T', fz', e⟩, hno⟩ := h.frz t b' cs' hz
    refine ⟨⟨T', fz', ?_⟩, fun ho => hno (ownk b' ho)⟩
    rw [World.putObj_heap_other (r := b) (k := b') (fun e3 => hno ⟨l, c, s, hl, by rw [e3]; exact hb⟩)]
    exact e
  · refine World.putObj_heap_other (fun e => hno ⟨l, c, s, hl, ?_⟩)
    rw [e]; exact hb
theorem heap_rec {β : Env} {bl : Bls} {w : World} (hh : Heap β bl w) {l b s : Nat} {c : Ct} (hl : lvl bl l = some c) (hb : β.b[l]? = some (some (b, s))) (hc : c.cell = false) : ∃ o, w.heap[b]? = some o ∧ ObDen β c o := by
  obtain ⟨base, e, hin⟩ := hh.lv l c (lvl_get hl)
  rw [hb] at e
  obtain rfl := Option.some.inj e
  rcases hin with ⟨h1, -⟩ | ⟨-, o, h1, h2⟩
  · rw [hc] at h1; cases h1
  · exact ⟨o, h1, h2⟩
section
variable {P : Program} {β : Env} {tm : TM} {ρ : Operand → Value} {o : Oper} {vc : Bool} {r : AV} {bl bl' : Bls} {w : World} {lk : List Nat}
def Kl (bl bl' : Bls) : Prop := ∀ q c, lvl bl q = some c → lvl bl' q = some c ∨ lvl bl' q = none
theorem Kl.refl (bl : Bls) : Kl bl bl := fun _ _ h => .inl h
theorem Kl.kill (bl : Bls) (l : Nat) : Kl bl (setl bl l none) := fun q c h => by
  by_cases e : q = l
  · subst e
    right
    rw [lvl_join, setl_set, List.getElem?_set, if_pos rfl]
    split <;> rfl
  · left; rw [lvl_ne e]; exact h
theorem Kl.none_of {bl bl' : Bls} (h : bl'.length = bl.length) {q : Nat} {c : Ct} (hq : lvl bl q = some c) : q < bl'.length := by
  rw [h]; exact (List.getElem?_eq_some_iff.1 (lvl_get hq)).1
structure Kll (bl bl' : Bls) : Prop where
  k : Kl bl bl'
  n : ∀ q, q < bl.length → lvl bl q = none → lvl bl' q = none
  len : bl'.length = bl.length
theorem Kll.refl (bl : Bls) : Kll bl bl := ⟨.refl _, fun _ _ h => h, rfl⟩
theorem Kll.kill (bl : Bls) (l : Nat) : Kll bl (setl bl l none) := by
  refine ⟨.kill _ _, fun q _ h => ?_, by rw [setl_set]; simp⟩
  by_cases e : q = l
  · subst e
    rw [lvl_join, setl_set, List.getElem?_set, if_pos rfl]
    split <;> rfl
  · rw [lvl_ne e]; exact h
theorem Kll.trans {a b c : Bls} (h : Kll a b) (k : Kll b c) : Kll a c := by
  refine ⟨fun q x hx => ?_, fun q hq hn => k.n q (by rw [h.len]; exact hq) (h.n q hq hn), k.len.trans h.len⟩
  rcases h.k q x hx with h1 | h1
  · exact k.k q x h1
  · exact .inr (k.n q (Kl.none_of h.len hx) h1)
theorem Kll.app {a b : Bls} (h : Kll a b) (bs : Bls) : Kl a (b ++ bs) := fun q c hq => by
  have hlt := Kl.none_of h.len hq
  rcases h.k q c hq with h1 | h1
  · exact .inl (lvl_app h1)
  · right
    rw [lvl_join, List.getElem?_append_left hlt, ← lvl_join]; exact h1
theorem kll_killO (l : Option Nat) (bl : Bls) : Kll bl (killO l bl) := by
  cases l with
  | none => exact .refl _
  | some l => exact .kill _ _
theorem kll_hd1 {x x' : AV} {vc : Bool} {bl bl' : Bls} (h : hd1 bl x = some (vc, x', bl')) : Kll bl bl' := by
  unfold hd1 at h
  repeat' split at h
  all_goals first
    | cases h; done
    | (simp only [Option.some.injEq, Prod.mk.injEq] at h; rw [← h.2.2]; first | exact .refl _ | exact .kill _ _)
theorem kll_hdL : ∀ {xs xs' : List AV} {vc : Bool} {bl bl' : Bls}, hdL bl xs = some (vc, xs', bl') → Kll bl bl'
  | [], _, _, _, _, h => by
    simp only [hdL, Option.some.injEq, Prod.mk.injEq] at h
    rw [← h.2.2]; exact .refl _
  | x :: xs, _, _, _, _, h => by
    simp only [hdL] at h
    split at h
    · rename_i e1
      split at h
      · rename_i e2
        simp only [Option.some.injEq, Prod.mk.injEq] at h
        rw [← h.2.2]
        exact (kll_hd1 e1).trans (kll_hdL e2)
      · cases h
    · cases h
theorem kll_srcR {w : Nat} {x : AV} {vc : Bool} {rs : List (List AV)} {bl bl' : Bls} (h : srcR w bl x = some (vc, rs, bl')) : Kll bl bl' := by
  unfold srcR at h
  repeat' split at h
  all_goals first
    | cases h; done
    | (simp only [Option.some.injEq, Prod.mk.injEq] at h; rw [← h.2.2]; first | exact .refl _ | exact kll_hdL (by assumption))
theorem alive_keep0 {bl bl' : Bls} (hk : Kl bl bl') : ∀ {lk : List Nat}, alive0 bl bl' lk = true → Kp lk bl bl'
  | [], _ => fun q hq => by cases hq
  | q0 :: lk, h => fun q hq c hc hl => by
    simp only [alive0] at h
    rcases List.mem_cons.1 hq with rfl | hq
    · rw [hl] at h
      simp only at h
      split at h
      · rename_i c' e
        rcases hk q c hl with h1 | h1
        · exact h1
        · rw [h1] at e; cases e
      · cases h
    · have h' : alive0 bl bl' lk = true := by
        split at h
        · exact h
        · split at h
          · exact h
          · cases h
      exact alive_keep0 hk h' q hq c hc hl
theorem alive_old {bl bl' : Bls} : ∀ {lk : List Nat}, alive bl bl' lk = true → alive0 bl bl' lk = true
  | [], _ => rfl
  | q :: lk, h => by
    simp only [alive, Bool.and_eq_true] at h
    exact h.2
theorem alive_keep {bl bl' : Bls} (hk : Kl bl bl') {lk : List Nat} (h : alive bl bl' lk = true) : Kp lk bl bl' := alive_keep0 hk (alive_old h)
theorem noMk_of {m : List Nat} : ∀ {lk : List Nat}, noMk m lk = true → ∀ q ∈ lk, q ∉ m
  | [], _, q, hq => by cases hq
  | a :: lk, h, q, hq => by
    simp only [noMk, Bool.and_eq_true, Bool.not_eq_true'] at h
    rcases List.mem_cons.1 hq with rfl | hq
    · intro hm
      have := h.1
      rw [List.contains_iff_mem.2 hm] at this
      cases this
    · exact noMk_of h.2 q hq
theorem alive_nm {bl bl' : Bls} : ∀ {lk : List Nat}, alive bl bl' lk = true → ∀ q ∈ lk, q ∉ mks bl'
  | [], _, q, hq => by cases hq
  | a :: lk, h, q, hq => by
    simp only [alive, Bool.and_eq_true] at h
    exact noMk_of h.1 q hq
def Klm (bl bl' : Bls) : Prop := ∀ q c, lvl bl q = some c → q ∉ mks bl' → lvl bl' q = some c ∨ lvl bl' q = none
theorem Klm.of {bl bl' : Bls} (h : Kl bl bl') : Klm bl bl' := fun q c hq _ => h q c hq
theorem alive_keepM0 {bl bl' : Bls} (hk : Klm bl bl') : ∀ {lk : List Nat}, (∀ q ∈ lk, q ∉ mks bl') → alive0 bl bl' lk = true → Kp lk bl bl'
  | [], _, _ => fun q hq => by cases hq
  | q0 :: lk, hm, h => fun q hq c hc hl => by
    simp only [alive0] at h
    rcases List.mem_cons.1 hq with rfl | hq
    · rw [hl] at h
      simp only at h
      split at h
      · rename_i c' e
        rcases hk q c hl (hm q (List.mem_cons_self ..)) with h1 | h1
        · exact h1
        · rw [h1] at e; cases e
      · cases h
    · have h' : alive0 bl bl' lk = true := by
        split at h
        · exact h
        · split at h
          · exact h
          · cases h
      exact alive_keepM0 hk (fun x hx => hm x (List.mem_cons_of_mem _ hx)) h' q hq c hc hl
theorem alive_keepM {bl bl' : Bls} (hk : Klm bl bl') {lk : List Nat} (h : alive bl bl' lk = true) : Kp lk bl bl' := alive_keepM0 hk (alive_nm h) (alive_old h)
theorem kl_appRR {sz by_ : Nat} {c1 c2 : Bool} {l : Option Nat} {olds news : List (List AV)} {bl1 : Bls} {rm : Option (Nat × List (List AV))} (hk : Kll bl bl1) (h : appRR sz by_ c1 c2 l olds news bl1 rm = some (vc, r, bl')) : Kl bl bl' := by
  unfold appRR at h
  repeat' split at h
  all_goals
    simp only [Option.some.injEq, Prod.mk.injEq] at h
    rw [← h.2.2]
    first | exact (hk.trans (kll_killO _ _)).app _ | exact hk.app _
theorem kl_appNN {k : IntKind} {by_ : Nat} {c1 c2 : Bool} {l : Option Nat} {olds news : List Int} {rm : Option (Nat × List Int)} (h : appNN k by_ c1 c2 l olds news bl rm = some (vc, r, bl')) : Kl bl bl' := by
  unfold appNN at h
  repeat' split at h
  all_goals
    simp only [Option.some.injEq, Prod.mk.injEq] at h
    rw [← h.2.2]
    first | exact (kll_killO _ _).app _ | exact (Kll.refl _).app _
theorem quiet_keep (h : eop1 P tm bl o.op = some (vc, r, bl') ∨ eop2 P tm bl o.op = some (vc, r, bl')) (hq : quiet tm bl lk bl' o.op = true) : Kp lk bl bl' := by
  cases lk with
  | nil => intro q hq; cases hq
  | cons q0 lk =>
    simp only [quiet] at hq
    split at hq
    · rename_i t hop
      rw [hop] at h
      rcases h with h | h
      · simp only [eop1] at h
        split at h
        · split at h
          · simp only [Option.some.injEq, Prod.mk.injEq] at h
            rw [← h.2.2]; exact Kp.app _ _ _
          · cases h
        · cases h
      · simp [eop2] at h
    · rename_i t x hop
      rw [hop] at h
      rcases h with h | h
      · simp only [eop1] at h
        split at h
        · split at h
          · simp only [Option.some.injEq, Prod.mk.injEq] at h
            rw [← h.2.2]; exact Kp.app _ _ _
          · cases h
        · cases h
      · simp [eop2] at h
    · rename_i t n ps hop
      rw [hop] at h
      rcases h with h | h
      · simp only [eop1] at h
        repeat' split at h
        all_goals first
          | cases h; done
          | (simp only [Option.some.injEq, Prod.mk.injEq] at h; rw [← h.2.2]; exact Kp.app _ _ _)
      · simp [eop2] at h
    · rename_i t x y hop
      rw [hop] at h
      rcases h with h | h
      · simp only [eop1] at h
        repeat' split at h
        all_goals first
          | cases h; done
          | (simp only [Option.some.injEq, Prod.mk.injEq] at h; rw [← h.2.2]; exact Kp.app _ _ _)
      · simp [eop2] at h
    · rename_i s d x hop
      rw [hop] at h
      rcases h with h | h
      · simp [eop1] at h
      · simp only [eop2] at h
        repeat' split at h
        all_goals first
          | cases h; done
          | (simp only [Option.some.injEq, Prod.mk.injEq] at h; rw [← h.2.2]; first | exact Kp.app _ _ _ | exact Kp.refl _ _)
    · rename_i c hop
      split at hq
      · rename_i hcal
        obtain ⟨callee, args, argTypes⟩ := c
        simp only at hcal
        subst hcal
        rw [hop] at h
        rcases h with h | h
        · simp [eop1] at h
        · refine alive_keep ?_ hq
          simp only [eop2] at h
          repeat' split at h
          all_goals first
            | cases h; done
            | exact kl_appRR (kll_srcR (by assumption)) h
            | exact kl_appRR (Kll.refl _) h
            | exact kl_appNN h
            | (simp only [Option.some.injEq, Prod.mk.injEq] at h; rw [← h.2.2]; first | exact (kll_killO _ _).app _ | exact ((kll_srcR (by assumption)).trans (kll_killO _ _)).app _)
      · cases hq
    · rename_i t a x hop
      rw [hop] at h
      rcases h with h | h
      · split at hq
        · rename_i l i w' k he
          simp only [Bool.and_eq_true, Bool.not_eq_true'] at hq
          have hnot : l ∉ q0 :: lk := fun hm => by
            have := List.contains_iff_mem.2 hm
            rw [hq.1] at this; cases this
          simp only [eop1, he] at h
          split at h
          · split at h
            · rename_i hl
              simp [hl] at hq
            · split at h
              · simp only [Option.some.injEq, Prod.mk.injEq] at h
                rw [← h.2.2]; exact Kp.out hnot
              · cases h
            · cases h
          · cases h
        · cases hq
      · simp [eop2] at h
    · cases hq
theorem sop_val (h : sop P tm bl lk o.op = .val vc r bl') (hv : vc = true) : (pop P tm o.op = some (true, r) ∧ bl' = bl) ∨ (lop P tm bl o.op = some (true, r) ∧ bl' = bl) ∨
    ((eop1 P tm bl o.op = some (true, r, bl') ∨ eop2 P tm bl o.op = some (true, r, bl')) ∧ quiet tm bl lk bl' o.op = true) := by
  subst hv
  have hM : ∀ {op : Op}, sopM P tm bl lk op = .val true r bl' → ((eop1 P tm bl op = some (true, r, bl') ∨ eop2 P tm bl op = some (true, r, bl')) ∧ quiet tm bl lk bl' op = true) := by
    intro op h
    unfold sopM at h
    split at h
    · rename_i vc' r' bl2 e
      simp only [SO.val.injEq, Bool.and_eq_true] at h
      obtain ⟨⟨rfl, hq⟩, rfl, rfl⟩ := h
      exact ⟨.inl e, hq⟩
    · split at h
      · rename_i vc' r' bl2 e
        simp only [SO.val.injEq, Bool.and_eq_true] at h
        obtain ⟨⟨rfl, hq⟩, rfl, rfl⟩ := h
        exact ⟨.inr e, hq⟩
      · cases h
  have hR : ∀ {op : Op}, sopR P tm bl lk op = .val true r bl' → (lop P tm bl op = some (true, r) ∧ bl' = bl) ∨ ((eop1 P tm bl op = some (true, r, bl') ∨ eop2 P tm bl op = some (true, r, bl')) ∧ quiet tm bl lk bl' op = true) := by
    intro op h
    unfold sopR at h
    split at h
    · rename_i vc' r' e
      simp only [SO.val.injEq] at h
      obtain ⟨rfl, rfl, rfl⟩ := h
      exact .inl ⟨e, rfl⟩
    · exact .inr (hM h)
  generalize o.op = op at *
  unfold sop at h
  split at h
  · rename_i c
    split at h
    · rename_i f hc
      unfold calleeS at h
      simp only [hc] at h
      split at h <;> cases h
    · split at h
      · rename_i vc' r' e
        simp only [SO.val.injEq] at h
        obtain ⟨rfl, rfl, rfl⟩ := h
        exact .inl ⟨e, rfl⟩
      · exact .inr (.inr (hM h))
  · split at h
    · rename_i vc' r' e
      simp only [SO.val.injEq] at h
      obtain ⟨rfl, rfl, rfl⟩ := h
      exact .inl ⟨e, rfl⟩
    · exact .inr (hR h)
theorem Eff.of_val {y : Value} (hh : Heap β bl w) (hy : Den β r y) (hr : (execOp ρ o).run P w = .ok (.value y) w) : Eff P β bl w ρ o r bl := ⟨y, w, β, .inl hr, hy, .refl hh⟩
theorem sop_val_sound (hev : EvOk β tm ρ) (hh : Heap β bl w) (h : sop P tm bl lk o.op = .val vc r bl') (hv : vc = true) : Eff P β bl w ρ o r bl' ∧ Kp lk bl bl' := by
  rcases sop_val h hv with ⟨h', rfl⟩ | ⟨h', rfl⟩ | ⟨h, hq⟩
  · obtain ⟨y, hy, hr⟩ := pop_sound hev h' rfl
    exact ⟨.of_val hh hy (hr w), .refl _ _⟩
  · obtain ⟨y, hy, hr⟩ := lop_sound hev hh h' rfl
    exact ⟨.of_val hh hy hr, .refl _ _⟩
  · refine ⟨?_, quiet_keep h hq⟩
    rcases h with h | h
    · exact eop1_sound hev hh h rfl
    · exact eop2_sound hev hh h rfl
theorem sop_callee {so : SO} (h : sop P tm bl lk o.op = so) (hn : ∀ vc r bl', so ≠ .val vc r bl') (hs : so ≠ .stop) : ∃ c f, o.op = .call c ∧ c.callee = .value f ∧ calleeS tm c = so := by
  have hM : ∀ {op : Op}, sopM P tm bl lk op = so → False := by
    intro op h
    unfold sopM at h
    split at h
    · exact hn _ _ _ h.symm
    · split at h
      · exact hn _ _ _ h.symm
      · exact hs h.symm
  have hR : ∀ {op : Op}, sopR P tm bl lk op = so → False := by
    intro op h
    unfold sopR at h
    split at h
    · exact hn _ _ _ h.symm
    · exact hM h
  generalize o.op = op at *
  unfold sop at h
  split at h
  · rename_i c
    split at h
    · rename_i f hc
      exact ⟨c, f, rfl, hc, h⟩
    · split at h
      · exact (hn _ _ _ h.symm).elim
      · exact (hM h).elim
  · split at h
    · exact (hn _ _ _ h.symm).elim
    · exact (hR h).elim
theorem fi_enter {g : FuncId} {F : FI} (hf : fi P g = some F) (args : Array Value) : (callFunc g args).run P w = .ok (.enter g args) w := by
  unfold fi at hf
  split at hf
  · rename_i fn hfn
    split at hf
    · rename_i c hc
      split at hf
      · cases hf
      · rename_i hne
        unfold callFunc
        have hne' : (fn.name == "runtime.NumGoroutine") = false := by simpa using hne
        have hne2 : ¬ fn.name = "runtime.NumGoroutine" := by simpa using hne
        simp [Sem.run, Sem.run_bind, program, hfn, hne', hne2, hc, Result.andThen]
    · cases hf
  · cases hf
theorem sop_callF {g : FuncId} {args : List AV} (hev : EvOk β tm ρ) (h : sop P tm bl lk o.op = .call g args) :
    ∃ vs : List Value, DenL β args vs ∧ (execOp ρ o).run P w = (callFunc g vs.toArray).run P w := by
  obtain ⟨c, f, hop, hc, hs⟩ := sop_callee h (by simp) (by simp)
  unfold calleeS at hs
  simp only [hc] at hs
  split at hs
  · rename_i g' fst caps he
    simp only [SO.call.injEq] at hs
    obtain ⟨rfl, rfl⟩ := hs
    have hd := hev f
    rw [he] at hd
    simp only [Den] at hd
    obtain ⟨xs, ys, hv, h1, h2⟩ := hd
    refine ⟨xs ++ (c.args.toList.map ρ ++ ys), denL_append h1 (denL_append (denL_map hev _) h2), ?_⟩
    have harr : (xs ++ (c.args.toList.map ρ ++ ys)).toArray = xs.toArray ++ c.args.map ρ ++ ys.toArray := by
      apply Array.ext'; simp
    rw [harr]
    unfold execOp
    simp only [hop, resolve, hc, hv]
    simp [Deferred.ofValue, Sem.run_bind, Sem.run_pure, Result.andThen, invoke]
  · cases hs
  · cases hs
theorem sop_call {g : FuncId} {args : List AV} {F : FI} (hev : EvOk β tm ρ) (h : sop P tm bl lk o.op = .call g args) (hf : fi P g = some F) :
    ∃ vs : List Value, DenL β args vs ∧ (execOp ρ o).run P w = .ok (.enter g vs.toArray) w := by
  obtain ⟨vs, h1, h2⟩ := sop_callF (w := w) hev h
  exact ⟨vs, h1, h2.trans (fi_enter hf _)⟩
theorem sop_yld {l : Nat} {args : List AV} (hev : EvOk β tm ρ) (h : sop P tm bl lk o.op = .yld l args) :
    ∃ (vs : List Value) (b s : Nat), DenL β args vs ∧ β.b[l]? = some (some (b, s)) ∧ (execOp ρ o).run P w = (Instr.yield b vs.toArray).run P w := by
  obtain ⟨c, f, hop, hc, hs⟩ := sop_callee h (by simp) (by simp)
  unfold calleeS at hs
  simp only [hc] at hs
  split at hs
  · cases hs
  · rename_i l' he
    simp only [SO.yld.injEq] at hs
    obtain ⟨rfl, rfl⟩ := hs
    have hd := hev f
    rw [he] at hd
    simp only [Den] at hd
    obtain ⟨b, s, hb, hv⟩ := hd
    refine ⟨c.args.toList.map ρ, b, s, denL_map hev _, hb, ?_⟩
    have harr : (c.args.toList.map ρ).toArray = c.args.map ρ := by apply Array.ext'; simp
    rw [harr]
    unfold execOp
    simp only [hop, resolve, hc, hv]
    simp [Deferred.ofValue, Sem.run_bind, Sem.run_pure, Result.andThen, invoke]
  · cases hs
theorem sop_not_defer {so : SO} (h : sop P tm bl lk o.op = so) (hs : so ≠ .stop) : ∀ c, o.op ≠ .defer c := by
  intro c e
  rw [e] at h
  simp only [sop, pop, sopR, lop, sopM, eop1, eop2] at h
  exact hs h.symm
end
end Go.SY
/-
  The symbolic machine: what its states stand for in the model's machine.
-/
namespace Go.SY
open Go
def MsR (β : Env) : List Nat → List Deferred → Prop
  | [], ds => ds = []
  | m :: ms, ds => ∃ b s ds', β.b[m]? = some (some (b, s)) ∧ ds = { target := .collected b, args := #[] } :: ds' ∧ MsR β ms ds'
theorem MsR.mono {β β' : Env} (h : β.le β') : ∀ {ms : List Nat} {ds : List Deferred}, MsR β ms ds → MsR β' ms ds
  | [], _, hm => hm
  | _ :: _, _, ⟨b, s, ds', h1, h2, h3⟩ => ⟨b, s, ds', h.at h1, h2, MsR.mono h h3⟩
def RoR (β : Env) : Option Nat → Option Nat → Prop
  | none, ro => ro = none
  | some l, ro => ∃ b s, β.b[l]? = some (some (b, s)) ∧ ro = some b
theorem RoR.mono {β β' : Env} (h : β.le β') {rd ro : Option Nat} (hr : RoR β rd ro) : RoR β' rd ro := by
  cases rd with
  | none => exact hr
  | some l => obtain ⟨b, s, h1, h2⟩ := hr; exact ⟨b, s, h.at h1, h2⟩
def TodoR (P : Program) (β : Env) (bl : Bls) (pr : Option (List Nat)) (fn : FuncId) (n : Nat) (tm : TM) (k : List SI) (tmps : Array Value) (t : List Item) : Prop := match k with
  | .dr all plan A g :: k => ∃ L t', t = .inRegion all L :: t' ∧ KR β fn k t' ∧ DrR P β bl pr n tm all plan A tmps L ∧ (∀ b, g = some b → ∃ i un rest o, plan = (i, un) :: rest ∧ all[i]? = some o ∧ WS all n tm o.guard b)
  | .ops all os g :: k => TmOk β n tm tmps ∧ KR β fn (.ops all os none :: k) t ∧ ∀ b, g = some b → ∃ o os', os = o :: os' ∧ WS all n tm o.guard b
  | k => TmOk β n tm tmps ∧ KR β fn k t
theorem todo_of {P : Program} {β : Env} {bl : Bls} {pr : Option (List Nat)} {fn : FuncId} {n : Nat} {tm : TM} {k : List SI} {tmps : Array Value} {t : List Item} (h1 : TmOk β n tm tmps) (h2 : KR β fn k t) : TodoR P β bl pr fn n tm k tmps t := by
  unfold TodoR
  split
  · obtain ⟨y, t', -, h, -⟩ := h2; exact h.elim
  · rename_i all os g k
    obtain ⟨y, t', e, ⟨rfl, h3⟩, h5⟩ := h2
    exact ⟨h1, ⟨y, t', e, ⟨rfl, h3⟩, h5⟩, fun b hb => by cases hb⟩
  · exact ⟨h1, h2⟩
theorem KR.dr {β : Env} {fn : FuncId} {all : Array Oper} {plan : Plan} {A : List (Nat × List Nat)} {g : Option Bool} {k : List SI} {t : List Item} : ¬ KR β fn (.dr all plan A g :: k) t := fun ⟨_, _, _, h, _⟩ => h
theorem TodoR.mono {P : Program} {β β' : Env} {bl bl' : Bls} {lk : List Nat} {fn : FuncId} {n : Nat} {tm : TM} {k : List SI} {tmps : Array Value} {t : List Item} (h : TodoR P β bl (some lk) fn n tm k tmps t) (hle : β.le β') (hk : Kp lk bl bl') : TodoR P β' bl' (some lk) fn n tm k tmps t := by
  unfold TodoR at *
  split
  · simp only at h
    obtain ⟨L, t', e, h1, h2, h3⟩ := h
    exact ⟨L, t', e, h1.mono hle, h2.mono hle hk, h3⟩
  · simp only at h
    exact ⟨h.1.mono hle, h.2.1.mono hle, h.2.2⟩
  · rename_i h1 h2
    split at h
    · exact absurd rfl (h1 _ _ _ _ _)
    · exact absurd rfl (h2 _ _ _ _)
    · exact ⟨h.1.mono hle, h.2.mono hle⟩
def FrR (P : Program) (β : Env) (bl : Bls) (pr : Option (List Nat)) (f : Fr) (fr : Frame) : Prop :=
  ∃ tmps ds t ro, fr = (fr0 f.fn ro).atR ⟨tmps, ds⟩ t ∧ MsR β f.ms ds ∧ RoR β f.rd ro ∧ TodoR P β bl pr f.fn f.n f.tm f.k tmps t
theorem FrR.mono {P : Program} {β β' : Env} {bl bl' : Bls} {lk : List Nat} {f : Fr} {fr : Frame} (h : FrR P β bl (some lk) f fr) (hle : β.le β') (hk : Kp lk bl bl') : FrR P β' bl' (some lk) f fr := by
  obtain ⟨tmps, ds, t, ro, e, h1, h2, h3⟩ := h
  exact ⟨tmps, ds, t, ro, e, h1.mono hle, h2.mono hle, h3.mono hle hk⟩
def SusR (P : Program) (β : Env) (bl : Bls) : List Nat → List Fr → List Frame → Prop
  | _, [], t => t = []
  | lk, f :: fs, t => ∃ fr ts, t = fr :: ts ∧ FrR P β bl (some lk) f fr ∧ (∀ q ∈ f.lk, q ∈ lk) ∧ SusR P β bl f.lk fs ts
theorem SusR.mono {P : Program} {β β' : Env} {bl bl' : Bls} (hle : β.le β') : ∀ {fs : List Fr} {lk : List Nat} {t : List Frame}, SusR P β bl lk fs t → Kp lk bl bl' → SusR P β' bl' lk fs t
  | [], _, _, h, _ => h
  | _ :: _, _, _, ⟨fr, ts, e, h1, h2, h3⟩, hk => ⟨fr, ts, e, h1.mono hle hk, h2, SusR.mono hle h3 (hk.sub h2)⟩
structure Ctx where
  β : Env
  bl : Bls
  w : World
  cs : List Frame
  f : FuncId
def Bot (F : FuncId) : List Fr → Prop
  | [] => False
  | [f] => f.fn = F
  | _ :: g :: fs => Bot F (g :: fs)
theorem Bot.same {F : FuncId} {f f' : Fr} {fs : List Fr} (h : Bot F (f :: fs)) (e : f'.fn = f.fn) : Bot F (f' :: fs) := by
  cases fs with
  | nil => exact e.trans h
  | cons g fs => exact h
def Ck (P : Program) (pl : FuncId → Nat → Option Plan) (fn : FuncId) : Code → Prop
  | .seq x y => Ck P pl fn x ∧ Ck P pl fn y
  | .block _ c => Ck P pl fn c
  | .scope c => Ck P pl fn c
  | .loop c => Ck P pl fn c
  | .cond _ x y => Ck P pl fn x ∧ Ck P pl fn y
  | .rangeFunc _ _ a b => Ck P pl fn a ∧ Ck P pl fn b
  | .region id all draw => draw = true → ∀ p, pl fn id = some p → Ord P all p
  | _ => True
structure PlOk (P : Program) (pl : FuncId → Nat → Option Plan) : Prop where
  ck : ∀ f F, fi P f = some F → Ck P pl f F.body
  mix : P.follows .mixedOrders = true
structure CR (P : Program) (pl : FuncId → Nat → Option Plan) (C : Ctx) (c : Conf) (β : Env) (m : Machine) : Prop where
  ex : ∃ f fs fr ts w, c.fs = f :: fs ∧ m = lone fr (ts ++ C.cs) w ∧ FrR P β c.bl none f fr ∧ SusR P β c.bl f.lk fs ts ∧ Ext C.β C.bl C.w β c.bl w
  bot : Bot C.f c.fs
  ck : β.ck = Ck P pl
def Fin (P : Program) (C : Ctx) (S : AV → Bls → Prop) (m : Machine) : Prop :=
  ∃ v fr β' r bl' w', Steps P m (lone fr C.cs w') ∧ fr.fn = C.f ∧ fr.leaving P w' (.returned v) ∧ Den β' r v ∧ Ext C.β C.bl C.w β' bl' w' ∧ S r bl'
theorem Fin.steps {P : Program} {C : Ctx} {S : AV → Bls → Prop} {m m' : Machine} (h : Steps P m m') (hf : Fin P C S m') : Fin P C S m := by
  obtain ⟨v, fr, β', r, bl', w', h1, h2⟩ := hf
  exact ⟨v, fr, β', r, bl', w', h.trans h1, h2⟩
def Rch (P : Program) (pl : FuncId → Nat → Option Plan) (C : Ctx) (c : Conf) (S : AV → Bls → Prop) : Prop := ∀ β m, CR P pl C c β m → Fin P C S m
def To (P : Program) (pl : FuncId → Nat → Option Plan) (C : Ctx) (c c' : Conf) : Prop := ∀ β m, CR P pl C c β m → ∃ β' m', Steps P m m' ∧ CR P pl C c' β' m'
theorem To.rch {P : Program} {pl : FuncId → Nat → Option Plan} {C : Ctx} {c c' : Conf} {S : AV → Bls → Prop} (h : To P pl C c c') (k : Rch P pl C c' S) : Rch P pl C c S := fun β m hm => by
  obtain ⟨β', m', h1, h2⟩ := h β m hm
  exact (k β' m' h2).steps h1
section
variable {P : Program} {pl : FuncId → Nat → Option Plan} {C : Ctx} {f f' g : Fr} {fs : List Fr} {bl bl' : Bls}
theorem to_top (hfn : f'.fn = f.fn) (hlk : f'.lk = f.lk)
    (h : ∀ β fr cs w, FrR P β bl none f fr → Heap β bl w → β.ck = Ck P pl → ∃ β' fr' w', Steps P (lone fr cs w) (lone fr' cs w') ∧ FrR P β' bl' none f' fr' ∧ Ext β bl w β' bl' w' ∧ Kp f.lk bl bl') :
    To P pl C ⟨f :: fs, bl⟩ ⟨f' :: fs, bl'⟩ := by
  rintro β m ⟨⟨f0, fs0, fr, ts, w, e, rfl, h1, h2, h3⟩, h4, h5⟩
  simp only [List.cons.injEq] at e
  obtain ⟨rfl, rfl⟩ := e
  obtain ⟨β', fr', w', k1, k2, k3, k4⟩ := h β fr (ts ++ C.cs) w h1 h3.heap h5
  exact ⟨β', _, k1, ⟨⟨_, _, fr', ts, w', rfl, rfl, k2, by rw [hlk]; exact h2.mono k3.le k4, h3.trans k3⟩, h4.same hfn, by rw [k3.le.ck]; exact h5⟩⟩
theorem to_push (hfn : f'.fn = f.fn) (hlk : f'.lk = f.lk) (hsub : ∀ q ∈ f'.lk, q ∈ g.lk)
    (h : ∀ β fr cs w, FrR P β bl none f fr → Heap β bl w → β.ck = Ck P pl → ∃ β' fr' frg w', Steps P (lone fr cs w) (lone frg (fr' :: cs) w') ∧ FrR P β' bl' none g frg ∧ FrR P β' bl' (some g.lk) f' fr' ∧ Ext β bl w β' bl' w' ∧ Kp f.lk bl bl') :
    To P pl C ⟨f :: fs, bl⟩ ⟨g :: f' :: fs, bl'⟩ := by
  rintro β m ⟨⟨f0, fs0, fr, ts, w, e, rfl, h1, h2, h3⟩, h4, h5⟩
  simp only [List.cons.injEq] at e
  obtain ⟨rfl, rfl⟩ := e
  obtain ⟨β', fr', frg, w', k1, k2, k3, k4, k5⟩ := h β fr (ts ++ C.cs) w h1 h3.heap h5
  exact ⟨β', _, k1, ⟨⟨_, _, frg, fr' :: ts, w', rfl, rfl, k2, ⟨fr', ts, rfl, k3, hsub, by rw [hlk]; exact h2.mono k4.le k5⟩, h3.trans k4⟩, h4.same hfn, by rw [k4.le.ck]; exact h5⟩⟩
theorem to_pop {g' : Fr} (hfn : g'.fn = g.fn) (hlk : g'.lk = g.lk)
    (h : ∀ β fr frg cs w, FrR P β bl none f fr → FrR P β bl (some f.lk) g frg → Heap β bl w → β.ck = Ck P pl → ∃ β' frg' w', Steps P (lone fr (frg :: cs) w) (lone frg' cs w') ∧ FrR P β' bl' none g' frg' ∧ Ext β bl w β' bl' w' ∧ Kp f.lk bl bl') :
    To P pl C ⟨f :: g :: fs, bl⟩ ⟨g' :: fs, bl'⟩ := by
  rintro β m ⟨⟨f0, fs0, fr, ts, w, e, rfl, h1, h2, h3⟩, h4, h5⟩
  simp only [List.cons.injEq] at e
  obtain ⟨rfl, rfl⟩ := e
  obtain ⟨frg, ts', rfl, g1, g2, g3⟩ := h2
  obtain ⟨β', frg', w', k1, k2, k3, k4⟩ := h β fr frg (ts' ++ C.cs) w h1 g1 h3.heap h5
  exact ⟨β', _, k1, ⟨⟨_, _, frg', ts', w', rfl, rfl, k2, by rw [hlk]; exact g3.mono k3.le (k4.sub g2), h3.trans k3⟩, Bot.same (f := g) h4 hfn, by rw [k3.le.ck]; exact h5⟩⟩
theorem finish_ok {β β' : Env} {lk : List Nat} {g' : Fr} {r : AV} {y : Value} {frg : Frame} (hg : finishS g r = some g') (h : FrR P β bl (some lk) g frg) (hle : β.le β') (hk : Kp lk bl bl') (hy : Den β' r y) :
    FrR P β' bl' none g' (frg.finish y) ∧ g'.fn = g.fn ∧ g'.lk = g.lk := by
  obtain ⟨fn, n, tm, k, rd, ms, lk0⟩ := g
  obtain ⟨tmps, ds, t, ro, rfl, h1, h2, h3⟩ := h
  simp only at h1 h2 h3 ⊢
  have eput : ∀ d : Option Nat, (Act.put ⟨tmps, ds⟩ d y : Act) = ⟨match d with
      | some d => tmps.setIfInBounds d y
      | none => tmps, ds⟩ := fun d => by cases d <;> rfl
  unfold finishS at hg
  simp only at hg
  split at hg
  · rename_i all o os g0 k
    obtain rfl := Option.some.inj hg
    refine ⟨?_, rfl, rfl⟩
    obtain ⟨h4, ⟨y0, t', rfl, ⟨-, m, hm, rfl⟩, h6⟩, -⟩ := h3
    have hlt : m < all.size := by
      apply Decidable.byContradiction
      intro hn
      rw [List.drop_of_length_le (by simp; omega)] at hm
      cases hm
    have ho : all[m]? = some o := by
      have := congrArg (·[0]?) hm
      simp only [List.getElem?_cons_zero, List.getElem?_drop, Nat.add_zero] at this
      rw [← Array.getElem?_toList]; exact this.symm
    have hr : List.range' m (all.size - m) = m :: List.range' (m + 1) (all.size - (m + 1)) := by
      have : all.size - m = (all.size - (m + 1)) + 1 := by omega
      rw [this, List.range'_succ]
    rw [hr, Frame.finish_atR, ho]
    simp only [Option.bind_some, eput]
    refine ⟨_, ds, _, ro, rfl, h1.mono hle, h2.mono hle, ⟨(h4.mono hle).put hy _, ⟨_, t', rfl, ⟨rfl, m + 1, ?_, rfl⟩, h6.mono hle⟩, fun b hb => by cases hb⟩⟩
    have := congrArg List.tail hm
    simpa using this
  · rename_i all i un rest A g0 k
    split at hg
    · rename_i o ho
      obtain rfl := Option.some.inj hg
      refine ⟨?_, rfl, rfl⟩
      obtain ⟨L, t', rfl, h5, h6, -⟩ := h3
      rw [nth_eq] at ho
      have ho' : all[i]? = some o := by simpa using ho
      have h7 := h6
      obtain ⟨X, tm0, hh, l, -, -, -, -, -, -, -, -, -, ⟨i', un', rest', L', e1, rfl, hcl⟩, -⟩ := h7
      simp only [List.cons.injEq, Prod.mk.injEq] at e1
      obtain ⟨⟨rfl, rfl⟩, rfl⟩ := e1
      rw [Frame.finish_atR, ho']
      simp only [Option.bind_some, eput]
      exact ⟨_, ds, _, ro, rfl, h1.mono hle, h2.mono hle, ⟨L', t', rfl, h5.mono hle, h6.done ho' (hcl o ho') hle hy (.inr ⟨lk, rfl, hk⟩), fun b hb => by cases hb⟩⟩
    · cases hg
  · rename_i l k
    obtain rfl := Option.some.inj hg
    refine ⟨?_, rfl, rfl⟩
    obtain ⟨h4, y0, t', rfl, ⟨b, s, hb, rfl⟩, h6⟩ := h3
    rw [finish_atR_inRangeFunc]
    exact ⟨tmps, ds, _, ro, rfl, h1.mono hle, h2.mono hle, ⟨h4.mono hle, _, t', rfl, ⟨b, s, hle.at hb, rfl⟩, h6.mono hle⟩⟩
  · cases hg
theorem FrR.plain {β : Env} {fn : FuncId} {n : Nat} {tm : TM} {x : SI} {k : List SI} {rd : Option Nat} {ms lk : List Nat} {fr : Frame} {pr : Option (List Nat)} (h : FrR P β bl pr ⟨fn, n, tm, x :: k, rd, ms, lk⟩ fr)
    (h1 : ∀ all plan A g, x ≠ .dr all plan A g) (h2 : ∀ all os g, x ≠ .ops all os g) :
    ∃ tmps ds y t ro, fr = (fr0 fn ro).atR ⟨tmps, ds⟩ (y :: t) ∧ MsR β ms ds ∧ RoR β rd ro ∧ TmOk β n tm tmps ∧ IR β fn x y ∧ KR β fn k t := by
  obtain ⟨tmps, ds, t, ro, e, g1, g2, g3⟩ := h
  simp only at e g1 g2 g3
  unfold TodoR at g3
  split at g3
  · rename_i e'; simp only [List.cons.injEq] at e'; exact absurd e'.1 (h1 _ _ _ _)
  · rename_i e'; simp only [List.cons.injEq] at e'; exact absurd e'.1 (h2 _ _ _)
  · obtain ⟨h3, y, t', rfl, h4, h5⟩ := g3
    exact ⟨tmps, ds, y, t', ro, e, g1, g2, h3, h4, h5⟩
theorem Ext.self {β : Env} {w : World} (h : Heap β bl w) : Ext β bl w β bl w := .refl h
end
end Go.SY
/-
  The symbolic machine: jumps, ends, entries.
-/
namespace Go.SY
open Go
section
variable {P : Program} {pl : FuncId → Nat → Option Plan} {β : Env} {fn : FuncId}
theorem exitS_ok {id : Nat} : ∀ {k : List SI} {t : List Item}, KR β fn k t → match exitS id k with
    | some k' => ∃ t', exitTo id t = some t' ∧ KR β fn k' t'
    | none => exitTo id t = none
  | [], t, h => by simp only [KR] at h; subst h; simp [exitS, exitTo]
  | x :: k, t, ⟨y, t', e, h1, h2⟩ => by
    subst e
    have ih := exitS_ok (id := id) h2
    cases x with
    | blk id' =>
      simp only [IR] at h1
      subst h1
      simp only [exitS, exitTo]
      by_cases e : id = id'
      · subst e; simp only [if_true, beq_self_eq_true]; exact ⟨t', rfl, h2⟩
      · have : (id' == id) = false := by simpa using fun h => e h.symm
        simp only [e, if_false, this, Bool.false_eq_true]; exact ih
    | code c => obtain ⟨rfl, -⟩ := h1; simpa only [exitS, exitTo] using ih
    | lp c => obtain ⟨rfl, -⟩ := h1; simpa only [exitS, exitTo] using ih
    | sc c => obtain ⟨rfl, -⟩ := h1; simpa only [exitS, exitTo] using ih
    | ops all os g => obtain ⟨-, m, -, rfl⟩ := h1; simpa only [exitS, exitTo] using ih
    | dr all p A g => exact h1.elim
    | rf l => obtain ⟨b, s, -, rfl⟩ := h1; simpa only [exitS, exitTo] using ih
    | erf l => obtain ⟨b, s, -, rfl⟩ := h1; simpa only [exitS, exitTo] using ih
    | br => simp only [IR] at h1; subst h1; simpa only [exitS, exitTo] using ih
theorem ck_label {l : Nat} : ∀ {c r : Code}, Ck P pl fn c → findLabel c l = some r → Ck P pl fn r := by
  intro c
  induction c with
  | seq a b iha ihb =>
    intro r hc h
    simp only [Ck] at hc
    simp only [findLabel] at h
    split at h
    · rename_i rest hr
      obtain rfl := Option.some.inj h
      exact ⟨iha hc.1 hr, hc.2⟩
    · exact ihb hc.2 h
  | label l' =>
    intro r hc h
    simp only [findLabel] at h
    split at h
    · obtain rfl := Option.some.inj h; trivial
    · cases h
  | _ => intro r hc h; simp [findLabel] at h
theorem gotoS_ok {l : Nat} (hck : β.ck = Ck P pl) : ∀ {k : List SI} {t : List Item}, KR β fn k t → match gotoS l k with
    | some k' => ∃ t', gotoIn l t = some t' ∧ KR β fn k' t'
    | none => gotoIn l t = none
  | [], t, h => by simp only [KR] at h; subst h; simp [gotoS, gotoIn]
  | x :: k, t, ⟨y, t', e, h1, h2⟩ => by
    subst e
    have ih := gotoS_ok (l := l) hck h2
    cases x with
    | sc c =>
      obtain ⟨rfl, hc⟩ := h1
      simp only [gotoS, gotoIn]
      cases hf : findLabel c l with
      | none => exact ih
      | some r => exact ⟨_, rfl, ⟨_, _, rfl, ⟨rfl, by rw [hck] at hc ⊢; exact ck_label hc hf⟩, ⟨_, _, rfl, ⟨rfl, hc⟩, h2⟩⟩⟩
    | code c => obtain ⟨rfl, -⟩ := h1; simpa only [gotoS, gotoIn] using ih
    | lp c => obtain ⟨rfl, -⟩ := h1; simpa only [gotoS, gotoIn] using ih
    | blk id => simp only [IR] at h1; subst h1; simpa only [gotoS, gotoIn] using ih
    | ops all os g => obtain ⟨-, m, -, rfl⟩ := h1; simpa only [gotoS, gotoIn] using ih
    | dr all p A g => exact h1.elim
    | rf l => obtain ⟨b, s, -, rfl⟩ := h1; simpa only [gotoS, gotoIn] using ih
    | erf l => obtain ⟨b, s, -, rfl⟩ := h1; simpa only [gotoS, gotoIn] using ih
    | br => simp only [IR] at h1; subst h1; simpa only [gotoS, gotoIn] using ih
def resV (tmps : Array Value) : ResultVar → Sem Value
  | .tmp t => pure (tmps.getD t undef)
  | .cell a t => do loadVar t (← asAddr (tmps.getD a undef))
theorem resV_tmp (tmps : Array Value) (t : Nat) : resV tmps (.tmp t) = pure (tmps.getD t undef) := rfl
theorem resV_cell (tmps : Array Value) (a : Nat) (t : TypeId) : resV tmps (.cell a t) = (do loadVar t (← asAddr (tmps.getD a undef))) := rfl
theorem results_resV (f : Func) (tmps : Array Value) : results f tmps = (do
  let vs ← f.results.mapM (resV tmps)
  pure (if h : vs.size = 1 then vs[0] else .tuple vs)) := rfl
theorem resAll_run {n : Nat} {tm : TM} {tmps : Array Value} {bl : Bls} {w : World} (ht : TmOk β n tm tmps) (hh : Heap β bl w) : ∀ {rs : List ResultVar} {vc : Bool} {xs : List AV}, resAll P tm bl rs = some (vc, xs) → vc = true →
    ∃ vs, DenL β xs vs ∧ (rs.mapM (resV tmps)).run P w = .ok vs w
  | [], vc, xs, h, _ => by
    simp only [resAll, Option.some.injEq, Prod.mk.injEq] at h
    obtain ⟨-, rfl⟩ := h
    exact ⟨[], by simp only [DenL], by simp [Sem.run_pure]⟩
  | .tmp t :: r, vc, xs, h, hv => by
    simp only [resAll] at h
    split at h
    · rename_i vc' xs' e
      simp only [Option.some.injEq, Prod.mk.injEq] at h
      obtain ⟨rfl, rfl⟩ := h
      obtain ⟨vs, h1, h2⟩ := resAll_run ht hh e hv
      refine ⟨tmps.getD t undef :: vs, by simp only [DenL]; exact ⟨_, _, rfl, ht.2 t, h1⟩, ?_⟩
      rw [List.mapM_cons]
      simp only [resV_tmp, Sem.run_bind, Sem.run_pure, Result.andThen_ok, h2]
    · cases h
  | .cell a t :: r, vc, xs, h, hv => by
    simp only [resAll] at h
    split at h
    · rename_i T hT
      split at h
      · rename_i l i w' k he
        split at h
        · rename_i c hc
          split at h
          · rename_i v1 x hx
            split at h
            · rename_i vc' xs' e
              simp only [Option.some.injEq, Prod.mk.injEq] at h
              obtain ⟨h3, rfl⟩ := h
              rw [hv, Bool.and_eq_true] at h3
              obtain ⟨vs, h1, h2⟩ := resAll_run ht hh e h3.2
              have hd := ht.2 a
              rw [he] at hd
              simp only [Den] at hd
              obtain ⟨b, s, hb, ha⟩ := hd
              obtain ⟨ys, sp, U, fz, hg, -, hcs, -⟩ := heap_cells hh hc hb (rdCt_cell hx)
              have hr := rdCt_sound hcs hx h3.1
              obtain ⟨y, g1, g2⟩ := load_rd hT (InW.of_cells hg) hr
              rw [Nat.zero_add] at g1
              refine ⟨y :: vs, by simp only [DenL]; exact ⟨_, _, rfl, g2, h1⟩, ?_⟩
              rw [List.mapM_cons]
              simp only [resV_cell, ha, asAddr, Sem.run_bind, Sem.run_pure, Result.andThen_ok, g1, h2]
            · cases h
          · cases h
        · cases h
      · cases h
    · cases h
theorem den_tup1 {xs : List AV} {vs : List Value} (h : DenL β xs vs) : Den β (tup1 xs) (if h : vs.toArray.size = 1 then vs.toArray[0] else .tuple vs.toArray) := by
  match xs, h with
  | [], h => simp only [DenL] at h; subst h; simp only [tup1]; simp only [Den, DenL]; exact ⟨[], rfl, rfl⟩
  | [x], h =>
    simp only [DenL] at h
    obtain ⟨y, zs, rfl, h1, rfl⟩ := h
    simpa [tup1] using h1
  | a :: b :: r, h =>
    have hl := denL_length h
    have : ¬ vs.toArray.size = 1 := by simp at hl ⊢; omega
    rw [dif_neg this]
    show Den β (.tup (a :: b :: r)) _
    rw [Den]
    exact ⟨vs, rfl, h⟩
theorem results_run {F : FI} {f : Func} {n : Nat} {tm : TM} {tmps : Array Value} {bl : Bls} {w : World} {r : AV} (hF : F.res = f.results.toList) (ht : TmOk β n tm tmps) (hh : Heap β bl w) (h : resS P tm bl F.res = some (true, r)) :
    ∃ v, Den β r v ∧ (results f tmps).run P w = .ok v w := by
  unfold resS at h
  split at h
  · rename_i vc xs e
    simp only [Option.some.injEq, Prod.mk.injEq] at h
    obtain ⟨rfl, rfl⟩ := h
    obtain ⟨vs, h1, h2⟩ := resAll_run ht hh e rfl
    refine ⟨_, den_tup1 h1, ?_⟩
    rw [results_resV, Array.mapM_eq_mapM_toList, ← hF]
    simp only [Sem.run_bind, Sem.run_map, h2, Result.andThen_ok, Sem.run_pure]
  · cases h
theorem fi_func {F : FI} (h : fi P fn = some F) : ∃ f c, P.funcs[fn]? = some f ∧ f.body = some c ∧ F = ⟨f.ntmps, f.results.toList, c⟩ := by
  unfold fi at h
  split at h
  · rename_i f hf
    split at h
    · rename_i c hc
      split at h
      · cases h
      · exact ⟨f, c, hf, hc, (Option.some.inj h).symm⟩
    · cases h
  · cases h
theorem marks_run {tmps : Array Value} {t : List Item} {ro : Option Nat} {cs : List Frame} : ∀ {ms : List Nat} {ds : List Deferred} {bl : Bls} {w : World}, MsR β ms ds → Heap β bl w → isDefs bl ms = true →
    ∃ w', Steps P (lone { (fr0 fn ro).atR ⟨tmps, ds⟩ t with mode := .returning } cs w) (lone { (fr0 fn ro).atR ⟨tmps, []⟩ t with mode := .returning } cs w') ∧ Ext β bl w β (killL ms bl) w' ∧ ∀ lk, Kp lk bl (killL ms bl)
  | [], ds, bl, w, hm, hh, _ => by
    simp only [MsR] at hm
    subst hm
    exact ⟨w, .refl _ _, .refl hh, fun lk => .refl _ _⟩
  | m :: ms, ds, bl, w, ⟨b, s, ds', hb, e, hm⟩, hh, hi => by
    subst e
    simp only [isDefs] at hi
    split at hi
    · rename_i hl
      obtain ⟨o, ho, hd⟩ := heap_rec hh hl hb rfl
      simp only [ObDen] at hd
      subst hd
      have hext := hh.put (o := .deferred none) (x := none) (lvl_get hl) hb (fun c' h => by cases h)
      rw [← setl_set] at hext
      obtain ⟨w', h1, h2, h3⟩ := marks_run (tmps := tmps) (t := t) (ro := ro) (cs := cs) hm hext.heap hi
      refine ⟨w', .head ?_ h1, hext.trans h2, fun lk => (Kp.rec hl rfl).trans (h3 lk)⟩
      have := step_collected (P := P) (fr := { (fr0 fn ro).atR ⟨tmps, { target := .collected b, args := #[] } :: ds'⟩ t with mode := .returning }) (cs := cs) (w := w) (by simp) rfl rfl (run_takeDeferred ho)
      simpa [Frame.atR] using this
    · cases hi
theorem leave_run {F : FI} {n : Nat} {tm : TM} {tmps : Array Value} {t : List Item} {cs : List Frame} {ms : List Nat} {ds : List Deferred} {bl : Bls} {w : World} {r : AV} (hF : fi P fn = some F) (hm : MsR β ms ds) (ht : TmOk β n tm tmps) (hh : Heap β bl w)
    (hi : isDefs bl ms = true) (hr : resS P tm (killL ms bl) F.res = some (true, r)) :
    ∃ v fr w', Steps P (lone { (fr0 fn none).atR ⟨tmps, ds⟩ t with mode := .returning } cs w) (lone fr cs w') ∧ fr.fn = fn ∧ fr.leaving P w' (.returned v) ∧ Den β r v ∧ Ext β bl w β (killL ms bl) w' ∧ ∀ lk, Kp lk bl (killL ms bl) := by
  obtain ⟨w', h1, h2, h3⟩ := marks_run (P := P) (fn := fn) (tmps := tmps) (t := t) (ro := none) (cs := cs) hm hh hi
  obtain ⟨f, c, hf, hc, rfl⟩ := fi_func hF
  obtain ⟨v, hv, hres⟩ := results_run (f := f) rfl ht h2.heap hr
  exact ⟨v, _, w', h1, rfl, ⟨rfl, rfl, rfl, f, hf, hres⟩, hv, h2, h3⟩
theorem ini_get : ∀ {args : List AV} {vs : List Value} {i s : Nat}, DenL β args vs → i ≤ s → Den β (get (ini i args) s) (vs[s - i]?.getD undef)
  | [], vs, i, s, h, _ => by simp only [ini, get, Den]
  | x :: r, vs, i, s, h, hi => by
    simp only [DenL] at h
    obtain ⟨y, zs, rfl, h1, h2⟩ := h
    simp only [ini, get]
    by_cases e : i = s
    · subst e; simpa using h1
    · rw [if_neg e]
      have := ini_get (i := i + 1) (s := s) h2 (by omega)
      have e2 : s - i = (s - (i + 1)) + 1 := by omega
      rw [e2, List.getElem?_cons_succ]; exact this
theorem enter_ok {g : FuncId} {F : FI} {args : List AV} {vs : List Value} {bl : Bls} {lk : List Nat} (hF : fi P g = some F) (hck : Ck P pl g F.body) (hβ : β.ck = Ck P pl) (ha : DenL β args vs) (hn : args.length ≤ F.n) :
    FrR P β bl none ⟨g, F.n, ini 0 args, [.code F.body], none, [], lk⟩ (Frame.enter P g vs.toArray .normal) := by
  obtain ⟨f, c, hf, hc, rfl⟩ := fi_func hF
  simp only at hck hn ⊢
  have hl := denL_length ha
  refine ⟨vs.toArray ++ Array.replicate (f.ntmps - vs.toArray.size) undef, [], [.code c], none, by simp [Frame.enter, Frame.atR, hf, hc], rfl, rfl, ⟨⟨by simp; omega, fun s => ?_⟩, _, _, rfl, ⟨rfl, by rw [hβ]; exact hck⟩, rfl⟩⟩
  have := ini_get (i := 0) (s := s) ha (Nat.zero_le _)
  simp only [Nat.sub_zero] at this
  rw [Array.getD_eq_getD_getElem?, Array.getElem?_append]
  by_cases e : s < vs.toArray.size
  · rw [if_pos e]; simpa using this
  · rw [if_neg e]
    have e2 : vs[s]? = none := by rw [List.getElem?_eq_none]; simpa using e
    rw [e2] at this
    have e3 : ((Array.replicate (f.ntmps - vs.toArray.size) undef)[s - vs.toArray.size]?).getD undef = undef := by
      rw [Array.getElem?_replicate]; split <;> rfl
    rw [e3]; exact this
theorem setPs_ok {n : Nat} : ∀ {ps : List Nat} {args : List AV} {vs : List Value} {tm : TM} {tmps : Array Value}, TmOk β n tm tmps → DenL β args vs → args.length = ps.length → (ps.all fun p => decide (p < n)) = true →
    TmOk β n (setPs tm ps args) ((ps.zip vs).foldl (fun tmps (t, a) => tmps.setIfInBounds t a) tmps)
  | [], args, vs, tm, tmps, ht, ha, hl, _ => by
    cases args with
    | nil => simpa [setPs] using ht
    | cons a r => simp at hl
  | p :: ps, [], vs, tm, tmps, _, _, hl, _ => by simp at hl
  | p :: ps, a :: args, vs, tm, tmps, ht, ha, hl, hp => by
    simp only [DenL] at ha
    obtain ⟨y, zs, rfl, h1, h2⟩ := ha
    simp only [List.all_cons, Bool.and_eq_true, decide_eq_true_eq] at hp
    simp only [setPs, List.zip_cons_cons, List.foldl_cons]
    refine setPs_ok ?_ h2 (by simpa using hl) hp.2
    have := ht.put h1 (some p)
    unfold put at this
    simpa [hp.1] using this
theorem round_ok {l b s : Nat} {st : LoopState} {pend : Option Code} {g : FuncId} {n : Nat} {tm : TM} {ps : List Nat} {as body : Code} {df : Nat} {args : List AV} {vs : List Value} {bl : Bls} {w : World} {lk : List Nat} (hh : Heap β bl w)
    (hl : lvl bl l = some (.loop st pend g n tm ps as body df)) (hb : β.b[l]? = some (some (b, s))) (ha : DenL β args vs) (hlen : args.length = ps.length) (hps : (ps.all fun p => decide (p < n)) = true) :
    ∃ tmps, (Instr.yield b vs.toArray).run P w = .ok (.round b g tmps as body) w ∧ FrR P β bl none ⟨g, n, setPs tm ps args, [.code as, .br, .code body], some l, [], lk⟩ (Frame.round b g tmps as body .normal) := by
  obtain ⟨o, ho, hd⟩ := heap_rec hh hl hb rfl
  simp only [ObDen] at hd
  obtain ⟨tmps, b', s', rfl, ht, hdf, hc1, hc2, -⟩ := hd
  have hl' := denL_length ha
  have hy := run_yield (P := P) (args := vs.toArray) ho (by simp; omega)
  have e : ((ps.toArray.zip vs.toArray).foldl (fun tmps (x : Tmp × Value) => tmps.setIfInBounds x.1 x.2) tmps) = (ps.zip vs).foldl (fun tmps (x : Tmp × Value) => tmps.setIfInBounds x.1 x.2) tmps := by
    rw [← Array.foldl_toList]; simp
  refine ⟨(ps.zip vs).foldl (fun tmps (x : Tmp × Value) => tmps.setIfInBounds x.1 x.2) tmps, by rw [← e]; exact hy, ?_⟩
  refine ⟨_, [], [.code as, .beginRound, .code body], some b, by simp [Frame.round, Frame.atR]; rfl, rfl, ⟨b, s, hb, rfl⟩, ⟨?_, _, _, rfl, ⟨rfl, hc1⟩, _, _, rfl, rfl, _, _, rfl, ⟨rfl, hc2⟩, rfl⟩⟩
  exact setPs_ok ht ha hlen hps
end
end Go.SY
/-
  The symbolic machine: its steps are steps of the model's machine: operations.
-/
namespace Go.SY
open Go
def OutOk (P : Program) (pl : FuncId → Nat → Option Plan) (C : Ctx) (c : Conf) : Out → Prop
  | .next vc c' => vc = true → To P pl C c c'
  | .split b c1 c2 => (b = true → To P pl C c c1) ∧ (b = false → To P pl C c c2)
  | .fin vc r bl => vc = true → ∀ S : AV → Bls → Prop, S r bl → Rch P pl C c S
  | .stop => True
def ExtOk (P : Program) (g : FuncId) (c : List AV → Bls → Option (Bool × AV × Bls)) : Prop := ∀ args bl r bl', c args bl = some (true, r, bl') → bl' = bl ∧ ∀ (β : Env) (w : World) (vs : List Value), Heap β bl w → DenL β args vs → ∃ y, Den β r y ∧ (callFunc g vs.toArray).run P w = .ok (.value y) w
def KOk (P : Program) (pl : FuncId → Nat → Option Plan) (K : KT) : Prop := ∀ g c, K g = some c → ExtOk P g c ∨ ((∃ F, fi P g = some F) ∧ ∀ args bl r bl', c args bl = some (true, r, bl') → Klm bl bl' ∧
  ∀ (β : Env) (w : World) (vs : List Value) (cs : List Frame), Heap β bl w → β.ck = Ck P pl → DenL β args vs →
    ∃ v fr β' w', Steps P (lone (Frame.enter P g vs.toArray .normal) cs w) (lone fr cs w') ∧ fr.leaving P w' (.returned v) ∧ Den β' r v ∧ Ext β bl w β' bl' w')
def KOne (P : Program) (pl : FuncId → Nat → Option Plan) (g : FuncId) (c : List AV → Bls → Option (Bool × AV × Bls)) : Prop := (∃ F, fi P g = some F) ∧ ∀ args bl r bl', c args bl = some (true, r, bl') → Kl bl bl' ∧
  ∀ (β : Env) (w : World) (vs : List Value) (cs : List Frame), Heap β bl w → β.ck = Ck P pl → DenL β args vs →
    ∃ v fr β' w', Steps P (lone (Frame.enter P g vs.toArray .normal) cs w) (lone fr cs w') ∧ fr.leaving P w' (.returned v) ∧ Den β' r v ∧ Ext β bl w β' bl' w'
theorem KOne.ok {P : Program} {pl : FuncId → Nat → Option Plan} {g : FuncId} {c : List AV → Bls → Option (Bool × AV × Bls)} (h : KOne P pl g c) : (∃ F, fi P g = some F) ∧ ∀ args bl r bl', c args bl = some (true, r, bl') → Klm bl bl' ∧
  ∀ (β : Env) (w : World) (vs : List Value) (cs : List Frame), Heap β bl w → β.ck = Ck P pl → DenL β args vs →
    ∃ v fr β' w', Steps P (lone (Frame.enter P g vs.toArray .normal) cs w) (lone fr cs w') ∧ fr.leaving P w' (.returned v) ∧ Den β' r v ∧ Ext β bl w β' bl' w' := by
  refine ⟨h.1, fun args bl r bl' hc => ?_⟩
  obtain ⟨h1, h2⟩ := h.2 args bl r bl' hc
  exact ⟨.of h1, h2⟩
section
variable {all : Array Oper} {n : Nat} {tm : TM} {kn : Option Bool} {gd : Option (Nat × Bool)}
theorem wtS_yes (h : wtS all n tm kn gd = .yes) (hk : ∀ b, kn = some b → WS all n tm gd b) : WS all n tm gd true := by
  unfold wtS at h
  split at h
  · exact hk _ rfl
  · cases h
  · split at h
    · rfl
    · split at h
      · split at h
        · split at h <;> cases h
        · cases h
      · cases h
theorem wtS_no (h : wtS all n tm kn gd = .no) (hk : ∀ b, kn = some b → WS all n tm gd b) : WS all n tm gd false := by
  unfold wtS at h
  split at h
  · cases h
  · exact hk _ rfl
  · split at h
    · cases h
    · rename_i j want
      split at h
      · rename_i d hd
        split at h
        · rename_i hlt
          split at h
          · cases h
          · rename_i e
            exact ⟨d, hd, hlt, .inr ⟨rfl, e⟩⟩
          · cases h
        · cases h
      · cases h
theorem wtS_spl {b want : Bool} {d : Nat} (h : wtS all n tm kn gd = .spl b want d) : (∃ j, gd = some (j, want) ∧ gdst all j = some d) ∧ d < n ∧ get tm d = .v (.bool b) := by
  unfold wtS at h
  split at h
  · cases h
  · cases h
  · split at h
    · cases h
    · rename_i j want'
      split at h
      · rename_i d' hd
        split at h
        · rename_i hlt
          split at h
          · rename_i b' e
            simp only [Wt.spl.injEq] at h
            obtain ⟨rfl, rfl, rfl⟩ := h
            exact ⟨⟨j, rfl, hd⟩, hlt, e⟩
          · cases h
          · cases h
        · cases h
      · cases h
theorem WS.told {j d : Nat} {want b : Bool} (hd : gdst all j = some d) (hlt : d < n) : WS all n ((d, .v (.bool b)) :: tm) (some (j, want)) (if b = true then want else !want) := by
  refine ⟨d, hd, hlt, .inl ?_⟩
  simp only [get, if_true]
  cases b <;> cases want <;> rfl
theorem imp_told {d : Nat} {b : Bool} (h : get tm d = .v (.bool b)) : Imp tm ((d, .v (.bool b)) :: tm) := fun β s v hv => by
  simp only [get]
  split
  · rename_i e; subst e; rw [h] at hv; exact hv
  · exact hv
end
section
variable {P : Program} {β : Env} {bl bl' : Bls} {fn : FuncId} {n : Nat} {tm : TM} {all : Array Oper} {o : Oper} {tmps : Array Value} {ds : List Deferred} {ro : Option Nat} {i : Nat} {L : List Nat} {t : List Item} {cs : List Frame} {w : World} {lk : List Nat} {r : AV} {vc : Bool}
def putV (tmps : Array Value) (d : Option Nat) (y : Value) : Array Value := match d with
  | some d => tmps.setIfInBounds d y
  | none => tmps
theorem put_act (d : Option Nat) (y : Value) : (Act.put ⟨tmps, ds⟩ d y : Act) = ⟨putV tmps d y, ds⟩ := by cases d <;> rfl
theorem eval_act : (Act.eval ⟨tmps, ds⟩ : Operand → Value) = evT tmps := by funext x; cases x <;> rfl
theorem op_val (hpo : Poised β n tm all o tmps) (hws : WS all n tm o.guard true) (ho : all[i]? = some o) (hso : sop P tm bl lk o.op = .val vc r bl') (hv : vc = true) (hh : Heap β bl w) :
    ∃ y w' β', step P (lone ((fr0 fn ro).atR ⟨tmps, ds⟩ (.inRegion all (i :: L) :: t)) cs w) = .next (lone ((fr0 fn ro).atR ⟨putV tmps o.dst y, ds⟩ (.inRegion all L :: t)) cs w') ∧ Den β' r y ∧ Ext β bl w β' bl' w' ∧ Kp lk bl bl' := by
  obtain ⟨ρ, hev, hex⟩ := hpo.ev
  obtain ⟨⟨y, w', β', hrun, hy, hext⟩, hk⟩ := sop_val_sound hev hh hso hv
  refine ⟨y, w', β', ?_, hy, hext, hk⟩
  have hg := stepGR_op (P := P) (b := fr0 fn ro) (a := ⟨tmps, ds⟩) (k := t) (cs := cs) (w := w) (rest := L) ho (hpo.wt true hws)
  rw [Oper.semAt_eq _ _ _ (sop_not_defer hso (by simp)), eval_act, ← hex] at hg
  have hfin := Frame.finish_atR (fr0 fn ro) ⟨tmps, ds⟩ all i L t y
  rw [ho] at hfin
  simp only [Option.bind_some, put_act] at hfin
  refine step_lone_go ?_
  rw [hg, ← hfin]
  rcases hrun with hrun | ⟨rfl, hrun⟩ <;> simp [stepG.apply, hrun]
theorem op_call {g : FuncId} {args : List AV} {F : FI} (hpo : Poised β n tm all o tmps) (hws : WS all n tm o.guard true) (ho : all[i]? = some o) (hso : sop P tm bl lk o.op = .call g args) (hF : fi P g = some F) :
    ∃ vs : List Value, DenL β args vs ∧ step P (lone ((fr0 fn ro).atR ⟨tmps, ds⟩ (.inRegion all (i :: L) :: t)) cs w) = .next (lone (Frame.enter P g vs.toArray .normal) ((fr0 fn ro).atR ⟨tmps, ds⟩ (.inRegion all (i :: L) :: t) :: cs) w) := by
  obtain ⟨ρ, hev, hex⟩ := hpo.ev
  obtain ⟨vs, h1, hrun⟩ := sop_call (w := w) hev hso hF
  refine ⟨vs, h1, ?_⟩
  have hg := stepGR_op (P := P) (b := fr0 fn ro) (a := ⟨tmps, ds⟩) (k := t) (cs := cs) (w := w) (rest := L) ho (hpo.wt true hws)
  rw [Oper.semAt_eq _ _ _ (sop_not_defer hso (by simp)), eval_act, ← hex] at hg
  refine step_lone_go ?_
  rw [hg]
  simp [stepG.apply, hrun, Frame.atR]
theorem op_ext {g : FuncId} {args : List AV} {c : List AV → Bls → Option (Bool × AV × Bls)} (hpo : Poised β n tm all o tmps) (hws : WS all n tm o.guard true) (ho : all[i]? = some o) (hso : sop P tm bl lk o.op = .call g args) (hx : ExtOk P g c) (hc : c args bl = some (true, r, bl')) (hhp : Heap β bl w) :
    ∃ y, step P (lone ((fr0 fn ro).atR ⟨tmps, ds⟩ (.inRegion all (i :: L) :: t)) cs w) = .next (lone ((fr0 fn ro).atR ⟨putV tmps o.dst y, ds⟩ (.inRegion all L :: t)) cs w) ∧ Den β r y := by
  obtain ⟨ρ, hev, hex⟩ := hpo.ev
  obtain ⟨vs, h1, hrun⟩ := sop_callF (w := w) hev hso
  obtain ⟨y, hy, hrun2⟩ := (hx args bl r bl' hc).2 β w vs hhp h1
  rw [hrun2] at hrun
  refine ⟨y, ?_, hy⟩
  have hg := stepGR_op (P := P) (b := fr0 fn ro) (a := ⟨tmps, ds⟩) (k := t) (cs := cs) (w := w) (rest := L) ho (hpo.wt true hws)
  rw [Oper.semAt_eq _ _ _ (sop_not_defer hso (by simp)), eval_act, ← hex] at hg
  have hfin := Frame.finish_atR (fr0 fn ro) ⟨tmps, ds⟩ all i L t y
  rw [ho] at hfin
  simp only [Option.bind_some, put_act] at hfin
  refine step_lone_go ?_
  rw [hg, ← hfin]
  simp [stepG.apply, hrun]
theorem op_yld {l : Nat} {args : List AV} (hpo : Poised β n tm all o tmps) (hws : WS all n tm o.guard true) (ho : all[i]? = some o) (hso : sop P tm bl lk o.op = .yld l args) :
    ∃ (vs : List Value) (b s : Nat), DenL β args vs ∧ β.b[l]? = some (some (b, s)) ∧ ∀ g tmps' as body, (Instr.yield b vs.toArray).run P w = .ok (.round b g tmps' as body) w →
      step P (lone ((fr0 fn ro).atR ⟨tmps, ds⟩ (.inRegion all (i :: L) :: t)) cs w) = .next (lone (Frame.round b g tmps' as body .normal) ((fr0 fn ro).atR ⟨tmps, ds⟩ (.inRegion all (i :: L) :: t) :: cs) w) := by
  obtain ⟨ρ, hev, hex⟩ := hpo.ev
  obtain ⟨vs, b, s, h1, hb, hrun⟩ := sop_yld (P := P) (w := w) hev hso
  refine ⟨vs, b, s, h1, hb, fun g tmps' as body hy => ?_⟩
  rw [hy] at hrun
  have hg := stepGR_op (P := P) (b := fr0 fn ro) (a := ⟨tmps, ds⟩) (k := t) (cs := cs) (w := w) (rest := L) ho (hpo.wt true hws)
  rw [Oper.semAt_eq _ _ _ (sop_not_defer hso (by simp)), eval_act, ← hex] at hg
  refine step_lone_go ?_
  rw [hg]
  simp [stepG.apply, hrun]
def At (P : Program) (β : Env) (bl : Bls) (f : Fr) (o : Oper) (k' : List SI) (lk : List Nat) (fr : Frame) : Prop :=
  ∃ tmps ds all i L t ro, fr = (fr0 f.fn ro).atR ⟨tmps, ds⟩ (.inRegion all (i :: L) :: t) ∧ all[i]? = some o ∧ Poised β f.n f.tm all o tmps ∧ WS all f.n f.tm o.guard true ∧ MsR β f.ms ds ∧ RoR β f.rd ro ∧
    (∀ β' bl' r y, β.le β' → Den β' r y → Kp lk bl bl' → TodoR P β' bl' none f.fn f.n (put f.n f.tm o.dst r) k' (putV tmps o.dst y) (.inRegion all L :: t)) ∧ FrR P β bl (some lk) f fr
theorem At.after {f : Fr} {k' : List SI} {fr : Frame} {y : Value} {β' : Env} (h : At P β bl f o k' lk fr) (hle : β.le β') (hy : Den β' r y) (hk : Kp lk bl bl') :
    FrR P β' bl' none ⟨f.fn, f.n, put f.n f.tm o.dst r, k', f.rd, f.ms, f.lk⟩ (fr.finish y) := by
  obtain ⟨tmps, ds, all, i, L, t, ro, rfl, ho, -, -, h1, h2, h3, -⟩ := h
  rw [Frame.finish_atR, ho]
  simp only [Option.bind_some, put_act]
  exact ⟨_, ds, _, ro, rfl, h1.mono hle, h2.mono hle, h3 β' bl' r y hle hy hk⟩
variable {pl : FuncId → Nat → Option Plan} {C : Ctx} {f f0 : Fr} {fs : List Fr} {K : KT} {k' : List SI}
theorem enterS_ok (hpl : PlOk P pl) {g : FuncId} {args : List AV} (hfn : f.fn = f0.fn) (hlk : f.lk = f0.lk) (hsub : ∀ q ∈ f0.lk, q ∈ lk)
    (h : ∀ β fr cs w F, fi P g = some F → FrR P β bl none f0 fr → Heap β bl w → β.ck = Ck P pl → ∃ β' vs fr' w', DenL β' args vs ∧ Steps P (lone fr cs w) (lone (Frame.enter P g vs.toArray .normal) (fr' :: cs) w') ∧ FrR P β' bl' (some lk) f fr' ∧ Ext β bl w β' bl' w' ∧ Kp f0.lk bl bl') :
    OutOk P pl C ⟨f0 :: fs, bl⟩ (enterS P g args lk (f :: fs) bl') := by
  unfold enterS
  split
  · rename_i F hF
    split
    · rename_i hlen
      intro _
      refine to_push hfn hlk (by rw [hlk]; exact hsub) fun β fr cs w h1 hh hck => ?_
      obtain ⟨β', vs, fr', w', h2, h3, h4, h5, h6⟩ := h β fr cs w F hF h1 hh hck
      exact ⟨β', fr', _, w', h3, enter_ok hF (hpl.ck g F hF) (by rw [h5.le.ck]; exact hck) h2 hlen, h4, h5, h6⟩
    · trivial
  · trivial
theorem opS_ok (hpl : PlOk P pl) (hK : KOk P pl K) (hfn : f.fn = f0.fn) (hlk : f.lk = f0.lk) (hsub : ∀ q ∈ f0.lk, q ∈ lk)
    (hat : ∀ β fr cs w, FrR P β bl none f0 fr → β.ck = Ck P pl → Heap β bl w → ∃ fr', Steps P (lone fr cs w) (lone fr' cs w) ∧ At P β bl f o k' lk fr') :
    OutOk P pl C ⟨f0 :: fs, bl⟩ (opS P K f o k' lk fs bl) := by
  obtain ⟨fn, n, tm, k, rd, ms, lk0⟩ := f
  simp only at hfn hlk
  unfold opS
  simp only
  split
  · -- a value
    rename_i vc r bl' hso
    intro hv
    refine to_top hfn hlk fun β fr cs w h1 hh hck => ?_
    obtain ⟨fr', hs, hat'⟩ := hat β fr cs w h1 hck hh
    have hat2 := hat'
    obtain ⟨tmps, ds, all, i, L, t, ro, rfl, ho, hpo, hws, g1, g2, g3, -⟩ := hat'
    obtain ⟨y, w', β', h2, hy, h3, h4⟩ := op_val (fn := fn) (ro := ro) (ds := ds) (L := L) (t := t) (cs := cs) hpo hws ho hso hv hh
    refine ⟨β', _, w', hs.trans (.one h2), ?_, h3, h4.sub hsub⟩
    exact ⟨_, ds, _, ro, rfl, g1.mono h3.le, g2.mono h3.le, g3 β' bl' r y h3.le hy h4⟩
  · rename_i g args hso
    split
    · -- a contract
      rename_i c hc
      split
      · rename_i vc r bl' hcr
        intro hv
        rw [Bool.and_eq_true] at hv
        obtain ⟨rfl, hal⟩ := hv
        rcases hK g c hc with hx | ⟨⟨F, hF⟩, hcon⟩
        · obtain ⟨rfl, -⟩ := hx args bl r bl' hcr
          refine to_top hfn hlk fun β fr cs w h1 hh hck => ?_
          obtain ⟨fr', hs, hat'⟩ := hat β fr cs w h1 hck hh
          obtain ⟨tmps, ds, all, i, L, t, ro, rfl, ho, hpo, hws, g1, g2, g3, -⟩ := hat'
          obtain ⟨y, h2, hy⟩ := op_ext (fn := fn) (ro := ro) (ds := ds) (L := L) (t := t) (cs := cs) (w := w) hpo hws ho hso hx hcr hh
          exact ⟨β, _, w, hs.trans (.one h2), ⟨_, ds, _, ro, rfl, g1, g2, g3 β _ r y (.refl _) hy (.refl _ _)⟩, .refl hh, .refl _ _⟩
        obtain ⟨hkl, hcon⟩ := hcon args bl r bl' hcr
        have hkp := alive_keepM hkl hal
        refine to_top hfn hlk fun β fr cs w h1 hh hck => ?_
        obtain ⟨fr', hs, hat'⟩ := hat β fr cs w h1 hck hh
        have hat2 := hat'
        obtain ⟨tmps, ds, all, i, L, t, ro, rfl, ho, hpo, hws, g1, g2, g3, -⟩ := hat'
        obtain ⟨vs, hvs, h2⟩ := op_call (fn := fn) (ro := ro) (ds := ds) (L := L) (t := t) (cs := cs) (w := w) hpo hws ho hso hF
        obtain ⟨v, frl, β', w', h3, h4, h5, h6⟩ := hcon β w vs (_ :: cs) hh hck hvs
        exact ⟨β', _, w', hs.trans (.head h2 (h3.trans (.one (step_leave_returned h4)))), hat2.after h6.le h5 hkp, h6, hkp.sub hsub⟩
      · trivial
    · -- entered
      refine enterS_ok hpl hfn hlk hsub fun β fr cs w F hF h1 hh hck => ?_
      obtain ⟨fr', hs, hat'⟩ := hat β fr cs w h1 hck hh
      obtain ⟨tmps, ds, all, i, L, t, ro, rfl, ho, hpo, hws, g1, g2, g3, g4⟩ := hat'
      obtain ⟨vs, hvs, h2⟩ := op_call (fn := fn) (ro := ro) (ds := ds) (L := L) (t := t) (cs := cs) (w := w) hpo hws ho hso hF
      exact ⟨β, vs, _, w, hvs, hs.trans (.one h2), g4, .refl hh, .refl _ _⟩
  · -- a round
    rename_i l args hso
    unfold roundS
    split
    · rename_i st pend g n' tm' ps a b df hl
      split
      · rename_i hlen
        intro _
        refine to_push hfn hlk (by rw [hlk]; exact hsub) fun β fr cs w h1 hh hck => ?_
        obtain ⟨fr', hs, hat'⟩ := hat β fr cs w h1 hck hh
        obtain ⟨tmps, ds, all, i, L, t, ro, rfl, ho, hpo, hws, g1, g2, g3, g4⟩ := hat'
        obtain ⟨vs, b', s, hvs, hb, h2⟩ := op_yld (P := P) (fn := fn) (ro := ro) (ds := ds) (L := L) (t := t) (cs := cs) (w := w) hpo hws ho hso
        obtain ⟨tmps', hy, hfr⟩ := round_ok (P := P) (lk := lk) hh hl hb hvs hlen.1 hlen.2
        exact ⟨β, _, _, w, hs.trans (.one (h2 _ _ _ _ hy)), hfr, g4, .refl hh, .refl _ _⟩
      · trivial
    · trivial
  · trivial
end
end Go.SY
/-
  The symbolic machine: its steps are steps of the model's machine.
-/
namespace Go.SY
open Go
section
variable {P : Program} {pl : FuncId → Nat → Option Plan} {C : Ctx} {fn : FuncId} {n : Nat} {tm : TM} {k k' : List SI} {rd : Option Nat} {ms lk : List Nat} {fs : List Fr} {bl bl' : Bls} {K : KT} {x : SI}
theorem to_plain (h1 : ∀ all plan A g, x ≠ .dr all plan A g) (h2 : ∀ all os g, x ≠ .ops all os g)
    (h : ∀ β tmps ds ro y t cs w, TmOk β n tm tmps → RoR β rd ro → IR β fn x y → KR β fn k t → Heap β bl w → β.ck = Ck P pl →
      ∃ t', step P (lone ((fr0 fn ro).atR ⟨tmps, ds⟩ (y :: t)) cs w) = .next (lone ((fr0 fn ro).atR ⟨tmps, ds⟩ t') cs w) ∧ TodoR P β bl none fn n tm k' tmps t') :
    To P pl C ⟨⟨fn, n, tm, x :: k, rd, ms, lk⟩ :: fs, bl⟩ ⟨⟨fn, n, tm, k', rd, ms, lk⟩ :: fs, bl⟩ :=
  to_top rfl rfl fun β fr cs w hf hh hck => by
    obtain ⟨tmps, ds, y, t, ro, rfl, g1, g2, g3, g4, g5⟩ := hf.plain h1 h2
    obtain ⟨t', e, ht⟩ := h β tmps ds ro y t cs w g3 g2 g4 g5 hh hck
    exact ⟨β, _, w, .one e, ⟨tmps, ds, t', ro, rfl, g1, g2, ht⟩, .refl hh, .refl _ _⟩
theorem Ext.drawn {β : Env} {w : World} (h : Heap β bl w) (d : Nat) : Ext β bl w β bl { w with drawn := d } :=
  ⟨.refl _, ⟨h.len, fun l c hl => by obtain ⟨b, e, hi⟩ := h.lv l c hl; exact ⟨b, e, hi.same fun _ _ _ => rfl⟩, h.sep, h.frz⟩, ⟨rfl, rfl, rfl, Nat.le_refl _, fun _ _ _ => rfl⟩, fun _ h => .inl h, fun _ _ h => .inl h, rfl⟩
theorem to_draw (hpl : PlOk P pl) {id : Nat} {all : Array Oper} {p : Plan} (hp : pl fn id = some p) :
    To P pl C ⟨⟨fn, n, tm, .code (.region id all true) :: k, rd, ms, lk⟩ :: fs, bl⟩ ⟨⟨fn, n, tm, .dr all p [] none :: k, rd, ms, lk⟩ :: fs, bl⟩ :=
  to_top rfl rfl fun β fr cs w hf hh hck => by
    obtain ⟨tmps, ds, y, t, ro, rfl, g1, g2, g3, ⟨rfl, hc⟩, g5⟩ := hf.plain (by simp) (by simp)
    rw [hck] at hc
    have hext := Ext.drawn hh (w.drawn + 1)
    refine ⟨β, _, _, .one stepR_region_draw, ⟨tmps, ds, _, ro, rfl, g1, g2, ⟨_, t, rfl, g5, ?_, fun b hb => by cases hb⟩⟩, hext, .refl _ _⟩
    have hs : Region.schedule (P.follows .mixedOrders) all = Region.linearise .any all := by funext t; simp [Region.schedule, hpl.mix]
    rw [hs]
    exact DrR.start (hc rfl p hp) g3 _
theorem to_self {f : Fr} {f' : Fr} (hfn : f'.fn = f.fn) (hlk : f'.lk = f.lk) (h : ∀ β fr, FrR P β bl none f fr → β.ck = Ck P pl → FrR P β bl none f' fr) : To P pl C ⟨f :: fs, bl⟩ ⟨f' :: fs, bl⟩ :=
  to_top hfn hlk fun β fr cs w hf hh hck => ⟨β, fr, w, .refl _ _, h β fr hf hck, .refl hh, .refl _ _⟩
theorem ops_at {β : Env} {all : Array Oper} {o : Oper} {os : List Oper} {g : Option Bool} {fr : Frame} (h : FrR P β bl none ⟨fn, n, tm, .ops all (o :: os) g :: k, rd, ms, lk⟩ fr) :
    ∃ tmps ds m t ro, fr = (fr0 fn ro).atR ⟨tmps, ds⟩ (.inRegion all (m :: List.range' (m + 1) (all.size - (m + 1))) :: t) ∧ all[m]? = some o ∧ os = all.toList.drop (m + 1) ∧ TmOk β n tm tmps ∧ MsR β ms ds ∧ RoR β rd ro ∧ KR β fn k t ∧
      (m :: List.range' (m + 1) (all.size - (m + 1)) = List.range' m (all.size - m)) ∧ o :: os = all.toList.drop m ∧ ∀ b, g = some b → WS all n tm o.guard b := by
  obtain ⟨tmps, ds, t, ro, rfl, g1, g2, g3, ⟨y, t', rfl, ⟨-, m, hm, rfl⟩, g4⟩, g5⟩ := h
  have hlt : m < all.size := by
    apply Decidable.byContradiction
    intro hn
    rw [List.drop_of_length_le (by simp; omega)] at hm
    cases hm
  have ho : all[m]? = some o := by
    have := congrArg (·[0]?) hm
    simp only [List.getElem?_cons_zero, List.getElem?_drop, Nat.add_zero] at this
    rw [← Array.getElem?_toList]; exact this.symm
  have hr : List.range' m (all.size - m) = m :: List.range' (m + 1) (all.size - (m + 1)) := by
    have : all.size - m = (all.size - (m + 1)) + 1 := by omega
    rw [this, List.range'_succ]
  refine ⟨tmps, ds, m, t', ro, by rw [hr], ho, ?_, g3, g1, g2, g4, hr.symm, hm, fun b hb => ?_⟩
  · have := congrArg List.tail hm
    simpa using this
  · obtain ⟨o', os', e, hw⟩ := g5 b hb
    simp only [List.cons.injEq] at e
    rw [e.1]; exact hw
theorem KR.ops {β : Env} {all : Array Oper} {os : List Oper} {m : Nat} {t : List Item} (hos : os = all.toList.drop m) (hk : KR β fn k t) : KR β fn (.ops all os none :: k) (.inRegion all (List.range' m (all.size - m)) :: t) :=
  ⟨_, _, rfl, ⟨rfl, m, hos, rfl⟩, hk⟩
theorem ops_ok (hpl : PlOk P pl) (hK : KOk P pl K) {all : Array Oper} {os : List Oper} {g : Option Bool} {u : Bool} {drS} :
    OutOk P pl C ⟨⟨fn, n, tm, .ops all os g :: k, rd, ms, lk⟩ :: fs, bl⟩ (stepS P K pl u drS ⟨⟨fn, n, tm, .ops all os g :: k, rd, ms, lk⟩ :: fs, bl⟩) := by
  unfold stepS
  simp only
  split
  · -- all done
    intro _
    refine to_top rfl rfl fun β fr cs w hf hh hck => ?_
    obtain ⟨tmps, ds, t, ro, rfl, g1, g2, g3, ⟨y, t', rfl, ⟨-, m, hm, rfl⟩, g4⟩, g5⟩ := hf
    have hle : all.size ≤ m := by
      have := congrArg List.length hm
      simp at this; omega
    have e : List.range' m (all.size - m) = [] := by
      have : all.size - m = 0 := by omega
      rw [this]; rfl
    rw [e]
    exact ⟨β, _, w, .one stepR_region_end, ⟨tmps, ds, t', ro, rfl, g1, g2, todo_of g3 g4⟩, .refl hh, .refl _ _⟩
  · rename_i o os
    split
    · -- wanted
      rename_i hw
      refine opS_ok hpl hK rfl rfl (fun q hq => hq) fun β fr cs w hf hck hh => ?_
      obtain ⟨tmps, ds, m, t, ro, rfl, ho, hos, g3, g1, g2, g4, hr, hos', g5⟩ := ops_at hf
      have hws := wtS_yes hw g5
      refine ⟨_, .refl _ _, tmps, ds, all, m, _, t, ro, rfl, ho, g3.poised all o, hws, g1, g2, fun β' bl' r y hle hy hk => ?_, ?_⟩
      · exact ⟨(g3.mono hle).put hy _, KR.ops hos (g4.mono hle), fun b hb => by cases hb⟩
      · refine ⟨tmps, ds, _, ro, rfl, g1, g2, g3, ?_, fun b hb => ⟨o, os, rfl, ?_⟩⟩
        · rw [hr]; exact KR.ops hos' g4
        · obtain rfl := Option.some.inj hb; exact hws
    · -- not wanted
      rename_i hw
      intro _
      refine to_top rfl rfl fun β fr cs w hf hh hck => ?_
      obtain ⟨tmps, ds, m, t, ro, rfl, ho, hos, g3, g1, g2, g4, hr, hos', g5⟩ := ops_at hf
      have hws := wtS_no hw g5
      have hwt := (g3.poised all o).wt false hws
      have hst := stepR_op_skip (P := P) (b := fr0 fn ro) (a := ⟨tmps, ds⟩) (k := t) (cs := cs) (w := w) (ops := all) (i := m) (rest := List.range' (m + 1) (all.size - (m + 1))) (by simp [ho, hwt])
      rw [ho] at hst
      simp only [Option.bind_some, put_act] at hst
      have hu : Den β (.tup []) undef := by simp only [Den, DenL]; exact ⟨[], rfl, rfl⟩
      exact ⟨β, _, w, .one hst, ⟨_, ds, _, ro, rfl, g1, g2, ⟨g3.put hu _, KR.ops hos g4, fun b hb => by cases hb⟩⟩, .refl hh, .refl _ _⟩
    · -- the guard is told
      rename_i b want d hw
      obtain ⟨⟨j, hg, hj⟩, hlt, he⟩ := wtS_spl hw
      have gen : ∀ c, b = c → To P pl C ⟨⟨fn, n, tm, .ops all (o :: os) g :: k, rd, ms, lk⟩ :: fs, bl⟩ ⟨⟨fn, n, (d, .v (.bool c)) :: tm, .ops all (o :: os) (some (if c = true then want else !want)) :: k, rd, ms, lk⟩ :: fs, bl⟩ := by
        rintro c rfl
        refine to_self rfl rfl fun β fr hf hck => ?_
        obtain ⟨tmps, ds, t, ro, rfl, g1, g2, g3, g4, g5⟩ := hf
        refine ⟨tmps, ds, t, ro, rfl, g1, g2, (imp_told he).tm g3, g4, fun b' hb' => ⟨o, os, rfl, ?_⟩⟩
        obtain rfl := Option.some.inj hb'
        rw [hg]
        exact WS.told hj hlt
      exact ⟨fun hb => gen true hb, fun hb => gen false hb⟩
    · trivial
theorem dr_ok (hpl : PlOk P pl) (hK : KOk P pl K) {all : Array Oper} {plan : Plan} {A : List (Nat × List Nat)} {g : Option Bool} :
    OutOk P pl C ⟨⟨fn, n, tm, .dr all plan A g :: k, rd, ms, lk⟩ :: fs, bl⟩ (drS P K ⟨fn, n, tm, .dr all plan A g :: k, rd, ms, lk⟩ all plan A g k fs bl) := by
  unfold drS
  simp only
  split
  · intro _
    refine to_top rfl rfl fun β fr cs w hf hh hck => ?_
    obtain ⟨tmps, ds, t, ro, rfl, g1, g2, ⟨L, t', rfl, g3, g4, g5⟩⟩ := hf
    obtain ⟨tmps', hs, ht⟩ := g4.last hh fn ro ds t' cs
    exact ⟨β, _, w, hs, ⟨tmps', ds, t', ro, rfl, g1, g2, todo_of ht g3⟩, .refl hh, .refl _ _⟩
  · rename_i i un rest
    split
    · trivial
    · rename_i o ho
      rw [nth_eq] at ho
      have ho' : all[i]? = some o := by simpa using ho
      have known : ∀ {β : Env} {fr : Frame}, FrR P β bl none ⟨fn, n, tm, .dr all ((i, un) :: rest) A g :: k, rd, ms, lk⟩ fr → ∀ b, g = some b → WS all n tm o.guard b := by
        rintro β fr ⟨tmps, ds, t, ro, rfl, g1, g2, ⟨L, t', rfl, g3, g4, g5⟩⟩ b hb
        obtain ⟨i', un', rest', o', e, h1, h2⟩ := g5 b hb
        simp only [List.cons.injEq, Prod.mk.injEq] at e
        obtain ⟨⟨rfl, rfl⟩, rfl⟩ := e
        rw [ho'] at h1
        rw [Option.some.inj h1]; exact h2
      -- an operation executed here, done by the machine at some time
      have flt : ∀ {A' : List (Nat × List Nat)} {r : AV}, (∀ p ∈ A, p ∈ A') → (∀ β fr, FrR P β bl none ⟨fn, n, tm, .dr all ((i, un) :: rest) A g :: k, rd, ms, lk⟩ fr → FactP P bl n all tm i o A' r) →
          (∀ (β : Env) (w : World) (gt : Array Value), Heap β bl w → TmOk β n tm gt → ∃ y, Den β r y) →
          To P pl C ⟨⟨fn, n, tm, .dr all ((i, un) :: rest) A g :: k, rd, ms, lk⟩ :: fs, bl⟩ ⟨⟨fn, n, put n tm o.dst r, .dr all rest A' none :: k, rd, ms, lk⟩ :: fs, bl⟩ := by
        intro A' r hA hf hy
        refine to_top rfl rfl fun β fr cs w hfr hh hck => ?_
        have hfact := hf β fr hfr
        obtain ⟨tmps, ds, t, ro, rfl, g1, g2, ⟨L, t', rfl, g3, g4, g5⟩⟩ := hfr
        obtain ⟨X, tm0, hi, l, a1, a2, a3, a4, a5, a6, a7, a8, ⟨gt, hgt⟩, a9⟩ := g4
        exact ⟨β, _, w, .refl _ _, ⟨tmps, ds, _, ro, rfl, g1, g2, ⟨L, t', rfl, g3, DrR.float ⟨X, tm0, hi, l, a1, a2, a3, a4, a5, a6, a7, a8, ⟨gt, hgt⟩, a9⟩ ho' hfact hA (hy β w gt hh hgt), fun b hb => by cases hb⟩⟩, .refl hh, .refl _ _⟩
      have purY : ∀ {r : AV}, pop P tm o.op = some (true, r) → ∀ (β : Env) (w : World) (gt : Array Value), Heap β bl w → TmOk β n tm gt → ∃ y, Den β r y := by
        intro r hp β w gt _ hgt
        obtain ⟨y, hy, -⟩ := pop_sound hgt.ev hp rfl
        exact ⟨y, hy⟩
      split
      · rename_i hw
        split
        · split
          · rename_i hcl vc r hp
            intro hv
            subst hv
            exact flt (fun _ h => h) (fun β fr hf => .inl ⟨wtS_yes hw (known hf), .inl hp⟩) (purY hp)
          · trivial
        · split
          · rename_i hcl vc r hp
            intro hv
            subst hv
            exact flt (fun _ h => h) (fun β fr hf => .inl ⟨wtS_yes hw (known hf), .inl hp⟩) (purY hp)
          · split
            · rename_i hcl _ vc r hp
              intro hv
              subst hv
              refine flt (fun _ h => List.mem_cons_of_mem _ h) (fun β fr hf => .inl ⟨wtS_yes hw (known hf), .inr ⟨hp, by assumption, List.mem_cons_self⟩⟩) fun β w gt hh hgt => ?_
              obtain ⟨y, hy, -⟩ := lop_sound hgt.ev hh hp rfl
              exact ⟨y, hy⟩
            · trivial
        · rename_i hcl
          refine opS_ok hpl hK rfl rfl (fun q hq => List.mem_append_right _ hq) fun β fr cs w hf hck hh => ?_
          have hws := wtS_yes hw (known hf)
          obtain ⟨tmps, ds, t, ro, rfl, g1, g2, ⟨L, t', rfl, g3, g4, g5⟩⟩ := hf
          obtain ⟨tmps', L', hs, h4⟩ := DrR.catch hh ho' hcl fn ro ds t' cs L tmps g4
          refine ⟨_, hs, tmps', ds, all, i, L', t', ro, rfl, ho', h4.poised ho', hws, g1, g2, fun β' bl' r y hle hy hk => ?_, ?_⟩
          · exact ⟨L', t', rfl, g3.mono hle, h4.done ho' hcl hle hy (.inl ⟨rfl, hk.sub fun q hq => List.mem_append_left _ hq⟩), fun b hb => by cases hb⟩
          · refine ⟨tmps', ds, _, ro, rfl, g1, g2, ⟨i :: L', t', rfl, g3, h4.wait ho' hcl fun q hq => List.mem_append_left _ hq, fun b hb => ⟨i, un, rest, o, rfl, ho', ?_⟩⟩⟩
            obtain rfl := Option.some.inj hb
            exact hws
      · rename_i hw
        intro _
        exact flt (fun _ h => h) (fun β fr hf => .inr ⟨wtS_no hw (known hf), rfl⟩) fun β w gt _ _ => ⟨.tuple #[], by simp only [Den, DenL]; exact ⟨[], rfl, rfl⟩⟩
      · rename_i b want d hw
        obtain ⟨⟨j, hg, hj⟩, hlt, he⟩ := wtS_spl hw
        have gen : ∀ c, b = c → To P pl C ⟨⟨fn, n, tm, .dr all ((i, un) :: rest) A g :: k, rd, ms, lk⟩ :: fs, bl⟩ ⟨⟨fn, n, (d, .v (.bool c)) :: tm, .dr all ((i, un) :: rest) A (some (if c = true then want else !want)) :: k, rd, ms, lk⟩ :: fs, bl⟩ := by
          rintro c rfl
          refine to_self rfl rfl fun β fr hf hck => ?_
          obtain ⟨tmps, ds, t, ro, rfl, g1, g2, ⟨L, t', rfl, g3, g4, g5⟩⟩ := hf
          refine ⟨tmps, ds, _, ro, rfl, g1, g2, ⟨L, t', rfl, g3, g4.imp (imp_told he), fun b' hb' => ⟨i, un, rest, o, rfl, ho', ?_⟩⟩⟩
          obtain rfl := Option.some.inj hb'
          rw [hg]
          exact WS.told hj hlt
        exact ⟨fun hb => gen true hb, fun hb => gen false hb⟩
      · trivial
end
end Go.SY
/-
  The symbolic machine: its steps are steps of the model's machine: all of them.
-/
namespace Go.SY
open Go
section
variable {P : Program} {pl : FuncId → Nat → Option Plan} {C : Ctx} {fn : FuncId} {n : Nat} {tm : TM} {k k' : List SI} {rd : Option Nat} {ms lk : List Nat} {fs : List Fr} {bl bl' : Bls} {K : KT} {x : SI} {f : Fr}
theorem retS_ok (hf : f.fn = fn) (hlkf : f.lk = lk) (hms : f.ms = ms) (h : ∀ β fr cs w, FrR P β bl none f fr → Heap β bl w → β.ck = Ck P pl → ∃ tmps ds t, step P (lone fr cs w) = .next (lone { (fr0 fn none).atR ⟨tmps, ds⟩ t with mode := .returning } cs w) ∧ TmOk β n tm tmps ∧ MsR β ms ds) :
    OutOk P pl C ⟨f :: fs, bl⟩ (retS P fn tm ms lk fs bl) := by
  unfold retS
  split
  · rename_i F hF
    split
    · rename_i hi
      split
      · rename_i vc r hr
        split
        · -- the run's end
          intro hv S hS
          subst hv
          rintro β m ⟨⟨f0, fs0, fr, ts, w, e, rfl, h1, h2, h3⟩, h4, h5⟩
          simp only [List.cons.injEq] at e
          obtain ⟨rfl, rfl⟩ := e
          simp only [SusR] at h2
          subst h2
          obtain ⟨tmps, ds, t, hst, ht, hm⟩ := h β fr C.cs w h1 h3.heap h5
          obtain ⟨v, frl, w', s1, s2, s3, s4, s5, -⟩ := leave_run (t := t) (cs := C.cs) hF hm ht h3.heap hi hr
          exact ⟨v, frl, β, r, _, w', .head hst s1, by rw [s2, ← hf]; exact h4, s3, s4, h3.trans s5, hS⟩
        · rename_i g fs'
          split
          · rename_i g' hg
            intro hv
            subst hv
            have hfg : g'.fn = g.fn ∧ g'.lk = g.lk := by
              obtain ⟨fn', n', tm', k', rd', ms', lk'⟩ := g
              unfold finishS at hg
              simp only at hg
              split at hg
              · obtain rfl := Option.some.inj hg; exact ⟨rfl, rfl⟩
              · split at hg
                · obtain rfl := Option.some.inj hg; exact ⟨rfl, rfl⟩
                · cases hg
              · obtain rfl := Option.some.inj hg; exact ⟨rfl, rfl⟩
              · cases hg
            refine to_pop hfg.1 hfg.2 fun β fr frg cs w h1 h2 hh hck => ?_
            obtain ⟨tmps, ds, t, hst, ht, hm⟩ := h β fr (frg :: cs) w h1 hh hck
            obtain ⟨v, frl, w', s1, s2, s3, s4, s5, s6⟩ := leave_run (t := t) (cs := frg :: cs) hF hm ht hh hi hr
            exact ⟨β, _, w', .head hst (s1.trans (.one (step_leave_returned s3))), (finish_ok hg h2 (.refl _) (s6 _) s4).1, s5, s6 _⟩
          · trivial
      · trivial
    · trivial
  · trivial
theorem endS_ok {l : Nat} {jump : Option Code} (hj : ∀ c, jump = some c → ∀ f, Ck P pl f c)
    (h : ∀ β fr, FrR P β bl none f fr → β.ck = Ck P pl → ∃ b s, β.b[l]? = some (some (b, s)) ∧ ∀ (g : Frame) cs w v w', (Instr.endRound b jump).run P w = .ok v w' → step P (lone fr (g :: cs) w) = .next (lone (g.finish v) cs w')) :
    OutOk P pl C ⟨f :: fs, bl⟩ (endS l jump fs bl) := by
  unfold endS
  split
  · rename_i st pend g n' tm' ps a b df hl
    split
    · rename_i gf fs'
      split
      · rename_i g' hg
        intro _
        have hfg : g'.fn = gf.fn ∧ g'.lk = gf.lk := by
          obtain ⟨fn', n', tm', k', rd', ms', lk'⟩ := gf
          unfold finishS at hg
          simp only at hg
          split at hg
          · obtain rfl := Option.some.inj hg; exact ⟨rfl, rfl⟩
          · split at hg
            · obtain rfl := Option.some.inj hg; exact ⟨rfl, rfl⟩
            · cases hg
          · obtain rfl := Option.some.inj hg; exact ⟨rfl, rfl⟩
          · cases hg
        refine to_pop hfg.1 hfg.2 fun β fr frg cs w h1 h2 hh hck => ?_
        obtain ⟨bb, s, hb, hst⟩ := h β fr h1 hck
        obtain ⟨o, ho, hd⟩ := heap_rec hh hl hb rfl
        simp only [ObDen] at hd
        obtain ⟨tmps, b', s', rfl, ht, hdf, hc1, hc2, -⟩ := hd
        have hrun := run_endRound (P := P) jump ho
        have hext := hh.put (x := some (.loop (if jump.isNone then .ready else .done) jump g n' tm' ps a b df)) (o := .loop { state := if jump.isNone then .ready else .done, pending := jump, fn := g, tmps := tmps, params := ps.toArray, assign := a, body := b, defers := b' }) (lvl_get hl) hb (fun c' hc' => by
          obtain rfl := Option.some.inj hc'
          exact ⟨rfl, tmps, b', s', rfl, ht, hdf, hc1, hc2, fun c hc f => by rw [hck]; exact hj c hc f⟩)
        rw [← setl_set] at hext
        exact ⟨β, _, _, .one (hst frg cs w _ _ hrun), (finish_ok hg h2 (.refl _) (Kp.rec hl rfl) (mk_bool _)).1, hext, Kp.rec hl rfl⟩
      · trivial
    · trivial
  · trivial
theorem loop_inner {β : Env} {w : World} {tmps : Array Value} {ps : Array Tmp} {a b : Code} {df d s : Nat} (hh : Heap β bl w) (ht : TmOk β n tm tmps) (ha : β.ck fn a) (hb : β.ck fn b) (hd : β.b[df]? = some (some (d, s))) :
    ∃ β', Ext β bl w β' (bl ++ [some (.loop .ready none fn n tm ps.toList a b df)]) (w.alloc (.loop { state := .ready, pending := none, fn, tmps, params := ps, assign := a, body := b, defers := d })) ∧
      β'.b[bl.length]? = some (some (w.heap.size, 0)) := by
  have le : β.le { β with b := β.b ++ [some (w.heap.size, 0)] } := ⟨List.prefix_append _ _, fun _ _ e => e, fun _ _ e => e, rfl⟩
  have e2 := hh.make (c := .loop .ready none fn n tm ps.toList a b df) (o := .loop { state := .ready, pending := none, fn, tmps, params := ps, assign := a, body := b, defers := d }) (s := 0)
    (w' := w.alloc (.loop { state := .ready, pending := none, fn, tmps, params := ps, assign := a, body := b, defers := d })) rfl rfl rfl rfl
    (.inr ⟨rfl, _, World.alloc_heap_new _ _, tmps, d, s, rfl, ht.mono le, le.at hd, ha, hb, fun c hc => by cases hc⟩)
  exact ⟨_, e2, at_new hh⟩
theorem loop_outer {β : Env} {w : World} {tmps : Array Value} {ps : Array Tmp} {a b : Code} (hh : Heap β bl w) (ht : TmOk β n tm tmps) (ha : β.ck fn a) (hb : β.ck fn b) :
    ∃ β', Ext β bl w β' (bl ++ [some .defs, some (.loop .ready none fn n tm ps.toList a b bl.length)]) ((w.alloc (.deferred (some []))).alloc (.loop { state := .ready, pending := none, fn, tmps, params := ps, assign := a, body := b, defers := w.heap.size })) ∧
      β'.b[bl.length]? = some (some (w.heap.size, 0)) ∧ β'.b[bl.length + 1]? = some (some (w.heap.size + 1, 0)) := by
  obtain ⟨β1, e1, hb1⟩ : ∃ β1, Ext β bl w β1 (bl ++ [some .defs]) (w.alloc (.deferred (some []))) ∧ β1.b[bl.length]? = some (some (w.heap.size, 0)) :=
    ⟨_, hh.make (c := .defs) (o := .deferred (some [])) (s := 0) (w' := w.alloc (.deferred (some []))) rfl rfl rfl rfl (.inr ⟨rfl, _, World.alloc_heap_new _ _, rfl⟩), at_new hh⟩
  obtain ⟨β2, e2, hb2⟩ := loop_inner (a := a) (b := b) (ps := ps) (tmps := tmps) (tm := tm) (fn := fn) (n := n) (df := bl.length) e1.heap (ht.mono e1.le) (by rw [e1.le.ck]; exact ha) (by rw [e1.le.ck]; exact hb) hb1
  have e3 := e1.trans e2
  have eb : ∀ x : Option Ct, bl ++ [some .defs] ++ [x] = bl ++ [some .defs, x] := fun x => by simp
  rw [eb] at e3
  refine ⟨β2, e3, e2.le.at hb1, ?_⟩
  simpa using hb2
theorem range_call {β β' : Env} {tmps : Array Value} {ds : List Deferred} {g : Operand} {h : FuncId} {fst caps : List AV} {l y : Nat} {s : Nat} {F : FI} {w : World} (ht : TmOk β n tm tmps) (he : ev tm g = .fn h fst caps) (hF : fi P h = some F) (hle : β.le β') (hl : β'.b[y]? = some (some (l, s))) :
    ∃ (d : Deferred) (vs : List Value), (resolve (Act.eval ⟨tmps, ds⟩) (rangeCall g l) 0).run P w = .ok d w ∧ (invoke d.target d.args).run P w = .ok (.enter h vs.toArray) w ∧ DenL β' (fst ++ (.yld y :: caps)) vs := by
  have hd := ht.ev g
  rw [he] at hd
  simp only [Den] at hd
  obtain ⟨xs, ys, hv, h1, h2⟩ := hd
  refine ⟨{ target := .fn (.func h) ys.toArray, args := xs.toArray ++ #[.func (.yield l) #[] #[]] }, xs ++ (.func (.yield l) #[] #[] :: ys), ?_, ?_, denL_append (DenL.mono hle h1) ?_⟩
  · rw [eval_act]
    simp only [resolve, rangeCall, hv, Deferred.ofValue]
    simp [Sem.run_pure, evT]
  · simp only [invoke]
    rw [fi_enter hF]
    have : (xs ++ (Value.func (.yield l) #[] #[] :: ys)).toArray = xs.toArray ++ #[.func (.yield l) #[] #[]] ++ ys.toArray := by apply Array.ext'; simp
    rw [this]
  · simp only [DenL]
    exact ⟨_, _, rfl, by simp only [Den]; exact ⟨l, s, hl, rfl⟩, DenL.mono hle h2⟩
end
end Go.SY
/-
  The symbolic machine: every step of it is the model's.
-/
namespace Go.SY
open Go
section
variable {P : Program} {pl : FuncId → Nat → Option Plan} {C : Ctx} {fn : FuncId} {n : Nat} {tm : TM} {k k' : List SI} {rd : Option Nat} {ms lk : List Nat} {fs : List Fr} {bl bl' : Bls} {K : KT} {x : SI} {f : Fr}
theorem leaveS_ok {jump : Option Code} (hfn : f.fn = fn) (hlk : f.lk = lk) (hms : f.ms = ms) (hj : ∀ c, jump = some c → ∀ f, Ck P pl f c)
    (h : ∀ β fr, FrR P β bl none f fr → β.ck = Ck P pl → ∃ tmps ds t ro, TmOk β n tm tmps ∧ MsR β ms ds ∧ RoR β rd ro ∧
      ((jump = none ∨ jump = some .ret) → ro = none → ∀ cs w, step P (lone fr cs w) = .next (lone { (fr0 fn none).atR ⟨tmps, ds⟩ t with mode := .returning } cs w)) ∧
      (∀ b, ro = some b → ∀ (g : Frame) cs w v w', (Instr.endRound b jump).run P w = .ok v w' → step P (lone fr (g :: cs) w) = .next (lone (g.finish v) cs w'))) :
    OutOk P pl C ⟨f :: fs, bl⟩ (leaveS P fn tm rd ms lk jump fs bl) := by
  have ret : rd = none → (jump = none ∨ jump = some .ret) → OutOk P pl C ⟨f :: fs, bl⟩ (retS P fn tm ms lk fs bl) := by
    intro hrd hjr
    subst hrd
    refine retS_ok (n := n) hfn hlk hms fun β fr cs w hf hh hck => ?_
    obtain ⟨tmps, ds, t, ro, h1, h2, h3, h4, -⟩ := h β fr hf hck
    exact ⟨tmps, ds, t, h4 hjr h3 cs w, h1, h2⟩
  unfold leaveS
  split
  · split
    · exact ret rfl (.inl rfl)
    · exact ret rfl (.inr rfl)
    · trivial
  · rename_i l
    split
    · refine endS_ok hj fun β fr hf hck => ?_
      obtain ⟨tmps, ds, t, ro, h1, h2, ⟨b, s, hb, hro⟩, -, h5⟩ := h β fr hf hck
      exact ⟨b, s, hb, h5 b hro⟩
    · trivial
theorem code_ok (hpl : PlOk P pl) {u : Bool} {drS} {c : Code} :
    OutOk P pl C ⟨⟨fn, n, tm, .code c :: k, rd, ms, lk⟩ :: fs, bl⟩ (stepS P K pl u drS ⟨⟨fn, n, tm, .code c :: k, rd, ms, lk⟩ :: fs, bl⟩) := by
  unfold stepS
  simp only
  cases c with
  | skip => exact fun _ => to_plain (by simp) (by simp) fun β tmps ds ro y t cs w h1 h2 ⟨e, h3⟩ h4 hh hck => by subst e; exact ⟨t, stepR_skip, todo_of h1 h4⟩
  | label l => exact fun _ => to_plain (by simp) (by simp) fun β tmps ds ro y t cs w h1 h2 ⟨e, h3⟩ h4 hh hck => by subst e; exact ⟨t, stepR_label, todo_of h1 h4⟩
  | seq a b =>
    intro _
    refine to_plain (by simp) (by simp) fun β tmps ds ro y t cs w h1 h2 ⟨e, h3⟩ h4 hh hck => ?_
    subst e
    rw [hck] at h3
    exact ⟨_, stepR_seq, todo_of h1 ⟨_, _, rfl, ⟨rfl, by rw [hck]; exact h3.1⟩, _, _, rfl, ⟨rfl, by rw [hck]; exact h3.2⟩, h4⟩⟩
  | block id c =>
    intro _
    refine to_plain (by simp) (by simp) fun β tmps ds ro y t cs w h1 h2 ⟨e, h3⟩ h4 hh hck => ?_
    subst e
    rw [hck] at h3
    exact ⟨_, stepR_block, todo_of h1 ⟨_, _, rfl, ⟨rfl, by rw [hck]; exact h3⟩, _, _, rfl, rfl, h4⟩⟩
  | scope c =>
    intro _
    refine to_plain (by simp) (by simp) fun β tmps ds ro y t cs w h1 h2 ⟨e, h3⟩ h4 hh hck => ?_
    subst e
    rw [hck] at h3
    exact ⟨_, step_lone_go (by simp [stepG, stepG.exec, Frame.atR]), todo_of h1 ⟨_, _, rfl, ⟨rfl, by rw [hck]; exact h3⟩, _, _, rfl, ⟨rfl, by rw [hck]; exact h3⟩, h4⟩⟩
  | loop c =>
    cases u with
    | false => trivial
    | true =>
      intro _
      refine to_plain (by simp) (by simp) fun β tmps ds ro y t cs w h1 h2 ⟨e, h3⟩ h4 hh hck => ?_
      subst e
      rw [hck] at h3
      exact ⟨_, stepR_loop, todo_of h1 ⟨_, _, rfl, ⟨rfl, by rw [hck]; exact h3⟩, _, _, rfl, ⟨rfl, by rw [hck]; exact h3⟩, h4⟩⟩
  | cond c a b =>
    simp only
    split
    · rename_i v he
      have gen : ∀ d, v = d → To P pl C ⟨⟨fn, n, tm, .code (.cond c a b) :: k, rd, ms, lk⟩ :: fs, bl⟩ ⟨⟨fn, n, tm, .code (if d = true then a else b) :: k, rd, ms, lk⟩ :: fs, bl⟩ := by
        rintro d rfl
        refine to_plain (by simp) (by simp) fun β tmps ds ro y t cs w h1 h2 ⟨e, h3⟩ h4 hh hck => ?_
        subst e
        rw [hck] at h3
        have hd := h1.ev c
        rw [he] at hd
        simp only [Den] at hd
        refine ⟨_, stepR_cond (by rw [eval_act]; exact hd.1), todo_of h1 ⟨_, _, rfl, ⟨rfl, ?_⟩, h4⟩⟩
        rw [hck]
        split
        · exact h3.1
        · exact h3.2
      exact ⟨fun hv => gen true hv, fun hv => gen false hv⟩
    · trivial
  | exit id =>
    simp only
    split
    · rename_i k1 hk
      intro _
      refine to_plain (by simp) (by simp) fun β tmps ds ro y t cs w h1 h2 ⟨e, h3⟩ h4 hh hck => ?_
      subst e
      have := exitS_ok (id := id) h4
      rw [hk] at this
      obtain ⟨t', e1, e2⟩ := this
      exact ⟨t', stepR_exit e1, todo_of h1 e2⟩
    · rename_i hk
      refine leaveS_ok (n := n) rfl rfl rfl (by rintro c hc f; obtain rfl := Option.some.inj hc; trivial) fun β fr hf hck => ?_
      obtain ⟨tmps, ds, y, t, ro, rfl, g1, g2, g3, ⟨rfl, -⟩, g5⟩ := hf.plain (by simp) (by simp)
      have := exitS_ok (id := id) g5
      rw [hk] at this
      exact ⟨tmps, ds, [], ro, g3, g1, g2, fun hc => by simp at hc, fun b hb g cs w v w' hr => stepR_round_exit hb rfl this hr⟩
  | goto l =>
    simp only
    split
    · rename_i k1 hk
      intro _
      refine to_plain (by simp) (by simp) fun β tmps ds ro y t cs w h1 h2 ⟨e, h3⟩ h4 hh hck => ?_
      subst e
      have := gotoS_ok (l := l) hck h4
      rw [hk] at this
      obtain ⟨t', e1, e2⟩ := this
      exact ⟨t', stepR_goto e1, todo_of h1 e2⟩
    · rename_i hk
      refine leaveS_ok (n := n) rfl rfl rfl (by rintro c hc f; obtain rfl := Option.some.inj hc; trivial) fun β fr hf hck => ?_
      obtain ⟨tmps, ds, y, t, ro, rfl, g1, g2, g3, ⟨rfl, -⟩, g5⟩ := hf.plain (by simp) (by simp)
      have := gotoS_ok (l := l) hck g5
      rw [hk] at this
      exact ⟨tmps, ds, [], ro, g3, g1, g2, fun hc => by simp at hc, fun b hb g cs w v w' hr => stepR_round_goto hb rfl this hr⟩
  | ret =>
    refine leaveS_ok (n := n) rfl rfl rfl (by rintro c hc f; obtain rfl := Option.some.inj hc; trivial) fun β fr hf hck => ?_
    obtain ⟨tmps, ds, y, t, ro, rfl, g1, g2, g3, ⟨rfl, -⟩, g5⟩ := hf.plain (by simp) (by simp)
    exact ⟨tmps, ds, _, ro, g3, g1, g2, fun _ hro cs w => by subst hro; exact stepR_ret rfl, fun b hb g cs w v w' hr => stepR_round_ret hb rfl hr⟩
  | region id all draw =>
    cases draw with
    | false =>
      intro _
      refine to_plain (by simp) (by simp) fun β tmps ds ro y t cs w h1 h2 ⟨e, h3⟩ h4 hh hck => ?_
      subst e
      refine ⟨_, stepR_region, ⟨h1, ?_, fun b hb => by cases hb⟩⟩
      rw [List.range_eq_range']
      exact KR.ops (m := 0) (by simp) h4
    | true =>
      simp only
      split
      · rename_i p hp
        exact fun _ => to_draw hpl hp
      · trivial
  | rangeFunc g ps a b =>
    simp only
    split
    · rename_i h fst caps he
      split
      · -- outermost
        refine enterS_ok hpl rfl rfl (fun q hq => hq) fun β fr cs w F hF hf hh hck => ?_
        obtain ⟨tmps, ds, y, t, ro, rfl, g1, g2, g3, ⟨rfl, hc⟩, g5⟩ := hf.plain (by simp) (by simp)
        simp only [RoR] at g2
        subst g2
        rw [hck] at hc
        obtain ⟨β', hext, hb1, hb2⟩ := loop_outer (ps := ps) (a := a) (b := b) hh g3 (by rw [hck]; exact hc.1) (by rw [hck]; exact hc.2)
        obtain ⟨d, vs, c1, c2, c3⟩ := range_call (P := P) (ds := ds) (w := (w.alloc (.deferred (some []))).alloc (.loop { state := .ready, pending := none, fn, tmps, params := ps, assign := a, body := b, defers := w.heap.size })) g3 he hF hext.le hb2
        refine ⟨β', vs, _, _, c3, .one (stepR_rangeFunc (run_enterLoop_outer fn tmps ps a b) c1 c2), ?_, hext, Kp.app _ _ _⟩
        exact ⟨tmps, _, _, none, rfl, ⟨_, 0, ds, hb1, rfl, g1.mono hext.le⟩, rfl, ⟨g3.mono hext.le, _, t, rfl, ⟨_, 0, hb2, rfl⟩, g5.mono hext.le⟩⟩
      · -- in a round
        rename_i l0
        split
        · rename_i st pend g' n' tm' ps' a' b' df hl
          refine enterS_ok hpl rfl rfl (fun q hq => hq) fun β fr cs w F hF hf hh hck => ?_
          obtain ⟨tmps, ds, y, t, ro, rfl, g1, g2, g3, ⟨rfl, hc⟩, g5⟩ := hf.plain (by simp) (by simp)
          obtain ⟨bb, s, hb, rfl⟩ := g2
          rw [hck] at hc
          obtain ⟨o, ho, hd⟩ := heap_rec hh hl hb rfl
          simp only [ObDen] at hd
          obtain ⟨tmps0, b0, s0, rfl, ht0, hdf, -⟩ := hd
          obtain ⟨β', hext, hb2⟩ := loop_inner (ps := ps) (a := a) (b := b) hh g3 (by rw [hck]; exact hc.1) (by rw [hck]; exact hc.2) hdf
          obtain ⟨d, vs, c1, c2, c3⟩ := range_call (P := P) (ds := ds) (w := w.alloc (.loop { state := .ready, pending := none, fn, tmps, params := ps, assign := a, body := b, defers := b0 })) g3 he hF hext.le hb2
          refine ⟨β', vs, _, _, c3, .one (stepR_rangeFunc (mark := []) (run_enterLoop_inner ho fn tmps ps a b) c1 c2), ?_, hext, Kp.app _ _ _⟩
          exact ⟨tmps, ds, _, some bb, rfl, g1.mono hext.le, ⟨bb, s, hext.le.at hb, rfl⟩, ⟨g3.mono hext.le, _, t, rfl, ⟨_, 0, hb2, rfl⟩, g5.mono hext.le⟩⟩
        · trivial
    · trivial
  | refuse why => trivial
theorem stp_ok (hpl : PlOk P pl) (hK : KOk P pl K) (u : Bool) (c : Conf) : OutOk P pl C c (stp P K pl u c) := by
  obtain ⟨fs, bl⟩ := c
  cases fs with
  | nil => trivial
  | cons f fs =>
    obtain ⟨fn, n, tm, k, rd, ms, lk⟩ := f
    cases k with
    | nil =>
      show OutOk P pl C _ (leaveS P fn tm rd ms lk none fs bl)
      refine leaveS_ok (n := n) rfl rfl rfl (by rintro c hc; cases hc) fun β fr hf hck => ?_
      obtain ⟨tmps, ds, t, ro, rfl, g1, g2, g3, g4⟩ := hf
      simp only [KR] at g4
      subst g4
      exact ⟨tmps, ds, _, ro, g3, g1, g2, fun _ hro cs w => by subst hro; exact stepR_end rfl, fun b hb g cs w v w' hr => stepR_round_end hb rfl hr⟩
    | cons x k =>
      cases x with
      | code c => exact code_ok hpl
      | blk id =>
        intro _
        refine to_plain (by simp) (by simp) fun β tmps ds ro y t cs w h1 h2 e h4 hh hck => ?_
        simp only [IR] at e; subst e; exact ⟨t, stepR_inBlock, todo_of h1 h4⟩
      | sc c =>
        intro _
        refine to_plain (by simp) (by simp) fun β tmps ds ro y t cs w h1 h2 ⟨e, _⟩ h4 hh hck => ?_
        subst e; exact ⟨t, step_lone_go (by simp [stepG, stepG.exec, Frame.atR]), todo_of h1 h4⟩
      | lp c =>
        cases u with
        | false => trivial
        | true =>
          intro _
          refine to_plain (by simp) (by simp) fun β tmps ds ro y t cs w h1 h2 ⟨e, h3⟩ h4 hh hck => ?_
          subst e
          exact ⟨_, stepR_inLoop, todo_of h1 ⟨_, _, rfl, ⟨rfl, h3⟩, _, _, rfl, ⟨rfl, h3⟩, h4⟩⟩
      | ops all os g => exact ops_ok hpl hK
      | dr all plan A g => exact dr_ok hpl hK
      | rf l => trivial
      | erf l =>
        show OutOk P pl C _ (match lvl bl l with
          | some (.loop st pend g n' tm' ps a b df) => if st = .busy then .stop else (match pend with
            | none => .next true ⟨⟨fn, n, tm, k, rd, ms, lk⟩ :: fs, setl bl l (some (.loop .exhausted none g n' tm' ps a b df))⟩
            | some c => .next true ⟨⟨fn, n, tm, .code c :: k, rd, ms, lk⟩ :: fs, setl bl l (some (.loop .exhausted (some c) g n' tm' ps a b df))⟩)
          | _ => .stop)
        split
        · rename_i st pend g n' tm' ps a b df hl
          split
          · trivial
          · rename_i hst
            have gen : ∀ k1, (∀ (β : Env) t, (∀ c, pend = some c → β.ck fn c) → KR β fn k t → KR β fn k1 ((pend.map Item.code).toList ++ t)) →
                To P pl C ⟨⟨fn, n, tm, .erf l :: k, rd, ms, lk⟩ :: fs, bl⟩ ⟨⟨fn, n, tm, k1, rd, ms, lk⟩ :: fs, setl bl l (some (.loop .exhausted pend g n' tm' ps a b df))⟩ := by
              intro k1 hk1
              refine to_top rfl rfl fun β fr cs w hf hh hck => ?_
              obtain ⟨tmps, ds, y, t, ro, rfl, g1, g2, g3, ⟨bb, s, hb, rfl⟩, g5⟩ := hf.plain (by simp) (by simp)
              obtain ⟨o, ho, hd⟩ := heap_rec hh hl hb rfl
              simp only [ObDen] at hd
              obtain ⟨tmps0, b0, s0, rfl, ht0, hdf, hc1, hc2, hc3⟩ := hd
              have hrun := run_endLoop (P := P) ho hst
              have hext := hh.put (x := some (.loop .exhausted pend g n' tm' ps a b df)) (o := .loop { state := .exhausted, pending := pend, fn := g, tmps := tmps0, params := ps.toArray, assign := a, body := b, defers := b0 }) (lvl_get hl) hb (fun c' hc' => by
                obtain rfl := Option.some.inj hc'
                exact ⟨rfl, tmps0, b0, s0, rfl, ht0, hdf, hc1, hc2, hc3⟩)
              rw [← setl_set] at hext
              exact ⟨β, _, _, .one (stepR_endRangeFunc hrun), ⟨tmps, ds, _, ro, rfl, g1, g2, todo_of g3 (hk1 β t (fun c hc => hc3 c hc fn) g5)⟩, hext, Kp.rec hl rfl⟩
            cases pend with
            | none => exact fun _ => gen k fun β t _ h => h
            | some c => exact fun _ => gen (.code c :: k) fun β t hc h => ⟨_, _, rfl, ⟨rfl, hc c rfl⟩, h⟩
        · trivial
      | br =>
        show OutOk P pl C _ (match rd with
          | some l => (match lvl bl l with
            | some (.loop .ready pend g n' tm' ps a b df) => .next true ⟨⟨fn, n, tm, k, rd, ms, lk⟩ :: fs, setl bl l (some (.loop .busy pend g n' tm' ps a b df))⟩
            | _ => .stop)
          | none => .stop)
        split
        · rename_i l
          split
          · rename_i pend g n' tm' ps a b df hl
            intro _
            refine to_top rfl rfl fun β fr cs w hf hh hck => ?_
            obtain ⟨tmps, ds, y, t, ro, rfl, g1, ⟨bb, s, hb, rfl⟩, g3, g4, g5⟩ := hf.plain (by simp) (by simp)
            simp only [IR] at g4
            subst g4
            obtain ⟨o, ho, hd⟩ := heap_rec hh hl hb rfl
            simp only [ObDen] at hd
            obtain ⟨tmps0, b0, s0, rfl, ht0, hdf, hc1, hc2, hc3⟩ := hd
            have hrun := run_beginRound (P := P) ho rfl
            have hext := hh.put (x := some (.loop .busy pend g n' tm' ps a b df)) (o := .loop { state := .busy, pending := pend, fn := g, tmps := tmps0, params := ps.toArray, assign := a, body := b, defers := b0 }) (lvl_get hl) hb (fun c' hc' => by
              obtain rfl := Option.some.inj hc'
              exact ⟨rfl, tmps0, b0, s0, rfl, ht0, hdf, hc1, hc2, hc3⟩)
            rw [← setl_set] at hext
            exact ⟨β, _, _, .one (stepR_beginRound rfl hrun), ⟨tmps, ds, t, some bb, rfl, g1, ⟨bb, s, hb, rfl⟩, todo_of g3 g5⟩, hext, Kp.rec hl rfl⟩
          · trivial
        · trivial
end
end Go.SY
/-
  The symbolic machine: plans looked over; runs that are closed.
-/
namespace Go.SY
open Go Go.RowKit
def afts (o : Oper) : List Nat := (o.after.toList.filter fun e => Region.binds .any e).map (·.on)
theorem mem_afts {o : Oper} {j : Nat} : after1 o j ↔ j ∈ afts o := by
  unfold after1 afts
  constructor
  · rintro ⟨e, he, hb, rfl⟩
    exact List.mem_map.2 ⟨e, List.mem_filter.2 ⟨by simpa using he, hb⟩, rfl⟩
  · intro h
    obtain ⟨e, he, rfl⟩ := List.mem_map.1 h
    obtain ⟨h1, h2⟩ := List.mem_filter.1 he
    exact ⟨e, by simpa using h1, h2, rfl⟩
def mlook : List (Nat × Nat) → Nat → Nat
  | [], _ => 0
  | (k, m) :: r, i => if k = i then m else mlook r i
def mfold (T : List (Nat × Nat)) : List Nat → Nat
  | [] => 0
  | j :: r => (2 ^ j) ||| (mlook T j ||| mfold T r)
def share (all : Array Oper) (oa ob : Oper) : Bool := (match oa.dst with
  | some t => (lks all ob).contains t || (match ob.dst with
    | some u => Nat.beq u t
    | none => false)
  | none => false) || (match ob.dst with
  | some t => (lks all oa).contains t
  | none => false)
def prB (P : Program) (all : Array Oper) (m i : Nat) (un : List Nat) (o : Oper) : List (Nat × Oper) → Bool
  | [] => true
  | (j, oj) :: r => (m.testBit j || (!share all oj o && (match cls P oj.op with
      | .pure => true
      | .load => (match cls P o.op with
        | .eff => un.contains j
        | _ => true)
      | .eff => false))) && (!Nat.beq j i && prB P all m i un o r)
def okOp (o : Oper) : Bool := match o.op with
  | .select _ _ => false
  | .defer _ => false
  | _ => true
def prevs (X : Pairs) (i : Nat) : List Nat := match X with
  | [] => []
  | (k, j) :: r => if j = i then k :: prevs r i else prevs r i
def aftsX (X : Pairs) (i : Nat) (o : Oper) : List Nat := match X with
  | [] => afts o
  | X => afts o ++ prevs X i
theorem mem_prevs {i k : Nat} : ∀ {X : Pairs}, k ∈ prevs X i ↔ (k, i) ∈ X
  | [] => by simp [prevs]
  | (a, b) :: r => by
    simp only [prevs]
    split
    · rename_i e
      subst e
      simp [mem_prevs (X := r)]
    · rename_i e
      rw [mem_prevs (X := r)]
      simp [Ne.symm e]
theorem mem_aftsX {X : Pairs} {all : Array Oper} {i j : Nat} {o : Oper} (ho : all[i]? = some o) : aft X all i j ↔ j ∈ aftsX X i o := by
  have h1 : aft X all i j ↔ j ∈ afts o ++ prevs X i := by
    rw [List.mem_append, mem_prevs, ← mem_afts]
    unfold aft
    rw [ho]
    simp
  rw [h1]
  unfold aftsX
  split
  · simp [prevs]
  · rfl
def ordGo (P : Program) (X : Pairs) (all : Array Oper) : List (Nat × Oper) → List (Nat × Nat) → Nat → Plan → Bool
  | _, _, _, [] => true
  | E, T, s, (i, un) :: r => (match nth all.toList i with
    | none => false
    | some o => (aftsX X i o).all (fun j => s.testBit j) && (prB P all (mfold T (aftsX X i o)) i un o E && (okOp o && ordGo P X all ((i, o) :: E) ((i, mfold T (aftsX X i o)) :: T) (s ||| 2 ^ i) r)))
def ordXB (P : Program) (X : Pairs) (all : Array Oper) (p : Plan) : Bool := ordGo P X all [] [] 0 p && (List.range all.size).all fun i => p.any fun a => Nat.beq a.1 i
theorem testBit_or_pow {s i j : Nat} (h : (s ||| 2 ^ i).testBit j = true) : s.testBit j = true ∨ j = i := by
  rw [Nat.testBit_or, Bool.or_eq_true] at h
  rcases h with h | h
  · exact .inl h
  · rw [Nat.testBit_two_pow] at h
    exact .inr (by simpa using (of_decide_eq_true h).symm)
theorem mfold_dep {X : Pairs} {all : Array Oper} {T : List (Nat × Nat)} {i : Nat} (hT : ∀ j k, (mlook T j).testBit k = true → Dep X all k j) : ∀ {l : List Nat} {k : Nat}, (∀ j ∈ l, aft X all i j) → (mfold T l).testBit k = true → Dep X all k i
  | [], k, _, h => by simp [mfold] at h
  | j :: l, k, hl, h => by
    simp only [mfold, Nat.testBit_or, Bool.or_eq_true] at h
    rcases h with h | h | h
    · rw [Nat.testBit_two_pow] at h
      obtain rfl : j = k := of_decide_eq_true h
      exact .one (hl j (by simp))
    · exact .step (hl j (by simp)) (hT _ _ h)
    · exact mfold_dep hT (fun j' hj' => hl j' (by simp [hj'])) h
theorem share_of {all : Array Oper} {oa ob : Oper} (h : (∃ t, oa.dst = some t ∧ (t ∈ lks all ob ∨ ob.dst = some t)) ∨ (∃ t, ob.dst = some t ∧ t ∈ lks all oa)) : share all oa ob = true := by
  unfold share
  rw [Bool.or_eq_true]
  rcases h with ⟨t, h1, h2⟩ | ⟨t, h1, h2⟩
  · left
    rw [h1]
    simp only [Bool.or_eq_true]
    rcases h2 with h2 | h2
    · exact .inl (List.contains_iff_mem.2 h2)
    · right; rw [h2]; simp
  · right
    rw [h1]
    exact List.contains_iff_mem.2 h2
theorem prB_ok {P : Program} {X : Pairs} {all : Array Oper} {m i : Nat} {un : List Nat} {o : Oper} (ho : all[i]? = some o) (hm : ∀ k, m.testBit k = true → Dep X all k i) : ∀ {E : List (Nat × Oper)}, prB P all m i un o E = true → ∀ j oj, (j, oj) ∈ E → all[j]? = some oj → ∀ unj, PR P X all (j, unj) (i, un)
  | [], _, _, _, hmem, _, _ => by cases hmem
  | (j, oj) :: E, h, j', oj', hmem, hj, unj => by
    simp only [prB, Bool.and_eq_true] at h
    obtain ⟨h1, h2, h3⟩ := h
    rcases List.mem_cons.1 hmem with e | hmem
    · simp only [Prod.mk.injEq] at e
      obtain ⟨rfl, rfl⟩ := e
      have hne : j' ≠ i := fun e => by subst e; simp at h2
      rw [Bool.or_eq_true] at h1
      rcases h1 with h1 | h1
      · have hd := hm _ h1
        exact ⟨fun _ _ _ _ _ => hd, fun _ _ _ => hd, fun _ _ _ _ _ _ => .inl hd, hne⟩
      · rw [Bool.and_eq_true] at h1
        obtain ⟨hs, hc⟩ := h1
        simp only [Bool.not_eq_true'] at hs
        refine ⟨fun oa ob ha hb hsh => ?_, fun oa ha hcl => ?_, fun oa ob ha hb hca hcb => ?_, hne⟩
        · rw [hj] at ha; rw [ho] at hb
          obtain rfl := Option.some.inj ha
          obtain rfl := Option.some.inj hb
          have := share_of hsh
          rw [hs] at this; cases this
        · rw [hj] at ha
          obtain rfl := Option.some.inj ha
          rw [hcl] at hc; cases hc
        · rw [hj] at ha; rw [ho] at hb
          obtain rfl := Option.some.inj ha
          obtain rfl := Option.some.inj hb
          rw [hca, hcb] at hc
          exact .inr (List.contains_iff_mem.1 hc)
    · exact prB_ok ho hm h3 j' oj' hmem hj unj
theorem ordGo_ok {P : Program} {X : Pairs} {all : Array Oper} : ∀ {r : Plan} {E : List (Nat × Oper)} {T : List (Nat × Nat)} {s : Nat} {l1 : Plan}, (∀ a ∈ l1, ∃ oa, all[a.1]? = some oa ∧ (a.1, oa) ∈ E) → (∀ j k, (mlook T j).testBit k = true → Dep X all k j) →
    (∀ j, s.testBit j = true → ∃ b ∈ l1, b.1 = j) → ordGo P X all E T s r = true →
    r.Pairwise (PR P X all) ∧ (∀ a ∈ l1, ∀ b ∈ r, PR P X all a b) ∧ (∀ l2 a l3, r = l2 ++ a :: l3 → ∀ j, aft X all a.1 j → ∃ b ∈ l1 ++ l2, b.1 = j) ∧ ∀ a ∈ r, ∃ o, all[a.1]? = some o ∧ okOp o = true
  | [], _, _, _, _, _, _, _, _ => ⟨.nil, (fun _ _ _ h => by cases h), (fun l2 a l3 h => by simp at h), (fun _ h => by cases h)⟩
  | (i, un) :: r, E, T, s, l1, hE, hT, hs, h => by
    simp only [ordGo] at h
    split at h
    · cases h
    · rename_i o ho
      rw [nth_eq] at ho
      have ho' : all[i]? = some o := by simpa using ho
      simp only [Bool.and_eq_true] at h
      obtain ⟨h1, h2, h3, h4⟩ := h
      have hm : ∀ k, (mfold T (aftsX X i o)).testBit k = true → Dep X all k i := fun k hk => mfold_dep hT (fun j hj => (mem_aftsX ho').2 hj) hk
      have hnew : ∀ a ∈ l1, PR P X all a (i, un) := fun a ha => by
        obtain ⟨oa, h5, h6⟩ := hE a ha
        exact prB_ok ho' hm h2 a.1 oa h6 h5 a.2
      have ih := ordGo_ok (r := r) (E := (i, o) :: E) (T := (i, mfold T (aftsX X i o)) :: T) (s := s ||| 2 ^ i) (l1 := l1 ++ [(i, un)]) (fun a ha => by
          rcases List.mem_append.1 ha with ha | ha
          · obtain ⟨oa, h5, h6⟩ := hE a ha; exact ⟨oa, h5, List.mem_cons_of_mem _ h6⟩
          · obtain rfl := List.mem_singleton.1 ha
            exact ⟨o, ho', List.mem_cons_self⟩) (fun j k hk => by
          simp only [mlook] at hk
          split at hk
          · rename_i e; subst e; exact hm k hk
          · exact hT j k hk) (fun j hj => by
          rcases testBit_or_pow hj with hj | rfl
          · obtain ⟨b, h5, h6⟩ := hs j hj; exact ⟨b, List.mem_append_left _ h5, h6⟩
          · exact ⟨(j, un), by simp, rfl⟩) h4
      obtain ⟨g1, g2, g3, g4⟩ := ih
      refine ⟨List.pairwise_cons.2 ⟨fun b hb => g2 _ (by simp) b hb, g1⟩, fun a ha b hb => ?_, fun l2 a l3 he j hj => ?_, fun a ha => ?_⟩
      · rcases List.mem_cons.1 hb with rfl | hb
        · exact hnew a ha
        · exact g2 a (by simp [ha]) b hb
      · cases l2 with
        | nil =>
          simp only [List.nil_append, List.cons.injEq] at he
          obtain ⟨rfl, rfl⟩ := he
          have := List.all_eq_true.1 h1 j ((mem_aftsX ho').1 hj)
          obtain ⟨b, h5, h6⟩ := hs j this
          exact ⟨b, by simpa using h5, h6⟩
        | cons x l2 =>
          simp only [List.cons_append, List.cons.injEq] at he
          obtain ⟨rfl, he⟩ := he
          obtain ⟨b, h5, h6⟩ := g3 l2 a l3 he j hj
          exact ⟨b, by simpa using h5, h6⟩
      · rcases List.mem_cons.1 ha with rfl | ha
        · exact ⟨o, ho', h3⟩
        · exact g4 a ha
theorem ordXB_ok {P : Program} {X : Pairs} {all : Array Oper} {p : Plan} (h : ordXB P X all p = true) : OrdX P X all p := by
  unfold ordXB at h
  rw [Bool.and_eq_true] at h
  obtain ⟨h1, h2, h3, h4⟩ := ordGo_ok (l1 := []) (fun _ h => by cases h) (fun _ _ h => by simp [mlook] at h) (fun _ h => by simp at h) h.1
  have hcm : ∀ i, i < all.size → ∃ a ∈ p, a.1 = i := fun i hi => by
    have := List.all_eq_true.1 h.2 i (List.mem_range.2 hi)
    obtain ⟨a, ha, he⟩ := List.any_eq_true.1 this
    exact ⟨a, ha, by simpa using he⟩
  refine ⟨h1, fun l1 a l2 he j hj => ?_, hcm, fun a ha => ?_, fun i o ho => ?_⟩
  · simpa using h3 l1 a l2 he j hj
  · obtain ⟨o, ho, -⟩ := h4 a ha
    exact (Array.getElem?_eq_some_iff.1 ho).1
  · obtain ⟨a, ha, rfl⟩ := hcm i (Array.getElem?_eq_some_iff.1 ho).1
    obtain ⟨o', ho', hok⟩ := h4 a ha
    rw [ho] at ho'
    obtain rfl := Option.some.inj ho'
    refine ⟨fun cs b e => ?_, fun c e => ?_⟩ <;> simp [okOp, e] at hok
def ordB (P : Program) (all : Array Oper) (p : Plan) : Bool := ordXB P [] all p
theorem ordB_ok {P : Program} {all : Array Oper} {p : Plan} (h : ordB P all p = true) : Ord P all p := ordXB_ok h
def ckB (P : Program) (g : Nat → Option Plan) : Code → Bool
  | .seq x y => ckB P g x && ckB P g y
  | .block _ c => ckB P g c
  | .scope c => ckB P g c
  | .loop c => ckB P g c
  | .cond _ x y => ckB P g x && ckB P g y
  | .rangeFunc _ _ a b => ckB P g a && ckB P g b
  | .region id all draw => (match draw with
    | true => (match g id with
      | some p => ordB P all p
      | none => true)
    | false => true)
  | _ => true
theorem ckB_ok {P : Program} {pl : FuncId → Nat → Option Plan} {fn : FuncId} : ∀ {c : Code}, ckB P (pl fn) c = true → Ck P pl fn c := by
  intro c
  induction c with
  | seq a b iha ihb => intro h; simp only [ckB, Bool.and_eq_true] at h; exact ⟨iha h.1, ihb h.2⟩
  | cond _ a b iha ihb => intro h; simp only [ckB, Bool.and_eq_true] at h; exact ⟨iha h.1, ihb h.2⟩
  | rangeFunc _ _ a b iha ihb => intro h; simp only [ckB, Bool.and_eq_true] at h; exact ⟨iha h.1, ihb h.2⟩
  | block _ c ih => intro h; exact ih (by simpa [ckB] using h)
  | scope c ih => intro h; exact ih (by simpa [ckB] using h)
  | loop c ih => intro h; exact ih (by simpa [ckB] using h)
  | region id all draw =>
    intro h hd p hp
    subst hd
    simp only [ckB, hp] at h
    exact ordB_ok h
  | _ => intro _; trivial
theorem ck_none {P : Program} {pl : FuncId → Nat → Option Plan} {fn : FuncId} (hn : ∀ id, pl fn id = none) : ∀ c : Code, Ck P pl fn c := by
  intro c
  induction c with
  | seq a b iha ihb => exact ⟨iha, ihb⟩
  | cond _ a b iha ihb => exact ⟨iha, ihb⟩
  | rangeFunc _ _ a b iha ihb => exact ⟨iha, ihb⟩
  | block _ c ih => exact ih
  | scope c ih => exact ih
  | loop c ih => exact ih
  | region id all draw => intro _ p hp; rw [hn] at hp; cases hp
  | _ => trivial
abbrev Pls := List (Nat × List (Nat × Plan))
def plk : List (Nat × Plan) → Nat → Option Plan
  | [], _ => none
  | (k, p) :: r, i => if k = i then some p else plk r i
def plt : Pls → FuncId → List (Nat × Plan)
  | [], _ => []
  | (k, p) :: r, f => if k = f then p else plt r f
def plOf (T : Pls) (f : FuncId) (id : Nat) : Option Plan := plk (plt T f) id
def plsB (P : Program) (T : Pls) : Bool := T.all fun (f, _) => match fi P f with
  | some F => ckB P (plk (plt T f)) F.body
  | none => true
theorem plt_nil : ∀ {T : Pls} {f : FuncId}, (∀ x ∈ T, x.1 ≠ f) → plt T f = []
  | [], _, _ => rfl
  | (k, p) :: r, f, h => by
    have h1 := h (k, p) (by simp)
    simp only at h1
    rw [plt, if_neg h1]
    exact plt_nil fun x hx => h x (by simp [hx])
theorem plsB_ok {P : Program} {T : Pls} (h : plsB P T = true) (hm : P.follows .mixedOrders = true) : PlOk P (plOf T) := by
  refine ⟨fun f F hF => ?_, hm⟩
  by_cases hex : ∃ x ∈ T, x.1 = f
  · obtain ⟨x, hx, rfl⟩ := hex
    have := List.all_eq_true.1 h x hx
    obtain ⟨k, p⟩ := x
    simp only [hF] at this
    exact ckB_ok this
  · have hn := plt_nil (T := T) (f := f) fun x hx e => hex ⟨x, hx, e⟩
    exact ck_none (fun id => by simp [plOf, hn, plk]) F.body
def dd (s : Nat) : TM → TM
  | [] => []
  | (d, x) :: r => (match s.testBit d with
    | true => dd s r
    | false => (d, x) :: dd (s ||| 2 ^ d) r)
theorem get_dd : ∀ {tm : TM} {s t : Nat}, s.testBit t = false → get (dd s tm) t = get tm t
  | [], _, _, _ => rfl
  | (d, x) :: r, s, t, h => by
    simp only [dd]
    split
    · rename_i hd
      rw [get_dd h]
      simp only [get]
      rw [if_neg (fun e => by subst e; rw [h] at hd; cases hd)]
    · simp only [get]
      split
      · rfl
      · rename_i hne
        refine get_dd ?_
        rw [Nat.testBit_or, h, Nat.testBit_two_pow]
        simpa using hne
theorem imp_dd (tm : TM) : Imp tm (dd 0 tm) := fun β s v h => by rw [get_dd (by simp)]; exact h
def isLp : List SI → Bool
  | .lp _ :: _ => true
  | _ => false
def clean (c : Conf) : Conf := match c with
  | ⟨⟨fn, n, tm, k, rd, ms, lk⟩ :: fs, bl⟩ => (match isLp k with
    | true => ⟨⟨fn, n, dd 0 tm, k, rd, ms, lk⟩ :: fs, bl⟩
    | false => c)
  | _ => c
theorem clean_to (P : Program) (pl : FuncId → Nat → Option Plan) (C : Ctx) (c : Conf) : To P pl C c (clean c) := by
  have self : To P pl C c c := fun β m h => ⟨β, m, .refl _ _, h⟩
  obtain ⟨fs, bl⟩ := c
  cases fs with
  | nil => exact self
  | cons f fs =>
    obtain ⟨fn, n, tm, k, rd, ms, lk⟩ := f
    simp only [clean]
    cases hk : isLp k with
    | false => exact self
    | true =>
      cases k with
      | nil => cases hk
      | cons x k =>
        cases x with
        | lp c =>
          refine to_self rfl rfl fun β fr hf hck => ?_
          obtain ⟨tmps, ds, y, t, ro, rfl, g1, g2, g3, g4, g5⟩ := hf.plain (by simp) (by simp)
          exact ⟨tmps, ds, _, ro, rfl, g1, g2, todo_of ((imp_dd tm).tm g3) ⟨y, t, rfl, g4, g5⟩⟩
        | _ => cases hk
def runK (P : Program) (K : KT) (pl : FuncId → Nat → Option Plan) : Nat → Conf → Option (AV × Bls)
  | 0, _ => none
  | n + 1, c => (match stp P K pl true (clean c) with
    | .next vc c' => (match vc with
      | true => runK P K pl n c'
      | false => none)
    | .split b c1 c2 => (match b with
      | true => runK P K pl n c1
      | false => runK P K pl n c2)
    | .fin vc r bl => (match vc with
      | true => some (r, bl)
      | false => none)
    | .stop => none)
theorem runK_ok {P : Program} {K : KT} {pl : FuncId → Nat → Option Plan} (hpl : PlOk P pl) (hK : KOk P pl K) {C : Ctx} {S : AV → Bls → Prop} {r : AV} {bl : Bls} (hS : S r bl) : ∀ {n : Nat} {c : Conf}, runK P K pl n c = some (r, bl) → Rch P pl C c S
  | 0, _, h => by simp [runK] at h
  | n + 1, c, h => by
    have hok := stp_ok (C := C) hpl hK true (clean c)
    refine (clean_to P pl C c).rch ?_
    simp only [runK] at h
    split at h
    · rename_i vc c' e
      rw [e] at hok
      split at h
      · exact (hok rfl).rch (runK_ok hpl hK hS h)
      · cases h
    · rename_i b c1 c2 e
      rw [e] at hok
      split at h
      · exact (hok.1 rfl).rch (runK_ok hpl hK hS h)
      · exact (hok.2 rfl).rch (runK_ok hpl hK hS h)
    · rename_i vc r' bl' e
      rw [e] at hok
      split at h
      · simp only [Option.some.injEq, Prod.mk.injEq] at h
        obtain ⟨rfl, rfl⟩ := h
        exact hok rfl S hS
      · cases h
    · cases h
def conf0 (f : FuncId) (F : FI) (args : List AV) (bl : Bls) : Conf := ⟨[⟨f, F.n, ini 0 args, [.code F.body], none, [], []⟩], bl⟩
end Go.SY
