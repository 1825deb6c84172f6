/-
  The symbolic machine in small pieces, for runs in the kernel: by our program fast.py, out of pop, lop, eop1, eop2.
-/
import Derived.Test.YtdoeopcimhpjaaaSy24
set_option linter.unusedSimpArgs false
set_option linter.unusedVariables false
namespace Go.SY
open Go

def p_move (P : Program) (tm : TM) (x : Operand) : Option (Bool × AV) := some (true, ev tm x)

def p_assign (P : Program) (tm : TM) (x : Operand) : Option (Bool × AV) := some (true, ev tm x)

def p_pick (P : Program) (tm : TM) (c : Operand) (a : Operand) (b : Operand) : Option (Bool × AV) := (match ev tm c with
    | .v (.bool t) => some (true, pickAV t (ev tm a) (ev tm b))
    | _ => none)

def p_nilCheck (P : Program) (tm : TM) (x : Operand) : Option (Bool × AV) := (match ev tm x with
    | .ptr l i w k => some (true, .ptr l i w k)
    | .ip t r k => some (true, .ip t r k)
    | .fn f a b => some (true, .fn f a b)
    | .yld l => some (true, .yld l)
    | .v (.pointer p) => some (p.isSome, .v (.pointer p))
    | _ => none)

def p_binOp (P : Program) (tm : TM) (op : BinOp) (t : TypeId) (x : Operand) (y : Operand) (u4 : TypeId) : Option (Bool × AV) := (match ti P t with
    | some T => bop op T (ev tm x) (ev tm y)
    | none => none)

def p_unOp (P : Program) (tm : TM) (op : UnOp) (u1 : TypeId) (x : Operand) : Option (Bool × AV) := (match op, ev tm x with
    | .not, .v (.bool b) => some (true, .v (.bool (!b)))
    | .neg, .v (.int k z) => some (ar k (0 - z))
    | .xor, .v (.int k z) => some (true, .v (.int k (bits2 .xor k (if k.signed then -1 else k.max) z)))
    | _, _ => none)

def p_convert (P : Program) (tm : TM) (src : TypeId) (dst : TypeId) (x : Operand) : Option (Bool × AV) := (match ti P src, ti P dst with
    | some _, some D => (match D.kd, ev tm x with
      | .int k, .v (.int _ z) => some (true, .v (.int k (k.wrap z)))
      | .str, .v (.string s) => some (true, .v (.string s))
      | _, _ => none)
    | _, _ => none)

def p_fieldAddr (P : Program) (tm : TM) (s : TypeId) (x : Operand) (f : Nat) : Option (Bool × AV) := (match ti P s with
    | some T => (match T.kd with
      | .struct fs => (match nth fs f with
        | some (o, sz, _) => if sz = 0 then none else (match ev tm x with
          | .ptr l i w k => some (true, .ptr l i w (k + o))
          | .ip t r k => some (true, .ip t r (k + o))
          | _ => none)
        | none => none)
      | _ => none)
    | none => none)

def p_indexAddr (P : Program) (tm : TM) (t : TypeId) (x : Operand) (ix : Operand) : Option (Bool × AV) := (match ti P t with
    | some T => (match ev tm ix with
      | .v (.int _ j) => (match T.kd, ev tm x with
        | .slice _ sz _, .sl l i w n _ => if sz = 0 then none else if w = sz then some (decide (0 ≤ j) && decide (j < n), .ptr l (i + j.toNat) w 0) else none
        | .slice _ sz _, .imn t k xs _ => if sz = 1 then some (decide (0 ≤ j) && decide (j < xs.length), .ip t [.v (.int k (xs[j.toNat]?.getD 0))] 0) else none
        | .slice _ sz _, .imr t w rs _ => if sz = 0 then none else if w = sz then some (decide (0 ≤ j) && decide (j < rs.length), .ip t (rs[j.toNat]?.getD []) 0) else none
        | .arr n _ sz, .ptr l i w k => if sz = 1 then some (decide (0 ≤ j) && decide (j < n), .ptr l (i * w + k + j.toNat) 1 0) else if sz = 0 then none
            else if i * w + k = 0 then some (decide (0 ≤ j) && decide (j < n), .ptr l j.toNat sz 0) else none
        | .arr n _ sz, .ip t r k => if sz = 1 then (match dr r k with
          | some (.ch m kk xs :: _) => if m = n then some (decide (0 ≤ j) && decide (j < n), .ip t [.v (.int kk (xs[j.toNat]?.getD 0))] 0) else none
          | _ => none) else none
        | _, _ => none)
      | _ => none)
    | none => none)

def p_index (P : Program) (tm : TM) (t : TypeId) (x : Operand) (ix : Operand) : Option (Bool × AV) := (match ti P t with
    | some T => (match ev tm ix with
      | .v (.int _ j) => (match T.kd, ev tm x with
        | .str, .v (.string s) => some (decide (0 ≤ j) && decide (j < (bytesL s).length), .v (.int .u8 ((bytesL s)[j.toNat]?.getD 0)))
        | .arr n e _, .ch m k xs => (match ti P e with
          | some E => (match E.kd with
            | .int _ => if E.sz = 1 then (if m = n then some (decide (0 ≤ j) && decide (j < n), .v (.int k (xs[j.toNat]?.getD 0))) else none) else none
            | _ => none)
          | none => none)
        | _, _ => none)
      | _ => none)
    | none => none)

def p_slice (P : Program) (tm : TM) (t : TypeId) (x : Operand) (lo : Option Operand) (hi : Option Operand) (mx : Option Operand) : Option (Bool × AV) := if okMx hi mx = true then (match ti P t with
    | some T => (match T.kd, ev tm x with
      | .str, .v (.string s) => (match mx with
        | none => (match cutOf s.size (some s.size) (lo.map (ev tm)) (hi.map (ev tm)) none with
          | some (vc, b, n, _) => some (vc, .v (.string (s.extract b (b + n))))
          | none => none)
        | some _ => none)
      | .slice _ sz _, .sl l i w n c => if sz = 0 then none else if w = sz then (match cutOf n c (lo.map (ev tm)) (hi.map (ev tm)) (mx.map (ev tm)) with
        | some (vc, b, n', c') => some (vc, .sl l (i + b) w n' c')
        | none => none) else none
      | .slice _ sz _, .imn t k xs c => if sz = 1 then (match cutOf xs.length none (lo.map (ev tm)) (hi.map (ev tm)) (mx.map (ev tm)) with
        | some (vc, b, n', c') => some (vc, .imn t k ((xs.drop b).take n') (match mx with
          | none => subO c b
          | some _ => c'))
        | none => none) else none
      | .slice _ sz _, .imr t w rs c => if sz = 0 then none else if w = sz then (match cutOf rs.length none (lo.map (ev tm)) (hi.map (ev tm)) (mx.map (ev tm)) with
        | some (vc, b, n', c') => some (vc, .imr t w ((rs.drop b).take n') (match mx with
          | none => subO c b
          | some _ => c'))
        | none => none) else none
      | .slice _ sz _, .nil => if sz = 0 then none else (match cutOf 0 (some 0) (lo.map (ev tm)) (hi.map (ev tm)) (mx.map (ev tm)) with
        | some (vc, _, _, _) => some (vc, .nil)
        | none => none)
      | _, _ => none)
    | none => none) else none

def p_makeFunc (P : Program) (tm : TM) (fn : Fn) (fst : Array Operand) (cap : Array Operand) : Option (Bool × AV) := (match fn with
    | .func f => some (true, .fn f (fst.toList.map (ev tm)) (cap.toList.map (ev tm)))
    | _ => none)

def p_extract (P : Program) (tm : TM) (t : Operand) (i : Nat) : Option (Bool × AV) := (match ev tm t with
    | .tup xs => (match nth xs i with
      | some x => some (true, x)
      | none => none)
    | _ => none)

def p_field (P : Program) (tm : TM) (t : TypeId) (x : Operand) (f : Nat) : Option (Bool × AV) := (match ti P t with
    | some T => (match T.kd, parts (ev tm x) with
      | .struct fs, some xs => (match nth fs f with
        | some (o, sz, ag) => if sz = 0 then none else (match ag with
          | true => (match dr xs o with
            | some c1 => (match tk c1 sz with
              | some c2 => some (true, pack c2)
              | none => none)
            | none => none)
          | false => (match at1 xs o with
            | some r => some (true, r)
            | none => none))
        | none => none)
      | _, _ => none)
    | none => none)

def p_build (P : Program) (tm : TM) (t : TypeId) (ps : Array (Nat × Operand)) : Option (Bool × AV) := (match ti P t with
    | some T => (match T.kd, T.zc with
      | .struct fs, some cs => (match fillA (plFs fs) cs (ps.toList.map fun p => (p.1, ev tm p.2)) with
          | some r => if nz fs = true then some (true, pack r) else none
          | none => none)
      | .arr _ _ sz, some cs => if sz = 0 then none else (match fillA (fun i => some (i * sz, sz)) cs (ps.toList.map fun p => (p.1, ev tm p.2)) with
          | some r => some (true, pack r)
          | none => none)
      | _, _ => none)
    | none => none)

def p_len (P : Program) (tm : TM) (args : Array Operand) (argTypes : Array TypeId) : Option (Bool × AV) := (match args.toList, argTypes.toList with
    | [x], [t] => (match ti P t with
      | some T => (match T.kd with
        | .slice _ _ _ => (match ev tm x with
          | .sl _ _ _ n _ => some (true, .v (.int .i64 n))
          | .imn _ _ xs _ => some (true, .v (.int .i64 xs.length))
          | .imr _ _ rs _ => some (true, .v (.int .i64 rs.length))
          | .nil => some (true, .v (.int .i64 0))
          | _ => none)
        | .str => (match ev tm x with
          | .v (.string s) => some (true, .v (.int .i64 s.size))
          | _ => none)
        | .arr n _ _ => if n < 9223372036854775808 then some (true, .v (.int .i64 n)) else none
        | _ => none)
      | none => none)
    | _, _ => none)

def p_cap (P : Program) (tm : TM) (args : Array Operand) (argTypes : Array TypeId) : Option (Bool × AV) := (match args.toList, argTypes.toList with
    | [x], [t] => (match ti P t with
      | some T => (match T.kd, ev tm x with
        | .slice _ _ _, .sl _ _ _ _ (some c) => some (true, .v (.int .i64 c))
        | .slice _ _ _, .imn _ _ _ (some c) => some (true, .v (.int .i64 c))
        | .slice _ _ _, .imr _ _ _ (some c) => some (true, .v (.int .i64 c))
        | .slice _ _ _, .nil => some (true, .v (.int .i64 0))
        | _, _ => none)
      | none => none)
    | _, _ => none)

def p_min (P : Program) (tm : TM) (args : Array Operand) (argTypes : Array TypeId) : Option (Bool × AV) := (match args.toList.map (ev tm) with
    | .v (.int k x) :: r => (match minI min k x r with
      | some z => some (true, .v (.int k z))
      | none => none)
    | _ => none)

def p_max (P : Program) (tm : TM) (args : Array Operand) (argTypes : Array TypeId) : Option (Bool × AV) := (match args.toList.map (ev tm) with
    | .v (.int k x) :: r => (match minI max k x r with
      | some z => some (true, .v (.int k z))
      | none => none)
    | _ => none)

def l_load (P : Program) (tm : TM) (bl : Bls) (t : TypeId) (a : Operand) : Option (Bool × AV) := (match ti P t with
    | some T => (match ev tm a with
      | .ptr l i w k => (match lvl bl l with
        | some c => rdCt c i w k T
        | none => none)
      | .ip _ row k => (match rdC row k T with
        | some r => some (true, r)
        | none => none)
      | _ => none)
    | none => none)

def l_convert (P : Program) (tm : TM) (bl : Bls) (src : TypeId) (dst : TypeId) (x : Operand) : Option (Bool × AV) := (match ti P src, ti P dst with
    | some S, some D => (match S.kd, S.ik, D.kd with
      | .slice _ sz _, some .u8, .str => if sz = 1 then (match numsAt .u8 bl (ev tm x) with
        | some (vc, xs) => some (vc, .v (.string (strOf xs)))
        | none => none) else none
      | _, _, _ => none)
    | _, _ => none)

def l_slice (P : Program) (tm : TM) (bl : Bls) (t : TypeId) (x : Operand) (lo : Option Operand) (hi : Option Operand) (mx : Option Operand) : Option (Bool × AV) := if okMx hi mx = true then (match ti P t with
    | some T => (match aOf P T with
      | some (n, sz) => if sz = 1 then (match ev tm x with
        | .ptr l i w k => (match lvl bl l with
            | some c => (match (match c with
                | .num _ xs => some xs.length
                | .lit cs => some (wids cs)
                | _ => none) with
              | some m => (match cutOf n (some n) (lo.map (ev tm)) (hi.map (ev tm)) (mx.map (ev tm)) with
                | some (vc, b, n', c') => some (decide (i * w + k + n ≤ m) && (decide (n < 9223372036854775808) && vc), .sl l (i * w + k + b) 1 n' c')
                | none => none)
              | none => none)
            | none => none)
        | .ip t' row k => (match dr row k with
            | some (.ch m kk xs :: _) => if m = n then (match cutOf n (some n) (lo.map (ev tm)) (hi.map (ev tm)) (mx.map (ev tm)) with
                | some (vc, b, n', c') => some (decide (n < 9223372036854775808) && vc, .imn t' kk ((xs.drop b).take n') c')
                | none => none) else none
            | _ => none)
        | _ => none) else none
      | none => none)
    | none => none) else none

def e_store (P : Program) (tm : TM) (bl : Bls) (t : TypeId) (a : Operand) (x : Operand) : Option (Bool × AV × Bls) := (match ti P t with
    | some T => (match ev tm a with
      | .ptr l i w k => (match lvl bl l with
        | some (.rows w' _) => if w = w' then (match flat (ev tm x) T.sz with
          | some fs => (match hdL bl fs with
            | some (c1, gs, bl1) => (match lvl bl1 l with
              | some (.rows w2 rs) => if w = w2 then (match wrRow w rs i k gs T.sz with
                | some (c2, c) => some (c1 && c2, .any, setl bl1 l (some c))
                | none => none) else none
              | _ => none)
            | none => none)
          | none => none) else none
        | some c => (match wrCt c i w k (ev tm x) T.sz with
          | some (vc, c') => some (vc, .any, setl bl l (some c'))
          | none => none)
        | none => none)
      | _ => none)
    | none => none)

def e_alloc (P : Program) (tm : TM) (bl : Bls) (t : TypeId) : Option (Bool × AV × Bls) := (match ti P t with
    | some T => (match T.zc with
      | some cs => some (true, .ptr bl.length 0 T.sz 0, bl ++ [some (ctOf (isArr T.kd) cs)])
      | none => none)
    | none => none)

def e_box (P : Program) (tm : TM) (bl : Bls) (t : TypeId) (x : Operand) : Option (Bool × AV × Bls) := (match ti P t with
    | some T => (match flat (ev tm x) T.sz with
      | some fs => some (true, .ptr bl.length 0 T.sz 0, bl ++ [some (ctOf (isArr T.kd) fs)])
      | none => none)
    | none => none)

def e_buildSlice (P : Program) (tm : TM) (bl : Bls) (t : TypeId) (n : Nat) (ps : Array (Nat × Operand)) : Option (Bool × AV × Bls) := (match ti P t with
    | some T => (match T.kd with
      | .slice e sz _ => if sz = 0 then none else (match ti P e with
        | some E => (match E.zc with
          | some cs => if n * sz ≤ 16777216 then (if wids cs = sz then (match fillA (fun i => some (i * sz, sz)) (rep n cs) (ps.toList.map fun p => (p.1, ev tm p.2)) with
              | some r => (match elCt E sz n r with
                | some c => some (true, .sl bl.length 0 sz n (some n), bl ++ [some c])
                | none => none)
              | none => none) else none) else none
          | none => none)
        | none => none)
      | _ => none)
    | none => none)

def e_makeSlice (P : Program) (tm : TM) (bl : Bls) (t : TypeId) (x : Operand) (y : Operand) : Option (Bool × AV × Bls) := (match ti P t with
    | some T => (match T.kd with
      | .slice e sz by_ => if sz = 0 then none else (match ti P e with
        | some E => (match E.zc with
          | some cs => if wids cs = sz then (match ev tm x, ev tm y with
            | .v (.int _ n), .v (.int _ c) => (match (match E.kd, cs with
                | .int k, [.v (.int k' z)] => if k' = k then some (Ct.num k (List.replicate c.toNat z)) else none
                | .int _, _ => none
                | _, cs => some (Ct.rows sz (List.replicate c.toNat cs))) with
              | some ct => some (decide (0 ≤ n) && (decide (n ≤ c) && (decide ((by_ : Int) * c ≤ 281474976710656) && decide (c < 9223372036854775808))), .sl bl.length 0 sz n.toNat (some c.toNat), bl ++ [some ct])
              | none => none)
            | _, _ => none) else none
          | none => none)
        | none => none)
      | _ => none)
    | none => none)

def e_append (P : Program) (tm : TM) (bl : Bls) (args : Array Operand) (argTypes : Array TypeId) : Option (Bool × AV × Bls) := (match args.toList, argTypes.toList with
    | [s, x], [t, u] => (match ti P t, ti P u with
      | some T, some U => (match T.kd with
        | .slice e sz by_ => (match ti P e with
          | some E => (match E.kd, E.zc with
            | .int k, some [.v (.int k' z)] => if k' = k then (if sz = 1 then (if by_ = 0 then none else match dstN k bl (ev tm s), srcN k z by_ U.kd bl (ev tm x) with
                | some (c1, l, olds), some (c2, news) => appNN k by_ c1 c2 l olds news bl (roomN bl (ev tm s))
                | _, _ => none) else none) else none
            | .int _, _ => none
            | _, some zc => if sz = 0 then none else if by_ = 0 then none else (if wids zc = sz then (match U.kd, srcR sz bl (ev tm x), zerR by_ zc (ev tm x) with
              | .slice _ _ _, some (c2, news, bl1), _ => (match dstR sz bl1 (ev tm s) with
                | some (c1, l, olds) => appRR sz by_ c1 c2 l olds news bl1 (roomR bl1 (ev tm s))
                | none => none)
              | .int _, _, some (c2, news) => (match dstR sz bl (ev tm s) with
                | some (c1, l, olds) => appRR sz by_ c1 c2 l olds news bl (roomR bl (ev tm s))
                | none => none)
              | _, _, _ => none) else none)
            | _, _ => none)
          | none => none)
        | _ => none)
      | _, _ => none)
    | _, _ => none)

def e_copy (P : Program) (tm : TM) (bl : Bls) (args : Array Operand) (argTypes : Array TypeId) : Option (Bool × AV × Bls) := (match args.toList, argTypes.toList with
    | [d, x], [t, u] => (match ti P t, ti P u with
      | some T, some U => (match T.kd, T.ik with
        | .slice _ sz _, some k => if sz = 1 then (match ev tm d with
          | .sl l i w n _ => if w = 1 then (match cpSrcN k U.kd bl (ev tm x), lvl bl l with
              | some (m, news), some (.num k' xs) => if k' = k then some (decide (min m n ≤ news.length) && decide (i ≤ xs.length), .v (.int .i64 (min m n : Nat)), setl bl l (some (.num k (xs.take i ++ (news.take (min m n) ++ xs.drop (i + min m n)))))) else none
              | some (m, news), some (.lit cs) => if n = 0 then none else (match chR cs i k n (fun xs => news.take (min m n) ++ xs.drop (min m n)) with
                | some r => some (decide (min m n ≤ news.length), .v (.int .i64 (min m n : Nat)), setl bl l (some (.lit r)))
                | none => none)
              | _, _ => none) else none
          | _ => none) else none
        | .slice _ sz _, none => if sz = 0 then none else cpR sz bl (ev tm d) (ev tm x)
        | _, _ => none)
      | _, _ => none)
    | _, _ => none)

def e_clear (P : Program) (tm : TM) (bl : Bls) (args : Array Operand) (argTypes : Array TypeId) : Option (Bool × AV × Bls) := (match args.toList, argTypes.toList with
    | [x], [t] => (match ti P t with
      | some T => (match T.kd with
        | .slice e sz _ => if sz = 0 then none else (match ti P e with
          | some E => (match E.zc with
            | some zc => if wids zc = sz then (match E.kd, zc with
              | .int k, [.v (.int k' _)] => if k' = k ∧ sz = 1 then clN k bl (ev tm x) else none
              | .int _, _ => none
              | _, _ => clR sz bl (ev tm x)) else none
            | none => none)
          | none => none)
        | _ => none)
      | none => none)
    | _, _ => none)

def e_convert (P : Program) (tm : TM) (bl : Bls) (src : TypeId) (dst : TypeId) (x : Operand) : Option (Bool × AV × Bls) := (match ti P src, ti P dst with
    | some S, some D => (match S.kd, D.kd, D.ik with
      | .str, .slice _ sz _, some .u8 => if sz = 1 then (match ev tm x with
        | .v (.string s) => some (true, .sl bl.length 0 1 (bytesL s).length none, bl ++ [some (.num .u8 (bytesL s))])
        | _ => none) else none
      | .slice _ _ _, .slice _ sz _, some .u8 => if src = dst then (if sz = 1 then (match ev tm x with
        | .sl l i w n c => if n = 0 then none else (match lvl bl l with
          | some b => if (b.cell && !spz b) = true then some (true, .sl l i w n c, bl) else none
          | none => none)
        | _ => none) else none) else none
      | _, _, _ => none)
    | _, _ => none)

def pv : Option (Bool × AV) → Bls → SO
  | some (vc, r), bl => .val vc r bl
  | none, _ => .stop

def evq (tm : TM) (bl : Bls) (lk : List Nat) (op : Op) : Option (Bool × AV × Bls) → SO
  | some (vc, r, bl') => .val (vc && quiet tm bl lk bl' op) r bl'
  | none => .stop

def orl (a : Option (Bool × AV)) (bl : Bls) (k : SO) : SO := match a with
  | some (vc, r) => .val vc r bl
  | none => k

def bltF (P : Program) (tm : TM) (bl : Bls) (lk : List Nat) (c : Call) (b : Builtin) (args : Array Operand) (argTypes : Array TypeId) : SO := match b with
  | .append => evq tm bl lk (.call c) (e_append P tm bl args argTypes)
  | .cap => pv (p_cap P tm args argTypes) bl
  | .clear => evq tm bl lk (.call c) (e_clear P tm bl args argTypes)
  | .copy => evq tm bl lk (.call c) (e_copy P tm bl args argTypes)
  | .len => pv (p_len P tm args argTypes) bl
  | .max => pv (p_max P tm args argTypes) bl
  | .min => pv (p_min P tm args argTypes) bl
  | _ => .stop

def callF (P : Program) (tm : TM) (bl : Bls) (lk : List Nat) (c : Call) : SO := match c with
  | ⟨callee, args, argTypes⟩ => (match callee with
    | .builtin b => bltF P tm bl lk ⟨.builtin b, args, argTypes⟩ b args argTypes
    | .value f => calleeS tm ⟨.value f, args, argTypes⟩
    | _ => .stop)

def sopF (P : Program) (tm : TM) (bl : Bls) (lk : List Nat) (o : Op) : SO := match o with
  | .alloc x0 => evq tm bl lk (.alloc x0) (e_alloc P tm bl x0)
  | .assign x0 => pv (p_assign P tm x0) bl
  | .binOp x0 x1 x2 x3 x4 => pv (p_binOp P tm x0 x1 x2 x3 x4) bl
  | .box x0 x1 => evq tm bl lk (.box x0 x1) (e_box P tm bl x0 x1)
  | .build x0 x1 => pv (p_build P tm x0 x1) bl
  | .buildSlice x0 x1 x2 => evq tm bl lk (.buildSlice x0 x1 x2) (e_buildSlice P tm bl x0 x1 x2)
  | .convert x0 x1 x2 => orl (p_convert P tm x0 x1 x2) bl (orl (l_convert P tm bl x0 x1 x2) bl (evq tm bl lk (.convert x0 x1 x2) (e_convert P tm bl x0 x1 x2)))
  | .extract x0 x1 => pv (p_extract P tm x0 x1) bl
  | .field x0 x1 x2 => pv (p_field P tm x0 x1 x2) bl
  | .fieldAddr x0 x1 x2 => pv (p_fieldAddr P tm x0 x1 x2) bl
  | .index x0 x1 x2 => pv (p_index P tm x0 x1 x2) bl
  | .indexAddr x0 x1 x2 => pv (p_indexAddr P tm x0 x1 x2) bl
  | .load x0 x1 => pv (l_load P tm bl x0 x1) bl
  | .makeFunc x0 x1 x2 => pv (p_makeFunc P tm x0 x1 x2) bl
  | .makeSlice x0 x1 x2 => evq tm bl lk (.makeSlice x0 x1 x2) (e_makeSlice P tm bl x0 x1 x2)
  | .move x0 => pv (p_move P tm x0) bl
  | .nilCheck x0 => pv (p_nilCheck P tm x0) bl
  | .pick x0 x1 x2 => pv (p_pick P tm x0 x1 x2) bl
  | .slice x0 x1 x2 x3 x4 => orl (p_slice P tm x0 x1 x2 x3 x4) bl (pv (l_slice P tm bl x0 x1 x2 x3 x4) bl)
  | .store x0 x1 x2 => evq tm bl lk (.store x0 x1 x2) (e_store P tm bl x0 x1 x2)
  | .unOp x0 x1 x2 => pv (p_unOp P tm x0 x1 x2) bl
  | .call c => callF P tm bl lk c
  | _ => .stop

def bltP (P : Program) (tm : TM) (b : Builtin) (args : Array Operand) (argTypes : Array TypeId) : Option (Bool × AV) := match b with
  | .cap => p_cap P tm args argTypes
  | .len => p_len P tm args argTypes
  | .max => p_max P tm args argTypes
  | .min => p_min P tm args argTypes
  | _ => none

def callP (P : Program) (tm : TM) (c : Call) : Option (Bool × AV) := match c with
  | ⟨callee, args, argTypes⟩ => (match callee with
    | .builtin b => bltP P tm b args argTypes
    | _ => none)

def popF (P : Program) (tm : TM) (o : Op) : Option (Bool × AV) := match o with
  | .assign x0 => p_assign P tm x0
  | .binOp x0 x1 x2 x3 x4 => p_binOp P tm x0 x1 x2 x3 x4
  | .build x0 x1 => p_build P tm x0 x1
  | .convert x0 x1 x2 => p_convert P tm x0 x1 x2
  | .extract x0 x1 => p_extract P tm x0 x1
  | .field x0 x1 x2 => p_field P tm x0 x1 x2
  | .fieldAddr x0 x1 x2 => p_fieldAddr P tm x0 x1 x2
  | .index x0 x1 x2 => p_index P tm x0 x1 x2
  | .indexAddr x0 x1 x2 => p_indexAddr P tm x0 x1 x2
  | .makeFunc x0 x1 x2 => p_makeFunc P tm x0 x1 x2
  | .move x0 => p_move P tm x0
  | .nilCheck x0 => p_nilCheck P tm x0
  | .pick x0 x1 x2 => p_pick P tm x0 x1 x2
  | .slice x0 x1 x2 x3 x4 => p_slice P tm x0 x1 x2 x3 x4
  | .unOp x0 x1 x2 => p_unOp P tm x0 x1 x2
  | .call c => callP P tm c
  | _ => none

def lopF (P : Program) (tm : TM) (bl : Bls) (o : Op) : Option (Bool × AV) := match o with
  | .convert x0 x1 x2 => l_convert P tm bl x0 x1 x2
  | .load x0 x1 => l_load P tm bl x0 x1
  | .slice x0 x1 x2 x3 x4 => l_slice P tm bl x0 x1 x2 x3 x4
  | _ => none

theorem popF_eq (P : Program) (tm : TM) (o : Op) : popF P tm o = pop P tm o := by
  cases o with
  | call c =>
    obtain ⟨callee, args, argTypes⟩ := c
    cases callee with
    | builtin b => cases b <;> rfl
    | _ => rfl
  | _ => rfl

theorem lopF_eq (P : Program) (tm : TM) (bl : Bls) (o : Op) : lopF P tm bl o = lop P tm bl o := by
  cases o <;> rfl

theorem sopF_eq (P : Program) (tm : TM) (bl : Bls) (lk : List Nat) (o : Op) : sopF P tm bl lk o = sop P tm bl lk o := by
  cases o with
  | alloc x0 =>
    have h : pop P tm (.alloc x0) = none := rfl
    simp only [sop, sopF, h, sopR]
    have h : lop P tm bl (.alloc x0) = none := rfl
    simp only [h, sopM]
    have h : eop1 P tm bl (.alloc x0) = e_alloc P tm bl x0 := rfl
    simp only [h, evq]
    cases e_alloc P tm bl x0 <;> rfl
  | assign x0 =>
    have h : pop P tm (.assign x0) = p_assign P tm x0 := rfl
    simp only [sop, sopF, h]
    cases p_assign P tm x0 with
    | some x => rfl
    | none =>
      simp only [sopR, orl, pv]
      have h : lop P tm bl (.assign x0) = none := rfl
      simp only [h, sopM]
      try rfl
  | binOp x0 x1 x2 x3 x4 =>
    have h : pop P tm (.binOp x0 x1 x2 x3 x4) = p_binOp P tm x0 x1 x2 x3 x4 := rfl
    simp only [sop, sopF, h]
    cases p_binOp P tm x0 x1 x2 x3 x4 with
    | some x => rfl
    | none =>
      simp only [sopR, orl, pv]
      have h : lop P tm bl (.binOp x0 x1 x2 x3 x4) = none := rfl
      simp only [h, sopM]
      try rfl
  | box x0 x1 =>
    have h : pop P tm (.box x0 x1) = none := rfl
    simp only [sop, sopF, h, sopR]
    have h : lop P tm bl (.box x0 x1) = none := rfl
    simp only [h, sopM]
    have h : eop1 P tm bl (.box x0 x1) = e_box P tm bl x0 x1 := rfl
    simp only [h, evq]
    cases e_box P tm bl x0 x1 <;> rfl
  | build x0 x1 =>
    have h : pop P tm (.build x0 x1) = p_build P tm x0 x1 := rfl
    simp only [sop, sopF, h]
    cases p_build P tm x0 x1 with
    | some x => rfl
    | none =>
      simp only [sopR, orl, pv]
      have h : lop P tm bl (.build x0 x1) = none := rfl
      simp only [h, sopM]
      try rfl
  | buildSlice x0 x1 x2 =>
    have h : pop P tm (.buildSlice x0 x1 x2) = none := rfl
    simp only [sop, sopF, h, sopR]
    have h : lop P tm bl (.buildSlice x0 x1 x2) = none := rfl
    simp only [h, sopM]
    have h : eop1 P tm bl (.buildSlice x0 x1 x2) = e_buildSlice P tm bl x0 x1 x2 := rfl
    simp only [h, evq]
    cases e_buildSlice P tm bl x0 x1 x2 <;> rfl
  | convert x0 x1 x2 =>
    have h : pop P tm (.convert x0 x1 x2) = p_convert P tm x0 x1 x2 := rfl
    simp only [sop, sopF, h]
    cases p_convert P tm x0 x1 x2 with
    | some x => rfl
    | none =>
      simp only [sopR, orl, pv]
      have h : lop P tm bl (.convert x0 x1 x2) = l_convert P tm bl x0 x1 x2 := rfl
      simp only [h]
      cases l_convert P tm bl x0 x1 x2 with
      | some x => rfl
      | none =>
        try simp only [sopM, orl, pv]
        have h1 : eop1 P tm bl (.convert x0 x1 x2) = none := rfl
        have h : eop2 P tm bl (.convert x0 x1 x2) = e_convert P tm bl x0 x1 x2 := rfl
        simp only [h1, h, evq]
        cases e_convert P tm bl x0 x1 x2 <;> rfl
  | extract x0 x1 =>
    have h : pop P tm (.extract x0 x1) = p_extract P tm x0 x1 := rfl
    simp only [sop, sopF, h]
    cases p_extract P tm x0 x1 with
    | some x => rfl
    | none =>
      simp only [sopR, orl, pv]
      have h : lop P tm bl (.extract x0 x1) = none := rfl
      simp only [h, sopM]
      try rfl
  | field x0 x1 x2 =>
    have h : pop P tm (.field x0 x1 x2) = p_field P tm x0 x1 x2 := rfl
    simp only [sop, sopF, h]
    cases p_field P tm x0 x1 x2 with
    | some x => rfl
    | none =>
      simp only [sopR, orl, pv]
      have h : lop P tm bl (.field x0 x1 x2) = none := rfl
      simp only [h, sopM]
      try rfl
  | fieldAddr x0 x1 x2 =>
    have h : pop P tm (.fieldAddr x0 x1 x2) = p_fieldAddr P tm x0 x1 x2 := rfl
    simp only [sop, sopF, h]
    cases p_fieldAddr P tm x0 x1 x2 with
    | some x => rfl
    | none =>
      simp only [sopR, orl, pv]
      have h : lop P tm bl (.fieldAddr x0 x1 x2) = none := rfl
      simp only [h, sopM]
      try rfl
  | index x0 x1 x2 =>
    have h : pop P tm (.index x0 x1 x2) = p_index P tm x0 x1 x2 := rfl
    simp only [sop, sopF, h]
    cases p_index P tm x0 x1 x2 with
    | some x => rfl
    | none =>
      simp only [sopR, orl, pv]
      have h : lop P tm bl (.index x0 x1 x2) = none := rfl
      simp only [h, sopM]
      try rfl
  | indexAddr x0 x1 x2 =>
    have h : pop P tm (.indexAddr x0 x1 x2) = p_indexAddr P tm x0 x1 x2 := rfl
    simp only [sop, sopF, h]
    cases p_indexAddr P tm x0 x1 x2 with
    | some x => rfl
    | none =>
      simp only [sopR, orl, pv]
      have h : lop P tm bl (.indexAddr x0 x1 x2) = none := rfl
      simp only [h, sopM]
      try rfl
  | load x0 x1 =>
    have h : pop P tm (.load x0 x1) = none := rfl
    simp only [sop, sopF, h, sopR]
    have h : lop P tm bl (.load x0 x1) = l_load P tm bl x0 x1 := rfl
    simp only [h]
    cases l_load P tm bl x0 x1 with
    | some x => rfl
    | none =>
      try simp only [sopM, orl, pv]
      try rfl
  | makeFunc x0 x1 x2 =>
    have h : pop P tm (.makeFunc x0 x1 x2) = p_makeFunc P tm x0 x1 x2 := rfl
    simp only [sop, sopF, h]
    cases p_makeFunc P tm x0 x1 x2 with
    | some x => rfl
    | none =>
      simp only [sopR, orl, pv]
      have h : lop P tm bl (.makeFunc x0 x1 x2) = none := rfl
      simp only [h, sopM]
      try rfl
  | makeSlice x0 x1 x2 =>
    have h : pop P tm (.makeSlice x0 x1 x2) = none := rfl
    simp only [sop, sopF, h, sopR]
    have h : lop P tm bl (.makeSlice x0 x1 x2) = none := rfl
    simp only [h, sopM]
    have h : eop1 P tm bl (.makeSlice x0 x1 x2) = e_makeSlice P tm bl x0 x1 x2 := rfl
    simp only [h, evq]
    cases e_makeSlice P tm bl x0 x1 x2 <;> rfl
  | move x0 =>
    have h : pop P tm (.move x0) = p_move P tm x0 := rfl
    simp only [sop, sopF, h]
    cases p_move P tm x0 with
    | some x => rfl
    | none =>
      simp only [sopR, orl, pv]
      have h : lop P tm bl (.move x0) = none := rfl
      simp only [h, sopM]
      try rfl
  | nilCheck x0 =>
    have h : pop P tm (.nilCheck x0) = p_nilCheck P tm x0 := rfl
    simp only [sop, sopF, h]
    cases p_nilCheck P tm x0 with
    | some x => rfl
    | none =>
      simp only [sopR, orl, pv]
      have h : lop P tm bl (.nilCheck x0) = none := rfl
      simp only [h, sopM]
      try rfl
  | pick x0 x1 x2 =>
    have h : pop P tm (.pick x0 x1 x2) = p_pick P tm x0 x1 x2 := rfl
    simp only [sop, sopF, h]
    cases p_pick P tm x0 x1 x2 with
    | some x => rfl
    | none =>
      simp only [sopR, orl, pv]
      have h : lop P tm bl (.pick x0 x1 x2) = none := rfl
      simp only [h, sopM]
      try rfl
  | slice x0 x1 x2 x3 x4 =>
    have h : pop P tm (.slice x0 x1 x2 x3 x4) = p_slice P tm x0 x1 x2 x3 x4 := rfl
    simp only [sop, sopF, h]
    cases p_slice P tm x0 x1 x2 x3 x4 with
    | some x => rfl
    | none =>
      simp only [sopR, orl, pv]
      have h : lop P tm bl (.slice x0 x1 x2 x3 x4) = l_slice P tm bl x0 x1 x2 x3 x4 := rfl
      simp only [h]
      cases l_slice P tm bl x0 x1 x2 x3 x4 with
      | some x => rfl
      | none =>
        try simp only [sopM, orl, pv]
        try rfl
  | store x0 x1 x2 =>
    have h : pop P tm (.store x0 x1 x2) = none := rfl
    simp only [sop, sopF, h, sopR]
    have h : lop P tm bl (.store x0 x1 x2) = none := rfl
    simp only [h, sopM]
    have h : eop1 P tm bl (.store x0 x1 x2) = e_store P tm bl x0 x1 x2 := rfl
    simp only [h, evq]
    cases e_store P tm bl x0 x1 x2 <;> rfl
  | unOp x0 x1 x2 =>
    have h : pop P tm (.unOp x0 x1 x2) = p_unOp P tm x0 x1 x2 := rfl
    simp only [sop, sopF, h]
    cases p_unOp P tm x0 x1 x2 with
    | some x => rfl
    | none =>
      simp only [sopR, orl, pv]
      have h : lop P tm bl (.unOp x0 x1 x2) = none := rfl
      simp only [h, sopM]
      try rfl
  | call c =>
    obtain ⟨callee, args, argTypes⟩ := c
    cases callee with
    | value f => rfl
    | invoke r n => rfl
    | builtin b =>
      simp only [sopF, callF]
      cases b with
      | append =>
        have h : eop2 P tm bl (.call ⟨.builtin .append, args, argTypes⟩) = e_append P tm bl args argTypes := rfl
        have h0 : pop P tm (.call ⟨.builtin .append, args, argTypes⟩) = none := rfl
        have h1 : eop1 P tm bl (.call ⟨.builtin .append, args, argTypes⟩) = none := rfl
        simp only [sop, sopM, bltF, h, h0, h1, evq]
        cases e_append P tm bl args argTypes <;> rfl
      | cap =>
        have h : pop P tm (.call ⟨.builtin .cap, args, argTypes⟩) = p_cap P tm args argTypes := rfl
        simp only [sop, bltF, h]
        cases p_cap P tm args argTypes <;> rfl
      | clear =>
        have h : eop2 P tm bl (.call ⟨.builtin .clear, args, argTypes⟩) = e_clear P tm bl args argTypes := rfl
        have h0 : pop P tm (.call ⟨.builtin .clear, args, argTypes⟩) = none := rfl
        have h1 : eop1 P tm bl (.call ⟨.builtin .clear, args, argTypes⟩) = none := rfl
        simp only [sop, sopM, bltF, h, h0, h1, evq]
        cases e_clear P tm bl args argTypes <;> rfl
      | copy =>
        have h : eop2 P tm bl (.call ⟨.builtin .copy, args, argTypes⟩) = e_copy P tm bl args argTypes := rfl
        have h0 : pop P tm (.call ⟨.builtin .copy, args, argTypes⟩) = none := rfl
        have h1 : eop1 P tm bl (.call ⟨.builtin .copy, args, argTypes⟩) = none := rfl
        simp only [sop, sopM, bltF, h, h0, h1, evq]
        cases e_copy P tm bl args argTypes <;> rfl
      | len =>
        have h : pop P tm (.call ⟨.builtin .len, args, argTypes⟩) = p_len P tm args argTypes := rfl
        simp only [sop, bltF, h]
        cases p_len P tm args argTypes <;> rfl
      | max =>
        have h : pop P tm (.call ⟨.builtin .max, args, argTypes⟩) = p_max P tm args argTypes := rfl
        simp only [sop, bltF, h]
        cases p_max P tm args argTypes <;> rfl
      | min =>
        have h : pop P tm (.call ⟨.builtin .min, args, argTypes⟩) = p_min P tm args argTypes := rfl
        simp only [sop, bltF, h]
        cases p_min P tm args argTypes <;> rfl
      | _ => rfl
  | _ => rfl

/-! ### steps -/
def callO (P : Program) (K : KT) (fn : FuncId) (n : Nat) (tm : TM) (k : List SI) (rd : Option Nat) (ms lk0 : List Nat) (o : Oper) (k' : List SI) (lk : List Nat) (fs : List Fr) (bl : Bls) (g : FuncId) (args : List AV) : Out := match K g with
  | some c => (match c args bl with
    | some (vc, r, bl') => .next (vc && alive bl bl' lk) ⟨⟨fn, n, put n tm o.dst r, k', rd, ms, lk0⟩ :: fs, bl'⟩
    | none => .stop)
  | none => enterS P g args lk (⟨fn, n, tm, k, rd, ms, lk0⟩ :: fs) bl

def opF (P : Program) (K : KT) (fn : FuncId) (n : Nat) (tm : TM) (k : List SI) (rd : Option Nat) (ms lk0 : List Nat) (o : Oper) (k' : List SI) (lk : List Nat) (fs : List Fr) (bl : Bls) : Out := match sopF P tm bl lk o.op with
  | .val vc r bl' => .next vc ⟨⟨fn, n, put n tm o.dst r, k', rd, ms, lk0⟩ :: fs, bl'⟩
  | .call g args => callO P K fn n tm k rd ms lk0 o k' lk fs bl g args
  | .yld l args => roundS l args lk (⟨fn, n, tm, k, rd, ms, lk0⟩ :: fs) bl
  | .stop => .stop

def opsW (P : Program) (K : KT) (fn : FuncId) (n : Nat) (tm : TM) (k : List SI) (rd : Option Nat) (ms lk : List Nat) (fs : List Fr) (bl : Bls) (all : Array Oper) (o : Oper) (os : List Oper) : Wt → Out
  | .yes => opF P K fn n tm (.ops all (o :: os) (some true) :: k) rd ms lk o (.ops all os none :: k) lk fs bl
  | .no => .next true ⟨⟨fn, n, put n tm o.dst (.tup []), .ops all os none :: k, rd, ms, lk⟩ :: fs, bl⟩
  | .spl b want d => .split b ⟨⟨fn, n, (d, .v (.bool true)) :: tm, .ops all (o :: os) (some want) :: k, rd, ms, lk⟩ :: fs, bl⟩ ⟨⟨fn, n, (d, .v (.bool false)) :: tm, .ops all (o :: os) (some (!want)) :: k, rd, ms, lk⟩ :: fs, bl⟩
  | .bad => .stop

def opsF (P : Program) (K : KT) (fn : FuncId) (n : Nat) (tm : TM) (k : List SI) (rd : Option Nat) (ms lk : List Nat) (fs : List Fr) (bl : Bls) (all : Array Oper) (os : List Oper) (g : Option Bool) : Out := match os with
  | [] => .next true ⟨⟨fn, n, tm, k, rd, ms, lk⟩ :: fs, bl⟩
  | o :: os => opsW P K fn n tm k rd ms lk fs bl all o os (wtS all n tm g o.guard)

def drC (P : Program) (K : KT) (fn : FuncId) (n : Nat) (tm : TM) (k : List SI) (rd : Option Nat) (ms lk : List Nat) (fs : List Fr) (bl : Bls) (all : Array Oper) (i : Nat) (un : List Nat) (rest : Plan) (A : List (Nat × List Nat)) (o : Oper) : Cls → Out
  | .pure => (match popF P tm o.op with
    | some (vc, r) => .next vc ⟨⟨fn, n, put n tm o.dst r, .dr all rest A none :: k, rd, ms, lk⟩ :: fs, bl⟩
    | none => .stop)
  | .load => (match popF P tm o.op with
    | some (vc, r) => .next vc ⟨⟨fn, n, put n tm o.dst r, .dr all rest A none :: k, rd, ms, lk⟩ :: fs, bl⟩
    | none => (match lopF P tm bl o.op with
      | some (vc, r) => .next vc ⟨⟨fn, n, put n tm o.dst r, .dr all rest ((i, rdl tm o.op) :: A) none :: k, rd, ms, lk⟩ :: fs, bl⟩
      | none => .stop))
  | .eff => opF P K fn n tm (.dr all ((i, un) :: rest) A (some true) :: k) rd ms lk o (.dr all rest A none :: k) (lvA un A ++ lk) fs bl

def drW (P : Program) (K : KT) (fn : FuncId) (n : Nat) (tm : TM) (k : List SI) (rd : Option Nat) (ms lk : List Nat) (fs : List Fr) (bl : Bls) (all : Array Oper) (i : Nat) (un : List Nat) (rest : Plan) (A : List (Nat × List Nat)) (o : Oper) : Wt → Out
  | .yes => drC P K fn n tm k rd ms lk fs bl all i un rest A o (cls P o.op)
  | .no => .next true ⟨⟨fn, n, put n tm o.dst (.tup []), .dr all rest A none :: k, rd, ms, lk⟩ :: fs, bl⟩
  | .spl b want d => .split b ⟨⟨fn, n, (d, .v (.bool true)) :: tm, .dr all ((i, un) :: rest) A (some want) :: k, rd, ms, lk⟩ :: fs, bl⟩ ⟨⟨fn, n, (d, .v (.bool false)) :: tm, .dr all ((i, un) :: rest) A (some (!want)) :: k, rd, ms, lk⟩ :: fs, bl⟩
  | .bad => .stop

def drO (P : Program) (K : KT) (fn : FuncId) (n : Nat) (tm : TM) (k : List SI) (rd : Option Nat) (ms lk : List Nat) (fs : List Fr) (bl : Bls) (all : Array Oper) (i : Nat) (un : List Nat) (rest : Plan) (A : List (Nat × List Nat)) (g : Option Bool) : Option Oper → Out
  | none => .stop
  | some o => drW P K fn n tm k rd ms lk fs bl all i un rest A o (wtS all n tm g o.guard)

def drF (P : Program) (K : KT) (fn : FuncId) (n : Nat) (tm : TM) (k : List SI) (rd : Option Nat) (ms lk : List Nat) (fs : List Fr) (bl : Bls) (all : Array Oper) (plan : Plan) (A : List (Nat × List Nat)) (g : Option Bool) : Out := match plan with
  | [] => .next true ⟨⟨fn, n, tm, k, rd, ms, lk⟩ :: fs, bl⟩
  | (i, un) :: rest => drO P K fn n tm k rd ms lk fs bl all i un rest A g (nth all.toList i)

def condF (fn : FuncId) (n : Nat) (tm : TM) (k : List SI) (rd : Option Nat) (ms lk : List Nat) (fs : List Fr) (bl : Bls) (x y : Code) : AV → Out
  | .v (.bool b) => .split b ⟨⟨fn, n, tm, .code x :: k, rd, ms, lk⟩ :: fs, bl⟩ ⟨⟨fn, n, tm, .code y :: k, rd, ms, lk⟩ :: fs, bl⟩
  | _ => .stop

def codeF (P : Program) (K : KT) (pl : FuncId → Nat → Option Plan) (u : Bool) (fn : FuncId) (n : Nat) (tm : TM) (k : List SI) (rd : Option Nat) (ms lk : List Nat) (fs : List Fr) (bl : Bls) (c : Code) : Out := match c with
  | .seq x y => .next true ⟨⟨fn, n, tm, .code x :: .code y :: k, rd, ms, lk⟩ :: fs, bl⟩
  | .region id all draw => (match draw with
    | false => .next true ⟨⟨fn, n, tm, .ops all all.toList none :: k, rd, ms, lk⟩ :: fs, bl⟩
    | true => (match pl fn id with
      | some p => .next true ⟨⟨fn, n, tm, .dr all p [] none :: k, rd, ms, lk⟩ :: fs, bl⟩
      | none => .stop))
  | .cond c x y => condF fn n tm k rd ms lk fs bl x y (ev tm c)
  | .skip => .next true ⟨⟨fn, n, tm, k, rd, ms, lk⟩ :: fs, bl⟩
  | .block id c => .next true ⟨⟨fn, n, tm, .code c :: .blk id :: k, rd, ms, lk⟩ :: fs, bl⟩
  | .loop c => (match u with
    | true => .next true ⟨⟨fn, n, tm, .code c :: .lp c :: k, rd, ms, lk⟩ :: fs, bl⟩
    | false => .stop)
  | c => stepS P K pl u (drS P K) ⟨⟨fn, n, tm, .code c :: k, rd, ms, lk⟩ :: fs, bl⟩

def itemF (P : Program) (K : KT) (pl : FuncId → Nat → Option Plan) (u : Bool) (fn : FuncId) (n : Nat) (tm : TM) (k : List SI) (rd : Option Nat) (ms lk : List Nat) (fs : List Fr) (bl : Bls) (x : SI) : Out := match x with
  | .ops all os g => opsF P K fn n tm k rd ms lk fs bl all os g
  | .code c => codeF P K pl u fn n tm k rd ms lk fs bl c
  | .dr all plan A g => drF P K fn n tm k rd ms lk fs bl all plan A g
  | .lp c => (match u with
    | true => .next true ⟨⟨fn, n, dd 0 tm, .code c :: .lp c :: k, rd, ms, lk⟩ :: fs, bl⟩
    | false => .stop)
  | .blk _ => .next true ⟨⟨fn, n, tm, k, rd, ms, lk⟩ :: fs, bl⟩
  | x => stepS P K pl u (drS P K) ⟨⟨fn, n, tm, x :: k, rd, ms, lk⟩ :: fs, bl⟩

def frF (P : Program) (K : KT) (pl : FuncId → Nat → Option Plan) (u : Bool) (fn : FuncId) (n : Nat) (tm : TM) (k : List SI) (rd : Option Nat) (ms lk : List Nat) (fs : List Fr) (bl : Bls) : Out := match k with
  | [] => leaveS P fn tm rd ms lk none fs bl
  | x :: k => itemF P K pl u fn n tm k rd ms lk fs bl x

def frsF (P : Program) (K : KT) (pl : FuncId → Nat → Option Plan) (u : Bool) (bl : Bls) : List Fr → Out
  | [] => .stop
  | ⟨fn, n, tm, k, rd, ms, lk⟩ :: fs => frF P K pl u fn n tm k rd ms lk fs bl

def stepF (P : Program) (K : KT) (pl : FuncId → Nat → Option Plan) (u : Bool) : Conf → Out
  | ⟨fs, bl⟩ => frsF P K pl u bl fs

def pre (u : Bool) (c : Conf) : Conf := match u with
  | true => clean c
  | false => c

theorem opF_eq {P : Program} {K : KT} {fn : FuncId} {n : Nat} {tm : TM} {k : List SI} {rd : Option Nat} {ms lk0 : List Nat} {o : Oper} {k' : List SI} {lk : List Nat} {fs : List Fr} {bl : Bls} :
    opF P K fn n tm k rd ms lk0 o k' lk fs bl = opS P K ⟨fn, n, tm, k, rd, ms, lk0⟩ o k' lk fs bl := by
  unfold opF opS
  rw [sopF_eq]
  dsimp only
  cases sop P tm bl lk o.op <;> rfl

theorem stepF_eq {P : Program} {K : KT} {pl : FuncId → Nat → Option Plan} {u : Bool} {c : Conf} : stepF P K pl u c = stp P K pl u (pre u c) := by
  obtain ⟨fs, bl⟩ := c
  cases fs with
  | nil => cases u <;> rfl
  | cons f fs =>
    obtain ⟨fn, n, tm, k, rd, ms, lk⟩ := f
    cases k with
    | nil => cases u <;> rfl
    | cons x k =>
      have hpre : isLp (x :: k) = false → pre u ⟨⟨fn, n, tm, x :: k, rd, ms, lk⟩ :: fs, bl⟩ = ⟨⟨fn, n, tm, x :: k, rd, ms, lk⟩ :: fs, bl⟩ := fun h => by
        cases u
        · rfl
        · simp only [pre, clean, h]
      cases x with
      | ops all os g =>
        rw [hpre rfl]
        cases os with
        | nil => rfl
        | cons o os =>
          show opsW P K fn n tm k rd ms lk fs bl all o os (wtS all n tm g o.guard) = (match wtS all n tm g o.guard with
            | .yes => opS P K ⟨fn, n, tm, .ops all (o :: os) (some true) :: k, rd, ms, lk⟩ o (.ops all os none :: k) lk fs bl
            | .no => .next true ⟨⟨fn, n, put n tm o.dst (.tup []), .ops all os none :: k, rd, ms, lk⟩ :: fs, bl⟩
            | .spl b want d => .split b ⟨⟨fn, n, (d, .v (.bool true)) :: tm, .ops all (o :: os) (some want) :: k, rd, ms, lk⟩ :: fs, bl⟩ ⟨⟨fn, n, (d, .v (.bool false)) :: tm, .ops all (o :: os) (some (!want)) :: k, rd, ms, lk⟩ :: fs, bl⟩
            | .bad => .stop)
          cases wtS all n tm g o.guard with
          | yes => exact opF_eq
          | _ => rfl
      | dr all plan A g =>
        rw [hpre rfl]
        cases plan with
        | nil => rfl
        | cons p rest =>
          obtain ⟨i, un⟩ := p
          show drO P K fn n tm k rd ms lk fs bl all i un rest A g (nth all.toList i) = drS P K ⟨fn, n, tm, .dr all ((i, un) :: rest) A g :: k, rd, ms, lk⟩ all ((i, un) :: rest) A g k fs bl
          unfold drS
          simp only
          cases nth all.toList i with
          | none => rfl
          | some o =>
            simp only [drO]
            cases wtS all n tm g o.guard with
            | yes =>
              simp only [drW]
              cases cls P o.op with
              | eff => exact opF_eq
              | pure => simp only [drC, popF_eq]; rfl
              | load => simp only [drC, popF_eq, lopF_eq]; rfl
            | _ => rfl
      | code c =>
        rw [hpre rfl]
        cases c with
        | cond c x y =>
          show condF fn n tm k rd ms lk fs bl x y (ev tm c) = (match ev tm c with
            | .v (.bool b) => .split b ⟨⟨fn, n, tm, .code x :: k, rd, ms, lk⟩ :: fs, bl⟩ ⟨⟨fn, n, tm, .code y :: k, rd, ms, lk⟩ :: fs, bl⟩
            | _ => .stop)
          cases ev tm c with
          | v x => cases x <;> rfl
          | _ => rfl
        | region id all draw => cases draw <;> rfl
        | loop c => cases u <;> rfl
        | _ => rfl
      | lp c => cases u <;> rfl
      | _ => rw [hpre rfl]; rfl

def runQ (P : Program) (K : KT) (pl : FuncId → Nat → Option Plan) : Nat → Conf → Option (AV × Bls)
  | 0, _ => none
  | n + 1, c => (match stepF P K pl true c with
    | .next vc c' => (match vc with
      | true => runQ P K pl n c'
      | false => none)
    | .split b c1 c2 => (match b with
      | true => runQ P K pl n c1
      | false => runQ P K pl n c2)
    | .fin vc r bl => (match vc with
      | true => some (r, bl)
      | false => none)
    | .stop => none)

theorem runQ_eq {P : Program} {K : KT} {pl : FuncId → Nat → Option Plan} : ∀ {n : Nat} {c : Conf}, runQ P K pl n c = runK P K pl n c
  | 0, _ => rfl
  | n + 1, c => by
    simp only [runQ, runK, stepF_eq, pre]
    cases stp P K pl true (clean c) with
    | next vc c' => cases vc with
      | true => exact runQ_eq
      | false => rfl
    | split b c1 c2 => cases b <;> exact runQ_eq
    | _ => rfl

end Go.SY
