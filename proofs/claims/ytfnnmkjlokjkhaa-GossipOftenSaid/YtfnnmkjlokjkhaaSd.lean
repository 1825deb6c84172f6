/- The symbolic machine (Sy25, Sy26, Sy27, Sy28, Sy29, Sn). -/
import Derived.Test.YtfnnmkjlokjkhaaSc
import Derived.SizedLaws
import Derived.ChangeSlices
set_option linter.unusedSimpArgs false
set_option linter.unusedVariables false
/-
  The symbolic machine in small pieces, for runs in the kernel: by our program fast.py, out of pop, lop, eop1, eop2.
-/
namespace Go.SY
open Go
def p_move (P : Program) (tm : TM) (x : Operand) : Option (Bool × AV) := some (true, ev tm x)
def p_assign (P : Program) (tm : TM) (x : Operand) : Option (Bool × AV) := some (true, ev tm x)
def p_pick (P : Program) (tm : TM) (c : Operand) (a : Operand) (b : Operand) : Option (Bool × AV) := (match ev tm c with
    | .v (.bool t) => some (true, pickAV t (ev tm a) (ev tm b))
    | _ => none)
def p_nilCheck (P : Program) (tm : TM) (x : Operand) : Option (Bool × AV) := (match ev tm x with
    | .ptr l i w k => some (true, .ptr l i w k)
    | .ip t r k => some (true, .ip t r k)
    | .fn f a b => some (true, .fn f a b)
    | .yld l => some (true, .yld l)
    | .v (.pointer p) => some (p.isSome, .v (.pointer p))
    | _ => none)
def p_binOp (P : Program) (tm : TM) (op : BinOp) (t : TypeId) (x : Operand) (y : Operand) (u4 : TypeId) : Option (Bool × AV) := (match ti P t with
    | some T => bop op T (ev tm x) (ev tm y)
    | none => none)
def p_unOp (P : Program) (tm : TM) (op : UnOp) (u1 : TypeId) (x : Operand) : Option (Bool × AV) := (match op, ev tm x with
    | .not, .v (.bool b) => some (true, .v (.bool (!b)))
    | .neg, .v (.int k z) => some (ar k (0 - z))
    | .xor, .v (.int k z) => some (true, .v (.int k (bits2 .xor k (if k.signed then -1 else k.max) z)))
    | _, _ => none)
def p_convert (P : Program) (tm : TM) (src : TypeId) (dst : TypeId) (x : Operand) : Option (Bool × AV) := (match ti P src, ti P dst with
    | some _, some D => (match D.kd, ev tm x with
      | .int k, .v (.int _ z) => some (true, .v (.int k (k.wrap z)))
      | .str, .v (.string s) => some (true, .v (.string s))
      | _, _ => none)
    | _, _ => none)
def p_fieldAddr (P : Program) (tm : TM) (s : TypeId) (x : Operand) (f : Nat) : Option (Bool × AV) := (match ti P s with
    | some T => (match T.kd with
      | .struct fs => (match nth fs f with
        | some (o, sz, _) => if sz = 0 then none else (match ev tm x with
          | .ptr l i w k => some (true, .ptr l i w (k + o))
          | .ip t r k => some (true, .ip t r (k + o))
          | _ => none)
        | none => none)
      | _ => none)
    | none => none)
def p_indexAddr (P : Program) (tm : TM) (t : TypeId) (x : Operand) (ix : Operand) : Option (Bool × AV) := (match ti P t with
    | some T => (match ev tm ix with
      | .v (.int _ j) => (match T.kd, ev tm x with
        | .slice _ sz _, .sl l i w n _ => if sz = 0 then none else if w = sz then some (decide (0 ≤ j) && decide (j < n), .ptr l (i + j.toNat) w 0) else none
        | .slice _ sz _, .imn t k xs _ => if sz = 1 then some (decide (0 ≤ j) && decide (j < xs.length), .ip t [.v (.int k (xs[j.toNat]?.getD 0))] 0) else none
        | .slice _ sz _, .imr t w rs _ => if sz = 0 then none else if w = sz then some (decide (0 ≤ j) && decide (j < rs.length), .ip t (rs[j.toNat]?.getD []) 0) else none
        | .arr n _ sz, .ptr l i w k => if sz = 1 then some (decide (0 ≤ j) && decide (j < n), .ptr l (i * w + k + j.toNat) 1 0) else if sz = 0 then none
            else if i * w + k = 0 then some (decide (0 ≤ j) && decide (j < n), .ptr l j.toNat sz 0) else none
        | .arr n _ sz, .ip t r k => if sz = 1 then (match dr r k with
          | some (.ch m kk xs :: _) => if m = n then some (decide (0 ≤ j) && decide (j < n), .ip t [.v (.int kk (xs[j.toNat]?.getD 0))] 0) else none
          | _ => none) else none
        | _, _ => none)
      | _ => none)
    | none => none)
def p_index (P : Program) (tm : TM) (t : TypeId) (x : Operand) (ix : Operand) : Option (Bool × AV) := (match ti P t with
    | some T => (match ev tm ix with
      | .v (.int _ j) => (match T.kd, ev tm x with
        | .str, .v (.string s) => some (decide (0 ≤ j) && decide (j < (bytesL s).length), .v (.int .u8 ((bytesL s)[j.toNat]?.getD 0)))
        | .arr n e _, .ch m k xs => (match ti P e with
          | some E => (match E.kd with
            | .int _ => if E.sz = 1 then (if m = n then some (decide (0 ≤ j) && decide (j < n), .v (.int k (xs[j.toNat]?.getD 0))) else none) else none
            | _ => none)
          | none => none)
        | _, _ => none)
      | _ => none)
    | none => none)
def p_slice (P : Program) (tm : TM) (t : TypeId) (x : Operand) (lo : Option Operand) (hi : Option Operand) (mx : Option Operand) : Option (Bool × AV) := if okMx hi mx = true then (match ti P t with
    | some T => (match T.kd, ev tm x with
      | .str, .v (.string s) => (match mx with
        | none => (match cutOf s.size (some s.size) (lo.map (ev tm)) (hi.map (ev tm)) none with
          | some (vc, b, n, _) => some (vc, .v (.string (s.extract b (b + n))))
          | none => none)
        | some _ => none)
      | .slice _ sz _, .sl l i w n c => if sz = 0 then none else if w = sz then (match cutOf n c (lo.map (ev tm)) (hi.map (ev tm)) (mx.map (ev tm)) with
        | some (vc, b, n', c') => some (vc, .sl l (i + b) w n' c')
        | none => none) else none
      | .slice _ sz _, .imn t k xs c => if sz = 1 then (match cutOf xs.length none (lo.map (ev tm)) (hi.map (ev tm)) (mx.map (ev tm)) with
        | some (vc, b, n', c') => some (vc, .imn t k ((xs.drop b).take n') (match mx with
          | none => subO c b
          | some _ => c'))
        | none => none) else none
      | .slice _ sz _, .imr t w rs c => if sz = 0 then none else if w = sz then (match cutOf rs.length none (lo.map (ev tm)) (hi.map (ev tm)) (mx.map (ev tm)) with
        | some (vc, b, n', c') => some (vc, .imr t w ((rs.drop b).take n') (match mx with
          | none => subO c b
          | some _ => c'))
        | none => none) else none
      | .slice _ sz _, .nil => if sz = 0 then none else (match cutOf 0 (some 0) (lo.map (ev tm)) (hi.map (ev tm)) (mx.map (ev tm)) with
        | some (vc, _, _, _) => some (vc, .nil)
        | none => none)
      | _, _ => none)
    | none => none) else none
def p_makeFunc (P : Program) (tm : TM) (fn : Fn) (fst : Array Operand) (cap : Array Operand) : Option (Bool × AV) := (match fn with
    | .func f => some (true, .fn f (fst.toList.map (ev tm)) (cap.toList.map (ev tm)))
    | _ => none)
def p_extract (P : Program) (tm : TM) (t : Operand) (i : Nat) : Option (Bool × AV) := (match ev tm t with
    | .tup xs => (match nth xs i with
      | some x => some (true, x)
      | none => none)
    | _ => none)
def p_field (P : Program) (tm : TM) (t : TypeId) (x : Operand) (f : Nat) : Option (Bool × AV) := (match ti P t with
    | some T => (match T.kd, parts (ev tm x) with
      | .struct fs, some xs => (match nth fs f with
        | some (o, sz, ag) => if sz = 0 then none else (match ag with
          | true => (match dr xs o with
            | some c1 => (match tk c1 sz with
              | some c2 => some (true, pack c2)
              | none => none)
            | none => none)
          | false => (match at1 xs o with
            | some r => some (true, r)
            | none => none))
        | none => none)
      | _, _ => none)
    | none => none)
def p_build (P : Program) (tm : TM) (t : TypeId) (ps : Array (Nat × Operand)) : Option (Bool × AV) := (match ti P t with
    | some T => (match T.kd, T.zc with
      | .struct fs, some cs => (match fillA (plFs fs) cs (ps.toList.map fun p => (p.1, ev tm p.2)) with
          | some r => if nz fs = true then some (true, pack r) else none
          | none => none)
      | .arr _ _ sz, some cs => if sz = 0 then none else (match fillA (fun i => some (i * sz, sz)) cs (ps.toList.map fun p => (p.1, ev tm p.2)) with
          | some r => some (true, pack r)
          | none => none)
      | _, _ => none)
    | none => none)
def p_len (P : Program) (tm : TM) (args : Array Operand) (argTypes : Array TypeId) : Option (Bool × AV) := (match args.toList, argTypes.toList with
    | [x], [t] => (match ti P t with
      | some T => (match T.kd with
        | .slice _ _ _ => (match ev tm x with
          | .sl _ _ _ n _ => some (true, .v (.int .i64 n))
          | .imn _ _ xs _ => some (true, .v (.int .i64 xs.length))
          | .imr _ _ rs _ => some (true, .v (.int .i64 rs.length))
          | .nil => some (true, .v (.int .i64 0))
          | _ => none)
        | .str => (match ev tm x with
          | .v (.string s) => some (true, .v (.int .i64 s.size))
          | _ => none)
        | .arr n _ _ => if n < 9223372036854775808 then some (true, .v (.int .i64 n)) else none
        | _ => none)
      | none => none)
    | _, _ => none)
def p_cap (P : Program) (tm : TM) (args : Array Operand) (argTypes : Array TypeId) : Option (Bool × AV) := (match args.toList, argTypes.toList with
    | [x], [t] => (match ti P t with
      | some T => (match T.kd, ev tm x with
        | .slice _ _ _, .sl _ _ _ _ (some c) => some (true, .v (.int .i64 c))
        | .slice _ _ _, .imn _ _ _ (some c) => some (true, .v (.int .i64 c))
        | .slice _ _ _, .imr _ _ _ (some c) => some (true, .v (.int .i64 c))
        | .slice _ _ _, .nil => some (true, .v (.int .i64 0))
        | _, _ => none)
      | none => none)
    | _, _ => none)
def p_min (P : Program) (tm : TM) (args : Array Operand) (argTypes : Array TypeId) : Option (Bool × AV) := (match args.toList.map (ev tm) with
    | .v (.int k x) :: r => (match minI min k x r with
      | some z => some (true, .v (.int k z))
      | none => none)
    | _ => none)
def p_max (P : Program) (tm : TM) (args : Array Operand) (argTypes : Array TypeId) : Option (Bool × AV) := (match args.toList.map (ev tm) with
    | .v (.int k x) :: r => (match minI max k x r with
      | some z => some (true, .v (.int k z))
      | none => none)
    | _ => none)
def l_load (P : Program) (tm : TM) (bl : Bls) (t : TypeId) (a : Operand) : Option (Bool × AV) := (match ti P t with
    | some T => (match ev tm a with
      | .ptr l i w k => (match lvl bl l with
        | some c => rdCt c i w k T
        | none => none)
      | .ip _ row k => (match rdC row k T with
        | some r => some (true, r)
        | none => none)
      | _ => none)
    | none => none)
def l_convert (P : Program) (tm : TM) (bl : Bls) (src : TypeId) (dst : TypeId) (x : Operand) : Option (Bool × AV) := (match ti P src, ti P dst with
    | some S, some D => (match S.kd, S.ik, D.kd with
      | .slice _ sz _, some .u8, .str => if sz = 1 then (match numsAt .u8 bl (ev tm x) with
        | some (vc, xs) => some (vc, .v (.string (strOf xs)))
        | none => none) else none
      | _, _, _ => none)
    | _, _ => none)
def l_slice (P : Program) (tm : TM) (bl : Bls) (t : TypeId) (x : Operand) (lo : Option Operand) (hi : Option Operand) (mx : Option Operand) : Option (Bool × AV) := if okMx hi mx = true then (match ti P t with
    | some T => (match aOf P T with
      | some (n, sz) => if sz = 1 then (match ev tm x with
        | .ptr l i w k => (match lvl bl l with
            | some c => (match (match c with
                | .num _ xs => some xs.length
                | .lit cs => some (wids cs)
                | _ => none) with
              | some m => (match cutOf n (some n) (lo.map (ev tm)) (hi.map (ev tm)) (mx.map (ev tm)) with
                | some (vc, b, n', c') => some (decide (i * w + k + n ≤ m) && (decide (n < 9223372036854775808) && vc), .sl l (i * w + k + b) 1 n' c')
                | none => none)
              | none => none)
            | none => none)
        | .ip t' row k => (match dr row k with
            | some (.ch m kk xs :: _) => if m = n then (match cutOf n (some n) (lo.map (ev tm)) (hi.map (ev tm)) (mx.map (ev tm)) with
                | some (vc, b, n', c') => some (decide (n < 9223372036854775808) && vc, .imn t' kk ((xs.drop b).take n') c')
                | none => none) else none
            | _ => none)
        | _ => none) else none
      | none => none)
    | none => none) else none
def e_store (P : Program) (tm : TM) (bl : Bls) (t : TypeId) (a : Operand) (x : Operand) : Option (Bool × AV × Bls) := (match ti P t with
    | some T => (match ev tm a with
      | .ptr l i w k => (match lvl bl l with
        | some (.rows w' _) => if w = w' then (match flat (ev tm x) T.sz with
          | some fs => (match hdL bl fs with
            | some (c1, gs, bl1) => (match lvl bl1 l with
              | some (.rows w2 rs) => if w = w2 then (match wrRow w rs i k gs T.sz with
                | some (c2, c) => some (c1 && c2, .any, setl bl1 l (some c))
                | none => none) else none
              | _ => none)
            | none => none)
          | none => none) else none
        | some c => (match wrCt c i w k (ev tm x) T.sz with
          | some (vc, c') => some (vc, .any, setl bl l (some c'))
          | none => none)
        | none => none)
      | _ => none)
    | none => none)
def e_alloc (P : Program) (tm : TM) (bl : Bls) (t : TypeId) : Option (Bool × AV × Bls) := (match ti P t with
    | some T => (match T.zc with
      | some cs => some (true, .ptr bl.length 0 T.sz 0, bl ++ [some (ctOf (isArr T.kd) cs)])
      | none => none)
    | none => none)
def e_box (P : Program) (tm : TM) (bl : Bls) (t : TypeId) (x : Operand) : Option (Bool × AV × Bls) := (match ti P t with
    | some T => (match flat (ev tm x) T.sz with
      | some fs => some (true, .ptr bl.length 0 T.sz 0, bl ++ [some (ctOf (isArr T.kd) fs)])
      | none => none)
    | none => none)
def e_buildSlice (P : Program) (tm : TM) (bl : Bls) (t : TypeId) (n : Nat) (ps : Array (Nat × Operand)) : Option (Bool × AV × Bls) := (match ti P t with
    | some T => (match T.kd with
      | .slice e sz _ => if sz = 0 then none else (match ti P e with
        | some E => (match E.zc with
          | some cs => if n * sz ≤ 16777216 then (if wids cs = sz then (match fillA (fun i => some (i * sz, sz)) (rep n cs) (ps.toList.map fun p => (p.1, ev tm p.2)) with
              | some r => (match elCt E sz n r with
                | some c => some (true, .sl bl.length 0 sz n (some n), bl ++ [some c])
                | none => none)
              | none => none) else none) else none
          | none => none)
        | none => none)
      | _ => none)
    | none => none)
def e_makeSlice (P : Program) (tm : TM) (bl : Bls) (t : TypeId) (x : Operand) (y : Operand) : Option (Bool × AV × Bls) := (match ti P t with
    | some T => (match T.kd with
      | .slice e sz by_ => if sz = 0 then none else (match ti P e with
        | some E => (match E.zc with
          | some cs => if wids cs = sz then (match ev tm x, ev tm y with
            | .v (.int _ n), .v (.int _ c) => (match (match E.kd, cs with
                | .int k, [.v (.int k' z)] => if k' = k then some (Ct.num k (List.replicate c.toNat z)) else none
                | .int _, _ => none
                | _, cs => some (Ct.rows sz (List.replicate c.toNat cs))) with
              | some ct => some (decide (0 ≤ n) && (decide (n ≤ c) && (decide ((by_ : Int) * c ≤ 281474976710656) && decide (c < 9223372036854775808))), .sl bl.length 0 sz n.toNat (some c.toNat), bl ++ [some ct])
              | none => none)
            | _, _ => none) else none
          | none => none)
        | none => none)
      | _ => none)
    | none => none)
def e_append (P : Program) (tm : TM) (bl : Bls) (args : Array Operand) (argTypes : Array TypeId) : Option (Bool × AV × Bls) := (match args.toList, argTypes.toList with
    | [s, x], [t, u] => (match ti P t, ti P u with
      | some T, some U => (match T.kd with
        | .slice e sz by_ => (match ti P e with
          | some E => (match E.kd, E.zc with
            | .int k, some [.v (.int k' z)] => if k' = k then (if sz = 1 then (if by_ = 0 then none else match dstN k bl (ev tm s), srcN k z by_ U.kd bl (ev tm x) with
                | some (c1, l, olds), some (c2, news) => appNN k by_ c1 c2 l olds news bl (roomN bl (ev tm s))
                | _, _ => none) else none) else none
            | .int _, _ => none
            | _, some zc => if sz = 0 then none else if by_ = 0 then none else (if wids zc = sz then (match U.kd, srcR sz bl (ev tm x), zerR by_ zc (ev tm x) with
              | .slice _ _ _, some (c2, news, bl1), _ => (match dstR sz bl1 (ev tm s) with
                | some (c1, l, olds) => appRR sz by_ c1 c2 l olds news bl1 (roomR bl1 (ev tm s))
                | none => none)
              | .int _, _, some (c2, news) => (match dstR sz bl (ev tm s) with
                | some (c1, l, olds) => appRR sz by_ c1 c2 l olds news bl (roomR bl (ev tm s))
                | none => none)
              | _, _, _ => none) else none)
            | _, _ => none)
          | none => none)
        | _ => none)
      | _, _ => none)
    | _, _ => none)
def e_copy (P : Program) (tm : TM) (bl : Bls) (args : Array Operand) (argTypes : Array TypeId) : Option (Bool × AV × Bls) := (match args.toList, argTypes.toList with
    | [d, x], [t, u] => (match ti P t, ti P u with
      | some T, some U => (match T.kd, T.ik with
        | .slice _ sz _, some k => if sz = 1 then (match ev tm d with
          | .sl l i w n _ => if w = 1 then (match cpSrcN k U.kd bl (ev tm x), lvl bl l with
              | some (m, news), some (.num k' xs) => if k' = k then some (decide (min m n ≤ news.length) && decide (i ≤ xs.length), .v (.int .i64 (min m n : Nat)), setl bl l (some (.num k (xs.take i ++ (news.take (min m n) ++ xs.drop (i + min m n)))))) else none
              | some (m, news), some (.lit cs) => if n = 0 then none else (match chR cs i k n (fun xs => news.take (min m n) ++ xs.drop (min m n)) with
                | some r => some (decide (min m n ≤ news.length), .v (.int .i64 (min m n : Nat)), setl bl l (some (.lit r)))
                | none => none)
              | _, _ => none) else none
          | _ => none) else none
        | .slice _ sz _, none => if sz = 0 then none else cpR sz bl (ev tm d) (ev tm x)
        | _, _ => none)
      | _, _ => none)
    | _, _ => none)
def e_clear (P : Program) (tm : TM) (bl : Bls) (args : Array Operand) (argTypes : Array TypeId) : Option (Bool × AV × Bls) := (match args.toList, argTypes.toList with
    | [x], [t] => (match ti P t with
      | some T => (match T.kd with
        | .slice e sz _ => if sz = 0 then none else (match ti P e with
          | some E => (match E.zc with
            | some zc => if wids zc = sz then (match E.kd, zc with
              | .int k, [.v (.int k' _)] => if k' = k ∧ sz = 1 then clN k bl (ev tm x) else none
              | .int _, _ => none
              | _, _ => clR sz bl (ev tm x)) else none
            | none => none)
          | none => none)
        | _ => none)
      | none => none)
    | _, _ => none)
def e_convert (P : Program) (tm : TM) (bl : Bls) (src : TypeId) (dst : TypeId) (x : Operand) : Option (Bool × AV × Bls) := (match ti P src, ti P dst with
    | some S, some D => (match S.kd, D.kd, D.ik with
      | .str, .slice _ sz _, some .u8 => if sz = 1 then (match ev tm x with
        | .v (.string s) => some (true, .sl bl.length 0 1 (bytesL s).length none, bl ++ [some (.num .u8 (bytesL s))])
        | _ => none) else none
      | .slice _ _ _, .slice _ sz _, some .u8 => if src = dst then (if sz = 1 then (match ev tm x with
        | .sl l i w n c => if n = 0 then none else (match lvl bl l with
          | some b => if (b.cell && !spz b) = true then some (true, .sl l i w n c, bl) else none
          | none => none)
        | _ => none) else none) else none
      | _, _, _ => none)
    | _, _ => none)
def pv : Option (Bool × AV) → Bls → SO
  | some (vc, r), bl => .val vc r bl
  | none, _ => .stop
def evq (tm : TM) (bl : Bls) (lk : List Nat) (op : Op) : Option (Bool × AV × Bls) → SO
  | some (vc, r, bl') => .val (vc && quiet tm bl lk bl' op) r bl'
  | none => .stop
def orl (a : Option (Bool × AV)) (bl : Bls) (k : SO) : SO := match a with
  | some (vc, r) => .val vc r bl
  | none => k
def bltF (P : Program) (tm : TM) (bl : Bls) (lk : List Nat) (c : Call) (b : Builtin) (args : Array Operand) (argTypes : Array TypeId) : SO := match b with
  | .append => evq tm bl lk (.call c) (e_append P tm bl args argTypes)
  | .cap => pv (p_cap P tm args argTypes) bl
  | .clear => evq tm bl lk (.call c) (e_clear P tm bl args argTypes)
  | .copy => evq tm bl lk (.call c) (e_copy P tm bl args argTypes)
  | .len => pv (p_len P tm args argTypes) bl
  | .max => pv (p_max P tm args argTypes) bl
  | .min => pv (p_min P tm args argTypes) bl
  | _ => .stop
def callF (P : Program) (tm : TM) (bl : Bls) (lk : List Nat) (c : Call) : SO := match c with
  | ⟨callee, args, argTypes⟩ => (match callee with
    | .builtin b => bltF P tm bl lk ⟨.builtin b, args, argTypes⟩ b args argTypes
    | .value f => calleeS tm ⟨.value f, args, argTypes⟩
    | _ => .stop)
def sopF (P : Program) (tm : TM) (bl : Bls) (lk : List Nat) (o : Op) : SO := match o with
  | .alloc x0 => evq tm bl lk (.alloc x0) (e_alloc P tm bl x0)
  | .assign x0 => pv (p_assign P tm x0) bl
  | .binOp x0 x1 x2 x3 x4 => pv (p_binOp P tm x0 x1 x2 x3 x4) bl
  | .box x0 x1 => evq tm bl lk (.box x0 x1) (e_box P tm bl x0 x1)
  | .build x0 x1 => pv (p_build P tm x0 x1) bl
  | .buildSlice x0 x1 x2 => evq tm bl lk (.buildSlice x0 x1 x2) (e_buildSlice P tm bl x0 x1 x2)
  | .convert x0 x1 x2 => orl (p_convert P tm x0 x1 x2) bl (orl (l_convert P tm bl x0 x1 x2) bl (evq tm bl lk (.convert x0 x1 x2) (e_convert P tm bl x0 x1 x2)))
  | .extract x0 x1 => pv (p_extract P tm x0 x1) bl
  | .field x0 x1 x2 => pv (p_field P tm x0 x1 x2) bl
  | .fieldAddr x0 x1 x2 => pv (p_fieldAddr P tm x0 x1 x2) bl
  | .index x0 x1 x2 => pv (p_index P tm x0 x1 x2) bl
  | .indexAddr x0 x1 x2 => pv (p_indexAddr P tm x0 x1 x2) bl
  | .load x0 x1 => pv (l_load P tm bl x0 x1) bl
  | .makeFunc x0 x1 x2 => pv (p_makeFunc P tm x0 x1 x2) bl
  | .makeSlice x0 x1 x2 => evq tm bl lk (.makeSlice x0 x1 x2) (e_makeSlice P tm bl x0 x1 x2)
  | .move x0 => pv (p_move P tm x0) bl
  | .nilCheck x0 => pv (p_nilCheck P tm x0) bl
  | .pick x0 x1 x2 => pv (p_pick P tm x0 x1 x2) bl
  | .slice x0 x1 x2 x3 x4 => orl (p_slice P tm x0 x1 x2 x3 x4) bl (pv (l_slice P tm bl x0 x1 x2 x3 x4) bl)
  | .store x0 x1 x2 => evq tm bl lk (.store x0 x1 x2) (e_store P tm bl x0 x1 x2)
  | .unOp x0 x1 x2 => pv (p_unOp P tm x0 x1 x2) bl
  | .call c => callF P tm bl lk c
  | _ => .stop
def bltP (P : Program) (tm : TM) (b : Builtin) (args : Array Operand) (argTypes : Array TypeId) : Option (Bool × AV) := match b with
  | .cap => p_cap P tm args argTypes
  | .len => p_len P tm args argTypes
  | .max => p_max P tm args argTypes
  | .min => p_min P tm args argTypes
  | _ => none
def callP (P : Program) (tm : TM) (c : Call) : Option (Bool × AV) := match c with
  | ⟨callee, args, argTypes⟩ => (match callee with
    | .builtin b => bltP P tm b args argTypes
    | _ => none)
def popF (P : Program) (tm : TM) (o : Op) : Option (Bool × AV) := match o with
  | .assign x0 => p_assign P tm x0
  | .binOp x0 x1 x2 x3 x4 => p_binOp P tm x0 x1 x2 x3 x4
  | .build x0 x1 => p_build P tm x0 x1
  | .convert x0 x1 x2 => p_convert P tm x0 x1 x2
  | .extract x0 x1 => p_extract P tm x0 x1
  | .field x0 x1 x2 => p_field P tm x0 x1 x2
  | .fieldAddr x0 x1 x2 => p_fieldAddr P tm x0 x1 x2
  | .index x0 x1 x2 => p_index P tm x0 x1 x2
  | .indexAddr x0 x1 x2 => p_indexAddr P tm x0 x1 x2
  | .makeFunc x0 x1 x2 => p_makeFunc P tm x0 x1 x2
  | .move x0 => p_move P tm x0
  | .nilCheck x0 => p_nilCheck P tm x0
  | .pick x0 x1 x2 => p_pick P tm x0 x1 x2
  | .slice x0 x1 x2 x3 x4 => p_slice P tm x0 x1 x2 x3 x4
  | .unOp x0 x1 x2 => p_unOp P tm x0 x1 x2
  | .call c => callP P tm c
  | _ => none
def lopF (P : Program) (tm : TM) (bl : Bls) (o : Op) : Option (Bool × AV) := match o with
  | .convert x0 x1 x2 => l_convert P tm bl x0 x1 x2
  | .load x0 x1 => l_load P tm bl x0 x1
  | .slice x0 x1 x2 x3 x4 => l_slice P tm bl x0 x1 x2 x3 x4
  | _ => none
theorem popF_eq (P : Program) (tm : TM) (o : Op) : popF P tm o = pop P tm o := by
  cases o with
  | call c =>
    obtain ⟨callee, args, argTypes⟩ := c
    cases callee with
    | builtin b => cases b <;> rfl
    | _ => rfl
  | _ => rfl
theorem lopF_eq (P : Program) (tm : TM) (bl : Bls) (o : Op) : lopF P tm bl o = lop P tm bl o := by
  cases o <;> rfl
theorem sopF_eq (P : Program) (tm : TM) (bl : Bls) (lk : List Nat) (o : Op) : sopF P tm bl lk o = sop P tm bl lk o := by
  cases o with
  | alloc x0 =>
    have h : pop P tm (.alloc x0) = none := rfl
    simp only [sop, sopF, h, sopR]
    have h : lop P tm bl (.alloc x0) = none := rfl
    simp only [h, sopM]
    have h : eop1 P tm bl (.alloc x0) = e_alloc P tm bl x0 := rfl
    simp only [h, evq]
    cases e_alloc P tm bl x0 <;> rfl
  | assign x0 =>
    have h : pop P tm (.assign x0) = p_assign P tm x0 := rfl
    simp only [sop, sopF, h]
    cases p_assign P tm x0 with
    | some x => rfl
    | none =>
      simp only [sopR, orl, pv]
      have h : lop P tm bl (.assign x0) = none := rfl
      simp only [h, sopM]
      try rfl
  | binOp x0 x1 x2 x3 x4 =>
    have h : pop P tm (.binOp x0 x1 x2 x3 x4) = p_binOp P tm x0 x1 x2 x3 x4 := rfl
    simp only [sop, sopF, h]
    cases p_binOp P tm x0 x1 x2 x3 x4 with
    | some x => rfl
    | none =>
      simp only [sopR, orl, pv]
      have h : lop P tm bl (.binOp x0 x1 x2 x3 x4) = none := rfl
      simp only [h, sopM]
      try rfl
  | box x0 x1 =>
    have h : pop P tm (.box x0 x1) = none := rfl
    simp only [sop, sopF, h, sopR]
    have h : lop P tm bl (.box x0 x1) = none := rfl
    simp only [h, sopM]
    have h : eop1 P tm bl (.box x0 x1) = e_box P tm bl x0 x1 := rfl
    simp only [h, evq]
    cases e_box P tm bl x0 x1 <;> rfl
  | build x0 x1 =>
    have h : pop P tm (.build x0 x1) = p_build P tm x0 x1 := rfl
    simp only [sop, sopF, h]
    cases p_build P tm x0 x1 with
    | some x => rfl
    | none =>
      simp only [sopR, orl, pv]
      have h : lop P tm bl (.build x0 x1) = none := rfl
      simp only [h, sopM]
      try rfl
  | buildSlice x0 x1 x2 =>
    have h : pop P tm (.buildSlice x0 x1 x2) = none := rfl
    simp only [sop, sopF, h, sopR]
    have h : lop P tm bl (.buildSlice x0 x1 x2) = none := rfl
    simp only [h, sopM]
    have h : eop1 P tm bl (.buildSlice x0 x1 x2) = e_buildSlice P tm bl x0 x1 x2 := rfl
    simp only [h, evq]
    cases e_buildSlice P tm bl x0 x1 x2 <;> rfl
  | convert x0 x1 x2 =>
    have h : pop P tm (.convert x0 x1 x2) = p_convert P tm x0 x1 x2 := rfl
    simp only [sop, sopF, h]
    cases p_convert P tm x0 x1 x2 with
    | some x => rfl
    | none =>
      simp only [sopR, orl, pv]
      have h : lop P tm bl (.convert x0 x1 x2) = l_convert P tm bl x0 x1 x2 := rfl
      simp only [h]
      cases l_convert P tm bl x0 x1 x2 with
      | some x => rfl
      | none =>
        try simp only [sopM, orl, pv]
        have h1 : eop1 P tm bl (.convert x0 x1 x2) = none := rfl
        have h : eop2 P tm bl (.convert x0 x1 x2) = e_convert P tm bl x0 x1 x2 := rfl
        simp only [h1, h, evq]
        cases e_convert P tm bl x0 x1 x2 <;> rfl
  | extract x0 x1 =>
    have h : pop P tm (.extract x0 x1) = p_extract P tm x0 x1 := rfl
    simp only [sop, sopF, h]
    cases p_extract P tm x0 x1 with
    | some x => rfl
    | none =>
      simp only [sopR, orl, pv]
      have h : lop P tm bl (.extract x0 x1) = none := rfl
      simp only [h, sopM]
      try rfl
  | field x0 x1 x2 =>
    have h : pop P tm (.field x0 x1 x2) = p_field P tm x0 x1 x2 := rfl
    simp only [sop, sopF, h]
    cases p_field P tm x0 x1 x2 with
    | some x => rfl
    | none =>
      simp only [sopR, orl, pv]
      have h : lop P tm bl (.field x0 x1 x2) = none := rfl
      simp only [h, sopM]
      try rfl
  | fieldAddr x0 x1 x2 =>
    have h : pop P tm (.fieldAddr x0 x1 x2) = p_fieldAddr P tm x0 x1 x2 := rfl
    simp only [sop, sopF, h]
    cases p_fieldAddr P tm x0 x1 x2 with
    | some x => rfl
    | none =>
      simp only [sopR, orl, pv]
      have h : lop P tm bl (.fieldAddr x0 x1 x2) = none := rfl
      simp only [h, sopM]
      try rfl
  | index x0 x1 x2 =>
    have h : pop P tm (.index x0 x1 x2) = p_index P tm x0 x1 x2 := rfl
    simp only [sop, sopF, h]
    cases p_index P tm x0 x1 x2 with
    | some x => rfl
    | none =>
      simp only [sopR, orl, pv]
      have h : lop P tm bl (.index x0 x1 x2) = none := rfl
      simp only [h, sopM]
      try rfl
  | indexAddr x0 x1 x2 =>
    have h : pop P tm (.indexAddr x0 x1 x2) = p_indexAddr P tm x0 x1 x2 := rfl
    simp only [sop, sopF, h]
    cases p_indexAddr P tm x0 x1 x2 with
    | some x => rfl
    | none =>
      simp only [sopR, orl, pv]
      have h : lop P tm bl (.indexAddr x0 x1 x2) = none := rfl
      simp only [h, sopM]
      try rfl
  | load x0 x1 =>
    have h : pop P tm (.load x0 x1) = none := rfl
    simp only [sop, sopF, h, sopR]
    have h : lop P tm bl (.load x0 x1) = l_load P tm bl x0 x1 := rfl
    simp only [h]
    cases l_load P tm bl x0 x1 with
    | some x => rfl
    | none =>
      try simp only [sopM, orl, pv]
      try rfl
  | makeFunc x0 x1 x2 =>
    have h : pop P tm (.makeFunc x0 x1 x2) = p_makeFunc P tm x0 x1 x2 := rfl
    simp only [sop, sopF, h]
    cases p_makeFunc P tm x0 x1 x2 with
    | some x => rfl
    | none =>
      simp only [sopR, orl, pv]
      have h : lop P tm bl (.makeFunc x0 x1 x2) = none := rfl
      simp only [h, sopM]
      try rfl
  | makeSlice x0 x1 x2 =>
    have h : pop P tm (.makeSlice x0 x1 x2) = none := rfl
    simp only [sop, sopF, h, sopR]
    have h : lop P tm bl (.makeSlice x0 x1 x2) = none := rfl
    simp only [h, sopM]
    have h : eop1 P tm bl (.makeSlice x0 x1 x2) = e_makeSlice P tm bl x0 x1 x2 := rfl
    simp only [h, evq]
    cases e_makeSlice P tm bl x0 x1 x2 <;> rfl
  | move x0 =>
    have h : pop P tm (.move x0) = p_move P tm x0 := rfl
    simp only [sop, sopF, h]
    cases p_move P tm x0 with
    | some x => rfl
    | none =>
      simp only [sopR, orl, pv]
      have h : lop P tm bl (.move x0) = none := rfl
      simp only [h, sopM]
      try rfl
  | nilCheck x0 =>
    have h : pop P tm (.nilCheck x0) = p_nilCheck P tm x0 := rfl
    simp only [sop, sopF, h]
    cases p_nilCheck P tm x0 with
    | some x => rfl
    | none =>
      simp only [sopR, orl, pv]
      have h : lop P tm bl (.nilCheck x0) = none := rfl
      simp only [h, sopM]
      try rfl
  | pick x0 x1 x2 =>
    have h : pop P tm (.pick x0 x1 x2) = p_pick P tm x0 x1 x2 := rfl
    simp only [sop, sopF, h]
    cases p_pick P tm x0 x1 x2 with
    | some x => rfl
    | none =>
      simp only [sopR, orl, pv]
      have h : lop P tm bl (.pick x0 x1 x2) = none := rfl
      simp only [h, sopM]
      try rfl
  | slice x0 x1 x2 x3 x4 =>
    have h : pop P tm (.slice x0 x1 x2 x3 x4) = p_slice P tm x0 x1 x2 x3 x4 := rfl
    simp only [sop, sopF, h]
    cases p_slice P tm x0 x1 x2 x3 x4 with
    | some x => rfl
    | none =>
      simp only [sopR, orl, pv]
      have h : lop P tm bl (.slice x0 x1 x2 x3 x4) = l_slice P tm bl x0 x1 x2 x3 x4 := rfl
      simp only [h]
      cases l_slice P tm bl x0 x1 x2 x3 x4 with
      | some x => rfl
      | none =>
        try simp only [sopM, orl, pv]
        try rfl
  | store x0 x1 x2 =>
    have h : pop P tm (.store x0 x1 x2) = none := rfl
    simp only [sop, sopF, h, sopR]
    have h : lop P tm bl (.store x0 x1 x2) = none := rfl
    simp only [h, sopM]
    have h : eop1 P tm bl (.store x0 x1 x2) = e_store P tm bl x0 x1 x2 := rfl
    simp only [h, evq]
    cases e_store P tm bl x0 x1 x2 <;> rfl
  | unOp x0 x1 x2 =>
    have h : pop P tm (.unOp x0 x1 x2) = p_unOp P tm x0 x1 x2 := rfl
    simp only [sop, sopF, h]
    cases p_unOp P tm x0 x1 x2 with
    | some x => rfl
    | none =>
      simp only [sopR, orl, pv]
      have h : lop P tm bl (.unOp x0 x1 x2) = none := rfl
      simp only [h, sopM]
      try rfl
  | call c =>
    obtain ⟨callee, args, argTypes⟩ := c
    cases callee with
    | value f => rfl
    | invoke r n => rfl
    | builtin b =>
      simp only [sopF, callF]
      cases b with
      | append =>
        have h : eop2 P tm bl (.call ⟨.builtin .append, args, argTypes⟩) = e_append P tm bl args argTypes := rfl
        have h0 : pop P tm (.call ⟨.builtin .append, args, argTypes⟩) = none := rfl
        have h1 : eop1 P tm bl (.call ⟨.builtin .append, args, argTypes⟩) = none := rfl
        simp only [sop, sopM, bltF, h, h0, h1, evq]
        cases e_append P tm bl args argTypes <;> rfl
      | cap =>
        have h : pop P tm (.call ⟨.builtin .cap, args, argTypes⟩) = p_cap P tm args argTypes := rfl
        simp only [sop, bltF, h]
        cases p_cap P tm args argTypes <;> rfl
      | clear =>
        have h : eop2 P tm bl (.call ⟨.builtin .clear, args, argTypes⟩) = e_clear P tm bl args argTypes := rfl
        have h0 : pop P tm (.call ⟨.builtin .clear, args, argTypes⟩) = none := rfl
        have h1 : eop1 P tm bl (.call ⟨.builtin .clear, args, argTypes⟩) = none := rfl
        simp only [sop, sopM, bltF, h, h0, h1, evq]
        cases e_clear P tm bl args argTypes <;> rfl
      | copy =>
        have h : eop2 P tm bl (.call ⟨.builtin .copy, args, argTypes⟩) = e_copy P tm bl args argTypes := rfl
        have h0 : pop P tm (.call ⟨.builtin .copy, args, argTypes⟩) = none := rfl
        have h1 : eop1 P tm bl (.call ⟨.builtin .copy, args, argTypes⟩) = none := rfl
        simp only [sop, sopM, bltF, h, h0, h1, evq]
        cases e_copy P tm bl args argTypes <;> rfl
      | len =>
        have h : pop P tm (.call ⟨.builtin .len, args, argTypes⟩) = p_len P tm args argTypes := rfl
        simp only [sop, bltF, h]
        cases p_len P tm args argTypes <;> rfl
      | max =>
        have h : pop P tm (.call ⟨.builtin .max, args, argTypes⟩) = p_max P tm args argTypes := rfl
        simp only [sop, bltF, h]
        cases p_max P tm args argTypes <;> rfl
      | min =>
        have h : pop P tm (.call ⟨.builtin .min, args, argTypes⟩) = p_min P tm args argTypes := rfl
        simp only [sop, bltF, h]
        cases p_min P tm args argTypes <;> rfl
      | _ => rfl
  | _ => rfl
def callO (P : Program) (K : KT) (fn : FuncId) (n : Nat) (tm : TM) (k : List SI) (rd : Option Nat) (ms lk0 : List Nat) (o : Oper) (k' : List SI) (lk : List Nat) (fs : List Fr) (bl : Bls) (g : FuncId) (args : List AV) : Out := match K g with
  | some c => (match c args bl with
    | some (vc, r, bl') => .next (vc && alive bl bl' lk) ⟨⟨fn, n, put n tm o.dst r, k', rd, ms, lk0⟩ :: fs, bl'⟩
    | none => .stop)
  | none => enterS P g args lk (⟨fn, n, tm, k, rd, ms, lk0⟩ :: fs) bl
def opF (P : Program) (K : KT) (fn : FuncId) (n : Nat) (tm : TM) (k : List SI) (rd : Option Nat) (ms lk0 : List Nat) (o : Oper) (k' : List SI) (lk : List Nat) (fs : List Fr) (bl : Bls) : Out := match sopF P tm bl lk o.op with
  | .val vc r bl' => .next vc ⟨⟨fn, n, put n tm o.dst r, k', rd, ms, lk0⟩ :: fs, bl'⟩
  | .call g args => callO P K fn n tm k rd ms lk0 o k' lk fs bl g args
  | .yld l args => roundS l args lk (⟨fn, n, tm, k, rd, ms, lk0⟩ :: fs) bl
  | .stop => .stop
def opsW (P : Program) (K : KT) (fn : FuncId) (n : Nat) (tm : TM) (k : List SI) (rd : Option Nat) (ms lk : List Nat) (fs : List Fr) (bl : Bls) (all : Array Oper) (o : Oper) (os : List Oper) : Wt → Out
  | .yes => opF P K fn n tm (.ops all (o :: os) (some true) :: k) rd ms lk o (.ops all os none :: k) lk fs bl
  | .no => .next true ⟨⟨fn, n, put n tm o.dst (.tup []), .ops all os none :: k, rd, ms, lk⟩ :: fs, bl⟩
  | .spl b want d => .split b ⟨⟨fn, n, (d, .v (.bool true)) :: tm, .ops all (o :: os) (some want) :: k, rd, ms, lk⟩ :: fs, bl⟩ ⟨⟨fn, n, (d, .v (.bool false)) :: tm, .ops all (o :: os) (some (!want)) :: k, rd, ms, lk⟩ :: fs, bl⟩
  | .bad => .stop
def opsF (P : Program) (K : KT) (fn : FuncId) (n : Nat) (tm : TM) (k : List SI) (rd : Option Nat) (ms lk : List Nat) (fs : List Fr) (bl : Bls) (all : Array Oper) (os : List Oper) (g : Option Bool) : Out := match os with
  | [] => .next true ⟨⟨fn, n, tm, k, rd, ms, lk⟩ :: fs, bl⟩
  | o :: os => opsW P K fn n tm k rd ms lk fs bl all o os (wtS all n tm g o.guard)
def drC (P : Program) (K : KT) (fn : FuncId) (n : Nat) (tm : TM) (k : List SI) (rd : Option Nat) (ms lk : List Nat) (fs : List Fr) (bl : Bls) (all : Array Oper) (i : Nat) (un : List Nat) (rest : Plan) (A : List (Nat × List Nat)) (o : Oper) : Cls → Out
  | .pure => (match popF P tm o.op with
    | some (vc, r) => .next vc ⟨⟨fn, n, put n tm o.dst r, .dr all rest A none :: k, rd, ms, lk⟩ :: fs, bl⟩
    | none => .stop)
  | .load => (match popF P tm o.op with
    | some (vc, r) => .next vc ⟨⟨fn, n, put n tm o.dst r, .dr all rest A none :: k, rd, ms, lk⟩ :: fs, bl⟩
    | none => (match lopF P tm bl o.op with
      | some (vc, r) => .next vc ⟨⟨fn, n, put n tm o.dst r, .dr all rest ((i, rdl tm o.op) :: A) none :: k, rd, ms, lk⟩ :: fs, bl⟩
      | none => .stop))
  | .eff => opF P K fn n tm (.dr all ((i, un) :: rest) A (some true) :: k) rd ms lk o (.dr all rest A none :: k) (lvA un A ++ lk) fs bl
def drW (P : Program) (K : KT) (fn : FuncId) (n : Nat) (tm : TM) (k : List SI) (rd : Option Nat) (ms lk : List Nat) (fs : List Fr) (bl : Bls) (all : Array Oper) (i : Nat) (un : List Nat) (rest : Plan) (A : List (Nat × List Nat)) (o : Oper) : Wt → Out
  | .yes => drC P K fn n tm k rd ms lk fs bl all i un rest A o (cls P o.op)
  | .no => .next true ⟨⟨fn, n, put n tm o.dst (.tup []), .dr all rest A none :: k, rd, ms, lk⟩ :: fs, bl⟩
  | .spl b want d => .split b ⟨⟨fn, n, (d, .v (.bool true)) :: tm, .dr all ((i, un) :: rest) A (some want) :: k, rd, ms, lk⟩ :: fs, bl⟩ ⟨⟨fn, n, (d, .v (.bool false)) :: tm, .dr all ((i, un) :: rest) A (some (!want)) :: k, rd, ms, lk⟩ :: fs, bl⟩
  | .bad => .stop
def drO (P : Program) (K : KT) (fn : FuncId) (n : Nat) (tm : TM) (k : List SI) (rd : Option Nat) (ms lk : List Nat) (fs : List Fr) (bl : Bls) (all : Array Oper) (i : Nat) (un : List Nat) (rest : Plan) (A : List (Nat × List Nat)) (g : Option Bool) : Option Oper → Out
  | none => .stop
  | some o => drW P K fn n tm k rd ms lk fs bl all i un rest A o (wtS all n tm g o.guard)
def drF (P : Program) (K : KT) (fn : FuncId) (n : Nat) (tm : TM) (k : List SI) (rd : Option Nat) (ms lk : List Nat) (fs : List Fr) (bl : Bls) (all : Array Oper) (plan : Plan) (A : List (Nat × List Nat)) (g : Option Bool) : Out := match plan with
  | [] => .next true ⟨⟨fn, n, tm, k, rd, ms, lk⟩ :: fs, bl⟩
  | (i, un) :: rest => drO P K fn n tm k rd ms lk fs bl all i un rest A g (nth all.toList i)
def condF (fn : FuncId) (n : Nat) (tm : TM) (k : List SI) (rd : Option Nat) (ms lk : List Nat) (fs : List Fr) (bl : Bls) (x y : Code) : AV → Out
  | .v (.bool b) => .split b ⟨⟨fn, n, tm, .code x :: k, rd, ms, lk⟩ :: fs, bl⟩ ⟨⟨fn, n, tm, .code y :: k, rd, ms, lk⟩ :: fs, bl⟩
  | _ => .stop
def codeF (P : Program) (K : KT) (pl : FuncId → Nat → Option Plan) (u : Bool) (fn : FuncId) (n : Nat) (tm : TM) (k : List SI) (rd : Option Nat) (ms lk : List Nat) (fs : List Fr) (bl : Bls) (c : Code) : Out := match c with
  | .seq x y => .next true ⟨⟨fn, n, tm, .code x :: .code y :: k, rd, ms, lk⟩ :: fs, bl⟩
  | .region id all draw => (match draw with
    | false => .next true ⟨⟨fn, n, tm, .ops all all.toList none :: k, rd, ms, lk⟩ :: fs, bl⟩
    | true => (match pl fn id with
      | some p => .next true ⟨⟨fn, n, tm, .dr all p [] none :: k, rd, ms, lk⟩ :: fs, bl⟩
      | none => .stop))
  | .cond c x y => condF fn n tm k rd ms lk fs bl x y (ev tm c)
  | .skip => .next true ⟨⟨fn, n, tm, k, rd, ms, lk⟩ :: fs, bl⟩
  | .block id c => .next true ⟨⟨fn, n, tm, .code c :: .blk id :: k, rd, ms, lk⟩ :: fs, bl⟩
  | .loop c => (match u with
    | true => .next true ⟨⟨fn, n, tm, .code c :: .lp c :: k, rd, ms, lk⟩ :: fs, bl⟩
    | false => .stop)
  | c => stepS P K pl u (drS P K) ⟨⟨fn, n, tm, .code c :: k, rd, ms, lk⟩ :: fs, bl⟩
def itemF (P : Program) (K : KT) (pl : FuncId → Nat → Option Plan) (u : Bool) (fn : FuncId) (n : Nat) (tm : TM) (k : List SI) (rd : Option Nat) (ms lk : List Nat) (fs : List Fr) (bl : Bls) (x : SI) : Out := match x with
  | .ops all os g => opsF P K fn n tm k rd ms lk fs bl all os g
  | .code c => codeF P K pl u fn n tm k rd ms lk fs bl c
  | .dr all plan A g => drF P K fn n tm k rd ms lk fs bl all plan A g
  | .lp c => (match u with
    | true => .next true ⟨⟨fn, n, dd 0 tm, .code c :: .lp c :: k, rd, ms, lk⟩ :: fs, bl⟩
    | false => .stop)
  | .blk _ => .next true ⟨⟨fn, n, tm, k, rd, ms, lk⟩ :: fs, bl⟩
  | x => stepS P K pl u (drS P K) ⟨⟨fn, n, tm, x :: k, rd, ms, lk⟩ :: fs, bl⟩
def frF (P : Program) (K : KT) (pl : FuncId → Nat → Option Plan) (u : Bool) (fn : FuncId) (n : Nat) (tm : TM) (k : List SI) (rd : Option Nat) (ms lk : List Nat) (fs : List Fr) (bl : Bls) : Out := match k with
  | [] => leaveS P fn tm rd ms lk none fs bl
  | x :: k => itemF P K pl u fn n tm k rd ms lk fs bl x
def frsF (P : Program) (K : KT) (pl : FuncId → Nat → Option Plan) (u : Bool) (bl : Bls) : List Fr → Out
  | [] => .stop
  | ⟨fn, n, tm, k, rd, ms, lk⟩ :: fs => frF P K pl u fn n tm k rd ms lk fs bl
def stepF (P : Program) (K : KT) (pl : FuncId → Nat → Option Plan) (u : Bool) : Conf → Out
  | ⟨fs, bl⟩ => frsF P K pl u bl fs
def pre (u : Bool) (c : Conf) : Conf := match u with
  | true => clean c
  | false => c
theorem opF_eq {P : Program} {K : KT} {fn : FuncId} {n : Nat} {tm : TM} {k : List SI} {rd : Option Nat} {ms lk0 : List Nat} {o : Oper} {k' : List SI} {lk : List Nat} {fs : List Fr} {bl : Bls} :
    opF P K fn n tm k rd ms lk0 o k' lk fs bl = opS P K ⟨fn, n, tm, k, rd, ms, lk0⟩ o k' lk fs bl := by
  unfold opF opS
  rw [sopF_eq]
  dsimp only
  cases sop P tm bl lk o.op <;> rfl
theorem stepF_eq {P : Program} {K : KT} {pl : FuncId → Nat → Option Plan} {u : Bool} {c : Conf} : stepF P K pl u c = stp P K pl u (pre u c) := by
  obtain ⟨fs, bl⟩ := c
  cases fs with
  | nil => cases u <;> rfl
  | cons f fs =>
    obtain ⟨fn, n, tm, k, rd, ms, lk⟩ := f
    cases k with
    | nil => cases u <;> rfl
    | cons x k =>
      have hpre : isLp (x :: k) = false → pre u ⟨⟨fn, n, tm, x :: k, rd, ms, lk⟩ :: fs, bl⟩ = ⟨⟨fn, n, tm, x :: k, rd, ms, lk⟩ :: fs, bl⟩ := fun h => by
        cases u
        · rfl
        · simp only [pre, clean, h]
      cases x with
      | ops all os g =>
        rw [hpre rfl]
        cases os with
        | nil => rfl
        | cons o os =>
          show opsW P K fn n tm k rd ms lk fs bl all o os (wtS all n tm g o.guard) = (match wtS all n tm g o.guard with
            | .yes => opS P K ⟨fn, n, tm, .ops all (o :: os) (some true) :: k, rd, ms, lk⟩ o (.ops all os none :: k) lk fs bl
            | .no => .next true ⟨⟨fn, n, put n tm o.dst (.tup []), .ops all os none :: k, rd, ms, lk⟩ :: fs, bl⟩
            | .spl b want d => .split b ⟨⟨fn, n, (d, .v (.bool true)) :: tm, .ops all (o :: os) (some want) :: k, rd, ms, lk⟩ :: fs, bl⟩ ⟨⟨fn, n, (d, .v (.bool false)) :: tm, .ops all (o :: os) (some (!want)) :: k, rd, ms, lk⟩ :: fs, bl⟩
            | .bad => .stop)
          cases wtS all n tm g o.guard with
          | yes => exact opF_eq
          | _ => rfl
      | dr all plan A g =>
        rw [hpre rfl]
        cases plan with
        | nil => rfl
        | cons p rest =>
          obtain ⟨i, un⟩ := p
          show drO P K fn n tm k rd ms lk fs bl all i un rest A g (nth all.toList i) = drS P K ⟨fn, n, tm, .dr all ((i, un) :: rest) A g :: k, rd, ms, lk⟩ all ((i, un) :: rest) A g k fs bl
          unfold drS
          simp only
          cases nth all.toList i with
          | none => rfl
          | some o =>
            simp only [drO]
            cases wtS all n tm g o.guard with
            | yes =>
              simp only [drW]
              cases cls P o.op with
              | eff => exact opF_eq
              | pure => simp only [drC, popF_eq]; rfl
              | load => simp only [drC, popF_eq, lopF_eq]; rfl
            | _ => rfl
      | code c =>
        rw [hpre rfl]
        cases c with
        | cond c x y =>
          show condF fn n tm k rd ms lk fs bl x y (ev tm c) = (match ev tm c with
            | .v (.bool b) => .split b ⟨⟨fn, n, tm, .code x :: k, rd, ms, lk⟩ :: fs, bl⟩ ⟨⟨fn, n, tm, .code y :: k, rd, ms, lk⟩ :: fs, bl⟩
            | _ => .stop)
          cases ev tm c with
          | v x => cases x <;> rfl
          | _ => rfl
        | region id all draw => cases draw <;> rfl
        | loop c => cases u <;> rfl
        | _ => rfl
      | lp c => cases u <;> rfl
      | _ => rw [hpre rfl]; rfl
def runQ (P : Program) (K : KT) (pl : FuncId → Nat → Option Plan) : Nat → Conf → Option (AV × Bls)
  | 0, _ => none
  | n + 1, c => (match stepF P K pl true c with
    | .next vc c' => (match vc with
      | true => runQ P K pl n c'
      | false => none)
    | .split b c1 c2 => (match b with
      | true => runQ P K pl n c1
      | false => runQ P K pl n c2)
    | .fin vc r bl => (match vc with
      | true => some (r, bl)
      | false => none)
    | .stop => none)
theorem runQ_eq {P : Program} {K : KT} {pl : FuncId → Nat → Option Plan} : ∀ {n : Nat} {c : Conf}, runQ P K pl n c = runK P K pl n c
  | 0, _ => rfl
  | n + 1, c => by
    simp only [runQ, runK, stepF_eq, pre]
    cases stp P K pl true (clean c) with
    | next vc c' => cases vc with
      | true => exact runQ_eq
      | false => rfl
    | split b c1 c2 => cases b <;> exact runQ_eq
    | _ => rfl
end Go.SY
/-
  The symbolic machine: levels under other names.
-/
namespace Go.SY
open Go
mutual
def ren (ρ : Nat → Nat) : AV → AV
  | .ptr l i w k => .ptr (ρ l) i w k
  | .sl l i w n c => .sl (ρ l) i w n c
  | .mp l => .mp (ρ l)
  | .yld l => .yld (ρ l)
  | .fn f a b => .fn f (renL ρ a) (renL ρ b)
  | .agg xs => .agg (renL ρ xs)
  | .tup xs => .tup (renL ρ xs)
  | .imr t w rs c => .imr t w (renR ρ rs) c
  | .ip t row k => .ip t (renL ρ row) k
  | .v x => .v x
  | .nil => .nil
  | .imn t k xs c => .imn t k xs c
  | .ch n k xs => .ch n k xs
  | .any => .any
def renL (ρ : Nat → Nat) : List AV → List AV
  | [] => []
  | x :: r => ren ρ x :: renL ρ r
def renR (ρ : Nat → Nat) : List (List AV) → List (List AV)
  | [] => []
  | x :: r => renL ρ x :: renR ρ r
end
def tB (T t : Bool) : Bool := match t with
  | true => T
  | false => true
mutual
def lvB (N : Nat) (T : Bool) : AV → Bool
  | .ptr l _ _ _ => decide (l < N)
  | .sl l _ _ _ _ => decide (l < N)
  | .mp l => decide (l < N)
  | .yld l => decide (l < N)
  | .fn _ a b => lvL N T a && lvL N T b
  | .agg xs => lvL N T xs
  | .tup xs => lvL N T xs
  | .imr t _ rs _ => tB T t && lvR N T rs
  | .ip t row _ => tB T t && lvL N T row
  | .imn t _ _ _ => tB T t
  | .v _ => true
  | .nil => true
  | .ch _ _ _ => true
  | .any => true
def lvL (N : Nat) (T : Bool) : List AV → Bool
  | [] => true
  | x :: r => lvB N T x && lvL N T r
def lvR (N : Nat) (T : Bool) : List (List AV) → Bool
  | [] => true
  | x :: r => lvL N T x && lvR N T r
end
theorem renR_map (ρ : Nat → Nat) : ∀ xs : List (List AV), renR ρ xs = xs.map (renL ρ)
  | [] => rfl
  | x :: r => by simp [renR, renR_map ρ r]
theorem ren_scal (ρ : Nat → Nat) (x : AV) : (ren ρ x).scal = x.scal := by cases x <;> rfl
mutual
theorem ren_id : ∀ x : AV, ren (fun l => l) x = x
  | .ptr .. => rfl
  | .sl .. => rfl
  | .mp _ => rfl
  | .yld _ => rfl
  | .fn f a b => by simp only [ren, renL_id a, renL_id b]
  | .agg xs => by simp only [ren, renL_id xs]
  | .tup xs => by simp only [ren, renL_id xs]
  | .imr t w rs c => by simp only [ren, renR_id rs]
  | .ip t row k => by simp only [ren, renL_id row]
  | .v _ => rfl
  | .nil => rfl
  | .imn .. => rfl
  | .ch .. => rfl
  | .any => rfl
theorem renL_id : ∀ x : List AV, renL (fun l => l) x = x
  | [] => rfl
  | x :: r => by simp only [renL, ren_id x, renL_id r]
theorem renR_id : ∀ x : List (List AV), renR (fun l => l) x = x
  | [] => rfl
  | x :: r => by simp only [renR, renL_id x, renR_id r]
end
structure Tr (β β' : Env) (ρ σ : Nat → Nat) (N : Nat) (T : Bool) : Prop where
  b : ∀ l x, l < N → β.b[ρ l]? = some (some x) → β'.b[σ l]? = some (some x)
  z : ∀ i cs, β.z i = some cs → β'.z i = some cs
  y : T = true → ∀ i cs, β.y i = some cs → β'.y i = some cs
theorem Tr.cells {β β' : Env} {ρ σ : Nat → Nat} {N : Nat} {T : Bool} (h : Tr β β' ρ σ N T) {t : Bool} (ht : tB T t = true) {b o : Nat} {ys : List Value} (hc : Cells (β.fz t) b o ys) : Cells (β'.fz t) b o ys := by
  obtain ⟨cs, h1, h2⟩ := hc
  refine ⟨cs, ?_, h2⟩
  cases t with
  | true => exact h.y ht b cs h1
  | false => exact h.z b cs h1
mutual
theorem Den.ren {β β' : Env} {ρ σ : Nat → Nat} {N : Nat} {T : Bool} (h : Tr β β' ρ σ N T) : ∀ {x : AV} {v : Value}, lvB N T x = true → Den β (SY.ren ρ x) v → Den β' (SY.ren σ x) v
  | .v _, _, _, hd => by simpa only [SY.ren, Den] using hd
  | .nil, _, _, hd => by simpa only [SY.ren, Den] using hd
  | .ptr .., _, hl, hd => by
    simp only [lvB, decide_eq_true_eq] at hl
    simp only [SY.ren, Den] at hd ⊢
    obtain ⟨b, s, hb, e⟩ := hd
    exact ⟨b, s, h.b _ _ hl hb, e⟩
  | .sl .., _, hl, hd => by
    simp only [lvB, decide_eq_true_eq] at hl
    simp only [SY.ren, Den] at hd ⊢
    obtain ⟨A, q, e, h1, h2, h3, hc⟩ := hd
    refine ⟨A, q, e, h1, h2, h3, fun h0 => ?_⟩
    obtain ⟨b, s, hb, e⟩ := hc h0
    exact ⟨b, s, h.b _ _ hl hb, e⟩
  | .imn .., _, hl, hd => by
    simp only [lvB] at hl
    simp only [SY.ren, Den] at hd ⊢
    obtain ⟨A, q, e, h1, h2, h3, h4, hc⟩ := hd
    refine ⟨A, q, e, h1, h2, h3, h4, fun h0 => ?_⟩
    obtain ⟨b, o, e, hb⟩ := hc h0
    exact ⟨b, o, e, h.cells hl hb⟩
  | .imr .., _, hl, hd => by
    simp only [lvB, Bool.and_eq_true] at hl
    simp only [SY.ren, Den] at hd ⊢
    obtain ⟨A, q, ys, e, h1, h2, h3, h4, hc⟩ := hd
    rw [renR_map, List.length_map] at e h1 ⊢
    rw [← renR_map] at *
    refine ⟨A, q, ys, e, h1, h2, h3, DenR.ren h hl.2 h4, fun h0 => ?_⟩
    obtain ⟨b, o, e, hb⟩ := hc h0
    exact ⟨b, o, e, h.cells hl.1 hb⟩
  | .ip .., _, hl, hd => by
    simp only [lvB, Bool.and_eq_true] at hl
    simp only [SY.ren, Den] at hd ⊢
    obtain ⟨b, o, ys, e, h1, h2⟩ := hd
    exact ⟨b, o, ys, e, DenC.ren h hl.2 h1, h.cells hl.1 h2⟩
  | .mp .., _, hl, hd => by
    simp only [lvB, decide_eq_true_eq] at hl
    simp only [SY.ren, Den] at hd ⊢
    obtain ⟨b, s, hb, e⟩ := hd
    exact ⟨b, s, h.b _ _ hl hb, e⟩
  | .yld .., _, hl, hd => by
    simp only [lvB, decide_eq_true_eq] at hl
    simp only [SY.ren, Den] at hd ⊢
    obtain ⟨b, s, hb, e⟩ := hd
    exact ⟨b, s, h.b _ _ hl hb, e⟩
  | .fn f fst caps, _, hl, hd => by
    simp only [lvB, Bool.and_eq_true] at hl
    simp only [SY.ren, Den] at hd ⊢
    obtain ⟨xs, ys, e, h1, h2⟩ := hd
    exact ⟨xs, ys, e, DenL.ren h hl.1 h1, DenL.ren h hl.2 h2⟩
  | .agg xs, _, hl, hd => by
    simp only [lvB] at hl
    simp only [SY.ren, Den] at hd ⊢
    obtain ⟨ys, e, h1⟩ := hd
    exact ⟨ys, e, DenC.ren h hl h1⟩
  | .ch .., _, _, hd => by simpa only [SY.ren, Den] using hd
  | .tup xs, _, hl, hd => by
    simp only [lvB] at hl
    simp only [SY.ren, Den] at hd ⊢
    obtain ⟨ys, e, h1⟩ := hd
    exact ⟨ys, e, DenL.ren h hl h1⟩
  | .any, _, _, _ => by simp only [SY.ren, Den]
theorem DenL.ren {β β' : Env} {ρ σ : Nat → Nat} {N : Nat} {T : Bool} (h : Tr β β' ρ σ N T) : ∀ {x : List AV} {v : List Value}, lvL N T x = true → DenL β (renL ρ x) v → DenL β' (renL σ x) v
  | [], _, _, hd => by simpa only [renL, DenL] using hd
  | x :: r, _, hl, hd => by
    simp only [lvL, Bool.and_eq_true] at hl
    simp only [renL, DenL] at hd ⊢
    obtain ⟨y, zs, e, h1, h2⟩ := hd
    exact ⟨y, zs, e, Den.ren h hl.1 h1, DenL.ren h hl.2 h2⟩
theorem DenC.ren {β β' : Env} {ρ σ : Nat → Nat} {N : Nat} {T : Bool} (h : Tr β β' ρ σ N T) : ∀ {x : List AV} {v : List Value}, lvL N T x = true → DenC β (renL ρ x) v → DenC β' (renL σ x) v
  | [], _, _, hd => by simpa only [renL, DenC] using hd
  | x :: r, _, hl, hd => by
    simp only [lvL, Bool.and_eq_true] at hl
    simp only [renL] at hd ⊢
    rcases denC_case hd with ⟨hs, y, zs, rfl, h1, h2, h3⟩ | ⟨n, k, ns, he, zs, rfl, h1, h2, h3⟩
    · have hs' : (SY.ren σ x).scal = true := by rw [ren_scal] at hs ⊢; exact hs
      exact (denC_cons hs').2 ⟨y, zs, rfl, Den.ren h hl.1 h1, h2, DenC.ren h hl.2 h3⟩
    · have hx : x = .ch n k ns := by cases x <;> simp only [SY.ren] at he <;> first | exact he | cases he
      subst hx
      exact denC_ch.2 ⟨zs, rfl, h1, h2, DenC.ren h hl.2 h3⟩
theorem DenR.ren {β β' : Env} {ρ σ : Nat → Nat} {N : Nat} {T : Bool} (h : Tr β β' ρ σ N T) {w : Nat} : ∀ {x : List (List AV)} {v : List Value}, lvR N T x = true → DenR β w (renR ρ x) v → DenR β' w (renR σ x) v
  | [], _, _, hd => by simpa only [renR, DenR] using hd
  | x :: r, _, hl, hd => by
    simp only [lvR, Bool.and_eq_true] at hl
    simp only [renR, DenR] at hd ⊢
    obtain ⟨us, zs, e, h0, h1, h2⟩ := hd
    exact ⟨us, zs, e, h0, DenC.ren h hl.1 h1, DenR.ren h hl.2 h2⟩
end
def renT (ρ : Nat → Nat) : TM → TM
  | [] => []
  | (d, x) :: r => (d, ren ρ x) :: renT ρ r
def lvT (N : Nat) (T : Bool) : TM → Bool
  | [] => true
  | (_, x) :: r => lvB N T x && lvT N T r
theorem get_renT {ρ : Nat → Nat} : ∀ {tm : TM} {s : Nat}, get (renT ρ tm) s = ren ρ (get tm s)
  | [], _ => rfl
  | (d, x) :: r, s => by
    simp only [renT, get]
    split
    · rfl
    · exact get_renT
theorem lvT_get {N : Nat} {T : Bool} : ∀ {tm : TM} {s : Nat}, lvT N T tm = true → lvB N T (get tm s) = true
  | [], _, _ => rfl
  | (d, x) :: r, s, h => by
    simp only [lvT, Bool.and_eq_true] at h
    simp only [get]
    split
    · exact h.1
    · exact lvT_get h.2
theorem TmOk.ren {β β' : Env} {ρ σ : Nat → Nat} {N : Nat} {T : Bool} (h : Tr β β' ρ σ N T) {n : Nat} {tm : TM} {tmps : Array Value} (hl : lvT N T tm = true) (ht : TmOk β n (renT ρ tm) tmps) : TmOk β' n (renT σ tm) tmps :=
  ⟨ht.1, fun s => by rw [get_renT]; exact Den.ren h (lvT_get hl) (by rw [← get_renT]; exact ht.2 s)⟩
theorem renT_id : ∀ tm : TM, renT (fun l => l) tm = tm
  | [] => rfl
  | (d, x) :: r => by simp only [renT, ren_id, renT_id r]
def renE (ρ : Nat → Nat) : List (AV × AV) → List (AV × AV)
  | [] => []
  | (a, b) :: r => (ren ρ a, ren ρ b) :: renE ρ r
def lvE (N : Nat) (T : Bool) : List (AV × AV) → Bool
  | [] => true
  | (a, b) :: r => lvB N T a && (lvB N T b && lvE N T r)
def renCt (ρ : Nat → Nat) : Ct → Ct
  | .lit cs => .lit (renL ρ cs)
  | .num k xs => .num k xs
  | .rows w rs => .rows w (renR ρ rs)
  | .loop st pend fn n tm ps a b df => .loop st pend fn n (renT ρ tm) ps a b (ρ df)
  | .defs => .defs
  | .map es => .map (renE ρ es)
def lvCt (N : Nat) (T : Bool) : Ct → Bool
  | .lit cs => lvL N T cs
  | .num _ _ => true
  | .rows _ rs => lvR N T rs
  | .loop _ _ _ _ tm _ _ _ df => lvT N T tm && decide (df < N)
  | .defs => true
  | .map es => lvE N T es
theorem renCt_cell (ρ : Nat → Nat) (c : Ct) : (renCt ρ c).cell = c.cell := by cases c <;> rfl
theorem EsDen.ren {β β' : Env} {ρ σ : Nat → Nat} {N : Nat} {T : Bool} (h : Tr β β' ρ σ N T) : ∀ {xs : List (AV × AV)} {es : List MapEntry}, lvE N T xs = true → EsDen β (renE ρ xs) es → EsDen β' (renE σ xs) es
  | [], _, _, hd => hd
  | (a, b) :: r, _, hl, hd => by
    simp only [lvE, Bool.and_eq_true] at hl
    obtain ⟨e, q, he, h1, h2, h3⟩ := hd
    exact ⟨e, q, he, h1.ren h hl.1, h2.ren h hl.2.1, EsDen.ren h hl.2.2 h3⟩
theorem CsDen.ren {β β' : Env} {ρ σ : Nat → Nat} {N : Nat} {T : Bool} (h : Tr β β' ρ σ N T) {c : Ct} {ys : List Value} (hl : lvCt N T c = true) (hd : CsDen β (renCt ρ c) ys) : CsDen β' (renCt σ c) ys := by
  cases c with
  | lit cs => exact DenC.ren h hl hd
  | num k xs => exact hd
  | rows w rs => exact DenR.ren h hl hd
  | _ => exact hd.elim
theorem ObDen.ren {β β' : Env} {ρ σ : Nat → Nat} {N : Nat} {T : Bool} (h : Tr β β' ρ σ N T) (hck : β'.ck = β.ck) {c : Ct} {o : Obj} (hl : lvCt N T c = true) (hd : ObDen β (renCt ρ c) o) : ObDen β' (renCt σ c) o := by
  cases c with
  | loop st pend fn n tm ps a b df =>
    simp only [lvCt, Bool.and_eq_true, decide_eq_true_eq] at hl
    obtain ⟨tmps, b', s, e, h1, h2, h3⟩ := hd
    exact ⟨tmps, b', s, e, h1.ren h hl.1, h.b _ _ hl.2 h2, by rw [hck]; exact h3⟩
  | defs => exact hd
  | map es =>
    obtain ⟨ms, c, e, h1⟩ := hd
    exact ⟨ms, c, e, h1.ren h hl⟩
  | _ => exact hd.elim
theorem spk_ren (ρ : Nat → Nat) (c : Ct) : spk (renCt ρ c) = spk c := by cases c <;> rfl
theorem spz_ren (ρ : Nat → Nat) (c : Ct) : spz (renCt ρ c) = spz c := by cases c <;> rfl
theorem CtIn.ren {β β' : Env} {ρ σ : Nat → Nat} {N : Nat} {T : Bool} (h : Tr β β' ρ σ N T) (hck : β'.ck = β.ck) {w : World} {base : Option (Nat × Nat)} {c : Ct} (hl : lvCt N T c = true) (hd : CtIn β w base (renCt ρ c)) : CtIn β' w base (renCt σ c) := by
  unfold CtIn at *
  cases base with
  | none => exact CsDen.ren h hl hd
  | some p =>
    obtain ⟨b, s⟩ := p
    simp only [renCt_cell] at hd ⊢
    rcases hd with ⟨h1, ys, sp, T', fz, h2, h3, h4, h5⟩ | ⟨h1, o, h2, h3⟩
    · exact .inl ⟨h1, ys, sp, T', fz, h2, h3, h4.ren h hl, by rw [spk_ren, spz_ren] at h5 ⊢; exact h5⟩
    · exact .inr ⟨h1, o, h2, h3.ren h hck hl⟩
end Go.SY
/-
  The symbolic machine: a function's word, told apart from where it is called.
-/
namespace Go.SY
open Go
def nm (R : List Nat) (l : Nat) : Nat := R.getD l 0
def Res (r : AV) (bl1 : Bls) (r' : AV) (bl' : Bls) : Prop := ∃ R : List Nat, R.Nodup ∧ R.length = bl1.length ∧ r' = ren (nm R) r ∧ ∀ l c, bl1[l]? = some (some c) → bl'[nm R l]? = some (some (renCt (nm R) c))
theorem nodup_inj : ∀ {R : List Nat}, R.Nodup → ∀ {i j : Nat} (hi : i < R.length) (hj : j < R.length), R[i] = R[j] → i = j
  | [], _, i, _, hi, _, _ => absurd hi (Nat.not_lt_zero _)
  | x :: R, h, 0, 0, _, _, _ => rfl
  | x :: R, h, 0, j + 1, _, hj, e => by
    have hx := (List.nodup_cons.1 h).1
    simp only [List.getElem_cons_zero, List.getElem_cons_succ] at e
    exact absurd (by rw [e]; exact List.getElem_mem _) hx
  | x :: R, h, i + 1, 0, hi, _, e => by
    have hx := (List.nodup_cons.1 h).1
    simp only [List.getElem_cons_zero, List.getElem_cons_succ] at e
    exact absurd (by rw [← e]; exact List.getElem_mem _) hx
  | x :: R, h, i + 1, j + 1, hi, hj, e => by
    simp only [List.getElem_cons_succ] at e
    have := nodup_inj (List.nodup_cons.1 h).2 (by simpa using hi) (by simpa using hj) e
    omega
def SpecOk (P : Program) (pl : FuncId → Nat → Option Plan) (g : FuncId) (spec : List AV → Option (Bool × AV × Bls)) : Prop := ∃ F, fi P g = some F ∧ ∀ args r bl1, spec args = some (true, r, bl1) → args.length ≤ F.n ∧
  ∀ C : Ctx, C.β.b = [] → C.bl = [] → Rch P pl C (conf0 g F args []) (Res r bl1)
open Classical in
noncomputable def lendE (β : Env) (bl : Bls) (w : World) : Env where
  b := []
  z := β.z
  y := fun b => match β.y b with
    | some cs => some cs
    | none => if Owned β bl b then (match w.heap[b]? with
      | some (.cells cs _ _) => some cs
      | _ => none) else none
  ck := β.ck
def lnd (bl : Bls) (x : AV) : Option (Bool × AV) := match lvB 0 true x with
  | true => some (true, x)
  | false => (match x with
    | .sl l i w n c => (match lvl bl l with
      | some (.num k xs) => if w = 1 then some (decide (i + n ≤ xs.length), .imn true k ((xs.drop i).take n) c) else none
      | some (.rows w' rs) => if w' = w then some (decide (i + n ≤ rs.length) && lvR 0 true rs, .imr true w ((rs.drop i).take n) c) else none
      | _ => none)
    | .ptr l i w k => (match lvl bl l with
      | some (.lit cs) => some (lvL 0 true cs, .ip true cs (i * w + k))
      | _ => none)
    | _ => none)
def lndL (bl : Bls) : List AV → Option (Bool × List AV)
  | [] => some (true, [])
  | x :: r => (match lnd bl x with
    | some (v1, y) => (match lndL bl r with
      | some (v2, ys) => some (v1 && v2, y :: ys)
      | none => none)
    | none => none)
section
variable {β : Env} {bl : Bls} {w : World}
theorem lend_heap (h : Heap β bl w) : Heap (lendE β bl w) [] w := by
  refine ⟨rfl, fun l c h => by simp at h, fun l l' c c' b s s' _ h => by simp at h, fun t b cs hz => ⟨?_, fun ⟨l, c, s, hl, _⟩ => by simp at hl⟩⟩
  cases t with
  | false => exact (h.frz false b cs hz).1
  | true =>
    simp only [Env.fz, lendE] at hz
    split at hz
    · rename_i cs' e
      obtain rfl := Option.some.inj hz
      exact (h.frz true b cs' e).1
    · split at hz
      · split at hz
        · rename_i cs' T fz e
          obtain rfl := Option.some.inj hz
          exact ⟨T, fz, e⟩
        · cases hz
      · cases hz
theorem lend_tr : Tr β (lendE β bl w) (fun l => l) (fun l => l) 0 true :=
  ⟨fun _ _ h => absurd h (Nat.not_lt_zero _), fun _ _ h => h, fun _ i cs h => by simp only [lendE, h]⟩
theorem lend_free {x : AV} {v : Value} (hl : lvB 0 true x = true) (hd : Den β x v) : Den (lendE β bl w) x v := by
  have := Den.ren (lend_tr (bl := bl) (w := w)) hl (by rw [ren_id]; exact hd)
  rwa [ren_id] at this
theorem lend_freeR {n : Nat} {x : List (List AV)} {v : List Value} (hl : lvR 0 true x = true) (hd : DenR β n x v) : DenR (lendE β bl w) n x v := by
  have := DenR.ren (lend_tr (bl := bl) (w := w)) hl (by rw [renR_id]; exact hd)
  rwa [renR_id] at this
theorem lend_freeC {x : List AV} {v : List Value} (hl : lvL 0 true x = true) (hd : DenC β x v) : DenC (lendE β bl w) x v := by
  have := DenC.ren (lend_tr (bl := bl) (w := w)) hl (by rw [renL_id]; exact hd)
  rwa [renL_id] at this
theorem lvR_drop {N : Nat} {T : Bool} : ∀ {rs : List (List AV)} (i : Nat), lvR N T rs = true → lvR N T (rs.drop i) = true
  | [], i, _ => by cases i <;> rfl
  | r :: rs, 0, h => h
  | r :: rs, i + 1, h => by
    simp only [lvR, Bool.and_eq_true] at h
    simpa using lvR_drop i h.2
theorem lvR_take {N : Nat} {T : Bool} : ∀ {rs : List (List AV)} (i : Nat), lvR N T rs = true → lvR N T (rs.take i) = true
  | [], i, _ => by cases i <;> rfl
  | r :: rs, 0, h => rfl
  | r :: rs, i + 1, h => by
    simp only [lvR, Bool.and_eq_true] at h
    simp only [List.take_succ_cons, lvR, Bool.and_eq_true]
    exact ⟨h.1, lvR_take i h.2⟩
theorem lend_y (h : Heap β bl w) {l b s : Nat} {c : Ct} {cs : Array Value} {T : TypeId} {fz : Nat × Nat} (hl : lvl bl l = some c) (hb : β.b[l]? = some (some (b, s))) (hg : w.heap[b]? = some (.cells cs T fz)) : (lendE β bl w).fz true b = some cs := by
  have ho : Owned β bl b := ⟨l, c, s, lvl_get hl, hb⟩
  have hn : β.y b = none := by
    cases e : β.y b with
    | none => rfl
    | some cs' => exact absurd ho (h.frz true b cs' e).2
  simp only [Env.fz, lendE, hn, if_pos ho, hg]
theorem lnd_den (h : Heap β bl w) {x x' : AV} {v : Value} (hd : Den β x v) (hl : lnd bl x = some (true, x')) : Den (lendE β bl w) x' v := by
  unfold lnd at hl
  split at hl
  · rename_i e
    simp only [Option.some.injEq, Prod.mk.injEq, true_and] at hl
    subst hl
    exact lend_free e hd
  · split at hl
    · rename_i l i w' n c _
      simp only [Den] at hd
      obtain ⟨A, q, rfl, h1, h2, h3, h4⟩ := hd
      split at hl
      · rename_i k xs hlv
        split at hl
        · rename_i hw
          subst hw
          simp only [Option.some.injEq, Prod.mk.injEq, decide_eq_true_eq] at hl
          obtain ⟨hfit, rfl⟩ := hl
          have hlen : ((xs.drop i).take n).length = n := by simp; omega
          obtain ⟨base, e, hin⟩ := h.lv l _ (lvl_get hlv)
          simp only [Den]
          refine ⟨A, q, by rw [hlen], by rw [hlen]; exact h1, h2, h3, ?_, fun hq => ?_⟩
          · have hok : okN k xs := by
              unfold CtIn at hin
              cases base with
              | none => exact hin.2
              | some p =>
                obtain ⟨b, s⟩ := p
                rcases hin with ⟨-, ys, sp, T, fz, -, -, hc, -⟩ | ⟨hc, -⟩
                · exact hc.2
                · cases hc
            exact okN_take (okN_drop hok _) _
          · obtain ⟨b, s, hb, rfl, hs⟩ := h4 hq
            obtain ⟨ys, sp, T, fz, hg, hsz, hc, -⟩ := heap_cells h hlv hb rfl
            refine ⟨b, i * 1, rfl, _, lend_y h hlv hb hg, fun j v hj => ?_⟩
            simp only [CsDen] at hc
            rw [hc.1]
            rw [List.map_take, List.map_drop, List.getElem?_take] at hj
            split at hj
            · rw [List.getElem?_drop] at hj
              simp only [List.getElem?_toArray, Nat.mul_one]
              rw [List.getElem?_append_left (List.getElem?_eq_some_iff.1 hj).1]; exact hj
            · cases hj
        · cases hl
      · rename_i w2 rs hlv
        split at hl
        · rename_i hw
          subst hw
          simp only [Option.some.injEq, Prod.mk.injEq, Bool.and_eq_true, decide_eq_true_eq] at hl
          obtain ⟨⟨hfit, hfree⟩, rfl⟩ := hl
          have hlen : ((rs.drop i).take n).length = n := by simp; omega
          obtain ⟨base, e, hin⟩ := h.lv l _ (lvl_get hlv)
          obtain ⟨ys, hys, hplace⟩ : ∃ ys, DenR β w2 rs ys ∧ ∀ b s, β.b[l]? = some (some (b, s)) → ∃ sp T fz, w.heap[b]? = some (.cells (ys ++ sp).toArray T fz) := by
            unfold CtIn at hin
            cases base with
            | none => exact ⟨[], hin, fun b s hb => by rw [hb] at e; cases e⟩
            | some p =>
              obtain ⟨b, s⟩ := p
              rcases hin with ⟨-, ys, sp, T, fz, hg, -, hc, -⟩ | ⟨hc, -⟩
              · refine ⟨ys, hc, fun b' s' hb => ?_⟩
                rw [hb] at e
                simp only [Option.some.injEq, Prod.mk.injEq] at e
                obtain ⟨rfl, rfl⟩ := e
                exact ⟨sp, T, fz, hg⟩
              · cases hc
          have hden := lend_freeR (bl := bl) (w := w) (lvR_take n (lvR_drop i hfree)) (denR_take n (denR_drop i hys))
          simp only [Den]
          refine ⟨A, q, _, by rw [hlen], by rw [hlen]; exact h1, h2, h3, hden, fun hq => ?_⟩
          obtain ⟨b, s, hb, rfl, hs⟩ := h4 hq
          obtain ⟨sp, T, fz, hg⟩ := hplace b s hb
          refine ⟨b, i * w2, rfl, _, lend_y h hlv hb hg, fun j v hj => ?_⟩
          rw [List.getElem?_take] at hj
          split at hj
          · rw [List.getElem?_drop] at hj
            simp only [List.getElem?_toArray]
            rw [List.getElem?_append_left (List.getElem?_eq_some_iff.1 hj).1]; exact hj
          · cases hj
        · cases hl
      · cases hl
    · rename_i l i w' k _
      simp only [Den] at hd
      obtain ⟨b, s, hb, rfl⟩ := hd
      split at hl
      · rename_i cs hlv
        simp only [Option.some.injEq, Prod.mk.injEq] at hl
        obtain ⟨hfree, rfl⟩ := hl
        obtain ⟨ys, sp, T, fz, hg, hsz, hc, -⟩ := heap_cells h hlv hb rfl
        simp only [Den]
        refine ⟨b, 0, ys, by rw [Nat.zero_add], lend_freeC hfree hc, _, lend_y h hlv hb hg, fun j v hj => ?_⟩
        simp only [List.getElem?_toArray, Nat.zero_add]
        rw [List.getElem?_append_left (List.getElem?_eq_some_iff.1 hj).1]; exact hj
      · cases hl
    · cases hl
theorem lndL_den (h : Heap β bl w) : ∀ {xs xs' : List AV} {vs : List Value}, DenL β xs vs → lndL bl xs = some (true, xs') → DenL (lendE β bl w) xs' vs
  | [], xs', vs, hd, hl => by
    simp only [lndL, Option.some.injEq, Prod.mk.injEq, true_and] at hl
    subst hl
    simpa only [DenL] using hd
  | x :: r, xs', vs, hd, hl => by
    simp only [lndL] at hl
    split at hl
    · rename_i v1 y e1
      split at hl
      · rename_i v2 ys e2
        simp only [Option.some.injEq, Prod.mk.injEq, Bool.and_eq_true] at hl
        obtain ⟨⟨rfl, rfl⟩, rfl⟩ := hl
        simp only [DenL] at hd ⊢
        obtain ⟨u, us, rfl, h1, h2⟩ := hd
        exact ⟨u, us, rfl, lnd_den h h1 e1, lndL_den h h2 e2⟩
      · cases hl
    · cases hl
end
def okBls (N : Nat) : Bls → Bool
  | [] => true
  | none :: r => okBls N r
  | some c :: r => c.cell && (lvCt N false c && okBls N r)
def shB (d : Nat) : Bls → Bls
  | [] => []
  | none :: r => none :: shB d r
  | some c :: r => some (renCt (d + ·) c) :: shB d r
theorem okBls_at {N : Nat} : ∀ {bl : Bls} {l : Nat} {c : Ct}, okBls N bl = true → bl[l]? = some (some c) → c.cell = true ∧ lvCt N false c = true
  | [], _, _, _, h => by simp at h
  | none :: r, 0, _, _, h => by simp at h
  | none :: r, l + 1, c, hk, h => okBls_at (bl := r) hk (by simpa using h)
  | some c0 :: r, 0, c, hk, h => by
    simp only [okBls, Bool.and_eq_true] at hk
    simp at h
    subst h
    exact ⟨hk.1, hk.2.1⟩
  | some c0 :: r, l + 1, c, hk, h => by
    simp only [okBls, Bool.and_eq_true] at hk
    exact okBls_at (bl := r) hk.2.2 (by simpa using h)
theorem shB_len {d : Nat} : ∀ {bl : Bls}, (shB d bl).length = bl.length
  | [] => rfl
  | none :: r => by simp [shB, shB_len]
  | some c :: r => by simp [shB, shB_len]
theorem shB_at {d : Nat} : ∀ {bl : Bls} {l : Nat} {c : Ct}, (shB d bl)[l]? = some (some c) → ∃ c0, bl[l]? = some (some c0) ∧ c = renCt (d + ·) c0
  | [], _, _, h => by simp [shB] at h
  | none :: r, 0, _, h => by simp [shB] at h
  | none :: r, l + 1, c, h => by simpa using shB_at (bl := r) (l := l) (by simpa [shB] using h)
  | some c0 :: r, 0, c, h => by
    simp [shB] at h
    exact ⟨c0, by simp, h.symm⟩
  | some c0 :: r, l + 1, c, h => by simpa using shB_at (bl := r) (l := l) (by simpa [shB] using h)
def conK (spec : List AV → Option (Bool × AV × Bls)) (args : List AV) (bl : Bls) : Option (Bool × AV × Bls) := match lndL bl args with
  | some (v1, as) => (match spec as with
    | some (v2, r, bl1) => some (v1 && (v2 && (lvB bl1.length false r && okBls bl1.length bl1)), ren (bl.length + ·) r, bl ++ shB bl.length bl1)
    | none => none)
  | none => none
theorem conK_ok {P : Program} {pl : FuncId → Nat → Option Plan} (hpl : PlOk P pl) {g : FuncId} {spec : List AV → Option (Bool × AV × Bls)} (hs : SpecOk P pl g spec) :
    (∃ F, fi P g = some F) ∧ ∀ args bl r bl', conK spec args bl = some (true, r, bl') → Kl bl bl' ∧
  ∀ (β : Env) (w : World) (vs : List Value) (cs : List Frame), Heap β bl w → β.ck = Ck P pl → DenL β args vs →
    ∃ v fr β' w', Steps P (lone (Frame.enter P g vs.toArray .normal) cs w) (lone fr cs w') ∧ fr.leaving P w' (.returned v) ∧ Den β' r v ∧ Ext β bl w β' bl' w' := by
  obtain ⟨F, hF, hs⟩ := hs
  refine ⟨⟨F, hF⟩, fun args bl r0 bl0 hc => ⟨?_, fun β w vs cs hh hck hd => ?_⟩⟩
  · unfold conK at hc
    split at hc
    · split at hc
      · simp only [Option.some.injEq, Prod.mk.injEq] at hc
        rw [← hc.2.2]
        exact (Kll.refl bl).app _
      · cases hc
    · cases hc
  unfold conK at hc
  split at hc
  · rename_i v1 as e1
    split at hc
    · rename_i v2 r bl1 e2
      simp only [Option.some.injEq, Prod.mk.injEq, Bool.and_eq_true] at hc
      obtain ⟨⟨rfl, rfl, hlr, hok⟩, rfl, rfl⟩ := hc
      obtain ⟨hn, hrch⟩ := hs as r bl1 e2
      have hd0 := lndL_den hh hd e1
      have hh0 := lend_heap hh
      have run := hrch ⟨lendE β bl w, [], w, cs, g⟩ rfl rfl (lendE β bl w) (lone (Frame.enter P g vs.toArray .normal) cs w)
        ⟨⟨_, [], _, [], w, rfl, rfl, enter_ok hF (hpl.ck g F hF) hck hd0 hn, rfl, .refl hh0⟩, rfl, hck⟩
      obtain ⟨v, fr, β1, r'', bl'', w', h1, h2, h3, h4, h5, R, hR1, hR2, rfl, hR3⟩ := run
      have h5 : Ext (lendE β bl w) [] w β1 bl'' w' := h5
      have kept : ∀ b, b < w.heap.size → w'.heap[b]? = w.heap[b]? := fun b hb => h5.step.kept b hb fun ⟨l, c, s, hl, _⟩ => by simp at hl
      have new : ∀ b, Owned β1 bl'' b → w.heap.size ≤ b := fun b hb => (h5.own b hb).resolve_left fun ⟨l, c, s, hl, _⟩ => by simp at hl
      let β2 : Env := { b := β.b ++ R.map (fun x => (β1.b[x]?).join), z := β1.z, y := β.y, ck := β.ck }
      have hlen := hh.len
      have le : β.le β2 := ⟨List.prefix_append _ _, fun i cs hz => h5.le.z i cs hz, fun i cs hy => hy, rfl⟩
      have gold : ∀ {m : Nat} {x}, m < bl.length → (β2.b[m]? = some x ↔ β.b[m]? = some x) := fun {m x} hm => by
        show (β.b ++ _)[m]? = some x ↔ _
        rw [List.getElem?_append_left (by omega)]
      have gnew : ∀ j : Nat, j < bl1.length → β2.b[bl.length + j]? = some ((β1.b[nm R j]?).join) := fun j hj => by
        show (β.b ++ _)[_]? = _
        rw [List.getElem?_append_right (by omega), hlen, Nat.add_sub_cancel_left, List.getElem?_map, List.getElem?_eq_getElem (by omega)]
        simp [nm, List.getD_eq_getElem?_getD, List.getElem?_eq_getElem (show j < R.length by omega)]
      have tr : Tr β1 β2 (nm R) (bl.length + ·) bl1.length false :=
        ⟨fun l x hl hb => by show β2.b[bl.length + l]? = _; rw [gnew l hl, hb]; rfl, fun i cs hz => hz, fun h => by cases h⟩
      have hckE : β2.ck = β1.ck := by rw [h5.le.ck]; rfl
      have split : ∀ {m : Nat} {c : Ct}, (bl ++ shB bl.length bl1)[m]? = some (some c) → (m < bl.length ∧ bl[m]? = some (some c)) ∨ ∃ j c0, m = bl.length + j ∧ j < bl1.length ∧ bl1[j]? = some (some c0) ∧ c = renCt (bl.length + ·) c0 := by
        intro m c hm
        by_cases hlt : m < bl.length
        · rw [List.getElem?_append_left hlt] at hm; exact .inl ⟨hlt, hm⟩
        · rw [List.getElem?_append_right (by omega)] at hm
          obtain ⟨c0, h6, h7⟩ := shB_at hm
          exact .inr ⟨m - bl.length, c0, by omega, (List.getElem?_eq_some_iff.1 h6).1, h6, h7⟩
      have own2 : ∀ b, Owned β2 (bl ++ shB bl.length bl1) b → Owned β bl b ∨ Owned β1 bl'' b := by
        rintro b ⟨m, c, s, hm, hb⟩
        rcases split hm with ⟨hlt, h0⟩ | ⟨j, c0, rfl, hj, h0, rfl⟩
        · exact .inl ⟨m, c, s, h0, (gold hlt).1 hb⟩
        · right
          rw [gnew j hj] at hb
          refine ⟨nm R j, _, s, hR3 j c0 h0, ?_⟩
          cases e : β1.b[nm R j]? with
          | none => rw [e] at hb; cases hb
          | some y => rw [e] at hb; simpa using hb
      refine ⟨v, fr, β2, w', h1, h3, Den.ren tr hlr h4, le, ⟨?_, fun m c hm => ?_, fun m m' c c' b s s' hne hm hm' hb hb' => ?_, fun t b cs' hz => ?_⟩, h5.step.mono fun b ⟨l, c, s, hl, _⟩ => by simp at hl, fun b hb => (own2 b hb).imp_right (new b), fun b cs' hz => ?_, rfl⟩
      · show (β.b ++ _).length = _
        simp [hlen, shB_len, hR2]
      · rcases split hm with ⟨hlt, h0⟩ | ⟨j, c0, rfl, hj, h0, rfl⟩
        · obtain ⟨base, e, hin⟩ := hh.lv m c h0
          refine ⟨base, (gold hlt).2 e, (hin.mono le).same fun b s hb => ?_⟩
          subst hb
          exact kept b (hh.lt h0 e)
        · obtain ⟨base, e, hin⟩ := h5.heap.lv _ _ (hR3 j c0 h0)
          refine ⟨base, by rw [gnew j hj, e]; rfl, hin.ren tr hckE (okBls_at hok h0).2⟩
      · rcases split hm with ⟨l1, g1⟩ | ⟨j, c0, rfl, hj, g1, rfl⟩ <;> rcases split hm' with ⟨l2, g2⟩ | ⟨j', c0', rfl, hj', g2, rfl⟩
        · exact hh.sep m m' c c' b s s' hne g1 g2 ((gold l1).1 hb) ((gold l2).1 hb')
        · have a1 := hh.lt g1 ((gold l1).1 hb)
          have a2 := new b (by
            rw [gnew j' hj'] at hb'
            refine ⟨nm R j', _, s', hR3 j' c0' g2, ?_⟩
            cases e : β1.b[nm R j']? with
            | none => rw [e] at hb'; cases hb'
            | some y => rw [e] at hb'; simpa using hb')
          omega
        · have a1 := hh.lt g2 ((gold l2).1 hb')
          have a2 := new b (by
            rw [gnew j hj] at hb
            refine ⟨nm R j, _, s, hR3 j c0 g1, ?_⟩
            cases e : β1.b[nm R j]? with
            | none => rw [e] at hb; cases hb
            | some y => rw [e] at hb; simpa using hb)
          omega
        · have e1 : β1.b[nm R j]? = some (some (b, s)) := by
            rw [gnew j hj] at hb
            cases e : β1.b[nm R j]? with
            | none => rw [e] at hb; cases hb
            | some y => rw [e] at hb; simpa using hb
          have e2 : β1.b[nm R j']? = some (some (b, s')) := by
            rw [gnew j' hj'] at hb'
            cases e : β1.b[nm R j']? with
            | none => rw [e] at hb'; cases hb'
            | some y => rw [e] at hb'; simpa using hb'
          refine h5.heap.sep _ _ _ _ b s s' (fun e => ?_) (hR3 j c0 g1) (hR3 j' c0' g2) e1 e2
          have : j = j' := by
            have hj1 : j < R.length := by omega
            have hj2 : j' < R.length := by omega
            simp only [nm, List.getD_eq_getElem?_getD, List.getElem?_eq_getElem hj1, List.getElem?_eq_getElem hj2, Option.getD_some] at e
            exact nodup_inj hR1 hj1 hj2 e
          exact hne (by rw [this])
      · cases t with
        | false =>
          refine ⟨(h5.heap.frz false b cs' hz).1, fun ho => ?_⟩
          rcases own2 b ho with ho | ho
          · rcases h5.zn b cs' hz with h6 | ⟨l, c, s, hl, _⟩ | h6
            · exact (hh.frz false b cs' h6).2 ho
            · simp at hl
            · have := ho.lt hh; omega
          · exact (h5.heap.frz false b cs' hz).2 ho
        | true =>
          have hz' : β.fz true b = some cs' := hz
          obtain ⟨⟨T, fz, hg⟩, hno⟩ := hh.frz true b cs' hz'
          have hlt := hh.frz_lt hz'
          refine ⟨⟨T, fz, by rw [kept b hlt]; exact hg⟩, fun ho => ?_⟩
          rcases own2 b ho with ho | ho
          · exact hno ho
          · have := new b ho; omega
      · rcases h5.zn b cs' hz with h6 | ⟨l, c, s, hl, _⟩ | h6
        · exact .inl h6
        · simp at hl
        · exact .inr (.inr h6)
    · cases hc
  · cases hc
def ktOf (L : List (FuncId × (List AV → Option (Bool × AV × Bls)))) (g : FuncId) : Option (List AV → Bls → Option (Bool × AV × Bls)) := match L with
  | [] => none
  | (k, s) :: r => if k = g then some (conK s) else ktOf r g
theorem ktOf_ok {P : Program} {pl : FuncId → Nat → Option Plan} (hpl : PlOk P pl) : ∀ {L : List (FuncId × (List AV → Option (Bool × AV × Bls)))}, (∀ x ∈ L, SpecOk P pl x.1 x.2) → KOk P pl (ktOf L)
  | [], _ => fun g c h => by simp [ktOf] at h
  | (k, s) :: r, h => fun g c hc => by
    simp only [ktOf] at hc
    split at hc
    · rename_i e
      subst e
      obtain rfl := Option.some.inj hc
      exact .inr (KOne.ok (conK_ok hpl (h (k, s) (by simp))))
    · exact ktOf_ok hpl (fun x hx => h x (by simp [hx])) g c hc
end Go.SY
/-
  The symbolic machine: runs told by hand: steps one after another; states under other names; closed runs with contracts.
-/
namespace Go.SY
open Go Go.RowKit
def bsplit (b : Bool) (X Y : Prop) : Prop := (b = true → X) ∧ (b = false → Y)
theorem bsplit_true {X Y : Prop} : bsplit true X Y = X := by simp [bsplit]
theorem bsplit_false {X Y : Prop} : bsplit false X Y = Y := by simp [bsplit]
def Ex (P : Program) (K : KT) (pl : FuncId → Nat → Option Plan) : Nat → Conf → (AV → Bls → Prop) → (Conf → Prop) → Prop
  | 0, c, _, R => R c
  | n + 1, c, S, R => (match stepF P K pl false c with
    | .next vc c' => vc = true ∧ Ex P K pl n c' S R
    | .split b c1 c2 => bsplit b (Ex P K pl n c1 S R) (Ex P K pl n c2 S R)
    | .fin vc r bl => vc = true ∧ S r bl
    | .stop => R c)
theorem Rch.loop {P : Program} {pl : FuncId → Nat → Option Plan} (hpl : PlOk P pl) {C : Ctx} {S : AV → Bls → Prop} {fn : FuncId} {n : Nat} {tm : TM} {c : Code} {k : List SI} {rd : Option Nat} {ms lk : List Nat} {fs : List Fr} {bl : Bls}
    (h : Rch P pl C ⟨⟨fn, n, tm, .code c :: .lp c :: k, rd, ms, lk⟩ :: fs, bl⟩ S) : Rch P pl C ⟨⟨fn, n, tm, .code (.loop c) :: k, rd, ms, lk⟩ :: fs, bl⟩ S := by
  have hok := stp_ok (P := P) (pl := pl) (K := fun _ => none) (C := C) hpl (fun g c h => by cases h) true ⟨⟨fn, n, tm, .code (.loop c) :: k, rd, ms, lk⟩ :: fs, bl⟩
  exact To.rch (hok rfl) h
theorem Rch.round {P : Program} {pl : FuncId → Nat → Option Plan} (hpl : PlOk P pl) {C : Ctx} {S : AV → Bls → Prop} {fn : FuncId} {n : Nat} {tm : TM} {c : Code} {k : List SI} {rd : Option Nat} {ms lk : List Nat} {fs : List Fr} {bl : Bls}
    (h : Rch P pl C ⟨⟨fn, n, tm, .code c :: .lp c :: k, rd, ms, lk⟩ :: fs, bl⟩ S) : Rch P pl C ⟨⟨fn, n, tm, .lp c :: k, rd, ms, lk⟩ :: fs, bl⟩ S := by
  have hok := stp_ok (P := P) (pl := pl) (K := fun _ => none) (C := C) hpl (fun g c h => by cases h) true ⟨⟨fn, n, tm, .lp c :: k, rd, ms, lk⟩ :: fs, bl⟩
  exact To.rch (hok rfl) h
def renSI (ρ : Nat → Nat) : SI → SI
  | .rf l => .rf (ρ l)
  | .erf l => .erf (ρ l)
  | x => x
def okSI (N : Nat) : SI → Bool
  | .rf l => decide (l < N)
  | .erf l => decide (l < N)
  | .dr _ _ _ _ => false
  | .ops _ _ (some _) => false
  | _ => true
def fitT (ρ : Nat → Nat) (tm : TM) : TM → Prop
  | [] => True
  | (s, x) :: r => get tm s = ren ρ x ∧ fitT ρ tm r
structure FitF (ρ : Nat → Nat) (N : Nat) (f f' : Fr) : Prop where
  fn : f.fn = f'.fn
  n : f.n = f'.n
  tm : fitT ρ f.tm f'.tm
  lt : lvT N true f'.tm = true
  k : f.k = f'.k.map (renSI ρ)
  ok : f'.k.all (okSI N) = true
  rd : f.rd = f'.rd.map ρ
  rl : ∀ l, f'.rd = some l → l < N
  ms : f.ms = f'.ms.map ρ
  ml : f'.ms.all (fun l => decide (l < N)) = true
  lk : f.lk = []
  lk' : f'.lk = []
def FitFs (ρ : Nat → Nat) (N : Nat) : List Fr → List Fr → Prop
  | [], fs' => fs' = []
  | f :: fs, fs' => ∃ f' fs2, fs' = f' :: fs2 ∧ FitF ρ N f f' ∧ FitFs ρ N fs fs2
def FitB (ρ : Nat → Nat) (N : Nat) (bl : Bls) : Nat → Bls → Prop
  | _, [] => True
  | i, none :: r => FitB ρ N bl (i + 1) r
  | i, some c :: r => (lvl bl (ρ i) = some (renCt ρ c) ∧ lvCt N true c = true) ∧ FitB ρ N bl (i + 1) r
structure Fit (R : List Nat) (c c' : Conf) : Prop where
  nd : R.Nodup
  len : R.length = c'.bl.length
  fs : FitFs (nm R) c'.bl.length c.fs c'.fs
  bl : FitB (nm R) c'.bl.length c.bl 0 c'.bl
theorem fitB_at {ρ : Nat → Nat} {N : Nat} {bl : Bls} : ∀ {bl' : Bls} {i l : Nat} {c : Ct}, FitB ρ N bl i bl' → bl'[l]? = some (some c) → lvl bl (ρ (i + l)) = some (renCt ρ c) ∧ lvCt N true c = true
  | [], _, _, _, _, h => by simp at h
  | none :: r, i, 0, _, _, h => by simp at h
  | none :: r, i, l + 1, c, hf, h => by
    have := fitB_at (l := l) (c := c) (bl' := r) (i := i + 1) hf (by simpa using h)
    rwa [show i + 1 + l = i + (l + 1) by omega] at this
  | some c0 :: r, i, 0, c, hf, h => by
    simp at h; subst h; exact hf.1
  | some c0 :: r, i, l + 1, c, hf, h => by
    have := fitB_at (l := l) (c := c) (bl' := r) (i := i + 1) hf.2 (by simpa using h)
    rwa [show i + 1 + l = i + (l + 1) by omega] at this
theorem fitT_get {ρ : Nat → Nat} {tm : TM} : ∀ {tm' : TM} {s : Nat}, fitT ρ tm tm' → get tm' s = .any ∨ get tm s = ren ρ (get tm' s)
  | [], _, _ => .inl rfl
  | (d, x) :: r, s, h => by
    simp only [get]
    split
    · rename_i e; subst e; exact .inr h.1
    · exact fitT_get h.2
section
variable {P : Program} {β β' : Env} {bl bl' : Bls} {ρ : Nat → Nat} {N : Nat} {w : World}
theorem fit_tm (h : Tr β β' ρ (fun l => l) N true) {n : Nat} {tm tm' : TM} {tmps : Array Value} (hf : fitT ρ tm tm') (hl : lvT N true tm' = true) (ht : TmOk β n tm tmps) : TmOk β' n tm' tmps := by
  refine ⟨ht.1, fun s => ?_⟩
  rcases fitT_get (s := s) hf with e | e
  · rw [e]; simp only [Den]
  · have := ht.2 s
    rw [e] at this
    have := Den.ren h (lvT_get hl) this
    rwa [ren_id] at this
theorem fit_k (h : Tr β β' ρ (fun l => l) N true) (hck : β'.ck = β.ck) {fn : FuncId} : ∀ {k' : List SI} {t : List Item}, k'.all (okSI N) = true → KR β fn (k'.map (renSI ρ)) t → KR β' fn k' t
  | [], _, _, hk => hk
  | x :: k', t, ho, hk => by
    simp only [List.all_cons, Bool.and_eq_true] at ho
    obtain ⟨y, t', e, h1, h2⟩ := hk
    refine ⟨y, t', e, ?_, fit_k h hck ho.2 h2⟩
    cases x with
    | rf l =>
      obtain ⟨b, s, hb, e⟩ := h1
      exact ⟨b, s, h.b l _ (by simpa [okSI] using ho.1) hb, e⟩
    | erf l =>
      obtain ⟨b, s, hb, e⟩ := h1
      exact ⟨b, s, h.b l _ (by simpa [okSI] using ho.1) hb, e⟩
    | code c => exact ⟨h1.1, by rw [hck]; exact h1.2⟩
    | lp c => exact ⟨h1.1, by rw [hck]; exact h1.2⟩
    | sc c => exact ⟨h1.1, by rw [hck]; exact h1.2⟩
    | dr all p A g => simp [okSI] at ho
    | _ => exact h1
theorem fit_ms (h : Tr β β' ρ (fun l => l) N true) : ∀ {ms' : List Nat} {ds : List Deferred}, (ms'.all fun l => decide (l < N)) = true → MsR β (ms'.map ρ) ds → MsR β' ms' ds
  | [], _, _, hm => hm
  | m :: ms', ds, ho, ⟨b, s, ds', hb, e, hm⟩ => by
    simp only [List.all_cons, Bool.and_eq_true, decide_eq_true_eq] at ho
    exact ⟨b, s, ds', h.b m _ ho.1 hb, e, fit_ms h ho.2 hm⟩
theorem fit_fr (h : Tr β β' ρ (fun l => l) N true) (hck : β'.ck = β.ck) {f f' : Fr} {fr : Frame} {pr pr' : Option (List Nat)} (hf : FitF ρ N f f') (hr : FrR P β bl pr f fr) : FrR P β' bl' pr' f' fr := by
  obtain ⟨fn, n, tm, k, rd, ms, lk⟩ := f
  obtain ⟨fn', n', tm', k', rd', ms', lk'⟩ := f'
  obtain ⟨h1, h2, h3, h4, h5, h6, h7, h8, h9, h10, -, -⟩ := hf
  simp only at h1 h2 h3 h4 h5 h6 h7 h8 h9 h10
  subst h1 h2 h5 h7 h9
  obtain ⟨tmps, ds, t, ro, e, g1, g2, g3⟩ := hr
  simp only at e g1 g2 g3
  have hg : TmOk β n tm tmps ∧ KR β fn (k'.map (renSI ρ)) t := by
    cases k' with
    | nil => exact g3
    | cons x k' =>
      simp only [List.all_cons, Bool.and_eq_true] at h6
      cases x with
      | dr all p A g => simp [okSI] at h6
      | ops all os g =>
        cases g with
        | some b => simp [okSI] at h6
        | none => exact ⟨g3.1, g3.2.1⟩
      | _ => exact g3
  refine ⟨tmps, ds, t, ro, e, fit_ms h h10 g1, ?_, todo_of (fit_tm h h3 h4 hg.1) (fit_k h hck h6 hg.2)⟩
  cases rd' with
  | none => exact g2
  | some l =>
    obtain ⟨b, s, hb, e⟩ := g2
    exact ⟨b, s, h.b l _ (h8 l rfl) hb, e⟩
theorem fit_sus (h : Tr β β' ρ (fun l => l) N true) (hck : β'.ck = β.ck) : ∀ {fs fs' : List Fr} {lk lk' : List Nat} {ts : List Frame}, FitFs ρ N fs fs' → SusR P β bl lk fs ts → SusR P β' bl' lk' fs' ts
  | [], fs', _, _, ts, hf, hs => by
    simp only [FitFs] at hf
    subst hf
    exact hs
  | f :: fs, fs', lk, lk', ts, ⟨f', fs2, e, h1, h2⟩, ⟨fr, ts', e', g1, g2, g3⟩ => by
    subst e e'
    exact ⟨fr, ts', rfl, fit_fr h hck h1 g1, (fun q hq => by rw [h1.lk'] at hq; cases hq), fit_sus h hck h2 g3⟩
theorem fit_bot {F : FuncId} : ∀ {fs fs' : List Fr}, FitFs ρ N fs fs' → Bot F fs → Bot F fs'
  | [], _, hf, hb => hb.elim
  | [f], fs', ⟨f', fs2, e, h1, h2⟩, hb => by
    simp only [FitFs] at h2
    subst e h2
    exact h1.fn.symm.trans hb
  | f :: g :: fs, fs', ⟨f', fs2, e, h1, h2⟩, hb => by
    have := fit_bot h2 hb
    obtain ⟨g', fs3, e3, -, -⟩ := h2
    subst e e3
    exact this
end
theorem Rch.fit {P : Program} {pl : FuncId → Nat → Option Plan} {C : Ctx} (hC : C.β.b = []) {S : AV → Bls → Prop} {c c' : Conf} (R : List Nat) (hf : Fit R c c') (h : Rch P pl C c' S) : Rch P pl C c S := by
  rintro β m ⟨⟨f, fs, fr, ts, w, e, rfl, h1, h2, h3⟩, h4, h5⟩
  obtain ⟨cfs, bl⟩ := c
  obtain ⟨cfs', bl'⟩ := c'
  simp only at e
  subst e
  obtain ⟨hnd, hlen, hfs, hbl⟩ := hf
  simp only at hlen hfs hbl h1 h2 h3 h4
  have hh := h3.heap
  let β' : Env := { β with b := R.map (fun x => (β.b[x]?).join) }
  have gnew : ∀ j : Nat, j < bl'.length → β'.b[j]? = some ((β.b[nm R j]?).join) := fun j hj => by
    show (R.map _)[j]? = _
    rw [List.getElem?_map, List.getElem?_eq_getElem (by omega)]
    simp [nm, List.getD_eq_getElem?_getD, List.getElem?_eq_getElem (show j < R.length by omega)]
  have tr : Tr β β' (nm R) (fun l => l) bl'.length true := ⟨fun l x hl hb => by show β'.b[l]? = _; rw [gnew l hl, hb]; rfl, fun _ _ h => h, fun _ _ _ h => h⟩
  have hat : ∀ {l : Nat} {c : Ct}, bl'[l]? = some (some c) → l < bl'.length ∧ bl[nm R l]? = some (some (renCt (nm R) c)) ∧ lvCt bl'.length true c = true := fun {l c} hl => by
    have := fitB_at hbl hl
    rw [Nat.zero_add] at this
    exact ⟨(List.getElem?_eq_some_iff.1 hl).1, lvl_get this.1, this.2⟩
  have back : ∀ {j : Nat} {b s : Nat}, j < bl'.length → β'.b[j]? = some (some (b, s)) → β.b[nm R j]? = some (some (b, s)) := fun {j b s} hj hb => by
    rw [gnew j hj] at hb
    cases e : β.b[nm R j]? with
    | none => rw [e] at hb; cases hb
    | some y => rw [e] at hb; simpa using hb
  have own : ∀ b, Owned β' bl' b → Owned β bl b := by
    rintro b ⟨l, c, s, hl, hb⟩
    obtain ⟨a1, a2, a3⟩ := hat hl
    exact ⟨nm R l, _, s, a2, back a1 hb⟩
  have heap' : Heap β' bl' w := by
    refine ⟨by show (R.map _).length = _; simp [hlen], fun l c hl => ?_, fun l l' c c' b s s' hne hl hl' hb hb' => ?_, fun t b cs hz => ⟨(hh.frz t b cs (by cases t <;> exact hz)).1, fun ho => (hh.frz t b cs (by cases t <;> exact hz)).2 (own b ho)⟩⟩
    · obtain ⟨a1, a2, a3⟩ := hat hl
      obtain ⟨base, e, hin⟩ := hh.lv _ _ a2
      have hi := hin.ren tr rfl a3
      refine ⟨base, by rw [gnew l a1, e]; rfl, ?_⟩
      have : renCt (fun l => l) c = c := by
        cases c with
        | lit cs => simp only [renCt, renL_id]
        | num k xs => rfl
        | rows w rs => simp only [renCt, renR_id]
        | loop st pend fn n tm ps a b df => simp only [renCt, renT_id]
        | defs => rfl
        | map es =>
          have he : ∀ es : List (AV × AV), renE (fun l => l) es = es := fun es => by
            induction es with
            | nil => rfl
            | cons x r ih => obtain ⟨a, b⟩ := x; simp only [renE, ren_id, ih]
          simp only [renCt, he]
      rwa [this] at hi
    · obtain ⟨a1, a2, a3⟩ := hat hl
      obtain ⟨b1, b2, b3⟩ := hat hl'
      refine hh.sep _ _ _ _ b s s' (fun e => ?_) a2 b2 (back a1 hb) (back b1 hb')
      have hj1 : l < R.length := by omega
      have hj2 : l' < R.length := by omega
      simp only [nm, List.getD_eq_getElem?_getD, List.getElem?_eq_getElem hj1, List.getElem?_eq_getElem hj2, Option.getD_some] at e
      exact hne (nodup_inj hnd hj1 hj2 e)
  have hb := fit_bot hfs h4
  obtain ⟨f', fs', e', hf1, hf2⟩ := hfs
  subst e'
  refine h β' _ ⟨⟨f', fs', fr, ts, w, rfl, rfl, fit_fr tr rfl hf1 h1, fit_sus tr rfl hf2 h2, ?_⟩, hb, h5⟩
  refine ⟨⟨by rw [hC]; exact List.nil_prefix, h3.le.z, h3.le.y, h3.le.ck⟩, heap', h3.step, fun b ho => h3.own b (own b ho), h3.zn, h3.y⟩
end Go.SY
/-
  The symbolic machine: loops.
-/
namespace Go.SY
open Go
def plainSI : SI → Bool
  | .rf _ => false
  | .erf _ => false
  | .dr _ _ _ _ => false
  | .ops _ _ (some _) => false
  | _ => true
theorem plain_ren {ρ : Nat → Nat} {N : Nat} : ∀ {k : List SI}, k.all plainSI = true → k = k.map (renSI ρ) ∧ k.all (okSI N) = true
  | [], _ => ⟨rfl, rfl⟩
  | x :: k, h => by
    simp only [List.all_cons, Bool.and_eq_true] at h
    obtain ⟨h1, h2⟩ := plain_ren (ρ := ρ) (N := N) h.2
    have hx : renSI ρ x = x ∧ okSI N x = true := by
      cases x with
      | ops all os g => cases g with
        | none => exact ⟨rfl, rfl⟩
        | some b => simp [plainSI] at h
      | rf l => simp [plainSI] at h
      | erf l => simp [plainSI] at h
      | dr all p A g => simp [plainSI] at h
      | _ => exact ⟨rfl, rfl⟩
    refine ⟨?_, ?_⟩
    · simp only [List.map_cons, hx.1, ← h1]
    · simp only [List.all_cons, hx.2, h2, Bool.and_self]
theorem Rch.fit1 {P : Program} {pl : FuncId → Nat → Option Plan} {C : Ctx} (hC : C.β.b = []) {S : AV → Bls → Prop} {fn : FuncId} {n : Nat} {tm tm' : TM} {k : List SI} {bl bl' : Bls} (R : List Nat) (hp : k.all plainSI = true) (hn : R.Nodup) (hl : R.length = bl'.length)
    (ht : fitT (nm R) tm tm') (hlt : lvT bl'.length true tm' = true) (hb : FitB (nm R) bl'.length bl 0 bl') (h : Rch P pl C ⟨[⟨fn, n, tm', k, none, [], []⟩], bl'⟩ S) : Rch P pl C ⟨[⟨fn, n, tm, k, none, [], []⟩], bl⟩ S := by
  refine Rch.fit hC R ⟨hn, hl, ?_, hb⟩ h
  obtain ⟨h1, h2⟩ := plain_ren (ρ := nm R) (N := bl'.length) hp
  exact ⟨_, [], rfl, ⟨rfl, rfl, ht, hlt, h1, h2, rfl, (fun l h => by cases h), rfl, rfl, rfl, rfl⟩, rfl⟩
theorem loop_ind {P : Program} {pl : FuncId → Nat → Option Plan} (hpl : PlOk P pl) {C : Ctx} {α : Type} (m : α → Nat) (tm : α → TM) (bl : α → Bls) (S : α → AV → Bls → Prop) {fn : FuncId} {n : Nat} {body : Code} {k : List SI} {rd : Option Nat} {ms lk : List Nat} {fs : List Fr}
    (step : ∀ a, (∀ a', m a' < m a → Rch P pl C ⟨⟨fn, n, tm a', .lp body :: k, rd, ms, lk⟩ :: fs, bl a'⟩ (S a')) → Rch P pl C ⟨⟨fn, n, tm a, .code body :: .lp body :: k, rd, ms, lk⟩ :: fs, bl a⟩ (S a)) :
    ∀ a, Rch P pl C ⟨⟨fn, n, tm a, .code body :: .lp body :: k, rd, ms, lk⟩ :: fs, bl a⟩ (S a) := by
  have key : ∀ (N : Nat) (a : α), m a < N → Rch P pl C ⟨⟨fn, n, tm a, .code body :: .lp body :: k, rd, ms, lk⟩ :: fs, bl a⟩ (S a) := by
    intro N
    induction N with
    | zero => intro a h; exact absurd h (Nat.not_lt_zero _)
    | succ N ih => intro a h; exact step a fun a' h' => Rch.round hpl (ih a' (by omega))
  exact fun a => key (m a + 1) a (Nat.lt_succ_self _)
theorem Rch.mono {P : Program} {pl : FuncId → Nat → Option Plan} {C : Ctx} {S S' : AV → Bls → Prop} {c : Conf} (h : Rch P pl C c S) (hs : ∀ r bl, S r bl → S' r bl) : Rch P pl C c S' := fun β m hm => by
  obtain ⟨v, fr, β', r, bl', w', h1, h2, h3, h4, h5, h6⟩ := h β m hm
  exact ⟨v, fr, β', r, bl', w', h1, h2, h3, h4, h5, hs _ _ h6⟩
theorem Res.val (x : Value) (bl : Bls) : Res (.v x) [] (.v x) bl := ⟨[], List.nodup_nil, rfl, rfl, fun l c h => by simp at h⟩
end Go.SY
/- Sy30 to Sy37 in one text (a claim has at most 60 files): functions without a Go body, ghost rules, inputs, words, regions with several plans, Insert and Delete. -/
/-
  The symbolic machine: functions without a Go body.
-/
namespace Go.SY
open Go
theorem extern_run {P : Program} {g : FuncId} {fn : Func} {e : Array Value → Sem Value} (hf : P.funcs[g]? = some fn) (hn : (fn.name == "runtime.NumGoroutine") = false) (hb : fn.body = none) (h1 : Extern.findNext fn = none) (h2 : Extern.find fn = some e) (args : Array Value) {w : World} {v : Value} (hr : (e args).run P w = .ok v w) :
    (callFunc g args).run P w = .ok (.value v) w := by
  have hn2 : ¬ fn.name = "runtime.NumGoroutine" := by simpa using hn
  have hm : ∀ m : Mark, (mark m).run P w = .ok () w := fun m => rfl
  unfold callFunc
  simp [Sem.run_bind, hf, hn, hn2, hb, h1, h2, hm, Result.andThen, hr]
def extK (x : List AV → Option (Bool × AV)) (args : List AV) (bl : Bls) : Option (Bool × AV × Bls) := match x args with
  | some (vc, r) => some (vc, r, bl)
  | none => none
def ktX (L : List (FuncId × (List AV → Option (Bool × AV)))) (K : KT) : KT := fun g => match L with
  | [] => K g
  | (k, x) :: r => if k = g then some (extK x) else ktX r K g
end Go.SY
/-
  The symbolic machine: what memory tells that the state does not.
-/
namespace Go.SY
open Go
def hdPlain : List SI → Bool
  | .dr _ _ _ _ :: _ => false
  | .ops _ _ (some _) :: _ => false
  | _ => true
theorem todo_tm {P : Program} {β : Env} {bl : Bls} {pr : Option (List Nat)} {fn : FuncId} {n : Nat} {tm tm' : TM} {k : List SI} {tmps : Array Value} {t : List Item} (hk : hdPlain k = true) (h : TodoR P β bl pr fn n tm k tmps t) :
    TmOk β n tm tmps ∧ (TmOk β n tm' tmps → TodoR P β bl pr fn n tm' k tmps t) := by
  cases k with
  | nil => exact ⟨h.1, fun h' => ⟨h', h.2⟩⟩
  | cons x k =>
    cases x with
    | dr all p A g => simp [hdPlain] at hk
    | ops all os g =>
      cases g with
      | some b => simp [hdPlain] at hk
      | none => exact ⟨h.1, fun h' => ⟨h', h.2.1, fun b hb => by cases hb⟩⟩
    | _ => exact ⟨h.1, fun h' => ⟨h', h.2⟩⟩
theorem Rch.know {P : Program} {pl : FuncId → Nat → Option Plan} {C : Ctx} {S : AV → Bls → Prop} {α : Type} {fn : FuncId} {n : Nat} {tm : TM} {k : List SI} {rd : Option Nat} {ms lk : List Nat} {fs : List Fr} {bl : Bls} (s : Nat) (x : α → AV) (p : α → Prop)
    (hx : ∀ (β : Env) v, Den β (get tm s) v → ∃ a, p a ∧ Den β (x a) v) (hk : hdPlain k = true)
    (h : ∀ a, p a → Rch P pl C ⟨⟨fn, n, (s, x a) :: tm, k, rd, ms, lk⟩ :: fs, bl⟩ S) : Rch P pl C ⟨⟨fn, n, tm, k, rd, ms, lk⟩ :: fs, bl⟩ S := by
  rintro β m ⟨⟨f, fs0, fr, ts, w, e, rfl, h1, h2, h3⟩, h4, h5⟩
  simp only [List.cons.injEq] at e
  obtain ⟨rfl, rfl⟩ := e
  obtain ⟨tmps, ds, t, ro, rfl, g1, g2, g3⟩ := h1
  simp only at g1 g2 g3 h2
  have ht := (todo_tm (tm' := tm) hk g3).1
  obtain ⟨a, ha, hd⟩ := hx β _ (ht.2 s)
  have ht' : TmOk β n ((s, x a) :: tm) tmps := ⟨ht.1, fun s' => by
    simp only [get]
    split
    · rename_i e; subst e; exact hd
    · exact ht.2 s'⟩
  exact h a ha β _ ⟨⟨_, _, _, ts, w, rfl, rfl, ⟨tmps, ds, t, ro, rfl, g1, g2, (todo_tm hk g3).2 ht'⟩, h2, h3⟩, Bot.same h4 rfl, h5⟩
theorem Rch.cap {P : Program} {pl : FuncId → Nat → Option Plan} {C : Ctx} {S : AV → Bls → Prop} {fn : FuncId} {n : Nat} {tm : TM} {k : List SI} {rd : Option Nat} {ms lk : List Nat} {fs : List Fr} {bl : Bls} (s : Nat) {l i w nn : Nat} (hs : get tm s = .sl l i w nn none) (hk : hdPlain k = true)
    (h : ∀ q, nn ≤ q → q < 9223372036854775808 → Rch P pl C ⟨⟨fn, n, (s, .sl l i w nn (some q)) :: tm, k, rd, ms, lk⟩ :: fs, bl⟩ S) : Rch P pl C ⟨⟨fn, n, tm, k, rd, ms, lk⟩ :: fs, bl⟩ S :=
  Rch.know s (fun q : Nat => .sl l i w nn (some q)) (fun q => nn ≤ q ∧ q < 9223372036854775808) (fun β v hd => by
    rw [hs] at hd
    simp only [Den] at hd ⊢
    obtain ⟨A, q, e, h1, h2, -, h4⟩ := hd
    exact ⟨q, ⟨h1, h2⟩, A, q, e, h1, h2, fun m hm => Option.some.inj hm, h4⟩) hk fun q hq => h q hq.1 hq.2
theorem Rch.range {P : Program} {pl : FuncId → Nat → Option Plan} {C : Ctx} {S : AV → Bls → Prop} {fn : FuncId} {n : Nat} {tm : TM} {k : List SI} {rd : Option Nat} {ms lk : List Nat} {fs : List Fr} {bl : Bls} (s : Nat) {kk : IntKind} {z : Int} (hs : get tm s = .v (.int kk z)) (hk : hdPlain k = true)
    (h : inK kk z = true → Rch P pl C ⟨⟨fn, n, (s, .v (.int kk z)) :: tm, k, rd, ms, lk⟩ :: fs, bl⟩ S) : Rch P pl C ⟨⟨fn, n, tm, k, rd, ms, lk⟩ :: fs, bl⟩ S :=
  Rch.know s (fun _ : Unit => .v (.int kk z)) (fun _ => inK kk z = true) (fun β v hd => by
    rw [hs] at hd
    exact ⟨(), (den_int hd).2, hd⟩) hk fun _ hq => h hq
theorem Rch.len {P : Program} {pl : FuncId → Nat → Option Plan} {C : Ctx} {S : AV → Bls → Prop} {fn : FuncId} {n : Nat} {tm : TM} {k : List SI} {rd : Option Nat} {ms lk : List Nat} {fs : List Fr} {bl : Bls} (s : Nat) {t : Bool} {kk : IntKind} {xs : List Int} {c : Option Nat} (hs : get tm s = .imn t kk xs c) (hk : hdPlain k = true)
    (h : xs.length < 9223372036854775808 → okN kk xs → Rch P pl C ⟨⟨fn, n, (s, .imn t kk xs c) :: tm, k, rd, ms, lk⟩ :: fs, bl⟩ S) : Rch P pl C ⟨⟨fn, n, tm, k, rd, ms, lk⟩ :: fs, bl⟩ S :=
  Rch.know s (fun _ : Unit => .imn t kk xs c) (fun _ => xs.length < 9223372036854775808 ∧ okN kk xs) (fun β v hd => by
    rw [hs] at hd
    have hd' := hd
    simp only [Den] at hd'
    obtain ⟨A, q, e, h1, h2, -, h4, -⟩ := hd'
    exact ⟨(), ⟨by omega, h4⟩, hd⟩) hk fun _ hq => h hq.1 hq.2
end Go.SY
/-
  The symbolic machine: what a row hands in is frozen data.
-/
namespace Go.SY
open Go Go.RowKit Go.ChangeShapes Go.WideShapes
def IsRow (k : IntKind) (w : World) (a : Option Addr) (len cap : Nat) (zs : List Int) : Prop :=
  (a = none ∧ len = 0 ∧ cap = 0 ∧ zs = []) ∨
  ∃ x, a = some x ∧ len ≤ cap ∧ cap ≤ maxLen ∧ zs.length = cap ∧ (∀ i, i < zs.length → w.cell? (x.add i) = some (.int k (zs.getD i 0))) ∧ ∀ n ∈ zs, (Lit.int k n).wf = true
theorem row_in {H : Type} {enc : TypeId × Value → H} {P : Program} {W : World} {base : Nat} {held : Bool} {t e : TypeId} {k : IntKind} {a : Option Addr} {len cap : Nat} {d : DataW H} {ps : List MemPlace} {ts : List TypeId} {ds : List (DataW H)}
    (hsz : (DataW.weightsEach P ts ds).all (· ≤ reachBytes) = true) (j : Nat) (ht : ts[j]? = some t) (hd : ds[j]? = some d) (hu : P.underlying t = some (.slice e)) (he : P.underlying e = some (.int k)) (hc : P.cellsOf e = 1)
    (h : DataW.Trod enc P W base (fun _ => true) held t (.slice a len cap) d ps) : ∃ zs, IsRow k W a len cap zs ∧ cap * P.bytesOf e ≤ 140737488351232 := by
  obtain ⟨fuel, hf⟩ := h
  rcases open_ints hu he hc hf with ⟨hcs, _⟩ | ⟨x, l, c, zs, hcs, _, hl, hm, hz, hx, hcell, hwz⟩
  · simp only [Value.cells, List.cons.injEq, Value.slice.injEq, and_true] at hcs
    obtain ⟨rfl, rfl, rfl⟩ := hcs
    exact ⟨[], .inl ⟨rfl, rfl, rfl, rfl⟩, by simp⟩
  · simp only [Value.cells, List.cons.injEq, Value.slice.injEq, and_true] at hcs
    obtain ⟨rfl, rfl, rfl⟩ := hcs
    obtain ⟨rfl, -⟩ := Prod.mk.inj hx
    rw [if_pos rfl] at hz
    refine ⟨zs, .inr ⟨x, rfl, hl, hm, hz, hcell, hwz⟩, ?_⟩
    have w := sized_slice hsz ht hd hu
    have hlen : (lits (H := H) k (zs.take len)).length + (lits (H := H) k (zs.drop len)).length = cap := by
      simp only [lits, List.length_map, List.length_take, List.length_drop]
      omega
    rw [hlen] at w
    exact w
def ice (P : Program) (pl : FuncId → Nat → Option Plan) (w : World) : Env where
  b := []
  z := fun b => match w.heap[b]? with
    | some (.cells cs _ _) => some cs
    | _ => none
  y := fun _ => none
  ck := Ck P pl
theorem ice_heap (P : Program) (pl : FuncId → Nat → Option Plan) (w : World) : Heap (ice P pl w) [] w := by
  refine ⟨rfl, fun l c h => by simp at h, fun l l' c c' b s s' _ h => by simp at h, fun t b cs hz => ⟨?_, fun ⟨l, c, s, hl, _⟩ => by simp at hl⟩⟩
  cases t with
  | true => cases hz
  | false =>
    simp only [Env.fz, ice] at hz
    split at hz
    · rename_i cs' T fz e
      obtain rfl := Option.some.inj hz
      exact ⟨T, fz, e⟩
    · cases hz
theorem IsRow.le {k : IntKind} {w : World} {a : Option Addr} {len cap : Nat} {zs : List Int} (h : IsRow k w a len cap zs) : len ≤ cap ∧ cap ≤ maxLen ∧ zs.length = cap := by
  rcases h with ⟨-, rfl, rfl, rfl⟩ | ⟨x, -, h1, h2, h3, -⟩
  · exact ⟨Nat.le_refl _, Nat.zero_le _, rfl⟩
  · exact ⟨h1, h2, h3⟩
theorem wf_inK {k : IntKind} {n : Int} (h : (Lit.int k n).wf = true) : inK k n = true := by
  cases k <;> simp [Lit.wf, IntKind.min, IntKind.max, IntKind.bits, IntKind.signed] at h <;> simp [inK] <;> omega
theorem IsRow.den {P : Program} {pl : FuncId → Nat → Option Plan} {k : IntKind} {w : World} {a : Option Addr} {len cap : Nat} {zs : List Int} (h : IsRow k w a len cap zs) : Den (ice P pl w) (.imn false k (zs.take len) (some cap)) (.slice a len cap) := by
  have hle := h.le
  have hm : maxLen = 9223372036854775807 := rfl
  have hlen : (zs.take len).length = len := by rw [List.length_take]; omega
  simp only [Den]
  have hok : okN k (zs.take len) := fun z hz => by
    rcases h with ⟨-, -, -, rfl⟩ | ⟨x, -, -, -, -, -, hw⟩
    · simp at hz
    · exact wf_inK (hw z (List.mem_of_mem_take hz))
  refine ⟨a, cap, by rw [hlen], by rw [hlen]; exact hle.1, by omega, fun m hm => Option.some.inj hm, hok, fun hq => ?_⟩
  rcases h with ⟨-, -, rfl, -⟩ | ⟨x, rfl, h1, h2, h3, h4, -⟩
  · exact absurd rfl hq
  · obtain ⟨b, o, sp⟩ := x
    have h0 := h4 0 (by omega)
    simp only [Addr.add, if_true, World.cell?] at h0
    cases hb : w.heap[b]? with
    | none => rw [hb] at h0; simp at h0
    | some O =>
      rw [hb] at h0
      cases O with
      | cells cs T fz =>
        cases sp with
        | some s => simp at h0
        | none =>
          refine ⟨b, o, rfl, cs, by simp only [Env.fz, ice, hb], fun j v hj => ?_⟩
          have hjl := (List.getElem?_eq_some_iff.1 hj).1
          simp only [List.length_map] at hjl
          have := h4 j (by omega)
          have hcell : w.cell? ((⟨b, o, none⟩ : Addr).add j) = cs[o + j]? := by
            unfold Addr.add
            split
            · rename_i e; subst e; simp [World.cell?, hb]
            · simp [World.cell?, hb]
          rw [hcell] at this
          rw [this, ← hj, List.getElem?_map, List.getElem?_take, if_pos (by omega), List.getElem?_eq_getElem (by omega)]
          simp [List.getD_eq_getElem?_getD, List.getElem?_eq_getElem (show j < zs.length by omega)]
      | _ => simp at h0
theorem law_calls {P : Program} {pl : FuncId → Nat → Option Plan} (hpl : PlOk P pl) {f : FuncId} {F : FI} {args : List AV} {S : AV → Bls → Prop} (hF : fi P f = some F) (hn : args.length ≤ F.n) (hS : ∀ r bl, S r bl → r = .v (.bool true)) {w : World} {vs : List Value} (hd : DenL (ice P pl w) args vs)
    (h : ∀ C : Ctx, C.β.b = [] → C.bl = [] → Rch P pl C (conf0 f F args []) S) : Calls P f vs.toArray w fun e w' => e = .returned (.bool true) ∧ Below w.heap.size w w' := by
  intro cs
  have hh := ice_heap P pl w
  have run := h ⟨ice P pl w, [], w, cs, f⟩ rfl rfl (ice P pl w) (lone (Frame.enter P f vs.toArray .normal) cs w) ⟨⟨_, [], _, [], w, rfl, rfl, enter_ok hF (hpl.ck f F hF) rfl hd hn, rfl, .refl hh⟩, rfl, rfl⟩
  obtain ⟨v, fr, β', r, bl', w', h1, h2, h3, h4, h5, h6⟩ := run
  have := hS _ _ h6
  subst this
  simp only [Den] at h4
  refine ⟨.returned v, w', fr, ⟨by rw [h4.1], ?_⟩, h1, h2, h3⟩
  refine ⟨h5.step.os, h5.step.tape, h5.step.output, h5.step.size, fun b hb => h5.step.kept b hb ?_⟩
  rintro ⟨l, c, s, hl, -⟩
  simp at hl
def runA (P : Program) (K : KT) (T : Pls) (n : Nat) (f : FuncId) (args : List AV) : Option AV := match fi P f with
  | some F => (match decide (args.length ≤ F.n) with
    | true => (match runQ P K (plOf T) n (conf0 f F args []) with
      | some (r, _) => some r
      | none => none)
    | false => none)
  | none => none
end Go.SY
/-
  The symbolic machine: functions that take memory over, told by what they may come to; runs that stop where such a one is entered.
-/
namespace Go.SY
open Go
theorem renE_id : ∀ es : List (AV × AV), renE (fun l => l) es = es
  | [] => rfl
  | (a, b) :: r => by simp only [renE, ren_id, renE_id r]
theorem renCt_id (c : Ct) : renCt (fun l => l) c = c := by
  cases c with
  | lit cs => simp only [renCt, renL_id]
  | num k xs => rfl
  | rows w rs => simp only [renCt, renR_id]
  | loop st pend fn n tm ps a b df => simp only [renCt, renT_id]
  | defs => rfl
  | map es => simp only [renCt, renE_id]
theorem Rch.fitK {P : Program} {pl : FuncId → Nat → Option Plan} {C : Ctx} {k : Nat} (hC : C.β.b.length = k) {S : AV → Bls → Prop} {c c' : Conf} (R : List Nat) (hR : R.take k = List.range k) (hf : Fit R c c') (h : Rch P pl C c' S) : Rch P pl C c S := by
  rintro β m ⟨⟨f, fs, fr, ts, w, e, rfl, h1, h2, h3⟩, h4, h5⟩
  obtain ⟨cfs, bl⟩ := c
  obtain ⟨cfs', bl'⟩ := c'
  simp only at e
  subst e
  obtain ⟨hnd, hlen, hfs, hbl⟩ := hf
  simp only at hlen hfs hbl h1 h2 h3 h4
  have hh := h3.heap
  let β' : Env := { β with b := R.map (fun x => (β.b[x]?).join) }
  have gnew : ∀ j : Nat, j < bl'.length → β'.b[j]? = some ((β.b[nm R j]?).join) := fun j hj => by
    show (R.map _)[j]? = _
    rw [List.getElem?_map, List.getElem?_eq_getElem (by omega)]
    simp [nm, List.getD_eq_getElem?_getD, List.getElem?_eq_getElem (show j < R.length by omega)]
  have tr : Tr β β' (nm R) (fun l => l) bl'.length true := ⟨fun l x hl hb => by show β'.b[l]? = _; rw [gnew l hl, hb]; rfl, fun _ _ h => h, fun _ _ _ h => h⟩
  have hat : ∀ {l : Nat} {c : Ct}, bl'[l]? = some (some c) → l < bl'.length ∧ bl[nm R l]? = some (some (renCt (nm R) c)) ∧ lvCt bl'.length true c = true := fun {l c} hl => by
    have := fitB_at hbl hl
    rw [Nat.zero_add] at this
    exact ⟨(List.getElem?_eq_some_iff.1 hl).1, lvl_get this.1, this.2⟩
  have back : ∀ {j : Nat} {b s : Nat}, j < bl'.length → β'.b[j]? = some (some (b, s)) → β.b[nm R j]? = some (some (b, s)) := fun {j b s} hj hb => by
    rw [gnew j hj] at hb
    cases e : β.b[nm R j]? with
    | none => rw [e] at hb; cases hb
    | some y => rw [e] at hb; simpa using hb
  have own : ∀ b, Owned β' bl' b → Owned β bl b := by
    rintro b ⟨l, c, s, hl, hb⟩
    obtain ⟨a1, a2, a3⟩ := hat hl
    exact ⟨nm R l, _, s, a2, back a1 hb⟩
  have heap' : Heap β' bl' w := by
    refine ⟨by show (R.map _).length = _; simp [hlen], fun l c hl => ?_, fun l l' c c' b s s' hne hl hl' hb hb' => ?_, fun t b cs hz => ⟨(hh.frz t b cs (by cases t <;> exact hz)).1, fun ho => (hh.frz t b cs (by cases t <;> exact hz)).2 (own b ho)⟩⟩
    · obtain ⟨a1, a2, a3⟩ := hat hl
      obtain ⟨base, e, hin⟩ := hh.lv _ _ a2
      have hi := hin.ren tr rfl a3
      refine ⟨base, by rw [gnew l a1, e]; rfl, ?_⟩
      rwa [renCt_id] at hi
    · obtain ⟨a1, a2, a3⟩ := hat hl
      obtain ⟨b1, b2, b3⟩ := hat hl'
      refine hh.sep _ _ _ _ b s s' (fun e => ?_) a2 b2 (back a1 hb) (back b1 hb')
      have hj1 : l < R.length := by omega
      have hj2 : l' < R.length := by omega
      simp only [nm, List.getD_eq_getElem?_getD, List.getElem?_eq_getElem hj1, List.getElem?_eq_getElem hj2, Option.getD_some] at e
      exact hne (nodup_inj hnd hj1 hj2 e)
  have hb := fit_bot hfs h4
  obtain ⟨f', fs', e', hf1, hf2⟩ := hfs
  subst e'
  have hpre : C.β.b <+: β'.b := by
    obtain ⟨r, hr⟩ := h3.le.b
    show _ <+: R.map _
    rw [← List.take_append_drop k R, hR, List.map_append]
    refine ⟨(R.drop k).map fun x => (β.b[x]?).join, ?_⟩
    congr 1
    apply List.ext_getElem
    · simp [hC]
    · intro i i1 i2
      simp only [List.getElem_map, List.getElem_range]
      rw [← hr, List.getElem?_append_left i1, List.getElem?_eq_getElem i1]
      rfl
  refine h β' _ ⟨⟨f', fs', fr, ts, w, rfl, rfl, fit_fr tr rfl hf1 h1, fit_sus tr rfl hf2 h2, ?_⟩, hb, h5⟩
  exact ⟨⟨hpre, h3.le.z, h3.le.y, h3.le.ck⟩, heap', h3.step, fun b ho => h3.own b (own b ho), h3.zn, h3.y⟩
theorem Rch.fit1K {P : Program} {pl : FuncId → Nat → Option Plan} {C : Ctx} {kk : Nat} (hC : C.β.b.length = kk) {S : AV → Bls → Prop} {fn : FuncId} {n : Nat} {tm tm' : TM} {k : List SI} {bl bl' : Bls} (R : List Nat) (hR : R.take kk = List.range kk) (hp : k.all plainSI = true) (hn : R.Nodup) (hl : R.length = bl'.length)
    (ht : fitT (nm R) tm tm') (hlt : lvT bl'.length true tm' = true) (hb : FitB (nm R) bl'.length bl 0 bl') (h : Rch P pl C ⟨[⟨fn, n, tm', k, none, [], []⟩], bl'⟩ S) : Rch P pl C ⟨[⟨fn, n, tm, k, none, [], []⟩], bl⟩ S := by
  refine Rch.fitK hC R hR ⟨hn, hl, ?_, hb⟩ h
  obtain ⟨h1, h2⟩ := plain_ren (ρ := nm R) (N := bl'.length) hp
  exact ⟨_, [], rfl, ⟨rfl, rfl, ht, hlt, h1, h2, rfl, (fun l h => by cases h), rfl, rfl, rfl, rfl⟩, rfl⟩
def Word (P : Program) (pl : FuncId → Nat → Option Plan) (g : FuncId) (args : List AV) (bl0 : Bls) (Q : AV → Bls → Prop) : Prop :=
  ∃ F, fi P g = some F ∧ args.length ≤ F.n ∧ ∀ C : Ctx, C.bl = bl0 → C.β.b.length = bl0.length → Rch P pl C (conf0 g F args bl0) Q
noncomputable def takeE (σ : List Nat) (β : Env) (bl : Bls) (w : World) : Env := { lendE β (killL σ bl) w with b := σ.map fun l => (β.b[l]?).join }
def LntA (bl : Bls) (σ : List Nat) (x x0 : AV) : Prop := (x = ren (nm σ) x0 ∧ lvB σ.length true x0 = true) ∨ lnd (killL σ bl) x = some (true, x0)
def LntT (bl : Bls) (σ : List Nat) : TM → TM → Prop
  | [], tm0 => tm0 = []
  | (s, x) :: r, tm0 => ∃ x0 r0, tm0 = (s, x0) :: r0 ∧ LntA bl σ x x0 ∧ LntT bl σ r r0
section
variable {β : Env} {bl bl0 : Bls} {w : World} {σ : List Nat}
theorem killL_len : ∀ (σ : List Nat) (bl : Bls), (killL σ bl).length = bl.length
  | [], _ => rfl
  | l :: r, bl => by simp only [killL]; rw [killL_len r, setl_set]; simp
theorem killL_in : ∀ (σ : List Nat) (bl : Bls) (l : Nat) (c : Ct), (killL σ bl)[l]? = some (some c) → bl[l]? = some (some c) ∧ l ∉ σ
  | [], _, l, c, h => ⟨h, fun h => by cases h⟩
  | a :: r, bl, l, c, h => by
    simp only [killL] at h
    obtain ⟨h1, h2⟩ := killL_in r _ l c h
    rw [setl_set, List.getElem?_set] at h1
    split at h1
    · split at h1
      · simp at h1
      · cases h1
    · rename_i hne
      refine ⟨h1, fun hm => ?_⟩
      rcases List.mem_cons.1 hm with rfl | hm
      · exact hne rfl
      · exact h2 hm
theorem killL_heap (h : Heap β bl w) (σ : List Nat) : Heap β (killL σ bl) w := by
  refine ⟨by rw [killL_len]; exact h.len, fun l c hl => h.lv l c (killL_in σ bl l c hl).1, fun l l' c c' b s s' hne hl hl' => h.sep l l' c c' b s s' hne (killL_in σ bl l c hl).1 (killL_in σ bl l' c' hl').1, fun t b cs hz => ⟨(h.frz t b cs hz).1, fun ⟨l, c, s, hl, hb⟩ => (h.frz t b cs hz).2 ⟨l, c, s, (killL_in σ bl l c hl).1, hb⟩⟩⟩
theorem take_le : (lendE β (killL σ bl) w).le (takeE σ β bl w) := ⟨List.nil_prefix, fun _ _ h => h, fun _ _ h => h, rfl⟩
theorem take_at {j : Nat} (hj : j < σ.length) : (takeE σ β bl w).b[j]? = some ((β.b[nm σ j]?).join) := by
  show (σ.map _)[j]? = _
  rw [List.getElem?_map, List.getElem?_eq_getElem hj]
  simp [nm, List.getD_eq_getElem?_getD, List.getElem?_eq_getElem hj]
theorem take_tr : Tr β (takeE σ β bl w) (nm σ) (fun l => l) σ.length true :=
  ⟨fun l x hl hb => by rw [take_at hl, hb]; rfl, fun _ _ h => h, fun _ i cs h => by
    show (lendE β (killL σ bl) w).y i = _
    simp only [lendE, h]⟩
theorem take_back {j b s : Nat} (hj : j < σ.length) (hb : (takeE σ β bl w).b[j]? = some (some (b, s))) : β.b[nm σ j]? = some (some (b, s)) := by
  rw [take_at hj] at hb
  cases e : β.b[nm σ j]? with
  | none => rw [e] at hb; cases hb
  | some y => rw [e] at hb; simpa using hb
theorem take_fit (hlen : σ.length = bl0.length) (hb : FitB (nm σ) σ.length bl 0 bl0) {l : Nat} {c : Ct} (hl : bl0[l]? = some (some c)) : l < σ.length ∧ bl[nm σ l]? = some (some (renCt (nm σ) c)) ∧ lvCt σ.length true c = true := by
  have := fitB_at hb hl
  rw [Nat.zero_add] at this
  exact ⟨by have := (List.getElem?_eq_some_iff.1 hl).1; omega, lvl_get this.1, this.2⟩
theorem take_own (hlen : σ.length = bl0.length) (hb : FitB (nm σ) σ.length bl 0 bl0) {b : Nat} (ho : Owned (takeE σ β bl w) bl0 b) : ∃ j c s, j < σ.length ∧ bl[nm σ j]? = some (some c) ∧ β.b[nm σ j]? = some (some (b, s)) := by
  obtain ⟨l, c, s, hl, hb'⟩ := ho
  obtain ⟨a1, a2, a3⟩ := take_fit hlen hb hl
  exact ⟨l, _, s, a1, a2, take_back a1 hb'⟩
theorem nm_mem {j : Nat} (hj : j < σ.length) : nm σ j ∈ σ := by
  simp only [nm, List.getD_eq_getElem?_getD, List.getElem?_eq_getElem hj, Option.getD_some]
  exact List.getElem_mem hj
theorem nm_inj (hn : σ.Nodup) {i j : Nat} (hi : i < σ.length) (hj : j < σ.length) (e : nm σ i = nm σ j) : i = j := by
  simp only [nm, List.getD_eq_getElem?_getD, List.getElem?_eq_getElem hi, List.getElem?_eq_getElem hj, Option.getD_some] at e
  exact nodup_inj hn hi hj e
theorem take_heap (hh : Heap β bl w) (hn : σ.Nodup) (hlen : σ.length = bl0.length) (hb : FitB (nm σ) σ.length bl 0 bl0) : Heap (takeE σ β bl w) bl0 w := by
  have hk := lend_heap (killL_heap hh σ)
  refine ⟨by show (σ.map _).length = _; simp [hlen], fun l c hl => ?_, fun l l' c c' b s s' hne hl hl' hb1 hb2 => ?_, fun t b cs hz => ⟨(hk.frz t b cs (by cases t <;> exact hz)).1, fun ho => ?_⟩⟩
  · obtain ⟨a1, a2, a3⟩ := take_fit hlen hb hl
    obtain ⟨base, e, hin⟩ := hh.lv _ _ a2
    refine ⟨base, by rw [take_at a1, e]; rfl, ?_⟩
    have hi := hin.ren (take_tr (bl := bl) (w := w)) rfl a3
    rwa [renCt_id] at hi
  · obtain ⟨a1, a2, a3⟩ := take_fit hlen hb hl
    obtain ⟨b1, b2, b3⟩ := take_fit hlen hb hl'
    exact hh.sep _ _ _ _ b s s' (fun e => hne (nm_inj hn a1 b1 e)) a2 b2 (take_back a1 hb1) (take_back b1 hb2)
  · obtain ⟨j, c, s, hj, h1, h2⟩ := take_own hlen hb ho
    cases t with
    | false => exact (hh.frz false b cs hz).2 ⟨_, _, _, h1, h2⟩
    | true =>
      have hz' : (lendE β (killL σ bl) w).y b = some cs := hz
      simp only [lendE] at hz'
      split at hz'
      · rename_i cs' e
        exact (hh.frz true b cs' e).2 ⟨_, _, _, h1, h2⟩
      · split at hz'
        · rename_i hown
          obtain ⟨m, c', s', hm, hb'⟩ := hown
          obtain ⟨g1, g2⟩ := killL_in σ bl m c' hm
          exact hh.sep _ _ _ _ b s s' (fun e => g2 (by rw [← e]; exact nm_mem hj)) h1 g1 h2 hb'
        · cases hz'
theorem lntA_den (hh : Heap β bl w) {x x0 : AV} {v : Value} (h : LntA bl σ x x0) (hd : Den β x v) : Den (takeE σ β bl w) x0 v := by
  rcases h with ⟨rfl, hl⟩ | h
  · have := Den.ren (take_tr (bl := bl) (w := w)) hl hd
    rwa [ren_id] at this
  · exact (lnd_den (killL_heap hh σ) hd h).mono take_le
theorem lntT_get (hh : Heap β bl w) : ∀ {tm tm0 : TM}, LntT bl σ tm tm0 → ∀ {s : Nat} {v : Value}, Den β (get tm s) v → Den (takeE σ β bl w) (get tm0 s) v
  | [], _, h, s, v, hd => by
    simp only [LntT] at h
    subst h
    simp only [get, Den]
  | (s', x) :: r, _, h, s, v, hd => by
    simp only [LntT] at h
    obtain ⟨x0, r0, rfl, h1, h2⟩ := h
    simp only [get] at hd ⊢
    split
    · rename_i e
      subst e
      rw [if_pos rfl] at hd
      exact lntA_den hh h1 hd
    · rename_i e
      rw [if_neg e] at hd
      exact lntT_get hh h2 hd
end
def updT (τ : Nat → Nat) : List Nat → Bls → Bls → Bls
  | [], _, bl => bl
  | _ :: _, [], bl => bl
  | s :: σ, b :: bs, bl => updT τ σ bs (setl bl s (match b with
    | none => none
    | some c => some (renCt τ c)))
def mapB (τ : Nat → Nat) : Bls → Bls
  | [] => []
  | none :: r => none :: mapB τ r
  | some c :: r => some (renCt τ c) :: mapB τ r
def tauN (σ : List Nat) (d : Nat) (l : Nat) : Nat := if l < σ.length then nm σ l else d + (l - σ.length)
def aftT (σ : List Nat) (bl bl' : Bls) : Bls := updT (tauN σ bl.length) σ bl' bl ++ mapB (tauN σ bl.length) (bl'.drop σ.length)
theorem mapB_len {τ : Nat → Nat} : ∀ {bl : Bls}, (mapB τ bl).length = bl.length
  | [] => rfl
  | none :: r => by simp [mapB, mapB_len]
  | some c :: r => by simp [mapB, mapB_len]
theorem mapB_at {τ : Nat → Nat} : ∀ {bl : Bls} {l : Nat} {c : Ct}, (mapB τ bl)[l]? = some (some c) → ∃ c0, bl[l]? = some (some c0) ∧ c = renCt τ c0
  | [], _, _, h => by simp [mapB] at h
  | none :: r, 0, _, h => by simp [mapB] at h
  | none :: r, l + 1, c, h => by simpa using mapB_at (bl := r) (l := l) (by simpa [mapB] using h)
  | some c0 :: r, 0, c, h => by
    simp [mapB] at h
    exact ⟨c0, by simp, h.symm⟩
  | some c0 :: r, l + 1, c, h => by simpa using mapB_at (bl := r) (l := l) (by simpa [mapB] using h)
theorem updT_len {τ : Nat → Nat} : ∀ {σ : List Nat} {bs bl : Bls}, (updT τ σ bs bl).length = bl.length
  | [], _, _ => rfl
  | _ :: _, [], _ => rfl
  | s :: σ, b :: bs, bl => by simp only [updT]; rw [updT_len, setl_set]; simp
theorem updT_at {τ : Nat → Nat} : ∀ {σ : List Nat} {bs bl : Bls}, σ.Nodup → σ.length ≤ bs.length → ∀ {m : Nat} {c : Ct}, (updT τ σ bs bl)[m]? = some (some c) →
    (m ∉ σ ∧ bl[m]? = some (some c)) ∨ ∃ j c0, j < σ.length ∧ m = nm σ j ∧ bs[j]? = some (some c0) ∧ c = renCt τ c0
  | [], _, _, _, _, m, c, h => .inl ⟨List.not_mem_nil, h⟩
  | s :: σ, [], _, _, hl, _, _, _ => by simp at hl
  | s :: σ, b :: bs, bl, hn, hl, m, c, h => by
    simp only [updT] at h
    obtain ⟨hn1, hn2⟩ := List.nodup_cons.1 hn
    rcases updT_at hn2 (by simpa using hl) h with ⟨h1, h2⟩ | ⟨j, c0, hj, rfl, h3, h4⟩
    · rw [setl_set, List.getElem?_set] at h2
      split at h2
      · rename_i e
        subst e
        split at h2
        · cases b with
          | none => simp at h2
          | some c0 => simp at h2; exact .inr ⟨0, c0, by simp, rfl, rfl, h2.symm⟩
        · cases h2
      · rename_i e
        exact .inl ⟨fun hm => by rcases List.mem_cons.1 hm with rfl | hm; exact e rfl; exact h1 hm, h2⟩
    · exact .inr ⟨j + 1, c0, by simpa using hj, by simp [nm], by simpa using h3, h4⟩
def okRet (r : AV) (bl' : Bls) : Bool := lvB bl'.length false r && okBls bl'.length bl'
theorem ret_core {β β1 : Env} {bl bl0 bl' : Bls} {w w' : World} {σ : List Nat} {r : AV} {v : Value} (hh : Heap β bl w) (hn : σ.Nodup) (hσ : (σ.all fun l => decide (l < bl.length)) = true) (hlen : σ.length = bl0.length) (hb : FitB (nm σ) σ.length bl 0 bl0)
    (kx : Ext (takeE σ β bl w) bl0 w β1 bl' w') (k4 : Den β1 r v) (hok : okRet r bl' = true) (hlen' : bl0.length ≤ bl'.length) : ∃ β2, Den β2 (ren (tauN σ bl.length) r) v ∧ Ext β bl w β2 (aftT σ bl bl') w' := by
  simp only [okRet, Bool.and_eq_true] at hok
  obtain ⟨hok1, hok2⟩ := hok
  have ownC : ∀ b, Owned (takeE σ β bl w) bl0 b → Owned β bl b := fun b hb' => by
    obtain ⟨j, c, s, hj, q1, q2⟩ := take_own hlen hb hb'
    exact ⟨_, c, s, q1, q2⟩
  have kept : ∀ b, b < w.heap.size → ¬ Owned (takeE σ β bl w) bl0 b → w'.heap[b]? = w.heap[b]? := kx.step.kept
  have new : ∀ b, Owned β1 bl' b → Owned (takeE σ β bl w) bl0 b ∨ w.heap.size ≤ b := kx.own
  let β2 : Env := { b := β.b ++ β1.b.drop σ.length, z := β1.z, y := β.y, ck := β.ck }
  have hl : β.b.length = bl.length := hh.len
  have hl1 : β1.b.length = bl'.length := kx.heap.len
  have le : β.le β2 := ⟨List.prefix_append _ _, fun i cs hz => kx.le.z i cs hz, fun i cs hy => hy, rfl⟩
  have nmlt : ∀ {j : Nat}, j < σ.length → nm σ j < bl.length := fun {j} hj => by
    have := List.all_eq_true.1 hσ _ (nm_mem hj)
    simpa using this
  have tau1 : ∀ {l : Nat}, l < σ.length → tauN σ bl.length l = nm σ l := fun h => by simp [tauN, h]
  have tau2 : ∀ {l : Nat}, ¬ l < σ.length → tauN σ bl.length l = bl.length + (l - σ.length) := fun h => by simp [tauN, h]
  have gold : ∀ {m : Nat}, m < bl.length → β2.b[m]? = β.b[m]? := fun {m} hm => by
    show (β.b ++ _)[m]? = _
    rw [List.getElem?_append_left (by omega)]
  have gtau : ∀ (l : Nat), β2.b[tauN σ bl.length l]? = β1.b[l]? := fun l => by
    by_cases hlt : l < σ.length
    · have h6 := nmlt hlt
      rw [tau1 hlt, gold h6]
      obtain ⟨rest, hr⟩ := kx.le.b
      rw [← hr, List.getElem?_append_left (by rw [show (takeE σ β bl w).b.length = σ.length from by show (σ.map _).length = _; simp]; exact hlt), take_at hlt]
      rw [List.getElem?_eq_getElem (by omega)]
      rfl
    · rw [tau2 hlt]
      show (β.b ++ _)[_]? = _
      rw [List.getElem?_append_right (by omega), hl, Nat.add_sub_cancel_left, List.getElem?_drop, show σ.length + (l - σ.length) = l by omega]
  have tr : Tr β1 β2 (fun l => l) (tauN σ bl.length) bl'.length false :=
    ⟨fun l x _ hb' => by rw [gtau]; exact hb', fun i cs hz => hz, fun h => by cases h⟩
  have hckE : β2.ck = β1.ck := by rw [kx.le.ck]; rfl
  have at2 : ∀ {m : Nat} {c : Ct}, (aftT σ bl bl')[m]? = some (some c) → (m < bl.length ∧ m ∉ σ ∧ bl[m]? = some (some c)) ∨ ∃ j c0, m = tauN σ bl.length j ∧ bl'[j]? = some (some c0) ∧ c = renCt (tauN σ bl.length) c0 := by
    intro m c hm
    unfold aftT at hm
    by_cases hlt : m < bl.length
    · rw [List.getElem?_append_left (by rw [updT_len]; exact hlt)] at hm
      rcases updT_at hn (by omega) hm with ⟨q1, q2⟩ | ⟨j, c0, hj, rfl, q3, q4⟩
      · exact .inl ⟨hlt, q1, q2⟩
      · exact .inr ⟨j, c0, (tau1 hj).symm, q3, q4⟩
    · rw [List.getElem?_append_right (by rw [updT_len]; omega), updT_len] at hm
      obtain ⟨c0, q1, q2⟩ := mapB_at hm
      rw [List.getElem?_drop] at q1
      refine .inr ⟨σ.length + (m - bl.length), c0, ?_, q1, q2⟩
      rw [tau2 (by omega)]
      omega
  have own2 : ∀ b, Owned β2 (aftT σ bl bl') b → (∃ m c s, m ∉ σ ∧ m < bl.length ∧ bl[m]? = some (some c) ∧ β.b[m]? = some (some (b, s))) ∨ Owned β1 bl' b := by
    rintro b ⟨m, c, s, hm, hb'⟩
    rcases at2 hm with ⟨hlt, q1, q2⟩ | ⟨j, c0, rfl, q1, q2⟩
    · exact .inl ⟨m, c, s, q1, hlt, q2, by rw [gold hlt] at hb'; exact hb'⟩
    · exact .inr ⟨j, c0, s, q1, by rw [gtau] at hb'; exact hb'⟩
  have apart : ∀ {m b s : Nat} {c : Ct}, m ∉ σ → bl[m]? = some (some c) → β.b[m]? = some (some (b, s)) → ¬ Owned (takeE σ β bl w) bl0 b := fun {m b s c} hm q1 q2 ho => by
    obtain ⟨j, c', s', hj, r1, r2⟩ := take_own hlen hb ho
    exact hh.sep _ _ _ _ b s s' (fun e => hm (by rw [e]; exact nm_mem hj)) q1 r1 q2 r2
  have own3 : ∀ b, Owned β2 (aftT σ bl bl') b → Owned β bl b ∨ w.heap.size ≤ b := fun b ho => by
    rcases own2 b ho with ⟨m, c, s, -, -, q1, q2⟩ | ho
    · exact .inl ⟨m, c, s, q1, q2⟩
    · exact (new b ho).imp_left (ownC b)
  have hal : (aftT σ bl bl').length = bl.length + (bl'.length - σ.length) := by
    unfold aftT
    rw [List.length_append, updT_len, mapB_len, List.length_drop]
  have hden : Den β2 (ren (tauN σ bl.length) r) v := Den.ren tr hok1 (by rw [ren_id]; exact k4)
  have hext : Ext β bl w β2 (aftT σ bl bl') w' := by
    refine ⟨le, ⟨?_, fun m c hm => ?_, fun m m' c c' b s s' hne hm hm' hb1 hb2 => ?_, fun t b cs' hz => ?_⟩, kx.step.mono ownC, own3, fun b cs' hz => ?_, rfl⟩
    · show (β.b ++ _).length = _
      rw [List.length_append, List.length_drop, hal, hl1, hl]
    · rcases at2 hm with ⟨hlt, q1, q2⟩ | ⟨j, c0, rfl, q1, rfl⟩
      · obtain ⟨base, e, hin⟩ := hh.lv m c q2
        refine ⟨base, by rw [gold hlt]; exact e, (hin.mono le).same fun b s hb' => ?_⟩
        subst hb'
        exact kept b (hh.lt q2 e) (apart q1 q2 e)
      · obtain ⟨base, e, hin⟩ := kx.heap.lv _ _ q1
        refine ⟨base, by rw [gtau]; exact e, ?_⟩
        exact CtIn.ren (ρ := fun l => l) tr hckE (okBls_at hok2 q1).2 (by rw [renCt_id]; exact hin)
    · rcases at2 hm with ⟨l1, q1, q2⟩ | ⟨j, c0, rfl, q1, rfl⟩ <;> rcases at2 hm' with ⟨l2, r1, r2⟩ | ⟨j', c0', rfl, r1, rfl⟩
      · exact hh.sep m m' c c' b s s' hne q2 r2 (by rw [gold l1] at hb1; exact hb1) (by rw [gold l2] at hb2; exact hb2)
      · rw [gold l1] at hb1
        rw [gtau] at hb2
        rcases new b ⟨j', c0', s', r1, hb2⟩ with ho | ho
        · exact apart q1 q2 hb1 ho
        · have := hh.lt q2 hb1; omega
      · rw [gold l2] at hb2
        rw [gtau] at hb1
        rcases new b ⟨j, c0, s, q1, hb1⟩ with ho | ho
        · exact apart r1 r2 hb2 ho
        · have := hh.lt r2 hb2; omega
      · rw [gtau] at hb1 hb2
        exact kx.heap.sep _ _ _ _ b s s' (fun e => hne (by rw [e])) q1 r1 hb1 hb2
    · cases t with
      | false =>
        refine ⟨(kx.heap.frz false b cs' hz).1, fun ho => ?_⟩
        rcases own2 b ho with ⟨m, c, s, q1, q2, q3, q4⟩ | ho
        · rcases kx.zn b cs' hz with h6 | h6 | h6
          · exact (hh.frz false b cs' h6).2 ⟨m, c, s, q3, q4⟩
          · exact apart q1 q3 q4 h6
          · have := hh.lt q3 q4; omega
        · exact (kx.heap.frz false b cs' hz).2 ho
      | true =>
        have hz' : β.fz true b = some cs' := hz
        obtain ⟨⟨T, fz, hg⟩, hno⟩ := hh.frz true b cs' hz'
        have hlt := hh.frz_lt hz'
        refine ⟨⟨T, fz, by rw [kept b hlt fun ho => hno (ownC b ho)]; exact hg⟩, fun ho => ?_⟩
        rcases own3 b ho with ho | ho
        · exact hno ho
        · omega
    · rcases kx.zn b cs' hz with h6 | h6 | h6
      · exact .inl h6
      · exact .inr (.inl (ownC b h6))
      · exact .inr (.inr h6)
  exact ⟨β2, hden, hext⟩
section
variable {P : Program} {pl : FuncId → Nat → Option Plan}
theorem Rch.call {C : Ctx} {S : AV → Bls → Prop} {g : FuncId} {n : Nat} {res : List ResultVar} {code : Code} {args0 : List AV} {tm : TM} {bl bl0 : Bls} {Q : AV → Bls → Prop} {g0 : Fr} {fs : List Fr} (σ : List Nat) (hW : Word P pl g args0 bl0 Q) (hF : fi P g = some ⟨n, res, code⟩)
    (hT : LntT bl σ tm (ini 0 args0)) (hn : σ.Nodup) (hσ : (σ.all fun l => decide (l < bl.length)) = true) (hlen : σ.length = bl0.length) (hb : FitB (nm σ) σ.length bl 0 bl0)
    (hk : ∀ r bl', Q r bl' → (okRet r bl' = true ∧ bl0.length ≤ bl'.length) ∧ ∃ g1, finishS g0 (ren (tauN σ bl.length) r) = some g1 ∧ Rch P pl C ⟨g1 :: fs, aftT σ bl bl'⟩ S) :
    Rch P pl C ⟨⟨g, n, tm, [.code code], none, [], []⟩ :: g0 :: fs, bl⟩ S := by
  rintro β m ⟨⟨f, fs', fr, ts, w, e, rfl, h1, h2, h3⟩, h4, h5⟩
  simp only [List.cons.injEq] at e
  obtain ⟨rfl, rfl⟩ := e
  have hh := h3.heap
  obtain ⟨F, hF', hargs, hrun⟩ := hW
  rw [hF] at hF'
  obtain rfl := Option.some.inj hF'
  have hk0 := take_heap hh hn hlen hb
  obtain ⟨tmps, ds, t, ro, rfl, g1, g2, g3⟩ := h1
  have g3 : TmOk β n tm tmps ∧ KR β g [.code code] t := g3
  obtain ⟨⟨gt1, gt2⟩, gk⟩ := g3
  have gck : (takeE σ β bl w).ck = β.ck := rfl
  have fr0' : FrR P (takeE σ β bl w) bl0 none ⟨g, n, ini 0 args0, [.code code], none, [], []⟩ ((fr0 g ro).atR ⟨tmps, ds⟩ t) := by
    obtain ⟨y, t', e1, e2, e3⟩ := gk
    exact ⟨tmps, ds, t, ro, rfl, g1, g2, ⟨gt1, fun s => lntT_get hh hT (gt2 s)⟩, y, t', e1, ⟨e2.1, by rw [gck]; exact e2.2⟩, e3⟩
  have run := hrun ⟨takeE σ β bl w, bl0, w, ts ++ C.cs, g⟩ rfl hk0.len (takeE σ β bl w) (lone ((fr0 g ro).atR ⟨tmps, ds⟩ t) (ts ++ C.cs) w)
    ⟨⟨_, [], _, [], w, rfl, rfl, fr0', rfl, .refl hk0⟩, rfl, h5⟩
  obtain ⟨v, fr, β1, r, bl', w', k1, k2, k3, k4, k5, k6⟩ := run
  have kx : Ext (takeE σ β bl w) bl0 w β1 bl' w' := k5
  obtain ⟨⟨hok, hlen'⟩, gg, hfin, hgo⟩ := hk r bl' k6
  obtain ⟨β2, hden, hext⟩ := ret_core hh hn hσ hlen hb kx k4 hok hlen'
  obtain ⟨frg, ts', rfl, a1, a2, a3⟩ := h2
  have hkp : Kp [] bl (aftT σ bl bl') := fun q hq => by cases hq
  obtain ⟨f1, f2, f3⟩ := finish_ok (bl' := aftT σ bl bl') hfin a1 hext.le hkp hden
  refine Fin.steps (k1.trans (.one (step_leave_returned k3))) (hgo β2 _ ⟨⟨gg, fs, frg.finish v, ts', w', rfl, rfl, f1, ?_, h3.trans hext⟩, ?_, hext.le.ck.trans h5⟩)
  · rw [f3]
    exact a3.mono hext.le (hkp.sub a2)
  · exact Bot.same (f := g0) h4 f2
end
def stops (st : List Nat) (c : Conf) : Bool := match c with
  | ⟨⟨fn, _, _, k, _, _, _⟩ :: _ :: _, _⟩ => (match k with
    | [.code _] => st.contains fn
    | _ => false)
  | _ => false
def ExS (P : Program) (K : KT) (pl : FuncId → Nat → Option Plan) (st : List Nat) : Nat → Option (Bool × Conf) → Conf → (AV → Bls → Prop) → (Conf → Prop) → Prop
  | 0, o, c, _, R => (match o with
    | none => R c
    | some (b, c2) => (b = true → R c) ∧ (b = false → R c2))
  | n + 1, o, c, S, R => (match o with
    | some (b, c2) => (b = true → ExS P K pl st n none c S R) ∧ (b = false → ExS P K pl st n none c2 S R)
    | none => (match stops st c with
      | true => R c
      | false => (match stepF P K pl false c with
        | .next vc c' => vc = true ∧ ExS P K pl st n none c' S R
        | .split b c1 c2 => ExS P K pl st n (some (b, c2)) c1 S R
        | .fin vc r bl => vc = true ∧ S r bl
        | .stop => R c)))
section
variable {P : Program} {K : KT} {pl : FuncId → Nat → Option Plan} {st : List Nat} {n : Nat} {c c1 c2 : Conf} {S : AV → Bls → Prop} {R : Conf → Prop}
theorem exs_zero : ExS P K pl st 0 none c S R = R c := rfl
theorem exs_step : ExS P K pl st (n + 1) none c S R = (match stops st c with
      | true => R c
      | false => (match stepF P K pl false c with
        | .next vc c' => vc = true ∧ ExS P K pl st n none c' S R
        | .split b c1 c2 => ExS P K pl st n (some (b, c2)) c1 S R
        | .fin vc r bl => vc = true ∧ S r bl
        | .stop => R c)) := rfl
theorem exs_go {f : Fr} {fs : List Fr} {bl : Bls} : ExS P K pl st (n + 1) none ⟨f :: fs, bl⟩ S R = (match stops st ⟨f :: fs, bl⟩ with
      | true => R ⟨f :: fs, bl⟩
      | false => (match stepF P K pl false ⟨f :: fs, bl⟩ with
        | .next vc c' => vc = true ∧ ExS P K pl st n none c' S R
        | .split b c1 c2 => ExS P K pl st n (some (b, c2)) c1 S R
        | .fin vc r bl => vc = true ∧ S r bl
        | .stop => R ⟨f :: fs, bl⟩)) := rfl
theorem exs_t : ExS P K pl st (n + 1) (some (true, c2)) c1 S R = ExS P K pl st n none c1 S R := by simp [ExS]
theorem exs_f : ExS P K pl st (n + 1) (some (false, c2)) c1 S R = ExS P K pl st n none c2 S R := by simp [ExS]
theorem exs_t0 : ExS P K pl st 0 (some (true, c2)) c1 S R = R c1 := by simp [ExS]
theorem exs_f0 : ExS P K pl st 0 (some (false, c2)) c1 S R = R c2 := by simp [ExS]
theorem ExS_ok' (hpl : PlOk P pl) (hK : KOk P pl K) {C : Ctx} (hR : ∀ c, R c → Rch P pl C c S) : ∀ {n : Nat} {o : Option (Bool × Conf)} {c : Conf}, ExS P K pl st n o c S R →
    (match o with
    | none => Rch P pl C c S
    | some (b, c2) => (b = true → Rch P pl C c S) ∧ (b = false → Rch P pl C c2 S))
  | 0, none, c, h => hR c h
  | 0, some (b, c2), c, h => ⟨fun hb => hR c (h.1 hb), fun hb => hR c2 (h.2 hb)⟩
  | n + 1, some (b, c2), c, h => ⟨fun hb => ExS_ok' hpl hK hR (n := n) (o := none) (h.1 hb), fun hb => ExS_ok' hpl hK hR (n := n) (o := none) (h.2 hb)⟩
  | n + 1, none, c, h => by
    have hok := stp_ok (C := C) hpl hK false c
    simp only [exs_step, stepF_eq, pre] at h
    split at h
    · exact hR c h
    · split at h
      · rename_i vc c' e
        rw [e] at hok
        exact (hok h.1).rch (ExS_ok' hpl hK hR (n := n) (o := none) h.2)
      · rename_i b c1 c2 e
        rw [e] at hok
        have h2 := ExS_ok' hpl hK hR (n := n) (o := some (b, c2)) h
        cases b with
        | true => exact (hok.1 rfl).rch (h2.1 rfl)
        | false => exact (hok.2 rfl).rch (h2.2 rfl)
      · rename_i vc r bl e
        rw [e] at hok
        exact hok h.1 S h.2
      · exact hR c h
theorem ExS_ok (st : List Nat) (n : Nat) (hpl : PlOk P pl) (hK : KOk P pl K) {C : Ctx} (h : ExS P K pl st n none c S (fun c => Rch P pl C c S)) : Rch P pl C c S := ExS_ok' hpl hK (o := none) (fun _ h => h) h
end
end Go.SY
/-
  The symbolic machine: regions of which two effects may be drawn in either order; runs that go both ways.
-/
namespace Go.SY
open Go Go.RowKit
inductive PT where
  | leaf (p : Plan)
  | br (a b : Nat) (l r : PT)
def okPT (P : Program) (all : Array Oper) : Pairs → PT → Bool
  | X, .leaf p => ordXB P X all p
  | X, .br a b l r => !Nat.beq a b && (decide (a < all.size) && (decide (b < all.size) && (okPT P all ((a, b) :: X) l && okPT P all ((b, a) :: X) r)))
def leaves : PT → List Plan
  | .leaf p => [p]
  | .br _ _ l r => leaves l ++ leaves r
theorem pick_plan {P : Program} {all : Array Oper} {L : List Nat} : ∀ {t : PT} {X : Pairs}, okPT P all X t = true → Sched X all (Array.replicate all.size false) L → ∃ p ∈ leaves t, ∃ X', OrdX P X' all p ∧ Sched X' all (Array.replicate all.size false) L
  | .leaf p, X, h, hs => ⟨p, by simp [leaves], X, ordXB_ok h, hs⟩
  | .br a b l r, X, h, hs => by
    simp only [okPT, Bool.and_eq_true, Bool.not_eq_true', decide_eq_true_eq] at h
    obtain ⟨h1, h2, h3, h4, h5⟩ := h
    have hab : a ≠ b := fun e => by subst e; simp at h1
    rcases hs.either hab (by simp) (by simp [h2]) (by simp [h3]) with g | g
    · obtain ⟨p, hp, q⟩ := pick_plan h4 g
      exact ⟨p, List.mem_append_left _ hp, q⟩
    · obtain ⟨p, hp, q⟩ := pick_plan h5 g
      exact ⟨p, List.mem_append_right _ hp, q⟩
section
variable {P : Program} {pl : FuncId → Nat → Option Plan} {C : Ctx} {S : AV → Bls → Prop} {fn : FuncId} {n : Nat} {tm : TM} {k : List SI} {rd : Option Nat} {ms lk : List Nat} {fs : List Fr} {bl : Bls}
theorem Rch.alts (hpl : PlOk P pl) {id : Nat} {all : Array Oper} {t : PT} (ht : okPT P all [] t = true) (h : ∀ p ∈ leaves t, Rch P pl C ⟨⟨fn, n, tm, .dr all p [] none :: k, rd, ms, lk⟩ :: fs, bl⟩ S) :
    Rch P pl C ⟨⟨fn, n, tm, .code (.region id all true) :: k, rd, ms, lk⟩ :: fs, bl⟩ S := by
  rintro β m ⟨⟨f, fs', fr, ts, w, e, rfl, h1, h2, h3⟩, h4, h5⟩
  simp only [List.cons.injEq] at e
  obtain ⟨rfl, rfl⟩ := e
  obtain ⟨tmps, ds, y, t0, ro, rfl, g1, g2, g3, ⟨rfl, hc⟩, g5⟩ := h1.plain (by simp) (by simp)
  have hs : ∀ all : Array Oper, Region.schedule (P.follows .mixedOrders) all = Region.linearise .any all := fun all => by funext t; simp [Region.schedule, hpl.mix]
  have hext := Ext.drawn h3.heap (w.drawn + 1)
  refine Fin.steps (.one stepR_region_draw) ?_
  rw [hs]
  obtain ⟨p, hp, X, hX1, hX2⟩ := pick_plan ht (sched_init (all := all) _)
  exact h p hp β _ ⟨⟨_, fs, _, ts, _, rfl, rfl, ⟨tmps, ds, _, ro, rfl, g1, g2, ⟨_, t0, rfl, g5, DrR.startX hX1 g3 hX2, fun b hb => by cases hb⟩⟩, h2.mono (.refl _) (.refl _ _), h3.trans hext⟩, Bot.same (f := ⟨fn, n, tm, .code (.region id all true) :: k, rd, ms, lk⟩) h4 rfl, h5⟩
end
abbrev Pts := List (Nat × List (Nat × PT))
def ptk : List (Nat × PT) → Nat → Option PT
  | [], _ => none
  | (k, p) :: r, i => if k = i then some p else ptk r i
def ptt : Pts → FuncId → List (Nat × PT)
  | [], _ => []
  | (k, p) :: r, f => if k = f then p else ptt r f
def altsOf (P : Program) (T : Pts) (c : Conf) : List Conf := match c with
  | ⟨⟨fn, n, tm, k, rd, ms, lk⟩ :: fs, bl⟩ => (match k with
    | .code (.region id all true) :: k => (match ptk (ptt T fn) id with
      | some t => (match okPT P all [] t with
        | true => (leaves t).map fun p => ⟨⟨fn, n, tm, .dr all p [] none :: k, rd, ms, lk⟩ :: fs, bl⟩
        | false => [])
      | none => [])
    | _ => [])
  | _ => []
def allC (f : Conf → Bool) : List Conf → Bool
  | [] => true
  | c :: r => (match f c with
    | true => allC f r
    | false => false)
theorem allC_ok {f : Conf → Bool} : ∀ {l : List Conf}, allC f l = true → ∀ c ∈ l, f c = true
  | [], _, c, hc => by cases hc
  | x :: r, h, c, hc => by
    simp only [allC] at h
    split at h
    · rename_i e
      rcases List.mem_cons.1 hc with rfl | hc
      · exact e
      · exact allC_ok h c hc
    · cases h
def runB (P : Program) (K : KT) (pl : FuncId → Nat → Option Plan) (T : Pts) (tst : AV → Bool) (bs : List Nat) : Nat → Nat → Conf → Bool
  | _, 0, _ => false
  | j, n + 1, c => (match stepF P K pl true c with
    | .next vc c' => (match vc with
      | true => runB P K pl T tst bs j n c'
      | false => false)
    | .split b c1 c2 => (match bs.contains j with
      | true => (match runB P K pl T tst bs (j + 1) n c1 with
        | true => runB P K pl T tst bs (j + 1) n c2
        | false => false)
      | false => (match b with
        | true => runB P K pl T tst bs (j + 1) n c1
        | false => runB P K pl T tst bs (j + 1) n c2))
    | .fin vc r _ => (match vc with
      | true => tst r
      | false => false)
    | .stop => (match altsOf P T c with
      | [] => false
      | x :: r => allC (runB P K pl T tst bs j n) (x :: r)))
theorem alts_rch {P : Program} {pl : FuncId → Nat → Option Plan} (hpl : PlOk P pl) {T : Pts} {C : Ctx} {S : AV → Bls → Prop} {c : Conf} (hne : altsOf P T c ≠ []) (h : ∀ c' ∈ altsOf P T c, Rch P pl C c' S) : Rch P pl C c S := by
  unfold altsOf at hne h
  split at hne
  · rename_i fn n tm k rd ms lk fs bl
    simp only at h
    split at hne
    · rename_i id all k'
      simp only at h
      split at hne
      · rename_i t e
        simp only [e] at h
        split at hne
        · rename_i e2
          simp only [e2] at h
          exact Rch.alts hpl e2 fun p hp => h _ (List.mem_map.2 ⟨p, hp, rfl⟩)
        · exact absurd rfl hne
      · exact absurd rfl hne
    · exact absurd rfl hne
  · exact absurd rfl hne
theorem runB_ok {P : Program} {K : KT} {pl : FuncId → Nat → Option Plan} (hpl : PlOk P pl) (hK : KOk P pl K) {T : Pts} {tst : AV → Bool} {bs : List Nat} {C : Ctx} {S : AV → Bls → Prop} (hS : ∀ r bl, tst r = true → S r bl) : ∀ {n j : Nat} {c : Conf}, runB P K pl T tst bs j n c = true → Rch P pl C c S
  | 0, _, _, h => by simp [runB] at h
  | n + 1, j, c, h => by
    have hok := stp_ok (C := C) hpl hK true (clean c)
    simp only [runB, stepF_eq, pre] at h
    split at h
    · rename_i vc c' e
      rw [e] at hok
      split at h
      · exact (clean_to P pl C c).rch ((hok rfl).rch (runB_ok hpl hK hS h))
      · cases h
    · rename_i b c1 c2 e
      rw [e] at hok
      split at h
      · split at h
        · rename_i h1
          cases b with
          | true => exact (clean_to P pl C c).rch ((hok.1 rfl).rch (runB_ok hpl hK hS h1))
          | false => exact (clean_to P pl C c).rch ((hok.2 rfl).rch (runB_ok hpl hK hS h))
        · cases h
      · split at h
        · exact (clean_to P pl C c).rch ((hok.1 rfl).rch (runB_ok hpl hK hS h))
        · exact (clean_to P pl C c).rch ((hok.2 rfl).rch (runB_ok hpl hK hS h))
    · rename_i vc r bl e
      rw [e] at hok
      split at h
      · exact (clean_to P pl C c).rch (hok rfl S (hS _ _ h))
      · cases h
    · split at h
      · cases h
      · rename_i x r e
        exact alts_rch (T := T) hpl (by rw [e]; simp) fun c' hc' => runB_ok hpl hK hS (allC_ok h c' (by rw [← e]; exact hc'))
def isTrue : AV → Bool
  | .v (.bool true) => true
  | _ => false
theorem isTrue_eq {r : AV} (h : isTrue r = true) : r = .v (.bool true) := by
  unfold isTrue at h
  split at h
  · rfl
  · cases h
def runX (P : Program) (K : KT) (T : Pls) (T2 : Pts) (bs : List Nat) (n : Nat) (f : FuncId) (args : List AV) : Bool := match fi P f with
  | some F => (match decide (args.length ≤ F.n) with
    | true => runB P K (plOf T) T2 isTrue bs 0 n (conf0 f F args [])
    | false => false)
  | none => false
def specT : List AV → Option (Bool × AV × Bls) := fun args => match args with
  | [] => some (true, .v (.bool true), [])
  | _ => none
theorem spec_true {P : Program} {T : Pls} {K : KT} (hpl : PlOk P (plOf T)) (hK : KOk P (plOf T) K) {T2 : Pts} {bs : List Nat} {f : FuncId} {n : Nat} (h : runX P K T T2 bs n f [] = true) : SpecOk P (plOf T) f specT := by
  unfold runX at h
  split at h
  · rename_i F hF
    split at h
    · refine ⟨F, hF, fun args r0 bl0 h0 => ?_⟩
      unfold specT at h0
      split at h0
      · simp only [Option.some.injEq, Prod.mk.injEq, true_and] at h0
        obtain ⟨rfl, rfl⟩ := h0
        exact ⟨Nat.zero_le _, fun C _ _ => runB_ok hpl hK (fun r bl h => by rw [isTrue_eq h]; exact Res.val _ _) h⟩
      · cases h0
    · cases h
  · cases h
end Go.SY
/-
  The symbolic machine: slices.overlaps.
-/
namespace Go.SY
open Go
theorem shape_cells {w : World} {b : Nat} {cs : Array Value} {T : TypeId} {fz : Nat × Nat} (h : w.heap[b]? = some (.cells cs T fz)) : w.shape? b = some (T, cs.size) := by simp [World.shape?, h]
theorem frozen_off {w : World} {b o : Nat} {cs : Array Value} {T : TypeId} {fz : Nat × Nat} (h : w.heap[b]? = some (.cells cs T fz)) (hf : fz.1 = fz.2) : w.frozen? ⟨b, o, none⟩ = false := by
  obtain ⟨lo, hi⟩ := fz
  simp only at hf
  subst hf
  simp [World.frozen?, h]
theorem overlaps_run {P : Program} {w : World} {t e : TypeId} {size : Nat} {ts rs : Array TypeId} (ht : ts[0]? = some t) (hut : P.underlying t = some (.slice e)) (hcz : P.cellsOf e = size) (h0 : size ≠ 0) {a b oa ob la lb qa qb : Nat} (hne : a ≠ b) {ca cb : Array Value} {Ta Tb : TypeId} {fa fb : Nat × Nat}
    (ha : la ≠ 0 → w.heap[a]? = some (.cells ca Ta fa) ∧ ca.size ≠ 0) (hb : w.heap[b]? = some (.cells cb Tb fb)) (hfb : fb.1 = fb.2) :
    (Extern.SlicesOverlaps.overlaps ts rs #[.slice (some ⟨a, oa, none⟩) la qa, .slice (some ⟨b, ob, none⟩) lb qb]).run P w = .ok (.bool false) w := by
  delta Extern.SlicesOverlaps.overlaps
  conv => lhs; arg 2; whnf
  simp only [ht]
  by_cases hl : la = 0
  · simp [underlying_run w hut, sizeOf_pos w hcz h0, hl]
  obtain ⟨ha, hs⟩ := ha hl
  have hbe : (a == b) = false := by simpa using hne
  have h1 := shape_cells ha
  have h2 := shape_cells hb
  have h3 : ∀ o, w.frozen? ⟨b, o, none⟩ = false := fun o => frozen_off hb hfb
  by_cases hl2 : lb = 0
  · simp [underlying_run w hut, sizeOf_pos w hcz h0, hl2]
  have r1 : ∀ x : Addr, Sem.run P (Sem.frozen x Sem.pure) w = .ok (w.frozen? x) w := fun _ => rfl
  have r2 : ∀ x : Nat, Sem.run P (Sem.shape x Sem.pure) w = .ok (w.shape? x) w := fun _ => rfl
  obtain ⟨m, hm⟩ : ∃ m, ca.size = m + 1 := ⟨ca.size - 1, by omega⟩
  rw [hm] at h1
  simp [underlying_run w hut, sizeOf_pos w hcz h0, hl, hl2, h0, hbe, hne, frozen, h3, noView, viewAt, shape, h1, h2, mayBeOne, stringish, r1, r2]
def rwz : Ct → Option Nat
  | .rows w _ => some w
  | .num k _ => (match k with
    | .u8 => none
    | _ => some 1)
  | _ => none
theorem rwz_spz {c : Ct} {n : Nat} (h : rwz c = some n) : spz c = true ∧ c.cell = true := by
  unfold rwz at h
  split at h
  · exact ⟨rfl, rfl⟩
  · rename_i k xs
    cases k <;> simp at h <;> exact ⟨rfl, rfl⟩
  · cases h
def ovlK (args : List AV) (bl : Bls) : Option (Bool × AV × Bls) := match args with
  | [a, .sl l _ w n _] => (match lvl bl l with
    | some cb => (match rwz cb with
      | some w2 => if w = w2 ∧ w ≠ 0 then (match a with
        | .nil => some (true, .v (.bool false), bl)
        | .imr _ w' _ _ => if w' = w then some (true, .v (.bool false), bl) else none
        | .imn _ _ _ _ => some (true, .v (.bool false), bl)
        | .sl l' _ w' _ _ => if l' = l then none else (match lvl bl l' with
          | some ca => if ca.cell = true ∧ w' = w then some (true, .v (.bool false), bl) else none
          | _ => none)
        | _ => none) else none
      | none => none)
    | none => none)
  | _ => none
theorem ovl_ok {P : Program} {g : FuncId} {fn : Func} {t e : TypeId} {size : Nat} (hf : P.funcs[g]? = some fn) (hn : (fn.name == "runtime.NumGoroutine") = false) (hb : fn.body = none) (h1 : Extern.findNext fn = none) (h2 : Extern.find fn = some (Extern.SlicesOverlaps.overlaps fn.params fn.resultTypes))
    (ht : fn.params[0]? = some t) (hut : P.underlying t = some (.slice e)) (hcz : P.cellsOf e = size) (h0 : size ≠ 0) : ExtOk P g ovlK := by
  intro args bl r bl' hx
  unfold ovlK at hx
  split at hx
  · rename_i a l i w2 n c
    split at hx
    · rename_i cb hl
      split at hx
      rotate_left
      · cases hx
      rename_i w3 hrw
      obtain ⟨hspz, hcellb⟩ := rwz_spz hrw
      split at hx
      · rename_i hw
        obtain ⟨rfl, hw0⟩ := hw
        have fin : ∀ {β : Env} {w : World} {va vb : Value}, (Extern.SlicesOverlaps.overlaps fn.params fn.resultTypes #[va, vb]).run P w = .ok (.bool false) w → ∃ y, Den β (.v (.bool false)) y ∧ (callFunc g #[va, vb]).run P w = .ok (.value y) w := fun h => ⟨.bool false, by simp [Den, one, wfV], extern_run hf hn hb h1 h2 _ h⟩
        have nilc : ∀ {w : World} {la qa : Nat} {vb : Option Addr} {lb qb : Nat}, (Extern.SlicesOverlaps.overlaps fn.params fn.resultTypes #[.slice none la qa, .slice vb lb qb]).run P w = .ok (.bool false) w := fun {w la qa vb lb qb} => by
          delta Extern.SlicesOverlaps.overlaps
          conv => lhs; arg 2; whnf
          simp only [ht]
          simp [underlying_run w hut, sizeOf_pos w hcz h0]
        have nilc2 : ∀ {w : World} {la qa : Nat} {va : Option Addr} {lb qb : Nat}, (Extern.SlicesOverlaps.overlaps fn.params fn.resultTypes #[.slice va la qa, .slice none lb qb]).run P w = .ok (.bool false) w := fun {w la qa va lb qb} => by
          delta Extern.SlicesOverlaps.overlaps
          conv => lhs; arg 2; whnf
          simp only [ht]
          cases va <;> simp [underlying_run w hut, sizeOf_pos w hcz h0]
        have early : ∀ {w : World} {A B : Option Addr} {la qa lb qb : Nat}, la = 0 ∨ lb = 0 → (Extern.SlicesOverlaps.overlaps fn.params fn.resultTypes #[.slice A la qa, .slice B lb qb]).run P w = .ok (.bool false) w := fun {w A B la qa lb qb} h => by
          delta Extern.SlicesOverlaps.overlaps
          conv => lhs; arg 2; whnf
          simp only [ht]
          have h' : la = 0 ∨ lb = 0 ∨ size = 0 := by omega
          cases A <;> cases B <;> simp [underlying_run w hut, sizeOf_pos w hcz h0, h']
        -- with a first one that lies elsewhere
        have core : ∀ {β : Env} {w : World} {va vb : Value} {A : Option Addr} {la qa : Nat}, Heap β bl w → va = .slice A la qa → Den β (.sl l i w2 n c) vb → la ≤ qa →
            (qa ≠ 0 → ∃ b o, A = some ⟨b, o, none⟩ ∧ (∀ s, β.b[l]? ≠ some (some (b, s))) ∧ (la ≠ 0 → ∃ cs T fz, w.heap[b]? = some (.cells cs T fz) ∧ cs.size ≠ 0)) →
            (Extern.SlicesOverlaps.overlaps fn.params fn.resultTypes #[va, vb]).run P w = .ok (.bool false) w := by
          intro β w va vb A la qa hh hva hvb hla hA
          subst hva
          simp only [Den] at hvb
          obtain ⟨B, q, rfl, k1, k2, k3, k4⟩ := hvb
          cases A with
          | none => exact nilc
          | some A =>
            cases B with
            | none => exact nilc2
            | some B =>
              by_cases hq : q = 0
              · exact early (.inr (by omega))
              · by_cases hqa : qa = 0
                · exact early (.inl (by omega))
                · obtain ⟨b, s, hb1, hb2, hb3⟩ := k4 hq
                  obtain ⟨a', o', ha1, ha2, ha3⟩ := hA hqa
                  obtain rfl := Option.some.inj hb2
                  obtain rfl := Option.some.inj ha1
                  obtain ⟨ys, sp, T, fz, hg, hs, hc, hsp, hfz⟩ := heap_cells hh hl hb1 hcellb
                  have hne : a' ≠ b := fun e => ha2 s (by rw [e]; exact hb1)
                  by_cases hla0 : la = 0
                  · subst hla0
                    exact overlaps_run (ca := #[]) (Ta := 0) (fa := (0, 0)) ht hut hcz h0 hne (fun h => absurd rfl h) hg (hfz.2.2 hspz)
                  · obtain ⟨cs, T', fz', e1, e2⟩ := ha3 hla0
                    exact overlaps_run ht hut hcz h0 hne (fun _ => ⟨e1, e2⟩) hg (hfz.2.2 hspz)
        have go : ∀ {vc : Bool} (hq : some (vc, AV.v (.bool false), bl) = some (true, r, bl')), (∀ (β : Env) (w : World) (va vb : Value), Heap β bl w → Den β a va → Den β (.sl l i w2 n c) vb → (Extern.SlicesOverlaps.overlaps fn.params fn.resultTypes #[va, vb]).run P w = .ok (.bool false) w) →
            bl' = bl ∧ ∀ (β : Env) (w : World) (vs : List Value), Heap β bl w → DenL β [a, .sl l i w2 n c] vs → ∃ y, Den β r y ∧ (callFunc g vs.toArray).run P w = .ok (.value y) w := by
          intro vc hq h
          simp only [Option.some.injEq, Prod.mk.injEq] at hq
          obtain ⟨-, rfl, rfl⟩ := hq
          refine ⟨rfl, fun β w vs hh hd => ?_⟩
          simp only [DenL] at hd
          obtain ⟨va, z1, rfl, d1, vb, z2, rfl, d2, rfl⟩ := hd
          exact fin (h β w va vb hh d1 d2)
        split at hx
        · refine go hx fun β w va vb hh d1 d2 => ?_
          simp only [Den] at d1
          exact core hh d1 d2 (Nat.le_refl _) (fun h => absurd rfl h)
        · rename_i t' w' rs' c'
          split at hx
          · rename_i hw'
            subst hw'
            refine go hx fun β w va vb hh d1 d2 => ?_
            simp only [Den] at d1
            obtain ⟨A, q, ys, rfl, k1, k2, k3, k4, k5⟩ := d1
            refine core hh rfl d2 k1 fun hq => ?_
            obtain ⟨b, o, hA, cs, hz, hcs⟩ := k5 hq
            obtain ⟨⟨T, fz, hg⟩, hno⟩ := hh.frz t' b cs hz
            refine ⟨b, o, hA, fun s hs => hno ⟨l, _, s, lvl_get hl, hs⟩, fun hla => ⟨cs, T, fz, hg, fun he => ?_⟩⟩
            have hyl := denR_len k4
            have hpos : 0 < ys.length := by rw [hyl]; exact Nat.mul_pos (by omega) (by omega)
            have := hcs 0 ys[0] (List.getElem?_eq_getElem hpos)
            have := (Array.getElem?_eq_some_iff.1 this).1
            omega
          · cases hx
        · rename_i t' k' xs' c'
          refine go hx fun β w va vb hh d1 d2 => ?_
          simp only [Den] at d1
          obtain ⟨A, q, rfl, k1, k2, k3, k4, k5⟩ := d1
          refine core hh rfl d2 k1 fun hq => ?_
          obtain ⟨b, o, hA, cs, hz, hcs⟩ := k5 hq
          obtain ⟨⟨T, fz, hg⟩, hno⟩ := hh.frz t' b cs hz
          refine ⟨b, o, hA, fun s hs => hno ⟨l, _, s, lvl_get hl, hs⟩, fun hla => ⟨cs, T, fz, hg, fun he => ?_⟩⟩
          have hpos : 0 < (xs'.map (Value.int k')).length := by simp; omega
          have := hcs 0 _ (List.getElem?_eq_getElem hpos)
          have := (Array.getElem?_eq_some_iff.1 this).1
          omega
        · rename_i l' i' w' n' c'
          split at hx
          · cases hx
          · rename_i hll
            split at hx
            · rename_i ca hl'
              split at hx
              · rename_i hww
                obtain ⟨hca, hww⟩ := hww
                refine go hx fun β w va vb hh d1 d2 => ?_
                simp only [Den] at d1
                obtain ⟨A, q, rfl, k1, k2, k3, k4⟩ := d1
                refine core hh rfl d2 k1 fun hq => ?_
                obtain ⟨b, s, hb, hA, hfit⟩ := k4 hq
                refine ⟨b, _, hA, fun s' hs' => hh.sep l' l _ _ b s s' hll (lvl_get hl') (lvl_get hl) hb hs', fun hla => ?_⟩
                obtain ⟨ys, sp, T, fz, hg, hs, -, -, -⟩ := heap_cells hh hl' hb hca
                refine ⟨_, T, fz, hg, fun he => ?_⟩
                have hs0 : s = 0 := by simp at he; simp [he] at hs; omega
                rw [hs0] at hfit
                have : 0 < (i' + q) * w' := Nat.mul_pos (by omega) (by omega)
                omega
              · cases hx
            · cases hx
        · cases hx
      · cases hx
    · cases hx
  · cases hx
def ktB (L : List (FuncId × (List AV → Bls → Option (Bool × AV × Bls)))) (K : KT) : KT := fun g => match L with
  | [] => K g
  | (k, x) :: r => if k = g then some x else ktB r K g
theorem ktB_ok {P : Program} {pl : FuncId → Nat → Option Plan} {K : KT} (hK : KOk P pl K) : ∀ {L : List (FuncId × (List AV → Bls → Option (Bool × AV × Bls)))}, (∀ x ∈ L, ExtOk P x.1 x.2) → KOk P pl (ktB L K)
  | [], _ => hK
  | (k, x) :: r, h => fun g c hc => by
    simp only [ktB] at hc
    split at hc
    · rename_i e
      subst e
      obtain rfl := Option.some.inj hc
      exact .inl (h (k, x) (by simp))
    · exact ktB_ok hK (fun x hx => h x (by simp [hx])) g c hc
end Go.SY
/-
  The symbolic machine: words on memory that is taken over, as contracts; slices.Insert.
-/
namespace Go.SY
open Go
mutual
theorem ren_free (ρ : Nat → Nat) {T : Bool} : ∀ {x : AV}, lvB 0 T x = true → ren ρ x = x
  | .ptr .., h => by simp [lvB] at h
  | .sl .., h => by simp [lvB] at h
  | .mp _, h => by simp [lvB] at h
  | .yld _, h => by simp [lvB] at h
  | .fn f a b, h => by
    simp only [lvB, Bool.and_eq_true] at h
    simp only [ren, renL_free ρ h.1, renL_free ρ h.2]
  | .agg xs, h => by simp only [lvB] at h; simp only [ren, renL_free ρ h]
  | .tup xs, h => by simp only [lvB] at h; simp only [ren, renL_free ρ h]
  | .imr t w rs c, h => by simp only [lvB, Bool.and_eq_true] at h; simp only [ren, renR_free ρ h.2]
  | .ip t row k, h => by simp only [lvB, Bool.and_eq_true] at h; simp only [ren, renL_free ρ h.2]
  | .v _, _ => rfl
  | .nil, _ => rfl
  | .imn .., _ => rfl
  | .ch .., _ => rfl
  | .any, _ => rfl
theorem renL_free (ρ : Nat → Nat) {T : Bool} : ∀ {x : List AV}, lvL 0 T x = true → renL ρ x = x
  | [], _ => rfl
  | x :: r, h => by
    simp only [lvL, Bool.and_eq_true] at h
    simp only [renL, ren_free ρ h.1, renL_free ρ h.2]
theorem renR_free (ρ : Nat → Nat) {T : Bool} : ∀ {x : List (List AV)}, lvR 0 T x = true → renR ρ x = x
  | [], _ => rfl
  | x :: r, h => by
    simp only [lvR, Bool.and_eq_true] at h
    simp only [renR, renL_free ρ h.1, renR_free ρ h.2]
end
mutual
theorem lvB_up {N : Nat} {T T' : Bool} (hT : T = true → T' = true) : ∀ {x : AV}, lvB 0 T x = true → lvB N T' x = true
  | .ptr .., h => by simp [lvB] at h
  | .sl .., h => by simp [lvB] at h
  | .mp _, h => by simp [lvB] at h
  | .yld _, h => by simp [lvB] at h
  | .fn f a b, h => by
    simp only [lvB, Bool.and_eq_true] at h ⊢
    exact ⟨lvL_up hT h.1, lvL_up hT h.2⟩
  | .agg xs, h => by simp only [lvB] at h ⊢; exact lvL_up hT h
  | .tup xs, h => by simp only [lvB] at h ⊢; exact lvL_up hT h
  | .imr t w rs c, h => by
    simp only [lvB, Bool.and_eq_true] at h ⊢
    exact ⟨by cases t <;> simp_all [tB], lvR_up hT h.2⟩
  | .ip t row k, h => by
    simp only [lvB, Bool.and_eq_true] at h ⊢
    exact ⟨by cases t <;> simp_all [tB], lvL_up hT h.2⟩
  | .v _, _ => rfl
  | .nil, _ => rfl
  | .imn t _ _ _, h => by simp only [lvB] at h ⊢; cases t <;> simp_all [tB]
  | .ch .., _ => rfl
  | .any, _ => rfl
theorem lvL_up {N : Nat} {T T' : Bool} (hT : T = true → T' = true) : ∀ {x : List AV}, lvL 0 T x = true → lvL N T' x = true
  | [], _ => rfl
  | x :: r, h => by
    simp only [lvL, Bool.and_eq_true] at h ⊢
    exact ⟨lvB_up hT h.1, lvL_up hT h.2⟩
theorem lvR_up {N : Nat} {T T' : Bool} (hT : T = true → T' = true) : ∀ {x : List (List AV)}, lvR 0 T x = true → lvR N T' x = true
  | [], _ => rfl
  | x :: r, h => by
    simp only [lvR, Bool.and_eq_true] at h ⊢
    exact ⟨lvL_up hT h.1, lvR_up hT h.2⟩
end
theorem lvR_app {N : Nat} {T : Bool} : ∀ {a b : List (List AV)}, lvR N T a = true → lvR N T b = true → lvR N T (a ++ b) = true
  | [], _, _, h => h
  | x :: a, b, h, k => by
    simp only [lvR, Bool.and_eq_true, List.cons_append] at h ⊢
    exact ⟨h.1, lvR_app h.2 k⟩
def LntL (bl : Bls) (σ : List Nat) : List AV → List AV → Prop
  | [], xs0 => xs0 = []
  | x :: r, xs0 => ∃ x0 r0, xs0 = x0 :: r0 ∧ LntA bl σ x x0 ∧ LntL bl σ r r0
theorem lntL_den {β : Env} {bl : Bls} {w : World} {σ : List Nat} (hh : Heap β bl w) : ∀ {xs xs0 : List AV} {vs : List Value}, LntL bl σ xs xs0 → DenL β xs vs → DenL (takeE σ β bl w) xs0 vs
  | [], xs0, vs, h, hd => by
    simp only [LntL] at h
    subst h
    simpa only [DenL] using hd
  | x :: r, _, vs, h, hd => by
    simp only [LntL] at h
    obtain ⟨x0, r0, rfl, h1, h2⟩ := h
    simp only [DenL] at hd ⊢
    obtain ⟨y, zs, rfl, h3, h4⟩ := hd
    exact ⟨y, zs, rfl, lntA_den hh h1 h3, lntL_den hh h2 h4⟩
section
variable {P : Program} {pl : FuncId → Nat → Option Plan}
theorem word_core (hpl : PlOk P pl) {g : FuncId} {args args0 : List AV} {bl bl0 : Bls} {Q : AV → Bls → Prop} (σ : List Nat) (hW : Word P pl g args0 bl0 Q) (hT : LntL bl σ args args0) (hn : σ.Nodup) (hσ : (σ.all fun l => decide (l < bl.length)) = true) (hlen : σ.length = bl0.length) (hb : FitB (nm σ) σ.length bl 0 bl0)
    (hQ : ∀ r bl', Q r bl' → okRet r bl' = true ∧ bl0.length ≤ bl'.length) {β : Env} {w : World} {vs : List Value} (cs : List Frame) (hh : Heap β bl w) (hck : β.ck = Ck P pl) (hd : DenL β args vs) :
    ∃ v fr β2 w' r bl', Steps P (lone (Frame.enter P g vs.toArray .normal) cs w) (lone fr cs w') ∧ fr.leaving P w' (.returned v) ∧ Q r bl' ∧ Den β2 (ren (tauN σ bl.length) r) v ∧ Ext β bl w β2 (aftT σ bl bl') w' := by
  obtain ⟨F, hF, hargs, hrun⟩ := hW
  have hk0 := take_heap hh hn hlen hb
  have run := hrun ⟨takeE σ β bl w, bl0, w, cs, g⟩ rfl hk0.len (takeE σ β bl w) (lone (Frame.enter P g vs.toArray .normal) cs w)
    ⟨⟨_, [], _, [], w, rfl, rfl, enter_ok hF (hpl.ck g F hF) hck (lntL_den hh hT hd) hargs, rfl, .refl hk0⟩, rfl, hck⟩
  obtain ⟨v, fr, β1, r, bl', w', k1, k2, k3, k4, k5, k6⟩ := run
  obtain ⟨q1, q2⟩ := hQ r bl' k6
  obtain ⟨β2, e1, e2⟩ := ret_core hh hn hσ hlen hb k5 k4 q1 q2
  exact ⟨v, fr, β2, w', r, bl', k1, k3, k6, e1, e2⟩
end
def InsQ (w : Nat) (rs out : List (List AV)) (r : AV) (bl' : Bls) : Prop := (∃ c, r = .sl 0 0 w out.length c ∧ bl' = [some (.rows w out)]) ∨ (∃ c x, (x = none ∨ x = some (.rows w rs)) ∧ r = .sl 1 0 w out.length c ∧ bl' = [x, some (.rows w out)])
def insK (w : Nat) (args : List AV) (bl : Bls) : Option (Bool × AV × Bls) := match args with
  | [s, .v (.int .i64 k), v] => (match s with
    | .sl l i w' n _ => (match lvl bl l with
      | some (.rows w2 rs) => if w' = w ∧ w2 = w then (match lnd (setl bl l none) v with
        | some (v1, .imr _ w3 [row] _) => if w3 = w then some (v1 && (decide (i = 0) && (decide (rs.length = n) && (decide (0 ≤ k) && (decide (k ≤ n) && (decide (n < 1000000) && (lvR 0 false rs && lvL 0 false row)))))), .sl bl.length 0 w (n + 1) none, setl bl l none ++ [some (.rows w (rs.take k.toNat ++ (row :: rs.drop k.toNat)))]) else none
        | _ => none) else none
      | _ => none)
    | .nil => (match lnd bl v with
      | some (v1, .imr _ w3 [row] _) => if w3 = w then some (v1 && (decide (k = 0) && lvL 0 false row), .sl bl.length 0 w 1 none, bl ++ [some (.rows w [row])]) else none
      | _ => none)
    | _ => none)
  | _ => none
structure InsOk (P : Program) (pl : FuncId → Nat → Option Plan) (g : FuncId) (w : Nat) : Prop where
  sl : ∀ (rs : List (List AV)) (n k : Nat) (row : List AV) (t : Bool) (c c3 : Option Nat), rs.length = n → k ≤ n → n < 1000000 → Word P pl g [.sl 0 0 w n none, .v (.int .i64 k), .imr t w [row] c3] [some (.rows w rs)] (InsQ w rs (rs.take k ++ (row :: (rs.take n).drop k)))
  nl : ∀ (row : List AV) (t : Bool) (c3 : Option Nat), Word P pl g [.nil, .v (.int .i64 0), .imr t w [row] c3] [] (fun r bl' => (∃ c, r = .sl 0 0 w 1 c) ∧ bl' = [some (.rows w [row])])
theorem den_capless {β : Env} {l i w n : Nat} {c : Option Nat} {v : Value} (h : Den β (.sl l i w n c) v) : Den β (.sl l i w n none) v := by
  simp only [Den] at h ⊢
  obtain ⟨A, q, h1, h2, h3, -, h5⟩ := h
  exact ⟨A, q, h1, h2, h3, (fun m hm => by cases hm), h5⟩
theorem insQ_call {P : Program} {pl : FuncId → Nat → Option Plan} (hpl : PlOk P pl) {g : FuncId} {w3 l : Nat} {rs out : List (List AV)} {args args0 : List AV} {bl : Bls} (hW : Word P pl g args0 [some (.rows w3 rs)] (InsQ w3 rs out)) (hl : lvl bl l = some (.rows w3 rs)) (hf1 : lvR 0 false rs = true) (hfree : lvR 0 false out = true) (hT : LntL bl [l] args args0)
    (β : Env) (w : World) (vs : List Value) (cs : List Frame) (hh : Heap β bl w) (hck : β.ck = Ck P pl) (hd' : DenL β args vs) :
    ∃ v fr β' w', Steps P (lone (Frame.enter P g vs.toArray .normal) cs w) (lone fr cs w') ∧ fr.leaving P w' (.returned v) ∧ Den β' (.sl bl.length 0 w3 out.length none) v ∧ Ext β bl w β' (setl bl l none ++ [some (.rows w3 out)]) w' := by
  have hll : l < bl.length := (List.getElem?_eq_some_iff.1 (lvl_get hl)).1
  obtain ⟨v', fr, β2, w', r, bl', k1, k2, k3, k4, k5⟩ := word_core (bl := bl) hpl [l] hW hT (by simp) (by simpa using hll) rfl
    ⟨⟨by rw [show nm [l] 0 = l from rfl, hl]; simp only [renCt]; rw [renR_free _ hf1], by simp only [lvCt]; exact lvR_up (fun h => by cases h) hf1⟩, trivial⟩
    (fun r bl' hq => by
      rcases hq with ⟨c, rfl, rfl⟩ | ⟨c, x, hx, rfl, rfl⟩
      · exact ⟨by simp only [okRet, lvB, okBls, Ct.cell, lvCt, List.length_cons, List.length_nil, Bool.and_eq_true, Bool.true_and, Bool.and_true, decide_eq_true_eq]; exact ⟨by omega, lvR_up (fun h => h) hfree⟩, by simp⟩
      · refine ⟨?_, by simp⟩
        rcases hx with rfl | rfl
        · simp only [okRet, lvB, okBls, Ct.cell, lvCt, List.length_cons, List.length_nil, Bool.and_eq_true, Bool.true_and, Bool.and_true, decide_eq_true_eq]
          exact ⟨by omega, lvR_up (fun h => h) hfree⟩
        · simp only [okRet, lvB, okBls, Ct.cell, lvCt, List.length_cons, List.length_nil, Bool.and_eq_true, Bool.true_and, Bool.and_true, decide_eq_true_eq]
          exact ⟨by omega, lvR_up (fun h => h) hf1, lvR_up (fun h => h) hfree⟩) cs hh hck hd'
  have t0 : tauN [l] bl.length 0 = l := by simp [tauN, nm]
  have t1 : tauN [l] bl.length 1 = bl.length := by simp [tauN]
  rcases k3 with ⟨c', rfl, rfl⟩ | ⟨c', x, hx, rfl, rfl⟩
  · -- where it was
    have ea : aftT [l] bl [some (.rows w3 out)] = setl bl l (some (.rows w3 out)) := by
      simp only [aftT, updT, mapB, List.drop_succ_cons, List.drop_zero, List.length_cons, List.length_nil, List.drop_nil, List.append_nil, renCt]
      rw [renR_free _ hfree]
    rw [ea] at k5
    simp only [ren, t0] at k4
    have hset : (setl bl l (some (.rows w3 out)))[l]? = some (some (.rows w3 out)) := by
      rw [setl_set, List.getElem?_set_self hll]
    obtain ⟨base, hbase, -⟩ := k5.heap.lv _ _ hset
    have hr := k5.heap.rename hset hbase
    have hx := k5.trans hr
    rw [setl_set, List.set_set, ← setl_set] at hx
    refine ⟨v', fr, _, w', k1, k2, ?_, hx⟩
    have hlen : β2.b.length = bl.length := by rw [k5.heap.len, setl_set]; simp
    simp only [Den] at k4 ⊢
    obtain ⟨A, q, e1, e2, e3, -, e5⟩ := k4
    refine ⟨A, q, e1, e2, e3, (fun m hm => by cases hm), fun hq => ?_⟩
    obtain ⟨b, s, f1, f2, f3⟩ := e5 hq
    refine ⟨b, s, ?_, f2, f3⟩
    rw [hbase] at f1
    rw [← hlen]
    simpa using f1
  · -- anew
    have ea : aftT [l] bl [x, some (.rows w3 out)] = setl bl l x ++ [some (.rows w3 out)] := by
      simp only [aftT, updT, mapB, List.drop_succ_cons, List.drop_zero, List.length_cons, List.length_nil, List.drop_nil, List.append_nil, renCt]
      rw [renR_free _ hfree]
      rcases hx with rfl | rfl
      · rfl
      · simp only [renCt]
        rw [renR_free _ hf1]
    rw [ea] at k5
    simp only [ren, t1] at k4
    refine ⟨v', fr, β2, w', k1, k2, den_capless k4, ?_⟩
    have hkl := k5.trans (killO_ext k5.heap (some l))
    have : killO (some l) (setl bl l x ++ [some (.rows w3 out)]) = setl bl l none ++ [some (.rows w3 out)] := by
      simp only [killO, setl_set]
      rw [List.set_append_left _ _ (by simpa using hll), List.set_set]
    rw [this] at hkl
    exact hkl
theorem insK_ok {P : Program} {pl : FuncId → Nat → Option Plan} (hpl : PlOk P pl) {g : FuncId} {w : Nat} (h : InsOk P pl g w) (hF : ∃ F, fi P g = some F) :
    (∃ F, fi P g = some F) ∧ ∀ args bl r bl', insK w args bl = some (true, r, bl') → Kl bl bl' ∧
    ∀ (β : Env) (w : World) (vs : List Value) (cs : List Frame), Heap β bl w → β.ck = Ck P pl → DenL β args vs →
      ∃ v fr β' w', Steps P (lone (Frame.enter P g vs.toArray .normal) cs w) (lone fr cs w') ∧ fr.leaving P w' (.returned v) ∧ Den β' r v ∧ Ext β bl w β' bl' w' := by
  refine ⟨hF, fun args bl r bl' hx => ?_⟩
  unfold insK at hx
  split at hx
  · rename_i s k v
    split at hx
    · rename_i l i w' n c
      split at hx
      · rename_i w2 rs hl
        split at hx
        · rename_i hw
          obtain ⟨rfl, rfl⟩ := hw
          split at hx
          · rename_i v1 t w3 row c3 hv
            split at hx
            · rename_i hw3
              subst hw3
              simp only [Option.some.injEq, Prod.mk.injEq, Bool.and_eq_true, decide_eq_true_eq] at hx
              obtain ⟨⟨rfl, rfl, hn, hk0, hk1, hn2, hf1, hf2⟩, rfl, rfl⟩ := hx
              obtain ⟨k, rfl⟩ := Int.eq_ofNat_of_zero_le hk0
              have hk : k ≤ n := by omega
              have hll : l < bl.length := (List.getElem?_eq_some_iff.1 (lvl_get hl)).1
              refine ⟨(Kll.kill bl l).app _, fun β w vs cs hh hck hd => ?_⟩
              have hd' : DenL β [.sl l 0 w3 n none, .v (.int .i64 k), v] vs := by
                simp only [DenL] at hd ⊢
                obtain ⟨y, zs, e, h1, h2⟩ := hd
                exact ⟨y, zs, e, den_capless h1, h2⟩
              have hfree : lvR 0 false (rs.take k ++ (row :: (rs.take n).drop k)) = true := by
                refine lvR_app (lvR_take _ hf1) ?_
                simp only [lvR, Bool.and_eq_true]
                exact ⟨hf2, lvR_drop _ (lvR_take _ hf1)⟩
              have hol : (rs.take k ++ (row :: (rs.take n).drop k)).length = n + 1 := by simp; omega
              have heq : (rs.take n).drop k = rs.drop k := by rw [List.take_of_length_le (by omega)]
              rw [Int.toNat_natCast, ← heq, ← hol]
              exact insQ_call (args := [.sl l 0 w3 n none, .v (.int .i64 k), v]) hpl (h.sl rs n k row t none c3 hn hk hn2) hl hf1 hfree ⟨_, _, rfl, .inl ⟨by simp [ren, nm], by simp [lvB]⟩, _, _, rfl, .inl ⟨rfl, rfl⟩, _, _, rfl, .inr hv, rfl⟩ β w vs cs hh hck hd'
            · cases hx
          · cases hx
        · cases hx
      · cases hx
    · split at hx
      · rename_i v1 t w3 row c3 hv
        split at hx
        · rename_i hw3
          subst hw3
          simp only [Option.some.injEq, Prod.mk.injEq, Bool.and_eq_true, decide_eq_true_eq] at hx
          obtain ⟨⟨rfl, rfl, hf⟩, rfl, rfl⟩ := hx
          refine ⟨(Kll.refl bl).app _, fun β w vs cs hh hck hd => ?_⟩
          have hfree : lvR 0 false [row] = true := by simp only [lvR, Bool.and_true]; exact hf
          obtain ⟨v', fr, β2, w', r, bl', k1, k2, k3, k4, k5⟩ := word_core (bl := bl) hpl [] (h.nl row t c3) (args := [.nil, .v (.int .i64 0), v])
            ⟨_, _, rfl, .inl ⟨rfl, rfl⟩, _, _, rfl, .inl ⟨rfl, rfl⟩, _, _, rfl, .inr hv, rfl⟩ (by simp) rfl rfl trivial
            (fun r bl' hq => by
              obtain ⟨⟨c, rfl⟩, rfl⟩ := hq
              exact ⟨by simp only [okRet, lvB, okBls, Ct.cell, lvCt, List.length_cons, List.length_nil, Bool.and_eq_true, Bool.true_and, Bool.and_true, decide_eq_true_eq]; exact ⟨by omega, lvR_up (fun h => h) hfree⟩, by simp⟩) cs hh hck hd
          obtain ⟨⟨c, rfl⟩, rfl⟩ := k3
          have t0 : tauN [] bl.length 0 = bl.length := by simp [tauN]
          have ea : aftT [] bl [some (.rows w3 [row])] = bl ++ [some (.rows w3 [row])] := by
            simp only [aftT, updT, mapB, List.drop_zero, List.length_nil, renCt]
            rw [renR_free _ hfree]
          rw [ea] at k5
          simp only [ren, t0] at k4
          exact ⟨v', fr, β2, w', k1, k2, den_capless k4, k5⟩
        · cases hx
      · cases hx
    · cases hx
  · cases hx
def delK (w : Nat) (args : List AV) (bl : Bls) : Option (Bool × AV × Bls) := match args with
  | [s, .v (.int .i64 k), .v (.int .i64 j)] => (match s with
    | .sl l i w' n _ => (match lvl bl l with
      | some (.rows w2 rs) => if w' = w ∧ w2 = w then some (decide (i = 0) && (decide (rs.length = n) && (decide (0 ≤ k) && (decide (k ≤ j) && (decide (j ≤ n) && (decide (n < 1000000) && lvR 0 false rs))))), .sl bl.length 0 w (rs.take k.toNat ++ rs.drop j.toNat).length none, setl bl l none ++ [some (.rows w (rs.take k.toNat ++ rs.drop j.toNat))]) else none
      | _ => none)
    | .nil => some (decide (k = 0) && decide (j = 0), .nil, bl)
    | _ => none)
  | _ => none
structure DelOk (P : Program) (pl : FuncId → Nat → Option Plan) (g : FuncId) (w : Nat) : Prop where
  sl : ∀ (rs : List (List AV)) (n k j : Nat), rs.length = n → k ≤ j → j ≤ n → n < 1000000 → Word P pl g [.sl 0 0 w n none, .v (.int .i64 k), .v (.int .i64 j)] [some (.rows w rs)] (InsQ w rs (rs.take k ++ rs.drop j))
  nl : Word P pl g [.nil, .v (.int .i64 0), .v (.int .i64 0)] [] (fun r bl' => r = .nil ∧ bl' = [])
theorem delK_ok {P : Program} {pl : FuncId → Nat → Option Plan} (hpl : PlOk P pl) {g : FuncId} {w : Nat} (h : DelOk P pl g w) (hF : ∃ F, fi P g = some F) :
    (∃ F, fi P g = some F) ∧ ∀ args bl r bl', delK w args bl = some (true, r, bl') → Kl bl bl' ∧
    ∀ (β : Env) (w : World) (vs : List Value) (cs : List Frame), Heap β bl w → β.ck = Ck P pl → DenL β args vs →
      ∃ v fr β' w', Steps P (lone (Frame.enter P g vs.toArray .normal) cs w) (lone fr cs w') ∧ fr.leaving P w' (.returned v) ∧ Den β' r v ∧ Ext β bl w β' bl' w' := by
  refine ⟨hF, fun args bl r bl' hx => ?_⟩
  unfold delK at hx
  split at hx
  · rename_i s k j
    split at hx
    · rename_i l i w' n c
      split at hx
      · rename_i w2 rs hl
        split at hx
        · rename_i hw
          obtain ⟨rfl, rfl⟩ := hw
          simp only [Option.some.injEq, Prod.mk.injEq, Bool.and_eq_true, decide_eq_true_eq] at hx
          obtain ⟨⟨rfl, hn, hk0, hkj, hjn, hn2, hf1⟩, rfl, rfl⟩ := hx
          obtain ⟨k, rfl⟩ := Int.eq_ofNat_of_zero_le hk0
          obtain ⟨j, rfl⟩ := Int.eq_ofNat_of_zero_le (a := j) (by omega)
          refine ⟨(Kll.kill bl l).app _, fun β w vs cs hh hck hd => ?_⟩
          have hd' : DenL β [.sl l 0 w2 n none, .v (.int .i64 k), .v (.int .i64 j)] vs := by
            simp only [DenL] at hd ⊢
            obtain ⟨y, zs, e, h1, h2⟩ := hd
            exact ⟨y, zs, e, den_capless h1, h2⟩
          simp only [Int.toNat_natCast]
          exact insQ_call (args := [.sl l 0 w2 n none, .v (.int .i64 k), .v (.int .i64 j)]) hpl (h.sl rs n k j hn (by omega) (by omega) hn2) hl hf1 (lvR_app (lvR_take _ hf1) (lvR_drop _ hf1)) ⟨_, _, rfl, .inl ⟨by simp [ren, nm], by simp [lvB]⟩, _, _, rfl, .inl ⟨rfl, rfl⟩, _, _, rfl, .inl ⟨rfl, rfl⟩, rfl⟩ β w vs cs hh hck hd'
        · cases hx
      · cases hx
    · simp only [Option.some.injEq, Prod.mk.injEq, Bool.and_eq_true, decide_eq_true_eq] at hx
      obtain ⟨⟨rfl, rfl⟩, rfl, rfl⟩ := hx
      refine ⟨Kl.refl bl, fun β w vs cs hh hck hd => ?_⟩
      obtain ⟨v', fr, β2, w', r, bl', k1, k2, k3, k4, k5⟩ := word_core (bl := bl) hpl [] h.nl (args := [.nil, .v (.int .i64 0), .v (.int .i64 0)])
        ⟨_, _, rfl, .inl ⟨rfl, rfl⟩, _, _, rfl, .inl ⟨rfl, rfl⟩, _, _, rfl, .inl ⟨rfl, rfl⟩, rfl⟩ (by simp) rfl rfl trivial
        (fun r bl' hq => by
          obtain ⟨rfl, rfl⟩ := hq
          exact ⟨rfl, Nat.le_refl _⟩) cs hh hck hd
      obtain ⟨rfl, rfl⟩ := k3
      have ea : aftT [] bl [] = bl := by simp [aftT, updT, mapB]
      rw [ea] at k5
      exact ⟨v', fr, β2, w', k1, k2, k4, k5⟩
    · cases hx
  · cases hx
def ktW (g : FuncId) (c : List AV → Bls → Option (Bool × AV × Bls)) (K : KT) : KT := fun f => if g = f then some c else K f
theorem ktW_ok {P : Program} {pl : FuncId → Nat → Option Plan} {K : KT} (hK : KOk P pl K) {g : FuncId} {c : List AV → Bls → Option (Bool × AV × Bls)} (h : (∃ F, fi P g = some F) ∧ ∀ args bl r bl', c args bl = some (true, r, bl') → Kl bl bl' ∧
    ∀ (β : Env) (w : World) (vs : List Value) (cs : List Frame), Heap β bl w → β.ck = Ck P pl → DenL β args vs →
      ∃ v fr β' w', Steps P (lone (Frame.enter P g vs.toArray .normal) cs w) (lone fr cs w') ∧ fr.leaving P w' (.returned v) ∧ Den β' r v ∧ Ext β bl w β' bl' w') : KOk P pl (ktW g c K) := fun f c' hc => by
  simp only [ktW] at hc
  split at hc
  · rename_i e
    subst e
    obtain rfl := Option.some.inj hc
    exact .inr (KOne.ok h)
  · exact hK f c' hc
end Go.SY
/-
  The symbolic machine: slices.Insert, slices.Delete of numbers.
-/
namespace Go.SY
open Go
def InsQN (kk : IntKind) (xs out : List Int) (r : AV) (bl' : Bls) : Prop := (∃ c, r = .sl 0 0 1 out.length c ∧ bl' = [some (.num kk out)]) ∨ (∃ c x, (x = none ∨ x = some (.num kk xs)) ∧ r = .sl 1 0 1 out.length c ∧ bl' = [x, some (.num kk out)])
structure InsOkN (P : Program) (pl : FuncId → Nat → Option Plan) (g : FuncId) (kk : IntKind) : Prop where
  sl : ∀ (xs : List Int) (n k : Nat) (z : Int) (t : Bool) (c3 : Option Nat), xs.length = n → k ≤ n → n < 1000000 → Word P pl g [.sl 0 0 1 n none, .v (.int .i64 k), .imn t kk [z] c3] [some (.num kk xs)] (InsQN kk xs (xs.take k ++ (z :: (xs.take n).drop k)))
  nl : ∀ (z : Int) (t : Bool) (c3 : Option Nat), Word P pl g [.nil, .v (.int .i64 0), .imn t kk [z] c3] [] (fun r bl' => (∃ c, r = .sl 0 0 1 1 c) ∧ bl' = [some (.num kk [z])])
end Go.SY
