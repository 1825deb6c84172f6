/-
  The symbolic machine: operations that look at no memory, and that they are sound.
-/
import Derived.Test.YtdoeopcimhpjaaaSy5
set_option linter.unusedSimpArgs false
set_option linter.unusedVariables false
namespace Go.SY
open Go

def pickAV (t : Bool) (a b : AV) : AV := match t with
  | true => a
  | false => b
theorem pickAV_bool (t x y : Bool) : pickAV t (.v (.bool x)) (.v (.bool y)) = .v (.bool (if t = true then x else y)) := by cases t <;> rfl

/-- A string's bytes as numbers. -/
def bytesL (s : ByteArray) : List Int := s.data.toList.map fun b => (b.toNat : Int)
theorem bytesL_len (s : ByteArray) : (bytesL s).length = s.size := by simp [bytesL]
theorem bytesL_ok (s : ByteArray) : okN .u8 (bytesL s) := fun x hx => by
  obtain ⟨b, -, rfl⟩ := List.mem_map.1 hx
  have := b.toNat_lt
  simp [inK]; omega

/-- A bound of a slice. -/
def bnd (x : Option AV) (d : Nat) : Option (Bool × Nat) :=
  match x with
  | none => some (true, d)
  | some (.v (.int _ z)) => some (decide (0 ≤ z), z.toNat)
  | _ => none

def subO (c : Option Nat) (s : Nat) : Option Nat := match c with
  | some q => some (q - s)
  | none => none

/-- What x[lo:hi:mx] of so many and that capacity is: its beginning, its length, its capacity. -/
def cutOf (n : Nat) (c : Option Nat) (lo hi mx : Option AV) : Option (Bool × Nat × Nat × Option Nat) :=
  match bnd lo 0, bnd hi n with
  | some (p3, s), some (p2, h) => (match mx with
    | none => some (p2 && (p3 && (decide (s ≤ h) && decide (h ≤ c.getD n))), s, h - s, subO c s)
    | some m => (match bnd (some m) 0 with
      | some (p1, m) => some (p1 && (p2 && (p3 && (decide (s ≤ h) && (decide (h ≤ m) && decide (m ≤ c.getD n))))), s, h - s, some (m - s))
      | none => none))
  | _, _ => none

def okMx (hi mx : Option Operand) : Bool := match mx, hi with
  | some _, none => false
  | _, _ => true

/-- Parts laid into cells. -/
def fillA (pl : Nat → Option (Nat × Nat)) : List AV → List (Nat × AV) → Option (List AV)
  | cs, [] => some cs
  | cs, (i, x) :: r => (match pl i with
    | none => none
    | some (o, s) => (match flat x s with
      | none => none
      | some f => (match wrC cs o f s with
        | none => none
        | some b => fillA pl b r)))

def plFs (fs : List (Nat × Nat × Bool)) (i : Nat) : Option (Nat × Nat) := match nth fs i with
  | some (o, s, _) => some (o, s)
  | none => none

def nz : List (Nat × Nat × Bool) → Bool
  | [] => true
  | (_, s, _) :: r => if s = 0 then false else nz r

def minI (f : Int → Int → Int) (k : IntKind) : Int → List AV → Option Int
  | x, [] => some x
  | x, .v (.int k' y) :: r => if k' = k then minI f k (f x y) r else none
  | _, _ :: _ => none

/-- Operations that look at no memory. -/
def pop (P : Program) (tm : List (Nat × AV)) (o : Op) : Option (Bool × AV) :=
  match o with
  | .move x => some (true, ev tm x)
  | .assign x => some (true, ev tm x)
  | .pick c a b => (match ev tm c with
    | .v (.bool t) => some (true, pickAV t (ev tm a) (ev tm b))
    | _ => none)
  | .nilCheck x => (match ev tm x with
    | .ptr l i w k => some (true, .ptr l i w k)
    | .ip t r k => some (true, .ip t r k)
    | .fn f a b => some (true, .fn f a b)
    | .yld l => some (true, .yld l)
    | .v (.pointer p) => some (p.isSome, .v (.pointer p))
    | _ => none)
  | .binOp op t x y _ => (match ti P t with
    | some T => bop op T (ev tm x) (ev tm y)
    | none => none)
  | .unOp op _ x => (match op, ev tm x with
    | .not, .v (.bool b) => some (true, .v (.bool (!b)))
    | .neg, .v (.int k z) => some (ar k (0 - z))
    | .xor, .v (.int k z) => some (true, .v (.int k (bits2 .xor k (if k.signed then -1 else k.max) z)))
    | _, _ => none)
  | .convert src dst x => (match ti P src, ti P dst with
    | some _, some D => (match D.kd, ev tm x with
      | .int k, .v (.int _ z) => some (true, .v (.int k (k.wrap z)))
      | .str, .v (.string s) => some (true, .v (.string s))
      | _, _ => none)
    | _, _ => none)
  | .fieldAddr s x f => (match ti P s with
    | some T => (match T.kd with
      | .struct fs => (match nth fs f with
        | some (o, sz, _) => if sz = 0 then none else (match ev tm x with
          | .ptr l i w k => some (true, .ptr l i w (k + o))
          | .ip t r k => some (true, .ip t r (k + o))
          | _ => none)
        | none => none)
      | _ => none)
    | none => none)
  | .indexAddr t x ix => (match ti P t with
    | some T => (match ev tm ix with
      | .v (.int _ j) => (match T.kd, ev tm x with
        | .slice _ sz _, .sl l i w n _ => if sz = 0 then none else if w = sz then some (decide (0 ≤ j) && decide (j < n), .ptr l (i + j.toNat) w 0) else none
        | .slice _ sz _, .imn t k xs _ => if sz = 1 then some (decide (0 ≤ j) && decide (j < xs.length), .ip t [.v (.int k (xs[j.toNat]?.getD 0))] 0) else none
        | .slice _ sz _, .imr t w rs _ => if sz = 0 then none else if w = sz then some (decide (0 ≤ j) && decide (j < rs.length), .ip t (rs[j.toNat]?.getD []) 0) else none
        | .arr n _ sz, .ptr l i w k => if sz = 1 then some (decide (0 ≤ j) && decide (j < n), .ptr l (i * w + k + j.toNat) 1 0) else if sz = 0 then none
            else if i * w + k = 0 then some (decide (0 ≤ j) && decide (j < n), .ptr l j.toNat sz 0) else none
        | .arr n _ sz, .ip t r k => if sz = 1 then (match dr r k with
          | some (.ch m kk xs :: _) => if m = n then some (decide (0 ≤ j) && decide (j < n), .ip t [.v (.int kk (xs[j.toNat]?.getD 0))] 0) else none
          | _ => none) else none
        | _, _ => none)
      | _ => none)
    | none => none)
  | .index t x ix => (match ti P t with
    | some T => (match ev tm ix with
      | .v (.int _ j) => (match T.kd, ev tm x with
        | .str, .v (.string s) => some (decide (0 ≤ j) && decide (j < (bytesL s).length), .v (.int .u8 ((bytesL s)[j.toNat]?.getD 0)))
        | .arr n e _, .ch m k xs => (match ti P e with
          | some E => (match E.kd with
            | .int _ => if E.sz = 1 then (if m = n then some (decide (0 ≤ j) && decide (j < n), .v (.int k (xs[j.toNat]?.getD 0))) else none) else none
            | _ => none)
          | none => none)
        | _, _ => none)
      | _ => none)
    | none => none)
  | .slice t x lo hi mx => if okMx hi mx = true then (match ti P t with
    | some T => (match T.kd, ev tm x with
      | .str, .v (.string s) => (match mx with
        | none => (match cutOf s.size (some s.size) (lo.map (ev tm)) (hi.map (ev tm)) none with
          | some (vc, b, n, _) => some (vc, .v (.string (s.extract b (b + n))))
          | none => none)
        | some _ => none)
      | .slice _ sz _, .sl l i w n c => if sz = 0 then none else if w = sz then (match cutOf n c (lo.map (ev tm)) (hi.map (ev tm)) (mx.map (ev tm)) with
        | some (vc, b, n', c') => some (vc, .sl l (i + b) w n' c')
        | none => none) else none
      | .slice _ sz _, .imn t k xs c => if sz = 1 then (match cutOf xs.length none (lo.map (ev tm)) (hi.map (ev tm)) (mx.map (ev tm)) with
        | some (vc, b, n', c') => some (vc, .imn t k ((xs.drop b).take n') (match mx with
          | none => subO c b
          | some _ => c'))
        | none => none) else none
      | .slice _ sz _, .imr t w rs c => if sz = 0 then none else if w = sz then (match cutOf rs.length none (lo.map (ev tm)) (hi.map (ev tm)) (mx.map (ev tm)) with
        | some (vc, b, n', c') => some (vc, .imr t w ((rs.drop b).take n') (match mx with
          | none => subO c b
          | some _ => c'))
        | none => none) else none
      | .slice _ sz _, .nil => if sz = 0 then none else (match cutOf 0 (some 0) (lo.map (ev tm)) (hi.map (ev tm)) (mx.map (ev tm)) with
        | some (vc, _, _, _) => some (vc, .nil)
        | none => none)
      | _, _ => none)
    | none => none) else none
  | .makeFunc fn fst cap => (match fn with
    | .func f => some (true, .fn f (fst.toList.map (ev tm)) (cap.toList.map (ev tm)))
    | _ => none)
  | .extract t i => (match ev tm t with
    | .tup xs => (match nth xs i with
      | some x => some (true, x)
      | none => none)
    | _ => none)
  | .field t x f => (match ti P t with
    | some T => (match T.kd, parts (ev tm x) with
      | .struct fs, some xs => (match nth fs f with
        | some (o, sz, ag) => if sz = 0 then none else (match ag with
          | true => (match dr xs o with
            | some c1 => (match tk c1 sz with
              | some c2 => some (true, pack c2)
              | none => none)
            | none => none)
          | false => (match at1 xs o with
            | some r => some (true, r)
            | none => none))
        | none => none)
      | _, _ => none)
    | none => none)
  | .build t ps => (match ti P t with
    | some T => (match T.kd, T.zc with
      | .struct fs, some cs => (match fillA (plFs fs) cs (ps.toList.map fun p => (p.1, ev tm p.2)) with
          | some r => if nz fs = true then some (true, pack r) else none
          | none => none)
      | .arr _ _ sz, some cs => if sz = 0 then none else (match fillA (fun i => some (i * sz, sz)) cs (ps.toList.map fun p => (p.1, ev tm p.2)) with
          | some r => some (true, pack r)
          | none => none)
      | _, _ => none)
    | none => none)
  | .call { callee := .builtin .len, args, argTypes } => (match args.toList, argTypes.toList with
    | [x], [t] => (match ti P t with
      | some T => (match T.kd with
        | .slice _ _ _ => (match ev tm x with
          | .sl _ _ _ n _ => some (true, .v (.int .i64 n))
          | .imn _ _ xs _ => some (true, .v (.int .i64 xs.length))
          | .imr _ _ rs _ => some (true, .v (.int .i64 rs.length))
          | .nil => some (true, .v (.int .i64 0))
          | _ => none)
        | .str => (match ev tm x with
          | .v (.string s) => some (true, .v (.int .i64 s.size))
          | _ => none)
        | .arr n _ _ => if n < 9223372036854775808 then some (true, .v (.int .i64 n)) else none
        | _ => none)
      | none => none)
    | _, _ => none)
  | .call { callee := .builtin .cap, args, argTypes } => (match args.toList, argTypes.toList with
    | [x], [t] => (match ti P t with
      | some T => (match T.kd, ev tm x with
        | .slice _ _ _, .sl _ _ _ _ (some c) => some (true, .v (.int .i64 c))
        | .slice _ _ _, .imn _ _ _ (some c) => some (true, .v (.int .i64 c))
        | .slice _ _ _, .imr _ _ _ (some c) => some (true, .v (.int .i64 c))
        | .slice _ _ _, .nil => some (true, .v (.int .i64 0))
        | _, _ => none)
      | none => none)
    | _, _ => none)
  | .call { callee := .builtin .min, args, argTypes := _ } => (match args.toList.map (ev tm) with
    | .v (.int k x) :: r => (match minI min k x r with
      | some z => some (true, .v (.int k z))
      | none => none)
    | _ => none)
  | .call { callee := .builtin .max, args, argTypes := _ } => (match args.toList.map (ev tm) with
    | .v (.int k x) :: r => (match minI max k x r with
      | some z => some (true, .v (.int k z))
      | none => none)
    | _ => none)
  | _ => none

/-- An operation that looks at no memory. -/
def Pur (P : Program) (β : Env) (ρ : Operand → Value) (o : Oper) (r : AV) : Prop := ∃ y, Den β r y ∧ ∀ w : World, (execOp ρ o).run P w = .ok (.value y) w

section
variable {P : Program} {β : Env} {tm : List (Nat × AV)} {ρ : Operand → Value} {o : Oper} {vc : Bool} {r : AV}

theorem den_int {k : IntKind} {z : Int} {y : Value} (h : Den β (.v (.int k z)) y) : y = .int k z ∧ inK k z = true := by simp only [Den, wfV] at h; exact ⟨h.1, h.2.2⟩
theorem mk_int {k : IntKind} {z : Int} (h : inK k z = true) : Den β (.v (.int k z)) (.int k z) := by simp only [Den, one, wfV, true_and]; exact h
theorem mk_bool (b : Bool) : Den β (.v (.bool b)) (.bool b) := by simp [Den, one, wfV]
theorem mk_len {n : Nat} (h : n < 9223372036854775808) : Den β (.v (.int .i64 n)) (.int .i64 n) := mk_int (by simp [inK]; omega)

theorem denL_append : ∀ {xs ys : List AV} {us vs : List Value}, DenL β xs us → DenL β ys vs → DenL β (xs ++ ys) (us ++ vs)
  | [], _, _, _, h1, h2 => by simp only [DenL] at h1; subst h1; exact h2
  | x :: xs, _, _, _, h1, h2 => by
    simp only [DenL] at h1
    obtain ⟨y, zs, rfl, h3, h4⟩ := h1
    simp only [List.cons_append, DenL]
    exact ⟨y, _, rfl, h3, denL_append h4 h2⟩

theorem denL_map (h : EvOk β tm ρ) : ∀ xs : List Operand, DenL β (xs.map (ev tm)) (xs.map ρ)
  | [] => by simp [DenL]
  | x :: xs => by simp only [List.map_cons, DenL]; exact ⟨_, _, rfl, h x, denL_map h xs⟩

theorem denL_length : ∀ {xs : List AV} {us : List Value}, DenL β xs us → us.length = xs.length
  | [], _, h => by simp only [DenL] at h; subst h; rfl
  | x :: xs, _, h => by
    simp only [DenL] at h
    obtain ⟨y, zs, rfl, -, h4⟩ := h
    simp [denL_length h4]

theorem denL_get : ∀ {xs : List AV} {ys : List Value} {i : Nat} {x : AV}, DenL β xs ys → xs[i]? = some x → ∃ y, ys[i]? = some y ∧ Den β x y
  | [], _, _, _, _, h => by simp at h
  | c :: cs, _, 0, x, hd, h => by
    simp only [DenL] at hd
    obtain ⟨y, zs, rfl, h1, -⟩ := hd
    simp at h; subst h
    exact ⟨y, by simp, h1⟩
  | c :: cs, _, i + 1, x, hd, h => by
    simp only [DenL] at hd
    obtain ⟨y, zs, rfl, -, h2⟩ := hd
    obtain ⟨y', h3, h4⟩ := denL_get h2 (by simpa using h)
    exact ⟨y', by simpa using h3, h4⟩

/-! ### kinds of types -/
theorem kd_struct {T : TI} {t : TypeId} {fs : List (Nat × Nat × Bool)} (ht : ti P t = some T) (hk : T.kd = .struct fs) : ∃ fields : Array Field, P.underlying t = some (.struct fields) ∧
    (fs = fields.toList.map fun f => (f.offset, P.cellsOf f.type, agOf P f.type)) ∧ ∀ f ∈ fields.toList, (P.underlying f.type).isSome = true := by
  obtain ⟨i, d, -, hu, -, -, -, hkd, -⟩ := ti_spec ht
  rw [hkd] at hk
  cases d <;> simp only [kdOf] at hk <;> try (cases hk; done)
  rename_i fields
  split at hk
  · rename_i hall
    exact ⟨fields, hu, (KD.struct.inj hk).symm, fun f hf => List.all_eq_true.1 hall f hf⟩
  · cases hk

theorem kd_slice {T : TI} {t e : TypeId} {sz b : Nat} (ht : ti P t = some T) (hk : T.kd = .slice e sz b) : P.underlying t = some (.slice e) ∧ P.cellsOf e = sz ∧ P.bytesOf e = b := by
  obtain ⟨i, d, -, hu, -, -, -, hkd, -⟩ := ti_spec ht
  rw [hkd] at hk
  obtain ⟨rfl, h1, h2⟩ := kdOf_slice hk
  exact ⟨hu, h1, h2⟩

theorem kd_arr {T : TI} {t e : TypeId} {m sz : Nat} (ht : ti P t = some T) (hk : T.kd = .arr m e sz) : P.underlying t = some (.array m e) ∧ P.cellsOf e = sz := by
  obtain ⟨i, d, -, hu, -, -, -, hkd, -⟩ := ti_spec ht
  rw [hkd] at hk
  obtain ⟨rfl, h1⟩ := kdOf_arr hk
  exact ⟨hu, h1⟩

theorem kd_str {T : TI} {t : TypeId} (ht : ti P t = some T) (hk : T.kd = .str) : P.underlying t = some .string := by
  obtain ⟨i, d, -, hu, -, -, -, hkd, -⟩ := ti_spec ht
  rw [hkd] at hk
  obtain rfl := kdOf_str hk
  exact hu

theorem kd_int {T : TI} {t : TypeId} {k : IntKind} (ht : ti P t = some T) (hk : T.kd = .int k) : P.underlying t = some (.int k) := by
  obtain ⟨i, d, -, hu, -, -, -, hkd, -⟩ := ti_spec ht
  rw [hkd] at hk
  obtain rfl := kdOf_int hk
  exact hu

theorem fields_at {fields : Array Field} {fs : List (Nat × Nat × Bool)} (hfs : fs = fields.toList.map fun f => (f.offset, P.cellsOf f.type, agOf P f.type)) {f o sz : Nat} {ag : Bool}
    (h : nth fs f = some (o, sz, ag)) : ∃ fl : Field, fields[f]? = some fl ∧ fl.offset = o ∧ P.cellsOf fl.type = sz ∧ agOf P fl.type = ag := by
  subst hfs
  rw [nth_eq, List.getElem?_map] at h
  cases hf : fields.toList[f]? with
  | none => simp [hf] at h
  | some fl =>
    simp only [hf, Option.map_some, Option.some.injEq, Prod.mk.injEq] at h
    exact ⟨fl, by simpa using hf, h.1, h.2.1, h.2.2⟩

/-! ### binary operations -/
theorem binOp_exec {op : BinOp} {t u : TypeId} {x y : Operand} {v : Value} {w : World} (hop : o.op = .binOp op t x y u) (h1 : (eqGuard op t x y (ρ x) (ρ y)).run P w = .ok () w)
    (h : (binOp op t (ρ x) (ρ y)).run P w = .ok v w) : (execOp ρ o).run P w = .ok (.value v) w := by
  unfold execOp
  simp only [hop, Sem.run_bind, h1, Result.andThen_ok, h, Sem.run_pure]

theorem equal_unfold (t : TypeId) (x y : Value) : Op.equal t x y = Op.equalIn (9999 + 1) t x y := rfl

/-- Held against each other: what == and != come to. -/
theorem bopEq_sound {op : BinOp} {t : TypeId} {x y : Value} {vc' b : Bool} (h : bopEq op vc' b = some (vc, r)) (hv : vc = true) (he : vc' = true → ∀ w : World, (Op.equalIn (9999 + 1) t x y).run P w = .ok b w)
    (e1 : binOp .eql t x y = do pure (.bool (← Op.equal t x y))) (e2 : binOp .neq t x y = do pure (.bool (!(← Op.equal t x y)))) :
    ∃ v, (∀ w : World, (binOp op t x y).run P w = .ok v w) ∧ Den β r v := by
  unfold bopEq at h
  split at h
  · obtain ⟨rfl, rfl⟩ := Prod.mk.inj (Option.some.inj h)
    exact ⟨.bool b, fun w => by rw [e1, equal_unfold]; simp only [Sem.run_bind, he hv, Result.andThen_ok, Sem.run_pure], mk_bool _⟩
  · obtain ⟨rfl, rfl⟩ := Prod.mk.inj (Option.some.inj h)
    exact ⟨.bool !b, fun w => by rw [e2, equal_unfold]; simp only [Sem.run_bind, he hv, Result.andThen_ok, Sem.run_pure], mk_bool _⟩
  · cases h

theorem isPtr_spec {d : TypeDesc} (h : isPtr (kdOf P d) = true) : ∃ e, d = .pointer e := by
  unfold isPtr at h
  split at h
  · rename_i e hk; exact ⟨e, kdOf_ptr hk⟩
  · cases h
theorem isSl_spec {d : TypeDesc} (h : isSl (kdOf P d) = true) : ∃ e, d = .slice e := by
  unfold isSl at h
  split at h
  · rename_i e s b hk; exact ⟨e, (kdOf_slice hk).1⟩
  · cases h
theorem isBl_spec {d : TypeDesc} (h : isBl (kdOf P d) = true) : d = .bool := by
  unfold isBl at h
  split at h
  · rename_i hk; exact kdOf_bool hk
  · cases h

theorem slice_nil_run {t e : TypeId} (hu : P.underlying t = some (.slice e)) (m : Nat) (A : Option Addr) (n q : Nat) (w : World) : (Op.equalIn (m + 1) t (.slice A n q) (.slice none 0 0)).run P w = .ok A.isNone w := by
  cases A <;> simp only [Op.equalIn, Sem.run_bind, underlying_run w hu, Result.andThen_ok, Sem.run_pure] <;> rfl

theorem ptr_nil_run {t e : TypeId} (hu : P.underlying t = some (.pointer e)) (m : Nat) (p : Option Addr) (w : World) : (Op.equalIn (m + 1) t (.pointer p) (.pointer none)).run P w = .ok p.isNone w := by
  cases p <;> simp only [Op.equalIn, Sem.run_bind, underlying_run w hu, Result.andThen_ok, Sem.run_pure] <;> rfl
theorem nil_ptr_run {t e : TypeId} (hu : P.underlying t = some (.pointer e)) (m : Nat) (p : Option Addr) (w : World) : (Op.equalIn (m + 1) t (.pointer none) (.pointer p)).run P w = .ok p.isNone w := by
  simp only [Op.equalIn, Sem.run_bind, underlying_run w hu, Result.andThen_ok, Sem.run_pure]

theorem eqFs_any {m : Nat} {g : TypeId → Option (List Lf)} (hg : ∀ t L, g t = some L → P.eqGuardType m t = false) : ∀ (fs : List Field) (o : Nat) (L : List Lf), eqFs P g fs o = some L → (fs.any fun f => f.name != "_" && P.eqGuardType m f.type) = false
  | [], _, _, _ => rfl
  | f :: fs, o, L, h => by
    simp only [eqFs] at h
    split at h
    · split at h
      · rename_i L1 h1
        split at h
        · split at h
          · rename_i L2 h2
            simp only [List.any_cons, hg _ _ h1, Bool.and_false, Bool.false_or]
            exact eqFs_any hg fs _ _ h2
          · cases h
        · cases h
      · cases h
    · cases h

theorem eqLf_guard : ∀ (d : Nat) {t : TypeId} {L : List Lf}, eqLf P d t = some L → ∀ m, P.eqGuardType (m + d + 1) t = false
  | 0, t, L, h, m => by simp [eqLf] at h
  | d + 1, t, L, h, m => by
    simp only [eqLf] at h
    unfold Program.eqGuardType
    split at h
    · rename_i k hu; simp only [hu]
    · rename_i hu; simp only [hu]
    · rename_i hu; simp only [hu]
    · rename_i n e hu
      simp only [hu]
      split at h
      · rename_i k he
        rw [← Nat.add_assoc]
        unfold Program.eqGuardType
        simp only [he]
      · cases h
    · rename_i fs hu
      simp only [hu]
      split at h
      · cases h
      · rw [← Array.any_toList]
        exact eqFs_any (fun t' L' h' => eqLf_guard d h' m) _ _ _ h
    · cases h

theorem bop_sound {op : BinOp} {t u : TypeId} {T : TI} {x y : Operand} (hop : o.op = .binOp op t x y u) (hev : EvOk β tm ρ) (ht : ti P t = some T) (h : bop op T (ev tm x) (ev tm y) = some (vc, r)) (hv : vc = true) :
    Pur P β ρ o r := by
  obtain ⟨i, d, hi, hu, -, -, hag, hkd, -, -, heq⟩ := ti_spec ht
  have hp := hev x
  have hq := hev y
  -- what is to be shown of the operands' values
  have fin : (∀ w : World, (eqGuard op t x y (ρ x) (ρ y)).run P w = .ok () w) → (∃ v, (∀ w : World, (binOp op t (ρ x) (ρ y)).run P w = .ok v w) ∧ Den β r v) → Pur P β ρ o r := fun hg ⟨v, h1, h2⟩ => ⟨v, h2, fun w => binOp_exec hop (hg w) (h1 w)⟩
  have guard : ∀ a b : Value, one a = true ∧ a ≠ .nilIface → ∀ w : World, (eqGuard op t x y a b).run P w = .ok () w := fun a b h w => eqGuard_run (.inr h)
  unfold bop at h
  split at h
  · -- numbers
    rename_i k x' k' y' ex ey
    rw [ex] at hp; rw [ey] at hq
    obtain ⟨hp, hx⟩ := den_int hp
    obtain ⟨hq, hy⟩ := den_int hq
    rw [hp, hq] at fin
    refine fin (guard _ _ ⟨rfl, by simp⟩) ?_
    split at h
    · obtain ⟨rfl, rfl⟩ := Prod.mk.inj (Option.some.inj h)
      have hv := of_decide_eq_true hv
      have : ¬ y' < 0 := by omega
      exact ⟨_, fun w => by simp only [binOp, Op.shift, this, if_false]; rfl, mk_int (inK_wrap _ _)⟩
    · obtain ⟨rfl, rfl⟩ := Prod.mk.inj (Option.some.inj h)
      have hv := of_decide_eq_true hv
      have : ¬ y' < 0 := by omega
      exact ⟨_, fun w => by simp only [binOp, Op.shift, this, if_false]; rfl, mk_int (inK_fdiv hx _)⟩
    · rename_i n1 n2
      split at h
      · rename_i e
        subst e
        exact bopInt_sound ⟨n1, n2⟩ hx h hv
      · cases h
  · -- strings
    rename_i x' y' ex ey
    rw [ex] at hp; rw [ey] at hq
    simp only [Den] at hp hq
    obtain ⟨hp, -, hx⟩ := hp
    obtain ⟨hq, -, hy⟩ := hq
    rw [hp, hq] at fin
    refine fin (guard _ _ ⟨rfl, by simp⟩) ?_
    unfold bopStr at h
    split at h
    · obtain ⟨rfl, rfl⟩ := Prod.mk.inj (Option.some.inj h)
      exact ⟨_, fun w => by simp only [binOp, Op.stringOp]; rfl, mk_bool _⟩
    · obtain ⟨rfl, rfl⟩ := Prod.mk.inj (Option.some.inj h)
      exact ⟨_, fun w => by simp only [binOp, Op.stringOp]; rfl, mk_bool _⟩
    · obtain ⟨rfl, rfl⟩ := Prod.mk.inj (Option.some.inj h)
      have hv := of_decide_eq_true hv
      have : ¬ (((x'.size + y'.size : Nat) : Int) > IntKind.i64.max) := by
        have e : IntKind.i64.max = 9223372036854775807 := by decide
        rw [e]; omega
      exact ⟨_, fun w => by simp only [binOp, Op.stringOp, this, if_false]; rfl, by simp only [Den, one, wfV, ByteArray.size_append, true_and]; exact hv⟩
    · cases h
  · -- bools
    rename_i x' y' ex ey
    rw [ex] at hp; rw [ey] at hq
    simp only [Den] at hp hq
    obtain ⟨hp, -⟩ := hp
    obtain ⟨hq, -⟩ := hq
    rw [hp, hq] at fin
    refine fin (guard _ _ ⟨rfl, by simp⟩) ?_
    split at h
    · rename_i hk
      have hd := isBl_spec (hkd ▸ hk)
      subst hd
      exact bopEq_sound h hv (fun _ w => run_equalIn_bool' w 9999 t x' y' hu) rfl rfl
    · cases h
  · rename_i ex ey
    rw [ex] at hp; rw [ey] at hq
    simp only [Den] at hp hq
    obtain ⟨b, s, -, hp⟩ := hp
    obtain ⟨hq, -⟩ := hq
    rw [hp, hq] at fin
    refine fin (guard _ _ ⟨rfl, by simp⟩) ?_
    split at h
    · rename_i hk
      obtain ⟨e, rfl⟩ := isPtr_spec (hkd ▸ hk)
      exact bopEq_sound h hv (fun _ w => ptr_nil_run hu 9999 _ w) rfl rfl
    · cases h
  · rename_i ex ey
    rw [ex] at hp; rw [ey] at hq
    simp only [Den] at hp hq
    obtain ⟨b, s, -, hq⟩ := hq
    obtain ⟨hp, -⟩ := hp
    rw [hp, hq] at fin
    refine fin (guard _ _ ⟨rfl, by simp⟩) ?_
    split at h
    · rename_i hk
      obtain ⟨e, rfl⟩ := isPtr_spec (hkd ▸ hk)
      exact bopEq_sound h hv (fun _ w => nil_ptr_run hu 9999 _ w) rfl rfl
    · cases h
  · rename_i p' ex ey
    rw [ex] at hp; rw [ey] at hq
    simp only [Den] at hp hq
    obtain ⟨hp, -⟩ := hp
    obtain ⟨hq, -⟩ := hq
    rw [hp, hq] at fin
    refine fin (guard _ _ ⟨rfl, by simp⟩) ?_
    split at h
    · rename_i hk
      obtain ⟨e, rfl⟩ := isPtr_spec (hkd ▸ hk)
      exact bopEq_sound h hv (fun _ w => ptr_nil_run hu 9999 _ w) (by cases p' <;> rfl) (by cases p' <;> rfl)
    · cases h
  · -- slices against nil
    rename_i ex ey
    rw [ex] at hp; rw [ey] at hq
    simp only [Den] at hp hq
    rw [hp, hq] at fin
    refine fin (guard _ _ ⟨rfl, by simp⟩) ?_
    split at h
    · rename_i hk
      obtain ⟨e, rfl⟩ := isSl_spec (hkd ▸ hk)
      exact bopEq_sound h hv (fun _ w => slice_nil_run hu _ _ _ _ w) rfl rfl
    · cases h
  · rename_i ex ey
    rw [ex] at hp; rw [ey] at hq
    simp only [Den] at hp hq
    obtain ⟨A, q, hp, h1, h2, h3, h4⟩ := hp
    rw [hp, hq] at fin
    refine fin (guard _ _ ⟨rfl, by simp⟩) ?_
    split at h
    · rename_i hk
      obtain ⟨e, rfl⟩ := isSl_spec (hkd ▸ hk)
      refine bopEq_sound h hv (fun hn w => ?_) rfl rfl
      have hn := of_decide_eq_true hn
      obtain ⟨b, s, -, rfl, -⟩ := h4 (by omega)
      exact slice_nil_run hu _ _ _ _ w
    · cases h
  · rename_i ex ey
    rw [ex] at hp; rw [ey] at hq
    simp only [Den] at hp hq
    obtain ⟨A, q, hp, h1, h2, h3, h4, h5⟩ := hp
    rw [hp, hq] at fin
    refine fin (guard _ _ ⟨rfl, by simp⟩) ?_
    split at h
    · rename_i hk
      obtain ⟨e, rfl⟩ := isSl_spec (hkd ▸ hk)
      refine bopEq_sound h hv (fun hn w => ?_) rfl rfl
      have hn := of_decide_eq_true hn
      obtain ⟨b, s, rfl, -⟩ := h5 (by omega)
      exact slice_nil_run hu _ _ _ _ w
    · cases h
  · rename_i ex ey
    rw [ex] at hp; rw [ey] at hq
    simp only [Den] at hp hq
    obtain ⟨A, q, ys, hp, h1, h2, h3, h4, h5⟩ := hp
    rw [hp, hq] at fin
    refine fin (guard _ _ ⟨rfl, by simp⟩) ?_
    split at h
    · rename_i hk
      obtain ⟨e, rfl⟩ := isSl_spec (hkd ▸ hk)
      refine bopEq_sound h hv (fun hn w => ?_) rfl rfl
      have hn := of_decide_eq_true hn
      obtain ⟨b, s, rfl, -⟩ := h5 (by omega)
      exact slice_nil_run hu _ _ _ _ w
    · cases h
  · -- values of many cells
    split at h
    · rename_i L ps qs hL hps hqs
      split at h
      · rename_i hagt
        split at h
        · rename_i rb hb
          obtain ⟨us, hp, h1⟩ := parts_sound hp hps
          obtain ⟨vs, hq, h2⟩ := parts_sound hq hqs
          have hres := eqPs_sound h1 h2 hb
          have hL8 : eqLf P 8 t = some L := heq ▸ hL
          have run := fun w : World => eq_run 8 hL8 hres 9991 w
          have hag' : agOf P t = true := by rw [agOf_agg hu, ← hag]; exact hagt
          simp only [valOf, hag', if_true] at run
          rw [hp, hq] at fin
          have hnb : op = .eql ∨ op = .neq := by
            unfold bopEq at h
            split at h
            · exact .inl rfl
            · exact .inr rfl
            · cases h
          refine fin (fun w => ?_) (bopEq_sound h hv (fun _ w => run w) rfl rfl)
          have hgd : P.eqGuardType P.depth t = false := by
            have h8 : 9 ≤ P.depth := by unfold Program.depth Made.depth; omega
            have := eqLf_guard 8 hL8 (P.depth - 9)
            rwa [show P.depth - 9 + 8 + 1 = P.depth by omega] at this
          unfold eqGuard
          rcases hnb with rfl | rfl <;> simp [hgd]
        · cases h
      · cases h
    · cases h

end

end Go.SY
