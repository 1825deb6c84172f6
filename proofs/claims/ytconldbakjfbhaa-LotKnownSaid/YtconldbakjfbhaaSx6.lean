/-
  The symbolic machine: the operations, all together.
-/
import Derived.Test.YtconldbakjfbhaaSx5
set_option linter.unusedSimpArgs false
set_option linter.unusedVariables false
namespace Go.SX
open Go

def nth {α : Type} : List α → Nat → Option α
  | [], _ => none
  | a :: r, i => if i = 0 then some a else nth r (i - 1)

theorem nth_eq {α : Type} : ∀ (l : List α) (i : Nat), nth l i = l[i]?
  | [], _ => by simp [nth]
  | a :: r, 0 => by simp [nth]
  | a :: r, i + 1 => by simp [nth, nth_eq r i]

def pickAV (t : Bool) (a b : AV) : AV := match t with
  | true => a
  | false => b
theorem pickAV_bool (t x y : Bool) : pickAV t (.v (.bool x)) (.v (.bool y)) = .v (.bool (if t = true then x else y)) := by cases t <;> rfl

/-- A bound of a slice. -/
def bnd (x : Option AV) (d : Nat) : Option (Prop × Nat) :=
  match x with
  | none => some (True, d)
  | some (.v (.int _ z)) => some (0 ≤ z, z.toNat)
  | _ => none

def sliceOf (l i w n c : Nat) (lo hi mx : Option AV) : Option (Prop × AV) :=
  match bnd mx c with
  | some (p1, m) => (match bnd hi n with
    | some (p2, h) => (match bnd lo 0 with
      | some (p3, s) => some (p1 ∧ p2 ∧ p3 ∧ s ≤ h ∧ h ≤ m ∧ m ≤ c, .sl l (i + s) w (h - s) (m - s))
      | none => none)
    | none => none)
  | none => none

/-- Numbers of one kind. -/
def numsAV (k : IntKind) : List AV → Option (List Int)
  | [] => some []
  | .v (.int k' z) :: r => if k' = k then (match numsAV k r with
      | some zs => some (z :: zs)
      | none => none) else none
  | _ :: _ => none

def numsV (k : IntKind) : List Value → Option (List Int)
  | [] => some []
  | .int k' z :: r => if k' = k then (match numsV k r with
      | some zs => some (z :: zs)
      | none => none) else none
  | _ :: _ => none

theorem numsV_rep (k : IntKind) (n : Nat) (z : Int) : numsV k (List.replicate n (.int k z)) = some (List.replicate n z) := by
  induction n with
  | zero => rfl
  | succ n ih => simp [List.replicate_succ, numsV, ih]

/-- Zero cells in pieces. -/
def chunk : List Nat → List Value → Option (List AV)
  | [], [] => some []
  | [], _ :: _ => none
  | s :: ss, vs => if s = 1 then (match vs with
      | [] => none
      | v :: r => (match chunk ss r with
        | some q => some (mk v :: q)
        | none => none))
    else if s ≤ vs.length then (match chunk ss (vs.drop s) with
      | some q => some (.ch s (vs.take s) :: q)
      | none => none) else none

/-- What a new variable of a type holds. -/
def zeroCt (P : Program) (T : TI) : Option Ct :=
  match T.z with
  | none => none
  | some z => (match T.kd with
    | .arr _ e _ => (match ti P e with
      | some E => (match E.kd with
        | .int k => (match numsV k z with
          | some xs => some (.num k xs)
          | none => none)
        | _ => none)
      | none => none)
    | _ => if z.all one = true then (match chunk T.segs z with
      | some cs => some (.lit cs)
      | none => none) else none)

/-- Parts laid into cells. -/
def fillA (pl : Nat → Option (Nat × Nat)) : List AV → List (Nat × AV) → Option (List AV)
  | cs, [] => some cs
  | cs, (i, x) :: r => (match pl i with
    | none => none
    | some (o, s) => (match flat x s with
      | none => none
      | some f => (match tk cs o with
        | none => none
        | some a => (match dr cs (o + s) with
          | none => none
          | some b => fillA pl (a ++ (f ++ b)) r))))

def plFs (fs : List (Nat × Nat × Bool)) (i : Nat) : Option (Nat × Nat) := match nth fs i with
  | some (o, s, _) => some (o, s)
  | none => none

def nz : List (Nat × Nat × Bool) → Bool
  | [] => true
  | (_, s, _) :: r => if s = 0 then false else nz r

def rep (n : Nat) (cs : List AV) : List AV := match n with
  | 0 => []
  | n + 1 => cs ++ rep n cs

def okMx (hi mx : Option Operand) : Bool := match mx, hi with
  | some _, none => false
  | _, _ => true

def sop (P : Program) (tm : List (Nat × AV)) (bl : Bls) (o : Op) : Out :=
  match o with
  | .move x => .det True (ev tm x) bl
  | .assign x => .det True (ev tm x) bl
  | .pick c a b => (match ev tm c with
    | .v (.bool t) => .det True (pickAV t (ev tm a) (ev tm b)) bl
    | _ => .stop)
  | .nilCheck x => (match ev tm x with
    | .ptr l i w k => .det True (.ptr l i w k) bl
    | .fn f a b => .det True (.fn f a b) bl
    | .v (.pointer p) => .det (p ≠ none) (.v (.pointer p)) bl
    | _ => .stop)
  | .binOp op t x y _ => (match ti P t with
    | some T => (match bop op T.kd (ev tm x) (ev tm y) with
      | some (vc, r) => .det vc r bl
      | none => .stop)
    | none => .stop)
  | .unOp op _ x => (match op, ev tm x with
    | .not, .v (.bool b) => .det True (.v (.bool (!b))) bl
    | .neg, .v (.int k z) => (match ar k (0 - z) with
      | (vc, r) => .det vc r bl)
    | .xor, .v (.int k z) => .det True (.v (.int k (bits2 .xor k (if k.signed then -1 else k.max) z))) bl
    | _, _ => .stop)
  | .convert src dst x => (match ti P src, ti P dst with
    | some _, some D => (match D.kd, ev tm x with
      | .int k, .v (.int _ z) => .det True (.v (.int k (k.wrap z))) bl
      | _, _ => .stop)
    | _, _ => .stop)
  | .fieldAddr s x f => (match ti P s with
    | some T => (match T.kd, ev tm x with
      | .struct fs, .ptr l i w k => (match nth fs f with
        | some (o, sz, _) => if sz = 0 then .stop else .det True (.ptr l i w (k + o)) bl
        | none => .stop)
      | _, _ => .stop)
    | none => .stop)
  | .indexAddr t x ix => (match ti P t with
    | some T => (match T.kd, ev tm x, ev tm ix with
      | .slice _ sz _, .sl l i w n _, .v (.int _ j) => if sz = 0 then .stop else if w = sz then .det (0 ≤ j ∧ j < n) (.ptr l (i + j.toNat) w 0) bl else .stop
      | .arr n _ sz, .ptr l i w k, .v (.int _ j) => if sz = 0 then .stop else if i * w + k = 0 then .det (0 ≤ j ∧ j < n) (.ptr l j.toNat sz 0) bl
          else .det (0 ≤ j ∧ j < n) (.ptr l 0 1 (i * w + k + j.toNat * sz)) bl
      | _, _, _ => .stop)
    | none => .stop)
  | .slice t x lo hi mx => if okMx hi mx = true then (match ti P t with
    | some T => (match T.kd, ev tm x with
      | .slice _ sz _, .sl l i w n c => if sz = 0 then .stop else if w = sz then (match sliceOf l i w n c (lo.map (ev tm)) (hi.map (ev tm)) (mx.map (ev tm)) with
        | some (vc, r) => .det vc r bl
        | none => .stop) else .stop
      | .arr n _ sz, .ptr l i w k => if sz = 1 then (match sliceOf l (i * w + k) 1 n n (lo.map (ev tm)) (hi.map (ev tm)) (mx.map (ev tm)) with
        | some (vc, r) => .det vc r bl
        | none => .stop) else .stop
      | _, _ => .stop)
    | none => .stop) else .stop
  | .load t a => (match ti P t, ev tm a with
    | some T, .ptr l i w k => (match lvl bl l with
      | some B => (match rdCt B.ct i w k T with
        | some (vc, r) => .det vc r bl
        | none => .stop)
      | none => .stop)
    | _, _ => .stop)
  | .store t a x => (match ti P t, ev tm a with
    | some T, .ptr l i w k => (match lvl bl l with
      | some B => if B.own = true then (match wrCt B.ct i w k (ev tm x) T.sz with
        | some (vc, c) => .det vc .any (setl bl l (some ⟨B.own, B.ty, c⟩))
        | none => .stop) else .stop
      | none => .stop)
    | _, _ => .stop)
  | .alloc t => (match ti P t with
    | some T => (match zeroCt P T with
      | some c => .det True (.ptr bl.length 0 T.sz 0) (bl ++ [some ⟨true, t, c⟩])
      | none => .stop)
    | none => .stop)
  | .box t x => (match ti P t with
    | some T => (match flat (ev tm x) T.sz with
      | some fs => .det True (.ptr bl.length 0 T.sz 0) (bl ++ [some ⟨true, t, .lit fs⟩])
      | none => .stop)
    | none => .stop)
  | .build t parts => (match ti P t with
    | some T => (match T.kd, T.z with
      | .struct fs, some z => if z.all one = true then (match chunk T.segs z with
        | some cs => (match fillA (plFs fs) cs (parts.toList.map fun p => (p.1, ev tm p.2)) with
          | some r => if nz fs = true then .det True (.agg r) bl else .stop
          | none => .stop)
        | none => .stop) else .stop
      | _, _ => .stop)
    | none => .stop)
  | .buildSlice t n parts => (match ti P t with
    | some T => (match T.kd with
      | .slice e sz _ => if sz = 0 then .stop else (match ti P e with
        | some E => (match E.z with
          | some z => if n * sz ≤ 16777216 then (if z.length = sz then (if z.all one = true then (match chunk E.segs z with
            | some cs => (match fillA (fun i => some (i * sz, sz)) (rep n cs) (parts.toList.map fun p => (p.1, ev tm p.2)) with
              | some r => (match E.kd with
                | .int k => (match numsAV k r with
                  | some xs => .det True (.sl bl.length 0 sz n n) (bl ++ [some ⟨true, e, .num k xs⟩])
                  | none => .stop)
                | _ => .det True (.sl bl.length 0 sz n n) (bl ++ [some ⟨true, e, .lit r⟩]))
              | none => .stop)
            | none => .stop) else .stop) else .stop) else .stop
          | none => .stop)
        | none => .stop)
      | _ => .stop)
    | none => .stop)
  | .makeFunc fn fst cap => (match fn with
    | .func f => .det True (.fn f (fst.toList.map (ev tm)) (cap.toList.map (ev tm))) bl
    | _ => .stop)
  | .extract t i => (match ev tm t with
    | .tup xs => (match nth xs i with
      | some x => .det True x bl
      | none => .stop)
    | _ => .stop)
  | .field t x f => (match ti P t with
    | some T => (match T.kd, ev tm x with
      | .struct fs, .agg xs => (match nth fs f with
        | some (o, sz, ag) => if sz = 0 then .stop else if ag = true then (match dr xs o with
            | some c1 => (match tk c1 sz with
              | some c2 => .det True (.agg c2) bl
              | none => .stop)
            | none => .stop)
          else (match at1 xs o with
            | some r => .det True r bl
            | none => .stop)
        | none => .stop)
      | _, _ => .stop)
    | none => .stop)
  | .call { callee := .builtin .len, args, argTypes } => (match args.toList, argTypes.toList with
    | [x], [t] => (match ti P t with
      | some T => (match T.kd, ev tm x with
        | .slice _ _ _, .sl _ _ _ n _ => .det True (.v (.int .i64 n)) bl
        | .slice _ _ _, .nil => .det True (.v (.int .i64 0)) bl
        | .str, .v (.string s) => .det True (.v (.int .i64 s.size)) bl
        | .arr n _ _, _ => .det True (.v (.int .i64 n)) bl
        | _, _ => .stop)
      | none => .stop)
    | _, _ => .stop)
  | .call { callee := .builtin .cap, args, argTypes } => (match args.toList, argTypes.toList with
    | [x], [t] => (match ti P t with
      | some T => (match T.kd, ev tm x with
        | .slice _ _ _, .sl _ _ _ _ c => .det True (.v (.int .i64 c)) bl
        | .slice _ _ _, .nil => .det True (.v (.int .i64 0)) bl
        | _, _ => .stop)
      | none => .stop)
    | _, _ => .stop)
  | _ => .stop

/-- What a deterministic operation writes. -/
def sopW (tm : List (Nat × AV)) : Op → List Nat
  | .store _ a _ => (match ev tm a with
    | .ptr l _ _ _ => [l]
    | _ => [])
  | _ => []

section
variable {P : Program} {β : Env} {n : Nat} {tm : List (Nat × AV)} {bl : Bls} {a : Act} {w : World} {W : List Nat}

/-- An operation that makes no memory. -/
def Same (P : Program) (β : Env) (bl : Bls) (a : Act) (w : World) (W : List Nat) (o : Oper) (r : AV) (bl' : Bls) : Prop :=
  ∃ y w' β', ((execOp a.eval o).run P w = .ok (.value y) w' ∨ (y = undef ∧ (execOp a.eval o).run P w = .ok .skip w')) ∧ Den β' r y ∧
      β <+: β' ∧ Heap β' bl' w' ∧ Step (OwnedIn β bl W) w w' ∧ (∀ b, Owned β' bl' b → Owned β bl b ∨ w.heap.size ≤ b)

/-- An operation that looks at no memory. -/
def Pur (P : Program) (β : Env) (a : Act) (o : Oper) (r : AV) : Prop := ∃ y, Den β r y ∧ ∀ w : World, (execOp a.eval o).run P w = .ok (.value y) w

theorem Same.pure {o : Oper} {r : AV} {y : Value} (hh : Heap β bl w) (h : (execOp a.eval o).run P w = .ok (.value y) w) (hd : Den β r y) : Same P β bl a w W o r bl :=
  ⟨y, w, β, .inl h, hd, List.prefix_refl _, hh, Step.refl _ _, fun _ h => .inl h⟩

theorem Same.pur {o : Oper} {r : AV} {bl' : Bls} (hh : Heap β bl w) (h : Pur P β a o r ∧ bl' = bl) : Same P β bl a w W o r bl' := by
  obtain ⟨⟨y, hd, hr⟩, rfl⟩ := h
  exact Same.pure hh (hr w) hd

theorem chunk_sound : ∀ {segs : List Nat} {vs : List Value} {cs : List AV}, (∀ v ∈ vs, one v = true) → chunk segs vs = some cs → DenC β cs vs
  | [], [], cs, _, h => by simp only [chunk, Option.some.injEq] at h; subst h; simp [DenC]
  | [], _ :: _, cs, _, h => by simp [chunk] at h
  | s :: ss, vs, cs, ho, h => by
    simp only [chunk] at h
    split at h
    · split at h
      · cases h
      · rename_i v r
        split at h
        · rename_i q hq
          obtain rfl := Option.some.inj h
          simp only [DenC]
          refine ⟨[v], r, rfl, ?_, chunk_sound (fun x hx => ho x (by simp [hx])) hq⟩
          have h1 := ho v (by simp)
          have hd := den_mk β v
          have hs : (mk v).scal = true := by
            unfold mk
            split
            · simp [one] at h1
            · simp [one] at h1
            · rfl
            · rfl
          exact cellDen_of_den hs hd
        · cases h
    · split at h
      · rename_i hs
        split at h
        · rename_i q hq
          obtain rfl := Option.some.inj h
          simp only [DenC, CellDen]
          exact ⟨vs.take s, vs.drop s, by simp, ⟨rfl, by simp; omega, fun x hx => ho x (List.mem_of_mem_take hx)⟩, chunk_sound (fun x hx => ho x (List.mem_of_mem_drop hx)) hq⟩
        · cases h
      · cases h

theorem numsV_sound {k : IntKind} : ∀ {vs : List Value} {xs : List Int}, numsV k vs = some xs → vs = xs.map (.int k)
  | [], xs, h => by simp only [numsV, Option.some.injEq] at h; subst h; rfl
  | v :: r, xs, h => by
    obtain ⟨k', z, rfl⟩ : ∃ k' z, v = .int k' z := by
      cases v <;> first | exact ⟨_, _, rfl⟩ | (simp [numsV] at h)
    simp only [numsV] at h
    split at h
    · rename_i e
      split at h
      · rename_i zs hz
        obtain rfl := Option.some.inj h
        rw [numsV_sound hz, e]; rfl
      · cases h
    · cases h

theorem numsAV_sound {k : IntKind} : ∀ {cs : List AV} {ys : List Value} {xs : List Int}, DenC β cs ys → numsAV k cs = some xs → ys = xs.map (.int k)
  | [], ys, xs, hd, h => by simp only [numsAV, Option.some.injEq] at h; subst h; simpa [DenC] using hd
  | c :: r, ys, xs, hd, h => by
    simp only [DenC] at hd
    obtain ⟨ps, zs, rfl, h1, h2⟩ := hd
    obtain ⟨k', z, rfl⟩ : ∃ k' z, c = .v (.int k' z) := by
      cases c with
      | v v => cases v <;> first | exact ⟨_, _, rfl⟩ | (simp [numsAV] at h)
      | _ => simp [numsAV] at h
    simp only [numsAV] at h
    split at h
    · rename_i e
      split at h
      · rename_i zs' hz
        obtain rfl := Option.some.inj h
        simp only [CellDen] at h1
        rw [h1.1, numsAV_sound h2 hz, e]; rfl
      · cases h
    · cases h

theorem bnd_run {x : Option Operand} {d m : Nat} {p : Prop} (htm : TmOk β n tm a) (h : bnd (x.map (ev tm)) d = some (p, m)) (hp : p) :
    (x = none ∧ m = d) ∨ ∃ o k, x = some o ∧ a.eval o = .int k (m : Int) := by
  cases x with
  | none => simp only [Option.map_none, bnd, Option.some.injEq, Prod.mk.injEq] at h; exact .inl ⟨rfl, h.2.symm⟩
  | some o =>
    simp only [Option.map_some] at h
    have hd := den_ev htm o
    cases he : ev tm o <;> rw [he] at h hd <;> simp only [bnd] at h <;> try (cases h; done)
    rename_i v
    cases v <;> simp only [bnd] at h <;> try (cases h; done)
    rename_i k z
    simp only [Option.some.injEq, Prod.mk.injEq] at h
    simp only [Den] at hd
    have h0 : 0 ≤ z := by rw [h.1]; exact hp
    exact .inr ⟨o, k, rfl, by rw [hd.1, ← h.2, Int.toNat_of_nonneg h0]⟩

theorem sliceBound_run {k : IntKind} {m y : Nat} {code : BoundsCode} (h1 : m ≤ y) :
    (Instr.sliceBound (.int k (m : Int)) y code).run P w = .ok m w := by
  have : (m : Int) ≤ (y : Int) := by omega
  simp [Instr.sliceBound, asIntOf, h1]

theorem sliceBounds_run {b : Bool} {len cap s h m : Nat} {lo hi mx : Option Operand} {p1 p2 p3 : Prop} (htm : TmOk β n tm a)
    (h1 : bnd (mx.map (ev tm)) cap = some (p1, m)) (h2 : bnd (hi.map (ev tm)) len = some (p2, h)) (h3 : bnd (lo.map (ev tm)) 0 = some (p3, s)) (q1 : p1) (q2 : p2) (q3 : p3)
    (hsh : s ≤ h) (hhm : h ≤ m) (hmc : m ≤ cap) (hmx : mx = none ∨ hi ≠ none) :
    (Instr.sliceBounds b len cap (lo.map a.eval) (hi.map a.eval) (mx.map a.eval)).run P w = .ok (s, h, m) w := by
  rcases bnd_run htm h1 q1 with ⟨rfl, rfl⟩ | ⟨o1, k1, rfl, e1⟩ <;> rcases bnd_run htm h2 q2 with ⟨rfl, rfl⟩ | ⟨o2, k2, rfl, e2⟩ <;>
    rcases bnd_run htm h3 q3 with ⟨rfl, rfl⟩ | ⟨o3, k3, rfl, e3⟩ <;> clear h1 h2 h3 <;>
    simp_all [Instr.sliceBounds, sliceBound_run]

end

end Go.SX
