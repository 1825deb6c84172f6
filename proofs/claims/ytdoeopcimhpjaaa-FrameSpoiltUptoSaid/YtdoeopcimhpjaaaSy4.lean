/-
  The symbolic machine: numbers, comparisons, what operations that look at no memory come to.
-/
import Derived.Test.YtdoeopcimhpjaaaSy3
set_option linter.unusedSimpArgs false
set_option linter.unusedVariables false
namespace Go.SY
open Go

/-! ### ranges -/
theorem inK_wrap (k : IntKind) (z : Int) : inK k (k.wrap z) = true := by
  cases k <;> simp [inK, IntKind.wrap, IntKind.bits, IntKind.signed] <;> (try split) <;> omega

theorem wrap64_id {z : Int} (h : inK .i64 z = true) : IntKind.i64.wrap z = z := by
  simp only [inK, Bool.and_eq_true, decide_eq_true_eq] at h
  rw [IntKind.wrap_i64]; omega

theorem inK_between {k : IntKind} {x z : Int} (h : inK k x = true) (h1 : 0 ≤ x → 0 ≤ z ∧ z ≤ x) (h2 : x < 0 → x ≤ z ∧ z ≤ 0) : inK k z = true := by
  rcases Int.lt_or_le x 0 with h0 | h0
  · have := h2 h0
    cases k <;> simp only [inK, Bool.and_eq_true, decide_eq_true_eq] at h ⊢ <;> omega
  · have := h1 h0
    cases k <;> simp only [inK, Bool.and_eq_true, decide_eq_true_eq] at h ⊢ <;> omega

theorem inK_tmod {k : IntKind} {x : Int} (h : inK k x = true) (y : Int) : inK k (x.tmod y) = true := by
  refine inK_between h (fun h0 => ?_) (fun h0 => ?_)
  · refine ⟨Int.tmod_nonneg _ h0, ?_⟩
    obtain ⟨n, rfl⟩ := Int.eq_ofNat_of_zero_le h0
    have h3 : ((n : Int).tmod y).natAbs ≤ n := by rw [Int.natAbs_tmod]; exact Nat.mod_le _ _
    have := Int.tmod_nonneg y h0
    omega
  · have e : x.tmod y = -((-x).tmod y) := by rw [Int.neg_tmod]; omega
    have h1 : 0 ≤ -x := by omega
    obtain ⟨n, hn⟩ := Int.eq_ofNat_of_zero_le h1
    have h3 : ((-x).tmod y).natAbs ≤ n := by rw [hn, Int.natAbs_tmod]; exact Nat.mod_le _ _
    have := Int.tmod_nonneg y h1
    omega

theorem inK_fdiv {k : IntKind} {x : Int} (h : inK k x = true) (n : Nat) : inK k (x.fdiv (2 ^ n)) = true := by
  have hp : (0 : Int) < 2 ^ n := by
    have : (0 : Nat) < 2 ^ n := Nat.pos_of_ne_zero (by simp)
    exact_mod_cast this
  refine inK_between h (fun h0 => ?_) (fun h0 => ?_)
  · rw [Int.fdiv_eq_ediv_of_nonneg _ (by omega)]
    exact ⟨Int.ediv_nonneg h0 (by omega), Int.ediv_le_self _ h0⟩
  · rw [Int.fdiv_eq_ediv_of_nonneg _ (by omega)]
    have h1 := Int.emod_add_mul_ediv x (2 ^ n)
    have h2 := Int.emod_nonneg x (show (2 : Int) ^ n ≠ 0 by omega)
    have h3 := Int.emod_lt_of_pos x hp
    have h4 : x / 2 ^ n < 0 := Int.ediv_neg_of_neg_of_pos h0 hp
    refine ⟨?_, by omega⟩
    have h5 : (2 ^ n : Int) * (x / 2 ^ n + 1) ≤ 1 * (x / 2 ^ n + 1) := Int.mul_le_mul_of_nonpos_right (by omega) (by omega)
    rw [Int.mul_add] at h5
    omega

/-! ### operands -/
def put (n : Nat) (tm : List (Nat × AV)) (d : Option Nat) (x : AV) : List (Nat × AV) :=
  match d with
  | none => tm
  | some d => if d < n then (d, x) :: tm else tm

def ev (tm : List (Nat × AV)) : Operand → AV
  | .tmp t => get tm t
  | .const x => mk x
  | .global g => .v (.pointer (some ⟨g, 0, none⟩))
  | .func f => .fn f [] []

/-- Operands' values are as the slots say. -/
def EvOk (β : Env) (tm : List (Nat × AV)) (ρ : Operand → Value) : Prop := ∀ x, Den β (ev tm x) (ρ x)

def evT (tmps : Array Value) : Operand → Value
  | .tmp t => tmps.getD t undef
  | .const v => v
  | .global g => .pointer (some ⟨g, 0, none⟩)
  | .func f => .func (.func f) #[] #[]

theorem TmOk.ev {β : Env} {n : Nat} {tm : List (Nat × AV)} {tmps : Array Value} (h : TmOk β n tm tmps) : EvOk β tm (evT tmps) := fun x => by
  cases x with
  | tmp t => exact h.2 t
  | const x => exact den_mk β x
  | global g => simp [SY.ev, Den, evT, one, wfV]
  | func f => simp only [SY.ev, Den, evT]; exact ⟨[], [], rfl, by simp [DenL], by simp [DenL]⟩

theorem frame_eval (fr : Frame) : fr.eval = evT fr.tmps := by funext x; cases x <;> rfl

/-! ### arithmetic and comparisons -/
/-- int's arithmetic stays bare where it fits; other kinds wrap. -/
def ar (k : IntKind) (z : Int) : Bool × AV :=
  match k with
  | .i64 => (inK .i64 z, .v (.int .i64 z))
  | k => (true, .v (.int k (k.wrap z)))

theorem ar_wrap {k : IntKind} {z : Int} {vc : Bool} {r : AV} (h : ar k z = (vc, r)) (hv : vc = true) : r = .v (.int k (k.wrap z)) := by
  unfold ar at h
  split at h
  · obtain ⟨rfl, rfl⟩ := Prod.mk.inj h
    rw [wrap64_id hv]
  · obtain ⟨rfl, rfl⟩ := Prod.mk.inj h
    rfl

def bits2 (op : BinOp) (k : IntKind) (x y : Int) : Int :=
  let a := BitVec.ofInt k.bits x
  let b := BitVec.ofInt k.bits y
  match op with
  | .and => k.wrap (a &&& b).toNat
  | .or => k.wrap (a ||| b).toNat
  | .xor => k.wrap (a ^^^ b).toNat
  | _ => k.wrap (a &&& ~~~b).toNat

def bopInt (op : BinOp) (k : IntKind) (x y : Int) : Option (Bool × AV) :=
  match op with
  | .add => some (ar k (x + y))
  | .sub => some (ar k (x - y))
  | .mul => some (ar k (x * y))
  | .quo => some (decide (y ≠ 0), .v (.int k (k.wrap (x.tdiv y))))
  | .rem => some (decide (y ≠ 0), .v (.int k (x.tmod y)))
  | .and => some (true, .v (.int k (bits2 .and k x y)))
  | .or => some (true, .v (.int k (bits2 .or k x y)))
  | .xor => some (true, .v (.int k (bits2 .xor k x y)))
  | .andNot => some (true, .v (.int k (bits2 .andNot k x y)))
  | .eql => some (true, .v (.bool (decide (x = y))))
  | .neq => some (true, .v (.bool (decide (¬ x = y))))
  | .lss => some (true, .v (.bool (decide (x < y))))
  | .leq => some (true, .v (.bool (decide (x ≤ y))))
  | .gtr => some (true, .v (.bool (decide (y < x))))
  | .geq => some (true, .v (.bool (decide (y ≤ x))))
  | _ => none

def bopStr (op : BinOp) (x y : ByteArray) : Option (Bool × AV) :=
  match op with
  | .eql => some (true, .v (.bool (x.toList == y.toList)))
  | .neq => some (true, .v (.bool (!(x.toList == y.toList))))
  | .add => some (decide (x.size + y.size < 9223372036854775808), .v (.string (x ++ y)))
  | _ => none

/-- Two values held against each other: alike or not. -/
def bopEq (op : BinOp) (vc b : Bool) : Option (Bool × AV) :=
  match op with
  | .eql => some (vc, .v (.bool b))
  | .neq => some (vc, .v (.bool (!b)))
  | _ => none

def isPtr : KD → Bool
  | .ptr _ => true
  | _ => false
def isSl : KD → Bool
  | .slice _ _ _ => true
  | _ => false
def isBl : KD → Bool
  | .bool => true
  | _ => false

/-- Pieces held against each other. -/
def eqPs : List Lf → List AV → List AV → Option Bool
  | [], [], [] => some true
  | .int k :: L, .v (.int k1 x) :: ps, .v (.int k2 y) :: qs => if k1 = k then (if k2 = k then (match eqPs L ps qs with
      | some b => some (decide (x = y) && b)
      | none => none) else none) else none
  | .str :: L, .v (.string x) :: ps, .v (.string y) :: qs => (match eqPs L ps qs with
      | some b => some ((x.toList == y.toList) && b)
      | none => none)
  | .bool :: L, .v (.bool x) :: ps, .v (.bool y) :: qs => (match eqPs L ps qs with
      | some b => some ((x == y) && b)
      | none => none)
  | .ints n k :: L, .ch n1 k1 xs :: ps, .ch n2 k2 ys :: qs => if k1 = k then (if k2 = k then (if n1 = n then (if n2 = n then (match eqPs L ps qs with
      | some b => some (decide (xs = ys) && b)
      | none => none) else none) else none) else none) else none
  | _, _, _ => none

def bop (op : BinOp) (T : TI) (a b : AV) : Option (Bool × AV) :=
  match a, b with
  | .v (.int k x), .v (.int k' y) =>
    (match op with
    | .shl => some (decide (0 ≤ y), .v (.int k (k.wrap (x * 2 ^ (min y.toNat k.bits)))))
    | .shr => some (decide (0 ≤ y), .v (.int k (x.fdiv (2 ^ (min y.toNat k.bits)))))
    | op => if k = k' then bopInt op k x y else none)
  | .v (.string x), .v (.string y) => bopStr op x y
  | .v (.bool x), .v (.bool y) => if isBl T.kd = true then bopEq op true (x == y) else none
  | .ptr _ _ _ _, .v (.pointer none) => if isPtr T.kd = true then bopEq op true false else none
  | .v (.pointer none), .ptr _ _ _ _ => if isPtr T.kd = true then bopEq op true false else none
  | .v (.pointer p), .v (.pointer none) => if isPtr T.kd = true then bopEq op true p.isNone else none
  | .nil, .nil => if isSl T.kd = true then bopEq op true true else none
  | .sl _ _ _ n _, .nil => if isSl T.kd = true then bopEq op (decide (0 < n)) false else none
  | .imn _ _ xs _, .nil => if isSl T.kd = true then bopEq op (decide (0 < xs.length)) false else none
  | .imr _ _ rs _, .nil => if isSl T.kd = true then bopEq op (decide (0 < rs.length)) false else none
  | a, b => (match T.eq, parts a, parts b with
    | some L, some ps, some qs => if T.ag = true then (match eqPs L ps qs with
        | some r => bopEq op true r
        | none => none) else none
    | _, _, _ => none)

section
variable {P : Program} {w : World}

theorem eqGuard_run {op : BinOp} {t : TypeId} {x y : Operand} {a b : Value} (h1 : op ≠ .eql ∧ op ≠ .neq ∨ (one a = true ∧ a ≠ .nilIface)) : (eqGuard op t x y a b).run P w = .ok () w := by
  unfold eqGuard
  cases op <;> first
    | rfl
    | (rcases h1 with ⟨h1, h2⟩ | ⟨h1, h2⟩
       · first | exact absurd rfl h1 | exact absurd rfl h2
       · cases a <;> first | rfl | (simp [one] at h1; done) | exact absurd rfl h2)

theorem bopInt_sound {β : Env} {op : BinOp} {k : IntKind} {t : TypeId} {x y : Int} {vc : Bool} {r : AV} (hop : op ≠ .shl ∧ op ≠ .shr) (hx : inK k x = true) (h : bopInt op k x y = some (vc, r)) (hv : vc = true) :
    ∃ v, (∀ w : World, (binOp op t (.int k x) (.int k y)).run P w = .ok v w) ∧ Den β r v := by
  have dw : ∀ z, inK k z = true → Den β (.v (.int k z)) (.int k z) := fun z hz => by simp only [Den, one, wfV, true_and]; exact hz
  have arr : ∀ z, ar k z = (vc, r) → Den β r (.int k (k.wrap z)) := fun z hz => by
    rw [ar_wrap hz hv]; exact dw _ (inK_wrap k z)
  have db : ∀ b, Den β (.v (.bool b)) (.bool b) := fun b => by simp [Den, one, wfV]
  have b2 : ∀ op, inK k (bits2 op k x y) = true := fun op => by cases op <;> exact inK_wrap k _
  cases op <;> simp only [bopInt, Option.some.injEq] at h
  case add => exact ⟨_, fun w => by simp [binOp, Op.intArith], arr _ h⟩
  case sub => exact ⟨_, fun w => by simp [binOp, Op.intArith], arr _ h⟩
  case mul => exact ⟨_, fun w => by simp [binOp, Op.intArith], arr _ h⟩
  case quo => obtain ⟨rfl, rfl⟩ := Prod.mk.inj h; have hv := of_decide_eq_true hv; exact ⟨.int k (k.wrap (x.tdiv y)), fun w => by simp [binOp, Op.intDiv, hv], dw _ (inK_wrap k _)⟩
  case rem => obtain ⟨rfl, rfl⟩ := Prod.mk.inj h; have hv := of_decide_eq_true hv; exact ⟨.int k (x.tmod y), fun w => by simp [binOp, Op.intDiv, hv], dw _ (inK_tmod hx y)⟩
  case and => obtain ⟨rfl, rfl⟩ := Prod.mk.inj h; exact ⟨.int k (bits2 .and k x y), fun w => by simp only [binOp, ne_eq, not_true_eq_false, if_false, Op.intBits]; rfl, dw _ (b2 _)⟩
  case or => obtain ⟨rfl, rfl⟩ := Prod.mk.inj h; exact ⟨.int k (bits2 .or k x y), fun w => by simp only [binOp, ne_eq, not_true_eq_false, if_false, Op.intBits]; rfl, dw _ (b2 _)⟩
  case xor => obtain ⟨rfl, rfl⟩ := Prod.mk.inj h; exact ⟨.int k (bits2 .xor k x y), fun w => by simp only [binOp, ne_eq, not_true_eq_false, if_false, Op.intBits]; rfl, dw _ (b2 _)⟩
  case andNot => obtain ⟨rfl, rfl⟩ := Prod.mk.inj h; exact ⟨.int k (bits2 .andNot k x y), fun w => by simp only [binOp, ne_eq, not_true_eq_false, if_false, Op.intBits]; rfl, dw _ (b2 _)⟩
  case eql => obtain ⟨rfl, rfl⟩ := Prod.mk.inj h; exact ⟨.bool (decide (x = y)), fun w => by simp [binOp, Op.intCmp]; rfl, db _⟩
  case neq => obtain ⟨rfl, rfl⟩ := Prod.mk.inj h; exact ⟨.bool (decide (¬ x = y)), fun w => by simp [binOp, Op.intCmp, bne]; rfl, db _⟩
  case lss => obtain ⟨rfl, rfl⟩ := Prod.mk.inj h; exact ⟨.bool (decide (x < y)), fun w => by simp [binOp, Op.intCmp], db _⟩
  case leq => obtain ⟨rfl, rfl⟩ := Prod.mk.inj h; exact ⟨.bool (decide (x ≤ y)), fun w => by simp [binOp, Op.intCmp], db _⟩
  case gtr => obtain ⟨rfl, rfl⟩ := Prod.mk.inj h; exact ⟨.bool (decide (y < x)), fun w => by simp [binOp, Op.intCmp], db _⟩
  case geq => obtain ⟨rfl, rfl⟩ := Prod.mk.inj h; exact ⟨.bool (decide (y ≤ x)), fun w => by simp [binOp, Op.intCmp], db _⟩
  case shl => exact absurd rfl hop.1
  case shr => exact absurd rfl hop.2

end

end Go.SY
