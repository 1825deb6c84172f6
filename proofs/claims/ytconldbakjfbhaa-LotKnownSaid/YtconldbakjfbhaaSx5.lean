/-
  The symbolic machine: the operations.
-/
import Derived.Test.YtconldbakjfbhaaSx4
set_option linter.unusedSimpArgs false
set_option linter.unusedVariables false
namespace Go.SX
open Go

def lvl : Bls → Nat → Option Blk
  | [], _ => none
  | b :: r, l => if l = 0 then b else lvl r (l - 1)

def setl : Bls → Nat → Option Blk → Bls
  | [], _, _ => []
  | b :: r, l, x => if l = 0 then x :: r else b :: setl r (l - 1) x

theorem lvl_get : ∀ {bl : Bls} {l : Nat} {B : Blk}, lvl bl l = some B → bl[l]? = some (some B)
  | [], _, _, h => by simp [lvl] at h
  | b :: r, 0, B, h => by simp [lvl] at h; simp [h]
  | b :: r, l + 1, B, h => by simp [lvl] at h; simpa using lvl_get h

theorem setl_set : ∀ (bl : Bls) (l : Nat) (x : Option Blk), setl bl l x = bl.set l x
  | [], _, _ => by simp [setl]
  | b :: r, 0, x => by simp [setl]
  | b :: r, l + 1, x => by simp [setl, setl_set r l x]

inductive Out where
  | stop
  | det (vc : Prop) (r : AV) (bl : Bls)

/-- int's arithmetic stays bare where it fits; other kinds wrap. -/
def ar (k : IntKind) (z : Int) : Prop × AV :=
  match k with
  | .i64 => (-9223372036854775808 ≤ z ∧ z ≤ 9223372036854775807, .v (.int .i64 z))
  | k => (True, .v (.int k (k.wrap z)))

theorem wrap64_id {z : Int} (h : -9223372036854775808 ≤ z ∧ z ≤ 9223372036854775807) : IntKind.i64.wrap z = z := by
  rw [IntKind.wrap_i64]; omega

theorem ar_wrap {k : IntKind} {z : Int} {vc : Prop} {r : AV} (h : ar k z = (vc, r)) (hv : vc) : r = .v (.int k (k.wrap z)) := by
  unfold ar at h
  split at h
  · obtain ⟨rfl, rfl⟩ := Prod.mk.inj h
    rw [wrap64_id hv]
  · obtain ⟨rfl, rfl⟩ := Prod.mk.inj h
    rfl

def bits2 (op : BinOp) (k : IntKind) (x y : Int) : Int :=
  let a := BitVec.ofInt k.bits x
  let b := BitVec.ofInt k.bits y
  match op with
  | .and => k.wrap (a &&& b).toNat
  | .or => k.wrap (a ||| b).toNat
  | .xor => k.wrap (a ^^^ b).toNat
  | _ => k.wrap (a &&& ~~~b).toNat

def bopInt (op : BinOp) (k : IntKind) (x y : Int) : Option (Prop × AV) :=
  match op with
  | .add => some (ar k (x + y))
  | .sub => some (ar k (x - y))
  | .mul => some (ar k (x * y))
  | .quo => some (y ≠ 0, .v (.int k (k.wrap (x.tdiv y))))
  | .rem => some (y ≠ 0, .v (.int k (x.tmod y)))
  | .and => some (True, .v (.int k (bits2 .and k x y)))
  | .or => some (True, .v (.int k (bits2 .or k x y)))
  | .xor => some (True, .v (.int k (bits2 .xor k x y)))
  | .andNot => some (True, .v (.int k (bits2 .andNot k x y)))
  | .eql => some (True, .v (.bool (decide (x = y))))
  | .neq => some (True, .v (.bool (decide (¬ x = y))))
  | .lss => some (True, .v (.bool (decide (x < y))))
  | .leq => some (True, .v (.bool (decide (x ≤ y))))
  | .gtr => some (True, .v (.bool (decide (y < x))))
  | .geq => some (True, .v (.bool (decide (y ≤ x))))
  | _ => none

def bopStr (op : BinOp) (x y : ByteArray) : Option (Prop × AV) :=
  match op with
  | .eql => some (True, .v (.bool (x.toList == y.toList)))
  | .neq => some (True, .v (.bool (!(x.toList == y.toList))))
  | .add => some (x.size + y.size ≤ 9223372036854775807, .v (.string (x ++ y)))
  | _ => none

def bopBool (op : BinOp) (K : KD) (x y : Bool) : Option (Prop × AV) :=
  match K, op with
  | .bool, .eql => some (True, .v (.bool (x == y)))
  | .bool, .neq => some (True, .v (.bool (!(x == y))))
  | _, _ => none

/-- A pointer held against nil. -/
def bopNil (op : BinOp) (K : KD) (b : Bool) : Option (Prop × AV) :=
  match K, op with
  | .ptr _, .eql => some (True, .v (.bool b))
  | .ptr _, .neq => some (True, .v (.bool (!b)))
  | _, _ => none

def bop (op : BinOp) (K : KD) (a b : AV) : Option (Prop × AV) :=
  match a, b with
  | .v (.int k x), .v (.int k' y) =>
    (match op with
    | .shl => some (0 ≤ y, .v (.int k (k.wrap (x * 2 ^ (min y.toNat k.bits)))))
    | .shr => some (0 ≤ y, .v (.int k (x.fdiv (2 ^ (min y.toNat k.bits)))))
    | op => if k = k' then bopInt op k x y else none)
  | .v (.string x), .v (.string y) => bopStr op x y
  | .v (.bool x), .v (.bool y) => bopBool op K x y
  | .ptr _ _ _ _, .v (.pointer none) => bopNil op K false
  | .v (.pointer none), .ptr _ _ _ _ => bopNil op K false
  | .v (.pointer p), .v (.pointer none) => bopNil op K p.isNone
  | _, _ => none

section
variable {P : Program} {w : World}

theorem eqGuard_run {op : BinOp} {t : TypeId} {x y : Operand} {a b : Value} (h1 : one a = true) (h2 : a ≠ .nilIface) :
    (eqGuard op t x y a b).run P w = .ok () w := by
  unfold eqGuard
  cases op <;> cases a <;> first | rfl | (simp [one] at h1; done) | exact absurd rfl h2

theorem bopInt_sound {β : Env} {op : BinOp} {k : IntKind} {t : TypeId} {x y : Int} {vc : Prop} {r : AV} (hop : op ≠ .shl ∧ op ≠ .shr) (h : bopInt op k x y = some (vc, r)) (hv : vc) :
    ∃ v, (∀ w : World, (binOp op t (.int k x) (.int k y)).run P w = .ok v w) ∧ Den β r v := by
  have arr : ∀ z, ar k z = (vc, r) → Den β r (.int k (k.wrap z)) := fun z hz => by
    rw [ar_wrap hz hv]; simp [Den, one]
  cases op <;> simp only [bopInt, Option.some.injEq] at h
  case add => exact ⟨_, fun w => by simp [binOp, Op.intArith], arr _ h⟩
  case sub => exact ⟨_, fun w => by simp [binOp, Op.intArith], arr _ h⟩
  case mul => exact ⟨_, fun w => by simp [binOp, Op.intArith], arr _ h⟩
  case quo => obtain ⟨rfl, rfl⟩ := Prod.mk.inj h; exact ⟨.int k (k.wrap (x.tdiv y)), fun w => by simp [binOp, Op.intDiv, hv], by simp [Den, one]⟩
  case rem => obtain ⟨rfl, rfl⟩ := Prod.mk.inj h; exact ⟨.int k (x.tmod y), fun w => by simp [binOp, Op.intDiv, hv], by simp [Den, one]⟩
  case and => obtain ⟨rfl, rfl⟩ := Prod.mk.inj h; exact ⟨.int k (bits2 .and k x y), fun w => by simp only [binOp, ne_eq, not_true_eq_false, if_false, Op.intBits]; rfl, by simp [Den, one]⟩
  case or => obtain ⟨rfl, rfl⟩ := Prod.mk.inj h; exact ⟨.int k (bits2 .or k x y), fun w => by simp only [binOp, ne_eq, not_true_eq_false, if_false, Op.intBits]; rfl, by simp [Den, one]⟩
  case xor => obtain ⟨rfl, rfl⟩ := Prod.mk.inj h; exact ⟨.int k (bits2 .xor k x y), fun w => by simp only [binOp, ne_eq, not_true_eq_false, if_false, Op.intBits]; rfl, by simp [Den, one]⟩
  case andNot => obtain ⟨rfl, rfl⟩ := Prod.mk.inj h; exact ⟨.int k (bits2 .andNot k x y), fun w => by simp only [binOp, ne_eq, not_true_eq_false, if_false, Op.intBits]; rfl, by simp [Den, one]⟩
  case eql => obtain ⟨rfl, rfl⟩ := Prod.mk.inj h; exact ⟨.bool (decide (x = y)), fun w => by simp [binOp, Op.intCmp]; rfl, by simp [Den, one]⟩
  case neq => obtain ⟨rfl, rfl⟩ := Prod.mk.inj h; exact ⟨.bool (decide (¬ x = y)), fun w => by simp [binOp, Op.intCmp, bne]; rfl, by simp [Den, one]⟩
  case lss => obtain ⟨rfl, rfl⟩ := Prod.mk.inj h; exact ⟨.bool (decide (x < y)), fun w => by simp [binOp, Op.intCmp], by simp [Den, one]⟩
  case leq => obtain ⟨rfl, rfl⟩ := Prod.mk.inj h; exact ⟨.bool (decide (x ≤ y)), fun w => by simp [binOp, Op.intCmp], by simp [Den, one]⟩
  case gtr => obtain ⟨rfl, rfl⟩ := Prod.mk.inj h; exact ⟨.bool (decide (y < x)), fun w => by simp [binOp, Op.intCmp], by simp [Den, one]⟩
  case geq => obtain ⟨rfl, rfl⟩ := Prod.mk.inj h; exact ⟨.bool (decide (y ≤ x)), fun w => by simp [binOp, Op.intCmp], by simp [Den, one]⟩
  case shl => exact absurd rfl hop.1
  case shr => exact absurd rfl hop.2

end

end Go.SX
