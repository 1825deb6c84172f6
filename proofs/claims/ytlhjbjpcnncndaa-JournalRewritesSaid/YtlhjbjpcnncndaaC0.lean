/- Check sums: the plain law of their bits. -/
import Derived.Test.YtlhjbjpcnncndaaSe
set_option linter.unusedSimpArgs false
set_option linter.unusedVariables false
namespace Go.SY
open Go
def crcS (x : Nat) : Nat := match x % 2 with
  | 1 => (x / 2) ^^^ 3988292384
  | _ => x / 2
def crcB : Nat → Nat → Nat
  | 0, x => x
  | j + 1, x => crcB j (crcS x)
theorem crcS_lt {x : Nat} (h : x < 4294967296) : crcS x < 4294967296 := by
  unfold crcS
  split
  · exact Nat.xor_lt_two_pow (n := 32) (by omega) (by omega)
  · omega
theorem crcB_lt : ∀ {j x : Nat}, x < 4294967296 → crcB j x < 4294967296
  | 0, _, h => h
  | j + 1, _, h => crcB_lt (j := j) (crcS_lt h)
theorem bv_nat {x : Nat} (h : x < 4294967296) : (BitVec.ofInt IntKind.u32.bits (x : Int)).toNat = x := by
  simp only [IntKind.bits, BitVec.toNat_ofInt]
  omega
theorem wrap_nat {x : Nat} (h : x < 4294967296) : IntKind.u32.wrap (x : Int) = x := by
  simp only [IntKind.wrap, IntKind.bits, IntKind.signed]
  simp
  omega
theorem u32_low {x : Nat} (h : x < 4294967296) : IntKind.u32.wrap (((BitVec.ofInt IntKind.u32.bits (x : Int) &&& BitVec.ofInt IntKind.u32.bits 1).toNat : Nat) : Int) = ((x % 2 : Nat) : Int) := by
  have h1 : (BitVec.ofInt IntKind.u32.bits (1 : Int)).toNat = 1 := bv_nat (x := 1) (by decide)
  rw [BitVec.toNat_and, bv_nat h, h1, Nat.and_one_is_mod, wrap_nat (by omega)]
theorem u32_half {x : Nat} : (x : Int).fdiv (2 ^ min 1 IntKind.u32.bits) = ((x / 2 : Nat) : Int) := by
  have : min 1 IntKind.u32.bits = 1 := by decide
  rw [this, Int.fdiv_eq_ediv_of_nonneg _ (by decide)]
  simp
theorem u32_xor {x y : Nat} (h : x < 4294967296) (k : y < 4294967296) : IntKind.u32.wrap (((BitVec.ofInt IntKind.u32.bits (x : Int) ^^^ BitVec.ofInt IntKind.u32.bits (y : Int)).toNat : Nat) : Int) = ((x ^^^ y : Nat) : Int) := by
  rw [BitVec.toNat_xor, bv_nat h, bv_nat k, wrap_nat (Nat.xor_lt_two_pow (n := 32) h k)]
theorem u32_poly {x : Nat} (h : x < 4294967296) : IntKind.u32.wrap (((BitVec.ofInt IntKind.u32.bits (x : Int) ^^^ BitVec.ofInt IntKind.u32.bits 3988292384).toNat : Nat) : Int) = ((x ^^^ 3988292384 : Nat) : Int) := u32_xor h (by decide : (3988292384 : Nat) < 4294967296)
end Go.SY
