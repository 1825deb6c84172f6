/- DiskSwitch: states. -/
import Derived.Test.YtmdepmhamefheaaDS1
import Derived.Test.YtmdepmhamefheaaSy43
set_option linter.unusedSimpArgs false
set_option linter.unusedVariables false
-- FUNCTIONS 3 9 10 11 12 14 15 16 17 18 19 20 22 34 35 36 37 38 39 52 53 54
namespace Go.Proofs.Ytmdepmhamefheaa
open Go Go.SY
theorem wrap_nat {n : Nat} (h : n < 9223372036854775808) : IntKind.i64.wrap (n : Int) = n := by
  refine wrap64_id ?_
  simp [inK]
  omega
theorem strs {x y : List Int} (h : x = y) (bl : Bls) : IsT (.v (.bool ((strOf x).toList == (strOf y).toList))) bl := by
  subst h
  simp [IsT]
def tB (F L X : List Int) (cf cl cx : Option Nat) (w : Int) (H : Nat) : TM := [(0, .imn false .u8 F cf), (1, .imn false .u8 L cl), (2, .imn false .u8 X cx), (4, .v (.int .i64 w)), (11, .v (.bool true)), (12, .ptr 0 0 9 0), (14, .v (.int .i64 H))]
def bB (F L : List Int) (f : Nat) : Bls := [some (.lit [.sl 1 0 1 (F.length + L.length) none, .v (.int .i64 F.length), .nil, .v (.int .i64 0), .v (.int .i64 1000), .v (.int .i64 3), .ptr 2 0 1 0, .v (.bool false), .v (.bool true)]), some (.num .u8 (F ++ L)), some (.lit [.v (.int .i64 f)])]
end Go.Proofs.Ytmdepmhamefheaa
