/-
  No cell of these rows narrows 'for every input' (looked for: loops, veiled, ifaces, maps, wideKeys, modest, calm, conditions, laid).
  DERIVED. THE GIVEN ROWS OF THIS SEAT. 5 by the template 'for every input the law returns true; each argument reads behind the call as it read before'; 0 by the template 'total and deterministic' (their statements: YteknibmnaclhmaaTotals.lean).
  GIVEN WITH THE SEED: the statements are not yours to turn. If you find one false, say at which input.
  Laid BY PROGRAM, IN A SANDBOX (cutbox-rows.mjs): the forced cells as the released guide's own fill.sh prints them over the translation ea2e6fe719ef3ac3… (all of the seat's roots in one cut). By AI agents, Wed Nov 11 2026. No macro, syntax, notation, axiom, sorry.
-/
import Derived.Test.YteknibmnaclhmaaChecked
import GoSem.Claim
import GoSem.ClaimJoined
import GoSem.ClaimMapViews
import Derived.JoinedTies
import Derived.KernelRfl
namespace Go.Proofs.Yteknibmnaclhmaa
/- THE CELL 'sum', in the pinned program and in every row, IS THE sha256 OF THE DUMP (.gsa) THAT YteknibmnaclhmaaProg.lean LOADS. Nothing in Lean hashes anything: it is a label: what it is worth is what the hold of that sum in a sandbox is worth. -/
noncomputable def Try.pinned : Pinned := { name := "yteknibmnaclhmaa", sum := "ea2e6fe719ef3ac3d6d87616561e517769fa4aaa9e16631a6947f3906769b249", checked := Try.checked }
namespace Rows
def none {H : Type} : Left H := { results := [], args := [] }

/-- 'chartularylaw03.FieldPuts': WHATEVER THE INPUT: true; the input reads as it did. -/
def fieldPutsSpec : ChangeSpec := { name := "fieldPuts", fn := fun _ => fun
  | [d1, d2] => { results := [.lit (.bool true)], args := [d1, d2] }
  | _ => none }
def fieldPutsRow : OpenClaim := { program := "yteknibmnaclhmaa", sum := "ea2e6fe719ef3ac3d6d87616561e517769fa4aaa9e16631a6947f3906769b249", func := "chartulary/chartularylaw03.FieldPuts", spec := "fieldPuts", inPlace := ["internal/bytealg.IndexByteString"], apart := false }
def FieldPutsSaid : Prop := fieldPutsRow.holds Try.pinned (OpenSpec.ofChange fieldPutsSpec)

/-- ITS FALSE NEIGHBOUR: 'it returns false'. Refute it at one input. -/
def fieldPutsWrong : ChangeSpec := { name := "fieldPuts", fn := fun _ => fun
  | [d1, d2] => { results := [.lit (.bool false)], args := [d1, d2] }
  | _ => none }
def FieldPutsWrongFalsely : Prop := fieldPutsRow.holds Try.pinned (OpenSpec.ofChange fieldPutsWrong)

/-- 'chartularylaw03.FieldKnown': WHATEVER THE INPUT: true; the input reads as it did. -/
def fieldKnownSpec : ChangeSpec := { name := "fieldKnown", fn := fun _ => fun
  | [] => { results := [.lit (.bool true)], args := [] }
  | _ => none }
def fieldKnownRow : OpenClaim := { program := "yteknibmnaclhmaa", sum := "ea2e6fe719ef3ac3d6d87616561e517769fa4aaa9e16631a6947f3906769b249", func := "chartulary/chartularylaw03.FieldKnown", spec := "fieldKnown", inPlace := ["internal/bytealg.IndexByteString"], apart := false }
def FieldKnownSaid : Prop := fieldKnownRow.holds Try.pinned (OpenSpec.ofChange fieldKnownSpec)

/-- ITS FALSE NEIGHBOUR: 'it returns false'. Refute it at one input. -/
def fieldKnownWrong : ChangeSpec := { name := "fieldKnown", fn := fun _ => fun
  | [] => { results := [.lit (.bool false)], args := [] }
  | _ => none }
def FieldKnownWrongFalsely : Prop := fieldKnownRow.holds Try.pinned (OpenSpec.ofChange fieldKnownWrong)

/-- 'chartularylaw03.FieldBack': WHATEVER THE INPUT: true; the input reads as it did. -/
def fieldBackSpec : ChangeSpec := { name := "fieldBack", fn := fun _ => fun
  | [d1, d2] => { results := [.lit (.bool true)], args := [d1, d2] }
  | _ => none }
def fieldBackRow : OpenClaim := { program := "yteknibmnaclhmaa", sum := "ea2e6fe719ef3ac3d6d87616561e517769fa4aaa9e16631a6947f3906769b249", func := "chartulary/chartularylaw03.FieldBack", spec := "fieldBack", inPlace := ["internal/bytealg.IndexByteString"], apart := false }
def FieldBackSaid : Prop := fieldBackRow.holds Try.pinned (OpenSpec.ofChange fieldBackSpec)

/-- ITS FALSE NEIGHBOUR: 'it returns false'. Refute it at one input. -/
def fieldBackWrong : ChangeSpec := { name := "fieldBack", fn := fun _ => fun
  | [d1, d2] => { results := [.lit (.bool false)], args := [d1, d2] }
  | _ => none }
def FieldBackWrongFalsely : Prop := fieldBackRow.holds Try.pinned (OpenSpec.ofChange fieldBackWrong)

/-- 'chartularylaw03.FieldAgain': WHATEVER THE INPUT: true; the input reads as it did. -/
def fieldAgainSpec : ChangeSpec := { name := "fieldAgain", fn := fun _ => fun
  | [d1, d2, d3] => { results := [.lit (.bool true)], args := [d1, d2, d3] }
  | _ => none }
def fieldAgainRow : OpenClaim := { program := "yteknibmnaclhmaa", sum := "ea2e6fe719ef3ac3d6d87616561e517769fa4aaa9e16631a6947f3906769b249", func := "chartulary/chartularylaw03.FieldAgain", spec := "fieldAgain", inPlace := ["internal/bytealg.IndexByteString"], apart := false }
def FieldAgainSaid : Prop := fieldAgainRow.holds Try.pinned (OpenSpec.ofChange fieldAgainSpec)

/-- ITS FALSE NEIGHBOUR: 'it returns false'. Refute it at one input. -/
def fieldAgainWrong : ChangeSpec := { name := "fieldAgain", fn := fun _ => fun
  | [d1, d2, d3] => { results := [.lit (.bool false)], args := [d1, d2, d3] }
  | _ => none }
def FieldAgainWrongFalsely : Prop := fieldAgainRow.holds Try.pinned (OpenSpec.ofChange fieldAgainWrong)

/-- 'chartularylaw03.FieldApart': WHATEVER THE INPUT: true; the input reads as it did. -/
def fieldApartSpec : ChangeSpec := { name := "fieldApart", fn := fun _ => fun
  | [d1, d2, d3] => { results := [.lit (.bool true)], args := [d1, d2, d3] }
  | _ => none }
def fieldApartRow : OpenClaim := { program := "yteknibmnaclhmaa", sum := "ea2e6fe719ef3ac3d6d87616561e517769fa4aaa9e16631a6947f3906769b249", func := "chartulary/chartularylaw03.FieldApart", spec := "fieldApart", inPlace := ["internal/bytealg.IndexByteString"], apart := false }
def FieldApartSaid : Prop := fieldApartRow.holds Try.pinned (OpenSpec.ofChange fieldApartSpec)

/-- ITS FALSE NEIGHBOUR: 'it returns false'. Refute it at one input. -/
def fieldApartWrong : ChangeSpec := { name := "fieldApart", fn := fun _ => fun
  | [d1, d2, d3] => { results := [.lit (.bool false)], args := [d1, d2, d3] }
  | _ => none }
def FieldApartWrongFalsely : Prop := fieldApartRow.holds Try.pinned (OpenSpec.ofChange fieldApartWrong)

/- THE SECOND FORM. 'bulk': how many values and letters a reading holds, each counted each time it is reached (what is shared counts as often as it is met; a slice's spare places count too). A statement '..UptoSaid' is the law's where the arguments, and the package variables that the reading takes, are together of bulk at most 1048576: NARROWER than '..Said'. Prove '..Said' where nothing that the law and all that it calls make is longer than what came in: it says more and counts as full. Else prove '..UptoSaid'. A law counts once. -/
mutual
def uptoBulk {H : Type} : DataW H → Nat
  | .lit (.string bytes) => bytes.length + 1
  | .lit _ => 1
  | .nil => 1
  | .ptr d => uptoBulk d + 1
  | .slice elems spare => uptoBulkAll elems + uptoBulkAll spare + 1
  | .agg parts => uptoBulkAll parts + 1
  | .iface _ d => uptoBulk d + 1
  | .map entries => uptoBulkEntries entries + 1
  | .held _ => 1
def uptoBulkAll {H : Type} : List (DataW H) → Nat
  | [] => 0
  | d :: r => uptoBulk d + uptoBulkAll r
def uptoBulkEntries {H : Type} : List (Lit × DataW H) → Nat
  | [] => 0
  | x :: r => uptoBulkEntry x + uptoBulkEntries r
def uptoBulkEntry {H : Type} : Lit × DataW H → Nat
  | (.string bytes, d) => bytes.length + uptoBulk d + 1
  | (_, d) => uptoBulk d + 1
 end
def uptoSmall : (H : Type) → List (DataW H) → Bool := fun _ ds => decide (uptoBulkAll ds ≤ 1048576)
def OpenSpec.upto (s : _root_.Go.ChangeSpec) : _root_.Go.OpenSpec := { _root_.Go.OpenSpec.ofChange s with cond := some uptoSmall }

/-- 'chartularylaw03.FieldPuts', WHERE WHAT IT READS IS OF BULK AT MOST 1048576: true; the input reads as it did. -/
def fieldPutsUptoRow : OpenClaim := { program := "yteknibmnaclhmaa", sum := "ea2e6fe719ef3ac3d6d87616561e517769fa4aaa9e16631a6947f3906769b249", func := "chartulary/chartularylaw03.FieldPuts", spec := "fieldPuts", inPlace := ["internal/bytealg.IndexByteString"], apart := false, narrowed := true }
def FieldPutsUptoSaid : Prop := fieldPutsUptoRow.holds Try.pinned (OpenSpec.upto fieldPutsSpec)

/-- 'chartularylaw03.FieldKnown', WHERE WHAT IT READS IS OF BULK AT MOST 1048576: true; the input reads as it did. -/
def fieldKnownUptoRow : OpenClaim := { program := "yteknibmnaclhmaa", sum := "ea2e6fe719ef3ac3d6d87616561e517769fa4aaa9e16631a6947f3906769b249", func := "chartulary/chartularylaw03.FieldKnown", spec := "fieldKnown", inPlace := ["internal/bytealg.IndexByteString"], apart := false, narrowed := true }
def FieldKnownUptoSaid : Prop := fieldKnownUptoRow.holds Try.pinned (OpenSpec.upto fieldKnownSpec)

/-- 'chartularylaw03.FieldBack', WHERE WHAT IT READS IS OF BULK AT MOST 1048576: true; the input reads as it did. -/
def fieldBackUptoRow : OpenClaim := { program := "yteknibmnaclhmaa", sum := "ea2e6fe719ef3ac3d6d87616561e517769fa4aaa9e16631a6947f3906769b249", func := "chartulary/chartularylaw03.FieldBack", spec := "fieldBack", inPlace := ["internal/bytealg.IndexByteString"], apart := false, narrowed := true }
def FieldBackUptoSaid : Prop := fieldBackUptoRow.holds Try.pinned (OpenSpec.upto fieldBackSpec)

/-- 'chartularylaw03.FieldAgain', WHERE WHAT IT READS IS OF BULK AT MOST 1048576: true; the input reads as it did. -/
def fieldAgainUptoRow : OpenClaim := { program := "yteknibmnaclhmaa", sum := "ea2e6fe719ef3ac3d6d87616561e517769fa4aaa9e16631a6947f3906769b249", func := "chartulary/chartularylaw03.FieldAgain", spec := "fieldAgain", inPlace := ["internal/bytealg.IndexByteString"], apart := false, narrowed := true }
def FieldAgainUptoSaid : Prop := fieldAgainUptoRow.holds Try.pinned (OpenSpec.upto fieldAgainSpec)

/-- 'chartularylaw03.FieldApart', WHERE WHAT IT READS IS OF BULK AT MOST 1048576: true; the input reads as it did. -/
def fieldApartUptoRow : OpenClaim := { program := "yteknibmnaclhmaa", sum := "ea2e6fe719ef3ac3d6d87616561e517769fa4aaa9e16631a6947f3906769b249", func := "chartulary/chartularylaw03.FieldApart", spec := "fieldApart", inPlace := ["internal/bytealg.IndexByteString"], apart := false, narrowed := true }
def FieldApartUptoSaid : Prop := fieldApartUptoRow.holds Try.pinned (OpenSpec.upto fieldApartSpec)

end Rows
end Go.Proofs.Yteknibmnaclhmaa
