/-
  No cell of these rows narrows 'for every input' (looked for: loops, veiled, ifaces, maps, wideKeys, modest, calm, conditions, laid).
  DERIVED. THE GIVEN ROWS OF THIS SEAT. 4 by the template 'for every input the law returns true; each argument reads behind the call as it read before'; 0 by the template 'total and deterministic' (their statements: YtipahnpijmplhaaTotals.lean).
  GIVEN WITH THE SEED: the statements are not yours to turn. If you find one false, say at which input.
  Laid BY PROGRAM, IN A SANDBOX (cutbox-rows.mjs): the forced cells as the released guide's own fill.sh prints them over the translation 3182e77f9a08b872… (all of the seat's roots in one cut). By AI agents, Wed Nov 11 2026. No macro, syntax, notation, axiom, sorry.
-/
import Derived.Test.YtipahnpijmplhaaChecked
import GoSem.Claim
import GoSem.ClaimJoined
import GoSem.ClaimMapViews
import Derived.JoinedTies
import Derived.KernelRfl
namespace Go.Proofs.Ytipahnpijmplhaa
/- THE CELL 'sum', in the pinned program and in every row, IS THE sha256 OF THE DUMP (.gsa) THAT YtipahnpijmplhaaProg.lean LOADS. Nothing in Lean hashes anything: it is a label: what it is worth is what the hold of that sum in a sandbox is worth. -/
noncomputable def Try.pinned : Pinned := { name := "ytipahnpijmplhaa", sum := "3182e77f9a08b8722195698688c28b9e0e86ca87411a03b8876184a6103ac0a4", checked := Try.checked }
namespace Rows
def none {H : Type} : Left H := { results := [], args := [] }

/-- 'chartularylaw27.ManifestPuts': WHATEVER THE INPUT: true; the input reads as it did. -/
def manifestPutsSpec : ChangeSpec := { name := "manifestPuts", fn := fun _ => fun
  | [d] => { results := [.lit (.bool true)], args := [d] }
  | _ => none }
def manifestPutsRow : OpenClaim := { program := "ytipahnpijmplhaa", sum := "3182e77f9a08b8722195698688c28b9e0e86ca87411a03b8876184a6103ac0a4", func := "chartulary/chartularylaw27.ManifestPuts", spec := "manifestPuts", inPlace := ["internal/bytealg.IndexByteString"], unfollowed := true, recurses := true, apart := false }
def ManifestPutsSaid : Prop := manifestPutsRow.holds Try.pinned (OpenSpec.ofChange manifestPutsSpec)

/-- ITS FALSE NEIGHBOUR: 'it returns false'. Refute it at one input. -/
def manifestPutsWrong : ChangeSpec := { name := "manifestPuts", fn := fun _ => fun
  | [d] => { results := [.lit (.bool false)], args := [d] }
  | _ => none }
def ManifestPutsWrongFalsely : Prop := manifestPutsRow.holds Try.pinned (OpenSpec.ofChange manifestPutsWrong)

/-- 'chartularylaw27.ManifestMakes': WHATEVER THE INPUT: true; the input reads as it did. -/
def manifestMakesSpec : ChangeSpec := { name := "manifestMakes", fn := fun _ => fun
  | [d1, d2, d3, d4] => { results := [.lit (.bool true)], args := [d1, d2, d3, d4] }
  | _ => none }
def manifestMakesRow : OpenClaim := { program := "ytipahnpijmplhaa", sum := "3182e77f9a08b8722195698688c28b9e0e86ca87411a03b8876184a6103ac0a4", func := "chartulary/chartularylaw27.ManifestMakes", spec := "manifestMakes", inPlace := ["internal/bytealg.IndexByteString"], unfollowed := true, recurses := true, apart := false }
def ManifestMakesSaid : Prop := manifestMakesRow.holds Try.pinned (OpenSpec.ofChange manifestMakesSpec)

/-- ITS FALSE NEIGHBOUR: 'it returns false'. Refute it at one input. -/
def manifestMakesWrong : ChangeSpec := { name := "manifestMakes", fn := fun _ => fun
  | [d1, d2, d3, d4] => { results := [.lit (.bool false)], args := [d1, d2, d3, d4] }
  | _ => none }
def ManifestMakesWrongFalsely : Prop := manifestMakesRow.holds Try.pinned (OpenSpec.ofChange manifestMakesWrong)

/-- 'chartularylaw27.ManifestKnown': WHATEVER THE INPUT: true; the input reads as it did. -/
def manifestKnownSpec : ChangeSpec := { name := "manifestKnown", fn := fun _ => fun
  | [] => { results := [.lit (.bool true)], args := [] }
  | _ => none }
def manifestKnownRow : OpenClaim := { program := "ytipahnpijmplhaa", sum := "3182e77f9a08b8722195698688c28b9e0e86ca87411a03b8876184a6103ac0a4", func := "chartulary/chartularylaw27.ManifestKnown", spec := "manifestKnown", inPlace := ["internal/bytealg.IndexByteString"], unfollowed := true, recurses := true, apart := false }
def ManifestKnownSaid : Prop := manifestKnownRow.holds Try.pinned (OpenSpec.ofChange manifestKnownSpec)

/-- ITS FALSE NEIGHBOUR: 'it returns false'. Refute it at one input. -/
def manifestKnownWrong : ChangeSpec := { name := "manifestKnown", fn := fun _ => fun
  | [] => { results := [.lit (.bool false)], args := [] }
  | _ => none }
def ManifestKnownWrongFalsely : Prop := manifestKnownRow.holds Try.pinned (OpenSpec.ofChange manifestKnownWrong)

/-- 'chartularylaw27.ManifestBack': WHATEVER THE INPUT: true; the input reads as it did. -/
def manifestBackSpec : ChangeSpec := { name := "manifestBack", fn := fun _ => fun
  | [d1, d2] => { results := [.lit (.bool true)], args := [d1, d2] }
  | _ => none }
def manifestBackRow : OpenClaim := { program := "ytipahnpijmplhaa", sum := "3182e77f9a08b8722195698688c28b9e0e86ca87411a03b8876184a6103ac0a4", func := "chartulary/chartularylaw27.ManifestBack", spec := "manifestBack", inPlace := ["internal/bytealg.IndexByteString"], unfollowed := true, recurses := true, apart := false }
def ManifestBackSaid : Prop := manifestBackRow.holds Try.pinned (OpenSpec.ofChange manifestBackSpec)

/-- ITS FALSE NEIGHBOUR: 'it returns false'. Refute it at one input. -/
def manifestBackWrong : ChangeSpec := { name := "manifestBack", fn := fun _ => fun
  | [d1, d2] => { results := [.lit (.bool false)], args := [d1, d2] }
  | _ => none }
def ManifestBackWrongFalsely : Prop := manifestBackRow.holds Try.pinned (OpenSpec.ofChange manifestBackWrong)

/- THE SECOND FORM. 'bulk': how many values and letters a reading holds, each counted each time it is reached (what is shared counts as often as it is met; a slice's spare places count too). A statement '..UptoSaid' is the law's where the arguments, and the package variables that the reading takes, are together of bulk at most 1048576: NARROWER than '..Said'. Prove '..Said' where nothing that the law and all that it calls make is longer than what came in: it says more and counts as full. Else prove '..UptoSaid'. A law counts once. -/
mutual
def uptoBulk {H : Type} : DataW H → Nat
  | .lit (.string bytes) => bytes.length + 1
  | .lit _ => 1
  | .nil => 1
  | .ptr d => uptoBulk d + 1
  | .slice elems spare => uptoBulkAll elems + uptoBulkAll spare + 1
  | .agg parts => uptoBulkAll parts + 1
  | .iface _ d => uptoBulk d + 1
  | .map entries => uptoBulkEntries entries + 1
  | .held _ => 1
def uptoBulkAll {H : Type} : List (DataW H) → Nat
  | [] => 0
  | d :: r => uptoBulk d + uptoBulkAll r
def uptoBulkEntries {H : Type} : List (Lit × DataW H) → Nat
  | [] => 0
  | x :: r => uptoBulkEntry x + uptoBulkEntries r
def uptoBulkEntry {H : Type} : Lit × DataW H → Nat
  | (.string bytes, d) => bytes.length + uptoBulk d + 1
  | (_, d) => uptoBulk d + 1
 end
def uptoSmall : (H : Type) → List (DataW H) → Bool := fun _ ds => decide (uptoBulkAll ds ≤ 1048576)
def OpenSpec.upto (s : _root_.Go.ChangeSpec) : _root_.Go.OpenSpec := { _root_.Go.OpenSpec.ofChange s with cond := some uptoSmall }

/-- 'chartularylaw27.ManifestPuts', WHERE WHAT IT READS IS OF BULK AT MOST 1048576: true; the input reads as it did. -/
def manifestPutsUptoRow : OpenClaim := { program := "ytipahnpijmplhaa", sum := "3182e77f9a08b8722195698688c28b9e0e86ca87411a03b8876184a6103ac0a4", func := "chartulary/chartularylaw27.ManifestPuts", spec := "manifestPuts", inPlace := ["internal/bytealg.IndexByteString"], unfollowed := true, recurses := true, apart := false, narrowed := true }
def ManifestPutsUptoSaid : Prop := manifestPutsUptoRow.holds Try.pinned (OpenSpec.upto manifestPutsSpec)

/-- 'chartularylaw27.ManifestMakes', WHERE WHAT IT READS IS OF BULK AT MOST 1048576: true; the input reads as it did. -/
def manifestMakesUptoRow : OpenClaim := { program := "ytipahnpijmplhaa", sum := "3182e77f9a08b8722195698688c28b9e0e86ca87411a03b8876184a6103ac0a4", func := "chartulary/chartularylaw27.ManifestMakes", spec := "manifestMakes", inPlace := ["internal/bytealg.IndexByteString"], unfollowed := true, recurses := true, apart := false, narrowed := true }
def ManifestMakesUptoSaid : Prop := manifestMakesUptoRow.holds Try.pinned (OpenSpec.upto manifestMakesSpec)

/-- 'chartularylaw27.ManifestKnown', WHERE WHAT IT READS IS OF BULK AT MOST 1048576: true; the input reads as it did. -/
def manifestKnownUptoRow : OpenClaim := { program := "ytipahnpijmplhaa", sum := "3182e77f9a08b8722195698688c28b9e0e86ca87411a03b8876184a6103ac0a4", func := "chartulary/chartularylaw27.ManifestKnown", spec := "manifestKnown", inPlace := ["internal/bytealg.IndexByteString"], unfollowed := true, recurses := true, apart := false, narrowed := true }
def ManifestKnownUptoSaid : Prop := manifestKnownUptoRow.holds Try.pinned (OpenSpec.upto manifestKnownSpec)

/-- 'chartularylaw27.ManifestBack', WHERE WHAT IT READS IS OF BULK AT MOST 1048576: true; the input reads as it did. -/
def manifestBackUptoRow : OpenClaim := { program := "ytipahnpijmplhaa", sum := "3182e77f9a08b8722195698688c28b9e0e86ca87411a03b8876184a6103ac0a4", func := "chartulary/chartularylaw27.ManifestBack", spec := "manifestBack", inPlace := ["internal/bytealg.IndexByteString"], unfollowed := true, recurses := true, apart := false, narrowed := true }
def ManifestBackUptoSaid : Prop := manifestBackUptoRow.holds Try.pinned (OpenSpec.upto manifestBackSpec)

end Rows
end Go.Proofs.Ytipahnpijmplhaa
