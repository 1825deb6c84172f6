/-
  No cell of these rows narrows 'for every input' (looked for: loops, veiled, ifaces, maps, wideKeys, modest, calm, conditions, laid).
  DERIVED. THE GIVEN ROWS OF THIS SEAT. 5 by the template 'for every input the law returns true; each argument reads behind the call as it read before'; 0 by the template 'total and deterministic' (their statements: YtfnnmkjlokjkhaaTotals.lean).
  GIVEN WITH THE SEED: the statements are not yours to turn. If you find one false, say at which input.
  Laid BY PROGRAM, IN A SANDBOX (cutbox-rows.mjs): the forced cells as the released guide's own fill.sh prints them over the translation f698809dec5d3d19… (all of the seat's roots in one cut). By AI agents, Wed Nov 11 2026. No macro, syntax, notation, axiom, sorry.
-/
import Derived.Test.YtfnnmkjlokjkhaaChecked
import GoSem.Claim
import GoSem.ClaimJoined
import GoSem.ClaimMapViews
import Derived.JoinedTies
import Derived.KernelRfl
namespace Go.Proofs.Ytfnnmkjlokjkhaa
/- THE CELL 'sum', in the pinned program and in every row, IS THE sha256 OF THE DUMP (.gsa) THAT YtfnnmkjlokjkhaaProg.lean LOADS. Nothing in Lean hashes anything: it is a label: what it is worth is what the hold of that sum in a sandbox is worth. -/
noncomputable def Try.pinned : Pinned := { name := "ytfnnmkjlokjkhaa", sum := "f698809dec5d3d19fd144991a244a85b3bda6251b678f974a16cc77a0913ef83", checked := Try.checked }
namespace Rows
def none {H : Type} : Left H := { results := [], args := [] }

/-- 'chartularylaw13.GossipScript': WHATEVER THE INPUT: true; the input reads as it did. -/
def gossipScriptSpec : ChangeSpec := { name := "gossipScript", fn := fun _ => fun
  | [d1, d2] => { results := [.lit (.bool true)], args := [d1, d2] }
  | _ => none }
def gossipScriptRow : OpenClaim := { program := "ytfnnmkjlokjkhaa", sum := "f698809dec5d3d19fd144991a244a85b3bda6251b678f974a16cc77a0913ef83", func := "chartulary/chartularylaw13.GossipScript", spec := "gossipScript", inPlace := ["slices.overlaps[chartulary/gossip.telling]"], unfollowed := true, recurses := true, apart := false }
def GossipScriptSaid : Prop := gossipScriptRow.holds Try.pinned (OpenSpec.ofChange gossipScriptSpec)

/-- ITS FALSE NEIGHBOUR: 'it returns false'. Refute it at one input. -/
def gossipScriptWrong : ChangeSpec := { name := "gossipScript", fn := fun _ => fun
  | [d1, d2] => { results := [.lit (.bool false)], args := [d1, d2] }
  | _ => none }
def GossipScriptWrongFalsely : Prop := gossipScriptRow.holds Try.pinned (OpenSpec.ofChange gossipScriptWrong)

/-- 'chartularylaw13.GossipNone': WHATEVER THE INPUT: true; the input reads as it did. -/
def gossipNoneSpec : ChangeSpec := { name := "gossipNone", fn := fun _ => fun
  | [d1, d2] => { results := [.lit (.bool true)], args := [d1, d2] }
  | _ => none }
def gossipNoneRow : OpenClaim := { program := "ytfnnmkjlokjkhaa", sum := "f698809dec5d3d19fd144991a244a85b3bda6251b678f974a16cc77a0913ef83", func := "chartulary/chartularylaw13.GossipNone", spec := "gossipNone", inPlace := ["slices.overlaps[chartulary/gossip.telling]"], unfollowed := true, recurses := true, apart := false }
def GossipNoneSaid : Prop := gossipNoneRow.holds Try.pinned (OpenSpec.ofChange gossipNoneSpec)

/-- ITS FALSE NEIGHBOUR: 'it returns false'. Refute it at one input. -/
def gossipNoneWrong : ChangeSpec := { name := "gossipNone", fn := fun _ => fun
  | [d1, d2] => { results := [.lit (.bool false)], args := [d1, d2] }
  | _ => none }
def GossipNoneWrongFalsely : Prop := gossipNoneRow.holds Try.pinned (OpenSpec.ofChange gossipNoneWrong)

/-- 'chartularylaw13.GossipKnown': WHATEVER THE INPUT: true; the input reads as it did. -/
def gossipKnownSpec : ChangeSpec := { name := "gossipKnown", fn := fun _ => fun
  | [] => { results := [.lit (.bool true)], args := [] }
  | _ => none }
def gossipKnownRow : OpenClaim := { program := "ytfnnmkjlokjkhaa", sum := "f698809dec5d3d19fd144991a244a85b3bda6251b678f974a16cc77a0913ef83", func := "chartulary/chartularylaw13.GossipKnown", spec := "gossipKnown", inPlace := ["slices.overlaps[chartulary/gossip.telling]"], unfollowed := true, recurses := true, apart := false }
def GossipKnownSaid : Prop := gossipKnownRow.holds Try.pinned (OpenSpec.ofChange gossipKnownSpec)

/-- ITS FALSE NEIGHBOUR: 'it returns false'. Refute it at one input. -/
def gossipKnownWrong : ChangeSpec := { name := "gossipKnown", fn := fun _ => fun
  | [] => { results := [.lit (.bool false)], args := [] }
  | _ => none }
def GossipKnownWrongFalsely : Prop := gossipKnownRow.holds Try.pinned (OpenSpec.ofChange gossipKnownWrong)

/-- 'chartularylaw13.GossipOften': WHATEVER THE INPUT: true; the input reads as it did. -/
def gossipOftenSpec : ChangeSpec := { name := "gossipOften", fn := fun _ => fun
  | [d1, d2, d3] => { results := [.lit (.bool true)], args := [d1, d2, d3] }
  | _ => none }
def gossipOftenRow : OpenClaim := { program := "ytfnnmkjlokjkhaa", sum := "f698809dec5d3d19fd144991a244a85b3bda6251b678f974a16cc77a0913ef83", func := "chartulary/chartularylaw13.GossipOften", spec := "gossipOften", inPlace := ["slices.overlaps[chartulary/gossip.telling]"], unfollowed := true, recurses := true, apart := false }
def GossipOftenSaid : Prop := gossipOftenRow.holds Try.pinned (OpenSpec.ofChange gossipOftenSpec)

/-- ITS FALSE NEIGHBOUR: 'it returns false'. Refute it at one input. -/
def gossipOftenWrong : ChangeSpec := { name := "gossipOften", fn := fun _ => fun
  | [d1, d2, d3] => { results := [.lit (.bool false)], args := [d1, d2, d3] }
  | _ => none }
def GossipOftenWrongFalsely : Prop := gossipOftenRow.holds Try.pinned (OpenSpec.ofChange gossipOftenWrong)

/-- 'chartularylaw13.GossipNewest': WHATEVER THE INPUT: true; the input reads as it did. -/
def gossipNewestSpec : ChangeSpec := { name := "gossipNewest", fn := fun _ => fun
  | [d] => { results := [.lit (.bool true)], args := [d] }
  | _ => none }
def gossipNewestRow : OpenClaim := { program := "ytfnnmkjlokjkhaa", sum := "f698809dec5d3d19fd144991a244a85b3bda6251b678f974a16cc77a0913ef83", func := "chartulary/chartularylaw13.GossipNewest", spec := "gossipNewest", inPlace := ["slices.overlaps[chartulary/gossip.telling]"], unfollowed := true, recurses := true, apart := false }
def GossipNewestSaid : Prop := gossipNewestRow.holds Try.pinned (OpenSpec.ofChange gossipNewestSpec)

/-- ITS FALSE NEIGHBOUR: 'it returns false'. Refute it at one input. -/
def gossipNewestWrong : ChangeSpec := { name := "gossipNewest", fn := fun _ => fun
  | [d] => { results := [.lit (.bool false)], args := [d] }
  | _ => none }
def GossipNewestWrongFalsely : Prop := gossipNewestRow.holds Try.pinned (OpenSpec.ofChange gossipNewestWrong)

/- THE SECOND FORM. 'bulk': how many values and letters a reading holds, each counted each time it is reached (what is shared counts as often as it is met; a slice's spare places count too). A statement '..UptoSaid' is the law's where the arguments, and the package variables that the reading takes, are together of bulk at most 1048576: NARROWER than '..Said'. Prove '..Said' where nothing that the law and all that it calls make is longer than what came in: it says more and counts as full. Else prove '..UptoSaid'. A law counts once. -/
mutual
def uptoBulk {H : Type} : DataW H → Nat
  | .lit (.string bytes) => bytes.length + 1
  | .lit _ => 1
  | .nil => 1
  | .ptr d => uptoBulk d + 1
  | .slice elems spare => uptoBulkAll elems + uptoBulkAll spare + 1
  | .agg parts => uptoBulkAll parts + 1
  | .iface _ d => uptoBulk d + 1
  | .map entries => uptoBulkEntries entries + 1
  | .held _ => 1
def uptoBulkAll {H : Type} : List (DataW H) → Nat
  | [] => 0
  | d :: r => uptoBulk d + uptoBulkAll r
def uptoBulkEntries {H : Type} : List (Lit × DataW H) → Nat
  | [] => 0
  | x :: r => uptoBulkEntry x + uptoBulkEntries r
def uptoBulkEntry {H : Type} : Lit × DataW H → Nat
  | (.string bytes, d) => bytes.length + uptoBulk d + 1
  | (_, d) => uptoBulk d + 1
 end
def uptoSmall : (H : Type) → List (DataW H) → Bool := fun _ ds => decide (uptoBulkAll ds ≤ 1048576)
def OpenSpec.upto (s : _root_.Go.ChangeSpec) : _root_.Go.OpenSpec := { _root_.Go.OpenSpec.ofChange s with cond := some uptoSmall }

/-- 'chartularylaw13.GossipScript', WHERE WHAT IT READS IS OF BULK AT MOST 1048576: true; the input reads as it did. -/
def gossipScriptUptoRow : OpenClaim := { program := "ytfnnmkjlokjkhaa", sum := "f698809dec5d3d19fd144991a244a85b3bda6251b678f974a16cc77a0913ef83", func := "chartulary/chartularylaw13.GossipScript", spec := "gossipScript", inPlace := ["slices.overlaps[chartulary/gossip.telling]"], unfollowed := true, recurses := true, apart := false, narrowed := true }
def GossipScriptUptoSaid : Prop := gossipScriptUptoRow.holds Try.pinned (OpenSpec.upto gossipScriptSpec)

/-- 'chartularylaw13.GossipNone', WHERE WHAT IT READS IS OF BULK AT MOST 1048576: true; the input reads as it did. -/
def gossipNoneUptoRow : OpenClaim := { program := "ytfnnmkjlokjkhaa", sum := "f698809dec5d3d19fd144991a244a85b3bda6251b678f974a16cc77a0913ef83", func := "chartulary/chartularylaw13.GossipNone", spec := "gossipNone", inPlace := ["slices.overlaps[chartulary/gossip.telling]"], unfollowed := true, recurses := true, apart := false, narrowed := true }
def GossipNoneUptoSaid : Prop := gossipNoneUptoRow.holds Try.pinned (OpenSpec.upto gossipNoneSpec)

/-- 'chartularylaw13.GossipKnown', WHERE WHAT IT READS IS OF BULK AT MOST 1048576: true; the input reads as it did. -/
def gossipKnownUptoRow : OpenClaim := { program := "ytfnnmkjlokjkhaa", sum := "f698809dec5d3d19fd144991a244a85b3bda6251b678f974a16cc77a0913ef83", func := "chartulary/chartularylaw13.GossipKnown", spec := "gossipKnown", inPlace := ["slices.overlaps[chartulary/gossip.telling]"], unfollowed := true, recurses := true, apart := false, narrowed := true }
def GossipKnownUptoSaid : Prop := gossipKnownUptoRow.holds Try.pinned (OpenSpec.upto gossipKnownSpec)

/-- 'chartularylaw13.GossipOften', WHERE WHAT IT READS IS OF BULK AT MOST 1048576: true; the input reads as it did. -/
def gossipOftenUptoRow : OpenClaim := { program := "ytfnnmkjlokjkhaa", sum := "f698809dec5d3d19fd144991a244a85b3bda6251b678f974a16cc77a0913ef83", func := "chartulary/chartularylaw13.GossipOften", spec := "gossipOften", inPlace := ["slices.overlaps[chartulary/gossip.telling]"], unfollowed := true, recurses := true, apart := false, narrowed := true }
def GossipOftenUptoSaid : Prop := gossipOftenUptoRow.holds Try.pinned (OpenSpec.upto gossipOftenSpec)

/-- 'chartularylaw13.GossipNewest', WHERE WHAT IT READS IS OF BULK AT MOST 1048576: true; the input reads as it did. -/
def gossipNewestUptoRow : OpenClaim := { program := "ytfnnmkjlokjkhaa", sum := "f698809dec5d3d19fd144991a244a85b3bda6251b678f974a16cc77a0913ef83", func := "chartulary/chartularylaw13.GossipNewest", spec := "gossipNewest", inPlace := ["slices.overlaps[chartulary/gossip.telling]"], unfollowed := true, recurses := true, apart := false, narrowed := true }
def GossipNewestUptoSaid : Prop := gossipNewestUptoRow.holds Try.pinned (OpenSpec.upto gossipNewestSpec)

end Rows
end Go.Proofs.Ytfnnmkjlokjkhaa
