/-
  No cell of these rows narrows 'for every input' (looked for: loops, veiled, ifaces, maps, wideKeys, modest, calm, conditions, laid).
  DERIVED. THE GIVEN ROWS OF THIS SEAT. 5 by the template 'for every input the law returns true; each argument reads behind the call as it read before'; 0 by the template 'total and deterministic' (their statements: YtbdphljmfoofoaaTotals.lean).
  GIVEN WITH THE SEED: the statements are not yours to turn. If you find one false, say at which input.
  Laid BY PROGRAM, IN A SANDBOX (cutbox-rows.mjs): the forced cells as the released guide's own fill.sh prints them over the translation 3f86b05ae58229ed… (all of the seat's roots in one cut). By AI agents, Wed Nov 11 2026. No macro, syntax, notation, axiom, sorry.
-/
import Derived.Test.YtbdphljmfoofoaaChecked
import GoSem.Claim
import GoSem.ClaimJoined
import GoSem.ClaimMapViews
import Derived.JoinedTies
import Derived.KernelRfl
namespace Go.Proofs.Ytbdphljmfoofoaa
/- THE CELL 'sum', in the pinned program and in every row, IS THE sha256 OF THE DUMP (.gsa) THAT YtbdphljmfoofoaaProg.lean LOADS. Nothing in Lean hashes anything: it is a label: what it is worth is what the hold of that sum in a sandbox is worth. -/
noncomputable def Try.pinned : Pinned := { name := "ytbdphljmfoofoaa", sum := "3f86b05ae58229ed2df97331ff59d0fe218b21860652e2af31fdee8b23b72561", checked := Try.checked }
namespace Rows
def none {H : Type} : Left H := { results := [], args := [] }

/-- 'chartularylaw14.ProbeNone': WHATEVER THE INPUT: true; the input reads as it did. -/
def probeNoneSpec : ChangeSpec := { name := "probeNone", fn := fun _ => fun
  | [d1, d2] => { results := [.lit (.bool true)], args := [d1, d2] }
  | _ => none }
def probeNoneRow : OpenClaim := { program := "ytbdphljmfoofoaa", sum := "3f86b05ae58229ed2df97331ff59d0fe218b21860652e2af31fdee8b23b72561", func := "chartulary/chartularylaw14.ProbeNone", spec := "probeNone", inPlace := ["slices.overlaps[int]"], unfollowed := true, recurses := true, apart := false }
def ProbeNoneSaid : Prop := probeNoneRow.holds Try.pinned (OpenSpec.ofChange probeNoneSpec)

/-- ITS FALSE NEIGHBOUR: 'it returns false'. Refute it at one input. -/
def probeNoneWrong : ChangeSpec := { name := "probeNone", fn := fun _ => fun
  | [d1, d2] => { results := [.lit (.bool false)], args := [d1, d2] }
  | _ => none }
def ProbeNoneWrongFalsely : Prop := probeNoneRow.holds Try.pinned (OpenSpec.ofChange probeNoneWrong)

/-- 'chartularylaw14.ProbeKnown': WHATEVER THE INPUT: true; the input reads as it did. -/
def probeKnownSpec : ChangeSpec := { name := "probeKnown", fn := fun _ => fun
  | [] => { results := [.lit (.bool true)], args := [] }
  | _ => none }
def probeKnownRow : OpenClaim := { program := "ytbdphljmfoofoaa", sum := "3f86b05ae58229ed2df97331ff59d0fe218b21860652e2af31fdee8b23b72561", func := "chartulary/chartularylaw14.ProbeKnown", spec := "probeKnown", inPlace := ["slices.overlaps[int]"], unfollowed := true, recurses := true, apart := false }
def ProbeKnownSaid : Prop := probeKnownRow.holds Try.pinned (OpenSpec.ofChange probeKnownSpec)

/-- ITS FALSE NEIGHBOUR: 'it returns false'. Refute it at one input. -/
def probeKnownWrong : ChangeSpec := { name := "probeKnown", fn := fun _ => fun
  | [] => { results := [.lit (.bool false)], args := [] }
  | _ => none }
def ProbeKnownWrongFalsely : Prop := probeKnownRow.holds Try.pinned (OpenSpec.ofChange probeKnownWrong)

/-- 'chartularylaw14.ProbeTurns': WHATEVER THE INPUT: true; the input reads as it did. -/
def probeTurnsSpec : ChangeSpec := { name := "probeTurns", fn := fun _ => fun
  | [d1, d2, d3] => { results := [.lit (.bool true)], args := [d1, d2, d3] }
  | _ => none }
def probeTurnsRow : OpenClaim := { program := "ytbdphljmfoofoaa", sum := "3f86b05ae58229ed2df97331ff59d0fe218b21860652e2af31fdee8b23b72561", func := "chartulary/chartularylaw14.ProbeTurns", spec := "probeTurns", inPlace := ["slices.overlaps[int]"], unfollowed := true, recurses := true, apart := false }
def ProbeTurnsSaid : Prop := probeTurnsRow.holds Try.pinned (OpenSpec.ofChange probeTurnsSpec)

/-- ITS FALSE NEIGHBOUR: 'it returns false'. Refute it at one input. -/
def probeTurnsWrong : ChangeSpec := { name := "probeTurns", fn := fun _ => fun
  | [d1, d2, d3] => { results := [.lit (.bool false)], args := [d1, d2, d3] }
  | _ => none }
def ProbeTurnsWrongFalsely : Prop := probeTurnsRow.holds Try.pinned (OpenSpec.ofChange probeTurnsWrong)

/-- 'chartularylaw14.ProbeComes': WHATEVER THE INPUT: true; the input reads as it did. -/
def probeComesSpec : ChangeSpec := { name := "probeComes", fn := fun _ => fun
  | [d1, d2, d3, d4] => { results := [.lit (.bool true)], args := [d1, d2, d3, d4] }
  | _ => none }
def probeComesRow : OpenClaim := { program := "ytbdphljmfoofoaa", sum := "3f86b05ae58229ed2df97331ff59d0fe218b21860652e2af31fdee8b23b72561", func := "chartulary/chartularylaw14.ProbeComes", spec := "probeComes", inPlace := ["slices.overlaps[int]"], unfollowed := true, recurses := true, apart := false }
def ProbeComesSaid : Prop := probeComesRow.holds Try.pinned (OpenSpec.ofChange probeComesSpec)

/-- ITS FALSE NEIGHBOUR: 'it returns false'. Refute it at one input. -/
def probeComesWrong : ChangeSpec := { name := "probeComes", fn := fun _ => fun
  | [d1, d2, d3, d4] => { results := [.lit (.bool false)], args := [d1, d2, d3, d4] }
  | _ => none }
def ProbeComesWrongFalsely : Prop := probeComesRow.holds Try.pinned (OpenSpec.ofChange probeComesWrong)

/-- 'chartularylaw14.ProbeScript': WHATEVER THE INPUT: true; the input reads as it did. -/
def probeScriptSpec : ChangeSpec := { name := "probeScript", fn := fun _ => fun
  | [d1, d2, d3] => { results := [.lit (.bool true)], args := [d1, d2, d3] }
  | _ => none }
def probeScriptRow : OpenClaim := { program := "ytbdphljmfoofoaa", sum := "3f86b05ae58229ed2df97331ff59d0fe218b21860652e2af31fdee8b23b72561", func := "chartulary/chartularylaw14.ProbeScript", spec := "probeScript", inPlace := ["slices.overlaps[int]"], unfollowed := true, recurses := true, apart := false }
def ProbeScriptSaid : Prop := probeScriptRow.holds Try.pinned (OpenSpec.ofChange probeScriptSpec)

/-- ITS FALSE NEIGHBOUR: 'it returns false'. Refute it at one input. -/
def probeScriptWrong : ChangeSpec := { name := "probeScript", fn := fun _ => fun
  | [d1, d2, d3] => { results := [.lit (.bool false)], args := [d1, d2, d3] }
  | _ => none }
def ProbeScriptWrongFalsely : Prop := probeScriptRow.holds Try.pinned (OpenSpec.ofChange probeScriptWrong)

/- THE SECOND FORM. 'bulk': how many values and letters a reading holds, each counted each time it is reached (what is shared counts as often as it is met; a slice's spare places count too). A statement '..UptoSaid' is the law's where the arguments, and the package variables that the reading takes, are together of bulk at most 1048576: NARROWER than '..Said'. Prove '..Said' where nothing that the law and all that it calls make is longer than what came in: it says more and counts as full. Else prove '..UptoSaid'. A law counts once. -/
mutual
def uptoBulk {H : Type} : DataW H → Nat
  | .lit (.string bytes) => bytes.length + 1
  | .lit _ => 1
  | .nil => 1
  | .ptr d => uptoBulk d + 1
  | .slice elems spare => uptoBulkAll elems + uptoBulkAll spare + 1
  | .agg parts => uptoBulkAll parts + 1
  | .iface _ d => uptoBulk d + 1
  | .map entries => uptoBulkEntries entries + 1
  | .held _ => 1
def uptoBulkAll {H : Type} : List (DataW H) → Nat
  | [] => 0
  | d :: r => uptoBulk d + uptoBulkAll r
def uptoBulkEntries {H : Type} : List (Lit × DataW H) → Nat
  | [] => 0
  | x :: r => uptoBulkEntry x + uptoBulkEntries r
def uptoBulkEntry {H : Type} : Lit × DataW H → Nat
  | (.string bytes, d) => bytes.length + uptoBulk d + 1
  | (_, d) => uptoBulk d + 1
 end
def uptoSmall : (H : Type) → List (DataW H) → Bool := fun _ ds => decide (uptoBulkAll ds ≤ 1048576)
def OpenSpec.upto (s : _root_.Go.ChangeSpec) : _root_.Go.OpenSpec := { _root_.Go.OpenSpec.ofChange s with cond := some uptoSmall }

/-- 'chartularylaw14.ProbeNone', WHERE WHAT IT READS IS OF BULK AT MOST 1048576: true; the input reads as it did. -/
def probeNoneUptoRow : OpenClaim := { program := "ytbdphljmfoofoaa", sum := "3f86b05ae58229ed2df97331ff59d0fe218b21860652e2af31fdee8b23b72561", func := "chartulary/chartularylaw14.ProbeNone", spec := "probeNone", inPlace := ["slices.overlaps[int]"], unfollowed := true, recurses := true, apart := false, narrowed := true }
def ProbeNoneUptoSaid : Prop := probeNoneUptoRow.holds Try.pinned (OpenSpec.upto probeNoneSpec)

/-- 'chartularylaw14.ProbeKnown', WHERE WHAT IT READS IS OF BULK AT MOST 1048576: true; the input reads as it did. -/
def probeKnownUptoRow : OpenClaim := { program := "ytbdphljmfoofoaa", sum := "3f86b05ae58229ed2df97331ff59d0fe218b21860652e2af31fdee8b23b72561", func := "chartulary/chartularylaw14.ProbeKnown", spec := "probeKnown", inPlace := ["slices.overlaps[int]"], unfollowed := true, recurses := true, apart := false, narrowed := true }
def ProbeKnownUptoSaid : Prop := probeKnownUptoRow.holds Try.pinned (OpenSpec.upto probeKnownSpec)

/-- 'chartularylaw14.ProbeTurns', WHERE WHAT IT READS IS OF BULK AT MOST 1048576: true; the input reads as it did. -/
def probeTurnsUptoRow : OpenClaim := { program := "ytbdphljmfoofoaa", sum := "3f86b05ae58229ed2df97331ff59d0fe218b21860652e2af31fdee8b23b72561", func := "chartulary/chartularylaw14.ProbeTurns", spec := "probeTurns", inPlace := ["slices.overlaps[int]"], unfollowed := true, recurses := true, apart := false, narrowed := true }
def ProbeTurnsUptoSaid : Prop := probeTurnsUptoRow.holds Try.pinned (OpenSpec.upto probeTurnsSpec)

/-- 'chartularylaw14.ProbeComes', WHERE WHAT IT READS IS OF BULK AT MOST 1048576: true; the input reads as it did. -/
def probeComesUptoRow : OpenClaim := { program := "ytbdphljmfoofoaa", sum := "3f86b05ae58229ed2df97331ff59d0fe218b21860652e2af31fdee8b23b72561", func := "chartulary/chartularylaw14.ProbeComes", spec := "probeComes", inPlace := ["slices.overlaps[int]"], unfollowed := true, recurses := true, apart := false, narrowed := true }
def ProbeComesUptoSaid : Prop := probeComesUptoRow.holds Try.pinned (OpenSpec.upto probeComesSpec)

/-- 'chartularylaw14.ProbeScript', WHERE WHAT IT READS IS OF BULK AT MOST 1048576: true; the input reads as it did. -/
def probeScriptUptoRow : OpenClaim := { program := "ytbdphljmfoofoaa", sum := "3f86b05ae58229ed2df97331ff59d0fe218b21860652e2af31fdee8b23b72561", func := "chartulary/chartularylaw14.ProbeScript", spec := "probeScript", inPlace := ["slices.overlaps[int]"], unfollowed := true, recurses := true, apart := false, narrowed := true }
def ProbeScriptUptoSaid : Prop := probeScriptUptoRow.holds Try.pinned (OpenSpec.upto probeScriptSpec)

end Rows
end Go.Proofs.Ytbdphljmfoofoaa
