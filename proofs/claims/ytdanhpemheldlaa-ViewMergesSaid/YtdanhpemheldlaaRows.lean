/-
  No cell of these rows narrows 'for every input' (looked for: loops, veiled, ifaces, maps, wideKeys, modest, calm, conditions, laid).
  DERIVED. THE GIVEN ROWS OF THIS SEAT. 6 by the template 'for every input the law returns true; each argument reads behind the call as it read before'; 0 by the template 'total and deterministic' (their statements: YtdanhpemheldlaaTotals.lean).
  GIVEN WITH THE SEED: the statements are not yours to turn. If you find one false, say at which input.
  Laid BY PROGRAM, IN A SANDBOX (cutbox-rows.mjs): the forced cells as the released guide's own fill.sh prints them over the translation adfc276b20d4f648… (all of the seat's roots in one cut). By AI agents, Wed Nov 11 2026. No macro, syntax, notation, axiom, sorry.
-/
import Derived.Test.YtdanhpemheldlaaChecked
import GoSem.Claim
import GoSem.ClaimJoined
import GoSem.ClaimMapViews
import Derived.JoinedTies
import Derived.KernelRfl
namespace Go.Proofs.Ytdanhpemheldlaa
/- THE CELL 'sum', in the pinned program and in every row, IS THE sha256 OF THE DUMP (.gsa) THAT YtdanhpemheldlaaProg.lean LOADS. Nothing in Lean hashes anything: it is a label: what it is worth is what the hold of that sum in a sandbox is worth. -/
noncomputable def Try.pinned : Pinned := { name := "ytdanhpemheldlaa", sum := "adfc276b20d4f6485235034239d3791aede25f2203a1b55bfea8a9a9591f2152", checked := Try.checked }
namespace Rows
def none {H : Type} : Left H := { results := [], args := [] }

/-- 'chartularylaw12.ViewMerges': WHATEVER THE INPUT: true; the input reads as it did. -/
def viewMergesSpec : ChangeSpec := { name := "viewMerges", fn := fun _ => fun
  | [d1, d2] => { results := [.lit (.bool true)], args := [d1, d2] }
  | _ => none }
def viewMergesRow : OpenClaim := { program := "ytdanhpemheldlaa", sum := "adfc276b20d4f6485235034239d3791aede25f2203a1b55bfea8a9a9591f2152", func := "chartulary/chartularylaw12.ViewMerges", spec := "viewMerges", inPlace := ["slices.overlaps[chartulary/api.Member]"], unfollowed := true, recurses := true, apart := false }
def ViewMergesSaid : Prop := viewMergesRow.holds Try.pinned (OpenSpec.ofChange viewMergesSpec)

/-- ITS FALSE NEIGHBOUR: 'it returns false'. Refute it at one input. -/
def viewMergesWrong : ChangeSpec := { name := "viewMerges", fn := fun _ => fun
  | [d1, d2] => { results := [.lit (.bool false)], args := [d1, d2] }
  | _ => none }
def ViewMergesWrongFalsely : Prop := viewMergesRow.holds Try.pinned (OpenSpec.ofChange viewMergesWrong)

/-- 'chartularylaw12.ViewForward': WHATEVER THE INPUT: true; the input reads as it did. -/
def viewForwardSpec : ChangeSpec := { name := "viewForward", fn := fun _ => fun
  | [d1, d2] => { results := [.lit (.bool true)], args := [d1, d2] }
  | _ => none }
def viewForwardRow : OpenClaim := { program := "ytdanhpemheldlaa", sum := "adfc276b20d4f6485235034239d3791aede25f2203a1b55bfea8a9a9591f2152", func := "chartulary/chartularylaw12.ViewForward", spec := "viewForward", inPlace := ["slices.overlaps[chartulary/api.Member]"], unfollowed := true, recurses := true, apart := false }
def ViewForwardSaid : Prop := viewForwardRow.holds Try.pinned (OpenSpec.ofChange viewForwardSpec)

/-- ITS FALSE NEIGHBOUR: 'it returns false'. Refute it at one input. -/
def viewForwardWrong : ChangeSpec := { name := "viewForward", fn := fun _ => fun
  | [d1, d2] => { results := [.lit (.bool false)], args := [d1, d2] }
  | _ => none }
def ViewForwardWrongFalsely : Prop := viewForwardRow.holds Try.pinned (OpenSpec.ofChange viewForwardWrong)

/-- 'chartularylaw12.ViewKnown': WHATEVER THE INPUT: true; the input reads as it did. -/
def viewKnownSpec : ChangeSpec := { name := "viewKnown", fn := fun _ => fun
  | [] => { results := [.lit (.bool true)], args := [] }
  | _ => none }
def viewKnownRow : OpenClaim := { program := "ytdanhpemheldlaa", sum := "adfc276b20d4f6485235034239d3791aede25f2203a1b55bfea8a9a9591f2152", func := "chartulary/chartularylaw12.ViewKnown", spec := "viewKnown", inPlace := ["slices.overlaps[chartulary/api.Member]"], unfollowed := true, recurses := true, apart := false }
def ViewKnownSaid : Prop := viewKnownRow.holds Try.pinned (OpenSpec.ofChange viewKnownSpec)

/-- ITS FALSE NEIGHBOUR: 'it returns false'. Refute it at one input. -/
def viewKnownWrong : ChangeSpec := { name := "viewKnown", fn := fun _ => fun
  | [] => { results := [.lit (.bool false)], args := [] }
  | _ => none }
def ViewKnownWrongFalsely : Prop := viewKnownRow.holds Try.pinned (OpenSpec.ofChange viewKnownWrong)

/-- 'chartularylaw12.ViewLive': WHATEVER THE INPUT: true; the input reads as it did. -/
def viewLiveSpec : ChangeSpec := { name := "viewLive", fn := fun _ => fun
  | [d1, d2] => { results := [.lit (.bool true)], args := [d1, d2] }
  | _ => none }
def viewLiveRow : OpenClaim := { program := "ytdanhpemheldlaa", sum := "adfc276b20d4f6485235034239d3791aede25f2203a1b55bfea8a9a9591f2152", func := "chartulary/chartularylaw12.ViewLive", spec := "viewLive", inPlace := ["slices.overlaps[chartulary/api.Member]"], unfollowed := true, recurses := true, apart := false }
def ViewLiveSaid : Prop := viewLiveRow.holds Try.pinned (OpenSpec.ofChange viewLiveSpec)

/-- ITS FALSE NEIGHBOUR: 'it returns false'. Refute it at one input. -/
def viewLiveWrong : ChangeSpec := { name := "viewLive", fn := fun _ => fun
  | [d1, d2] => { results := [.lit (.bool false)], args := [d1, d2] }
  | _ => none }
def ViewLiveWrongFalsely : Prop := viewLiveRow.holds Try.pinned (OpenSpec.ofChange viewLiveWrong)

/-- 'chartularylaw12.ViewTells': WHATEVER THE INPUT: true; the input reads as it did. -/
def viewTellsSpec : ChangeSpec := { name := "viewTells", fn := fun _ => fun
  | [d1, d2, d3] => { results := [.lit (.bool true)], args := [d1, d2, d3] }
  | _ => none }
def viewTellsRow : OpenClaim := { program := "ytdanhpemheldlaa", sum := "adfc276b20d4f6485235034239d3791aede25f2203a1b55bfea8a9a9591f2152", func := "chartulary/chartularylaw12.ViewTells", spec := "viewTells", inPlace := ["slices.overlaps[chartulary/api.Member]"], unfollowed := true, recurses := true, apart := false }
def ViewTellsSaid : Prop := viewTellsRow.holds Try.pinned (OpenSpec.ofChange viewTellsSpec)

/-- ITS FALSE NEIGHBOUR: 'it returns false'. Refute it at one input. -/
def viewTellsWrong : ChangeSpec := { name := "viewTells", fn := fun _ => fun
  | [d1, d2, d3] => { results := [.lit (.bool false)], args := [d1, d2, d3] }
  | _ => none }
def ViewTellsWrongFalsely : Prop := viewTellsRow.holds Try.pinned (OpenSpec.ofChange viewTellsWrong)

/-- 'chartularylaw12.ViewOrder': WHATEVER THE INPUT: true; the input reads as it did. -/
def viewOrderSpec : ChangeSpec := { name := "viewOrder", fn := fun _ => fun
  | [d1, d2, d3] => { results := [.lit (.bool true)], args := [d1, d2, d3] }
  | _ => none }
def viewOrderRow : OpenClaim := { program := "ytdanhpemheldlaa", sum := "adfc276b20d4f6485235034239d3791aede25f2203a1b55bfea8a9a9591f2152", func := "chartulary/chartularylaw12.ViewOrder", spec := "viewOrder", inPlace := ["slices.overlaps[chartulary/api.Member]"], unfollowed := true, recurses := true, apart := false }
def ViewOrderSaid : Prop := viewOrderRow.holds Try.pinned (OpenSpec.ofChange viewOrderSpec)

/-- ITS FALSE NEIGHBOUR: 'it returns false'. Refute it at one input. -/
def viewOrderWrong : ChangeSpec := { name := "viewOrder", fn := fun _ => fun
  | [d1, d2, d3] => { results := [.lit (.bool false)], args := [d1, d2, d3] }
  | _ => none }
def ViewOrderWrongFalsely : Prop := viewOrderRow.holds Try.pinned (OpenSpec.ofChange viewOrderWrong)

/- THE SECOND FORM. 'bulk': how many values and letters a reading holds, each counted each time it is reached (what is shared counts as often as it is met; a slice's spare places count too). A statement '..UptoSaid' is the law's where the arguments, and the package variables that the reading takes, are together of bulk at most 1048576: NARROWER than '..Said'. Prove '..Said' where nothing that the law and all that it calls make is longer than what came in: it says more and counts as full. Else prove '..UptoSaid'. A law counts once. -/
mutual
def uptoBulk {H : Type} : DataW H → Nat
  | .lit (.string bytes) => bytes.length + 1
  | .lit _ => 1
  | .nil => 1
  | .ptr d => uptoBulk d + 1
  | .slice elems spare => uptoBulkAll elems + uptoBulkAll spare + 1
  | .agg parts => uptoBulkAll parts + 1
  | .iface _ d => uptoBulk d + 1
  | .map entries => uptoBulkEntries entries + 1
  | .held _ => 1
def uptoBulkAll {H : Type} : List (DataW H) → Nat
  | [] => 0
  | d :: r => uptoBulk d + uptoBulkAll r
def uptoBulkEntries {H : Type} : List (Lit × DataW H) → Nat
  | [] => 0
  | x :: r => uptoBulkEntry x + uptoBulkEntries r
def uptoBulkEntry {H : Type} : Lit × DataW H → Nat
  | (.string bytes, d) => bytes.length + uptoBulk d + 1
  | (_, d) => uptoBulk d + 1
 end
def uptoSmall : (H : Type) → List (DataW H) → Bool := fun _ ds => decide (uptoBulkAll ds ≤ 1048576)
def OpenSpec.upto (s : _root_.Go.ChangeSpec) : _root_.Go.OpenSpec := { _root_.Go.OpenSpec.ofChange s with cond := some uptoSmall }

/-- 'chartularylaw12.ViewMerges', WHERE WHAT IT READS IS OF BULK AT MOST 1048576: true; the input reads as it did. -/
def viewMergesUptoRow : OpenClaim := { program := "ytdanhpemheldlaa", sum := "adfc276b20d4f6485235034239d3791aede25f2203a1b55bfea8a9a9591f2152", func := "chartulary/chartularylaw12.ViewMerges", spec := "viewMerges", inPlace := ["slices.overlaps[chartulary/api.Member]"], unfollowed := true, recurses := true, apart := false, narrowed := true }
def ViewMergesUptoSaid : Prop := viewMergesUptoRow.holds Try.pinned (OpenSpec.upto viewMergesSpec)

/-- 'chartularylaw12.ViewForward', WHERE WHAT IT READS IS OF BULK AT MOST 1048576: true; the input reads as it did. -/
def viewForwardUptoRow : OpenClaim := { program := "ytdanhpemheldlaa", sum := "adfc276b20d4f6485235034239d3791aede25f2203a1b55bfea8a9a9591f2152", func := "chartulary/chartularylaw12.ViewForward", spec := "viewForward", inPlace := ["slices.overlaps[chartulary/api.Member]"], unfollowed := true, recurses := true, apart := false, narrowed := true }
def ViewForwardUptoSaid : Prop := viewForwardUptoRow.holds Try.pinned (OpenSpec.upto viewForwardSpec)

/-- 'chartularylaw12.ViewKnown', WHERE WHAT IT READS IS OF BULK AT MOST 1048576: true; the input reads as it did. -/
def viewKnownUptoRow : OpenClaim := { program := "ytdanhpemheldlaa", sum := "adfc276b20d4f6485235034239d3791aede25f2203a1b55bfea8a9a9591f2152", func := "chartulary/chartularylaw12.ViewKnown", spec := "viewKnown", inPlace := ["slices.overlaps[chartulary/api.Member]"], unfollowed := true, recurses := true, apart := false, narrowed := true }
def ViewKnownUptoSaid : Prop := viewKnownUptoRow.holds Try.pinned (OpenSpec.upto viewKnownSpec)

/-- 'chartularylaw12.ViewLive', WHERE WHAT IT READS IS OF BULK AT MOST 1048576: true; the input reads as it did. -/
def viewLiveUptoRow : OpenClaim := { program := "ytdanhpemheldlaa", sum := "adfc276b20d4f6485235034239d3791aede25f2203a1b55bfea8a9a9591f2152", func := "chartulary/chartularylaw12.ViewLive", spec := "viewLive", inPlace := ["slices.overlaps[chartulary/api.Member]"], unfollowed := true, recurses := true, apart := false, narrowed := true }
def ViewLiveUptoSaid : Prop := viewLiveUptoRow.holds Try.pinned (OpenSpec.upto viewLiveSpec)

/-- 'chartularylaw12.ViewTells', WHERE WHAT IT READS IS OF BULK AT MOST 1048576: true; the input reads as it did. -/
def viewTellsUptoRow : OpenClaim := { program := "ytdanhpemheldlaa", sum := "adfc276b20d4f6485235034239d3791aede25f2203a1b55bfea8a9a9591f2152", func := "chartulary/chartularylaw12.ViewTells", spec := "viewTells", inPlace := ["slices.overlaps[chartulary/api.Member]"], unfollowed := true, recurses := true, apart := false, narrowed := true }
def ViewTellsUptoSaid : Prop := viewTellsUptoRow.holds Try.pinned (OpenSpec.upto viewTellsSpec)

/-- 'chartularylaw12.ViewOrder', WHERE WHAT IT READS IS OF BULK AT MOST 1048576: true; the input reads as it did. -/
def viewOrderUptoRow : OpenClaim := { program := "ytdanhpemheldlaa", sum := "adfc276b20d4f6485235034239d3791aede25f2203a1b55bfea8a9a9591f2152", func := "chartulary/chartularylaw12.ViewOrder", spec := "viewOrder", inPlace := ["slices.overlaps[chartulary/api.Member]"], unfollowed := true, recurses := true, apart := false, narrowed := true }
def ViewOrderUptoSaid : Prop := viewOrderUptoRow.holds Try.pinned (OpenSpec.upto viewOrderSpec)

end Rows
end Go.Proofs.Ytdanhpemheldlaa
