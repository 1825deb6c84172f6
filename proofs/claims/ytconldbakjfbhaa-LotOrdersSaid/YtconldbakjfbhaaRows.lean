/-
  No cell of these rows narrows 'for every input' (looked for: loops, veiled, ifaces, maps, wideKeys, modest, calm, conditions, laid).
  DERIVED. THE GIVEN ROWS OF THIS SEAT. 5 by the template 'for every input the law returns true; each argument reads behind the call as it read before'; 0 by the template 'total and deterministic' (their statements: YtconldbakjfbhaaTotals.lean).
  GIVEN WITH THE SEED: the statements are not yours to turn. If you find one false, say at which input.
  Laid BY PROGRAM, IN A SANDBOX (cutbox-rows.mjs): the forced cells as the released guide's own fill.sh prints them over the translation 68812a467c3d36aa… (all of the seat's roots in one cut). By AI agents, Wed Nov 11 2026. No macro, syntax, notation, axiom, sorry.
-/
import Derived.Test.YtconldbakjfbhaaChecked
import GoSem.Claim
import GoSem.ClaimJoined
import GoSem.ClaimMapViews
import Derived.JoinedTies
import Derived.KernelRfl
namespace Go.Proofs.Ytconldbakjfbhaa
/- THE CELL 'sum', in the pinned program and in every row, IS THE sha256 OF THE DUMP (.gsa) THAT YtconldbakjfbhaaProg.lean LOADS. Nothing in Lean hashes anything: it is a label: what it is worth is what the hold of that sum in a sandbox is worth. -/
noncomputable def Try.pinned : Pinned := { name := "ytconldbakjfbhaa", sum := "68812a467c3d36aaf5be1d14d0d63c2cc8a7dbd5202a7f086a004c0be75641da", checked := Try.checked }
namespace Rows
def none {H : Type} : Left H := { results := [], args := [] }

/-- 'chartularylaw05.LotScript': WHATEVER THE INPUT: true; the input reads as it did. -/
def lotScriptSpec : ChangeSpec := { name := "lotScript", fn := fun _ => fun
  | [d1, d2] => { results := [.lit (.bool true)], args := [d1, d2] }
  | _ => none }
def lotScriptRow : OpenClaim := { program := "ytconldbakjfbhaa", sum := "68812a467c3d36aaf5be1d14d0d63c2cc8a7dbd5202a7f086a004c0be75641da", func := "chartulary/chartularylaw05.LotScript", spec := "lotScript", unfollowed := true, recurses := true, apart := false }
def LotScriptSaid : Prop := lotScriptRow.holds Try.pinned (OpenSpec.ofChange lotScriptSpec)

/-- ITS FALSE NEIGHBOUR: 'it returns false'. Refute it at one input. -/
def lotScriptWrong : ChangeSpec := { name := "lotScript", fn := fun _ => fun
  | [d1, d2] => { results := [.lit (.bool false)], args := [d1, d2] }
  | _ => none }
def LotScriptWrongFalsely : Prop := lotScriptRow.holds Try.pinned (OpenSpec.ofChange lotScriptWrong)

/-- 'chartularylaw05.LotNone': WHATEVER THE INPUT: true; the input reads as it did. -/
def lotNoneSpec : ChangeSpec := { name := "lotNone", fn := fun _ => fun
  | [d] => { results := [.lit (.bool true)], args := [d] }
  | _ => none }
def lotNoneRow : OpenClaim := { program := "ytconldbakjfbhaa", sum := "68812a467c3d36aaf5be1d14d0d63c2cc8a7dbd5202a7f086a004c0be75641da", func := "chartulary/chartularylaw05.LotNone", spec := "lotNone", unfollowed := true, recurses := true, apart := false }
def LotNoneSaid : Prop := lotNoneRow.holds Try.pinned (OpenSpec.ofChange lotNoneSpec)

/-- ITS FALSE NEIGHBOUR: 'it returns false'. Refute it at one input. -/
def lotNoneWrong : ChangeSpec := { name := "lotNone", fn := fun _ => fun
  | [d] => { results := [.lit (.bool false)], args := [d] }
  | _ => none }
def LotNoneWrongFalsely : Prop := lotNoneRow.holds Try.pinned (OpenSpec.ofChange lotNoneWrong)

/-- 'chartularylaw05.LotKnown': WHATEVER THE INPUT: true; the input reads as it did. -/
def lotKnownSpec : ChangeSpec := { name := "lotKnown", fn := fun _ => fun
  | [] => { results := [.lit (.bool true)], args := [] }
  | _ => none }
def lotKnownRow : OpenClaim := { program := "ytconldbakjfbhaa", sum := "68812a467c3d36aaf5be1d14d0d63c2cc8a7dbd5202a7f086a004c0be75641da", func := "chartulary/chartularylaw05.LotKnown", spec := "lotKnown", unfollowed := true, recurses := true, apart := false }
def LotKnownSaid : Prop := lotKnownRow.holds Try.pinned (OpenSpec.ofChange lotKnownSpec)

/-- ITS FALSE NEIGHBOUR: 'it returns false'. Refute it at one input. -/
def lotKnownWrong : ChangeSpec := { name := "lotKnown", fn := fun _ => fun
  | [] => { results := [.lit (.bool false)], args := [] }
  | _ => none }
def LotKnownWrongFalsely : Prop := lotKnownRow.holds Try.pinned (OpenSpec.ofChange lotKnownWrong)

/-- 'chartularylaw05.LotOrders': WHATEVER THE INPUT: true; the input reads as it did. -/
def lotOrdersSpec : ChangeSpec := { name := "lotOrders", fn := fun _ => fun
  | [d1, d2] => { results := [.lit (.bool true)], args := [d1, d2] }
  | _ => none }
def lotOrdersRow : OpenClaim := { program := "ytconldbakjfbhaa", sum := "68812a467c3d36aaf5be1d14d0d63c2cc8a7dbd5202a7f086a004c0be75641da", func := "chartulary/chartularylaw05.LotOrders", spec := "lotOrders", unfollowed := true, recurses := true, apart := false }
def LotOrdersSaid : Prop := lotOrdersRow.holds Try.pinned (OpenSpec.ofChange lotOrdersSpec)

/-- ITS FALSE NEIGHBOUR: 'it returns false'. Refute it at one input. -/
def lotOrdersWrong : ChangeSpec := { name := "lotOrders", fn := fun _ => fun
  | [d1, d2] => { results := [.lit (.bool false)], args := [d1, d2] }
  | _ => none }
def LotOrdersWrongFalsely : Prop := lotOrdersRow.holds Try.pinned (OpenSpec.ofChange lotOrdersWrong)

/-- 'chartularylaw05.LotTail': WHATEVER THE INPUT: true; the input reads as it did. -/
def lotTailSpec : ChangeSpec := { name := "lotTail", fn := fun _ => fun
  | [d1, d2, d3] => { results := [.lit (.bool true)], args := [d1, d2, d3] }
  | _ => none }
def lotTailRow : OpenClaim := { program := "ytconldbakjfbhaa", sum := "68812a467c3d36aaf5be1d14d0d63c2cc8a7dbd5202a7f086a004c0be75641da", func := "chartulary/chartularylaw05.LotTail", spec := "lotTail", unfollowed := true, recurses := true, apart := false }
def LotTailSaid : Prop := lotTailRow.holds Try.pinned (OpenSpec.ofChange lotTailSpec)

/-- ITS FALSE NEIGHBOUR: 'it returns false'. Refute it at one input. -/
def lotTailWrong : ChangeSpec := { name := "lotTail", fn := fun _ => fun
  | [d1, d2, d3] => { results := [.lit (.bool false)], args := [d1, d2, d3] }
  | _ => none }
def LotTailWrongFalsely : Prop := lotTailRow.holds Try.pinned (OpenSpec.ofChange lotTailWrong)

/- THE SECOND FORM. 'bulk': how many values and letters a reading holds, each counted each time it is reached (what is shared counts as often as it is met; a slice's spare places count too). A statement '..UptoSaid' is the law's where the arguments, and the package variables that the reading takes, are together of bulk at most 1048576: NARROWER than '..Said'. Prove '..Said' where nothing that the law and all that it calls make is longer than what came in: it says more and counts as full. Else prove '..UptoSaid'. A law counts once. -/
mutual
def uptoBulk {H : Type} : DataW H → Nat
  | .lit (.string bytes) => bytes.length + 1
  | .lit _ => 1
  | .nil => 1
  | .ptr d => uptoBulk d + 1
  | .slice elems spare => uptoBulkAll elems + uptoBulkAll spare + 1
  | .agg parts => uptoBulkAll parts + 1
  | .iface _ d => uptoBulk d + 1
  | .map entries => uptoBulkEntries entries + 1
  | .held _ => 1
def uptoBulkAll {H : Type} : List (DataW H) → Nat
  | [] => 0
  | d :: r => uptoBulk d + uptoBulkAll r
def uptoBulkEntries {H : Type} : List (Lit × DataW H) → Nat
  | [] => 0
  | x :: r => uptoBulkEntry x + uptoBulkEntries r
def uptoBulkEntry {H : Type} : Lit × DataW H → Nat
  | (.string bytes, d) => bytes.length + uptoBulk d + 1
  | (_, d) => uptoBulk d + 1
 end
def uptoSmall : (H : Type) → List (DataW H) → Bool := fun _ ds => decide (uptoBulkAll ds ≤ 1048576)
def OpenSpec.upto (s : _root_.Go.ChangeSpec) : _root_.Go.OpenSpec := { _root_.Go.OpenSpec.ofChange s with cond := some uptoSmall }

/-- 'chartularylaw05.LotScript', WHERE WHAT IT READS IS OF BULK AT MOST 1048576: true; the input reads as it did. -/
def lotScriptUptoRow : OpenClaim := { program := "ytconldbakjfbhaa", sum := "68812a467c3d36aaf5be1d14d0d63c2cc8a7dbd5202a7f086a004c0be75641da", func := "chartulary/chartularylaw05.LotScript", spec := "lotScript", unfollowed := true, recurses := true, apart := false, narrowed := true }
def LotScriptUptoSaid : Prop := lotScriptUptoRow.holds Try.pinned (OpenSpec.upto lotScriptSpec)

/-- 'chartularylaw05.LotNone', WHERE WHAT IT READS IS OF BULK AT MOST 1048576: true; the input reads as it did. -/
def lotNoneUptoRow : OpenClaim := { program := "ytconldbakjfbhaa", sum := "68812a467c3d36aaf5be1d14d0d63c2cc8a7dbd5202a7f086a004c0be75641da", func := "chartulary/chartularylaw05.LotNone", spec := "lotNone", unfollowed := true, recurses := true, apart := false, narrowed := true }
def LotNoneUptoSaid : Prop := lotNoneUptoRow.holds Try.pinned (OpenSpec.upto lotNoneSpec)

/-- 'chartularylaw05.LotKnown', WHERE WHAT IT READS IS OF BULK AT MOST 1048576: true; the input reads as it did. -/
def lotKnownUptoRow : OpenClaim := { program := "ytconldbakjfbhaa", sum := "68812a467c3d36aaf5be1d14d0d63c2cc8a7dbd5202a7f086a004c0be75641da", func := "chartulary/chartularylaw05.LotKnown", spec := "lotKnown", unfollowed := true, recurses := true, apart := false, narrowed := true }
def LotKnownUptoSaid : Prop := lotKnownUptoRow.holds Try.pinned (OpenSpec.upto lotKnownSpec)

/-- 'chartularylaw05.LotOrders', WHERE WHAT IT READS IS OF BULK AT MOST 1048576: true; the input reads as it did. -/
def lotOrdersUptoRow : OpenClaim := { program := "ytconldbakjfbhaa", sum := "68812a467c3d36aaf5be1d14d0d63c2cc8a7dbd5202a7f086a004c0be75641da", func := "chartulary/chartularylaw05.LotOrders", spec := "lotOrders", unfollowed := true, recurses := true, apart := false, narrowed := true }
def LotOrdersUptoSaid : Prop := lotOrdersUptoRow.holds Try.pinned (OpenSpec.upto lotOrdersSpec)

/-- 'chartularylaw05.LotTail', WHERE WHAT IT READS IS OF BULK AT MOST 1048576: true; the input reads as it did. -/
def lotTailUptoRow : OpenClaim := { program := "ytconldbakjfbhaa", sum := "68812a467c3d36aaf5be1d14d0d63c2cc8a7dbd5202a7f086a004c0be75641da", func := "chartulary/chartularylaw05.LotTail", spec := "lotTail", unfollowed := true, recurses := true, apart := false, narrowed := true }
def LotTailUptoSaid : Prop := lotTailUptoRow.holds Try.pinned (OpenSpec.upto lotTailSpec)

end Rows
end Go.Proofs.Ytconldbakjfbhaa
