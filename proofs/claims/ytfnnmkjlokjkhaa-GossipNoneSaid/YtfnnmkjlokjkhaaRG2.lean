/- The row of the law GossipNone, out of the walk of its function: no condition beside the statement. -/
import Derived.Test.YtfnnmkjlokjkhaaRows
import Derived.Test.YtfnnmkjlokjkhaaG3
import Derived.Test.YtfnnmkjlokjkhaaSy36
import Derived.WalkKit
import Derived.ProofKit
import Derived.OpenShut
import Derived.ShutString
import Derived.ChangeOld
import Derived.Below
import Derived.SizedLaws
import Derived.Carry
import Derived.Lib.SmallJoins
set_option linter.unusedSimpArgs false
set_option linter.unusedVariables false
namespace Go.Proofs.Ytfnnmkjlokjkhaa.GossipNone
open Go.ChangeShapes Go.WideShapes Go.ChangeAt Go.RowKit Go.SY Go
theorem own : ownKnob Try.prog.godebug = none := by kernel_rfl
theorem laidOut : laidOutB Try.prog = true := by kernel_rfl
theorem den_agg3 {β : Env} {k : IntKind} {a b c : Int} (ha : inK k a = true) (hb : inK k b = true) (hc : inK k c = true) : Den β (.agg [.v (.int k a), .v (.int k b), .v (.int k c)]) (.agg #[.int k a, .int k b, .int k c]) := by
  simp only [Den]
  refine ⟨[.int k a, .int k b, .int k c], rfl, ?_⟩
  refine (denC_cons rfl).2 ⟨_, _, rfl, mk_int ha, rfl, (denC_cons rfl).2 ⟨_, _, rfl, mk_int hb, rfl, (denC_cons rfl).2 ⟨_, _, rfl, mk_int hc, rfl, by simp only [DenC]⟩⟩⟩
set_option maxRecDepth 100000 in
set_option maxHeartbeats 4000000 in
theorem lifted (os : Os) (started : os.Started) (H : Type) (enc : TypeId × Value → H) :
    ReturnsInHanded {} Try.checked os 4 .any (Rows.gossipNoneSpec.pre6 enc Try.prog Try.f4 Rows.gossipNoneRow.domain false) (Rows.gossipNoneSpec.post enc Try.prog Try.f4 false true false false) := by
  refine returnsInHanded_of_change_sized (C := Try.checked) own started (by kernel_rfl) Try.func4
    (ChangeSpec.witness6 (enc := enc) (C := Try.checked) false ⟨#[], #[.agg #[.int .i64 0, .int .i64 0, .int .i64 0], .int .i64 0], []⟩ 8 (by kernel_rfl) (by kernel_rfl) (by kernel_rfl) (by kernel_rfl)) ?_
  intro W base args ds gs before hval0 hW hcnd hsz0 _
  have hsz : (DataW.weightsEach Try.prog (Try.f4.params.toList ++ Rows.gossipNoneSpec.plain.varTypes Try.prog) (ds ++ gs)).all (· ≤ reachBytes) = true := hsz0
  have hval : ∀ (j : Nat) t v, Try.f4.params[j]? = some t → args[j]? = some v → Value.okWide Try.prog W .any base t v := hval0
  have hW' := hW
  obtain ⟨p, q, hA0, hV, rfl, hfz, hnd⟩ := hW
  have hA : DataW.TrodAll enc Try.prog W 0 (fun _ => true) true Try.f4.params.toList args.toList ds p := hA0
  rw [Try.params4] at hA hval hsz
  obtain ⟨v0, vs0, d0, ds0, p0, q0, hargs, rfl, rfl, h0, r0⟩ := trodAll_cons hA
  obtain ⟨v1, vs1, d1, ds1, p1, q1, rfl, rfl, rfl, h1, r1⟩ := trodAll_cons r0
  obtain ⟨rfl, rfl, rfl⟩ := trodAll_nil r1
  obtain rfl : args = #[v0, v1] := by cases args; simp_all
  obtain ⟨rfl, rfl⟩ := trodVars_none hV
  have k0 := h0
  have lt0 : ∀ x ∈ p0, x.block < W.heap.size := by obtain ⟨m, hm⟩ := k0; exact DataW.trod_lt m _ _ _ hm
  obtain ⟨u0a, u0b, u0c, s0a, s0b, s0c, m0, rfl, rfl, rfl, e0a, e0b, e0c⟩ := Go.Joins.open_agg3 Try.underlying32 (by kernel_rfl) (by kernel_rfl) (hval 0 32 v0 rfl rfl) h0
  obtain ⟨a0a, g0a, -, w0a⟩ := DataW.trod_int Try.underlying3 e0a
  obtain rfl : u0a = .int .i64 a0a := by simpa using g0a
  obtain ⟨a0b, g0b, -, w0b⟩ := DataW.trod_int Try.underlying3 e0b
  obtain rfl : u0b = .int .i64 a0b := by simpa using g0b
  obtain ⟨a0c, g0c, -, w0c⟩ := DataW.trod_int Try.underlying3 e0c
  obtain rfl : u0c = .int .i64 a0c := by simpa using g0c
  obtain ⟨a1, rfl, rfl, rfl, w1⟩ := open_int Try.underlying3 (hval 1 3 v1 rfl rfl) h1
  clear hA0 hval0 hsz0 hsz
  have hm : maxLen = 9223372036854775807 := rfl
  have walk : Calls Try.prog 4 #[.agg #[.int .i64 a0a, .int .i64 a0b, .int .i64 a0c], .int .i64 a1] W fun e w' => e = .returned (.bool true) ∧ Below W.heap.size W w' :=
    open_lawT (w := W) (vs := [.agg #[.int .i64 a0a, .int .i64 a0b, .int .i64 a0c], .int .i64 a1]) plsOk kAwake_ok (none_run a0a a0b a0c a1) (by simp only [DenL]; exact ⟨_, _, rfl, (den_agg3 (wf_inK w0a) (wf_inK w0b) (wf_inK w0c)), _, _, rfl, (mk_int (wf_inK w1)), rfl⟩)
  refine walk.mono fun e W' ⟨he, bel⟩ => ?_
  subst he
  exact ⟨_, rfl, _, _, _, [], _, [], hW', trodAll_mk1 (shut_bool Try.underlying4 _), (trodAll_cons_mk (Below.trod laidOut (by kernel_rfl) (of_decide_eq_true (by kernel_rfl)) k0 bel lt0) (trodAll_cons_mk (shut_int Try.underlying3 w1) trodAll_mk0)), rfl, bel.frame _, fun h => by cases h⟩
theorem over : Rows.gossipNoneRow.holds Try.pinned (OpenSpec.ofChange Rows.gossipNoneSpec) :=
  OpenClaim.holds_of_wide 4 Try.f4 rfl rfl rfl rfl rfl rfl rfl ⟨rfl, rfl, rfl, rfl, rfl⟩ rfl rfl rfl rfl rfl (by kernel_rfl) Try.func4 (by kernel_rfl)
    (of_decide_eq_true (by kernel_rfl)) (by unfold Func.isWrapper; first | (rw [if_pos (by decide +kernel)]; kernel_rfl) | (rw [if_neg (by decide +kernel)]; exact ⟨rfl, rfl⟩))
    (fun os started H enc _ => lifted os started H enc)
theorem proved : Rows.GossipNoneSaid := over
#print axioms proved
end Go.Proofs.Ytfnnmkjlokjkhaa.GossipNone
namespace Go.Proofs.Ytfnnmkjlokjkhaa
/-- The row, under a short name, for the claim. -/
theorem gossipNone_holds : Rows.GossipNoneSaid := GossipNone.proved
end Go.Proofs.Ytfnnmkjlokjkhaa
