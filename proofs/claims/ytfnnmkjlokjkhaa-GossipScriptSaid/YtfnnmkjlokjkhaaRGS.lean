/- The row of the law GossipScript, out of the walk of its function: no condition beside the statement. -/
import Derived.Test.YtfnnmkjlokjkhaaRows
import Derived.Test.YtfnnmkjlokjkhaaGSR
import Derived.Test.YtfnnmkjlokjkhaaSe
import Derived.WalkKit
import Derived.ProofKit
import Derived.OpenShut
import Derived.ShutString
import Derived.ChangeOld
import Derived.Below
import Derived.SizedLaws
import Derived.Carry
set_option linter.unusedSimpArgs false
set_option linter.unusedVariables false
namespace Go.Proofs.Ytfnnmkjlokjkhaa.GossipScript
open Go.ChangeShapes Go.WideShapes Go.ChangeAt Go.RowKit Go.SY Go
theorem own : ownKnob Try.prog.godebug = none := by kernel_rfl
theorem laidOut : laidOutB Try.prog = true := by kernel_rfl
set_option maxRecDepth 100000 in
set_option maxHeartbeats 4000000 in
theorem lifted (os : Os) (started : os.Started) (H : Type) (enc : TypeId × Value → H) :
    ReturnsInHanded {} Try.checked os 3 .any (Rows.gossipScriptSpec.pre6 enc Try.prog Try.f3 Rows.gossipScriptRow.domain false) (Rows.gossipScriptSpec.post enc Try.prog Try.f3 false true false false) := by
  refine returnsInHanded_of_change_sized (C := Try.checked) own started (by kernel_rfl) Try.func3
    (ChangeSpec.witness6 (enc := enc) (C := Try.checked) false ⟨#[], #[.int .i64 0, .slice none 0 0], []⟩ 8 (by kernel_rfl) (by kernel_rfl) (by kernel_rfl) (by kernel_rfl)) ?_
  intro W base args ds gs before hval0 hW hcnd hsz0 _
  have hsz : (DataW.weightsEach Try.prog (Try.f3.params.toList ++ Rows.gossipScriptSpec.plain.varTypes Try.prog) (ds ++ gs)).all (· ≤ reachBytes) = true := hsz0
  have hval : ∀ (j : Nat) t v, Try.f3.params[j]? = some t → args[j]? = some v → Value.okWide Try.prog W .any base t v := hval0
  have hW' := hW
  obtain ⟨p, q, hA0, hV, rfl, hfz, hnd⟩ := hW
  have hA : DataW.TrodAll enc Try.prog W 0 (fun _ => true) true Try.f3.params.toList args.toList ds p := hA0
  rw [Try.params3] at hA hval hsz
  obtain ⟨v0, vs0, d0, ds0, p0, q0, hargs, rfl, rfl, h0, r0⟩ := trodAll_cons hA
  obtain ⟨v1, vs1, d1, ds1, p1, q1, rfl, rfl, rfl, h1, r1⟩ := trodAll_cons r0
  obtain ⟨rfl, rfl, rfl⟩ := trodAll_nil r1
  obtain rfl : args = #[v0, v1] := by cases args; simp_all
  obtain ⟨rfl, rfl⟩ := trodVars_none hV
  obtain ⟨a0, rfl, rfl, rfl, w0⟩ := open_int Try.underlying3 (hval 0 3 v0 rfl rfl) h0
  obtain ⟨a1, len1, cap1, rfl⟩ := okWide_slice Try.underlying22 (hval 1 22 v1 rfl rfl)
  have k1 := h1
  have lt1 : ∀ x ∈ p1, x.block < W.heap.size := by obtain ⟨m, hm⟩ := k1; exact DataW.trod_lt m _ _ _ hm
  obtain ⟨z1, t1, n1, m1, gd1, g1, s1⟩ := slice_in (pl := plOf pls) Try.underlying22 (by rw [show Try.prog.cellsOf 34 = 4 by kernel_rfl]; decide) (el_struct Try.underlying34 (by kernel_rfl) (fs_cons (el_struct3 Try.underlying32 (by kernel_rfl) (by kernel_rfl) (one_int Try.underlying3) (one_int Try.underlying3) (one_int Try.underlying3)) (fs_cons (el_one (by kernel_rfl) (one_int Try.underlying3)) fs_nil))) h1
  rw [show Try.prog.cellsOf 34 = 4 by kernel_rfl] at g1
  have y1 : cap1 * 32 ≤ 140737488351232 := by
    rcases s1 with rfl | ⟨us, vs, rfl, hab⟩
    · simp
    · have := sized_slice hsz (j := 1) (t := 22) rfl rfl Try.underlying22
      rw [hab, show Try.prog.bytesOf 34 = 32 by kernel_rfl] at this
      exact this
  clear hA0 hval0 hsz0 hsz
  have hm : maxLen = 9223372036854775807 := rfl
  have walk : Calls Try.prog 3 #[.int .i64 a0, .slice a1 len1 cap1] W fun e w' => e = .returned (.bool true) ∧ Below W.heap.size W w' :=
    law_walk (w := W) (vs := [.int .i64 a0, .slice a1 len1 cap1]) plsOk fi3 (args := [.v (.int .i64 a0), .imr false 4 (z1.map GS.actR) (some cap1)]) (S := IsT) (by simp) (fun _ _ h => h) (fun C hC _ => GS.script_walk C hC a0 (z1.map GS.actR) (GS.actR_at gd1) (GS.actR_flat _) _) (by simp only [DenL]; exact ⟨_, _, rfl, (mk_int (wf_inK w0)), _, _, rfl, g1, rfl⟩)
  refine walk.mono fun e W' ⟨he, bel⟩ => ?_
  subst he
  exact ⟨_, rfl, _, _, _, [], _, [], hW', trodAll_mk1 (shut_bool Try.underlying4 _), (trodAll_cons_mk (shut_int Try.underlying3 w0) (trodAll_cons_mk (Below.trod laidOut (by kernel_rfl) (of_decide_eq_true (by kernel_rfl)) k1 bel lt1) trodAll_mk0)), rfl, bel.frame _, fun h => by cases h⟩
theorem over : Rows.gossipScriptRow.holds Try.pinned (OpenSpec.ofChange Rows.gossipScriptSpec) :=
  OpenClaim.holds_of_wide 3 Try.f3 rfl rfl rfl rfl rfl rfl rfl ⟨rfl, rfl, rfl, rfl, rfl⟩ rfl rfl rfl rfl rfl (by kernel_rfl) Try.func3 (by kernel_rfl)
    (of_decide_eq_true (by kernel_rfl)) (by unfold Func.isWrapper; first | (rw [if_pos (by decide +kernel)]; kernel_rfl) | (rw [if_neg (by decide +kernel)]; exact ⟨rfl, rfl⟩))
    (fun os started H enc _ => lifted os started H enc)
theorem proved : Rows.GossipScriptSaid := over
#print axioms proved
end Go.Proofs.Ytfnnmkjlokjkhaa.GossipScript
namespace Go.Proofs.Ytfnnmkjlokjkhaa
theorem gossipScript_holds : Rows.GossipScriptSaid := GossipScript.proved
end Go.Proofs.Ytfnnmkjlokjkhaa
