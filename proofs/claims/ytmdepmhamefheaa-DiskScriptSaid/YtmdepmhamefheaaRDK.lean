/- The row of the law DiskScript, out of the walk of its function: no condition beside the statement. -/
import Derived.Test.YtmdepmhamefheaaRows
import Derived.Test.YtmdepmhamefheaaDSC
import Derived.Test.YtmdepmhamefheaaSe
import Derived.WalkKit
import Derived.ProofKit
import Derived.OpenShut
import Derived.ShutString
import Derived.ChangeOld
import Derived.Below
import Derived.SizedLaws
import Derived.Carry
set_option linter.unusedSimpArgs false
set_option linter.unusedVariables false
namespace Go.Proofs.Ytmdepmhamefheaa.DiskScript
open Go.ChangeShapes Go.WideShapes Go.ChangeAt Go.RowKit Go.SY Go
theorem own : ownKnob Try.prog.godebug = none := by kernel_rfl
theorem laidOut : laidOutB Try.prog = true := by kernel_rfl
set_option maxRecDepth 100000 in
set_option maxHeartbeats 4000000 in
theorem lifted (os : Os) (started : os.Started) (H : Type) (enc : TypeId × Value → H) :
    ReturnsInHanded {} Try.checked os 6 .any (Rows.diskScriptSpec.pre6 enc Try.prog Try.f6 Rows.diskScriptRow.domain false) (Rows.diskScriptSpec.post enc Try.prog Try.f6 false true false false) := by
  refine returnsInHanded_of_change_sized (C := Try.checked) own started (by kernel_rfl) Try.func6
    (ChangeSpec.witness6 (enc := enc) (C := Try.checked) false ⟨#[], #[.int .i64 0, .slice none 0 0], []⟩ 8 (by kernel_rfl) (by kernel_rfl) (by kernel_rfl) (by kernel_rfl)) ?_
  intro W base args ds gs before hval0 hW hcnd hsz0 _
  have hsz : (DataW.weightsEach Try.prog (Try.f6.params.toList ++ Rows.diskScriptSpec.plain.varTypes Try.prog) (ds ++ gs)).all (· ≤ reachBytes) = true := hsz0
  have hval : ∀ (j : Nat) t v, Try.f6.params[j]? = some t → args[j]? = some v → Value.okWide Try.prog W .any base t v := hval0
  have hW' := hW
  obtain ⟨p, q, hA0, hV, rfl, hfz, hnd⟩ := hW
  have hA : DataW.TrodAll enc Try.prog W 0 (fun _ => true) true Try.f6.params.toList args.toList ds p := hA0
  rw [Try.params6] at hA hval hsz
  obtain ⟨v0, vs0, d0, ds0, p0, q0, hargs, rfl, rfl, h0, r0⟩ := trodAll_cons hA
  obtain ⟨v1, vs1, d1, ds1, p1, q1, rfl, rfl, rfl, h1, r1⟩ := trodAll_cons r0
  obtain ⟨rfl, rfl, rfl⟩ := trodAll_nil r1
  obtain rfl : args = #[v0, v1] := by cases args; simp_all
  obtain ⟨rfl, rfl⟩ := trodVars_none hV
  obtain ⟨a0, rfl, rfl, rfl, w0⟩ := open_int Try.underlying3 (hval 0 3 v0 rfl rfl) h0
  obtain ⟨a1, len1, cap1, rfl⟩ := okWide_slice Try.underlying39 (hval 1 39 v1 rfl rfl)
  have k1 := h1
  have lt1 : ∀ x ∈ p1, x.block < W.heap.size := by obtain ⟨m, hm⟩ := k1; exact DataW.trod_lt m _ _ _ hm
  obtain ⟨z1, t1, n1, m1, gd1, g1, s1⟩ := slice_in (pl := plOf pls) Try.underlying39 (by rw [show Try.prog.cellsOf 42 = 3 by kernel_rfl]; decide) (el_struct3 Try.underlying42 (by kernel_rfl) (by kernel_rfl) (one_int Try.underlying3) (one_int Try.underlying3) (one_nums Try.underlying22 Try.underlying5 (by kernel_rfl))) h1
  rw [show Try.prog.cellsOf 42 = 3 by kernel_rfl] at g1
  have y1 : cap1 * 40 ≤ 140737488351232 := by
    rcases s1 with rfl | ⟨us, vs, rfl, hab⟩
    · simp
    · have := sized_slice hsz (j := 1) (t := 39) rfl rfl Try.underlying39
      rw [hab, show Try.prog.bytesOf 42 = 40 by kernel_rfl] at this
      exact this
  clear hA0 hval0 hsz0 hsz
  have hm : maxLen = 9223372036854775807 := rfl
  have walk : Calls Try.prog 6 #[.int .i64 a0, .slice a1 len1 cap1] W fun e w' => e = .returned (.bool true) ∧ Below W.heap.size W w' :=
    law_walk (w := W) (vs := [.int .i64 a0, .slice a1 len1 cap1]) DW.plsOk fi6 (args := [.v (.int .i64 a0), .imr false 3 (z1.map DF.actR) (some cap1)]) (S := KB.IsT) (by simp) (fun _ _ h => h) (fun C hC _ => DSC.script_law C hC a0 (z1.map DF.actR) (DF.actR_all _) (DF.actR_N gd1) (by rw [List.length_map]; omega) (some cap1)) (by simp only [DenL]; exact ⟨_, _, rfl, (mk_int (wf_inK w0)), _, _, rfl, g1, rfl⟩)
  refine walk.mono fun e W' ⟨he, bel⟩ => ?_
  subst he
  exact ⟨_, rfl, _, _, _, [], _, [], hW', trodAll_mk1 (shut_bool Try.underlying4 _), (trodAll_cons_mk (shut_int Try.underlying3 w0) (trodAll_cons_mk (Below.trod laidOut (by kernel_rfl) (of_decide_eq_true (by kernel_rfl)) k1 bel lt1) trodAll_mk0)), rfl, bel.frame _, fun h => by cases h⟩
theorem over : Rows.diskScriptRow.holds Try.pinned (OpenSpec.ofChange Rows.diskScriptSpec) :=
  OpenClaim.holds_of_wide 6 Try.f6 rfl rfl rfl rfl rfl rfl rfl ⟨rfl, rfl, rfl, rfl, rfl⟩ rfl rfl rfl rfl rfl (by kernel_rfl) Try.func6 (by kernel_rfl)
    (of_decide_eq_true (by kernel_rfl)) (by unfold Func.isWrapper; first | (rw [if_pos (by decide +kernel)]; kernel_rfl) | (rw [if_neg (by decide +kernel)]; exact ⟨rfl, rfl⟩))
    (fun os started H enc _ => lifted os started H enc)
theorem proved : Rows.DiskScriptSaid := over
#print axioms proved
end Go.Proofs.Ytmdepmhamefheaa.DiskScript
namespace Go.Proofs.Ytmdepmhamefheaa
/-- The row, under a short name, for the claim. -/
theorem diskScript_holds : Rows.DiskScriptSaid := DiskScript.proved
end Go.Proofs.Ytmdepmhamefheaa
