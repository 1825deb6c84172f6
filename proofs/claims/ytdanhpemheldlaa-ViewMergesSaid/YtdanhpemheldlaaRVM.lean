/- The row of the law ViewMerges, out of the walk of its function: no condition beside the statement. -/
import Derived.Test.YtdanhpemheldlaaRows
import Derived.Test.YtdanhpemheldlaaVR5
import Derived.Test.YtdanhpemheldlaaSm
import Derived.WalkKit
import Derived.ProofKit
import Derived.OpenShut
import Derived.ShutString
import Derived.ChangeOld
import Derived.Below
import Derived.SizedLaws
import Derived.Carry
import Derived.Test.YtdanhpemheldlaaSy45
set_option linter.unusedSimpArgs false
set_option linter.unusedVariables false
namespace Go.Proofs.Ytdanhpemheldlaa.ViewMerges
open Go.ChangeShapes Go.WideShapes Go.ChangeAt Go.RowKit Go.SY Go
theorem own : ownKnob Try.prog.godebug = none := by kernel_rfl
theorem laidOut : laidOutB Try.prog = true := by kernel_rfl
set_option maxRecDepth 100000 in
set_option maxHeartbeats 4000000 in
theorem lifted (os : Os) (started : os.Started) (H : Type) (enc : TypeId × Value → H) :
    ReturnsInHanded {} Try.checked os 3 .any (Rows.viewMergesSpec.pre6 enc Try.prog Try.f3 Rows.viewMergesRow.domain false) (Rows.viewMergesSpec.post enc Try.prog Try.f3 false true false false) := by
  refine returnsInHanded_of_change_sized (C := Try.checked) own started (by kernel_rfl) Try.func3
    (ChangeSpec.witness6 (enc := enc) (C := Try.checked) false ⟨#[], #[.slice none 0 0, .slice none 0 0], []⟩ 8 (by kernel_rfl) (by kernel_rfl) (by kernel_rfl) (by kernel_rfl)) ?_
  intro W base args ds gs before hval0 hW hcnd hsz0 _
  have hsz : (DataW.weightsEach Try.prog (Try.f3.params.toList ++ Rows.viewMergesSpec.plain.varTypes Try.prog) (ds ++ gs)).all (· ≤ reachBytes) = true := hsz0
  have hval : ∀ (j : Nat) t v, Try.f3.params[j]? = some t → args[j]? = some v → Value.okWide Try.prog W .any base t v := hval0
  have hW' := hW
  obtain ⟨p, q, hA0, hV, rfl, hfz, hnd⟩ := hW
  have hA : DataW.TrodAll enc Try.prog W 0 (fun _ => true) true Try.f3.params.toList args.toList ds p := hA0
  rw [Try.params3] at hA hval hsz
  obtain ⟨v0, vs0, d0, ds0, p0, q0, hargs, rfl, rfl, h0, r0⟩ := trodAll_cons hA
  obtain ⟨v1, vs1, d1, ds1, p1, q1, rfl, rfl, rfl, h1, r1⟩ := trodAll_cons r0
  obtain ⟨rfl, rfl, rfl⟩ := trodAll_nil r1
  obtain rfl : args = #[v0, v1] := by cases args; simp_all
  obtain ⟨rfl, rfl⟩ := trodVars_none hV
  obtain ⟨a0, len0, cap0, rfl⟩ := okWide_slice Try.underlying22 (hval 0 22 v0 rfl rfl)
  have k0 := h0
  have lt0 : ∀ x ∈ p0, x.block < W.heap.size := by obtain ⟨m, hm⟩ := k0; exact DataW.trod_lt m _ _ _ hm
  obtain ⟨z0, t0, n0, m0, gd0, g0, s0⟩ := slice_in (pl := plOf pls) Try.underlying22 (by rw [show Try.prog.cellsOf 29 = 3 by kernel_rfl]; decide) (el_struct3 Try.underlying29 (by kernel_rfl) (by kernel_rfl) (one_int Try.underlying3) (one_int Try.underlying3) (one_int Try.underlying3)) h0
  rw [show Try.prog.cellsOf 29 = 3 by kernel_rfl] at g0
  have y0 : cap0 * 24 ≤ 140737488351232 := by
    rcases s0 with rfl | ⟨us, vs, rfl, hab⟩
    · simp
    · have := sized_slice hsz (j := 0) (t := 22) rfl rfl Try.underlying22
      rw [hab, show Try.prog.bytesOf 29 = 24 by kernel_rfl] at this
      exact this
  obtain ⟨a1, len1, cap1, rfl⟩ := okWide_slice Try.underlying22 (hval 1 22 v1 rfl rfl)
  have k1 := h1
  have lt1 : ∀ x ∈ p1, x.block < W.heap.size := by obtain ⟨m, hm⟩ := k1; exact DataW.trod_lt m _ _ _ hm
  obtain ⟨z1, t1, n1, m1, gd1, g1, s1⟩ := slice_in (pl := plOf pls) Try.underlying22 (by rw [show Try.prog.cellsOf 29 = 3 by kernel_rfl]; decide) (el_struct3 Try.underlying29 (by kernel_rfl) (by kernel_rfl) (one_int Try.underlying3) (one_int Try.underlying3) (one_int Try.underlying3)) h1
  rw [show Try.prog.cellsOf 29 = 3 by kernel_rfl] at g1
  have y1 : cap1 * 24 ≤ 140737488351232 := by
    rcases s1 with rfl | ⟨us, vs, rfl, hab⟩
    · simp
    · have := sized_slice hsz (j := 1) (t := 22) rfl rfl Try.underlying22
      rw [hab, show Try.prog.bytesOf 29 = 24 by kernel_rfl] at this
      exact this
  clear hA0 hval0 hsz0 hsz
  have hm : maxLen = 9223372036854775807 := rfl
  have walk : Calls Try.prog 3 #[.slice a0 len0 cap0, .slice a1 len1 cap1] W fun e w' => e = .returned (.bool true) ∧ Below W.heap.size W w' :=
    law_walk (w := W) (vs := [.slice a0 len0 cap0, .slice a1 len1 cap1]) plsOk fi3 (S := IsT) (by simp) (fun _ _ h => h) (fun C hC _ => merges_law C hC (z0.map mrow) (z1.map mrow) (rows_all z0) (rows_all z1) (some cap0) (some cap1) (by rw [List.length_map, t0]; omega) (by rw [List.length_map, t1]; omega)) (by simp only [DenL]; exact ⟨_, _, rfl, g0, _, _, rfl, g1, rfl⟩)
  refine walk.mono fun e W' ⟨he, bel⟩ => ?_
  subst he
  exact ⟨_, rfl, _, _, _, [], _, [], hW', trodAll_mk1 (shut_bool Try.underlying4 _), (trodAll_cons_mk (Below.trod laidOut (by kernel_rfl) (of_decide_eq_true (by kernel_rfl)) k0 bel lt0) (trodAll_cons_mk (Below.trod laidOut (by kernel_rfl) (of_decide_eq_true (by kernel_rfl)) k1 bel lt1) trodAll_mk0)), rfl, bel.frame _, fun h => by cases h⟩
theorem over : Rows.viewMergesRow.holds Try.pinned (OpenSpec.ofChange Rows.viewMergesSpec) :=
  OpenClaim.holds_of_wide 3 Try.f3 rfl rfl rfl rfl rfl rfl rfl ⟨rfl, rfl, rfl, rfl, rfl⟩ rfl rfl rfl rfl rfl (by kernel_rfl) Try.func3 (by kernel_rfl)
    (of_decide_eq_true (by kernel_rfl)) (by unfold Func.isWrapper; first | (rw [if_pos (by decide +kernel)]; kernel_rfl) | (rw [if_neg (by decide +kernel)]; exact ⟨rfl, rfl⟩))
    (fun os started H enc _ => lifted os started H enc)
theorem proved : Rows.ViewMergesSaid := over
#print axioms proved
end Go.Proofs.Ytdanhpemheldlaa.ViewMerges
namespace Go.Proofs.Ytdanhpemheldlaa
/-- The row, under a short name, for the claim. -/
theorem viewMerges_holds : Rows.ViewMergesSaid := ViewMerges.proved
end Go.Proofs.Ytdanhpemheldlaa
