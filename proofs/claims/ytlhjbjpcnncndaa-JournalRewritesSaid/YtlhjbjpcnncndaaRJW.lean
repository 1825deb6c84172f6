/- The row of the law JournalRewrites, out of the walk of its function: no condition beside the statement. -/
import Derived.Test.YtlhjbjpcnncndaaRows
import Derived.Test.YtlhjbjpcnncndaaJRR
import Derived.Test.YtlhjbjpcnncndaaSe
import Derived.WalkKit
import Derived.ProofKit
import Derived.OpenShut
import Derived.ShutString
import Derived.ChangeOld
import Derived.Below
import Derived.SizedLaws
import Derived.Carry
set_option linter.unusedSimpArgs false
set_option linter.unusedVariables false
namespace Go.Proofs.Ytlhjbjpcnncndaa.JournalRewrites
open Go.ChangeShapes Go.WideShapes Go.ChangeAt Go.RowKit Go.SY Go
theorem own : ownKnob Try.prog.godebug = none := by kernel_rfl
theorem laidOut : laidOutB Try.prog = true := by kernel_rfl
set_option maxRecDepth 100000 in
set_option maxHeartbeats 4000000 in
theorem lifted (os : Os) (started : os.Started) (H : Type) (enc : TypeId × Value → H) :
    ReturnsInHanded {} Try.checked os 6 .any (Rows.journalRewritesSpec.pre6 enc Try.prog Try.f6 Rows.journalRewritesRow.domain false) (Rows.journalRewritesSpec.post enc Try.prog Try.f6 false true false false) := by
  refine returnsInHanded_of_change_sized (C := Try.checked) own started (by kernel_rfl) Try.func6
    (ChangeSpec.witness6 (enc := enc) (C := Try.checked) false ⟨#[], #[.slice none 0 0, .slice none 0 0, .int .i64 0, .int .i64 0, .int .i64 0], []⟩ 8 (by kernel_rfl) (by kernel_rfl) (by kernel_rfl) (by kernel_rfl)) ?_
  intro W base args ds gs before hval0 hW hcnd hsz0 _
  have hsz : (DataW.weightsEach Try.prog (Try.f6.params.toList ++ Rows.journalRewritesSpec.plain.varTypes Try.prog) (ds ++ gs)).all (· ≤ reachBytes) = true := hsz0
  have hval : ∀ (j : Nat) t v, Try.f6.params[j]? = some t → args[j]? = some v → Value.okWide Try.prog W .any base t v := hval0
  have hW' := hW
  obtain ⟨p, q, hA0, hV, rfl, hfz, hnd⟩ := hW
  have hA : DataW.TrodAll enc Try.prog W 0 (fun _ => true) true Try.f6.params.toList args.toList ds p := hA0
  rw [Try.params6] at hA hval hsz
  obtain ⟨v0, vs0, d0, ds0, p0, q0, hargs, rfl, rfl, h0, r0⟩ := trodAll_cons hA
  obtain ⟨v1, vs1, d1, ds1, p1, q1, rfl, rfl, rfl, h1, r1⟩ := trodAll_cons r0
  obtain ⟨v2, vs2, d2, ds2, p2, q2, rfl, rfl, rfl, h2, r2⟩ := trodAll_cons r1
  obtain ⟨v3, vs3, d3, ds3, p3, q3, rfl, rfl, rfl, h3, r3⟩ := trodAll_cons r2
  obtain ⟨v4, vs4, d4, ds4, p4, q4, rfl, rfl, rfl, h4, r4⟩ := trodAll_cons r3
  obtain ⟨rfl, rfl, rfl⟩ := trodAll_nil r4
  obtain rfl : args = #[v0, v1, v2, v3, v4] := by cases args; simp_all
  obtain ⟨rfl, rfl⟩ := trodVars_none hV
  obtain ⟨a0, len0, cap0, rfl⟩ := okWide_slice Try.underlying26 (hval 0 26 v0 rfl rfl)
  have k0 := h0
  have lt0 : ∀ x ∈ p0, x.block < W.heap.size := by obtain ⟨m, hm⟩ := k0; exact DataW.trod_lt m _ _ _ hm
  obtain ⟨z0, t0, n0, m0, gd0, g0, s0⟩ := slice_in (pl := plOf pls) Try.underlying26 (by rw [show Try.prog.cellsOf 22 = 1 by kernel_rfl]; decide) (el_one (by kernel_rfl) (one_nums Try.underlying22 Try.underlying5 (by kernel_rfl))) h0
  rw [show Try.prog.cellsOf 22 = 1 by kernel_rfl] at g0
  have y0 : cap0 * 24 ≤ 140737488351232 := by
    rcases s0 with rfl | ⟨us, vs, rfl, hab⟩
    · simp
    · have := sized_slice hsz (j := 0) (t := 26) rfl rfl Try.underlying26
      rw [hab, show Try.prog.bytesOf 22 = 24 by kernel_rfl] at this
      exact this
  obtain ⟨a1, len1, cap1, rfl⟩ := okWide_slice Try.underlying26 (hval 1 26 v1 rfl rfl)
  have k1 := h1
  have lt1 : ∀ x ∈ p1, x.block < W.heap.size := by obtain ⟨m, hm⟩ := k1; exact DataW.trod_lt m _ _ _ hm
  obtain ⟨z1, t1, n1, m1, gd1, g1, s1⟩ := slice_in (pl := plOf pls) Try.underlying26 (by rw [show Try.prog.cellsOf 22 = 1 by kernel_rfl]; decide) (el_one (by kernel_rfl) (one_nums Try.underlying22 Try.underlying5 (by kernel_rfl))) h1
  rw [show Try.prog.cellsOf 22 = 1 by kernel_rfl] at g1
  have y1 : cap1 * 24 ≤ 140737488351232 := by
    rcases s1 with rfl | ⟨us, vs, rfl, hab⟩
    · simp
    · have := sized_slice hsz (j := 1) (t := 26) rfl rfl Try.underlying26
      rw [hab, show Try.prog.bytesOf 22 = 24 by kernel_rfl] at this
      exact this
  obtain ⟨a2, rfl, rfl, rfl, w2⟩ := open_int Try.underlying3 (hval 2 3 v2 rfl rfl) h2
  obtain ⟨a3, rfl, rfl, rfl, w3⟩ := open_int Try.underlying3 (hval 3 3 v3 rfl rfl) h3
  obtain ⟨a4, rfl, rfl, rfl, w4⟩ := open_int Try.underlying3 (hval 4 3 v4 rfl rfl) h4
  clear hA0 hval0 hsz0 hsz
  have hm : maxLen = 9223372036854775807 := rfl
  have walk : Calls Try.prog 6 #[.slice a0 len0 cap0, .slice a1 len1 cap1, .int .i64 a2, .int .i64 a3, .int .i64 a4] W fun e w' => e = .returned (.bool true) ∧ Below W.heap.size W w' :=
    law_walk (w := W) (vs := [.slice a0 len0 cap0, .slice a1 len1 cap1, .int .i64 a2, .int .i64 a3, .int .i64 a4]) JC.plsOk fi6 (S := JC.IsT) (by simp) (fun _ _ h => h) (fun C hC _ => JRW.rw_law C hC (z0.map rwC) (rwC_all _) (rwC_ok gd0) (some cap0) (z1.map rwC) (rwC_all _) (rwC_ok gd1) (some cap1) a2 a3 a4) (by simp only [DenL]; exact ⟨_, _, rfl, g0, _, _, rfl, g1, _, _, rfl, (mk_int (wf_inK w2)), _, _, rfl, (mk_int (wf_inK w3)), _, _, rfl, (mk_int (wf_inK w4)), rfl⟩)
  refine walk.mono fun e W' ⟨he, bel⟩ => ?_
  subst he
  exact ⟨_, rfl, _, _, _, [], _, [], hW', trodAll_mk1 (shut_bool Try.underlying4 _), (trodAll_cons_mk (Below.trod laidOut (by kernel_rfl) (of_decide_eq_true (by kernel_rfl)) k0 bel lt0) (trodAll_cons_mk (Below.trod laidOut (by kernel_rfl) (of_decide_eq_true (by kernel_rfl)) k1 bel lt1) (trodAll_cons_mk (shut_int Try.underlying3 w2) (trodAll_cons_mk (shut_int Try.underlying3 w3) (trodAll_cons_mk (shut_int Try.underlying3 w4) trodAll_mk0))))), rfl, bel.frame _, fun h => by cases h⟩
theorem over : Rows.journalRewritesRow.holds Try.pinned (OpenSpec.ofChange Rows.journalRewritesSpec) :=
  OpenClaim.holds_of_wide 6 Try.f6 rfl rfl rfl rfl rfl rfl rfl ⟨rfl, rfl, rfl, rfl, rfl⟩ rfl rfl rfl rfl rfl (by kernel_rfl) Try.func6 (by kernel_rfl)
    (of_decide_eq_true (by kernel_rfl)) (by unfold Func.isWrapper; first | (rw [if_pos (by decide +kernel)]; kernel_rfl) | (rw [if_neg (by decide +kernel)]; exact ⟨rfl, rfl⟩))
    (fun os started H enc _ => lifted os started H enc)
theorem proved : Rows.JournalRewritesSaid := over
#print axioms proved
end Go.Proofs.Ytlhjbjpcnncndaa.JournalRewrites
namespace Go.Proofs.Ytlhjbjpcnncndaa
theorem journalRewrites_holds : Rows.JournalRewritesSaid := JournalRewrites.proved
end Go.Proofs.Ytlhjbjpcnncndaa
