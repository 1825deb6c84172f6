/- The row of the law JournalCrash, out of the walk of its function: no condition beside the statement. -/
import Derived.Test.YtlhjbjpcnncndaaRows
import Derived.Test.YtlhjbjpcnncndaaJCR
import Derived.Test.YtlhjbjpcnncndaaSe
import Derived.WalkKit
import Derived.ProofKit
import Derived.OpenShut
import Derived.ShutString
import Derived.ChangeOld
import Derived.Below
import Derived.SizedLaws
import Derived.Carry
set_option linter.unusedSimpArgs false
set_option linter.unusedVariables false
namespace Go.Proofs.Ytlhjbjpcnncndaa.JournalCrash
open Go.ChangeShapes Go.WideShapes Go.ChangeAt Go.RowKit Go.SY Go
theorem own : ownKnob Try.prog.godebug = none := by kernel_rfl
theorem laidOut : laidOutB Try.prog = true := by kernel_rfl
set_option maxRecDepth 100000 in
set_option maxHeartbeats 4000000 in
theorem lifted (os : Os) (started : os.Started) (H : Type) (enc : TypeId × Value → H) :
    ReturnsInHanded {} Try.checked os 5 .any (Rows.journalCrashSpec.pre6 enc Try.prog Try.f5 Rows.journalCrashRow.domain false) (Rows.journalCrashSpec.post enc Try.prog Try.f5 false true false false) := by
  refine returnsInHanded_of_change_sized (C := Try.checked) own started (by kernel_rfl) Try.func5
    (ChangeSpec.witness6 (enc := enc) (C := Try.checked) false ⟨#[], #[.slice none 0 0, .int .i64 0, .int .i64 0], []⟩ 8 (by kernel_rfl) (by kernel_rfl) (by kernel_rfl) (by kernel_rfl)) ?_
  intro W base args ds gs before hval0 hW hcnd hsz0 _
  have hsz : (DataW.weightsEach Try.prog (Try.f5.params.toList ++ Rows.journalCrashSpec.plain.varTypes Try.prog) (ds ++ gs)).all (· ≤ reachBytes) = true := hsz0
  have hval : ∀ (j : Nat) t v, Try.f5.params[j]? = some t → args[j]? = some v → Value.okWide Try.prog W .any base t v := hval0
  have hW' := hW
  obtain ⟨p, q, hA0, hV, rfl, hfz, hnd⟩ := hW
  have hA : DataW.TrodAll enc Try.prog W 0 (fun _ => true) true Try.f5.params.toList args.toList ds p := hA0
  rw [Try.params5] at hA hval hsz
  obtain ⟨v0, vs0, d0, ds0, p0, q0, hargs, rfl, rfl, h0, r0⟩ := trodAll_cons hA
  obtain ⟨v1, vs1, d1, ds1, p1, q1, rfl, rfl, rfl, h1, r1⟩ := trodAll_cons r0
  obtain ⟨v2, vs2, d2, ds2, p2, q2, rfl, rfl, rfl, h2, r2⟩ := trodAll_cons r1
  obtain ⟨rfl, rfl, rfl⟩ := trodAll_nil r2
  obtain rfl : args = #[v0, v1, v2] := by cases args; simp_all
  obtain ⟨rfl, rfl⟩ := trodVars_none hV
  obtain ⟨a0, len0, cap0, rfl⟩ := okWide_slice Try.underlying26 (hval 0 26 v0 rfl rfl)
  have k0 := h0
  have lt0 : ∀ x ∈ p0, x.block < W.heap.size := by obtain ⟨m, hm⟩ := k0; exact DataW.trod_lt m _ _ _ hm
  obtain ⟨z0, t0, n0, m0, gd0, g0, s0⟩ := slice_in (pl := plOf pls) Try.underlying26 (by rw [show Try.prog.cellsOf 22 = 1 by kernel_rfl]; decide) (el_one (by kernel_rfl) (one_nums Try.underlying22 Try.underlying5 (by kernel_rfl))) h0
  rw [show Try.prog.cellsOf 22 = 1 by kernel_rfl] at g0
  have y0 : cap0 * 24 ≤ 140737488351232 := by
    rcases s0 with rfl | ⟨us, vs, rfl, hab⟩
    · simp
    · have := sized_slice hsz (j := 0) (t := 26) rfl rfl Try.underlying26
      rw [hab, show Try.prog.bytesOf 22 = 24 by kernel_rfl] at this
      exact this
  obtain ⟨a1, rfl, rfl, rfl, w1⟩ := open_int Try.underlying3 (hval 1 3 v1 rfl rfl) h1
  obtain ⟨a2, rfl, rfl, rfl, w2⟩ := open_int Try.underlying3 (hval 2 3 v2 rfl rfl) h2
  clear hA0 hval0 hsz0 hsz
  have hm : maxLen = 9223372036854775807 := rfl
  have walk : Calls Try.prog 5 #[.slice a0 len0 cap0, .int .i64 a1, .int .i64 a2] W fun e w' => e = .returned (.bool true) ∧ Below W.heap.size W w' :=
    law_walk (w := W) (vs := [.slice a0 len0 cap0, .int .i64 a1, .int .i64 a2]) JC.plsOk fi5 (S := JC.IsT) (by simp) (fun _ _ h => h) (fun C hC _ => JC.crash_law C hC (z0.map rwC) (rwC_all _) (rwC_ok gd0) (some cap0) a1 a2) (by simp only [DenL]; exact ⟨_, _, rfl, g0, _, _, rfl, (mk_int (wf_inK w1)), _, _, rfl, (mk_int (wf_inK w2)), rfl⟩)
  refine walk.mono fun e W' ⟨he, bel⟩ => ?_
  subst he
  exact ⟨_, rfl, _, _, _, [], _, [], hW', trodAll_mk1 (shut_bool Try.underlying4 _), (trodAll_cons_mk (Below.trod laidOut (by kernel_rfl) (of_decide_eq_true (by kernel_rfl)) k0 bel lt0) (trodAll_cons_mk (shut_int Try.underlying3 w1) (trodAll_cons_mk (shut_int Try.underlying3 w2) trodAll_mk0))), rfl, bel.frame _, fun h => by cases h⟩
theorem over : Rows.journalCrashRow.holds Try.pinned (OpenSpec.ofChange Rows.journalCrashSpec) :=
  OpenClaim.holds_of_wide 5 Try.f5 rfl rfl rfl rfl rfl rfl rfl ⟨rfl, rfl, rfl, rfl, rfl⟩ rfl rfl rfl rfl rfl (by kernel_rfl) Try.func5 (by kernel_rfl)
    (of_decide_eq_true (by kernel_rfl)) (by unfold Func.isWrapper; first | (rw [if_pos (by decide +kernel)]; kernel_rfl) | (rw [if_neg (by decide +kernel)]; exact ⟨rfl, rfl⟩))
    (fun os started H enc _ => lifted os started H enc)
theorem proved : Rows.JournalCrashSaid := over
#print axioms proved
end Go.Proofs.Ytlhjbjpcnncndaa.JournalCrash
namespace Go.Proofs.Ytlhjbjpcnncndaa
theorem journalCrash_holds : Rows.JournalCrashSaid := JournalCrash.proved
end Go.Proofs.Ytlhjbjpcnncndaa
