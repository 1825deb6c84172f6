/- The row of the law GossipOften, out of the walk of its function: no condition beside the statement. -/
import Derived.Test.YtfnnmkjlokjkhaaRows
import Derived.Test.YtfnnmkjlokjkhaaOC
import Derived.Test.YtfnnmkjlokjkhaaSe
import Derived.WalkKit
import Derived.ProofKit
import Derived.OpenShut
import Derived.ShutString
import Derived.ChangeOld
import Derived.Below
import Derived.SizedLaws
import Derived.Carry
set_option linter.unusedSimpArgs false
set_option linter.unusedVariables false
namespace Go.Proofs.Ytfnnmkjlokjkhaa.GossipOften
open Go.ChangeShapes Go.WideShapes Go.ChangeAt Go.RowKit Go.SY Go
theorem own : ownKnob Try.prog.godebug = none := by kernel_rfl
theorem laidOut : laidOutB Try.prog = true := by kernel_rfl
set_option maxRecDepth 100000 in
set_option maxHeartbeats 4000000 in
theorem lifted (os : Os) (started : os.Started) (H : Type) (enc : TypeId × Value → H) :
    ReturnsInHanded {} Try.checked os 6 .any (Rows.gossipOftenSpec.pre6 enc Try.prog Try.f6 Rows.gossipOftenRow.domain false) (Rows.gossipOftenSpec.post enc Try.prog Try.f6 false true false false) := by
  refine returnsInHanded_of_change_sized (C := Try.checked) own started (by kernel_rfl) Try.func6
    (ChangeSpec.witness6 (enc := enc) (C := Try.checked) false ⟨#[], #[.int .i64 0, .slice none 0 0, .slice none 0 0], []⟩ 8 (by kernel_rfl) (by kernel_rfl) (by kernel_rfl) (by kernel_rfl)) ?_
  intro W base args ds gs before hval0 hW hcnd hsz0 _
  have hsz : (DataW.weightsEach Try.prog (Try.f6.params.toList ++ Rows.gossipOftenSpec.plain.varTypes Try.prog) (ds ++ gs)).all (· ≤ reachBytes) = true := hsz0
  have hval : ∀ (j : Nat) t v, Try.f6.params[j]? = some t → args[j]? = some v → Value.okWide Try.prog W .any base t v := hval0
  have hW' := hW
  obtain ⟨p, q, hA0, hV, rfl, hfz, hnd⟩ := hW
  have hA : DataW.TrodAll enc Try.prog W 0 (fun _ => true) true Try.f6.params.toList args.toList ds p := hA0
  rw [Try.params6] at hA hval hsz
  obtain ⟨v0, vs0, d0, ds0, p0, q0, hargs, rfl, rfl, h0, r0⟩ := trodAll_cons hA
  obtain ⟨v1, vs1, d1, ds1, p1, q1, rfl, rfl, rfl, h1, r1⟩ := trodAll_cons r0
  obtain ⟨v2, vs2, d2, ds2, p2, q2, rfl, rfl, rfl, h2, r2⟩ := trodAll_cons r1
  obtain ⟨rfl, rfl, rfl⟩ := trodAll_nil r2
  obtain rfl : args = #[v0, v1, v2] := by cases args; simp_all
  obtain ⟨rfl, rfl⟩ := trodVars_none hV
  obtain ⟨a0, rfl, rfl, rfl, w0⟩ := open_int Try.underlying3 (hval 0 3 v0 rfl rfl) h0
  obtain ⟨a1, len1, cap1, rfl⟩ := okWide_slice Try.underlying52 (hval 1 52 v1 rfl rfl)
  have k1 := h1
  have lt1 : ∀ x ∈ p1, x.block < W.heap.size := by obtain ⟨m, hm⟩ := k1; exact DataW.trod_lt m _ _ _ hm
  obtain ⟨z1, w1, y1⟩ := row_in hsz 1 (t := 52) rfl rfl Try.underlying52 Try.underlying3 (by kernel_rfl) h1
  rw [show Try.prog.bytesOf 3 = 8 by kernel_rfl] at y1
  have g1 := w1.den (P := Try.prog) (pl := plOf pls)
  have n1 := w1.le
  have t1 : (z1.take len1).length = len1 := by rw [List.length_take]; omega
  obtain ⟨a2, len2, cap2, rfl⟩ := okWide_slice Try.underlying52 (hval 2 52 v2 rfl rfl)
  have k2 := h2
  have lt2 : ∀ x ∈ p2, x.block < W.heap.size := by obtain ⟨m, hm⟩ := k2; exact DataW.trod_lt m _ _ _ hm
  obtain ⟨z2, w2, y2⟩ := row_in hsz 2 (t := 52) rfl rfl Try.underlying52 Try.underlying3 (by kernel_rfl) h2
  rw [show Try.prog.bytesOf 3 = 8 by kernel_rfl] at y2
  have g2 := w2.den (P := Try.prog) (pl := plOf pls)
  have n2 := w2.le
  have t2 : (z2.take len2).length = len2 := by rw [List.length_take]; omega
  clear hA0 hval0 hsz0 hsz
  have hm : maxLen = 9223372036854775807 := rfl
  have walk : Calls Try.prog 6 #[.int .i64 a0, .slice a1 len1 cap1, .slice a2 len2 cap2] W fun e w' => e = .returned (.bool true) ∧ Below W.heap.size W w' :=
    law_walk (w := W) (vs := [.int .i64 a0, .slice a1 len1 cap1, .slice a2 len2 cap2]) plsOk fi6 (args := [.v (.int .i64 a0), .imn false .i64 (z1.take len1) (some cap1), .imn false .i64 (z2.take len2) (some cap2)]) (S := IsT) (by simp) (fun _ _ h => h) (fun C hC _ => GS.often_walk C hC a0 _ _ _ _) (by simp only [DenL]; exact ⟨_, _, rfl, (mk_int (wf_inK w0)), _, _, rfl, g1, _, _, rfl, g2, rfl⟩)
  refine walk.mono fun e W' ⟨he, bel⟩ => ?_
  subst he
  exact ⟨_, rfl, _, _, _, [], _, [], hW', trodAll_mk1 (shut_bool Try.underlying4 _), (trodAll_cons_mk (shut_int Try.underlying3 w0) (trodAll_cons_mk (Below.trod laidOut (by kernel_rfl) (of_decide_eq_true (by kernel_rfl)) k1 bel lt1) (trodAll_cons_mk (Below.trod laidOut (by kernel_rfl) (of_decide_eq_true (by kernel_rfl)) k2 bel lt2) trodAll_mk0))), rfl, bel.frame _, fun h => by cases h⟩
theorem over : Rows.gossipOftenRow.holds Try.pinned (OpenSpec.ofChange Rows.gossipOftenSpec) :=
  OpenClaim.holds_of_wide 6 Try.f6 rfl rfl rfl rfl rfl rfl rfl ⟨rfl, rfl, rfl, rfl, rfl⟩ rfl rfl rfl rfl rfl (by kernel_rfl) Try.func6 (by kernel_rfl)
    (of_decide_eq_true (by kernel_rfl)) (by unfold Func.isWrapper; first | (rw [if_pos (by decide +kernel)]; kernel_rfl) | (rw [if_neg (by decide +kernel)]; exact ⟨rfl, rfl⟩))
    (fun os started H enc _ => lifted os started H enc)
theorem proved : Rows.GossipOftenSaid := over
#print axioms proved
end Go.Proofs.Ytfnnmkjlokjkhaa.GossipOften
namespace Go.Proofs.Ytfnnmkjlokjkhaa
theorem gossipOften_holds : Rows.GossipOftenSaid := GossipOften.proved
end Go.Proofs.Ytfnnmkjlokjkhaa
