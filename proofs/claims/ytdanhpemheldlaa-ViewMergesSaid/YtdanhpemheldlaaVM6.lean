/- Views: Merge, its word. -/
import Derived.Test.YtdanhpemheldlaaVM5
set_option linter.unusedSimpArgs false
set_option linter.unusedVariables false
-- FUNCTIONS 10 33 30
namespace Go.Proofs.Ytdanhpemheldlaa
open Go Go.SY
set_option maxRecDepth 100000 in
set_option maxHeartbeats 4000000 in
theorem mrg_run (C : Ctx) (hC : C.β.b = []) (t u : Bool) (vs ws : List (List AV)) (c d : Option Nat) (hvm : vs.all isM = true) (hwm : ws.all isM = true) (hx : vs.length ≤ 200000) (hx2 : ws.length ≤ 200000) :
    Rch Try.prog (plOf pls) C (conf0 10 ⟨64, [.tmp 4, .tmp 5, .tmp 6], code10⟩ [.imr t 3 vs c, .imr u 3 ws d] []) (Res (mrgV vs ws) (mrgL vs ws)) := by
  have hf := isM_flat hvm
  have hg := isM_flat hwm
  by_cases hv : vOk vs 0 = true
  case neg =>
    have e : vchk vs = 2 := if_neg hv
    have hb : ¬ mrgB vs ws = true := by rw [mrgB, Bool.eq_false_iff.2 hv, Bool.false_and]; decide
    rw [mrgV, if_neg hb, mrgL, if_neg hb]
    refine ExQ_ok [] 2000 plsOk kG_ok ?_
    simp only [conf0]
    (try rw [exh]); simp (maxSteps := 4000000) only [kG, ktW, kG0, sV, hf.lv, hvm, decide_true, e, stops, inK, stepF, frsF, frF, itemF, codeF, condF, opsF, opsW, opF, callO, stepS, wtS, gdst, gdl, sopF, pv, callF, calleeS, p_move, p_assign, p_pick, p_binOp, SY.get, SY.put, SY.ev, SY.mk, SY.ini, bopInt, bop, pickAV, leaveS, retS, killL, isDefs, resS, resAll, tup1, exq_go, exq_t, ↓reduceIte, Nat.reduceLT, Nat.reduceEqDiff, Nat.reduceAdd, Nat.reduceSub, Bool.and_true, Bool.true_and, Bool.not_false, reduceCtorEq, true_and, List.map_cons, List.map_nil, Bool.and_self, List.nil_append, List.append_nil, Nat.zero_add, Int.reduceEq, Int.reduceLE, decide_true, ktOf, conK, alive, lndL, lnd, lvB, tB_tt, okBls, shB, ren, not_false_eq_true, ti24, regAt, fi10, body10, Try.f10, ↓exq_cd cd_code10, ↓exq_cd cd_c10_1, ↓exq_cd cd_c10_2, ↓exq_cd cd_c10_3, ↓exq_cd cd_c10_5, ↓exq_cd cd_c10_6, ↓exq_cd cd_c10_7, ↓exq_cd cd_c10_9, r10_1, r10_5, r10_9]
    repeat (refine And.intro (a := (_ = true)) (by first | (simp; done) | (simp; omega)) ?_)
    exact ⟨[], List.nodup_nil, rfl, rfl, fun l c h => by simp at h⟩
  have e0 : vchk vs = 0 := if_pos hv
  by_cases hix : 0 ≤ idxB ws 0
  · have hb : ¬ mrgB vs ws = true := by rw [mrgB, hv, Bool.true_and, idxB_all]; exact fun h => h hix
    rw [mrgV, if_neg hb, mrgL, if_neg hb]
    refine ExQ_ok [] 2000 plsOk kG_ok ?_
    simp only [conf0]
    (try rw [exh]); simp (maxSteps := 4000000) only [kG, ktW, kG0, sV, sIdxM, hf.lv, hg.lv, hvm, hwm, decide_true, e0, hix, stops, inK, stepF, frsF, frF, itemF, codeF, condF, opsF, opsW, opF, callO, stepS, wtS, gdst, gdl, sopF, pv, callF, calleeS, p_move, p_assign, p_pick, p_binOp, SY.get, SY.put, SY.ev, SY.mk, SY.ini, bopInt, bop, pickAV, enterS, leaveS, retS, finishS, killL, isDefs, resS, resAll, tup1, exq_go, exq_t, exq_f, ↓reduceIte, Nat.reduceLT, Nat.reduceLeDiff, Nat.reduceEqDiff, Nat.reduceAdd, Nat.reduceSub, Bool.and_true, Bool.true_and, Bool.not_false, List.contains_nil, reduceCtorEq, true_and, List.map_cons, List.map_nil, Bool.and_self, List.length_cons, List.length_nil, List.nil_append, List.append_nil, Nat.zero_add, Int.reduceLE, decide_true, decide_false, ktOf, conK, alive, lndL, lnd, lvB, lvL, tB_tt, okBls, shB, ren, not_true_eq_false, ti3, ti24, regAt, fi10, body10, Try.f10, fi30, body30, Try.f30, ↓exq_cd cd_code10, ↓exq_cd cd_c10_1, ↓exq_cd cd_c10_2, ↓exq_cd cd_c10_3, ↓exq_cd cd_c10_5, ↓exq_cd cd_c10_6, ↓exq_cd cd_c10_7, ↓exq_cd cd_c10_9, ↓exq_cd cd_code30, ↓exq_cd cd_c30_1, ↓exq_cd cd_c30_2, ↓exq_cd cd_c30_3, r10_1, r10_5, r10_9, r30_1, r30_3]
    repeat (refine And.intro (a := (_ = true)) (by first | (simp; done) | (simp; omega)) ?_)
    exact ⟨[], List.nodup_nil, rfl, rfl, fun l c h => by simp at h⟩
  have hall := idxB_all.2 hix
  have hb : mrgB vs ws = true := by rw [mrgB, hv, Bool.true_and]; exact hall
  rw [mrgV, if_pos hb, mrgL, if_pos hb]
  have hw : ∀ r ∈ ws, MemR r ∧ isM r = true := fun r hr => ⟨of_decide_eq_true (List.all_eq_true.1 hall r hr), List.all_eq_true.1 hwm r hr⟩
  have main := mrg_loop C hC t u vs ws c d hvm hwm hx hx2 hv hw
  by_cases hvs : vs = []
  · subst hvs
    refine ExQ_ok [33] 2000 plsOk kG_ok ?_
    simp only [conf0]
    (try rw [exh]); simp (maxSteps := 4000000) only [kG, ktW, kG0, sV, sIdxM, hg.lv, hvm, hwm, decide_true, e0, hix, stops, inK, stepF, frsF, frF, itemF, codeF, condF, opsF, opsW, opF, callO, stepS, wtS, gdst, gdl, sopF, pv, callF, calleeS, p_move, p_assign, p_pick, p_binOp, SY.get, SY.put, SY.ev, SY.mk, SY.ini, bopInt, bop, pickAV, enterS, leaveS, retS, finishS, killL, isDefs, resS, resAll, tup1, exq_go, exq_f, ↓reduceIte, Nat.reduceLT, Nat.reduceLeDiff, Nat.reduceEqDiff, Nat.reduceAdd, Nat.reduceSub, Nat.reduceBEq, Bool.and_true, Bool.true_and, Bool.not_false, List.contains_nil, List.contains_cons, Bool.or_false, reduceCtorEq, true_and, List.map_cons, List.map_nil, Bool.and_self, List.length_cons, List.length_nil, List.nil_append, List.append_nil, Nat.zero_add, Int.reduceLE, decide_true, decide_false, ktOf, conK, alive, lndL, lnd, lvB, lvL, lvR, tB_tt, okBls, shB, ren, not_true_eq_false, ti3, ti24, regAt, body10, Try.f10, fi33, fi30, body30, Try.f30, ↓exq_cd cd_code10, ↓exq_cd cd_c10_1, ↓exq_cd cd_c10_2, ↓exq_cd cd_c10_3, ↓exq_cd cd_c10_5, ↓exq_cd cd_c10_6, ↓exq_cd cd_c10_4, ↓exq_cd cd_c10_10, ↓exq_cd cd_code30, ↓exq_cd cd_c30_1, ↓exq_cd cd_c30_2, ↓exq_cd cd_c30_3, ↓exq_cd cd_code33, r10_1, r10_5, r10_10, r30_1, r30_3]
    repeat (refine And.intro (a := (_ = true)) (by first | (simp; done) | (simp; omega)) ?_)
    refine ExQ_ok [] 8 plsOk kG_ok ?_
    (try rw [exh]); simp (maxSteps := 4000000) only [kG, kG0, stops, stepF, frsF, frF, itemF, codeF, opsF, opsW, opF, wtS, sopF, pv, p_move, p_assign, SY.get, SY.put, SY.ev, SY.mk, exq_zero, exq_go, ↓reduceIte, Nat.reduceLT, Nat.reduceAdd, List.contains_nil, reduceCtorEq, true_and, ktOf, regAt, body33, Try.f33, ↓exq_cd cd_c33_1, ↓exq_cd cd_c33_2, ↓exq_cd cd_c33_3, ↓exq_cd cd_c33_5, r33_1, r33_5]
    repeat (refine And.intro (a := (_ = true)) (by first | (simp; done) | (simp; omega)) ?_)
    refine Rch.eqnilR rfl rfl ti22 rfl rfl fun b => ?_
    cases b with
    | true =>
      refine ExQ_ok [] 2000 plsOk kG_ok ?_
      (try rw [exh]); simp (maxSteps := 4000000) only [kG, kG0, decide_true, stops, inK, stepF, frsF, frF, itemF, codeF, condF, opsF, opsW, opF, stepS, wtS, sopF, pv, bltF, callF, p_move, p_assign, p_len, SY.get, SY.put, SY.ev, SY.mk, leaveS, retS, finishS, killL, isDefs, resS, resAll, tup1, exq_go, exq_t, ↓reduceIte, Nat.reduceLT, Nat.reduceEqDiff, Nat.reduceAdd, reduceCtorEq, true_and, Bool.and_self, Int.reduceLE, decide_true, ktOf, ti22, regAt, body10, Try.f10, fi33, body33, Try.f33, ↓exq_cd cd_c10_11, ↓exq_cd cd_c10_12, ↓exq_cd cd_c10_14, ↓exq_cd cd_c10_15, ↓exq_cd cd_c10_16, ↓exq_cd cd_c33_6, ↓exq_cd cd_c33_7, ↓exq_cd cd_c33_9, r10_14, r33_9]
      repeat (refine And.intro (a := (_ = true)) (by first | (simp; done) | (simp; omega)) ?_)
      refine Rch.nilslR 7 0 3 3 rfl rfl ?_
      refine Rch.loop plsOk ?_
      refine Rch.fit1 hC [0] (tm' := tG t u [] ws c d 0 0) (bl' := [some (.rows 3 [])]) rfl (by decide) rfl ⟨rfl, rfl, rfl, rfl, rfl, rfl, congrArg (fun x => AV.imr u 3 x d) (hg.ren _).symm, rfl, trivial⟩ (tG_lv hf hg ..) ⟨⟨rfl, rfl⟩, trivial⟩ ?_
      exact main
    | false =>
      refine ExQ_ok [] 2000 plsOk kG_ok ?_
      (try rw [exh]); simp (maxSteps := 4000000) only [kG, kG0, decide_true, List.nil_append, List.length_nil, List.append_nil, stops, inK, stepF, frsF, frF, itemF, codeF, condF, opsF, opsW, opF, stepS, wtS, sopF, pv, evq, bltF, callF, quiet, p_move, p_assign, p_len, zerR, roomR, appRR, srcR, dstR, e_buildSlice, e_append, SY.get, SY.put, SY.ev, SY.mk, SY.lvl, wid, wids, fillA, immL, rowsOf, rep, elCt, dstR, srcR, leaveS, retS, finishS, killL, isDefs, resS, resAll, tup1, exq_go, exq_f, ↓reduceIte, Nat.reduceLT, Nat.reduceLeDiff, Nat.reduceEqDiff, Nat.reduceAdd, List.contains_nil, Option.isSome_none, reduceCtorEq, true_and, Bool.false_eq_true, List.map_nil, Bool.and_self, List.length_cons, List.length_nil, List.cons_append, List.nil_append, List.append_nil, Nat.zero_add, Nat.add_zero, Nat.zero_mul, Int.reduceLE, decide_true, ktOf, and_false, ti22, ti29, regAt, body10, Try.f10, fi33, body33, Try.f33, ↓exq_cd cd_c10_11, ↓exq_cd cd_c10_12, ↓exq_cd cd_c10_14, ↓exq_cd cd_c10_15, ↓exq_cd cd_c10_16, ↓exq_cd cd_c33_6, ↓exq_cd cd_c33_4, ↓exq_cd cd_c33_10, r10_14, r33_10]
      repeat (refine And.intro (a := (_ = true)) (by first | (simp; done) | (simp; omega)) ?_)
      refine Rch.loop plsOk ?_
      refine Rch.fit1 hC [1] (tm' := tG t u [] ws c d 0 0) (bl' := [some (.rows 3 [])]) rfl (by decide) rfl ⟨rfl, rfl, rfl, rfl, rfl, rfl, congrArg (fun x => AV.imr u 3 x d) (hg.ren _).symm, rfl, trivial⟩ (tG_lv hf hg ..) ⟨⟨rfl, rfl⟩, trivial⟩ ?_
      exact main
  · have hpos : 0 < vs.length := List.length_pos_iff.2 hvs
    have hpos' : (0 : Int) < vs.length := by omega
    have hvt : vs.take vs.length = vs := List.take_of_length_le (Nat.le_refl _)
    refine ExQ_ok [] 2000 plsOk kG_ok ?_
    simp only [conf0]
    (try rw [exh]); simp (maxSteps := 4000000) only [kG, ktW, kG0, sV, sIdxM, hf.lv, hg.lv, hvm, hwm, decide_true, e0, hix, List.nil_append, stops, inK, stepF, frsF, frF, itemF, codeF, condF, opsF, opsW, opF, callO, stepS, wtS, gdst, gdl, sopF, pv, evq, bltF, callF, calleeS, quiet, p_move, p_assign, p_pick, p_binOp, p_len, zerR, roomR, appRR, srcR, dstR, e_buildSlice, e_append, SY.get, SY.put, SY.ev, SY.mk, SY.lvl, SY.ini, wid, wids, bopInt, bopEq, isSl, bop, pickAV, fillA, immL, rowsOf, rep, elCt, dstR, srcR, enterS, leaveS, retS, finishS, killL, isDefs, resS, resAll, tup1, exq_go, exq_f, ↓reduceIte, Nat.reduceLT, Nat.reduceLeDiff, Nat.reduceEqDiff, Nat.reduceAdd, Nat.reduceSub, Bool.and_true, Bool.true_and, Bool.not_false, List.contains_nil, Option.isSome_none, reduceCtorEq, true_and, Bool.false_eq_true, List.map_cons, List.map_nil, Bool.and_self, List.length_cons, List.length_nil, List.cons_append, List.nil_append, List.append_nil, Nat.zero_add, Nat.add_zero, Nat.zero_mul, Int.reduceLE, decide_true, decide_false, ktOf, conK, alive, lndL, lnd, lvB, lvL, tB_tt, okBls, shB, ren, not_true_eq_false, and_false, ti3, ti22, ti24, ti29, regAt, body10, Try.f10, fi33, body33, Try.f33, fi30, body30, Try.f30, ↓exq_cd cd_code10, ↓exq_cd cd_c10_1, ↓exq_cd cd_c10_2, ↓exq_cd cd_c10_3, ↓exq_cd cd_c10_5, ↓exq_cd cd_c10_6, ↓exq_cd cd_c10_4, ↓exq_cd cd_c10_10, ↓exq_cd cd_c10_11, ↓exq_cd cd_c10_12, ↓exq_cd cd_c10_14, ↓exq_cd cd_c10_15, ↓exq_cd cd_c10_16, ↓exq_cd cd_code30, ↓exq_cd cd_c30_1, ↓exq_cd cd_c30_2, ↓exq_cd cd_c30_3, ↓exq_cd cd_code33, ↓exq_cd cd_c33_1, ↓exq_cd cd_c33_2, ↓exq_cd cd_c33_3, ↓exq_cd cd_c33_5, ↓exq_cd cd_c33_6, ↓exq_cd cd_c33_4, ↓exq_cd cd_c33_10, r10_1, r10_5, r10_10, r10_14, r30_1, r30_3, r33_1, r33_5, r33_10]
    repeat (refine And.intro (a := (_ = true)) (by first | (simp; done) | (simp; omega)) ?_)
    refine Rch.loop plsOk ?_
    refine Rch.fit1 hC [1] (tm' := tG t u vs ws c d vs.length 0) (bl' := [some (.rows 3 vs)]) rfl (by decide) rfl ⟨rfl, rfl, rfl, rfl, rfl, rfl, congrArg (fun x => AV.imr u 3 x d) (hg.ren _).symm, congrArg (fun x => AV.imr t 3 x c) (hf.ren _).symm, trivial⟩ (tG_lv hf hg ..) ⟨⟨by rw [renRows hf]; exact rfl, lvRows hf ..⟩, trivial⟩ ?_
    exact main
def sMrg : List AV → Option (Bool × AV × Bls)
  | [.imr _ 3 vs _, .imr _ 3 ws _] => some (vs.all isM && (ws.all isM && (decide (vs.length ≤ 200000) && decide (ws.length ≤ 200000))), mrgV vs ws, mrgL vs ws)
  | _ => none
theorem mrg_ok : SpecOk Try.prog (plOf pls) 10 sMrg := by
  refine ⟨_, fi10, fun args r bl1 h => ?_⟩
  unfold sMrg at h
  split at h
  · simp only [Option.some.injEq, Prod.mk.injEq, Bool.and_eq_true, decide_eq_true_eq] at h
    obtain ⟨⟨h1, h2, h3, h4⟩, rfl, rfl⟩ := h
    exact ⟨by simp, fun C hC _ => mrg_run C hC _ _ _ _ _ _ h1 h2 h3 h4⟩
  · cases h
end Go.Proofs.Ytdanhpemheldlaa
