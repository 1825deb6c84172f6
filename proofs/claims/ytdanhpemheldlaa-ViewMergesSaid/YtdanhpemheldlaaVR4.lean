/- Views: the document's Merge, its word. -/
import Derived.Test.YtdanhpemheldlaaVRa
set_option linter.unusedSimpArgs false
set_option linter.unusedVariables false
-- FUNCTIONS 11
namespace Go.Proofs.Ytdanhpemheldlaa
open Go Go.SY
set_option maxRecDepth 100000 in
set_option maxHeartbeats 4000000 in
theorem rm_words (C : Ctx) (hC : C.β.b = []) (t u : Bool) (vs ws : List (List AV)) (c d : Option Nat) (hvm : vs.all isM = true) (hwm : ws.all isM = true) (hx : vs.length ≤ 200000) (hx2 : ws.length ≤ 100000) (hv : vOk vs 0 = true) (hlv : vs.length ≤ 100000) (hw : ∀ r ∈ ws, MemR r ∧ isM r = true) :
    Rch Try.prog (plOf pls) C ⟨[⟨11, 79, tR2 t u vs ws c d vs.length 0, [.code (.loop c11_36), .blk 2, .code c11_32], none, [], []⟩], [some (.rows 3 vs)]⟩ (Res (.tup [.sl 0 0 3 (mrgR vs ws).length none, .sl 1 0 3 (frsh vs (mrgR vs ws)).length none, .v (.int .i64 0)]) [some (.rows 3 (mrgR vs ws)), some (.rows 3 (frsh vs (mrgR vs ws)))]) := by
  have hf := isM_flat hvm
  have hg := isM_flat hwm
  refine Rch.loop plsOk ?_
  refine loop_ind plsOk (α := {i : Nat // i ≤ ws.length}) (fun a => ws.length - a.1) (fun a => tR2 t u vs ws c d (mrgR vs (ws.take a.1)).length a.1) (fun a => [some (.rows 3 (mrgR vs (ws.take a.1)))]) (fun _ => Res (.tup [.sl 0 0 3 (mrgR vs ws).length none, .sl 1 0 3 (frsh vs (mrgR vs ws)).length none, .v (.int .i64 0)]) [some (.rows 3 (mrgR vs ws)), some (.rows 3 (frsh vs (mrgR vs ws)))]) ?_ ⟨0, Nat.zero_le _⟩
  rintro ⟨i, hi⟩ ih
  simp only [tR2] at hi ih ⊢
  have hlen := mrgR_len (vs := vs) (ws.take i)
  have htk : (ws.take i).length ≤ i := by rw [List.length_take]; omega
  obtain ⟨ho1, ho2⟩ := mrgR_ok hv hvm (ws.take i) (fun r hr => hw r (List.mem_of_mem_take hr))
  have hho := isM_flat ho2
  by_cases h : (i : Int) < ws.length
  · have hi' : i < ws.length := by omega
    have e := isM_row hwm hi'
    have hmm := hw (rowA ws i) (by rw [rowA_get hi']; exact List.getElem_mem hi')
    have hsu := mrgR_succ (vs := vs) hi'
    obtain ⟨hn1, hn2⟩ := mrgR_ok hv hvm (ws.take (i + 1)) (fun r hr => hw r (List.mem_of_mem_take hr))
    have hhn := isM_flat hn2
    generalize hos : mrgR vs (ws.take i) = os at *
    have hot : os.take os.length = os := List.take_of_length_le (Nat.le_refl _)
    have dm := decide_eq_true (show MemOk _ _ _ from hmm.1)
    have hmi : mIns os [.v (.int .i64 (idR (rowA ws i))), .v (.int .i64 (stR (rowA ws i))), .v (.int .i64 (icR (rowA ws i)))] = mrgR vs (ws.take (i + 1)) := by rw [hsu, ← isM_eq hmm.2]
    refine ExQ_ok [] 2000 plsOk kS_ok ?_
    (try rw [exh]); simp (maxSteps := 4000000) only [kS, sMrd, h, e, hot, ho1, ho2, dm, hmi, hho.lv, hhn.lv, hhn.ren, List.drop_zero, stops, inK, stepF, frsF, frF, itemF, codeF, condF, opsF, opsW, opF, callO, wtS, sopF, pv, bltF, callF, calleeS, p_move, p_assign, p_binOp, p_indexAddr, p_len, l_load, SY.get, SY.put, SY.ev, SY.mk, SY.lvl, dr, tk, pack, rdC, ar, bopInt, bop, Ct.cell, exq_go, lvCt, exq_t, ↓reduceIte, Nat.reduceLT, Nat.reduceEqDiff, Nat.reduceAdd, Nat.reduceSub, Bool.and_true, Bool.true_and, reduceCtorEq, true_and, List.map_cons, List.map_nil, Bool.and_self, List.drop_zero, List.length_cons, List.length_nil, List.cons_append, List.nil_append, List.append_nil, Nat.zero_add, Nat.add_zero, Int.toNat_natCast, Int.reduceLE, decide_true, decide_false, ktOf, conK, alive, lndL, lnd, lvB, lvL, okBls, shB, ren, renCt, ti3, ti22, ti29, regAt, body11, Try.f11, ↓exq_cd cd_c11_36, ↓exq_cd cd_c11_37, ↓exq_cd cd_c11_39, ↓exq_cd cd_c11_40, ↓exq_cd cd_c11_38, ↓exq_cd cd_c11_42, ↓exq_cd cd_c11_44, ↓exq_cd cd_c11_43, r11_39, r11_44, r11_43]
    repeat (refine And.intro (a := (_ = true)) (by first | (simp; done) | (simp; omega)) ?_)
    refine Rch.fit1 hC [1] (bl' := [some (.rows 3 (mrgR vs (ws.take (i + 1))))]) (tm' := tR2 t u vs ws c d (mrgR vs (ws.take (i + 1))).length (i + 1)) rfl (by decide) rfl ⟨rfl, rfl, congrArg (fun x => AV.imr t 3 x c) (hf.ren _).symm, congrArg (fun x => AV.imr u 3 x d) (hg.ren _).symm, trivial⟩ (tR2_lv hf hg ..) ⟨⟨by rw [renRows hhn]; exact rfl, lvRows hhn ..⟩, trivial⟩ ?_
    exact ih ⟨i + 1, by omega⟩ (by simp only; omega)
  · obtain rfl : i = ws.length := by omega
    have hwt : ws.take ws.length = ws := List.take_of_length_le (Nat.le_refl _)
    rw [hwt] at ho1 ho2 hho hlen ⊢
    clear ih
    refine ExQ_ok [] 2000 plsOk kS_ok ?_
    (try rw [exh]); simp (maxSteps := 4000000) only [kS, h, stops, inK, stepF, frsF, frF, itemF, codeF, condF, opsF, opsW, opF, stepS, wtS, sopF, pv, bltF, callF, p_move, p_assign, p_binOp, p_len, SY.get, SY.put, SY.ev, SY.mk, bopInt, bop, exitS, exq_go, exq_f, ↓reduceIte, Nat.reduceLT, Nat.reduceEqDiff, Nat.reduceAdd, reduceCtorEq, true_and, Bool.and_self, Int.reduceLE, decide_true, decide_false, ktOf, ti3, ti22, regAt, body11, Try.f11, ↓exq_cd cd_c11_36, ↓exq_cd cd_c11_37, ↓exq_cd cd_c11_39, ↓exq_cd cd_c11_40, ↓exq_cd cd_c11_32, ↓exq_cd cd_c11_45, ↓exq_cd cd_c11_46, ↓exq_cd cd_c11_47, ↓exq_cd cd_c11_49, ↓exq_cd cd_c11_50, ↓exq_cd cd_c11_51, r11_39, r11_45, r11_49]
    repeat (refine And.intro (a := (_ = true)) (by first | (simp; done) | (simp; omega)) ?_)
    refine Rch.nilslR 10 0 3 3 rfl rfl ?_
    refine Rch.fit1 hC [0, 1] (bl' := [some (.rows 3 (mrgR vs ws)), some (.rows 3 [])]) (tm' := tR3 t u vs ws c d (mrgR vs ws).length 0 0) rfl (by decide) rfl ⟨rfl, rfl, rfl, congrArg (fun x => AV.imr t 3 x c) (hf.ren _).symm, congrArg (fun x => AV.imr u 3 x d) (hg.ren _).symm, trivial⟩ (tR3_lv hf hg ..) ⟨⟨by rw [renRows hho]; exact rfl, lvRows hho ..⟩, ⟨rfl, rfl⟩, trivial⟩ ?_
    exact rm_fresh C hC t u vs ws (mrgR vs ws) c d hvm hwm ho2 hx (by omega) hv
set_option maxRecDepth 100000 in
set_option maxHeartbeats 4000000 in
theorem rm_run (C : Ctx) (hC : C.β.b = []) (t u : Bool) (vs ws : List (List AV)) (c d : Option Nat) (hvm : vs.all isM = true) (hwm : ws.all isM = true) (hx : vs.length ≤ 100000) (hx2 : ws.length ≤ 100000) :
    Rch Try.prog (plOf pls) C (conf0 11 ⟨79, [.tmp 4, .tmp 5, .tmp 6], code11⟩ [.imr t 3 vs c, .imr u 3 ws d] []) (Res (mrgV vs ws) (mrgL vs ws)) := by
  have hf := isM_flat hvm
  have hg := isM_flat hwm
  by_cases hv : vOk vs 0 = true
  case neg =>
    have e : vchk vs = 2 := if_neg hv
    have hb : ¬ mrgB vs ws = true := by rw [mrgB, Bool.eq_false_iff.2 hv, Bool.false_and]; decide
    rw [mrgV, if_neg hb, mrgL, if_neg hb]
    refine ExQ_ok [] 2000 plsOk kS_ok ?_
    simp only [conf0]
    (try rw [exh]); simp (maxSteps := 4000000) only [kS, sV, hf.lv, hvm, e, stops, inK, stepF, frsF, frF, itemF, codeF, condF, opsF, opsW, opF, callO, stepS, wtS, sopF, pv, callF, calleeS, p_move, p_assign, p_binOp, SY.get, SY.put, SY.ev, SY.mk, SY.ini, bopInt, bop, leaveS, retS, killL, isDefs, resS, resAll, tup1, exq_go, exq_t, ↓reduceIte, Nat.reduceLT, Nat.reduceEqDiff, Nat.reduceAdd, Bool.and_true, Bool.true_and, reduceCtorEq, true_and, List.map_cons, List.map_nil, Bool.and_self, List.nil_append, List.append_nil, Nat.zero_add, Int.reduceEq, Int.reduceLE, decide_true, ktOf, conK, alive, lndL, lnd, lvB, tB_tt, okBls, shB, ren, not_false_eq_true, ti24, regAt, fi11, body11, Try.f11, ↓exq_cd cd_code11, ↓exq_cd cd_c11_1, ↓exq_cd cd_c11_2, ↓exq_cd cd_c11_3, ↓exq_cd cd_c11_5, ↓exq_cd cd_c11_6, ↓exq_cd cd_c11_7, ↓exq_cd cd_c11_9, r11_1, r11_5, r11_9]
    repeat (refine And.intro (a := (_ = true)) (by first | (simp; done) | (simp; omega)) ?_)
    exact ⟨[], List.nodup_nil, rfl, rfl, fun l c h => by simp at h⟩
  have e0 : vchk vs = 0 := if_pos hv
  refine ExQ_ok [] 2000 plsOk kS_ok ?_
  simp only [conf0]
  (try rw [exh]); simp (maxSteps := 4000000) only [kS, sV, hf.lv, hvm, e0, stops, inK, stepF, frsF, frF, itemF, codeF, condF, opsF, opsW, opF, callO, wtS, sopF, pv, callF, calleeS, p_move, p_assign, p_binOp, SY.get, SY.put, SY.ev, SY.mk, SY.ini, bopInt, bop, exq_go, exq_f, ↓reduceIte, Nat.reduceLT, Nat.reduceAdd, Bool.and_true, Bool.true_and, reduceCtorEq, true_and, List.map_cons, List.map_nil, Bool.and_self, List.nil_append, List.append_nil, Nat.zero_add, Int.reduceLE, decide_true, decide_false, ktOf, conK, alive, lndL, lnd, lvB, tB_tt, okBls, shB, ren, not_true_eq_false, ti24, regAt, body11, Try.f11, ↓exq_cd cd_code11, ↓exq_cd cd_c11_1, ↓exq_cd cd_c11_2, ↓exq_cd cd_c11_3, ↓exq_cd cd_c11_5, ↓exq_cd cd_c11_6, ↓exq_cd cd_c11_4, ↓exq_cd cd_c11_10, ↓exq_cd cd_c11_12, ↓exq_cd cd_c11_13, ↓exq_cd cd_c11_14, r11_1, r11_5, r11_12]
  repeat (refine And.intro (a := (_ = true)) (by first | (simp; done) | (simp; omega)) ?_)
  refine Rch.loop plsOk ?_
  refine Rch.fit1 hC [] (bl' := []) (tm' := tR1 t u vs ws c d (0)) rfl List.nodup_nil rfl ⟨rfl, congrArg (fun x => AV.imr t 3 x c) (hf.ren _).symm, congrArg (fun x => AV.imr u 3 x d) (hg.ren _).symm, trivial⟩ (tR1_lv hf hg ..) trivial ?_
  refine loop_ind plsOk (α := {i : Nat // i ≤ ws.length ∧ ∀ j, j < i → MemR (rowA ws j)}) (fun a => ws.length - a.1) (fun a => tR1 t u vs ws c d a.1) (fun _ => []) (fun _ => Res (mrgV vs ws) (mrgL vs ws)) ?_ ⟨0, Nat.zero_le _, fun j hj => absurd hj (Nat.not_lt_zero _)⟩
  rintro ⟨i, hi, hj⟩ ih
  simp only [tR1] at hi hj ih ⊢
  by_cases h : (i : Int) < ws.length
  · have hi' : i < ws.length := by omega
    have e := isM_row hwm hi'
    by_cases h1 : MemR (rowA ws i)
    · have h1' := chk_pos h1
      refine ExQ_ok [] 2000 plsOk kS_ok ?_
      (try rw [exh]); simp (maxSteps := 4000000) only [kS, sChk, h, e, h1', stops, inK, stepF, frsF, frF, itemF, codeF, condF, opsF, opsW, opF, callO, wtS, sopF, pv, bltF, callF, calleeS, p_move, p_assign, p_binOp, p_indexAddr, p_len, l_load, SY.get, SY.put, SY.ev, SY.mk, dr, tk, pack, rdC, ar, bopInt, bop, exq_go, exq_t, exq_f, ↓reduceIte, Nat.reduceLT, Nat.reduceEqDiff, Nat.reduceAdd, Nat.reduceSub, Bool.and_true, reduceCtorEq, true_and, List.map_cons, List.map_nil, Bool.and_self, List.nil_append, List.append_nil, Int.toNat_natCast, Int.reduceLE, decide_true, decide_false, ktOf, conK, alive, lndL, lnd, lvB, lvL, okBls, shB, ren, not_true_eq_false, ti3, ti22, ti24, ti29, regAt, body11, Try.f11, ↓exq_cd cd_c11_15, ↓exq_cd cd_c11_16, ↓exq_cd cd_c11_18, ↓exq_cd cd_c11_19, ↓exq_cd cd_c11_17, ↓exq_cd cd_c11_21, ↓exq_cd cd_c11_23, ↓exq_cd cd_c11_24, ↓exq_cd cd_c11_25, ↓exq_cd cd_c11_22, r11_18, r11_24, r11_22]
      repeat (refine And.intro (a := (_ = true)) (by first | (simp; done) | (simp; omega)) ?_)
      refine Rch.fit1 hC [] (bl' := []) (tm' := tR1 t u vs ws c d (i + 1)) rfl List.nodup_nil rfl ⟨rfl, congrArg (fun x => AV.imr t 3 x c) (hf.ren _).symm, congrArg (fun x => AV.imr u 3 x d) (hg.ren _).symm, trivial⟩ (tR1_lv hf hg ..) trivial ?_
      exact ih ⟨i + 1, by omega, fun j hj' => by
        rcases Nat.lt_or_ge j i with h4 | h4
        · exact hj j h4
        · rw [show j = i by omega]; exact h1⟩ (by simp only; omega)
    · have h1' := chk_neg h1
      have hb : ¬ mrgB vs ws = true := by
        rw [mrgB, hv, Bool.true_and]
        intro h2
        exact h1 (of_decide_eq_true (List.all_eq_true.1 h2 (rowA ws i) (by rw [rowA_get hi']; exact List.getElem_mem hi')))
      rw [mrgV, if_neg hb, mrgL, if_neg hb]
      refine ExQ_ok [] 2000 plsOk kS_ok ?_
      (try rw [exh]); simp (maxSteps := 4000000) only [kS, sChk, h, e, h1', stops, inK, stepF, frsF, frF, itemF, codeF, condF, opsF, opsW, opF, callO, stepS, wtS, sopF, pv, bltF, callF, calleeS, p_move, p_assign, p_binOp, p_indexAddr, p_len, l_load, SY.get, SY.put, SY.ev, SY.mk, dr, tk, pack, rdC, bopInt, bop, leaveS, retS, killL, isDefs, resS, resAll, tup1, exq_go, exq_t, ↓reduceIte, Nat.reduceLT, Nat.reduceEqDiff, Nat.reduceAdd, Nat.reduceSub, Bool.and_true, reduceCtorEq, true_and, List.map_cons, List.map_nil, Bool.and_self, List.nil_append, List.append_nil, Int.toNat_natCast, Int.reduceEq, Int.reduceLE, decide_true, ktOf, conK, alive, lndL, lnd, lvB, lvL, okBls, shB, ren, not_false_eq_true, ti3, ti22, ti24, ti29, regAt, fi11, body11, Try.f11, ↓exq_cd cd_c11_15, ↓exq_cd cd_c11_16, ↓exq_cd cd_c11_18, ↓exq_cd cd_c11_19, ↓exq_cd cd_c11_17, ↓exq_cd cd_c11_21, ↓exq_cd cd_c11_23, ↓exq_cd cd_c11_24, ↓exq_cd cd_c11_25, ↓exq_cd cd_c11_26, ↓exq_cd cd_c11_28, r11_18, r11_24, r11_28]
      repeat (refine And.intro (a := (_ = true)) (by first | (simp; done) | (simp; omega)) ?_)
      exact ⟨[], List.nodup_nil, rfl, rfl, fun l c h => by simp at h⟩
  · clear ih
    have hall : (ws.all fun r => decide (MemR r)) = true := List.all_eq_true.2 fun r hr => by
      obtain ⟨j, hj2, rfl⟩ := List.mem_iff_getElem.1 hr
      have := hj j (by omega)
      rw [rowA_get hj2] at this
      exact decide_eq_true this
    have hb : mrgB vs ws = true := by rw [mrgB, hv, hall]; rfl
    have hw : ∀ r ∈ ws, MemR r ∧ isM r = true := fun r hr => ⟨of_decide_eq_true (List.all_eq_true.1 hall r hr), List.all_eq_true.1 hwm r hr⟩
    have main := rm_words C hC t u vs ws c d hvm hwm (by omega) hx2 hv hx hw
    rw [mrgV, if_pos hb, mrgL, if_pos hb]
    have hvt : vs.take vs.length = vs := List.take_of_length_le (Nat.le_refl _)
    refine ExQ_ok [] 2000 plsOk kS_ok ?_
    (try rw [exh]); simp (maxSteps := 4000000) only [kS, h, List.nil_append, stops, inK, stepF, frsF, frF, itemF, codeF, condF, opsF, opsW, opF, stepS, wtS, sopF, pv, evq, bltF, callF, quiet, p_move, p_assign, p_binOp, p_len, zerR, roomR, appRR, srcR, dstR, e_buildSlice, e_append, SY.get, SY.put, SY.ev, SY.mk, SY.lvl, wid, wids, bopInt, bop, fillA, immL, rowsOf, rep, elCt, dstR, srcR, exitS, exq_go, exq_f, ↓reduceIte, Nat.reduceLT, Nat.reduceLeDiff, Nat.reduceEqDiff, Nat.reduceAdd, Bool.and_true, Bool.true_and, Option.isSome_none, reduceCtorEq, true_and, Bool.false_eq_true, List.map_nil, Bool.and_self, List.length_cons, List.length_nil, List.cons_append, List.nil_append, Nat.zero_add, Nat.add_zero, Nat.zero_mul, Int.reduceLE, decide_true, decide_false, ktOf, and_false, ti3, ti22, ti29, regAt, body11, Try.f11, ↓exq_cd cd_c11_15, ↓exq_cd cd_c11_16, ↓exq_cd cd_c11_18, ↓exq_cd cd_c11_19, ↓exq_cd cd_c11_11, ↓exq_cd cd_c11_29, ↓exq_cd cd_c11_30, ↓exq_cd cd_c11_31, ↓exq_cd cd_c11_33, ↓exq_cd cd_c11_34, ↓exq_cd cd_c11_35, r11_18, r11_29, r11_33]
    repeat (refine And.intro (a := (_ = true)) (by first | (simp; done) | (simp; omega)) ?_)
    refine Rch.fit1 hC [1] (bl' := [some (.rows 3 (vs))]) (tm' := tR2 t u vs ws c d (vs).length (0)) rfl (by decide) rfl ⟨rfl, rfl, congrArg (fun x => AV.imr t 3 x c) (hf.ren _).symm, congrArg (fun x => AV.imr u 3 x d) (hg.ren _).symm, trivial⟩ (tR2_lv hf hg ..) ⟨⟨by rw [renRows hf]; exact rfl, lvRows hf ..⟩, trivial⟩ ?_
    exact main
def sMrgR : List AV → Option (Bool × AV × Bls)
  | [.imr _ 3 vs _, .imr _ 3 ws _] => some (vs.all isM && (ws.all isM && (decide (vs.length ≤ 100000) && decide (ws.length ≤ 100000))), mrgV vs ws, mrgL vs ws)
  | _ => none
theorem rm_ok : SpecOk Try.prog (plOf pls) 11 sMrgR := by
  refine ⟨_, fi11, fun args r bl1 h => ?_⟩
  unfold sMrgR at h
  split at h
  · simp only [Option.some.injEq, Prod.mk.injEq, Bool.and_eq_true, decide_eq_true_eq] at h
    obtain ⟨⟨h1, h2, h3, h4⟩, rfl, rfl⟩ := h
    exact ⟨by simp, fun C hC _ => rm_run C hC _ _ _ _ _ _ h1 h2 h3 h4⟩
  · cases h
end Go.Proofs.Ytdanhpemheldlaa
