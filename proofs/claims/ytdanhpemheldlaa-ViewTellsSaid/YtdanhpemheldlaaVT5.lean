/- ViewTells: its run. -/
import Derived.Test.YtdanhpemheldlaaVT4
set_option linter.unusedSimpArgs false
set_option linter.unusedVariables false
-- FUNCTIONS 7 19 20 27 29
namespace Go.Proofs.Ytdanhpemheldlaa
open Go Go.SY
def kT : KT := ktOf [(13, sV), (15, sGet), (45, sThose), (9, specT), (26, sV), (23, sGet), (24, sRLive), (25, sRAlive), (48, sSame), (28, sSame), (12, sSame), (18, sInts)]
theorem kT_ok : KOk Try.prog (plOf pls) kT := ktOf_ok plsOk fun x hx => by
  simp only [List.mem_cons, List.not_mem_nil, or_false] at hx
  rcases hx with rfl | rfl | rfl | rfl | rfl | rfl | rfl | rfl | rfl | rfl | rfl | rfl
  · exact vchk_ok
  · exact get_ok
  · exact those_ok
  · exact spec_true plsOk kIns_ok awake_run
  · exact rvchk_ok
  · exact rget_ok
  · exact rRLive_ok
  · exact rRAlive_ok
  · exact equal_ok
  · exact rsame_ok
  · exact members_ok
  · exact ints_ok
theorem btt : (true == true) = true := rfl
theorem bff : (false == false) = true := rfl
theorem bxx (b : Bool) : (b == b) = true := by cases b <;> rfl
def IsT (r : AV) (_ : Bls) : Prop := r = .v (.bool true)
set_option maxRecDepth 100000 in
set_option maxHeartbeats 4000000 in
theorem tells_law (C : Ctx) (hC : C.β.b = []) (rs qs : List (List AV)) (hm : rs.all isM = true) (hq : qs.all isM = true) (c0 d0 : Option Nat) (hl : rs.length < 4611686018427387904) (hl2 : qs.length < 4611686018427387904) (k : Int) :
    Rch Try.prog (plOf pls) C (conf0 7 ⟨92, [.tmp 6], code7⟩ [.imr false 3 rs c0, .imr false 3 qs d0, .v (.int .i64 k)] []) IsT := by
  have hf := isM_flat hm
  have hg := isM_flat hq
  by_cases hlen : (80 : Int) < rs.length
  · refine ExQ_ok [] 2000 plsOk kT_ok ?_
    simp only [conf0]
    (try rw [exh]); simp (maxSteps := 4000000) only [kT, specT, hlen, stops, inK, stepF, frsF, frF, itemF, codeF, condF, opsF, opsW, opF, callO, stepS, wtS, gdst, gdl, sopF, pv, bltF, callF, calleeS, p_move, p_assign, p_pick, p_binOp, p_len, SY.get, SY.put, SY.ev, SY.mk, SY.ini, bopInt, bop, pickAV, leaveS, retS, killL, isDefs, resS, resAll, tup1, exq_go, exq_t, ↓reduceIte, Nat.reduceLT, Nat.reduceEqDiff, Nat.reduceAdd, Nat.reduceSub, Bool.not_false, reduceCtorEq, true_and, List.map_nil, Bool.and_self, List.append_nil, Nat.zero_add, Int.reduceLE, decide_true, ktOf, conK, alive, lndL, lvB, okBls, shB, ren, ti3, ti22, regAt, fi7, body7, Try.f7, ↓exq_cd cd_code7, ↓exq_cd cd_c7_1, ↓exq_cd cd_c7_2, ↓exq_cd cd_c7_3, ↓exq_cd cd_c7_5, ↓exq_cd cd_c7_6, ↓exq_cd cd_c7_7, ↓exq_cd cd_c7_9, r7_1, r7_5, r7_9]
    repeat (refine And.intro (a := (_ = true)) (by first | (simp; done) | (simp; omega)) ?_)
    exact rfl
  by_cases hlen2 : (80 : Int) < qs.length
  · refine ExQ_ok [] 2000 plsOk kT_ok ?_
    simp only [conf0]
    (try rw [exh]); simp (maxSteps := 4000000) only [kT, specT, hlen, hlen2, stops, inK, stepF, frsF, frF, itemF, codeF, condF, opsF, opsW, opF, callO, stepS, wtS, gdst, gdl, sopF, pv, bltF, callF, calleeS, p_move, p_assign, p_pick, p_binOp, p_len, SY.get, SY.put, SY.ev, SY.mk, SY.ini, bopInt, bop, pickAV, leaveS, retS, killL, isDefs, resS, resAll, tup1, exq_go, exq_t, exq_f, ↓reduceIte, Nat.reduceLT, Nat.reduceEqDiff, Nat.reduceAdd, Nat.reduceSub, Bool.not_false, reduceCtorEq, true_and, List.map_nil, Bool.and_self, List.append_nil, Nat.zero_add, Int.reduceLE, decide_true, decide_false, ktOf, conK, alive, lndL, lvB, okBls, shB, ren, ti3, ti22, regAt, fi7, body7, Try.f7, ↓exq_cd cd_code7, ↓exq_cd cd_c7_1, ↓exq_cd cd_c7_2, ↓exq_cd cd_c7_3, ↓exq_cd cd_c7_5, ↓exq_cd cd_c7_6, ↓exq_cd cd_c7_7, ↓exq_cd cd_c7_9, r7_1, r7_5, r7_9]
    repeat (refine And.intro (a := (_ = true)) (by first | (simp; done) | (simp; omega)) ?_)
    exact rfl
  have hrt : rs.take rs.length = rs := List.take_of_length_le (Nat.le_refl _)
  have hsr := same_refl rs
  by_cases hv : vOk rs 0 = true
  case neg =>
    have e : vchk rs = 2 := if_neg hv
    have r1 : thoR pLive rs = .nil := if_neg hv
    have b1 : thoB pLive rs = [] := if_neg hv
    have r2 : thoR pAlive rs = .nil := if_neg hv
    have b2 : thoB pAlive rs = [] := if_neg hv
    have f1 : ¬ 46 = 22 := by decide
    refine ExQ_ok [] 2000 plsOk kT_ok ?_
    simp only [conf0]
    (try rw [exh]); simp (maxSteps := 4000000) only [kT, sV, sGet, sThose, sRLive, sRAlive, sSame, sInts, hf.lv, hg.lv, hm, hq, hlen, hlen2, hrt, e, r1, b1, r2, b2, f1, getR, List.drop_zero, bxx, stops, inK, stepF, frsF, frF, itemF, codeF, condF, opsF, opsW, opF, callO, stepS, wtS, gdst, gdl, sopF, pv, evq, orl, bltF, callF, calleeS, quiet, p_move, p_assign, p_pick, p_binOp, p_slice, p_extract, p_len, p_cap, l_load, zerR, roomR, appRR, srcR, dstR, e_store, e_alloc, e_buildSlice, e_append, SY.get, SY.put, SY.ev, SY.mk, SY.nth, SY.lvl, SY.setl, SY.ini, wid, wids, dr, tk, flat, pack, parts, rdC, rdCt, wrC, wrCt, bopInt, bopEq, isBl, eqPs, bop, pickAV, bnd, subO, cutOf, okMx, fillA, immL, isArr, ctOf, rowsOf, rep, elCt, dstR, srcR, enterS, leaveS, retS, finishS, killL, isDefs, resS, resAll, tup1, exq_go, exq_t, exq_f, ↓reduceIte, Nat.reduceLT, Nat.reduceLeDiff, Nat.reduceEqDiff, Nat.reduceAdd, Nat.reduceSub, Bool.and_true, Bool.true_and, Bool.not_false, Bool.not_true, List.contains_nil, Option.isSome_none, reduceCtorEq, true_and, Bool.false_eq_true, List.map_cons, List.map_nil, Bool.and_self, List.drop_zero, List.length_cons, List.length_nil, List.cons_append, List.nil_append, Option.map_some, Option.map_none, List.append_nil, Nat.zero_add, Nat.add_zero, Nat.sub_zero, Nat.zero_mul, Int.toNat_zero, Int.reduceLE, decide_true, decide_false, Option.getD_some, ktOf, conK, alive, lndL, lnd, lvB, lvL, tB_tt, okBls, shB, ren, renL, and_false, ti3, ti4, ti22, ti24, ti29, ti37, regAt, body7, Try.f7, fi19, body19, Try.f19, fi20, body20, Try.f20, fi27, body27, Try.f27, fi29, body29, Try.f29, ↓exq_cd cd_code7, ↓exq_cd cd_c7_1, ↓exq_cd cd_c7_2, ↓exq_cd cd_c7_3, ↓exq_cd cd_c7_5, ↓exq_cd cd_c7_6, ↓exq_cd cd_c7_4, ↓exq_cd cd_c7_10, ↓exq_cd cd_c7_11, ↓exq_cd cd_c7_12, ↓exq_cd cd_c7_13, ↓exq_cd cd_c7_14, ↓exq_cd cd_c7_15, ↓exq_cd cd_c7_16, ↓exq_cd cd_c7_17, ↓exq_cd cd_c7_18, ↓exq_cd cd_c7_19, ↓exq_cd cd_c7_20, ↓exq_cd cd_code19, ↓exq_cd cd_c19_1, ↓exq_cd cd_c19_2, ↓exq_cd cd_c19_3, ↓exq_cd cd_code20, ↓exq_cd cd_c20_1, ↓exq_cd cd_c20_2, ↓exq_cd cd_c20_3, ↓exq_cd cd_code27, ↓exq_cd cd_c27_1, ↓exq_cd cd_c27_2, ↓exq_cd cd_c27_3, ↓exq_cd cd_code29, ↓exq_cd cd_c29_1, ↓exq_cd cd_c29_2, ↓exq_cd cd_c29_3, ↓exq_cd cd_c29_4, ↓exq_cd cd_c29_5, r7_1, r7_5, r7_10, r7_12, r7_14, r7_16, r7_18, r7_20, r19_1, r19_3, r20_1, r20_3, r27_1, r27_3, r29_1, r29_3]
    repeat (refine And.intro (a := (_ = true)) (by first | (simp; done) | (simp; omega)) ?_)
    iterate 2 (refine Rch.loop plsOk ?_; refine ExQ_ok [] 2000 plsOk kT_ok ?_; (try rw [exh]); simp (maxSteps := 4000000) only [kT, specT, sSame, hf.lv, hm, hrt, hsr, List.drop_zero, stops, inK, stepF, frsF, frF, itemF, codeF, condF, opsF, opsW, opF, callO, stepS, wtS, gdst, gdl, sopF, pv, orl, bltF, callF, calleeS, p_move, p_assign, p_pick, p_binOp, p_slice, p_len, p_cap, SY.get, SY.put, SY.ev, SY.mk, SY.lvl, SY.ini, bopInt, bop, pickAV, bnd, subO, cutOf, okMx, enterS, leaveS, retS, exitS, finishS, killL, isDefs, resS, resAll, tup1, exq_go, exq_t, exq_f, ↓reduceIte, Nat.reduceLT, Nat.reduceLeDiff, Nat.reduceEqDiff, Nat.reduceAdd, Nat.reduceSub, Bool.and_true, Bool.true_and, Bool.not_true, List.contains_nil, reduceCtorEq, true_and, List.map_cons, List.map_nil, Bool.and_self, List.drop_zero, List.length_cons, List.length_nil, List.nil_append, Option.map_some, Option.map_none, List.append_nil, Nat.zero_add, Nat.sub_zero, Int.toNat_zero, Int.reduceLT, Int.reduceLE, decide_true, decide_false, Option.getD_some, ktOf, conK, alive, lndL, lnd, lvB, tB_tt, okBls, shB, ren, ti3, ti37, regAt, fi7, body7, Try.f7, fi29, body29, Try.f29, ↓exq_cd cd_c7_21, ↓exq_cd cd_c7_22, ↓exq_cd cd_c7_23, ↓exq_cd cd_c7_24, ↓exq_cd cd_code29, ↓exq_cd cd_c29_1, ↓exq_cd cd_c29_2, ↓exq_cd cd_c29_3, ↓exq_cd cd_c29_4, ↓exq_cd cd_c29_5, ↓exq_cd cd_c29_6, ↓exq_cd cd_c29_7, ↓exq_cd cd_c29_9, ↓exq_cd cd_c29_10, r7_22, r7_24, r29_1, r29_3, r29_9]; repeat (refine And.intro (a := (_ = true)) (by first | (simp; done) | (simp; omega)) ?_))
    exact rfl
  have e0 : vchk rs = 0 := if_pos hv
  have r1 : thoR pLive rs = .sl 0 0 1 (idsR pLive rs).length none := if_pos hv
  have b1 : thoB pLive rs = [some (.num .i64 (idsR pLive rs))] := if_pos hv
  have r2 : thoR pAlive rs = .sl 0 0 1 (idsR pAlive rs).length none := if_pos hv
  have b2 : thoB pAlive rs = [some (.num .i64 (idsR pAlive rs))] := if_pos hv
  have hn1 := idsR_le (p := pLive) (rs := rs)
  have hn2 := idsR_le (p := pAlive) (rs := rs)
  have f1 : ¬ 46 = 22 := by decide
  generalize idsR pLive rs = l1 at *
  generalize idsR pAlive rs = l2 at *
  have t1 : l1.take l1.length = l1 := List.take_of_length_le (Nat.le_refl _)
  have t2 : l2.take l2.length = l2 := List.take_of_length_le (Nat.le_refl _)
  refine ExQ_ok [29] 2000 plsOk kT_ok ?_
  simp only [conf0]
  (try rw [exh]); simp (maxSteps := 4000000) only [kT, sV, sGet, sThose, sRLive, sRAlive, sSame, sInts, hf.lv, hg.lv, hm, hq, hlen, hlen2, hrt, e0, r1, b1, r2, b2, f1, getR, List.drop_zero, bxx, t1, t2, decide_true, stops, inK, stepF, frsF, frF, itemF, codeF, condF, opsF, opsW, opF, callO, stepS, wtS, gdst, gdl, sopF, pv, evq, bltF, callF, calleeS, quiet, p_move, p_assign, p_pick, p_binOp, p_extract, p_len, l_load, zerR, roomR, appRR, srcR, dstR, e_store, e_alloc, e_buildSlice, e_append, SY.get, SY.put, SY.ev, SY.mk, SY.nth, SY.lvl, SY.setl, SY.ini, wid, wids, dr, tk, flat, pack, parts, rdC, rdCt, wrC, wrCt, bopInt, bopEq, isBl, eqPs, bop, pickAV, fillA, immL, isArr, ctOf, rowsOf, rep, elCt, dstR, srcR, enterS, leaveS, retS, finishS, killL, isDefs, resS, resAll, tup1, Ct.cell, exq_go, lvCt, exq_t, exq_f, ↓reduceIte, Nat.reduceLT, Nat.reduceLeDiff, Nat.reduceEqDiff, Nat.reduceAdd, Nat.reduceSub, Nat.reduceBEq, Bool.and_true, Bool.true_and, Bool.not_false, Bool.not_true, List.contains_nil, List.contains_cons, Bool.or_false, Option.isSome_none, reduceCtorEq, true_and, Bool.false_eq_true, List.map_cons, List.map_nil, Bool.and_self, List.drop_zero, List.length_cons, List.length_nil, List.cons_append, List.nil_append, List.append_nil, Nat.zero_add, Nat.add_zero, Nat.zero_mul, Int.reduceLE, decide_true, decide_false, ktOf, conK, alive, lndL, lnd, lvB, lvL, tB_tt, okBls, shB, ren, renL, renCt, and_false, ti3, ti4, ti22, ti24, ti29, regAt, body7, Try.f7, fi19, body19, Try.f19, fi20, body20, Try.f20, fi27, body27, Try.f27, fi29, ↓exq_cd cd_code7, ↓exq_cd cd_c7_1, ↓exq_cd cd_c7_2, ↓exq_cd cd_c7_3, ↓exq_cd cd_c7_5, ↓exq_cd cd_c7_6, ↓exq_cd cd_c7_4, ↓exq_cd cd_c7_10, ↓exq_cd cd_c7_11, ↓exq_cd cd_c7_12, ↓exq_cd cd_c7_13, ↓exq_cd cd_c7_14, ↓exq_cd cd_c7_15, ↓exq_cd cd_c7_16, ↓exq_cd cd_c7_17, ↓exq_cd cd_c7_18, ↓exq_cd cd_c7_19, ↓exq_cd cd_c7_20, ↓exq_cd cd_code19, ↓exq_cd cd_c19_1, ↓exq_cd cd_c19_2, ↓exq_cd cd_c19_3, ↓exq_cd cd_code20, ↓exq_cd cd_c20_1, ↓exq_cd cd_c20_2, ↓exq_cd cd_c20_3, ↓exq_cd cd_code27, ↓exq_cd cd_c27_1, ↓exq_cd cd_c27_2, ↓exq_cd cd_c27_3, ↓exq_cd cd_code29, r7_1, r7_5, r7_10, r7_12, r7_14, r7_16, r7_18, r7_20, r19_1, r19_3, r20_1, r20_3, r27_1, r27_3]
  repeat (refine And.intro (a := (_ = true)) (by first | (simp; done) | (simp; omega)) ?_)
  refine Rch.call [4] (over_word l1 _ rfl) fi29 ⟨_, _, rfl, .inl ⟨rfl, rfl⟩, rfl⟩ (by decide) rfl rfl ⟨⟨rfl, rfl⟩, trivial⟩ ?_
  rintro _ _ ⟨rfl, z1, rfl⟩
  refine ⟨⟨rfl, by simp⟩, _, rfl, ?_⟩
  refine ExQ_ok [29] 2000 plsOk kT_ok ?_
  (try rw [exh]); simp (maxSteps := 4000000) only [aftT, updT, mapB, kT, List.drop_zero, stops, stepF, frsF, frF, itemF, codeF, opsF, opsW, opF, callO, wtS, sopF, pv, callF, calleeS, p_move, SY.get, SY.put, SY.ev, SY.setl, SY.ini, enterS, exq_go, ↓reduceIte, Nat.reduceLT, Nat.reduceLeDiff, Nat.reduceEqDiff, Nat.reduceAdd, Nat.reduceSub, Nat.reduceBEq, List.contains_nil, List.contains_cons, Bool.or_false, reduceCtorEq, true_and, List.map_cons, List.map_nil, List.drop_succ_cons, List.drop_zero, List.length_cons, List.length_nil, List.nil_append, List.append_nil, Nat.zero_add, ktOf, ren, renL, renCt, regAt, body7, Try.f7, fi29, ↓exq_cd cd_c7_21, ↓exq_cd cd_c7_22, ↓exq_cd cd_code29, r7_22]
  repeat (refine And.intro (a := (_ = true)) (by first | (simp; done) | (simp; omega)) ?_)
  refine Rch.call [5] (over_word l2 _ rfl) fi29 ⟨_, _, rfl, .inl ⟨rfl, rfl⟩, rfl⟩ (by decide) rfl rfl ⟨⟨rfl, rfl⟩, trivial⟩ ?_
  rintro _ _ ⟨rfl, z2, rfl⟩
  refine ⟨⟨rfl, by simp⟩, _, rfl, ?_⟩
  refine ExQ_ok [] 2000 plsOk kT_ok ?_
  (try rw [exh]); simp (maxSteps := 4000000) only [aftT, updT, mapB, kT, specT, sSame, hf.lv, hm, hrt, hsr, List.drop_zero, stops, stepF, frsF, frF, itemF, codeF, opsF, opsW, opF, callO, stepS, wtS, gdst, gdl, sopF, pv, callF, calleeS, p_move, p_assign, p_pick, SY.get, SY.put, SY.ev, SY.lvl, SY.setl, pickAV, leaveS, retS, killL, isDefs, resS, resAll, tup1, exq_go, exq_t, ↓reduceIte, Nat.reduceLT, Nat.reduceEqDiff, Nat.reduceAdd, Nat.reduceSub, Bool.and_true, Bool.true_and, Bool.not_true, reduceCtorEq, true_and, List.map_cons, List.map_nil, Bool.and_self, List.drop_succ_cons, List.drop_zero, List.length_cons, List.length_nil, List.nil_append, List.append_nil, Nat.zero_add, decide_false, ktOf, conK, alive, lndL, lnd, lvB, tB_tt, okBls, shB, ren, renL, renCt, regAt, fi7, body7, Try.f7, ↓exq_cd cd_c7_23, ↓exq_cd cd_c7_24, r7_24]
  repeat (refine And.intro (a := (_ = true)) (by first | (simp; done) | (simp; omega)) ?_)
  exact rfl
def mrow (r : Int × Int × Int) : List AV := [.v (.int .i64 r.1), .v (.int .i64 r.2.1), .v (.int .i64 r.2.2)]
theorem rows_all (ms : List (Int × Int × Int)) : (ms.map mrow).all isM = true := by
  rw [List.all_map]
  exact List.all_eq_true.2 fun r _ => rfl
end Go.Proofs.Ytdanhpemheldlaa
