/- Disks: the words of Room, Fuse, Crash, Wipe, Len, Firm, Up, Steps. -/
import Derived.Test.YtmdepmhamefheaaDW2
set_option linter.unusedSimpArgs false
set_option linter.unusedVariables false
-- FUNCTIONS 37 34 33 12 16 29 24 26 22 32
namespace Go.Proofs.Ytmdepmhamefheaa
open Go Go.SY
namespace DW
set_option maxRecDepth 100000 in
set_option maxHeartbeats 4000000 in
theorem room_word (s : DS) (k : Int) (hs : numOk s = true) : Word Try.prog (plOf pls) 33 [.ptr 0 0 9 0, .v (.int .i64 k)] (layD s) (ObQ 1 (.v (.int .i64 (dRoom s k).1)) (layD (dRoom s k).2)) := by
  obtain ⟨l, f, x, xf, room, n, u, out⟩ := s
  simp only [numOk, Bool.and_eq_true, decide_eq_true_eq] at hs
  obtain ⟨hn0, hn1, hlx, hf0, hf1, hu⟩ := hs
  refine ⟨_, fi33, by simp, fun C hC hl => ?_⟩
  by_cases h1 : k < 0
  · have e : dRoom ⟨l, f, x, xf, room, n, u, out⟩ k = (2, ⟨l, f, x, xf, room, n, u, out⟩) := by simp [dRoom, h1]
    rw [e]
    cases u with
    | none =>
      refine ExQ_ok [] 2000 plsOk noK ?_
      simp only [conf0, layD, fuP, fuL]
      (try rw [exh]); simp (maxSteps := 4000000) only [h1, stops, inK, stepF, frsF, frF, itemF, codeF, condF, opsF, opsW, opF, callO, stepS, wtS, gdst, gdl, sopF, pv, callF, calleeS, p_move, p_assign, p_pick, p_nilCheck, p_binOp, p_unOp, p_fieldAddr, l_load, SY.get, SY.put, SY.ev, SY.mk, SY.nth, SY.lvl, SY.ini, dr, at1, rdC, rdCt, bopInt, bopEq, isPtr, bop, pickAV, enterS, leaveS, retS, finishS, killL, isDefs, resS, resAll, tup1, AV.scal, exq_go, exq_t, exq_f, ↓reduceIte, Nat.reduceLT, Nat.reduceLeDiff, Nat.reduceEqDiff, Nat.reduceAdd, Nat.reduceSub, Bool.not_false, Bool.not_true, List.contains_nil, reduceCtorEq, true_and, List.map_cons, List.map_nil, Bool.and_self, List.length_cons, List.length_nil, List.nil_append, List.append_nil, Nat.zero_add, Nat.zero_mul, Int.reduceLE, decide_true, ti3, ti4, ti24, ti58, regAt, fi34, body34, Try.f34, fi33, body33, Try.f33, ↓exq_cd cd_code33, ↓exq_cd cd_c33_1, ↓exq_cd cd_c33_2, ↓exq_cd cd_c33_3, ↓exq_cd cd_c33_5, ↓exq_cd cd_c33_6, ↓exq_cd cd_c33_7, ↓exq_cd cd_c33_9, ↓exq_cd cd_c33_12, ↓exq_cd cd_c33_13, ↓exq_cd cd_c33_14, ↓exq_cd cd_c33_16, ↓exq_cd cd_code34, ↓exq_cd cd_c34_1, ↓exq_cd cd_c34_2, ↓exq_cd cd_c34_3, r33_1, r33_6, r33_12, r33_16, r34_1, r34_3]
      repeat (refine And.intro (a := (_ = true)) (by first | (simp; done) | (simp; omega)) ?_)
      exact ObQ.mk [0, 1, 2] (by decide) rfl rfl rfl ⟨rfl, rfl, rfl, trivial⟩
    | some k2 =>
      refine ExQ_ok [] 2000 plsOk noK ?_
      simp only [conf0, layD, fuP, fuL]
      (try rw [exh]); simp (maxSteps := 4000000) only [h1, stops, inK, stepF, frsF, frF, itemF, codeF, condF, opsF, opsW, opF, callO, stepS, wtS, gdst, gdl, sopF, pv, callF, calleeS, p_move, p_assign, p_pick, p_nilCheck, p_binOp, p_unOp, p_fieldAddr, l_load, SY.get, SY.put, SY.ev, SY.mk, SY.nth, SY.lvl, SY.ini, dr, at1, rdC, rdCt, bopInt, bopEq, isPtr, bop, pickAV, enterS, leaveS, retS, finishS, killL, isDefs, resS, resAll, tup1, AV.scal, exq_go, exq_t, exq_f, ↓reduceIte, Nat.reduceLT, Nat.reduceLeDiff, Nat.reduceEqDiff, Nat.reduceAdd, Nat.reduceSub, Bool.not_false, Bool.not_true, List.contains_nil, reduceCtorEq, true_and, List.map_cons, List.map_nil, Bool.and_self, List.length_cons, List.length_nil, List.nil_append, List.append_nil, Nat.zero_add, Nat.zero_mul, Int.reduceLE, decide_true, ti3, ti4, ti24, ti58, regAt, fi34, body34, Try.f34, fi33, body33, Try.f33, ↓exq_cd cd_code33, ↓exq_cd cd_c33_1, ↓exq_cd cd_c33_2, ↓exq_cd cd_c33_3, ↓exq_cd cd_c33_5, ↓exq_cd cd_c33_6, ↓exq_cd cd_c33_7, ↓exq_cd cd_c33_9, ↓exq_cd cd_c33_12, ↓exq_cd cd_c33_13, ↓exq_cd cd_c33_14, ↓exq_cd cd_c33_16, ↓exq_cd cd_code34, ↓exq_cd cd_c34_1, ↓exq_cd cd_c34_2, ↓exq_cd cd_c34_3, r33_1, r33_6, r33_12, r33_16, r34_1, r34_3]
      repeat (refine And.intro (a := (_ = true)) (by first | (simp; done) | (simp; omega)) ?_)
      exact ObQ.mk [0, 1, 2, 3] (by decide) rfl rfl rfl ⟨rfl, rfl, rfl, rfl, trivial⟩
  by_cases h2 : 1000000 < k
  · have e : dRoom ⟨l, f, x, xf, room, n, u, out⟩ k = (2, ⟨l, f, x, xf, room, n, u, out⟩) := by simp [dRoom, h2]
    rw [e]
    cases u with
    | none =>
      refine ExQ_ok [] 2000 plsOk noK ?_
      simp only [conf0, layD, fuP, fuL]
      (try rw [exh]); simp (maxSteps := 4000000) only [h1, h2, stops, inK, stepF, frsF, frF, itemF, codeF, condF, opsF, opsW, opF, callO, stepS, wtS, gdst, gdl, sopF, pv, callF, calleeS, p_move, p_assign, p_pick, p_nilCheck, p_binOp, p_unOp, p_fieldAddr, l_load, SY.get, SY.put, SY.ev, SY.mk, SY.nth, SY.lvl, SY.ini, dr, at1, rdC, rdCt, bopInt, bopEq, isPtr, bop, pickAV, enterS, leaveS, retS, finishS, killL, isDefs, resS, resAll, tup1, AV.scal, exq_go, exq_t, exq_f, ↓reduceIte, Nat.reduceLT, Nat.reduceLeDiff, Nat.reduceEqDiff, Nat.reduceAdd, Nat.reduceSub, Bool.not_false, Bool.not_true, List.contains_nil, reduceCtorEq, true_and, List.map_cons, List.map_nil, Bool.and_self, List.length_cons, List.length_nil, List.nil_append, List.append_nil, Nat.zero_add, Nat.zero_mul, Int.reduceLE, decide_true, decide_false, ti3, ti4, ti24, ti58, regAt, fi34, body34, Try.f34, fi33, body33, Try.f33, ↓exq_cd cd_code33, ↓exq_cd cd_c33_1, ↓exq_cd cd_c33_2, ↓exq_cd cd_c33_3, ↓exq_cd cd_c33_5, ↓exq_cd cd_c33_6, ↓exq_cd cd_c33_7, ↓exq_cd cd_c33_9, ↓exq_cd cd_c33_12, ↓exq_cd cd_c33_13, ↓exq_cd cd_c33_14, ↓exq_cd cd_c33_16, ↓exq_cd cd_code34, ↓exq_cd cd_c34_1, ↓exq_cd cd_c34_2, ↓exq_cd cd_c34_3, r33_1, r33_6, r33_12, r33_16, r34_1, r34_3]
      repeat (refine And.intro (a := (_ = true)) (by first | (simp; done) | (simp; omega)) ?_)
      exact ObQ.mk [0, 1, 2] (by decide) rfl rfl rfl ⟨rfl, rfl, rfl, trivial⟩
    | some k2 =>
      refine ExQ_ok [] 2000 plsOk noK ?_
      simp only [conf0, layD, fuP, fuL]
      (try rw [exh]); simp (maxSteps := 4000000) only [h1, h2, stops, inK, stepF, frsF, frF, itemF, codeF, condF, opsF, opsW, opF, callO, stepS, wtS, gdst, gdl, sopF, pv, callF, calleeS, p_move, p_assign, p_pick, p_nilCheck, p_binOp, p_unOp, p_fieldAddr, l_load, SY.get, SY.put, SY.ev, SY.mk, SY.nth, SY.lvl, SY.ini, dr, at1, rdC, rdCt, bopInt, bopEq, isPtr, bop, pickAV, enterS, leaveS, retS, finishS, killL, isDefs, resS, resAll, tup1, AV.scal, exq_go, exq_t, exq_f, ↓reduceIte, Nat.reduceLT, Nat.reduceLeDiff, Nat.reduceEqDiff, Nat.reduceAdd, Nat.reduceSub, Bool.not_false, Bool.not_true, List.contains_nil, reduceCtorEq, true_and, List.map_cons, List.map_nil, Bool.and_self, List.length_cons, List.length_nil, List.nil_append, List.append_nil, Nat.zero_add, Nat.zero_mul, Int.reduceLE, decide_true, decide_false, ti3, ti4, ti24, ti58, regAt, fi34, body34, Try.f34, fi33, body33, Try.f33, ↓exq_cd cd_code33, ↓exq_cd cd_c33_1, ↓exq_cd cd_c33_2, ↓exq_cd cd_c33_3, ↓exq_cd cd_c33_5, ↓exq_cd cd_c33_6, ↓exq_cd cd_c33_7, ↓exq_cd cd_c33_9, ↓exq_cd cd_c33_12, ↓exq_cd cd_c33_13, ↓exq_cd cd_c33_14, ↓exq_cd cd_c33_16, ↓exq_cd cd_code34, ↓exq_cd cd_c34_1, ↓exq_cd cd_c34_2, ↓exq_cd cd_c34_3, r33_1, r33_6, r33_12, r33_16, r34_1, r34_3]
      repeat (refine And.intro (a := (_ = true)) (by first | (simp; done) | (simp; omega)) ?_)
      exact ObQ.mk [0, 1, 2, 3] (by decide) rfl rfl rfl ⟨rfl, rfl, rfl, rfl, trivial⟩
  have e : dRoom ⟨l, f, x, xf, room, n, u, out⟩ k = (0, ⟨l, f, x, xf, k, n, u, out⟩) := by simp [dRoom, h1, h2]
  rw [e]
  cases u with
  | none =>
    refine ExQ_ok [] 2000 plsOk noK ?_
    simp only [conf0, layD, fuP, fuL]
    (try rw [exh]); simp (maxSteps := 4000000) only [h1, h2, stops, inK, stepF, frsF, frF, itemF, codeF, condF, opsF, opsW, opF, callO, stepS, wtS, gdst, gdl, sopF, pv, evq, callF, calleeS, quiet, p_move, p_assign, p_pick, p_nilCheck, p_binOp, p_unOp, p_fieldAddr, l_load, e_store, SY.get, SY.put, SY.ev, SY.mk, SY.nth, SY.lvl, SY.setl, SY.ini, dr, flat, at1, rdC, rdCt, wrC, wrCt, bopInt, bopEq, isPtr, bop, pickAV, enterS, leaveS, retS, finishS, killL, isDefs, resS, resAll, tup1, AV.scal, exq_go, exq_f, ↓reduceIte, Nat.reduceLT, Nat.reduceLeDiff, Nat.reduceEqDiff, Nat.reduceAdd, Nat.reduceSub, Bool.not_false, Bool.not_true, List.contains_nil, reduceCtorEq, true_and, List.map_cons, List.map_nil, Bool.and_self, List.length_cons, List.length_nil, List.cons_append, List.nil_append, List.append_nil, Nat.zero_add, Nat.zero_mul, Int.reduceLE, decide_true, decide_false, ti3, ti4, ti24, ti58, regAt, fi34, body34, Try.f34, fi33, body33, Try.f33, ↓exq_cd cd_code33, ↓exq_cd cd_c33_1, ↓exq_cd cd_c33_2, ↓exq_cd cd_c33_3, ↓exq_cd cd_c33_5, ↓exq_cd cd_c33_6, ↓exq_cd cd_c33_7, ↓exq_cd cd_c33_9, ↓exq_cd cd_c33_12, ↓exq_cd cd_c33_13, ↓exq_cd cd_c33_4, ↓exq_cd cd_c33_17, ↓exq_cd cd_c33_18, ↓exq_cd cd_c33_19, ↓exq_cd cd_code34, ↓exq_cd cd_c34_1, ↓exq_cd cd_c34_2, ↓exq_cd cd_c34_3, r33_1, r33_6, r33_12, r33_17, r33_19, r34_1, r34_3]
    repeat (refine And.intro (a := (_ = true)) (by first | (simp; done) | (simp; omega)) ?_)
    exact ObQ.mk [0, 1, 2] (by decide) rfl rfl rfl ⟨rfl, rfl, rfl, trivial⟩
  | some k2 =>
    refine ExQ_ok [] 2000 plsOk noK ?_
    simp only [conf0, layD, fuP, fuL]
    (try rw [exh]); simp (maxSteps := 4000000) only [h1, h2, stops, inK, stepF, frsF, frF, itemF, codeF, condF, opsF, opsW, opF, callO, stepS, wtS, gdst, gdl, sopF, pv, evq, callF, calleeS, quiet, p_move, p_assign, p_pick, p_nilCheck, p_binOp, p_unOp, p_fieldAddr, l_load, e_store, SY.get, SY.put, SY.ev, SY.mk, SY.nth, SY.lvl, SY.setl, SY.ini, dr, flat, at1, rdC, rdCt, wrC, wrCt, bopInt, bopEq, isPtr, bop, pickAV, enterS, leaveS, retS, finishS, killL, isDefs, resS, resAll, tup1, AV.scal, exq_go, exq_f, ↓reduceIte, Nat.reduceLT, Nat.reduceLeDiff, Nat.reduceEqDiff, Nat.reduceAdd, Nat.reduceSub, Bool.not_false, Bool.not_true, List.contains_nil, reduceCtorEq, true_and, List.map_cons, List.map_nil, Bool.and_self, List.length_cons, List.length_nil, List.cons_append, List.nil_append, List.append_nil, Nat.zero_add, Nat.zero_mul, Int.reduceLE, decide_true, decide_false, ti3, ti4, ti24, ti58, regAt, fi34, body34, Try.f34, fi33, body33, Try.f33, ↓exq_cd cd_code33, ↓exq_cd cd_c33_1, ↓exq_cd cd_c33_2, ↓exq_cd cd_c33_3, ↓exq_cd cd_c33_5, ↓exq_cd cd_c33_6, ↓exq_cd cd_c33_7, ↓exq_cd cd_c33_9, ↓exq_cd cd_c33_12, ↓exq_cd cd_c33_13, ↓exq_cd cd_c33_4, ↓exq_cd cd_c33_17, ↓exq_cd cd_c33_18, ↓exq_cd cd_c33_19, ↓exq_cd cd_code34, ↓exq_cd cd_c34_1, ↓exq_cd cd_c34_2, ↓exq_cd cd_c34_3, r33_1, r33_6, r33_12, r33_17, r33_19, r34_1, r34_3]
    repeat (refine And.intro (a := (_ = true)) (by first | (simp; done) | (simp; omega)) ?_)
    exact ObQ.mk [0, 1, 2, 3] (by decide) rfl rfl rfl ⟨rfl, rfl, rfl, rfl, trivial⟩
set_option maxRecDepth 100000 in
set_option maxHeartbeats 4000000 in
theorem fuse_word (s : DS) (k : Int) (hs : numOk s = true) : Word Try.prog (plOf pls) 12 [.ptr 0 0 9 0, .v (.int .i64 k)] (layD s) (ObQ 1 (.v (.int .i64 (dFuse s k).1)) (layD (dFuse s k).2)) := by
  obtain ⟨l, f, x, xf, room, n, u, out⟩ := s
  simp only [numOk, Bool.and_eq_true, decide_eq_true_eq] at hs
  obtain ⟨hn0, hn1, hlx, hf0, hf1, hu⟩ := hs
  refine ⟨_, fi12, by simp, fun C hC hl => ?_⟩
  by_cases h1 : k < 0
  · have e : dFuse ⟨l, f, x, xf, room, n, u, out⟩ k = (2, ⟨l, f, x, xf, room, n, u, out⟩) := by simp [dFuse, h1]
    rw [e]
    cases u with
    | none =>
      refine ExQ_ok [] 2000 plsOk noK ?_
      simp only [conf0, layD, fuP, fuL]
      (try rw [exh]); simp (maxSteps := 4000000) only [h1, stops, inK, stepF, frsF, frF, itemF, codeF, condF, opsF, opsW, opF, callO, stepS, wtS, gdst, gdl, sopF, pv, evq, callF, calleeS, quiet, p_move, p_assign, p_pick, p_nilCheck, p_binOp, p_unOp, p_fieldAddr, l_load, e_box, SY.get, SY.put, SY.ev, SY.mk, SY.nth, SY.lvl, SY.ini, dr, flat, at1, rdC, rdCt, bopInt, bopEq, isPtr, bop, pickAV, isArr, ctOf, enterS, leaveS, retS, finishS, killL, isDefs, resS, resAll, tup1, AV.scal, exq_go, exq_t, exq_f, ↓reduceIte, Nat.reduceLT, Nat.reduceLeDiff, Nat.reduceEqDiff, Nat.reduceAdd, Nat.reduceSub, Bool.not_false, Bool.not_true, List.contains_nil, reduceCtorEq, true_and, List.map_cons, List.map_nil, Bool.and_self, List.length_cons, List.length_nil, List.cons_append, List.nil_append, List.append_nil, Nat.zero_add, Nat.add_zero, Nat.zero_mul, Nat.mul_one, Int.reduceLE, decide_true, ti3, ti4, ti24, ti58, regAt, fi34, body34, Try.f34, fi12, body12, Try.f12, ↓exq_cd cd_code12, ↓exq_cd cd_c12_1, ↓exq_cd cd_c12_2, ↓exq_cd cd_c12_3, ↓exq_cd cd_c12_5, ↓exq_cd cd_c12_6, ↓exq_cd cd_c12_7, ↓exq_cd cd_c12_9, ↓exq_cd cd_c12_12, ↓exq_cd cd_c12_13, ↓exq_cd cd_c12_14, ↓exq_cd cd_c12_16, ↓exq_cd cd_code34, ↓exq_cd cd_c34_1, ↓exq_cd cd_c34_2, ↓exq_cd cd_c34_3, r12_1, r12_6, r12_12, r12_16, r34_1, r34_3]
      repeat (refine And.intro (a := (_ = true)) (by first | (simp; done) | (simp; omega)) ?_)
      exact ObQ.mk [0, 1, 2] (by decide) rfl rfl rfl ⟨rfl, rfl, rfl, trivial⟩
    | some k2 =>
      refine ExQ_ok [] 2000 plsOk noK ?_
      simp only [conf0, layD, fuP, fuL]
      (try rw [exh]); simp (maxSteps := 4000000) only [h1, stops, inK, stepF, frsF, frF, itemF, codeF, condF, opsF, opsW, opF, callO, stepS, wtS, gdst, gdl, sopF, pv, evq, callF, calleeS, quiet, p_move, p_assign, p_pick, p_nilCheck, p_binOp, p_unOp, p_fieldAddr, l_load, e_box, SY.get, SY.put, SY.ev, SY.mk, SY.nth, SY.lvl, SY.ini, dr, flat, at1, rdC, rdCt, bopInt, bopEq, isPtr, bop, pickAV, isArr, ctOf, enterS, leaveS, retS, finishS, killL, isDefs, resS, resAll, tup1, AV.scal, exq_go, exq_t, exq_f, ↓reduceIte, Nat.reduceLT, Nat.reduceLeDiff, Nat.reduceEqDiff, Nat.reduceAdd, Nat.reduceSub, Bool.not_false, Bool.not_true, List.contains_nil, reduceCtorEq, true_and, List.map_cons, List.map_nil, Bool.and_self, List.length_cons, List.length_nil, List.cons_append, List.nil_append, List.append_nil, Nat.zero_add, Nat.add_zero, Nat.zero_mul, Nat.mul_one, Int.reduceLE, decide_true, ti3, ti4, ti24, ti58, regAt, fi34, body34, Try.f34, fi12, body12, Try.f12, ↓exq_cd cd_code12, ↓exq_cd cd_c12_1, ↓exq_cd cd_c12_2, ↓exq_cd cd_c12_3, ↓exq_cd cd_c12_5, ↓exq_cd cd_c12_6, ↓exq_cd cd_c12_7, ↓exq_cd cd_c12_9, ↓exq_cd cd_c12_12, ↓exq_cd cd_c12_13, ↓exq_cd cd_c12_14, ↓exq_cd cd_c12_16, ↓exq_cd cd_code34, ↓exq_cd cd_c34_1, ↓exq_cd cd_c34_2, ↓exq_cd cd_c34_3, r12_1, r12_6, r12_12, r12_16, r34_1, r34_3]
      repeat (refine And.intro (a := (_ = true)) (by first | (simp; done) | (simp; omega)) ?_)
      exact ObQ.mk [0, 1, 2, 3] (by decide) rfl rfl rfl ⟨rfl, rfl, rfl, rfl, trivial⟩
  have e : dFuse ⟨l, f, x, xf, room, n, u, out⟩ k = (0, ⟨l, f, x, xf, room, n, some k, out⟩) := by simp [dFuse, h1]
  rw [e]
  cases u with
  | none =>
    refine ExQ_ok [] 2000 plsOk noK ?_
    simp only [conf0, layD, fuP, fuL]
    (try rw [exh]); simp (maxSteps := 4000000) only [h1, stops, inK, stepF, frsF, frF, itemF, codeF, condF, opsF, opsW, opF, callO, stepS, wtS, gdst, gdl, sopF, pv, evq, callF, calleeS, quiet, p_move, p_assign, p_pick, p_nilCheck, p_binOp, p_unOp, p_fieldAddr, l_load, e_store, e_box, SY.get, SY.put, SY.ev, SY.mk, SY.nth, SY.lvl, SY.setl, SY.ini, dr, flat, at1, rdC, rdCt, wrC, wrCt, bopInt, bopEq, isPtr, bop, pickAV, isArr, ctOf, enterS, leaveS, retS, finishS, killL, isDefs, resS, resAll, tup1, AV.scal, exq_go, exq_f, ↓reduceIte, Nat.reduceLT, Nat.reduceLeDiff, Nat.reduceEqDiff, Nat.reduceAdd, Nat.reduceSub, Bool.not_false, Bool.not_true, List.contains_nil, reduceCtorEq, true_and, List.map_cons, List.map_nil, Bool.and_self, List.length_cons, List.length_nil, List.cons_append, List.nil_append, List.append_nil, Nat.zero_add, Nat.add_zero, Nat.zero_mul, Nat.mul_one, Int.reduceLE, decide_true, decide_false, ti3, ti4, ti24, ti56, ti58, regAt, fi34, body34, Try.f34, fi12, body12, Try.f12, ↓exq_cd cd_code12, ↓exq_cd cd_c12_1, ↓exq_cd cd_c12_2, ↓exq_cd cd_c12_3, ↓exq_cd cd_c12_5, ↓exq_cd cd_c12_6, ↓exq_cd cd_c12_7, ↓exq_cd cd_c12_9, ↓exq_cd cd_c12_12, ↓exq_cd cd_c12_13, ↓exq_cd cd_c12_4, ↓exq_cd cd_c12_17, ↓exq_cd cd_c12_18, ↓exq_cd cd_c12_19, ↓exq_cd cd_code34, ↓exq_cd cd_c34_1, ↓exq_cd cd_c34_2, ↓exq_cd cd_c34_3, r12_1, r12_6, r12_12, r12_17, r12_19, r34_1, r34_3]
    repeat (refine And.intro (a := (_ = true)) (by first | (simp; done) | (simp; omega)) ?_)
    exact ObQ.mk [0, 1, 2, 3] (by decide) rfl rfl rfl ⟨rfl, rfl, rfl, rfl, trivial⟩
  | some k2 =>
    refine ExQ_ok [] 2000 plsOk noK ?_
    simp only [conf0, layD, fuP, fuL]
    (try rw [exh]); simp (maxSteps := 4000000) only [h1, stops, inK, stepF, frsF, frF, itemF, codeF, condF, opsF, opsW, opF, callO, stepS, wtS, gdst, gdl, sopF, pv, evq, callF, calleeS, quiet, p_move, p_assign, p_pick, p_nilCheck, p_binOp, p_unOp, p_fieldAddr, l_load, e_store, e_box, SY.get, SY.put, SY.ev, SY.mk, SY.nth, SY.lvl, SY.setl, SY.ini, dr, flat, at1, rdC, rdCt, wrC, wrCt, bopInt, bopEq, isPtr, bop, pickAV, isArr, ctOf, enterS, leaveS, retS, finishS, killL, isDefs, resS, resAll, tup1, AV.scal, exq_go, exq_f, ↓reduceIte, Nat.reduceLT, Nat.reduceLeDiff, Nat.reduceEqDiff, Nat.reduceAdd, Nat.reduceSub, Bool.not_false, Bool.not_true, List.contains_nil, reduceCtorEq, true_and, List.map_cons, List.map_nil, Bool.and_self, List.length_cons, List.length_nil, List.cons_append, List.nil_append, List.append_nil, Nat.zero_add, Nat.add_zero, Nat.zero_mul, Nat.mul_one, Int.reduceLE, decide_true, decide_false, ti3, ti4, ti24, ti56, ti58, regAt, fi34, body34, Try.f34, fi12, body12, Try.f12, ↓exq_cd cd_code12, ↓exq_cd cd_c12_1, ↓exq_cd cd_c12_2, ↓exq_cd cd_c12_3, ↓exq_cd cd_c12_5, ↓exq_cd cd_c12_6, ↓exq_cd cd_c12_7, ↓exq_cd cd_c12_9, ↓exq_cd cd_c12_12, ↓exq_cd cd_c12_13, ↓exq_cd cd_c12_4, ↓exq_cd cd_c12_17, ↓exq_cd cd_c12_18, ↓exq_cd cd_c12_19, ↓exq_cd cd_code34, ↓exq_cd cd_c34_1, ↓exq_cd cd_c34_2, ↓exq_cd cd_c34_3, r12_1, r12_6, r12_12, r12_17, r12_19, r34_1, r34_3]
    repeat (refine And.intro (a := (_ = true)) (by first | (simp; done) | (simp; omega)) ?_)
    exact ObQ.mk [0, 1, 2, 4] (by decide) rfl rfl rfl ⟨rfl, rfl, rfl, rfl, trivial⟩
set_option maxRecDepth 100000 in
set_option maxHeartbeats 4000000 in
theorem len_word (s : DS) (hs : numOk s = true) : Word Try.prog (plOf pls) 24 [.ptr 0 0 9 0] (layD s) (ObQ (layD s).length (.v (.int .i64 s.l.length)) (layD s ++ [])) := by
  obtain ⟨l, f, x, xf, room, n, u, out⟩ := s
  simp only [numOk, Bool.and_eq_true, decide_eq_true_eq] at hs
  obtain ⟨hn0, hn1, hlx, hf0, hf1, hu⟩ := hs
  refine ⟨_, fi24, by simp, fun C hC hl => ?_⟩
  cases u with
  | none =>
    refine ExQ_ok [] 2000 plsOk noK ?_
    simp only [conf0, layD, fuP, fuL]
    (try rw [exh]); simp (maxSteps := 4000000) only [stops, inK, stepF, frsF, frF, itemF, codeF, condF, opsF, opsW, opF, callO, stepS, wtS, gdst, gdl, sopF, pv, bltF, callF, calleeS, p_move, p_assign, p_pick, p_nilCheck, p_binOp, p_unOp, p_fieldAddr, p_len, l_load, SY.get, SY.put, SY.ev, SY.mk, SY.nth, SY.lvl, SY.ini, dr, at1, rdC, rdCt, bopEq, isPtr, bop, pickAV, enterS, leaveS, retS, finishS, killL, isDefs, resS, resAll, tup1, AV.scal, exq_go, exq_f, ↓reduceIte, Nat.reduceLT, Nat.reduceLeDiff, Nat.reduceEqDiff, Nat.reduceAdd, Nat.reduceSub, Bool.not_false, Bool.not_true, List.contains_nil, reduceCtorEq, true_and, List.map_cons, List.map_nil, Bool.and_self, List.length_cons, List.length_nil, List.nil_append, List.append_nil, Nat.zero_add, Nat.add_zero, Nat.zero_mul, Int.reduceLE, decide_true, ti4, ti22, ti24, ti52, ti54, ti58, regAt, fi34, body34, Try.f34, fi24, body24, Try.f24, ↓exq_cd cd_code24, ↓exq_cd cd_c24_1, ↓exq_cd cd_c24_2, ↓exq_cd cd_c24_3, ↓exq_cd cd_c24_5, ↓exq_cd cd_c24_6, ↓exq_cd cd_c24_4, ↓exq_cd cd_c24_10, ↓exq_cd cd_code34, ↓exq_cd cd_c34_1, ↓exq_cd cd_c34_2, ↓exq_cd cd_c34_3, r24_1, r24_5, r24_10, r34_1, r34_3]
    repeat (refine And.intro (a := (_ = true)) (by first | (simp; done) | (simp; omega)) ?_)
    exact ObQ.mk [0, 1, 2] (by decide) rfl rfl rfl ⟨rfl, rfl, rfl, trivial⟩
  | some k =>
    refine ExQ_ok [] 2000 plsOk noK ?_
    simp only [conf0, layD, fuP, fuL]
    (try rw [exh]); simp (maxSteps := 4000000) only [stops, inK, stepF, frsF, frF, itemF, codeF, condF, opsF, opsW, opF, callO, stepS, wtS, gdst, gdl, sopF, pv, bltF, callF, calleeS, p_move, p_assign, p_pick, p_nilCheck, p_binOp, p_unOp, p_fieldAddr, p_len, l_load, SY.get, SY.put, SY.ev, SY.mk, SY.nth, SY.lvl, SY.ini, dr, at1, rdC, rdCt, bopEq, isPtr, bop, pickAV, enterS, leaveS, retS, finishS, killL, isDefs, resS, resAll, tup1, AV.scal, exq_go, exq_f, ↓reduceIte, Nat.reduceLT, Nat.reduceLeDiff, Nat.reduceEqDiff, Nat.reduceAdd, Nat.reduceSub, Bool.not_false, Bool.not_true, List.contains_nil, reduceCtorEq, true_and, List.map_cons, List.map_nil, Bool.and_self, List.length_cons, List.length_nil, List.nil_append, List.append_nil, Nat.zero_add, Nat.add_zero, Nat.zero_mul, Int.reduceLE, decide_true, ti4, ti22, ti24, ti52, ti54, ti58, regAt, fi34, body34, Try.f34, fi24, body24, Try.f24, ↓exq_cd cd_code24, ↓exq_cd cd_c24_1, ↓exq_cd cd_c24_2, ↓exq_cd cd_c24_3, ↓exq_cd cd_c24_5, ↓exq_cd cd_c24_6, ↓exq_cd cd_c24_4, ↓exq_cd cd_c24_10, ↓exq_cd cd_code34, ↓exq_cd cd_c34_1, ↓exq_cd cd_c34_2, ↓exq_cd cd_c34_3, r24_1, r24_5, r24_10, r34_1, r34_3]
    repeat (refine And.intro (a := (_ = true)) (by first | (simp; done) | (simp; omega)) ?_)
    exact ObQ.mk [0, 1, 2, 3] (by decide) rfl rfl rfl ⟨rfl, rfl, rfl, rfl, trivial⟩
set_option maxRecDepth 100000 in
set_option maxHeartbeats 4000000 in
theorem firm_word (s : DS) (hs : numOk s = true) : Word Try.prog (plOf pls) 26 [.ptr 0 0 9 0] (layD s) (ObQ (layD s).length (.v (.int .i64 s.f)) (layD s ++ [])) := by
  obtain ⟨l, f, x, xf, room, n, u, out⟩ := s
  simp only [numOk, Bool.and_eq_true, decide_eq_true_eq] at hs
  obtain ⟨hn0, hn1, hlx, hf0, hf1, hu⟩ := hs
  refine ⟨_, fi26, by simp, fun C hC hl => ?_⟩
  cases u with
  | none =>
    refine ExQ_ok [] 2000 plsOk noK ?_
    simp only [conf0, layD, fuP, fuL]
    (try rw [exh]); simp (maxSteps := 4000000) only [stops, inK, stepF, frsF, frF, itemF, codeF, condF, opsF, opsW, opF, callO, stepS, wtS, gdst, gdl, sopF, pv, callF, calleeS, p_move, p_assign, p_pick, p_nilCheck, p_binOp, p_unOp, p_fieldAddr, l_load, SY.get, SY.put, SY.ev, SY.mk, SY.nth, SY.lvl, SY.ini, dr, at1, rdC, rdCt, bopEq, isPtr, bop, pickAV, enterS, leaveS, retS, finishS, killL, isDefs, resS, resAll, tup1, AV.scal, exq_go, exq_f, ↓reduceIte, Nat.reduceLT, Nat.reduceLeDiff, Nat.reduceEqDiff, Nat.reduceAdd, Nat.reduceSub, Bool.not_false, Bool.not_true, List.contains_nil, reduceCtorEq, true_and, List.map_cons, List.map_nil, Bool.and_self, List.length_cons, List.length_nil, List.nil_append, List.append_nil, Nat.zero_add, Nat.add_zero, Nat.zero_mul, Int.reduceLE, decide_true, ti3, ti4, ti24, ti52, ti54, ti58, regAt, fi34, body34, Try.f34, fi26, body26, Try.f26, ↓exq_cd cd_code26, ↓exq_cd cd_c26_1, ↓exq_cd cd_c26_2, ↓exq_cd cd_c26_3, ↓exq_cd cd_c26_5, ↓exq_cd cd_c26_6, ↓exq_cd cd_c26_4, ↓exq_cd cd_c26_10, ↓exq_cd cd_code34, ↓exq_cd cd_c34_1, ↓exq_cd cd_c34_2, ↓exq_cd cd_c34_3, r26_1, r26_5, r26_10, r34_1, r34_3]
    repeat (refine And.intro (a := (_ = true)) (by first | (simp; done) | (simp; omega)) ?_)
    exact ObQ.mk [0, 1, 2] (by decide) rfl rfl rfl ⟨rfl, rfl, rfl, trivial⟩
  | some k =>
    refine ExQ_ok [] 2000 plsOk noK ?_
    simp only [conf0, layD, fuP, fuL]
    (try rw [exh]); simp (maxSteps := 4000000) only [stops, inK, stepF, frsF, frF, itemF, codeF, condF, opsF, opsW, opF, callO, stepS, wtS, gdst, gdl, sopF, pv, callF, calleeS, p_move, p_assign, p_pick, p_nilCheck, p_binOp, p_unOp, p_fieldAddr, l_load, SY.get, SY.put, SY.ev, SY.mk, SY.nth, SY.lvl, SY.ini, dr, at1, rdC, rdCt, bopEq, isPtr, bop, pickAV, enterS, leaveS, retS, finishS, killL, isDefs, resS, resAll, tup1, AV.scal, exq_go, exq_f, ↓reduceIte, Nat.reduceLT, Nat.reduceLeDiff, Nat.reduceEqDiff, Nat.reduceAdd, Nat.reduceSub, Bool.not_false, Bool.not_true, List.contains_nil, reduceCtorEq, true_and, List.map_cons, List.map_nil, Bool.and_self, List.length_cons, List.length_nil, List.nil_append, List.append_nil, Nat.zero_add, Nat.add_zero, Nat.zero_mul, Int.reduceLE, decide_true, ti3, ti4, ti24, ti52, ti54, ti58, regAt, fi34, body34, Try.f34, fi26, body26, Try.f26, ↓exq_cd cd_code26, ↓exq_cd cd_c26_1, ↓exq_cd cd_c26_2, ↓exq_cd cd_c26_3, ↓exq_cd cd_c26_5, ↓exq_cd cd_c26_6, ↓exq_cd cd_c26_4, ↓exq_cd cd_c26_10, ↓exq_cd cd_code34, ↓exq_cd cd_c34_1, ↓exq_cd cd_c34_2, ↓exq_cd cd_c34_3, r26_1, r26_5, r26_10, r34_1, r34_3]
    repeat (refine And.intro (a := (_ = true)) (by first | (simp; done) | (simp; omega)) ?_)
    exact ObQ.mk [0, 1, 2, 3] (by decide) rfl rfl rfl ⟨rfl, rfl, rfl, rfl, trivial⟩
set_option maxRecDepth 100000 in
set_option maxHeartbeats 4000000 in
theorem steps_word (s : DS) (hs : numOk s = true) : Word Try.prog (plOf pls) 32 [.ptr 0 0 9 0] (layD s) (ObQ (layD s).length (.v (.int .i64 s.n)) (layD s ++ [])) := by
  obtain ⟨l, f, x, xf, room, n, u, out⟩ := s
  simp only [numOk, Bool.and_eq_true, decide_eq_true_eq] at hs
  obtain ⟨hn0, hn1, hlx, hf0, hf1, hu⟩ := hs
  refine ⟨_, fi32, by simp, fun C hC hl => ?_⟩
  cases u with
  | none =>
    refine ExQ_ok [] 2000 plsOk noK ?_
    simp only [conf0, layD, fuP, fuL]
    (try rw [exh]); simp (maxSteps := 4000000) only [stops, inK, stepF, frsF, frF, itemF, codeF, condF, opsF, opsW, opF, callO, stepS, wtS, gdst, gdl, sopF, pv, callF, calleeS, p_move, p_assign, p_pick, p_nilCheck, p_binOp, p_unOp, p_fieldAddr, l_load, SY.get, SY.put, SY.ev, SY.mk, SY.nth, SY.lvl, SY.ini, dr, at1, rdC, rdCt, bopEq, isPtr, bop, pickAV, enterS, leaveS, retS, finishS, killL, isDefs, resS, resAll, tup1, AV.scal, exq_go, exq_f, ↓reduceIte, Nat.reduceLT, Nat.reduceLeDiff, Nat.reduceEqDiff, Nat.reduceAdd, Nat.reduceSub, Bool.not_false, Bool.not_true, List.contains_nil, reduceCtorEq, true_and, List.map_cons, List.map_nil, Bool.and_self, List.length_cons, List.length_nil, List.nil_append, List.append_nil, Nat.zero_add, Nat.zero_mul, Int.reduceLE, decide_true, ti3, ti4, ti24, ti58, regAt, fi34, body34, Try.f34, fi32, body32, Try.f32, ↓exq_cd cd_code32, ↓exq_cd cd_c32_1, ↓exq_cd cd_c32_2, ↓exq_cd cd_c32_3, ↓exq_cd cd_c32_5, ↓exq_cd cd_c32_6, ↓exq_cd cd_c32_4, ↓exq_cd cd_c32_10, ↓exq_cd cd_code34, ↓exq_cd cd_c34_1, ↓exq_cd cd_c34_2, ↓exq_cd cd_c34_3, r32_1, r32_5, r32_10, r34_1, r34_3]
    repeat (refine And.intro (a := (_ = true)) (by first | (simp; done) | (simp; omega)) ?_)
    exact ObQ.mk [0, 1, 2] (by decide) rfl rfl rfl ⟨rfl, rfl, rfl, trivial⟩
  | some k =>
    refine ExQ_ok [] 2000 plsOk noK ?_
    simp only [conf0, layD, fuP, fuL]
    (try rw [exh]); simp (maxSteps := 4000000) only [stops, inK, stepF, frsF, frF, itemF, codeF, condF, opsF, opsW, opF, callO, stepS, wtS, gdst, gdl, sopF, pv, callF, calleeS, p_move, p_assign, p_pick, p_nilCheck, p_binOp, p_unOp, p_fieldAddr, l_load, SY.get, SY.put, SY.ev, SY.mk, SY.nth, SY.lvl, SY.ini, dr, at1, rdC, rdCt, bopEq, isPtr, bop, pickAV, enterS, leaveS, retS, finishS, killL, isDefs, resS, resAll, tup1, AV.scal, exq_go, exq_f, ↓reduceIte, Nat.reduceLT, Nat.reduceLeDiff, Nat.reduceEqDiff, Nat.reduceAdd, Nat.reduceSub, Bool.not_false, Bool.not_true, List.contains_nil, reduceCtorEq, true_and, List.map_cons, List.map_nil, Bool.and_self, List.length_cons, List.length_nil, List.nil_append, List.append_nil, Nat.zero_add, Nat.zero_mul, Int.reduceLE, decide_true, ti3, ti4, ti24, ti58, regAt, fi34, body34, Try.f34, fi32, body32, Try.f32, ↓exq_cd cd_code32, ↓exq_cd cd_c32_1, ↓exq_cd cd_c32_2, ↓exq_cd cd_c32_3, ↓exq_cd cd_c32_5, ↓exq_cd cd_c32_6, ↓exq_cd cd_c32_4, ↓exq_cd cd_c32_10, ↓exq_cd cd_code34, ↓exq_cd cd_c34_1, ↓exq_cd cd_c34_2, ↓exq_cd cd_c34_3, r32_1, r32_5, r32_10, r34_1, r34_3]
    repeat (refine And.intro (a := (_ = true)) (by first | (simp; done) | (simp; omega)) ?_)
    exact ObQ.mk [0, 1, 2, 3] (by decide) rfl rfl rfl ⟨rfl, rfl, rfl, rfl, trivial⟩
set_option maxRecDepth 100000 in
set_option maxHeartbeats 4000000 in
theorem up_word (s : DS) (hs : numOk s = true) : Word Try.prog (plOf pls) 22 [.ptr 0 0 9 0] (layD s) (ObQ (layD s).length (.v (.bool (!s.out))) (layD s ++ [])) := by
  obtain ⟨l, f, x, xf, room, n, u, out⟩ := s
  simp only [numOk, Bool.and_eq_true, decide_eq_true_eq] at hs
  obtain ⟨hn0, hn1, hlx, hf0, hf1, hu⟩ := hs
  refine ⟨_, fi22, by simp, fun C hC hl => ?_⟩
  cases out with
  | true =>
    cases u with
    | none =>
      refine ExQ_ok [] 2000 plsOk noK ?_
      simp only [conf0, layD, fuP, fuL]
      (try rw [exh]); simp (maxSteps := 4000000) only [stops, stepF, frsF, frF, itemF, codeF, opsF, opsW, opF, callO, stepS, wtS, gdst, gdl, sopF, pv, callF, calleeS, p_move, p_assign, p_pick, p_nilCheck, p_binOp, p_unOp, p_fieldAddr, l_load, SY.get, SY.put, SY.ev, SY.mk, SY.nth, SY.lvl, SY.ini, dr, at1, rdC, rdCt, bopEq, isPtr, bop, pickAV, enterS, leaveS, retS, finishS, killL, isDefs, resS, resAll, tup1, AV.scal, exq_go, exq_t, exq_f, ↓reduceIte, Nat.reduceLT, Nat.reduceLeDiff, Nat.reduceEqDiff, Nat.reduceAdd, Nat.reduceSub, Bool.not_false, Bool.not_true, List.contains_nil, reduceCtorEq, true_and, List.map_cons, List.map_nil, List.length_cons, List.length_nil, List.nil_append, List.append_nil, Nat.zero_add, Nat.zero_mul, ti4, ti24, ti58, regAt, fi34, body34, Try.f34, fi22, body22, Try.f22, ↓exq_cd cd_code22, ↓exq_cd cd_c22_1, ↓exq_cd cd_c22_2, ↓exq_cd cd_c22_3, ↓exq_cd cd_code34, ↓exq_cd cd_c34_1, ↓exq_cd cd_c34_2, ↓exq_cd cd_c34_3, r22_1, r22_3, r34_1, r34_3]
      repeat (refine And.intro (a := (_ = true)) (by first | (simp; done) | (simp; omega)) ?_)
      exact ObQ.mk [0, 1, 2] (by decide) rfl rfl rfl ⟨rfl, rfl, rfl, trivial⟩
    | some k =>
      refine ExQ_ok [] 2000 plsOk noK ?_
      simp only [conf0, layD, fuP, fuL]
      (try rw [exh]); simp (maxSteps := 4000000) only [stops, stepF, frsF, frF, itemF, codeF, opsF, opsW, opF, callO, stepS, wtS, gdst, gdl, sopF, pv, callF, calleeS, p_move, p_assign, p_pick, p_nilCheck, p_binOp, p_unOp, p_fieldAddr, l_load, SY.get, SY.put, SY.ev, SY.mk, SY.nth, SY.lvl, SY.ini, dr, at1, rdC, rdCt, bopEq, isPtr, bop, pickAV, enterS, leaveS, retS, finishS, killL, isDefs, resS, resAll, tup1, AV.scal, exq_go, exq_t, exq_f, ↓reduceIte, Nat.reduceLT, Nat.reduceLeDiff, Nat.reduceEqDiff, Nat.reduceAdd, Nat.reduceSub, Bool.not_false, Bool.not_true, List.contains_nil, reduceCtorEq, true_and, List.map_cons, List.map_nil, List.length_cons, List.length_nil, List.nil_append, List.append_nil, Nat.zero_add, Nat.zero_mul, ti4, ti24, ti58, regAt, fi34, body34, Try.f34, fi22, body22, Try.f22, ↓exq_cd cd_code22, ↓exq_cd cd_c22_1, ↓exq_cd cd_c22_2, ↓exq_cd cd_c22_3, ↓exq_cd cd_code34, ↓exq_cd cd_c34_1, ↓exq_cd cd_c34_2, ↓exq_cd cd_c34_3, r22_1, r22_3, r34_1, r34_3]
      repeat (refine And.intro (a := (_ = true)) (by first | (simp; done) | (simp; omega)) ?_)
      exact ObQ.mk [0, 1, 2, 3] (by decide) rfl rfl rfl ⟨rfl, rfl, rfl, rfl, trivial⟩
  | false =>
    cases u with
    | none =>
      refine ExQ_ok [] 2000 plsOk noK ?_
      simp only [conf0, layD, fuP, fuL]
      (try rw [exh]); simp (maxSteps := 4000000) only [stops, stepF, frsF, frF, itemF, codeF, opsF, opsW, opF, callO, stepS, wtS, gdst, gdl, sopF, pv, callF, calleeS, p_move, p_assign, p_pick, p_nilCheck, p_binOp, p_unOp, p_fieldAddr, l_load, SY.get, SY.put, SY.ev, SY.mk, SY.nth, SY.lvl, SY.ini, dr, at1, rdC, rdCt, bopEq, isPtr, bop, pickAV, enterS, leaveS, retS, finishS, killL, isDefs, resS, resAll, tup1, AV.scal, exq_go, exq_t, exq_f, ↓reduceIte, Nat.reduceLT, Nat.reduceLeDiff, Nat.reduceEqDiff, Nat.reduceAdd, Nat.reduceSub, Bool.not_false, Bool.not_true, List.contains_nil, reduceCtorEq, true_and, List.map_cons, List.map_nil, List.length_cons, List.length_nil, List.nil_append, List.append_nil, Nat.zero_add, Nat.zero_mul, ti4, ti24, ti58, regAt, fi34, body34, Try.f34, fi22, body22, Try.f22, ↓exq_cd cd_code22, ↓exq_cd cd_c22_1, ↓exq_cd cd_c22_2, ↓exq_cd cd_c22_3, ↓exq_cd cd_code34, ↓exq_cd cd_c34_1, ↓exq_cd cd_c34_2, ↓exq_cd cd_c34_3, r22_1, r22_3, r34_1, r34_3]
      repeat (refine And.intro (a := (_ = true)) (by first | (simp; done) | (simp; omega)) ?_)
      exact ObQ.mk [0, 1, 2] (by decide) rfl rfl rfl ⟨rfl, rfl, rfl, trivial⟩
    | some k =>
      refine ExQ_ok [] 2000 plsOk noK ?_
      simp only [conf0, layD, fuP, fuL]
      (try rw [exh]); simp (maxSteps := 4000000) only [stops, stepF, frsF, frF, itemF, codeF, opsF, opsW, opF, callO, stepS, wtS, gdst, gdl, sopF, pv, callF, calleeS, p_move, p_assign, p_pick, p_nilCheck, p_binOp, p_unOp, p_fieldAddr, l_load, SY.get, SY.put, SY.ev, SY.mk, SY.nth, SY.lvl, SY.ini, dr, at1, rdC, rdCt, bopEq, isPtr, bop, pickAV, enterS, leaveS, retS, finishS, killL, isDefs, resS, resAll, tup1, AV.scal, exq_go, exq_t, exq_f, ↓reduceIte, Nat.reduceLT, Nat.reduceLeDiff, Nat.reduceEqDiff, Nat.reduceAdd, Nat.reduceSub, Bool.not_false, Bool.not_true, List.contains_nil, reduceCtorEq, true_and, List.map_cons, List.map_nil, List.length_cons, List.length_nil, List.nil_append, List.append_nil, Nat.zero_add, Nat.zero_mul, ti4, ti24, ti58, regAt, fi34, body34, Try.f34, fi22, body22, Try.f22, ↓exq_cd cd_code22, ↓exq_cd cd_c22_1, ↓exq_cd cd_c22_2, ↓exq_cd cd_c22_3, ↓exq_cd cd_code34, ↓exq_cd cd_c34_1, ↓exq_cd cd_c34_2, ↓exq_cd cd_c34_3, r22_1, r22_3, r34_1, r34_3]
      repeat (refine And.intro (a := (_ = true)) (by first | (simp; done) | (simp; omega)) ?_)
      exact ObQ.mk [0, 1, 2, 3] (by decide) rfl rfl rfl ⟨rfl, rfl, rfl, rfl, trivial⟩
set_option maxRecDepth 100000 in
set_option maxHeartbeats 4000000 in
theorem wipe_word (s : DS) (hs : numOk s = true) : Word Try.prog (plOf pls) 29 [.ptr 0 0 9 0] (layD s) (ObQ 1 (.v (.int .i64 (dWipe s).1)) (layD (dWipe s).2)) := by
  obtain ⟨l, f, x, xf, room, n, u, out⟩ := s
  simp only [numOk, Bool.and_eq_true, decide_eq_true_eq] at hs
  obtain ⟨hn0, hn1, hlx, hf0, hf1, hu⟩ := hs
  refine ⟨_, fi29, by simp, fun C hC hl => ?_⟩
  cases u with
  | none =>
    refine ExQ_ok [] 2000 plsOk noK ?_
    simp only [conf0, layD, fuP, fuL]
    (try rw [exh]); simp (maxSteps := 4000000) only [stops, inK, stepF, frsF, frF, itemF, codeF, condF, opsF, opsW, opF, callO, stepS, wtS, gdst, gdl, sopF, pv, evq, callF, calleeS, quiet, p_move, p_assign, p_pick, p_nilCheck, p_binOp, p_unOp, p_fieldAddr, p_build, l_load, e_store, SY.get, SY.put, SY.ev, SY.mk, SY.nth, SY.lvl, SY.setl, SY.ini, wid, wids, dr, flat, at1, pack, rdC, rdCt, wrC, wrCt, bopEq, isPtr, bop, pickAV, fillA, nz, enterS, leaveS, retS, finishS, killL, isDefs, resS, resAll, tup1, AV.scal, exq_go, exq_f, ↓reduceIte, Nat.reduceLT, Nat.reduceLeDiff, Nat.reduceEqDiff, Nat.reduceAdd, Nat.reduceSub, Bool.not_false, Bool.not_true, List.contains_nil, reduceCtorEq, true_and, List.map_cons, List.map_nil, Bool.and_self, List.length_cons, List.length_nil, List.cons_append, List.nil_append, List.append_nil, Nat.zero_add, Nat.add_zero, Nat.zero_mul, Int.reduceLE, decide_true, ti4, ti24, ti52, ti54, ti55, ti56, ti58, regAt, fi34, body34, Try.f34, fi29, body29, Try.f29, ↓exq_cd cd_code29, ↓exq_cd cd_c29_1, ↓exq_cd cd_c29_2, ↓exq_cd cd_c29_3, ↓exq_cd cd_c29_5, ↓exq_cd cd_c29_6, ↓exq_cd cd_c29_4, ↓exq_cd cd_c29_10, ↓exq_cd cd_c29_11, ↓exq_cd cd_c29_12, ↓exq_cd cd_code34, ↓exq_cd cd_c34_1, ↓exq_cd cd_c34_2, ↓exq_cd cd_c34_3, r29_1, r29_5, r29_10, r29_12, r34_1, r34_3]
    repeat (refine And.intro (a := (_ = true)) (by first | (simp; done) | (simp; omega)) ?_)
    refine ObQ.wk (Wk.nilcell (l := 0) (pre := []) .u8 rfl 0 1) ?_; refine ObQ.wk (Wk.nilcell (l := 0) (pre := [_, _]) .u8 rfl 0 1) ?_; exact ObQ.mk [0, 3, 4] (by decide) rfl rfl rfl ⟨rfl, rfl, rfl, trivial⟩
  | some k =>
    refine ExQ_ok [] 2000 plsOk noK ?_
    simp only [conf0, layD, fuP, fuL]
    (try rw [exh]); simp (maxSteps := 4000000) only [stops, inK, stepF, frsF, frF, itemF, codeF, condF, opsF, opsW, opF, callO, stepS, wtS, gdst, gdl, sopF, pv, evq, callF, calleeS, quiet, p_move, p_assign, p_pick, p_nilCheck, p_binOp, p_unOp, p_fieldAddr, p_build, l_load, e_store, SY.get, SY.put, SY.ev, SY.mk, SY.nth, SY.lvl, SY.setl, SY.ini, wid, wids, dr, flat, at1, pack, rdC, rdCt, wrC, wrCt, bopEq, isPtr, bop, pickAV, fillA, nz, enterS, leaveS, retS, finishS, killL, isDefs, resS, resAll, tup1, AV.scal, exq_go, exq_f, ↓reduceIte, Nat.reduceLT, Nat.reduceLeDiff, Nat.reduceEqDiff, Nat.reduceAdd, Nat.reduceSub, Bool.not_false, Bool.not_true, List.contains_nil, reduceCtorEq, true_and, List.map_cons, List.map_nil, Bool.and_self, List.length_cons, List.length_nil, List.cons_append, List.nil_append, List.append_nil, Nat.zero_add, Nat.add_zero, Nat.zero_mul, Int.reduceLE, decide_true, ti4, ti24, ti52, ti54, ti55, ti56, ti58, regAt, fi34, body34, Try.f34, fi29, body29, Try.f29, ↓exq_cd cd_code29, ↓exq_cd cd_c29_1, ↓exq_cd cd_c29_2, ↓exq_cd cd_c29_3, ↓exq_cd cd_c29_5, ↓exq_cd cd_c29_6, ↓exq_cd cd_c29_4, ↓exq_cd cd_c29_10, ↓exq_cd cd_c29_11, ↓exq_cd cd_c29_12, ↓exq_cd cd_code34, ↓exq_cd cd_c34_1, ↓exq_cd cd_c34_2, ↓exq_cd cd_c34_3, r29_1, r29_5, r29_10, r29_12, r34_1, r34_3]
    repeat (refine And.intro (a := (_ = true)) (by first | (simp; done) | (simp; omega)) ?_)
    refine ObQ.wk (Wk.nilcell (l := 0) (pre := []) .u8 rfl 0 1) ?_; refine ObQ.wk (Wk.nilcell (l := 0) (pre := [_, _]) .u8 rfl 0 1) ?_; exact ObQ.mk [0, 4, 5] (by decide) rfl rfl rfl ⟨rfl, rfl, rfl, trivial⟩
set_option maxRecDepth 100000 in
set_option maxHeartbeats 4000000 in
theorem crash_word (s : DS) (k : Int) (hs : numOk s = true) (hk2 : k ≤ 9223372036854775807) : Word Try.prog (plOf pls) 16 [.ptr 0 0 9 0, .v (.int .i64 k)] (layD s) (ObQ 1 (.v (.int .i64 (dCrash s k).1)) (layD (dCrash s k).2)) := by
  obtain ⟨l, f, x, xf, room, n, u, out⟩ := s
  simp only [numOk, Bool.and_eq_true, decide_eq_true_eq] at hs
  obtain ⟨hn0, hn1, hlx, hf0, hf1, hu⟩ := hs
  refine ⟨_, fi16, by simp, fun C hC hl => ?_⟩
  by_cases h1 : k < 0
  · have e : dCrash ⟨l, f, x, xf, room, n, u, out⟩ k = (2, ⟨l, f, x, xf, room, n, u, out⟩) := by simp [dCrash, h1]
    rw [e]
    cases u with
    | none =>
      refine ExQ_ok [] 2000 plsOk noK ?_
      simp only [conf0, layD, fuP, fuL]
      (try rw [exh]); simp (maxSteps := 4000000) only [h1, stops, inK, stepF, frsF, frF, itemF, codeF, condF, opsF, opsW, opF, callO, stepS, wtS, gdst, gdl, sopF, pv, callF, calleeS, p_move, p_assign, p_pick, p_nilCheck, p_binOp, p_unOp, p_fieldAddr, l_load, SY.get, SY.put, SY.ev, SY.mk, SY.nth, SY.lvl, SY.ini, dr, at1, rdC, rdCt, bopInt, bopEq, isPtr, bop, pickAV, enterS, leaveS, retS, finishS, killL, isDefs, resS, resAll, tup1, AV.scal, exq_go, exq_t, exq_f, ↓reduceIte, Nat.reduceLT, Nat.reduceLeDiff, Nat.reduceEqDiff, Nat.reduceAdd, Nat.reduceSub, Bool.not_false, Bool.not_true, List.contains_nil, reduceCtorEq, true_and, List.map_cons, List.map_nil, Bool.and_self, List.length_cons, List.length_nil, List.nil_append, List.append_nil, Nat.zero_add, Nat.zero_mul, Int.reduceLE, decide_true, ti3, ti4, ti24, ti58, regAt, fi34, body34, Try.f34, fi16, body16, Try.f16, ↓exq_cd cd_code16, ↓exq_cd cd_c16_1, ↓exq_cd cd_c16_2, ↓exq_cd cd_c16_3, ↓exq_cd cd_c16_5, ↓exq_cd cd_c16_6, ↓exq_cd cd_c16_7, ↓exq_cd cd_c16_9, ↓exq_cd cd_c16_12, ↓exq_cd cd_c16_13, ↓exq_cd cd_c16_14, ↓exq_cd cd_c16_16, ↓exq_cd cd_code34, ↓exq_cd cd_c34_1, ↓exq_cd cd_c34_2, ↓exq_cd cd_c34_3, r16_1, r16_6, r16_12, r16_16, r34_1, r34_3]
      repeat (refine And.intro (a := (_ = true)) (by first | (simp; done) | (simp; omega)) ?_)
      exact ObQ.mk [0, 1, 2] (by decide) rfl rfl rfl ⟨rfl, rfl, rfl, trivial⟩
    | some k2 =>
      refine ExQ_ok [] 2000 plsOk noK ?_
      simp only [conf0, layD, fuP, fuL]
      (try rw [exh]); simp (maxSteps := 4000000) only [h1, stops, inK, stepF, frsF, frF, itemF, codeF, condF, opsF, opsW, opF, callO, stepS, wtS, gdst, gdl, sopF, pv, callF, calleeS, p_move, p_assign, p_pick, p_nilCheck, p_binOp, p_unOp, p_fieldAddr, l_load, SY.get, SY.put, SY.ev, SY.mk, SY.nth, SY.lvl, SY.ini, dr, at1, rdC, rdCt, bopInt, bopEq, isPtr, bop, pickAV, enterS, leaveS, retS, finishS, killL, isDefs, resS, resAll, tup1, AV.scal, exq_go, exq_t, exq_f, ↓reduceIte, Nat.reduceLT, Nat.reduceLeDiff, Nat.reduceEqDiff, Nat.reduceAdd, Nat.reduceSub, Bool.not_false, Bool.not_true, List.contains_nil, reduceCtorEq, true_and, List.map_cons, List.map_nil, Bool.and_self, List.length_cons, List.length_nil, List.nil_append, List.append_nil, Nat.zero_add, Nat.zero_mul, Int.reduceLE, decide_true, ti3, ti4, ti24, ti58, regAt, fi34, body34, Try.f34, fi16, body16, Try.f16, ↓exq_cd cd_code16, ↓exq_cd cd_c16_1, ↓exq_cd cd_c16_2, ↓exq_cd cd_c16_3, ↓exq_cd cd_c16_5, ↓exq_cd cd_c16_6, ↓exq_cd cd_c16_7, ↓exq_cd cd_c16_9, ↓exq_cd cd_c16_12, ↓exq_cd cd_c16_13, ↓exq_cd cd_c16_14, ↓exq_cd cd_c16_16, ↓exq_cd cd_code34, ↓exq_cd cd_c34_1, ↓exq_cd cd_c34_2, ↓exq_cd cd_c34_3, r16_1, r16_6, r16_12, r16_16, r34_1, r34_3]
      repeat (refine And.intro (a := (_ = true)) (by first | (simp; done) | (simp; omega)) ?_)
      exact ObQ.mk [0, 1, 2, 3] (by decide) rfl rfl rfl ⟨rfl, rfl, rfl, rfl, trivial⟩
  obtain ⟨M, hM, hMl⟩ : ∃ M : Nat, f + min k (l.length - f) = M ∧ M ≤ l.length := ⟨(f + min k (l.length - f)).toNat, by omega, by omega⟩
  have hc : crN ⟨l, f, x, xf, room, n, u, out⟩ k = M := by simp only [crN, hM]; exact Int.toNat_natCast M
  have e : dCrash ⟨l, f, x, xf, room, n, u, out⟩ k = (0, ⟨l.take M, M, [], 0, room, n, none, false⟩) := by simp only [dCrash, h1, if_false, hc]
  rw [e]
  have hm1 : f + min k ((l.length : Int) - f) = M := hM
  have htl : (l.take M).length = M := by rw [List.length_take]; omega
  cases u with
  | none =>
    refine ExQ_ok [] 2000 plsOk noK ?_
    simp only [conf0, layD, fuP, fuL, htl]
    (try rw [exh]); simp (maxSteps := 4000000) only [h1, hm1, Int.toNat_natCast, stops, inK, stepF, frsF, frF, itemF, codeF, condF, opsF, opsW, opF, callO, drF, drO, drW, drC, stepS, wtS, gdst, gdl, sopF, pv, evq, bltF, callF, calleeS, popF, lopF, bltP, callP, cls, lvA, rdl, quiet, p_move, p_assign, p_pick, p_nilCheck, p_binOp, p_unOp, p_fieldAddr, p_slice, p_build, p_len, p_min, l_load, e_store, SY.get, SY.put, SY.ev, SY.mk, SY.nth, SY.lvl, SY.setl, SY.ini, wid, wids, dr, flat, at1, pack, rdC, rdCt, wrC, wrCt, ar, bopInt, bopEq, isPtr, bop, pickAV, bnd, subO, cutOf, okMx, fillA, nz, minI, enterS, leaveS, retS, finishS, killL, isDefs, resS, resAll, tup1, AV.scal, plk, exq_go, exq_f, ↓reduceIte, Nat.reduceLT, Nat.reduceLeDiff, Nat.reduceEqDiff, Nat.reduceAdd, Nat.reduceSub, Bool.true_and, Bool.not_false, Bool.not_true, List.contains_nil, reduceCtorEq, true_and, Bool.false_eq_true, List.map_cons, List.map_nil, Bool.and_self, List.length_cons, List.length_nil, List.cons_append, List.nil_append, Option.map_some, Option.map_none, List.append_nil, Nat.zero_add, Nat.add_zero, Nat.sub_zero, Nat.zero_mul, Int.toNat_natCast, Int.reduceLE, decide_true, decide_false, Option.getD_none, ti3, ti4, ti22, ti24, ti52, ti54, ti55, ti56, ti58, regAt, fi37, body37, Try.f37, fi34, body34, Try.f34, fi16, body16, Try.f16, ↓exq_cd cd_code16, ↓exq_cd cd_c16_1, ↓exq_cd cd_c16_2, ↓exq_cd cd_c16_3, ↓exq_cd cd_c16_5, ↓exq_cd cd_c16_6, ↓exq_cd cd_c16_7, ↓exq_cd cd_c16_9, ↓exq_cd cd_c16_12, ↓exq_cd cd_c16_13, ↓exq_cd cd_c16_4, ↓exq_cd cd_c16_17, ↓exq_cd cd_c16_18, ↓exq_cd cd_c16_19, ↓exq_cd cd_c16_20, ↓exq_cd cd_c16_21, ↓exq_cd cd_c16_22, ↓exq_cd cd_c16_23, ↓exq_cd cd_c16_24, ↓exq_cd cd_c16_25, ↓exq_cd cd_code34, ↓exq_cd cd_c34_1, ↓exq_cd cd_c34_2, ↓exq_cd cd_c34_3, ↓exq_cd cd_code37, r16_1, r16_6, r16_12, r16_17, r16_19, r16_21, r16_23, r16_25, r34_1, r34_3, r37, plA16, pl16]
    repeat (refine And.intro (a := (_ = true)) (by first | (simp; done) | (simp; omega)) ?_)
    refine ObQ.wk (Wk.nilcell (l := 0) (pre := [_, _]) .u8 rfl 0 1) ?_; refine ObQ.wk (Wk.cut (l := 1) (n := M) rfl) ?_; exact ObQ.mk [0, 1, 3] (by decide) rfl rfl rfl ⟨rfl, rfl, rfl, trivial⟩
  | some k2 =>
    refine ExQ_ok [] 2000 plsOk noK ?_
    simp only [conf0, layD, fuP, fuL, htl]
    (try rw [exh]); simp (maxSteps := 4000000) only [h1, hm1, Int.toNat_natCast, stops, inK, stepF, frsF, frF, itemF, codeF, condF, opsF, opsW, opF, callO, drF, drO, drW, drC, stepS, wtS, gdst, gdl, sopF, pv, evq, bltF, callF, calleeS, popF, lopF, bltP, callP, cls, lvA, rdl, quiet, p_move, p_assign, p_pick, p_nilCheck, p_binOp, p_unOp, p_fieldAddr, p_slice, p_build, p_len, p_min, l_load, e_store, SY.get, SY.put, SY.ev, SY.mk, SY.nth, SY.lvl, SY.setl, SY.ini, wid, wids, dr, flat, at1, pack, rdC, rdCt, wrC, wrCt, ar, bopInt, bopEq, isPtr, bop, pickAV, bnd, subO, cutOf, okMx, fillA, nz, minI, enterS, leaveS, retS, finishS, killL, isDefs, resS, resAll, tup1, AV.scal, plk, exq_go, exq_f, ↓reduceIte, Nat.reduceLT, Nat.reduceLeDiff, Nat.reduceEqDiff, Nat.reduceAdd, Nat.reduceSub, Bool.true_and, Bool.not_false, Bool.not_true, List.contains_nil, reduceCtorEq, true_and, Bool.false_eq_true, List.map_cons, List.map_nil, Bool.and_self, List.length_cons, List.length_nil, List.cons_append, List.nil_append, Option.map_some, Option.map_none, List.append_nil, Nat.zero_add, Nat.add_zero, Nat.sub_zero, Nat.zero_mul, Int.toNat_natCast, Int.reduceLE, decide_true, decide_false, Option.getD_none, ti3, ti4, ti22, ti24, ti52, ti54, ti55, ti56, ti58, regAt, fi37, body37, Try.f37, fi34, body34, Try.f34, fi16, body16, Try.f16, ↓exq_cd cd_code16, ↓exq_cd cd_c16_1, ↓exq_cd cd_c16_2, ↓exq_cd cd_c16_3, ↓exq_cd cd_c16_5, ↓exq_cd cd_c16_6, ↓exq_cd cd_c16_7, ↓exq_cd cd_c16_9, ↓exq_cd cd_c16_12, ↓exq_cd cd_c16_13, ↓exq_cd cd_c16_4, ↓exq_cd cd_c16_17, ↓exq_cd cd_c16_18, ↓exq_cd cd_c16_19, ↓exq_cd cd_c16_20, ↓exq_cd cd_c16_21, ↓exq_cd cd_c16_22, ↓exq_cd cd_c16_23, ↓exq_cd cd_c16_24, ↓exq_cd cd_c16_25, ↓exq_cd cd_code34, ↓exq_cd cd_c34_1, ↓exq_cd cd_c34_2, ↓exq_cd cd_c34_3, ↓exq_cd cd_code37, r16_1, r16_6, r16_12, r16_17, r16_19, r16_21, r16_23, r16_25, r34_1, r34_3, r37, plA16, pl16]
    repeat (refine And.intro (a := (_ = true)) (by first | (simp; done) | (simp; omega)) ?_)
    refine ObQ.wk (Wk.nilcell (l := 0) (pre := [_, _]) .u8 rfl 0 1) ?_; refine ObQ.wk (Wk.cut (l := 1) (n := M) rfl) ?_; exact ObQ.mk [0, 1, 4] (by decide) rfl rfl rfl ⟨rfl, rfl, rfl, trivial⟩
end DW
end Go.Proofs.Ytmdepmhamefheaa
