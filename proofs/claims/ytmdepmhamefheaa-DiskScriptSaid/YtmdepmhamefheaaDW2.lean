/- Disks: the words of Sync, Switch, Room, Fuse, Crash, Wipe, Len, Firm, Up, Steps. -/
import Derived.Test.YtmdepmhamefheaaDW1
set_option linter.unusedSimpArgs false
set_option linter.unusedVariables false
-- FUNCTIONS 11 15 36 37 38 34 52 54
namespace Go.Proofs.Ytmdepmhamefheaa
open Go Go.SY
namespace DW
def dSync (s : DS) : Int × DS := if s.out = true then (11, s) else match s.u with
  | none => (0, ⟨s.l, s.l.length, s.x, s.xf, s.room, s.n + 1, none, false⟩)
  | some k => if k = 0 then (11, ⟨s.l, s.f, s.x, s.xf, s.room, s.n + 1, some 0, true⟩) else (0, ⟨s.l, s.l.length, s.x, s.xf, s.room, s.n + 1, some (k - 1), false⟩)
def dSwitch (s : DS) : Int × DS := if s.out = true then (11, s) else match s.u with
  | none => (0, ⟨s.x, s.x.length, [], 0, s.room, s.n + 1, none, false⟩)
  | some k => if k = 0 then (11, ⟨s.l, s.f, s.x, s.xf, s.room, s.n + 1, some 0, true⟩) else (0, ⟨s.x, s.x.length, [], 0, s.room, s.n + 1, some (k - 1), false⟩)
def dRoom (s : DS) (k : Int) : Int × DS := if k < 0 ∨ 1000000 < k then (2, s) else (0, ⟨s.l, s.f, s.x, s.xf, k, s.n, s.u, s.out⟩)
def dFuse (s : DS) (k : Int) : Int × DS := if k < 0 then (2, s) else (0, ⟨s.l, s.f, s.x, s.xf, s.room, s.n, some k, s.out⟩)
/-- How much of the log a crash leaves. -/
def crN (s : DS) (k : Int) : Nat := (s.f + min k (s.l.length - s.f)).toNat
def dCrash (s : DS) (k : Int) : Int × DS := if k < 0 then (2, s) else (0, ⟨s.l.take (crN s k), crN s k, [], 0, s.room, s.n, none, false⟩)
def dWipe (s : DS) : Int × DS := (0, ⟨[], 0, [], 0, s.room, s.n, none, false⟩)
set_option maxRecDepth 100000 in
set_option maxHeartbeats 4000000 in
theorem sync_word (s : DS) (hs : numOk s = true) : Word Try.prog (plOf pls) 11 [.ptr 0 0 9 0] (layD s) (ObQ 1 (.v (.int .i64 (dSync s).1)) (layD (dSync s).2)) := by
  obtain ⟨l, f, x, xf, room, n, u, out⟩ := s
  simp only [numOk, Bool.and_eq_true, decide_eq_true_eq] at hs
  obtain ⟨hn0, hn1, hlx, hf0, hf1, hu⟩ := hs
  refine ⟨_, fi11, by simp, fun C hC hl => ?_⟩
  cases out with
  | true =>
    have e : dSync ⟨l, f, x, xf, room, n, u, true⟩ = (11, ⟨l, f, x, xf, room, n, u, true⟩) := by simp [dSync]
    rw [e]
    cases u with
    | none =>
      refine ExQ_ok [] 2000 plsOk noK ?_
      simp only [conf0, layD, fuP, fuL]
      (try rw [exh]); simp (maxSteps := 4000000) only [stops, inK, stepF, frsF, frF, itemF, codeF, condF, opsF, opsW, opF, callO, stepS, wtS, gdst, gdl, sopF, pv, callF, calleeS, p_move, p_assign, p_pick, p_nilCheck, p_binOp, p_unOp, p_fieldAddr, p_makeFunc, l_load, SY.get, SY.put, SY.ev, SY.mk, SY.nth, SY.lvl, SY.ini, dr, at1, rdC, rdCt, bopEq, isPtr, bop, pickAV, enterS, leaveS, retS, finishS, killL, isDefs, resS, resAll, tup1, AV.scal, exq_go, exq_t, exq_f, ↓reduceIte, Nat.reduceLT, Nat.reduceLeDiff, Nat.reduceEqDiff, Nat.reduceAdd, Nat.reduceSub, Bool.not_false, Bool.not_true, List.contains_nil, reduceCtorEq, true_and, List.map_cons, List.map_nil, Bool.and_self, List.length_cons, List.length_nil, List.nil_append, List.append_nil, Nat.zero_add, Nat.zero_mul, Int.reduceLE, decide_true, ti4, ti24, ti58, regAt, fi11, body11, Try.f11, fi36, body36, Try.f36, fi34, body34, Try.f34, ↓exq_cd cd_code11, ↓exq_cd cd_c11_1, ↓exq_cd cd_c11_2, ↓exq_cd cd_c11_3, ↓exq_cd cd_code34, ↓exq_cd cd_c34_1, ↓exq_cd cd_c34_2, ↓exq_cd cd_c34_3, ↓exq_cd cd_code36, ↓exq_cd cd_c36_1, ↓exq_cd cd_c36_2, ↓exq_cd cd_c36_3, ↓exq_cd cd_c36_5, ↓exq_cd cd_c36_6, ↓exq_cd cd_c36_7, ↓exq_cd cd_c36_9, ↓exq_cd cd_c36_12, ↓exq_cd cd_c36_13, ↓exq_cd cd_c36_14, ↓exq_cd cd_c36_16, r11_1, r11_3, r34_1, r34_3, r36_1, r36_6, r36_12, r36_16]
      repeat (refine And.intro (a := (_ = true)) (by first | (simp; done) | (simp; omega)) ?_)
      exact ObQ.mk [0, 1, 2] (by decide) rfl rfl rfl ⟨rfl, rfl, rfl, trivial⟩
    | some k =>
      refine ExQ_ok [] 2000 plsOk noK ?_
      simp only [conf0, layD, fuP, fuL]
      (try rw [exh]); simp (maxSteps := 4000000) only [stops, inK, stepF, frsF, frF, itemF, codeF, condF, opsF, opsW, opF, callO, stepS, wtS, gdst, gdl, sopF, pv, callF, calleeS, p_move, p_assign, p_pick, p_nilCheck, p_binOp, p_unOp, p_fieldAddr, p_makeFunc, l_load, SY.get, SY.put, SY.ev, SY.mk, SY.nth, SY.lvl, SY.ini, dr, at1, rdC, rdCt, bopEq, isPtr, bop, pickAV, enterS, leaveS, retS, finishS, killL, isDefs, resS, resAll, tup1, AV.scal, exq_go, exq_t, exq_f, ↓reduceIte, Nat.reduceLT, Nat.reduceLeDiff, Nat.reduceEqDiff, Nat.reduceAdd, Nat.reduceSub, Bool.not_false, Bool.not_true, List.contains_nil, reduceCtorEq, true_and, List.map_cons, List.map_nil, Bool.and_self, List.length_cons, List.length_nil, List.nil_append, List.append_nil, Nat.zero_add, Nat.zero_mul, Int.reduceLE, decide_true, ti4, ti24, ti58, regAt, fi11, body11, Try.f11, fi36, body36, Try.f36, fi34, body34, Try.f34, ↓exq_cd cd_code11, ↓exq_cd cd_c11_1, ↓exq_cd cd_c11_2, ↓exq_cd cd_c11_3, ↓exq_cd cd_code34, ↓exq_cd cd_c34_1, ↓exq_cd cd_c34_2, ↓exq_cd cd_c34_3, ↓exq_cd cd_code36, ↓exq_cd cd_c36_1, ↓exq_cd cd_c36_2, ↓exq_cd cd_c36_3, ↓exq_cd cd_c36_5, ↓exq_cd cd_c36_6, ↓exq_cd cd_c36_7, ↓exq_cd cd_c36_9, ↓exq_cd cd_c36_12, ↓exq_cd cd_c36_13, ↓exq_cd cd_c36_14, ↓exq_cd cd_c36_16, r11_1, r11_3, r34_1, r34_3, r36_1, r36_6, r36_12, r36_16]
      repeat (refine And.intro (a := (_ = true)) (by first | (simp; done) | (simp; omega)) ?_)
      exact ObQ.mk [0, 1, 2, 3] (by decide) rfl rfl rfl ⟨rfl, rfl, rfl, rfl, trivial⟩
  | false =>
    cases u with
    | none =>
      have e : dSync ⟨l, f, x, xf, room, n, none, false⟩ = (0, ⟨l, l.length, x, xf, room, n + 1, none, false⟩) := by simp [dSync]
      rw [e]
      refine ExQ_ok [] 2000 plsOk noK ?_
      simp only [conf0, layD, fuP, fuL]
      (try rw [exh]); simp (maxSteps := 4000000) only [stops, inK, stepF, frsF, frF, itemF, codeF, condF, opsF, opsW, opF, callO, stepS, wtS, gdst, gdl, sopF, pv, evq, bltF, callF, calleeS, quiet, p_move, p_assign, p_pick, p_nilCheck, p_binOp, p_unOp, p_fieldAddr, p_makeFunc, p_len, l_load, e_store, SY.get, SY.put, SY.ev, SY.mk, SY.nth, SY.lvl, SY.setl, SY.ini, dr, flat, at1, rdC, rdCt, wrC, wrCt, ar, bopInt, bopEq, isPtr, bop, pickAV, enterS, leaveS, retS, finishS, killL, isDefs, resS, resAll, tup1, AV.scal, exq_go, exq_f, ↓reduceIte, Nat.reduceLT, Nat.reduceLeDiff, Nat.reduceEqDiff, Nat.reduceAdd, Nat.reduceSub, Bool.not_false, Bool.not_true, List.contains_nil, Option.isNone_none, reduceCtorEq, true_and, List.map_cons, List.map_nil, Bool.and_self, List.length_cons, List.length_nil, List.cons_append, List.nil_append, List.append_nil, Nat.zero_add, Nat.add_zero, Nat.zero_mul, Int.reduceLE, decide_true, ti3, ti4, ti22, ti24, ti52, ti54, ti56, ti58, regAt, fi11, body11, Try.f11, fi36, body36, Try.f36, fi37, body37, Try.f37, fi34, body34, Try.f34, fi52, body52, Try.f52, fi54, code54, Try.f54, ↓exq_cd cd_code11, ↓exq_cd cd_c11_1, ↓exq_cd cd_c11_2, ↓exq_cd cd_c11_3, ↓exq_cd cd_code34, ↓exq_cd cd_c34_1, ↓exq_cd cd_c34_2, ↓exq_cd cd_c34_3, ↓exq_cd cd_code36, ↓exq_cd cd_c36_1, ↓exq_cd cd_c36_2, ↓exq_cd cd_c36_3, ↓exq_cd cd_c36_5, ↓exq_cd cd_c36_6, ↓exq_cd cd_c36_7, ↓exq_cd cd_c36_9, ↓exq_cd cd_c36_12, ↓exq_cd cd_c36_13, ↓exq_cd cd_c36_4, ↓exq_cd cd_c36_17, ↓exq_cd cd_code37, ↓exq_cd cd_code52, ↓exq_cd cd_c52_1, ↓exq_cd cd_c52_2, ↓exq_cd cd_c52_3, ↓exq_cd cd_c52_4, ↓exq_cd cd_c52_5, ↓exq_cd cd_c52_6, ↓exq_cd cd_c52_7, ↓exq_cd cd_c52_8, ↓exq_cd cd_c52_9, ↓exq_cd cd_c52_11, ↓exq_cd cd_c52_12, ↓exq_cd cd_c52_10, ↓exq_cd cd_c52_18, ↓exq_cd cd_c52_19, ↓exq_cd cd_c52_20, ↓exq_cd cd_c52_22, ↓exq_cd cd_c52_23, ↓exq_cd cd_c52_21, ↓exq_cd cd_c52_26, r11_1, r11_3, r34_1, r34_3, r36_1, r36_6, r36_12, r36_17, r37, r52_1, r52_3, r52_5, r52_7, r52_11, r52_18, r52_22, r52_26]
      repeat (refine And.intro (a := (_ = true)) (by first | (simp; done) | (simp; omega)) ?_)
      exact ObQ.mk [0, 1, 2] (by decide) rfl rfl rfl ⟨rfl, rfl, rfl, trivial⟩
    | some k =>
      simp only [fuOk, Bool.and_eq_true, decide_eq_true_eq] at hu
      by_cases hk : k = 0
      · subst hk
        have e : dSync ⟨l, f, x, xf, room, n, some 0, false⟩ = (11, ⟨l, f, x, xf, room, n + 1, some 0, true⟩) := by simp [dSync]
        rw [e]
        refine ExQ_ok [] 2000 plsOk noK ?_
        simp only [conf0, layD, fuP, fuL]
        (try rw [exh]); simp (maxSteps := 4000000) only [stops, inK, stepF, frsF, frF, itemF, codeF, condF, opsF, opsW, opF, callO, stepS, wtS, gdst, gdl, sopF, pv, evq, callF, calleeS, quiet, p_move, p_assign, p_pick, p_nilCheck, p_binOp, p_unOp, p_fieldAddr, p_makeFunc, l_load, e_store, SY.get, SY.put, SY.ev, SY.mk, SY.nth, SY.lvl, SY.setl, SY.ini, dr, flat, at1, rdC, rdCt, wrC, wrCt, ar, bopInt, bopEq, isPtr, bop, pickAV, enterS, leaveS, retS, finishS, killL, isDefs, resS, resAll, tup1, AV.scal, exq_go, exq_t, exq_f, ↓reduceIte, Nat.reduceLT, Nat.reduceLeDiff, Nat.reduceEqDiff, Nat.reduceAdd, Nat.reduceSub, Bool.not_false, Bool.not_true, List.contains_nil, reduceCtorEq, true_and, List.map_cons, List.map_nil, Bool.and_self, List.length_cons, List.length_nil, List.cons_append, List.nil_append, List.append_nil, Nat.zero_add, Nat.add_zero, Nat.zero_mul, Nat.mul_one, Int.reduceLE, decide_true, ti3, ti4, ti24, ti56, ti58, regAt, fi11, body11, Try.f11, fi36, body36, Try.f36, fi34, body34, Try.f34, fi52, body52, Try.f52, fi54, code54, Try.f54, ↓exq_cd cd_code11, ↓exq_cd cd_c11_1, ↓exq_cd cd_c11_2, ↓exq_cd cd_c11_3, ↓exq_cd cd_code34, ↓exq_cd cd_c34_1, ↓exq_cd cd_c34_2, ↓exq_cd cd_c34_3, ↓exq_cd cd_code36, ↓exq_cd cd_c36_1, ↓exq_cd cd_c36_2, ↓exq_cd cd_c36_3, ↓exq_cd cd_c36_5, ↓exq_cd cd_c36_6, ↓exq_cd cd_c36_7, ↓exq_cd cd_c36_9, ↓exq_cd cd_c36_12, ↓exq_cd cd_c36_13, ↓exq_cd cd_c36_4, ↓exq_cd cd_c36_17, ↓exq_cd cd_code52, ↓exq_cd cd_c52_1, ↓exq_cd cd_c52_2, ↓exq_cd cd_c52_3, ↓exq_cd cd_c52_4, ↓exq_cd cd_c52_5, ↓exq_cd cd_c52_6, ↓exq_cd cd_c52_7, ↓exq_cd cd_c52_8, ↓exq_cd cd_c52_9, ↓exq_cd cd_c52_11, ↓exq_cd cd_c52_12, ↓exq_cd cd_c52_13, ↓exq_cd cd_c52_15, ↓exq_cd cd_c52_16, ↓exq_cd cd_c52_17, r11_1, r11_3, r34_1, r34_3, r36_1, r36_6, r36_12, r36_17, r52_1, r52_3, r52_5, r52_7, r52_11, r52_15, r52_17]
        repeat (refine And.intro (a := (_ = true)) (by first | (simp; done) | (simp; omega)) ?_)
        exact ObQ.mk [0, 1, 2, 3] (by decide) rfl rfl rfl ⟨rfl, rfl, rfl, rfl, trivial⟩
      · have e : dSync ⟨l, f, x, xf, room, n, some k, false⟩ = (0, ⟨l, l.length, x, xf, room, n + 1, some (k - 1), false⟩) := by simp [dSync, hk]
        rw [e]
        refine ExQ_ok [] 2000 plsOk noK ?_
        simp only [conf0, layD, fuP, fuL]
        (try rw [exh]); simp (maxSteps := 4000000) only [hk, stops, inK, stepF, frsF, frF, itemF, codeF, condF, opsF, opsW, opF, callO, stepS, wtS, gdst, gdl, sopF, pv, evq, bltF, callF, calleeS, quiet, p_move, p_assign, p_pick, p_nilCheck, p_binOp, p_unOp, p_fieldAddr, p_makeFunc, p_len, l_load, e_store, SY.get, SY.put, SY.ev, SY.mk, SY.nth, SY.lvl, SY.setl, SY.ini, dr, flat, at1, rdC, rdCt, wrC, wrCt, ar, bopInt, bopEq, isPtr, bop, pickAV, enterS, leaveS, retS, finishS, killL, isDefs, resS, resAll, tup1, AV.scal, exq_go, exq_t, exq_f, ↓reduceIte, Nat.reduceLT, Nat.reduceLeDiff, Nat.reduceEqDiff, Nat.reduceAdd, Nat.reduceSub, Bool.not_false, Bool.not_true, List.contains_nil, reduceCtorEq, true_and, List.map_cons, List.map_nil, Bool.and_self, List.length_cons, List.length_nil, List.cons_append, List.nil_append, List.append_nil, Nat.zero_add, Nat.add_zero, Nat.zero_mul, Nat.mul_one, Int.reduceLE, decide_true, decide_false, ti3, ti4, ti22, ti24, ti52, ti54, ti56, ti58, regAt, fi11, body11, Try.f11, fi36, body36, Try.f36, fi37, body37, Try.f37, fi34, body34, Try.f34, fi52, body52, Try.f52, fi54, code54, Try.f54, ↓exq_cd cd_code11, ↓exq_cd cd_c11_1, ↓exq_cd cd_c11_2, ↓exq_cd cd_c11_3, ↓exq_cd cd_code34, ↓exq_cd cd_c34_1, ↓exq_cd cd_c34_2, ↓exq_cd cd_c34_3, ↓exq_cd cd_code36, ↓exq_cd cd_c36_1, ↓exq_cd cd_c36_2, ↓exq_cd cd_c36_3, ↓exq_cd cd_c36_5, ↓exq_cd cd_c36_6, ↓exq_cd cd_c36_7, ↓exq_cd cd_c36_9, ↓exq_cd cd_c36_12, ↓exq_cd cd_c36_13, ↓exq_cd cd_c36_4, ↓exq_cd cd_c36_17, ↓exq_cd cd_code37, ↓exq_cd cd_code52, ↓exq_cd cd_c52_1, ↓exq_cd cd_c52_2, ↓exq_cd cd_c52_3, ↓exq_cd cd_c52_4, ↓exq_cd cd_c52_5, ↓exq_cd cd_c52_6, ↓exq_cd cd_c52_7, ↓exq_cd cd_c52_8, ↓exq_cd cd_c52_9, ↓exq_cd cd_c52_11, ↓exq_cd cd_c52_12, ↓exq_cd cd_c52_10, ↓exq_cd cd_c52_18, ↓exq_cd cd_c52_19, ↓exq_cd cd_c52_20, ↓exq_cd cd_c52_22, ↓exq_cd cd_c52_23, ↓exq_cd cd_c52_24, ↓exq_cd cd_c52_21, ↓exq_cd cd_c52_26, r11_1, r11_3, r34_1, r34_3, r36_1, r36_6, r36_12, r36_17, r37, r52_1, r52_3, r52_5, r52_7, r52_11, r52_18, r52_22, r52_24, r52_26]
        repeat (refine And.intro (a := (_ = true)) (by first | (simp; done) | (simp; omega)) ?_)
        exact ObQ.mk [0, 1, 2, 3] (by decide) rfl rfl rfl ⟨rfl, rfl, rfl, rfl, trivial⟩
set_option maxRecDepth 100000 in
set_option maxHeartbeats 4000000 in
theorem switch_word (s : DS) (hs : numOk s = true) : Word Try.prog (plOf pls) 15 [.ptr 0 0 9 0] (layD s) (ObQ 1 (.v (.int .i64 (dSwitch s).1)) (layD (dSwitch s).2)) := by
  obtain ⟨l, f, x, xf, room, n, u, out⟩ := s
  simp only [numOk, Bool.and_eq_true, decide_eq_true_eq] at hs
  obtain ⟨hn0, hn1, hlx, hf0, hf1, hu⟩ := hs
  refine ⟨_, fi15, by simp, fun C hC hl => ?_⟩
  cases out with
  | true =>
    have e : dSwitch ⟨l, f, x, xf, room, n, u, true⟩ = (11, ⟨l, f, x, xf, room, n, u, true⟩) := by simp [dSwitch]
    rw [e]
    cases u with
    | none =>
      refine ExQ_ok [] 2000 plsOk noK ?_
      simp only [conf0, layD, fuP, fuL]
      (try rw [exh]); simp (maxSteps := 4000000) only [stops, inK, stepF, frsF, frF, itemF, codeF, condF, opsF, opsW, opF, callO, stepS, wtS, gdst, gdl, sopF, pv, callF, calleeS, p_move, p_assign, p_pick, p_nilCheck, p_binOp, p_unOp, p_fieldAddr, p_makeFunc, l_load, SY.get, SY.put, SY.ev, SY.mk, SY.nth, SY.lvl, SY.ini, dr, at1, rdC, rdCt, bopEq, isPtr, bop, pickAV, enterS, leaveS, retS, finishS, killL, isDefs, resS, resAll, tup1, AV.scal, exq_go, exq_t, exq_f, ↓reduceIte, Nat.reduceLT, Nat.reduceLeDiff, Nat.reduceEqDiff, Nat.reduceAdd, Nat.reduceSub, Bool.not_false, Bool.not_true, List.contains_nil, reduceCtorEq, true_and, List.map_cons, List.map_nil, Bool.and_self, List.length_cons, List.length_nil, List.nil_append, List.append_nil, Nat.zero_add, Nat.zero_mul, Int.reduceLE, decide_true, ti4, ti24, ti58, regAt, fi15, body15, Try.f15, fi36, body36, Try.f36, fi34, body34, Try.f34, ↓exq_cd cd_code15, ↓exq_cd cd_c15_1, ↓exq_cd cd_c15_2, ↓exq_cd cd_c15_3, ↓exq_cd cd_code34, ↓exq_cd cd_c34_1, ↓exq_cd cd_c34_2, ↓exq_cd cd_c34_3, ↓exq_cd cd_code36, ↓exq_cd cd_c36_1, ↓exq_cd cd_c36_2, ↓exq_cd cd_c36_3, ↓exq_cd cd_c36_5, ↓exq_cd cd_c36_6, ↓exq_cd cd_c36_7, ↓exq_cd cd_c36_9, ↓exq_cd cd_c36_12, ↓exq_cd cd_c36_13, ↓exq_cd cd_c36_14, ↓exq_cd cd_c36_16, r15_1, r15_3, r34_1, r34_3, r36_1, r36_6, r36_12, r36_16]
      repeat (refine And.intro (a := (_ = true)) (by first | (simp; done) | (simp; omega)) ?_)
      exact ObQ.mk [0, 1, 2] (by decide) rfl rfl rfl ⟨rfl, rfl, rfl, trivial⟩
    | some k =>
      refine ExQ_ok [] 2000 plsOk noK ?_
      simp only [conf0, layD, fuP, fuL]
      (try rw [exh]); simp (maxSteps := 4000000) only [stops, inK, stepF, frsF, frF, itemF, codeF, condF, opsF, opsW, opF, callO, stepS, wtS, gdst, gdl, sopF, pv, callF, calleeS, p_move, p_assign, p_pick, p_nilCheck, p_binOp, p_unOp, p_fieldAddr, p_makeFunc, l_load, SY.get, SY.put, SY.ev, SY.mk, SY.nth, SY.lvl, SY.ini, dr, at1, rdC, rdCt, bopEq, isPtr, bop, pickAV, enterS, leaveS, retS, finishS, killL, isDefs, resS, resAll, tup1, AV.scal, exq_go, exq_t, exq_f, ↓reduceIte, Nat.reduceLT, Nat.reduceLeDiff, Nat.reduceEqDiff, Nat.reduceAdd, Nat.reduceSub, Bool.not_false, Bool.not_true, List.contains_nil, reduceCtorEq, true_and, List.map_cons, List.map_nil, Bool.and_self, List.length_cons, List.length_nil, List.nil_append, List.append_nil, Nat.zero_add, Nat.zero_mul, Int.reduceLE, decide_true, ti4, ti24, ti58, regAt, fi15, body15, Try.f15, fi36, body36, Try.f36, fi34, body34, Try.f34, ↓exq_cd cd_code15, ↓exq_cd cd_c15_1, ↓exq_cd cd_c15_2, ↓exq_cd cd_c15_3, ↓exq_cd cd_code34, ↓exq_cd cd_c34_1, ↓exq_cd cd_c34_2, ↓exq_cd cd_c34_3, ↓exq_cd cd_code36, ↓exq_cd cd_c36_1, ↓exq_cd cd_c36_2, ↓exq_cd cd_c36_3, ↓exq_cd cd_c36_5, ↓exq_cd cd_c36_6, ↓exq_cd cd_c36_7, ↓exq_cd cd_c36_9, ↓exq_cd cd_c36_12, ↓exq_cd cd_c36_13, ↓exq_cd cd_c36_14, ↓exq_cd cd_c36_16, r15_1, r15_3, r34_1, r34_3, r36_1, r36_6, r36_12, r36_16]
      repeat (refine And.intro (a := (_ = true)) (by first | (simp; done) | (simp; omega)) ?_)
      exact ObQ.mk [0, 1, 2, 3] (by decide) rfl rfl rfl ⟨rfl, rfl, rfl, rfl, trivial⟩
  | false =>
    cases u with
    | none =>
      have e : dSwitch ⟨l, f, x, xf, room, n, none, false⟩ = (0, ⟨x, x.length, [], 0, room, n + 1, none, false⟩) := by simp [dSwitch]
      rw [e]
      refine ExQ_ok [] 2000 plsOk noK ?_
      simp only [conf0, layD, fuP, fuL]
      (try rw [exh]); simp (maxSteps := 4000000) only [stops, inK, stepF, frsF, frF, itemF, codeF, condF, opsF, opsW, opF, callO, stepS, wtS, gdst, gdl, sopF, pv, evq, bltF, callF, calleeS, quiet, p_move, p_assign, p_pick, p_nilCheck, p_binOp, p_unOp, p_fieldAddr, p_makeFunc, p_build, p_len, l_load, e_store, SY.get, SY.put, SY.ev, SY.mk, SY.nth, SY.lvl, SY.setl, SY.ini, wid, wids, dr, tk, flat, at1, pack, rdC, rdCt, wrC, wrCt, ar, bopInt, bopEq, isPtr, bop, pickAV, fillA, nz, enterS, leaveS, retS, finishS, killL, isDefs, resS, resAll, tup1, AV.scal, exq_go, exq_f, ↓reduceIte, Nat.reduceLT, Nat.reduceLeDiff, Nat.reduceEqDiff, Nat.reduceAdd, Nat.reduceSub, Bool.not_false, Bool.not_true, List.contains_nil, Option.isNone_none, reduceCtorEq, true_and, List.map_cons, List.map_nil, Bool.and_self, List.length_cons, List.length_nil, List.cons_append, List.nil_append, List.append_nil, Nat.zero_add, Nat.add_zero, Nat.zero_mul, Int.reduceLE, decide_true, ti3, ti4, ti22, ti24, ti52, ti54, ti55, ti56, ti58, regAt, fi15, body15, Try.f15, fi36, body36, Try.f36, fi37, body37, Try.f37, fi38, body38, Try.f38, fi34, body34, Try.f34, fi52, body52, Try.f52, fi54, code54, Try.f54, ↓exq_cd cd_code15, ↓exq_cd cd_c15_1, ↓exq_cd cd_c15_2, ↓exq_cd cd_c15_3, ↓exq_cd cd_code34, ↓exq_cd cd_c34_1, ↓exq_cd cd_c34_2, ↓exq_cd cd_c34_3, ↓exq_cd cd_code36, ↓exq_cd cd_c36_1, ↓exq_cd cd_c36_2, ↓exq_cd cd_c36_3, ↓exq_cd cd_c36_5, ↓exq_cd cd_c36_6, ↓exq_cd cd_c36_7, ↓exq_cd cd_c36_9, ↓exq_cd cd_c36_12, ↓exq_cd cd_c36_13, ↓exq_cd cd_c36_4, ↓exq_cd cd_c36_17, ↓exq_cd cd_code37, ↓exq_cd cd_code38, ↓exq_cd cd_c38_1, ↓exq_cd cd_c38_2, ↓exq_cd cd_code52, ↓exq_cd cd_c52_1, ↓exq_cd cd_c52_2, ↓exq_cd cd_c52_3, ↓exq_cd cd_c52_4, ↓exq_cd cd_c52_5, ↓exq_cd cd_c52_6, ↓exq_cd cd_c52_7, ↓exq_cd cd_c52_8, ↓exq_cd cd_c52_9, ↓exq_cd cd_c52_11, ↓exq_cd cd_c52_12, ↓exq_cd cd_c52_10, ↓exq_cd cd_c52_18, ↓exq_cd cd_c52_19, ↓exq_cd cd_c52_20, ↓exq_cd cd_c52_22, ↓exq_cd cd_c52_23, ↓exq_cd cd_c52_21, ↓exq_cd cd_c52_26, r15_1, r15_3, r34_1, r34_3, r36_1, r36_6, r36_12, r36_17, r37, r38_1, r38_2, r52_1, r52_3, r52_5, r52_7, r52_11, r52_18, r52_22, r52_26]
      repeat (refine And.intro (a := (_ = true)) (by first | (simp; done) | (simp; omega)) ?_)
      refine ObQ.wk (Wk.nilcell (l := 0) (pre := [_, _]) .u8 rfl 0 1) ?_; exact ObQ.mk [0, 2, 3] (by decide) rfl rfl rfl ⟨rfl, rfl, rfl, trivial⟩
    | some k =>
      simp only [fuOk, Bool.and_eq_true, decide_eq_true_eq] at hu
      by_cases hk : k = 0
      · subst hk
        have e : dSwitch ⟨l, f, x, xf, room, n, some 0, false⟩ = (11, ⟨l, f, x, xf, room, n + 1, some 0, true⟩) := by simp [dSwitch]
        rw [e]
        refine ExQ_ok [] 2000 plsOk noK ?_
        simp only [conf0, layD, fuP, fuL]
        (try rw [exh]); simp (maxSteps := 4000000) only [stops, inK, stepF, frsF, frF, itemF, codeF, condF, opsF, opsW, opF, callO, stepS, wtS, gdst, gdl, sopF, pv, evq, callF, calleeS, quiet, p_move, p_assign, p_pick, p_nilCheck, p_binOp, p_unOp, p_fieldAddr, p_makeFunc, l_load, e_store, SY.get, SY.put, SY.ev, SY.mk, SY.nth, SY.lvl, SY.setl, SY.ini, dr, flat, at1, rdC, rdCt, wrC, wrCt, ar, bopInt, bopEq, isPtr, bop, pickAV, enterS, leaveS, retS, finishS, killL, isDefs, resS, resAll, tup1, AV.scal, exq_go, exq_t, exq_f, ↓reduceIte, Nat.reduceLT, Nat.reduceLeDiff, Nat.reduceEqDiff, Nat.reduceAdd, Nat.reduceSub, Bool.not_false, Bool.not_true, List.contains_nil, reduceCtorEq, true_and, List.map_cons, List.map_nil, Bool.and_self, List.length_cons, List.length_nil, List.cons_append, List.nil_append, List.append_nil, Nat.zero_add, Nat.add_zero, Nat.zero_mul, Nat.mul_one, Int.reduceLE, decide_true, ti3, ti4, ti24, ti56, ti58, regAt, fi15, body15, Try.f15, fi36, body36, Try.f36, fi34, body34, Try.f34, fi52, body52, Try.f52, fi54, code54, Try.f54, ↓exq_cd cd_code15, ↓exq_cd cd_c15_1, ↓exq_cd cd_c15_2, ↓exq_cd cd_c15_3, ↓exq_cd cd_code34, ↓exq_cd cd_c34_1, ↓exq_cd cd_c34_2, ↓exq_cd cd_c34_3, ↓exq_cd cd_code36, ↓exq_cd cd_c36_1, ↓exq_cd cd_c36_2, ↓exq_cd cd_c36_3, ↓exq_cd cd_c36_5, ↓exq_cd cd_c36_6, ↓exq_cd cd_c36_7, ↓exq_cd cd_c36_9, ↓exq_cd cd_c36_12, ↓exq_cd cd_c36_13, ↓exq_cd cd_c36_4, ↓exq_cd cd_c36_17, ↓exq_cd cd_code52, ↓exq_cd cd_c52_1, ↓exq_cd cd_c52_2, ↓exq_cd cd_c52_3, ↓exq_cd cd_c52_4, ↓exq_cd cd_c52_5, ↓exq_cd cd_c52_6, ↓exq_cd cd_c52_7, ↓exq_cd cd_c52_8, ↓exq_cd cd_c52_9, ↓exq_cd cd_c52_11, ↓exq_cd cd_c52_12, ↓exq_cd cd_c52_13, ↓exq_cd cd_c52_15, ↓exq_cd cd_c52_16, ↓exq_cd cd_c52_17, r15_1, r15_3, r34_1, r34_3, r36_1, r36_6, r36_12, r36_17, r52_1, r52_3, r52_5, r52_7, r52_11, r52_15, r52_17]
        repeat (refine And.intro (a := (_ = true)) (by first | (simp; done) | (simp; omega)) ?_)
        exact ObQ.mk [0, 1, 2, 3] (by decide) rfl rfl rfl ⟨rfl, rfl, rfl, rfl, trivial⟩
      · have e : dSwitch ⟨l, f, x, xf, room, n, some k, false⟩ = (0, ⟨x, x.length, [], 0, room, n + 1, some (k - 1), false⟩) := by simp [dSwitch, hk]
        rw [e]
        refine ExQ_ok [] 2000 plsOk noK ?_
        simp only [conf0, layD, fuP, fuL]
        (try rw [exh]); simp (maxSteps := 4000000) only [hk, stops, inK, stepF, frsF, frF, itemF, codeF, condF, opsF, opsW, opF, callO, stepS, wtS, gdst, gdl, sopF, pv, evq, bltF, callF, calleeS, quiet, p_move, p_assign, p_pick, p_nilCheck, p_binOp, p_unOp, p_fieldAddr, p_makeFunc, p_build, p_len, l_load, e_store, SY.get, SY.put, SY.ev, SY.mk, SY.nth, SY.lvl, SY.setl, SY.ini, wid, wids, dr, tk, flat, at1, pack, rdC, rdCt, wrC, wrCt, ar, bopInt, bopEq, isPtr, bop, pickAV, fillA, nz, enterS, leaveS, retS, finishS, killL, isDefs, resS, resAll, tup1, AV.scal, exq_go, exq_t, exq_f, ↓reduceIte, Nat.reduceLT, Nat.reduceLeDiff, Nat.reduceEqDiff, Nat.reduceAdd, Nat.reduceSub, Bool.not_false, Bool.not_true, List.contains_nil, reduceCtorEq, true_and, List.map_cons, List.map_nil, Bool.and_self, List.length_cons, List.length_nil, List.cons_append, List.nil_append, List.append_nil, Nat.zero_add, Nat.add_zero, Nat.zero_mul, Nat.mul_one, Int.reduceLE, decide_true, decide_false, ti3, ti4, ti22, ti24, ti52, ti54, ti55, ti56, ti58, regAt, fi15, body15, Try.f15, fi36, body36, Try.f36, fi37, body37, Try.f37, fi38, body38, Try.f38, fi34, body34, Try.f34, fi52, body52, Try.f52, fi54, code54, Try.f54, ↓exq_cd cd_code15, ↓exq_cd cd_c15_1, ↓exq_cd cd_c15_2, ↓exq_cd cd_c15_3, ↓exq_cd cd_code34, ↓exq_cd cd_c34_1, ↓exq_cd cd_c34_2, ↓exq_cd cd_c34_3, ↓exq_cd cd_code36, ↓exq_cd cd_c36_1, ↓exq_cd cd_c36_2, ↓exq_cd cd_c36_3, ↓exq_cd cd_c36_5, ↓exq_cd cd_c36_6, ↓exq_cd cd_c36_7, ↓exq_cd cd_c36_9, ↓exq_cd cd_c36_12, ↓exq_cd cd_c36_13, ↓exq_cd cd_c36_4, ↓exq_cd cd_c36_17, ↓exq_cd cd_code37, ↓exq_cd cd_code38, ↓exq_cd cd_c38_1, ↓exq_cd cd_c38_2, ↓exq_cd cd_code52, ↓exq_cd cd_c52_1, ↓exq_cd cd_c52_2, ↓exq_cd cd_c52_3, ↓exq_cd cd_c52_4, ↓exq_cd cd_c52_5, ↓exq_cd cd_c52_6, ↓exq_cd cd_c52_7, ↓exq_cd cd_c52_8, ↓exq_cd cd_c52_9, ↓exq_cd cd_c52_11, ↓exq_cd cd_c52_12, ↓exq_cd cd_c52_10, ↓exq_cd cd_c52_18, ↓exq_cd cd_c52_19, ↓exq_cd cd_c52_20, ↓exq_cd cd_c52_22, ↓exq_cd cd_c52_23, ↓exq_cd cd_c52_24, ↓exq_cd cd_c52_21, ↓exq_cd cd_c52_26, r15_1, r15_3, r34_1, r34_3, r36_1, r36_6, r36_12, r36_17, r37, r38_1, r38_2, r52_1, r52_3, r52_5, r52_7, r52_11, r52_18, r52_22, r52_24, r52_26]
        repeat (refine And.intro (a := (_ = true)) (by first | (simp; done) | (simp; omega)) ?_)
        refine ObQ.wk (Wk.nilcell (l := 0) (pre := [_, _]) .u8 rfl 0 1) ?_; exact ObQ.mk [0, 2, 4, 3] (by decide) rfl rfl rfl ⟨rfl, rfl, rfl, rfl, trivial⟩
end DW
end Go.Proofs.Ytmdepmhamefheaa
