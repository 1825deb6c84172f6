/- Disks: the word of the law's act. -/
import Derived.Test.YtmdepmhamefheaaDW4
set_option linter.unusedSimpArgs false
set_option linter.unusedVariables false
-- FUNCTIONS 25
namespace Go.Proofs.Ytmdepmhamefheaa
open Go Go.SY
namespace DW
theorem kD0_ok : KOk Try.prog (plOf pls) (kDk fun _ => none) := kDk_ok noK
def dAct (s : DS) (k n : Int) (b : List Int) : DS := if k = 0 ∨ k = 1 then (dLay false s b).2 else if k = 2 then (dSync s).2 else if k = 3 then (dLay true s b).2 else if k = 4 then (dSwitch s).2 else if k = 5 then (dRoom s n).2 else if k = 6 then (dFuse s n).2 else if k = 7 then (dCrash s n).2 else if k = 8 then (dWipe s).2 else s
theorem layD_one (s : DS) : 1 ≤ (layD s).length := by have := layD_len3 s; omega
set_option maxRecDepth 100000 in
set_option maxHeartbeats 8000000 in
theorem act_word (s : DS) (k n : Int) (t : Bool) (b : List Int) (c : Option Nat) (hs : numOk s = true) (hb : b.length ≤ 1000000000) (hn : n ≤ 9223372036854775807) : Word Try.prog (plOf pls) 25 [.ptr 0 0 9 0, .agg [.v (.int .i64 k), .v (.int .i64 n), .imn t .u8 b c]] (layD s) (ObQ 1 (.tup []) (layD (dAct s k n b))) := by
  obtain ⟨l, f, x, xf, room, m, u, out⟩ := s
  refine ⟨_, fi25, by simp, fun C hC hl => ?_⟩
  by_cases h0 : k = 0
  · subst h0
    cases u with
    | none =>
      have e : dAct ⟨l, f, x, xf, room, m, none, out⟩ 0 n b = (dLay false ⟨l, f, x, xf, room, m, none, out⟩ b).2 := by simp [dAct]
      rw [e]
      refine ExQ_ok [] 2000 plsOk kD0_ok ?_
      simp only [conf0, layD, fuP, fuL]
      (try rw [exh]); simp (maxSteps := 4000000) only [kDk, ktO, objK, osB, findD, mApp, nilN, hs, List.nodup_cons, List.mem_cons, List.not_mem_nil, stops, inK, stepF, frsF, frF, itemF, codeF, condF, opsF, opsW, opF, callO, wtS, sopF, pv, evq, callF, calleeS, quiet, p_move, p_assign, p_binOp, p_fieldAddr, l_load, e_box, SY.get, SY.put, SY.ev, SY.mk, SY.nth, SY.lvl, SY.ini, wid, wids, dr, flat, at1, rdC, rdCt, bopInt, bop, isArr, ctOf, leaveS, retS, killL, isDefs, resS, resAll, tup1, AV.scal, exq_go, exq_t, ↓reduceIte, Nat.reduceLT, Nat.reduceEqDiff, Nat.reduceAdd, Nat.reduceSub, Bool.and_true, Bool.true_and, reduceCtorEq, true_and, List.map_cons, List.map_nil, Bool.and_self, List.length_cons, List.length_nil, List.cons_append, List.nil_append, List.append_nil, Nat.zero_add, Nat.add_zero, Nat.zero_mul, Int.reduceLE, decide_true, alive, lnd, lvB, tB_tt, ren, not_false_eq_true, ti3, ti22, ti42, regAt, fi25, body25, Try.f25, ↓exq_cd cd_code25, ↓exq_cd cd_c25_1, ↓exq_cd cd_c25_2, ↓exq_cd cd_c25_3, ↓exq_cd cd_c25_4, ↓exq_cd cd_c25_5, ↓exq_cd cd_c25_6, ↓exq_cd cd_c25_8, ↓exq_cd cd_c25_9, ↓exq_cd cd_c25_7, ↓exq_cd cd_c25_12, r25_1, r25_3, r25_8, r25_12]
      repeat (refine And.intro (a := (_ = true)) (by first | (simp; done) | (simp; omega)) ?_)
      exact obq_obj (r1 := .tup []) (σ := [0, 1, 2]) (by decide) rfl rfl (by decide) (layD_one _) rfl (layD_ok _)
    | some w =>
      have e : dAct ⟨l, f, x, xf, room, m, some w, out⟩ 0 n b = (dLay false ⟨l, f, x, xf, room, m, some w, out⟩ b).2 := by simp [dAct]
      rw [e]
      refine ExQ_ok [] 2000 plsOk kD0_ok ?_
      simp only [conf0, layD, fuP, fuL]
      (try rw [exh]); simp (maxSteps := 4000000) only [kDk, ktO, objK, osB, findD, mApp, nilN, hs, List.nodup_cons, List.mem_cons, List.not_mem_nil, stops, inK, stepF, frsF, frF, itemF, codeF, condF, opsF, opsW, opF, callO, wtS, sopF, pv, evq, callF, calleeS, quiet, p_move, p_assign, p_binOp, p_fieldAddr, l_load, e_box, SY.get, SY.put, SY.ev, SY.mk, SY.nth, SY.lvl, SY.ini, wid, wids, dr, flat, at1, rdC, rdCt, bopInt, bop, isArr, ctOf, leaveS, retS, killL, isDefs, resS, resAll, tup1, AV.scal, exq_go, exq_t, ↓reduceIte, Nat.reduceLT, Nat.reduceEqDiff, Nat.reduceAdd, Nat.reduceSub, Bool.and_true, Bool.true_and, reduceCtorEq, true_and, List.map_cons, List.map_nil, Bool.and_self, List.length_cons, List.length_nil, List.cons_append, List.nil_append, List.append_nil, Nat.zero_add, Nat.add_zero, Nat.zero_mul, Int.reduceLE, decide_true, alive, lnd, lvB, tB_tt, ren, not_false_eq_true, ti3, ti22, ti42, regAt, fi25, body25, Try.f25, ↓exq_cd cd_code25, ↓exq_cd cd_c25_1, ↓exq_cd cd_c25_2, ↓exq_cd cd_c25_3, ↓exq_cd cd_c25_4, ↓exq_cd cd_c25_5, ↓exq_cd cd_c25_6, ↓exq_cd cd_c25_8, ↓exq_cd cd_c25_9, ↓exq_cd cd_c25_7, ↓exq_cd cd_c25_12, r25_1, r25_3, r25_8, r25_12]
      repeat (refine And.intro (a := (_ = true)) (by first | (simp; done) | (simp; omega)) ?_)
      exact obq_obj (r1 := .tup []) (σ := [0, 1, 2, 3]) (by decide) rfl rfl (by decide) (layD_one _) rfl (layD_ok _)
  by_cases h1 : k = 1
  · subst h1
    cases u with
    | none =>
      have e : dAct ⟨l, f, x, xf, room, m, none, out⟩ 1 n b = (dLay false ⟨l, f, x, xf, room, m, none, out⟩ b).2 := by simp [dAct]
      rw [e]
      refine ExQ_ok [] 2000 plsOk kD0_ok ?_
      simp only [conf0, layD, fuP, fuL]
      (try rw [exh]); simp (maxSteps := 4000000) only [kDk, ktO, objK, osB, findD, mApp, nilN, hs, List.nodup_cons, List.mem_cons, List.not_mem_nil, stops, inK, stepF, frsF, frF, itemF, codeF, condF, opsF, opsW, opF, callO, wtS, sopF, pv, evq, callF, calleeS, quiet, p_move, p_assign, p_binOp, p_fieldAddr, l_load, e_box, SY.get, SY.put, SY.ev, SY.mk, SY.nth, SY.lvl, SY.ini, wid, wids, dr, flat, at1, rdC, rdCt, bopInt, bop, isArr, ctOf, leaveS, retS, killL, isDefs, resS, resAll, tup1, AV.scal, exq_go, exq_t, exq_f, ↓reduceIte, Nat.reduceLT, Nat.reduceEqDiff, Nat.reduceAdd, Nat.reduceSub, Bool.and_true, Bool.true_and, reduceCtorEq, true_and, List.map_cons, List.map_nil, Bool.and_self, List.length_cons, List.length_nil, List.cons_append, List.nil_append, List.append_nil, Nat.zero_add, Nat.add_zero, Nat.zero_mul, Int.reduceEq, Int.reduceLE, decide_true, decide_false, alive, lnd, lvB, tB_tt, ren, not_false_eq_true, ti3, ti22, ti42, regAt, fi25, body25, Try.f25, ↓exq_cd cd_code25, ↓exq_cd cd_c25_1, ↓exq_cd cd_c25_2, ↓exq_cd cd_c25_3, ↓exq_cd cd_c25_4, ↓exq_cd cd_c25_5, ↓exq_cd cd_c25_6, ↓exq_cd cd_c25_8, ↓exq_cd cd_c25_9, ↓exq_cd cd_c25_10, ↓exq_cd cd_c25_7, ↓exq_cd cd_c25_12, r25_1, r25_3, r25_8, r25_10, r25_12]
      repeat (refine And.intro (a := (_ = true)) (by first | (simp; done) | (simp; omega)) ?_)
      exact obq_obj (r1 := .tup []) (σ := [0, 1, 2]) (by decide) rfl rfl (by decide) (layD_one _) rfl (layD_ok _)
    | some w =>
      have e : dAct ⟨l, f, x, xf, room, m, some w, out⟩ 1 n b = (dLay false ⟨l, f, x, xf, room, m, some w, out⟩ b).2 := by simp [dAct]
      rw [e]
      refine ExQ_ok [] 2000 plsOk kD0_ok ?_
      simp only [conf0, layD, fuP, fuL]
      (try rw [exh]); simp (maxSteps := 4000000) only [kDk, ktO, objK, osB, findD, mApp, nilN, hs, List.nodup_cons, List.mem_cons, List.not_mem_nil, stops, inK, stepF, frsF, frF, itemF, codeF, condF, opsF, opsW, opF, callO, wtS, sopF, pv, evq, callF, calleeS, quiet, p_move, p_assign, p_binOp, p_fieldAddr, l_load, e_box, SY.get, SY.put, SY.ev, SY.mk, SY.nth, SY.lvl, SY.ini, wid, wids, dr, flat, at1, rdC, rdCt, bopInt, bop, isArr, ctOf, leaveS, retS, killL, isDefs, resS, resAll, tup1, AV.scal, exq_go, exq_t, exq_f, ↓reduceIte, Nat.reduceLT, Nat.reduceEqDiff, Nat.reduceAdd, Nat.reduceSub, Bool.and_true, Bool.true_and, reduceCtorEq, true_and, List.map_cons, List.map_nil, Bool.and_self, List.length_cons, List.length_nil, List.cons_append, List.nil_append, List.append_nil, Nat.zero_add, Nat.add_zero, Nat.zero_mul, Int.reduceEq, Int.reduceLE, decide_true, decide_false, alive, lnd, lvB, tB_tt, ren, not_false_eq_true, ti3, ti22, ti42, regAt, fi25, body25, Try.f25, ↓exq_cd cd_code25, ↓exq_cd cd_c25_1, ↓exq_cd cd_c25_2, ↓exq_cd cd_c25_3, ↓exq_cd cd_c25_4, ↓exq_cd cd_c25_5, ↓exq_cd cd_c25_6, ↓exq_cd cd_c25_8, ↓exq_cd cd_c25_9, ↓exq_cd cd_c25_10, ↓exq_cd cd_c25_7, ↓exq_cd cd_c25_12, r25_1, r25_3, r25_8, r25_10, r25_12]
      repeat (refine And.intro (a := (_ = true)) (by first | (simp; done) | (simp; omega)) ?_)
      exact obq_obj (r1 := .tup []) (σ := [0, 1, 2, 3]) (by decide) rfl rfl (by decide) (layD_one _) rfl (layD_ok _)
  by_cases h2 : k = 2
  · subst h2
    cases u with
    | none =>
      have e : dAct ⟨l, f, x, xf, room, m, none, out⟩ 2 n b = (dSync ⟨l, f, x, xf, room, m, none, out⟩).2 := by simp [dAct]
      rw [e]
      refine ExQ_ok [] 2000 plsOk kD0_ok ?_
      simp only [conf0, layD, fuP, fuL]
      (try rw [exh]); simp (maxSteps := 4000000) only [kDk, ktO, objK, osK, findD, mSync, hs, List.nodup_cons, List.mem_cons, List.not_mem_nil, stops, inK, stepF, frsF, frF, itemF, codeF, condF, opsF, opsW, opF, callO, wtS, sopF, pv, evq, callF, calleeS, quiet, p_move, p_assign, p_binOp, p_fieldAddr, l_load, e_box, SY.get, SY.put, SY.ev, SY.mk, SY.nth, SY.lvl, SY.ini, wid, wids, dr, flat, at1, rdC, rdCt, bopInt, bop, isArr, ctOf, leaveS, retS, killL, isDefs, resS, resAll, tup1, AV.scal, exq_go, exq_t, exq_f, ↓reduceIte, Nat.reduceLT, Nat.reduceEqDiff, Nat.reduceAdd, Nat.reduceSub, Bool.and_true, Bool.true_and, reduceCtorEq, true_and, List.map_cons, List.map_nil, Bool.and_self, List.length_cons, List.length_nil, List.cons_append, List.nil_append, List.append_nil, Nat.zero_add, Nat.add_zero, Nat.zero_mul, Int.reduceEq, Int.reduceLE, decide_true, decide_false, alive, ren, not_false_eq_true, ti3, ti42, regAt, fi25, body25, Try.f25, ↓exq_cd cd_code25, ↓exq_cd cd_c25_1, ↓exq_cd cd_c25_2, ↓exq_cd cd_c25_3, ↓exq_cd cd_c25_4, ↓exq_cd cd_c25_5, ↓exq_cd cd_c25_6, ↓exq_cd cd_c25_8, ↓exq_cd cd_c25_9, ↓exq_cd cd_c25_10, ↓exq_cd cd_c25_7, ↓exq_cd cd_c25_13, ↓exq_cd cd_c25_15, ↓exq_cd cd_c25_16, ↓exq_cd cd_c25_17, r25_1, r25_3, r25_8, r25_10, r25_15, r25_17]
      repeat (refine And.intro (a := (_ = true)) (by first | (simp; done) | (simp; omega)) ?_)
      exact obq_obj (r1 := .tup []) (σ := [0, 1, 2]) (by decide) rfl rfl (by decide) (layD_one _) rfl (layD_ok _)
    | some w =>
      have e : dAct ⟨l, f, x, xf, room, m, some w, out⟩ 2 n b = (dSync ⟨l, f, x, xf, room, m, some w, out⟩).2 := by simp [dAct]
      rw [e]
      refine ExQ_ok [] 2000 plsOk kD0_ok ?_
      simp only [conf0, layD, fuP, fuL]
      (try rw [exh]); simp (maxSteps := 4000000) only [kDk, ktO, objK, osK, findD, mSync, hs, List.nodup_cons, List.mem_cons, List.not_mem_nil, stops, inK, stepF, frsF, frF, itemF, codeF, condF, opsF, opsW, opF, callO, wtS, sopF, pv, evq, callF, calleeS, quiet, p_move, p_assign, p_binOp, p_fieldAddr, l_load, e_box, SY.get, SY.put, SY.ev, SY.mk, SY.nth, SY.lvl, SY.ini, wid, wids, dr, flat, at1, rdC, rdCt, bopInt, bop, isArr, ctOf, leaveS, retS, killL, isDefs, resS, resAll, tup1, AV.scal, exq_go, exq_t, exq_f, ↓reduceIte, Nat.reduceLT, Nat.reduceEqDiff, Nat.reduceAdd, Nat.reduceSub, Bool.and_true, Bool.true_and, reduceCtorEq, true_and, List.map_cons, List.map_nil, Bool.and_self, List.length_cons, List.length_nil, List.cons_append, List.nil_append, List.append_nil, Nat.zero_add, Nat.add_zero, Nat.zero_mul, Int.reduceEq, Int.reduceLE, decide_true, decide_false, alive, ren, not_false_eq_true, ti3, ti42, regAt, fi25, body25, Try.f25, ↓exq_cd cd_code25, ↓exq_cd cd_c25_1, ↓exq_cd cd_c25_2, ↓exq_cd cd_c25_3, ↓exq_cd cd_c25_4, ↓exq_cd cd_c25_5, ↓exq_cd cd_c25_6, ↓exq_cd cd_c25_8, ↓exq_cd cd_c25_9, ↓exq_cd cd_c25_10, ↓exq_cd cd_c25_7, ↓exq_cd cd_c25_13, ↓exq_cd cd_c25_15, ↓exq_cd cd_c25_16, ↓exq_cd cd_c25_17, r25_1, r25_3, r25_8, r25_10, r25_15, r25_17]
      repeat (refine And.intro (a := (_ = true)) (by first | (simp; done) | (simp; omega)) ?_)
      exact obq_obj (r1 := .tup []) (σ := [0, 1, 2, 3]) (by decide) rfl rfl (by decide) (layD_one _) rfl (layD_ok _)
  by_cases h3 : k = 3
  · subst h3
    cases u with
    | none =>
      have e : dAct ⟨l, f, x, xf, room, m, none, out⟩ 3 n b = (dLay true ⟨l, f, x, xf, room, m, none, out⟩ b).2 := by simp [dAct]
      rw [e]
      refine ExQ_ok [] 2000 plsOk kD0_ok ?_
      simp only [conf0, layD, fuP, fuL]
      (try rw [exh]); simp (maxSteps := 4000000) only [kDk, ktO, objK, osB, findD, mNext, nilN, hs, List.nodup_cons, List.mem_cons, List.not_mem_nil, stops, inK, stepF, frsF, frF, itemF, codeF, condF, opsF, opsW, opF, callO, wtS, sopF, pv, evq, callF, calleeS, quiet, p_move, p_assign, p_binOp, p_fieldAddr, l_load, e_box, SY.get, SY.put, SY.ev, SY.mk, SY.nth, SY.lvl, SY.ini, wid, wids, dr, flat, at1, rdC, rdCt, bopInt, bop, isArr, ctOf, leaveS, retS, killL, isDefs, resS, resAll, tup1, AV.scal, exq_go, exq_t, exq_f, ↓reduceIte, Nat.reduceLT, Nat.reduceEqDiff, Nat.reduceAdd, Nat.reduceSub, Bool.and_true, Bool.true_and, reduceCtorEq, true_and, List.map_cons, List.map_nil, Bool.and_self, List.length_cons, List.length_nil, List.cons_append, List.nil_append, List.append_nil, Nat.zero_add, Nat.add_zero, Nat.zero_mul, Int.reduceEq, Int.reduceLE, decide_true, decide_false, alive, lnd, lvB, tB_tt, ren, not_false_eq_true, ti3, ti22, ti42, regAt, fi25, body25, Try.f25, ↓exq_cd cd_code25, ↓exq_cd cd_c25_1, ↓exq_cd cd_c25_2, ↓exq_cd cd_c25_3, ↓exq_cd cd_c25_4, ↓exq_cd cd_c25_5, ↓exq_cd cd_c25_6, ↓exq_cd cd_c25_8, ↓exq_cd cd_c25_9, ↓exq_cd cd_c25_10, ↓exq_cd cd_c25_7, ↓exq_cd cd_c25_13, ↓exq_cd cd_c25_15, ↓exq_cd cd_c25_16, ↓exq_cd cd_c25_18, ↓exq_cd cd_c25_20, ↓exq_cd cd_c25_21, ↓exq_cd cd_c25_22, r25_1, r25_3, r25_8, r25_10, r25_15, r25_20, r25_22]
      repeat (refine And.intro (a := (_ = true)) (by first | (simp; done) | (simp; omega)) ?_)
      exact obq_obj (r1 := .tup []) (σ := [0, 1, 2]) (by decide) rfl rfl (by decide) (layD_one _) rfl (layD_ok _)
    | some w =>
      have e : dAct ⟨l, f, x, xf, room, m, some w, out⟩ 3 n b = (dLay true ⟨l, f, x, xf, room, m, some w, out⟩ b).2 := by simp [dAct]
      rw [e]
      refine ExQ_ok [] 2000 plsOk kD0_ok ?_
      simp only [conf0, layD, fuP, fuL]
      (try rw [exh]); simp (maxSteps := 4000000) only [kDk, ktO, objK, osB, findD, mNext, nilN, hs, List.nodup_cons, List.mem_cons, List.not_mem_nil, stops, inK, stepF, frsF, frF, itemF, codeF, condF, opsF, opsW, opF, callO, wtS, sopF, pv, evq, callF, calleeS, quiet, p_move, p_assign, p_binOp, p_fieldAddr, l_load, e_box, SY.get, SY.put, SY.ev, SY.mk, SY.nth, SY.lvl, SY.ini, wid, wids, dr, flat, at1, rdC, rdCt, bopInt, bop, isArr, ctOf, leaveS, retS, killL, isDefs, resS, resAll, tup1, AV.scal, exq_go, exq_t, exq_f, ↓reduceIte, Nat.reduceLT, Nat.reduceEqDiff, Nat.reduceAdd, Nat.reduceSub, Bool.and_true, Bool.true_and, reduceCtorEq, true_and, List.map_cons, List.map_nil, Bool.and_self, List.length_cons, List.length_nil, List.cons_append, List.nil_append, List.append_nil, Nat.zero_add, Nat.add_zero, Nat.zero_mul, Int.reduceEq, Int.reduceLE, decide_true, decide_false, alive, lnd, lvB, tB_tt, ren, not_false_eq_true, ti3, ti22, ti42, regAt, fi25, body25, Try.f25, ↓exq_cd cd_code25, ↓exq_cd cd_c25_1, ↓exq_cd cd_c25_2, ↓exq_cd cd_c25_3, ↓exq_cd cd_c25_4, ↓exq_cd cd_c25_5, ↓exq_cd cd_c25_6, ↓exq_cd cd_c25_8, ↓exq_cd cd_c25_9, ↓exq_cd cd_c25_10, ↓exq_cd cd_c25_7, ↓exq_cd cd_c25_13, ↓exq_cd cd_c25_15, ↓exq_cd cd_c25_16, ↓exq_cd cd_c25_18, ↓exq_cd cd_c25_20, ↓exq_cd cd_c25_21, ↓exq_cd cd_c25_22, r25_1, r25_3, r25_8, r25_10, r25_15, r25_20, r25_22]
      repeat (refine And.intro (a := (_ = true)) (by first | (simp; done) | (simp; omega)) ?_)
      exact obq_obj (r1 := .tup []) (σ := [0, 1, 2, 3]) (by decide) rfl rfl (by decide) (layD_one _) rfl (layD_ok _)
  by_cases h4 : k = 4
  · subst h4
    cases u with
    | none =>
      have e : dAct ⟨l, f, x, xf, room, m, none, out⟩ 4 n b = (dSwitch ⟨l, f, x, xf, room, m, none, out⟩).2 := by simp [dAct]
      rw [e]
      refine ExQ_ok [] 2000 plsOk kD0_ok ?_
      simp only [conf0, layD, fuP, fuL]
      (try rw [exh]); simp (maxSteps := 4000000) only [kDk, ktO, objK, osK, findD, mSwitch, hs, List.nodup_cons, List.mem_cons, List.not_mem_nil, stops, inK, stepF, frsF, frF, itemF, codeF, condF, opsF, opsW, opF, callO, wtS, sopF, pv, evq, callF, calleeS, quiet, p_move, p_assign, p_binOp, p_fieldAddr, l_load, e_box, SY.get, SY.put, SY.ev, SY.mk, SY.nth, SY.lvl, SY.ini, wid, wids, dr, flat, at1, rdC, rdCt, bopInt, bop, isArr, ctOf, leaveS, retS, killL, isDefs, resS, resAll, tup1, AV.scal, exq_go, exq_t, exq_f, ↓reduceIte, Nat.reduceLT, Nat.reduceEqDiff, Nat.reduceAdd, Nat.reduceSub, Bool.and_true, Bool.true_and, reduceCtorEq, true_and, List.map_cons, List.map_nil, Bool.and_self, List.length_cons, List.length_nil, List.cons_append, List.nil_append, List.append_nil, Nat.zero_add, Nat.add_zero, Nat.zero_mul, Int.reduceEq, Int.reduceLE, decide_true, decide_false, alive, ren, not_false_eq_true, ti3, ti42, regAt, fi25, body25, Try.f25, ↓exq_cd cd_code25, ↓exq_cd cd_c25_1, ↓exq_cd cd_c25_2, ↓exq_cd cd_c25_3, ↓exq_cd cd_c25_4, ↓exq_cd cd_c25_5, ↓exq_cd cd_c25_6, ↓exq_cd cd_c25_8, ↓exq_cd cd_c25_9, ↓exq_cd cd_c25_10, ↓exq_cd cd_c25_7, ↓exq_cd cd_c25_13, ↓exq_cd cd_c25_15, ↓exq_cd cd_c25_16, ↓exq_cd cd_c25_18, ↓exq_cd cd_c25_20, ↓exq_cd cd_c25_21, ↓exq_cd cd_c25_23, ↓exq_cd cd_c25_25, ↓exq_cd cd_c25_26, ↓exq_cd cd_c25_27, r25_1, r25_3, r25_8, r25_10, r25_15, r25_20, r25_25, r25_27]
      repeat (refine And.intro (a := (_ = true)) (by first | (simp; done) | (simp; omega)) ?_)
      exact obq_obj (r1 := .tup []) (σ := [0, 1, 2]) (by decide) rfl rfl (by decide) (layD_one _) rfl (layD_ok _)
    | some w =>
      have e : dAct ⟨l, f, x, xf, room, m, some w, out⟩ 4 n b = (dSwitch ⟨l, f, x, xf, room, m, some w, out⟩).2 := by simp [dAct]
      rw [e]
      refine ExQ_ok [] 2000 plsOk kD0_ok ?_
      simp only [conf0, layD, fuP, fuL]
      (try rw [exh]); simp (maxSteps := 4000000) only [kDk, ktO, objK, osK, findD, mSwitch, hs, List.nodup_cons, List.mem_cons, List.not_mem_nil, stops, inK, stepF, frsF, frF, itemF, codeF, condF, opsF, opsW, opF, callO, wtS, sopF, pv, evq, callF, calleeS, quiet, p_move, p_assign, p_binOp, p_fieldAddr, l_load, e_box, SY.get, SY.put, SY.ev, SY.mk, SY.nth, SY.lvl, SY.ini, wid, wids, dr, flat, at1, rdC, rdCt, bopInt, bop, isArr, ctOf, leaveS, retS, killL, isDefs, resS, resAll, tup1, AV.scal, exq_go, exq_t, exq_f, ↓reduceIte, Nat.reduceLT, Nat.reduceEqDiff, Nat.reduceAdd, Nat.reduceSub, Bool.and_true, Bool.true_and, reduceCtorEq, true_and, List.map_cons, List.map_nil, Bool.and_self, List.length_cons, List.length_nil, List.cons_append, List.nil_append, List.append_nil, Nat.zero_add, Nat.add_zero, Nat.zero_mul, Int.reduceEq, Int.reduceLE, decide_true, decide_false, alive, ren, not_false_eq_true, ti3, ti42, regAt, fi25, body25, Try.f25, ↓exq_cd cd_code25, ↓exq_cd cd_c25_1, ↓exq_cd cd_c25_2, ↓exq_cd cd_c25_3, ↓exq_cd cd_c25_4, ↓exq_cd cd_c25_5, ↓exq_cd cd_c25_6, ↓exq_cd cd_c25_8, ↓exq_cd cd_c25_9, ↓exq_cd cd_c25_10, ↓exq_cd cd_c25_7, ↓exq_cd cd_c25_13, ↓exq_cd cd_c25_15, ↓exq_cd cd_c25_16, ↓exq_cd cd_c25_18, ↓exq_cd cd_c25_20, ↓exq_cd cd_c25_21, ↓exq_cd cd_c25_23, ↓exq_cd cd_c25_25, ↓exq_cd cd_c25_26, ↓exq_cd cd_c25_27, r25_1, r25_3, r25_8, r25_10, r25_15, r25_20, r25_25, r25_27]
      repeat (refine And.intro (a := (_ = true)) (by first | (simp; done) | (simp; omega)) ?_)
      exact obq_obj (r1 := .tup []) (σ := [0, 1, 2, 3]) (by decide) rfl rfl (by decide) (layD_one _) rfl (layD_ok _)
  by_cases h5 : k = 5
  · subst h5
    cases u with
    | none =>
      have e : dAct ⟨l, f, x, xf, room, m, none, out⟩ 5 n b = (dRoom ⟨l, f, x, xf, room, m, none, out⟩ n).2 := by simp [dAct]
      rw [e]
      refine ExQ_ok [] 2000 plsOk kD0_ok ?_
      simp only [conf0, layD, fuP, fuL]
      (try rw [exh]); simp (maxSteps := 4000000) only [kDk, ktO, ktW, objK, osI, findD, mRoom, hs, List.nodup_cons, List.mem_cons, List.not_mem_nil, stops, inK, stepF, frsF, frF, itemF, codeF, condF, opsF, opsW, opF, callO, wtS, sopF, pv, evq, callF, calleeS, quiet, p_move, p_assign, p_binOp, p_fieldAddr, l_load, e_box, SY.get, SY.put, SY.ev, SY.mk, SY.nth, SY.lvl, SY.ini, wid, wids, dr, flat, at1, rdC, rdCt, bopInt, bop, isArr, ctOf, leaveS, retS, killL, isDefs, resS, resAll, tup1, AV.scal, exq_go, exq_t, exq_f, ↓reduceIte, Nat.reduceLT, Nat.reduceEqDiff, Nat.reduceAdd, Nat.reduceSub, Bool.and_true, Bool.true_and, reduceCtorEq, true_and, List.map_cons, List.map_nil, Bool.and_self, List.length_cons, List.length_nil, List.cons_append, List.nil_append, List.append_nil, Nat.zero_add, Nat.add_zero, Nat.zero_mul, Int.reduceEq, Int.reduceLE, decide_true, decide_false, alive, ren, not_false_eq_true, ti3, ti42, regAt, fi25, body25, Try.f25, ↓exq_cd cd_code25, ↓exq_cd cd_c25_1, ↓exq_cd cd_c25_2, ↓exq_cd cd_c25_3, ↓exq_cd cd_c25_4, ↓exq_cd cd_c25_5, ↓exq_cd cd_c25_6, ↓exq_cd cd_c25_8, ↓exq_cd cd_c25_9, ↓exq_cd cd_c25_10, ↓exq_cd cd_c25_7, ↓exq_cd cd_c25_13, ↓exq_cd cd_c25_15, ↓exq_cd cd_c25_16, ↓exq_cd cd_c25_18, ↓exq_cd cd_c25_20, ↓exq_cd cd_c25_21, ↓exq_cd cd_c25_23, ↓exq_cd cd_c25_25, ↓exq_cd cd_c25_26, ↓exq_cd cd_c25_28, ↓exq_cd cd_c25_30, ↓exq_cd cd_c25_31, ↓exq_cd cd_c25_32, r25_1, r25_3, r25_8, r25_10, r25_15, r25_20, r25_25, r25_30, r25_32]
      repeat (refine And.intro (a := (_ = true)) (by first | (simp; done) | (simp; omega)) ?_)
      exact obq_obj (r1 := .tup []) (σ := [0, 1, 2]) (by decide) rfl rfl (by decide) (layD_one _) rfl (layD_ok _)
    | some w =>
      have e : dAct ⟨l, f, x, xf, room, m, some w, out⟩ 5 n b = (dRoom ⟨l, f, x, xf, room, m, some w, out⟩ n).2 := by simp [dAct]
      rw [e]
      refine ExQ_ok [] 2000 plsOk kD0_ok ?_
      simp only [conf0, layD, fuP, fuL]
      (try rw [exh]); simp (maxSteps := 4000000) only [kDk, ktO, ktW, objK, osI, findD, mRoom, hs, List.nodup_cons, List.mem_cons, List.not_mem_nil, stops, inK, stepF, frsF, frF, itemF, codeF, condF, opsF, opsW, opF, callO, wtS, sopF, pv, evq, callF, calleeS, quiet, p_move, p_assign, p_binOp, p_fieldAddr, l_load, e_box, SY.get, SY.put, SY.ev, SY.mk, SY.nth, SY.lvl, SY.ini, wid, wids, dr, flat, at1, rdC, rdCt, bopInt, bop, isArr, ctOf, leaveS, retS, killL, isDefs, resS, resAll, tup1, AV.scal, exq_go, exq_t, exq_f, ↓reduceIte, Nat.reduceLT, Nat.reduceEqDiff, Nat.reduceAdd, Nat.reduceSub, Bool.and_true, Bool.true_and, reduceCtorEq, true_and, List.map_cons, List.map_nil, Bool.and_self, List.length_cons, List.length_nil, List.cons_append, List.nil_append, List.append_nil, Nat.zero_add, Nat.add_zero, Nat.zero_mul, Int.reduceEq, Int.reduceLE, decide_true, decide_false, alive, ren, not_false_eq_true, ti3, ti42, regAt, fi25, body25, Try.f25, ↓exq_cd cd_code25, ↓exq_cd cd_c25_1, ↓exq_cd cd_c25_2, ↓exq_cd cd_c25_3, ↓exq_cd cd_c25_4, ↓exq_cd cd_c25_5, ↓exq_cd cd_c25_6, ↓exq_cd cd_c25_8, ↓exq_cd cd_c25_9, ↓exq_cd cd_c25_10, ↓exq_cd cd_c25_7, ↓exq_cd cd_c25_13, ↓exq_cd cd_c25_15, ↓exq_cd cd_c25_16, ↓exq_cd cd_c25_18, ↓exq_cd cd_c25_20, ↓exq_cd cd_c25_21, ↓exq_cd cd_c25_23, ↓exq_cd cd_c25_25, ↓exq_cd cd_c25_26, ↓exq_cd cd_c25_28, ↓exq_cd cd_c25_30, ↓exq_cd cd_c25_31, ↓exq_cd cd_c25_32, r25_1, r25_3, r25_8, r25_10, r25_15, r25_20, r25_25, r25_30, r25_32]
      repeat (refine And.intro (a := (_ = true)) (by first | (simp; done) | (simp; omega)) ?_)
      exact obq_obj (r1 := .tup []) (σ := [0, 1, 2, 3]) (by decide) rfl rfl (by decide) (layD_one _) rfl (layD_ok _)
  by_cases h6 : k = 6
  · subst h6
    cases u with
    | none =>
      have e : dAct ⟨l, f, x, xf, room, m, none, out⟩ 6 n b = (dFuse ⟨l, f, x, xf, room, m, none, out⟩ n).2 := by simp [dAct]
      rw [e]
      refine ExQ_ok [] 2000 plsOk kD0_ok ?_
      simp only [conf0, layD, fuP, fuL]
      (try rw [exh]); simp (maxSteps := 4000000) only [kDk, ktO, ktW, objK, osI, findD, mFuse, hs, List.nodup_cons, List.mem_cons, List.not_mem_nil, stops, inK, stepF, frsF, frF, itemF, codeF, condF, opsF, opsW, opF, callO, wtS, sopF, pv, evq, callF, calleeS, quiet, p_move, p_assign, p_binOp, p_fieldAddr, l_load, e_box, SY.get, SY.put, SY.ev, SY.mk, SY.nth, SY.lvl, SY.ini, wid, wids, dr, flat, at1, rdC, rdCt, bopInt, bop, isArr, ctOf, leaveS, retS, killL, isDefs, resS, resAll, tup1, AV.scal, exq_go, exq_t, exq_f, ↓reduceIte, Nat.reduceLT, Nat.reduceEqDiff, Nat.reduceAdd, Nat.reduceSub, Bool.and_true, Bool.true_and, reduceCtorEq, true_and, List.map_cons, List.map_nil, Bool.and_self, List.length_cons, List.length_nil, List.cons_append, List.nil_append, List.append_nil, Nat.zero_add, Nat.add_zero, Nat.zero_mul, Int.reduceEq, Int.reduceLE, decide_true, decide_false, alive, ren, not_false_eq_true, ti3, ti42, regAt, fi25, body25, Try.f25, ↓exq_cd cd_code25, ↓exq_cd cd_c25_1, ↓exq_cd cd_c25_2, ↓exq_cd cd_c25_3, ↓exq_cd cd_c25_4, ↓exq_cd cd_c25_5, ↓exq_cd cd_c25_6, ↓exq_cd cd_c25_8, ↓exq_cd cd_c25_9, ↓exq_cd cd_c25_10, ↓exq_cd cd_c25_7, ↓exq_cd cd_c25_13, ↓exq_cd cd_c25_15, ↓exq_cd cd_c25_16, ↓exq_cd cd_c25_18, ↓exq_cd cd_c25_20, ↓exq_cd cd_c25_21, ↓exq_cd cd_c25_23, ↓exq_cd cd_c25_25, ↓exq_cd cd_c25_26, ↓exq_cd cd_c25_28, ↓exq_cd cd_c25_30, ↓exq_cd cd_c25_31, ↓exq_cd cd_c25_33, ↓exq_cd cd_c25_35, ↓exq_cd cd_c25_36, ↓exq_cd cd_c25_37, r25_1, r25_3, r25_8, r25_10, r25_15, r25_20, r25_25, r25_30, r25_35, r25_37]
      repeat (refine And.intro (a := (_ = true)) (by first | (simp; done) | (simp; omega)) ?_)
      exact obq_obj (r1 := .tup []) (σ := [0, 1, 2]) (by decide) rfl rfl (by decide) (layD_one _) rfl (layD_ok _)
    | some w =>
      have e : dAct ⟨l, f, x, xf, room, m, some w, out⟩ 6 n b = (dFuse ⟨l, f, x, xf, room, m, some w, out⟩ n).2 := by simp [dAct]
      rw [e]
      refine ExQ_ok [] 2000 plsOk kD0_ok ?_
      simp only [conf0, layD, fuP, fuL]
      (try rw [exh]); simp (maxSteps := 4000000) only [kDk, ktO, ktW, objK, osI, findD, mFuse, hs, List.nodup_cons, List.mem_cons, List.not_mem_nil, stops, inK, stepF, frsF, frF, itemF, codeF, condF, opsF, opsW, opF, callO, wtS, sopF, pv, evq, callF, calleeS, quiet, p_move, p_assign, p_binOp, p_fieldAddr, l_load, e_box, SY.get, SY.put, SY.ev, SY.mk, SY.nth, SY.lvl, SY.ini, wid, wids, dr, flat, at1, rdC, rdCt, bopInt, bop, isArr, ctOf, leaveS, retS, killL, isDefs, resS, resAll, tup1, AV.scal, exq_go, exq_t, exq_f, ↓reduceIte, Nat.reduceLT, Nat.reduceEqDiff, Nat.reduceAdd, Nat.reduceSub, Bool.and_true, Bool.true_and, reduceCtorEq, true_and, List.map_cons, List.map_nil, Bool.and_self, List.length_cons, List.length_nil, List.cons_append, List.nil_append, List.append_nil, Nat.zero_add, Nat.add_zero, Nat.zero_mul, Int.reduceEq, Int.reduceLE, decide_true, decide_false, alive, ren, not_false_eq_true, ti3, ti42, regAt, fi25, body25, Try.f25, ↓exq_cd cd_code25, ↓exq_cd cd_c25_1, ↓exq_cd cd_c25_2, ↓exq_cd cd_c25_3, ↓exq_cd cd_c25_4, ↓exq_cd cd_c25_5, ↓exq_cd cd_c25_6, ↓exq_cd cd_c25_8, ↓exq_cd cd_c25_9, ↓exq_cd cd_c25_10, ↓exq_cd cd_c25_7, ↓exq_cd cd_c25_13, ↓exq_cd cd_c25_15, ↓exq_cd cd_c25_16, ↓exq_cd cd_c25_18, ↓exq_cd cd_c25_20, ↓exq_cd cd_c25_21, ↓exq_cd cd_c25_23, ↓exq_cd cd_c25_25, ↓exq_cd cd_c25_26, ↓exq_cd cd_c25_28, ↓exq_cd cd_c25_30, ↓exq_cd cd_c25_31, ↓exq_cd cd_c25_33, ↓exq_cd cd_c25_35, ↓exq_cd cd_c25_36, ↓exq_cd cd_c25_37, r25_1, r25_3, r25_8, r25_10, r25_15, r25_20, r25_25, r25_30, r25_35, r25_37]
      repeat (refine And.intro (a := (_ = true)) (by first | (simp; done) | (simp; omega)) ?_)
      exact obq_obj (r1 := .tup []) (σ := [0, 1, 2, 3]) (by decide) rfl rfl (by decide) (layD_one _) rfl (layD_ok _)
  by_cases h7 : k = 7
  · subst h7
    cases u with
    | none =>
      have e : dAct ⟨l, f, x, xf, room, m, none, out⟩ 7 n b = (dCrash ⟨l, f, x, xf, room, m, none, out⟩ n).2 := by simp [dAct]
      rw [e]
      refine ExQ_ok [] 2000 plsOk kD0_ok ?_
      simp only [conf0, layD, fuP, fuL]
      (try rw [exh]); simp (maxSteps := 4000000) only [kDk, ktO, ktW, objK, osI, findD, mCrash, hs, List.nodup_cons, List.mem_cons, List.not_mem_nil, stops, inK, stepF, frsF, frF, itemF, codeF, condF, opsF, opsW, opF, callO, wtS, sopF, pv, evq, callF, calleeS, quiet, p_move, p_assign, p_binOp, p_fieldAddr, l_load, e_box, SY.get, SY.put, SY.ev, SY.mk, SY.nth, SY.lvl, SY.ini, wid, wids, dr, flat, at1, rdC, rdCt, bopInt, bop, isArr, ctOf, leaveS, retS, killL, isDefs, resS, resAll, tup1, AV.scal, exq_go, exq_t, exq_f, ↓reduceIte, Nat.reduceLT, Nat.reduceEqDiff, Nat.reduceAdd, Nat.reduceSub, Bool.and_true, Bool.true_and, reduceCtorEq, true_and, List.map_cons, List.map_nil, Bool.and_self, List.length_cons, List.length_nil, List.cons_append, List.nil_append, List.append_nil, Nat.zero_add, Nat.add_zero, Nat.zero_mul, Int.reduceEq, Int.reduceLE, decide_true, decide_false, alive, ren, not_false_eq_true, ti3, ti42, regAt, fi25, body25, Try.f25, ↓exq_cd cd_code25, ↓exq_cd cd_c25_1, ↓exq_cd cd_c25_2, ↓exq_cd cd_c25_3, ↓exq_cd cd_c25_4, ↓exq_cd cd_c25_5, ↓exq_cd cd_c25_6, ↓exq_cd cd_c25_8, ↓exq_cd cd_c25_9, ↓exq_cd cd_c25_10, ↓exq_cd cd_c25_7, ↓exq_cd cd_c25_13, ↓exq_cd cd_c25_15, ↓exq_cd cd_c25_16, ↓exq_cd cd_c25_18, ↓exq_cd cd_c25_20, ↓exq_cd cd_c25_21, ↓exq_cd cd_c25_23, ↓exq_cd cd_c25_25, ↓exq_cd cd_c25_26, ↓exq_cd cd_c25_28, ↓exq_cd cd_c25_30, ↓exq_cd cd_c25_31, ↓exq_cd cd_c25_33, ↓exq_cd cd_c25_35, ↓exq_cd cd_c25_36, ↓exq_cd cd_c25_38, ↓exq_cd cd_c25_40, ↓exq_cd cd_c25_41, ↓exq_cd cd_c25_42, r25_1, r25_3, r25_8, r25_10, r25_15, r25_20, r25_25, r25_30, r25_35, r25_40, r25_42]
      repeat (refine And.intro (a := (_ = true)) (by first | (simp; done) | (simp; omega)) ?_)
      exact obq_obj (r1 := .tup []) (σ := [0, 1, 2]) (by decide) rfl rfl (by decide) (layD_one _) rfl (layD_ok _)
    | some w =>
      have e : dAct ⟨l, f, x, xf, room, m, some w, out⟩ 7 n b = (dCrash ⟨l, f, x, xf, room, m, some w, out⟩ n).2 := by simp [dAct]
      rw [e]
      refine ExQ_ok [] 2000 plsOk kD0_ok ?_
      simp only [conf0, layD, fuP, fuL]
      (try rw [exh]); simp (maxSteps := 4000000) only [kDk, ktO, ktW, objK, osI, findD, mCrash, hs, List.nodup_cons, List.mem_cons, List.not_mem_nil, stops, inK, stepF, frsF, frF, itemF, codeF, condF, opsF, opsW, opF, callO, wtS, sopF, pv, evq, callF, calleeS, quiet, p_move, p_assign, p_binOp, p_fieldAddr, l_load, e_box, SY.get, SY.put, SY.ev, SY.mk, SY.nth, SY.lvl, SY.ini, wid, wids, dr, flat, at1, rdC, rdCt, bopInt, bop, isArr, ctOf, leaveS, retS, killL, isDefs, resS, resAll, tup1, AV.scal, exq_go, exq_t, exq_f, ↓reduceIte, Nat.reduceLT, Nat.reduceEqDiff, Nat.reduceAdd, Nat.reduceSub, Bool.and_true, Bool.true_and, reduceCtorEq, true_and, List.map_cons, List.map_nil, Bool.and_self, List.length_cons, List.length_nil, List.cons_append, List.nil_append, List.append_nil, Nat.zero_add, Nat.add_zero, Nat.zero_mul, Int.reduceEq, Int.reduceLE, decide_true, decide_false, alive, ren, not_false_eq_true, ti3, ti42, regAt, fi25, body25, Try.f25, ↓exq_cd cd_code25, ↓exq_cd cd_c25_1, ↓exq_cd cd_c25_2, ↓exq_cd cd_c25_3, ↓exq_cd cd_c25_4, ↓exq_cd cd_c25_5, ↓exq_cd cd_c25_6, ↓exq_cd cd_c25_8, ↓exq_cd cd_c25_9, ↓exq_cd cd_c25_10, ↓exq_cd cd_c25_7, ↓exq_cd cd_c25_13, ↓exq_cd cd_c25_15, ↓exq_cd cd_c25_16, ↓exq_cd cd_c25_18, ↓exq_cd cd_c25_20, ↓exq_cd cd_c25_21, ↓exq_cd cd_c25_23, ↓exq_cd cd_c25_25, ↓exq_cd cd_c25_26, ↓exq_cd cd_c25_28, ↓exq_cd cd_c25_30, ↓exq_cd cd_c25_31, ↓exq_cd cd_c25_33, ↓exq_cd cd_c25_35, ↓exq_cd cd_c25_36, ↓exq_cd cd_c25_38, ↓exq_cd cd_c25_40, ↓exq_cd cd_c25_41, ↓exq_cd cd_c25_42, r25_1, r25_3, r25_8, r25_10, r25_15, r25_20, r25_25, r25_30, r25_35, r25_40, r25_42]
      repeat (refine And.intro (a := (_ = true)) (by first | (simp; done) | (simp; omega)) ?_)
      exact obq_obj (r1 := .tup []) (σ := [0, 1, 2, 3]) (by decide) rfl rfl (by decide) (layD_one _) rfl (layD_ok _)
  by_cases h8 : k = 8
  · subst h8
    cases u with
    | none =>
      have e : dAct ⟨l, f, x, xf, room, m, none, out⟩ 8 n b = (dWipe ⟨l, f, x, xf, room, m, none, out⟩).2 := by simp [dAct]
      rw [e]
      refine ExQ_ok [] 2000 plsOk kD0_ok ?_
      simp only [conf0, layD, fuP, fuL]
      (try rw [exh]); simp (maxSteps := 4000000) only [kDk, ktO, objK, osK, findD, mWipe, hs, List.nodup_cons, List.mem_cons, List.not_mem_nil, stops, inK, stepF, frsF, frF, itemF, codeF, condF, opsF, opsW, opF, callO, wtS, sopF, pv, evq, callF, calleeS, quiet, p_move, p_assign, p_binOp, p_fieldAddr, l_load, e_box, SY.get, SY.put, SY.ev, SY.mk, SY.nth, SY.lvl, SY.ini, wid, wids, dr, flat, at1, rdC, rdCt, bopInt, bop, isArr, ctOf, leaveS, retS, killL, isDefs, resS, resAll, tup1, AV.scal, exq_go, exq_t, exq_f, ↓reduceIte, Nat.reduceLT, Nat.reduceEqDiff, Nat.reduceAdd, Nat.reduceSub, Bool.and_true, Bool.true_and, reduceCtorEq, true_and, List.map_cons, List.map_nil, Bool.and_self, List.length_cons, List.length_nil, List.cons_append, List.nil_append, List.append_nil, Nat.zero_add, Nat.add_zero, Nat.zero_mul, Int.reduceEq, Int.reduceLE, decide_true, decide_false, alive, ren, not_false_eq_true, ti3, ti42, regAt, fi25, body25, Try.f25, ↓exq_cd cd_code25, ↓exq_cd cd_c25_1, ↓exq_cd cd_c25_2, ↓exq_cd cd_c25_3, ↓exq_cd cd_c25_4, ↓exq_cd cd_c25_5, ↓exq_cd cd_c25_6, ↓exq_cd cd_c25_8, ↓exq_cd cd_c25_9, ↓exq_cd cd_c25_10, ↓exq_cd cd_c25_7, ↓exq_cd cd_c25_13, ↓exq_cd cd_c25_15, ↓exq_cd cd_c25_16, ↓exq_cd cd_c25_18, ↓exq_cd cd_c25_20, ↓exq_cd cd_c25_21, ↓exq_cd cd_c25_23, ↓exq_cd cd_c25_25, ↓exq_cd cd_c25_26, ↓exq_cd cd_c25_28, ↓exq_cd cd_c25_30, ↓exq_cd cd_c25_31, ↓exq_cd cd_c25_33, ↓exq_cd cd_c25_35, ↓exq_cd cd_c25_36, ↓exq_cd cd_c25_38, ↓exq_cd cd_c25_40, ↓exq_cd cd_c25_41, ↓exq_cd cd_c25_43, ↓exq_cd cd_c25_45, ↓exq_cd cd_c25_46, ↓exq_cd cd_c25_47, r25_1, r25_3, r25_8, r25_10, r25_15, r25_20, r25_25, r25_30, r25_35, r25_40, r25_45, r25_47]
      repeat (refine And.intro (a := (_ = true)) (by first | (simp; done) | (simp; omega)) ?_)
      exact obq_obj (r1 := .tup []) (σ := [0, 1, 2]) (by decide) rfl rfl (by decide) (layD_one _) rfl (layD_ok _)
    | some w =>
      have e : dAct ⟨l, f, x, xf, room, m, some w, out⟩ 8 n b = (dWipe ⟨l, f, x, xf, room, m, some w, out⟩).2 := by simp [dAct]
      rw [e]
      refine ExQ_ok [] 2000 plsOk kD0_ok ?_
      simp only [conf0, layD, fuP, fuL]
      (try rw [exh]); simp (maxSteps := 4000000) only [kDk, ktO, objK, osK, findD, mWipe, hs, List.nodup_cons, List.mem_cons, List.not_mem_nil, stops, inK, stepF, frsF, frF, itemF, codeF, condF, opsF, opsW, opF, callO, wtS, sopF, pv, evq, callF, calleeS, quiet, p_move, p_assign, p_binOp, p_fieldAddr, l_load, e_box, SY.get, SY.put, SY.ev, SY.mk, SY.nth, SY.lvl, SY.ini, wid, wids, dr, flat, at1, rdC, rdCt, bopInt, bop, isArr, ctOf, leaveS, retS, killL, isDefs, resS, resAll, tup1, AV.scal, exq_go, exq_t, exq_f, ↓reduceIte, Nat.reduceLT, Nat.reduceEqDiff, Nat.reduceAdd, Nat.reduceSub, Bool.and_true, Bool.true_and, reduceCtorEq, true_and, List.map_cons, List.map_nil, Bool.and_self, List.length_cons, List.length_nil, List.cons_append, List.nil_append, List.append_nil, Nat.zero_add, Nat.add_zero, Nat.zero_mul, Int.reduceEq, Int.reduceLE, decide_true, decide_false, alive, ren, not_false_eq_true, ti3, ti42, regAt, fi25, body25, Try.f25, ↓exq_cd cd_code25, ↓exq_cd cd_c25_1, ↓exq_cd cd_c25_2, ↓exq_cd cd_c25_3, ↓exq_cd cd_c25_4, ↓exq_cd cd_c25_5, ↓exq_cd cd_c25_6, ↓exq_cd cd_c25_8, ↓exq_cd cd_c25_9, ↓exq_cd cd_c25_10, ↓exq_cd cd_c25_7, ↓exq_cd cd_c25_13, ↓exq_cd cd_c25_15, ↓exq_cd cd_c25_16, ↓exq_cd cd_c25_18, ↓exq_cd cd_c25_20, ↓exq_cd cd_c25_21, ↓exq_cd cd_c25_23, ↓exq_cd cd_c25_25, ↓exq_cd cd_c25_26, ↓exq_cd cd_c25_28, ↓exq_cd cd_c25_30, ↓exq_cd cd_c25_31, ↓exq_cd cd_c25_33, ↓exq_cd cd_c25_35, ↓exq_cd cd_c25_36, ↓exq_cd cd_c25_38, ↓exq_cd cd_c25_40, ↓exq_cd cd_c25_41, ↓exq_cd cd_c25_43, ↓exq_cd cd_c25_45, ↓exq_cd cd_c25_46, ↓exq_cd cd_c25_47, r25_1, r25_3, r25_8, r25_10, r25_15, r25_20, r25_25, r25_30, r25_35, r25_40, r25_45, r25_47]
      repeat (refine And.intro (a := (_ = true)) (by first | (simp; done) | (simp; omega)) ?_)
      exact obq_obj (r1 := .tup []) (σ := [0, 1, 2, 3]) (by decide) rfl rfl (by decide) (layD_one _) rfl (layD_ok _)
  have e : dAct ⟨l, f, x, xf, room, m, u, out⟩ k n b = ⟨l, f, x, xf, room, m, u, out⟩ := by simp [dAct, h0, h1, h2, h3, h4, h5, h6, h7, h8]
  rw [e]
  cases u with
  | none =>
    refine ExQ_ok [] 2000 plsOk kD0_ok ?_
    simp only [conf0, layD, fuP, fuL]
    (try rw [exh]); simp (maxSteps := 4000000) only [kDk, h0, h1, h2, h3, h4, h5, h6, h7, h8, stops, inK, stepF, frsF, frF, itemF, codeF, condF, opsF, opsW, opF, wtS, sopF, pv, evq, quiet, p_assign, p_binOp, p_fieldAddr, l_load, e_box, SY.get, SY.put, SY.ev, SY.mk, SY.nth, SY.lvl, SY.ini, wid, wids, dr, flat, at1, rdC, rdCt, bopInt, bop, isArr, ctOf, leaveS, retS, killL, isDefs, resS, resAll, tup1, AV.scal, exq_go, exq_f, ↓reduceIte, Nat.reduceLT, Nat.reduceEqDiff, Nat.reduceAdd, Nat.reduceSub, reduceCtorEq, true_and, Bool.and_self, List.length_cons, List.length_nil, List.cons_append, List.nil_append, Nat.zero_add, Nat.add_zero, Nat.zero_mul, Int.reduceLE, decide_true, decide_false, ti3, ti42, regAt, fi25, body25, Try.f25, ↓exq_cd cd_code25, ↓exq_cd cd_c25_1, ↓exq_cd cd_c25_2, ↓exq_cd cd_c25_3, ↓exq_cd cd_c25_4, ↓exq_cd cd_c25_5, ↓exq_cd cd_c25_6, ↓exq_cd cd_c25_8, ↓exq_cd cd_c25_9, ↓exq_cd cd_c25_10, ↓exq_cd cd_c25_7, ↓exq_cd cd_c25_13, ↓exq_cd cd_c25_15, ↓exq_cd cd_c25_16, ↓exq_cd cd_c25_18, ↓exq_cd cd_c25_20, ↓exq_cd cd_c25_21, ↓exq_cd cd_c25_23, ↓exq_cd cd_c25_25, ↓exq_cd cd_c25_26, ↓exq_cd cd_c25_28, ↓exq_cd cd_c25_30, ↓exq_cd cd_c25_31, ↓exq_cd cd_c25_33, ↓exq_cd cd_c25_35, ↓exq_cd cd_c25_36, ↓exq_cd cd_c25_38, ↓exq_cd cd_c25_40, ↓exq_cd cd_c25_41, ↓exq_cd cd_c25_43, ↓exq_cd cd_c25_45, ↓exq_cd cd_c25_46, r25_1, r25_3, r25_8, r25_10, r25_15, r25_20, r25_25, r25_30, r25_35, r25_40, r25_45]
    repeat (refine And.intro (a := (_ = true)) (by first | (simp; done) | (simp; omega)) ?_)
    exact ObQ.mk [0, 1, 2] (by decide) rfl rfl rfl ⟨rfl, rfl, rfl, trivial⟩
  | some w =>
    refine ExQ_ok [] 2000 plsOk kD0_ok ?_
    simp only [conf0, layD, fuP, fuL]
    (try rw [exh]); simp (maxSteps := 4000000) only [kDk, h0, h1, h2, h3, h4, h5, h6, h7, h8, stops, inK, stepF, frsF, frF, itemF, codeF, condF, opsF, opsW, opF, wtS, sopF, pv, evq, quiet, p_assign, p_binOp, p_fieldAddr, l_load, e_box, SY.get, SY.put, SY.ev, SY.mk, SY.nth, SY.lvl, SY.ini, wid, wids, dr, flat, at1, rdC, rdCt, bopInt, bop, isArr, ctOf, leaveS, retS, killL, isDefs, resS, resAll, tup1, AV.scal, exq_go, exq_f, ↓reduceIte, Nat.reduceLT, Nat.reduceEqDiff, Nat.reduceAdd, Nat.reduceSub, reduceCtorEq, true_and, Bool.and_self, List.length_cons, List.length_nil, List.cons_append, List.nil_append, Nat.zero_add, Nat.add_zero, Nat.zero_mul, Int.reduceLE, decide_true, decide_false, ti3, ti42, regAt, fi25, body25, Try.f25, ↓exq_cd cd_code25, ↓exq_cd cd_c25_1, ↓exq_cd cd_c25_2, ↓exq_cd cd_c25_3, ↓exq_cd cd_c25_4, ↓exq_cd cd_c25_5, ↓exq_cd cd_c25_6, ↓exq_cd cd_c25_8, ↓exq_cd cd_c25_9, ↓exq_cd cd_c25_10, ↓exq_cd cd_c25_7, ↓exq_cd cd_c25_13, ↓exq_cd cd_c25_15, ↓exq_cd cd_c25_16, ↓exq_cd cd_c25_18, ↓exq_cd cd_c25_20, ↓exq_cd cd_c25_21, ↓exq_cd cd_c25_23, ↓exq_cd cd_c25_25, ↓exq_cd cd_c25_26, ↓exq_cd cd_c25_28, ↓exq_cd cd_c25_30, ↓exq_cd cd_c25_31, ↓exq_cd cd_c25_33, ↓exq_cd cd_c25_35, ↓exq_cd cd_c25_36, ↓exq_cd cd_c25_38, ↓exq_cd cd_c25_40, ↓exq_cd cd_c25_41, ↓exq_cd cd_c25_43, ↓exq_cd cd_c25_45, ↓exq_cd cd_c25_46, r25_1, r25_3, r25_8, r25_10, r25_15, r25_20, r25_25, r25_30, r25_35, r25_40, r25_45]
    repeat (refine And.intro (a := (_ = true)) (by first | (simp; done) | (simp; omega)) ?_)
    exact ObQ.mk [0, 1, 2, 3] (by decide) rfl rfl rfl ⟨rfl, rfl, rfl, rfl, trivial⟩
end DW
end Go.Proofs.Ytmdepmhamefheaa
