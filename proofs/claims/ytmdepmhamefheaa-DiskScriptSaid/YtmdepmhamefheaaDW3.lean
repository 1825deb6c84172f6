/- Disks: the words of Clone, Read, New, Copy; contracts of disks. -/
import Derived.Test.YtmdepmhamefheaaDW5
set_option linter.unusedSimpArgs false
set_option linter.unusedVariables false
-- FUNCTIONS 34 18 9 28 39
namespace Go.Proofs.Ytmdepmhamefheaa
open Go Go.SY
namespace DW
def sCln : List AV → Option (Bool × AV × Bls)
  | [.imn _ .u8 xs _] => some (decide (xs.length ≤ 140737488355328), .sl 0 0 1 xs.length none, [some (.num .u8 xs)])
  | _ => none
set_option maxRecDepth 100000 in
set_option maxHeartbeats 4000000 in
theorem cln_run (C : Ctx) (hC : C.β.b = []) (t : Bool) (xs : List Int) (c : Option Nat) (hl : xs.length ≤ 140737488355328) : Rch Try.prog (plOf pls) C (conf0 39 ⟨8, [.tmp 2], code39⟩ [.imn t .u8 xs c] []) (ObQ 0 (.sl 0 0 1 xs.length none) [some (.num .u8 xs)]) := by
  by_cases h0 : xs = []
  · subst h0
    refine ExQ_ok [] 8 plsOk noK ?_
    simp only [conf0]
    (try rw [exh]); simp (maxSteps := 4000000) only [stops, stepF, frsF, frF, itemF, codeF, opsF, opsW, opF, wtS, sopF, pv, p_move, p_assign, SY.get, SY.put, SY.ev, SY.mk, SY.ini, exq_zero, exq_go, ↓reduceIte, Nat.reduceLT, Nat.reduceAdd, reduceCtorEq, true_and, List.length_nil, regAt, body39, Try.f39, ↓exq_cd cd_code39, ↓exq_cd cd_c39_1, ↓exq_cd cd_c39_2, ↓exq_cd cd_c39_3, ↓exq_cd cd_c39_5, r39_1, r39_5]
    repeat (refine And.intro (a := (_ = true)) (by first | (simp; done) | (simp; omega)) ?_)
    refine Rch.eqnil rfl rfl ti22 rfl rfl fun b hb => ?_
    cases b with
    | true =>
      refine ExQ_ok [] 2000 plsOk noK ?_
      (try rw [exh]); simp (maxSteps := 4000000) only [stops, stepF, frsF, frF, itemF, codeF, condF, opsF, opsW, opF, stepS, wtS, sopF, pv, p_assign, SY.get, SY.put, SY.ev, SY.mk, leaveS, retS, killL, isDefs, resS, resAll, tup1, exq_go, exq_t, ↓reduceIte, Nat.reduceLT, Nat.reduceAdd, true_and, regAt, fi39, body39, Try.f39, ↓exq_cd cd_c39_6, ↓exq_cd cd_c39_7, ↓exq_cd cd_c39_9, r39_9]
      repeat (refine And.intro (a := (_ = true)) (by first | (simp; done) | (simp; omega)) ?_)
      exact .wk (Wk.none _ .u8) (.den (r2 := .sl 0 0 1 0 none) (fun _ _ h => den_nilsl h) (ObQ.mk [0] (by decide) rfl rfl rfl ⟨rfl, trivial⟩))
    | false =>
      refine ExQ_ok [] 2000 plsOk noK ?_
      (try rw [exh]); simp (maxSteps := 4000000) only [List.nil_append, stops, inK, stepF, frsF, frF, itemF, codeF, condF, opsF, opsW, opF, stepS, wtS, sopF, pv, evq, bltF, callF, quiet, p_move, p_assign, roomN, appNN, srcN, dstN, e_buildSlice, e_append, SY.get, SY.put, SY.ev, SY.mk, SY.lvl, wid, wids, fillA, numsAt, numsAV, rep, elCt, srcN, dstN, leaveS, retS, killL, isDefs, resS, resAll, tup1, exq_go, exq_f, ↓reduceIte, Nat.reduceLT, Nat.reduceLeDiff, Nat.reduceEqDiff, Nat.reduceAdd, Option.isSome_none, reduceCtorEq, true_and, Bool.false_eq_true, List.map_nil, Bool.and_self, List.length_cons, List.length_nil, List.cons_append, List.nil_append, List.append_nil, Nat.zero_add, Nat.add_zero, Nat.mul_one, decide_true, and_false, ti5, ti22, regAt, fi39, body39, Try.f39, ↓exq_cd cd_c39_6, ↓exq_cd cd_c39_4, ↓exq_cd cd_c39_10, r39_10]
      repeat (refine And.intro (a := (_ = true)) (by first | (simp; done) | (simp; omega)) ?_)
      exact ObQ.mk [1] (by decide) rfl rfl rfl ⟨rfl, trivial⟩
  · have h1 : 0 < xs.length := List.length_pos_iff.2 h0
    refine ExQ_ok [] 2000 plsOk noK ?_
    simp only [conf0]
    (try rw [exh]); simp (maxSteps := 4000000) only [List.nil_append, stops, inK, stepF, frsF, frF, itemF, codeF, condF, opsF, opsW, opF, stepS, wtS, sopF, pv, evq, bltF, callF, quiet, p_move, p_assign, p_binOp, roomN, appNN, srcN, dstN, e_buildSlice, e_append, SY.get, SY.put, SY.ev, SY.mk, SY.lvl, SY.ini, wid, wids, bopEq, isSl, bop, fillA, numsAt, numsAV, rep, elCt, srcN, dstN, leaveS, retS, killL, isDefs, resS, resAll, tup1, exq_go, exq_f, ↓reduceIte, Nat.reduceLT, Nat.reduceLeDiff, Nat.reduceEqDiff, Nat.reduceAdd, Bool.and_true, Bool.true_and, Option.isSome_none, reduceCtorEq, true_and, Bool.false_eq_true, List.map_nil, Bool.and_self, List.length_cons, List.length_nil, List.cons_append, List.nil_append, Nat.zero_add, Nat.add_zero, Nat.mul_one, and_false, ti5, ti22, regAt, fi39, body39, Try.f39, ↓exq_cd cd_code39, ↓exq_cd cd_c39_1, ↓exq_cd cd_c39_2, ↓exq_cd cd_c39_3, ↓exq_cd cd_c39_5, ↓exq_cd cd_c39_6, ↓exq_cd cd_c39_4, ↓exq_cd cd_c39_10, r39_1, r39_5, r39_10]
    repeat (refine And.intro (a := (_ = true)) (by first | (simp; done) | (simp; omega)) ?_)
    exact ObQ.mk [1] (by decide) rfl rfl rfl ⟨rfl, trivial⟩
theorem cln_ok : SpecW Try.prog (plOf pls) 39 sCln := by
  refine ⟨_, fi39, fun args r bl1 h => ?_⟩
  unfold sCln at h
  split at h
  · simp only [Option.some.injEq, Prod.mk.injEq, decide_eq_true_eq] at h
    obtain ⟨h1, rfl, rfl⟩ := h
    exact ⟨by simp, fun C hC _ => cln_run C hC _ _ _ h1⟩
  · cases h
def kC : KT := ktW 39 (conK sCln) fun _ => none
theorem kC_ok : KOk Try.prog (plOf pls) kC := ktW_ok noK (specW_ok plsOk cln_ok)
def rdV (s : DS) : AV := if s.out = true then .tup [.nil, .v (.int .i64 11)] else .tup [.sl (layD s).length 0 1 s.l.length none, .v (.int .i64 0)]
def rdX (s : DS) : Bls := if s.out = true then [] else [some (.num .u8 s.l)]
set_option maxRecDepth 100000 in
set_option maxHeartbeats 4000000 in
theorem read_word (s : DS) (hs : numOk s = true) : Word Try.prog (plOf pls) 18 [.ptr 0 0 9 0] (layD s) (ObQ (layD s).length (rdV s) (layD s ++ rdX s)) := by
  obtain ⟨l, f, x, xf, room, n, u, out⟩ := s
  simp only [numOk, Bool.and_eq_true, decide_eq_true_eq] at hs
  obtain ⟨hn0, hn1, hlx, hf0, hf1, hu⟩ := hs
  have tl := take_self l
  refine ⟨_, fi18, by simp, fun C hC hl => ?_⟩
  cases out with
  | true =>
    cases u with
    | none =>
      refine ExQ_ok [] 2000 plsOk kC_ok ?_
      simp only [conf0, layD, fuP, fuL]
      (try rw [exh]); simp (maxSteps := 4000000) only [kC, ktW, stops, inK, stepF, frsF, frF, itemF, codeF, condF, opsF, opsW, opF, callO, stepS, wtS, gdst, gdl, sopF, pv, callF, calleeS, p_move, p_assign, p_pick, p_nilCheck, p_binOp, p_unOp, p_fieldAddr, l_load, SY.get, SY.put, SY.ev, SY.mk, SY.nth, SY.lvl, SY.ini, dr, at1, rdC, rdCt, bopEq, isPtr, bop, pickAV, enterS, leaveS, retS, finishS, killL, isDefs, resS, resAll, tup1, AV.scal, exq_go, exq_t, exq_f, ↓reduceIte, Nat.reduceLT, Nat.reduceLeDiff, Nat.reduceEqDiff, Nat.reduceAdd, Nat.reduceSub, Bool.not_false, Bool.not_true, List.contains_nil, reduceCtorEq, true_and, List.map_cons, List.map_nil, Bool.and_self, List.length_cons, List.length_nil, List.cons_append, List.nil_append, List.append_nil, Nat.zero_add, Nat.zero_mul, Int.reduceLE, decide_true, ti4, ti24, ti58, regAt, fi34, body34, Try.f34, fi18, body18, Try.f18, ↓exq_cd cd_code18, ↓exq_cd cd_c18_1, ↓exq_cd cd_c18_2, ↓exq_cd cd_c18_3, ↓exq_cd cd_c18_5, ↓exq_cd cd_c18_6, ↓exq_cd cd_c18_7, ↓exq_cd cd_c18_9, ↓exq_cd cd_c18_12, ↓exq_cd cd_c18_13, ↓exq_cd cd_c18_14, ↓exq_cd cd_c18_16, ↓exq_cd cd_code34, ↓exq_cd cd_c34_1, ↓exq_cd cd_c34_2, ↓exq_cd cd_c34_3, r18_1, r18_6, r18_12, r18_16, r34_1, r34_3]
      repeat (refine And.intro (a := (_ = true)) (by first | (simp; done) | (simp; omega)) ?_)
      exact ObQ.mk [0, 1, 2] (by decide) rfl rfl rfl ⟨rfl, rfl, rfl, trivial⟩
    | some k =>
      refine ExQ_ok [] 2000 plsOk kC_ok ?_
      simp only [conf0, layD, fuP, fuL]
      (try rw [exh]); simp (maxSteps := 4000000) only [kC, ktW, stops, inK, stepF, frsF, frF, itemF, codeF, condF, opsF, opsW, opF, callO, stepS, wtS, gdst, gdl, sopF, pv, callF, calleeS, p_move, p_assign, p_pick, p_nilCheck, p_binOp, p_unOp, p_fieldAddr, l_load, SY.get, SY.put, SY.ev, SY.mk, SY.nth, SY.lvl, SY.ini, dr, at1, rdC, rdCt, bopEq, isPtr, bop, pickAV, enterS, leaveS, retS, finishS, killL, isDefs, resS, resAll, tup1, AV.scal, exq_go, exq_t, exq_f, ↓reduceIte, Nat.reduceLT, Nat.reduceLeDiff, Nat.reduceEqDiff, Nat.reduceAdd, Nat.reduceSub, Bool.not_false, Bool.not_true, List.contains_nil, reduceCtorEq, true_and, List.map_cons, List.map_nil, Bool.and_self, List.length_cons, List.length_nil, List.cons_append, List.nil_append, List.append_nil, Nat.zero_add, Nat.zero_mul, Int.reduceLE, decide_true, ti4, ti24, ti58, regAt, fi34, body34, Try.f34, fi18, body18, Try.f18, ↓exq_cd cd_code18, ↓exq_cd cd_c18_1, ↓exq_cd cd_c18_2, ↓exq_cd cd_c18_3, ↓exq_cd cd_c18_5, ↓exq_cd cd_c18_6, ↓exq_cd cd_c18_7, ↓exq_cd cd_c18_9, ↓exq_cd cd_c18_12, ↓exq_cd cd_c18_13, ↓exq_cd cd_c18_14, ↓exq_cd cd_c18_16, ↓exq_cd cd_code34, ↓exq_cd cd_c34_1, ↓exq_cd cd_c34_2, ↓exq_cd cd_c34_3, r18_1, r18_6, r18_12, r18_16, r34_1, r34_3]
      repeat (refine And.intro (a := (_ = true)) (by first | (simp; done) | (simp; omega)) ?_)
      exact ObQ.mk [0, 1, 2, 3] (by decide) rfl rfl rfl ⟨rfl, rfl, rfl, rfl, trivial⟩
  | false =>
    cases u with
    | none =>
      refine ExQ_ok [] 2000 plsOk kC_ok ?_
      simp only [conf0, layD, fuP, fuL]
      (try rw [exh]); simp (maxSteps := 4000000) only [kC, ktW, sCln, tl, stops, inK, stepF, frsF, frF, itemF, codeF, condF, opsF, opsW, opF, callO, stepS, wtS, gdst, gdl, sopF, pv, callF, calleeS, p_move, p_assign, p_pick, p_nilCheck, p_binOp, p_unOp, p_fieldAddr, l_load, SY.get, SY.put, SY.ev, SY.mk, SY.nth, SY.lvl, SY.ini, dr, at1, rdC, rdCt, bopEq, isPtr, bop, pickAV, enterS, leaveS, retS, finishS, killL, isDefs, resS, resAll, tup1, AV.scal, Ct.cell, exq_go, lvCt, exq_f, ↓reduceIte, Nat.reduceLT, Nat.reduceLeDiff, Nat.reduceEqDiff, Nat.reduceAdd, Nat.reduceSub, Bool.and_true, Bool.not_false, Bool.not_true, List.contains_nil, reduceCtorEq, true_and, List.map_cons, List.map_nil, Bool.and_self, List.drop_zero, List.length_cons, List.length_nil, List.cons_append, List.nil_append, List.append_nil, Nat.zero_add, Nat.add_zero, Nat.zero_mul, Int.reduceLE, decide_true, decide_false, conK, alive, lndL, lnd, lvB, okBls, shB, ren, renCt, ti4, ti22, ti24, ti52, ti54, ti58, regAt, fi34, body34, Try.f34, fi18, body18, Try.f18, ↓exq_cd cd_code18, ↓exq_cd cd_c18_1, ↓exq_cd cd_c18_2, ↓exq_cd cd_c18_3, ↓exq_cd cd_c18_5, ↓exq_cd cd_c18_6, ↓exq_cd cd_c18_7, ↓exq_cd cd_c18_9, ↓exq_cd cd_c18_12, ↓exq_cd cd_c18_13, ↓exq_cd cd_c18_4, ↓exq_cd cd_c18_17, ↓exq_cd cd_code34, ↓exq_cd cd_c34_1, ↓exq_cd cd_c34_2, ↓exq_cd cd_c34_3, r18_1, r18_6, r18_12, r18_17, r34_1, r34_3]
      repeat (refine And.intro (a := (_ = true)) (by first | (simp; done) | (simp; omega)) ?_)
      exact ObQ.mk [0, 1, 2, 3] (by decide) rfl rfl rfl ⟨rfl, rfl, rfl, rfl, trivial⟩
    | some k =>
      refine ExQ_ok [] 2000 plsOk kC_ok ?_
      simp only [conf0, layD, fuP, fuL]
      (try rw [exh]); simp (maxSteps := 4000000) only [kC, ktW, sCln, tl, stops, inK, stepF, frsF, frF, itemF, codeF, condF, opsF, opsW, opF, callO, stepS, wtS, gdst, gdl, sopF, pv, callF, calleeS, p_move, p_assign, p_pick, p_nilCheck, p_binOp, p_unOp, p_fieldAddr, l_load, SY.get, SY.put, SY.ev, SY.mk, SY.nth, SY.lvl, SY.ini, dr, at1, rdC, rdCt, bopEq, isPtr, bop, pickAV, enterS, leaveS, retS, finishS, killL, isDefs, resS, resAll, tup1, AV.scal, Ct.cell, exq_go, lvCt, exq_f, ↓reduceIte, Nat.reduceLT, Nat.reduceLeDiff, Nat.reduceEqDiff, Nat.reduceAdd, Nat.reduceSub, Bool.and_true, Bool.not_false, Bool.not_true, List.contains_nil, reduceCtorEq, true_and, List.map_cons, List.map_nil, Bool.and_self, List.drop_zero, List.length_cons, List.length_nil, List.cons_append, List.nil_append, List.append_nil, Nat.zero_add, Nat.add_zero, Nat.zero_mul, Int.reduceLE, decide_true, decide_false, conK, alive, lndL, lnd, lvB, okBls, shB, ren, renCt, ti4, ti22, ti24, ti52, ti54, ti58, regAt, fi34, body34, Try.f34, fi18, body18, Try.f18, ↓exq_cd cd_code18, ↓exq_cd cd_c18_1, ↓exq_cd cd_c18_2, ↓exq_cd cd_c18_3, ↓exq_cd cd_c18_5, ↓exq_cd cd_c18_6, ↓exq_cd cd_c18_7, ↓exq_cd cd_c18_9, ↓exq_cd cd_c18_12, ↓exq_cd cd_c18_13, ↓exq_cd cd_c18_4, ↓exq_cd cd_c18_17, ↓exq_cd cd_code34, ↓exq_cd cd_c34_1, ↓exq_cd cd_c34_2, ↓exq_cd cd_c34_3, r18_1, r18_6, r18_12, r18_17, r34_1, r34_3]
      repeat (refine And.intro (a := (_ = true)) (by first | (simp; done) | (simp; omega)) ?_)
      exact ObQ.mk [0, 1, 2, 3, 4] (by decide) rfl rfl rfl ⟨rfl, rfl, rfl, rfl, rfl, trivial⟩
def newD (room : Int) : DS := ⟨[], 0, [], 0, room, 0, none, false⟩
def sNew : List AV → Option (Bool × AV × Bls)
  | [.v (.int .i64 room)] => if room < 0 ∨ 1000000 < room then some (true, .tup [.v (.pointer none), .v (.int .i64 2)], []) else some (true, .tup [.ptr 0 0 9 0, .v (.int .i64 0)], layD (newD room))
  | _ => none
theorem den_tup2 {x x' y : AV} (h : ∀ β v, Den β x v → Den β x' v) : DenW (.tup [x, y]) (.tup [x', y]) := fun β v hd => by
  simp only [Den, DenL] at hd ⊢
  obtain ⟨ys, e, y1, zs, e1, h1, h2⟩ := hd
  exact ⟨ys, e, y1, zs, e1, h β _ h1, h2⟩
set_option maxRecDepth 100000 in
set_option maxHeartbeats 4000000 in
theorem new_ok : SpecW Try.prog (plOf pls) 9 sNew := by
  refine ⟨_, fi9, fun args r bl1 h => ?_⟩
  unfold sNew at h
  split at h
  · rename_i room
    split at h
    · rename_i hr
      simp only [Option.some.injEq, Prod.mk.injEq, true_and] at h
      obtain ⟨rfl, rfl⟩ := h
      refine ⟨by simp, fun C hC hb => ?_⟩
      by_cases h1 : room < 0
      · refine ExQ_ok [] 2000 plsOk noK ?_
        simp only [conf0]
        (try rw [exh]); simp (maxSteps := 4000000) only [h1, stops, inK, stepF, frsF, frF, itemF, codeF, condF, opsF, opsW, opF, stepS, wtS, gdst, gdl, sopF, pv, p_move, p_assign, p_pick, p_binOp, SY.get, SY.put, SY.ev, SY.mk, SY.ini, bopInt, bop, pickAV, leaveS, retS, killL, isDefs, resS, resAll, tup1, exq_go, exq_t, ↓reduceIte, Nat.reduceLT, Nat.reduceEqDiff, Nat.reduceAdd, Nat.reduceSub, Bool.not_false, reduceCtorEq, true_and, Bool.and_self, Int.reduceLE, decide_true, ti3, regAt, fi9, body9, Try.f9, ↓exq_cd cd_code9, ↓exq_cd cd_c9_1, ↓exq_cd cd_c9_2, ↓exq_cd cd_c9_3, ↓exq_cd cd_c9_5, ↓exq_cd cd_c9_6, ↓exq_cd cd_c9_7, ↓exq_cd cd_c9_9, r9_1, r9_5, r9_9]
        repeat (refine And.intro (a := (_ = true)) (by first | (simp; done) | (simp; omega)) ?_)
        exact ObQ.mk [] (by decide) rfl rfl rfl trivial
      · have h2 : 1000000 < room := hr.resolve_left h1
        refine ExQ_ok [] 2000 plsOk noK ?_
        simp only [conf0]
        (try rw [exh]); simp (maxSteps := 4000000) only [h1, h2, stops, inK, stepF, frsF, frF, itemF, codeF, condF, opsF, opsW, opF, stepS, wtS, gdst, gdl, sopF, pv, p_move, p_assign, p_pick, p_binOp, SY.get, SY.put, SY.ev, SY.mk, SY.ini, bopInt, bop, pickAV, leaveS, retS, killL, isDefs, resS, resAll, tup1, exq_go, exq_t, exq_f, ↓reduceIte, Nat.reduceLT, Nat.reduceEqDiff, Nat.reduceAdd, Nat.reduceSub, Bool.not_false, reduceCtorEq, true_and, Bool.and_self, Int.reduceLE, decide_true, decide_false, ti3, regAt, fi9, body9, Try.f9, ↓exq_cd cd_code9, ↓exq_cd cd_c9_1, ↓exq_cd cd_c9_2, ↓exq_cd cd_c9_3, ↓exq_cd cd_c9_5, ↓exq_cd cd_c9_6, ↓exq_cd cd_c9_7, ↓exq_cd cd_c9_9, r9_1, r9_5, r9_9]
        repeat (refine And.intro (a := (_ = true)) (by first | (simp; done) | (simp; omega)) ?_)
        exact ObQ.mk [] (by decide) rfl rfl rfl trivial
    · rename_i hr
      rw [not_or] at hr
      obtain ⟨h1, h2⟩ := hr
      simp only [Option.some.injEq, Prod.mk.injEq, true_and] at h
      obtain ⟨rfl, rfl⟩ := h
      refine ⟨by simp, fun C hC hb => ?_⟩
      refine ExQ_ok [] 2000 plsOk noK ?_
      simp only [conf0]
      (try rw [exh]); simp (maxSteps := 4000000) only [h1, h2, stops, inK, stepF, frsF, frF, itemF, codeF, condF, opsF, opsW, opF, stepS, wtS, gdst, gdl, sopF, pv, evq, quiet, p_move, p_assign, p_pick, p_binOp, p_build, e_box, SY.get, SY.put, SY.ev, SY.mk, SY.nth, SY.ini, wid, wids, dr, flat, pack, wrC, bopInt, bop, pickAV, fillA, plFs, nz, isArr, ctOf, leaveS, retS, killL, isDefs, resS, resAll, tup1, exq_go, exq_f, ↓reduceIte, Nat.reduceLT, Nat.reduceEqDiff, Nat.reduceAdd, Nat.reduceSub, Bool.not_false, reduceCtorEq, true_and, List.map_cons, List.map_nil, Bool.and_self, List.length_nil, List.cons_append, List.nil_append, List.append_nil, Nat.add_zero, Int.reduceLE, decide_true, decide_false, ti3, ti58, regAt, fi9, body9, Try.f9, ↓exq_cd cd_code9, ↓exq_cd cd_c9_1, ↓exq_cd cd_c9_2, ↓exq_cd cd_c9_3, ↓exq_cd cd_c9_5, ↓exq_cd cd_c9_6, ↓exq_cd cd_c9_4, ↓exq_cd cd_c9_10, r9_1, r9_5, r9_10]
      repeat (refine And.intro (a := (_ = true)) (by first | (simp; done) | (simp; omega)) ?_)
      refine ObQ.wk (Wk.nilcell (l := 0) (pre := []) .u8 rfl 0 1) ?_
      refine ObQ.wk (Wk.nilcell (l := 0) (pre := [_, _]) .u8 rfl 0 1) ?_
      exact ObQ.mk [0, 1, 2] (by decide) rfl rfl rfl ⟨rfl, rfl, rfl, trivial⟩
  · cases h
def cpV (s : DS) : AV := .ptr (layD s).length 0 9 0
def cpX (s : DS) : Bls := shB (layD s).length (layD s)
set_option maxRecDepth 100000 in
set_option maxHeartbeats 4000000 in
theorem copy_word (s : DS) (hs : numOk s = true) : Word Try.prog (plOf pls) 28 [.ptr 0 0 9 0] (layD s) (ObQ (layD s).length (cpV s) (layD s ++ cpX s)) := by
  obtain ⟨l, f, x, xf, room, n, u, out⟩ := s
  simp only [numOk, Bool.and_eq_true, decide_eq_true_eq] at hs
  obtain ⟨hn0, hn1, hlx, hf0, hf1, hu⟩ := hs
  have tl := take_self l
  have tx := take_self x
  refine ⟨_, fi28, by simp, fun C hC hl => ?_⟩
  cases u with
  | none =>
    refine ExQ_ok [] 2000 plsOk kC_ok ?_
    simp only [conf0, layD, fuP, fuL]
    (try rw [exh]); simp (maxSteps := 4000000) only [kC, ktW, sCln, tl, tx, stops, stepF, frsF, frF, itemF, codeF, condF, opsF, opsW, opF, callO, drF, drO, drW, drC, stepS, wtS, gdst, gdl, sopF, pv, evq, callF, calleeS, popF, lopF, cls, lvA, rdl, quiet, p_move, p_assign, p_pick, p_nilCheck, p_binOp, p_unOp, p_fieldAddr, l_load, e_store, e_alloc, SY.get, SY.put, SY.ev, SY.mk, SY.nth, SY.lvl, SY.setl, SY.ini, wid, wids, dr, tk, flat, at1, pack, rdC, rdCt, wrC, wrCt, bopEq, isPtr, bop, pickAV, isArr, ctOf, enterS, leaveS, retS, finishS, killL, isDefs, resS, resAll, tup1, AV.scal, plk, Ct.cell, exq_go, lvCt, exq_f, ↓reduceIte, Nat.reduceLT, Nat.reduceLeDiff, Nat.reduceEqDiff, Nat.reduceAdd, Nat.reduceSub, Nat.reduceBEq, Bool.and_true, Bool.not_false, Bool.not_true, List.contains_nil, List.contains_cons, Bool.or_false, Option.isNone_none, reduceCtorEq, true_and, Bool.false_eq_true, List.map_cons, List.map_nil, Bool.and_self, List.drop_zero, List.length_cons, List.length_nil, List.cons_append, List.nil_append, List.append_nil, Nat.zero_add, Nat.add_zero, Nat.zero_mul, decide_true, decide_false, conK, alive, alive0, mks, noMk, lndL, lnd, lvB, okBls, shB, ren, renCt, ti4, ti22, ti24, ti52, ti54, ti55, ti56, ti58, regAt, fi34, body34, Try.f34, fi28, body28, Try.f28, ↓exq_cd cd_code28, ↓exq_cd cd_c28_1, ↓exq_cd cd_c28_2, ↓exq_cd cd_c28_3, ↓exq_cd cd_c28_5, ↓exq_cd cd_c28_6, ↓exq_cd cd_c28_4, ↓exq_cd cd_c28_10, ↓exq_cd cd_c28_11, ↓exq_cd cd_c28_12, ↓exq_cd cd_c28_13, ↓exq_cd cd_c28_14, ↓exq_cd cd_c28_16, ↓exq_cd cd_c28_17, ↓exq_cd cd_c28_15, ↓exq_cd cd_c28_22, ↓exq_cd cd_code34, ↓exq_cd cd_c34_1, ↓exq_cd cd_c34_2, ↓exq_cd cd_c34_3, r28_1, r28_5, r28_10, r28_12, r28_16, r28_22, r34_1, r34_3, plA28, pl28]
    repeat (refine And.intro (a := (_ = true)) (by first | (simp; done) | (simp; omega)) ?_)
    exact ObQ.mk [0, 1, 2, 3, 4, 5] (by decide) rfl rfl rfl ⟨rfl, rfl, rfl, rfl, rfl, rfl, trivial⟩
  | some k =>
    refine ExQ_ok [] 2000 plsOk kC_ok ?_
    simp only [conf0, layD, fuP, fuL]
    (try rw [exh]); simp (maxSteps := 4000000) only [kC, ktW, sCln, tl, tx, stops, stepF, frsF, frF, itemF, codeF, condF, opsF, opsW, opF, callO, drF, drO, drW, drC, stepS, wtS, gdst, gdl, sopF, pv, evq, callF, calleeS, popF, lopF, cls, lvA, rdl, quiet, p_move, p_assign, p_pick, p_nilCheck, p_binOp, p_unOp, p_fieldAddr, l_load, e_store, e_alloc, SY.get, SY.put, SY.ev, SY.mk, SY.nth, SY.lvl, SY.setl, SY.ini, wid, wids, dr, tk, flat, at1, pack, rdC, rdCt, wrC, wrCt, bopEq, isPtr, bop, pickAV, isArr, ctOf, enterS, leaveS, retS, finishS, killL, isDefs, resS, resAll, tup1, AV.scal, plk, Ct.cell, exq_go, lvCt, exq_t, exq_f, ↓reduceIte, Nat.reduceLT, Nat.reduceLeDiff, Nat.reduceEqDiff, Nat.reduceAdd, Nat.reduceSub, Nat.reduceBEq, Bool.and_true, Bool.not_false, Bool.not_true, List.contains_nil, List.contains_cons, Bool.or_false, reduceCtorEq, true_and, Bool.false_eq_true, List.map_cons, List.map_nil, Bool.and_self, List.drop_zero, List.length_cons, List.length_nil, List.cons_append, List.nil_append, List.append_nil, Nat.zero_add, Nat.add_zero, Nat.zero_mul, Nat.mul_one, decide_true, decide_false, conK, alive, alive0, mks, noMk, lndL, lnd, lvB, okBls, shB, ren, renCt, ti3, ti4, ti22, ti24, ti52, ti54, ti55, ti56, ti58, regAt, fi34, body34, Try.f34, fi28, body28, Try.f28, ↓exq_cd cd_code28, ↓exq_cd cd_c28_1, ↓exq_cd cd_c28_2, ↓exq_cd cd_c28_3, ↓exq_cd cd_c28_5, ↓exq_cd cd_c28_6, ↓exq_cd cd_c28_4, ↓exq_cd cd_c28_10, ↓exq_cd cd_c28_11, ↓exq_cd cd_c28_12, ↓exq_cd cd_c28_13, ↓exq_cd cd_c28_14, ↓exq_cd cd_c28_16, ↓exq_cd cd_c28_17, ↓exq_cd cd_c28_18, ↓exq_cd cd_c28_20, ↓exq_cd cd_c28_21, ↓exq_cd cd_c28_15, ↓exq_cd cd_c28_22, ↓exq_cd cd_code34, ↓exq_cd cd_c34_1, ↓exq_cd cd_c34_2, ↓exq_cd cd_c34_3, r28_1, r28_5, r28_10, r28_12, r28_16, r28_20, r28_21, r28_22, r34_1, r34_3, plA28, pl28]
    repeat (refine And.intro (a := (_ = true)) (by first | (simp; done) | (simp; omega)) ?_)
    exact ObQ.mk [0, 1, 2, 3, 4, 5, 6, 7] (by decide) rfl rfl rfl ⟨rfl, rfl, rfl, rfl, rfl, rfl, rfl, rfl, trivial⟩
end DW
end Go.Proofs.Ytmdepmhamefheaa
