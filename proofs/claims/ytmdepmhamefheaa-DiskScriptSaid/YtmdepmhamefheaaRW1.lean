/- The document's disk: what one is in memory; the words of Append, Next, Sync, Switch. -/
import Derived.Test.YtmdepmhamefheaaDW4
set_option linter.unusedSimpArgs false
set_option linter.unusedVariables false
-- FUNCTIONS 41 43 42 44 56 57 58
namespace Go.Proofs.Ytmdepmhamefheaa
open Go Go.SY
namespace RW
open DW
def lfO : Option Int → Int
  | none => -1
  | some k => k
def layR (s : DS) : Bls := [some (.lit [.sl 1 0 1 s.l.length none, .v (.int .i64 s.f), .sl 2 0 1 s.x.length none, .v (.int .i64 s.room), .v (.int .i64 s.n), .v (.int .i64 (lfO s.u)), .v (.bool s.out)]), some (.num .u8 s.l), some (.num .u8 s.x)]
def findR (bl : Bls) (l : Nat) : Option (Bool × List Nat × DS) := match lvl bl l with
  | some (.lit [.sl l1 0 1 n1 none, .v (.int .i64 f), .sl l2 0 1 n2 none, .v (.int .i64 room), .v (.int .i64 n), .v (.int .i64 left), .v (.bool out)]) => (match lvl bl l1 with
    | some (.num .u8 xs) => (match lvl bl l2 with
      | some (.num .u8 ys) => some (decide (xs.length = n1) && (decide (ys.length = n2) && (decide (-1 ≤ left) && decide [l, l1, l2].Nodup)), [l, l1, l2], ⟨xs, f, ys, 0, room, n, if left < 0 then none else some left, out⟩)
      | _ => none)
    | _ => none)
  | _ => none
theorem findR_ok {bl : Bls} {l : Nat} {σ : List Nat} {s : DS} (h : findR bl l = some (true, σ, s)) : σ.Nodup ∧ (σ.all fun l => decide (l < bl.length)) = true ∧ σ.length = (layR s).length ∧ FitB (nm σ) σ.length bl 0 (layR s) ∧ 1 ≤ σ.length ∧ nm σ 0 = l := by
  unfold findR at h
  split at h
  · rename_i l1 n1 f l2 n2 room n left out e0
    split at h
    · rename_i xs e1
      split at h
      · rename_i ys e2
        simp only [Option.some.injEq, Prod.mk.injEq, Bool.and_eq_true, decide_eq_true_eq] at h
        obtain ⟨⟨rfl, rfl, hl, h3⟩, rfl, rfl⟩ := h
        have hlf : lfO (if left < 0 then none else some left) = left := by
          split
          · show (-1 : Int) = left
            omega
          · rfl
        refine ⟨h3, ?_, rfl, ⟨⟨by rw [show nm [l, l1, l2] 0 = l from rfl, e0]; simp only [renCt, renL, ren, hlf]; rfl, rfl⟩, ⟨e1, rfl⟩, ⟨e2, rfl⟩, trivial⟩, by simp, rfl⟩
        have := lvl_lt e0; have := lvl_lt e1; have := lvl_lt e2
        simp only [List.all_cons, List.all_nil, Bool.and_true, Bool.and_eq_true, decide_eq_true_eq]
        exact ⟨by assumption, by assumption, by assumption⟩
      · cases h
    · cases h
  · cases h
set_option maxRecDepth 100000 in
set_option maxHeartbeats 4000000 in
theorem app_word (s : DS) (t : Bool) (b : List Int) (c : Option Nat) (hs : numOk s = true) (hb : b.length ≤ 1000000000) : Word Try.prog (plOf pls) 41 [.ptr 0 0 7 0, .imn t .u8 b c] (layR s) (ObQ 1 (.v (.int .i64 (dLay false s b).1)) (layR (dLay false s b).2)) := by
  obtain ⟨l, f, x, xf, room, n, u, out⟩ := s
  simp only [numOk, Bool.and_eq_true, decide_eq_true_eq] at hs
  obtain ⟨hn0, hn1, hlx, hf0, hf1, hu⟩ := hs
  refine ⟨_, fi41, by simp, fun C hC hl => ?_⟩
  cases out with
  | true =>
    have e : dLay false ⟨l, f, x, xf, room, n, u, true⟩ b = (11, ⟨l, f, x, xf, room, n, u, true⟩) := by simp [dLay]
    rw [e]
    refine ExQ_ok [] 2000 plsOk noK ?_
    simp only [conf0, layR, lfO]
    (try rw [exh]); simp (maxSteps := 4000000) only [stops, inK, stepF, frsF, frF, itemF, codeF, condF, opsF, opsW, opF, callO, stepS, wtS, sopF, pv, callF, calleeS, p_move, p_assign, p_nilCheck, p_binOp, p_fieldAddr, l_load, SY.get, SY.put, SY.ev, SY.mk, SY.nth, SY.lvl, SY.ini, dr, at1, rdC, rdCt, bopInt, bop, enterS, leaveS, retS, finishS, killL, isDefs, resS, resAll, tup1, AV.scal, exq_go, exq_t, ↓reduceIte, Nat.reduceLT, Nat.reduceLeDiff, Nat.reduceEqDiff, Nat.reduceAdd, Nat.reduceSub, List.contains_nil, reduceCtorEq, true_and, List.map_cons, List.map_nil, Bool.and_self, List.length_cons, List.length_nil, List.nil_append, List.append_nil, Nat.zero_add, Nat.zero_mul, Int.reduceEq, Int.reduceLE, decide_true, not_false_eq_true, ti4, ti25, ti65, regAt, fi41, body41, Try.f41, fi56, body56, Try.f56, ↓exq_cd cd_code41, ↓exq_cd cd_c41_1, ↓exq_cd cd_c41_2, ↓exq_cd cd_c41_3, ↓exq_cd cd_c41_4, ↓exq_cd cd_c41_5, ↓exq_cd cd_c41_7, ↓exq_cd cd_c41_8, ↓exq_cd cd_c41_9, ↓exq_cd cd_c41_11, ↓exq_cd cd_code56, ↓exq_cd cd_c56_1, ↓exq_cd cd_c56_2, ↓exq_cd cd_c56_3, ↓exq_cd cd_c56_5, ↓exq_cd cd_c56_6, ↓exq_cd cd_c56_7, ↓exq_cd cd_c56_9, r41_1, r41_3, r41_7, r41_11, r56_1, r56_5, r56_9]
    repeat (refine And.intro (a := (_ = true)) (by first | (simp; done) | (simp; omega)) ?_)
    exact ObQ.mk [0, 1, 2] (by decide) rfl rfl rfl ⟨rfl, rfl, rfl, trivial⟩
  | false =>
    by_cases hr : room < (l.length : Int) + x.length + b.length
    · have e : dLay false ⟨l, f, x, xf, room, n, u, false⟩ b = (8, ⟨l, f, x, xf, room, n, u, false⟩) := by simp [dLay, hr]
      rw [e]
      refine ExQ_ok [] 2000 plsOk noK ?_
      simp only [conf0, layR, lfO]
      (try rw [exh]); simp (maxSteps := 4000000) only [hr, stops, inK, stepF, frsF, frF, itemF, codeF, condF, opsF, opsW, opF, callO, drF, drO, drW, drC, stepS, wtS, sopF, pv, callF, calleeS, popF, lopF, bltP, callP, cls, rdl, p_move, p_assign, p_nilCheck, p_binOp, p_fieldAddr, p_len, l_load, SY.get, SY.put, SY.ev, SY.mk, SY.nth, SY.lvl, SY.ini, dr, at1, rdC, rdCt, ar, bopInt, bop, enterS, leaveS, retS, finishS, killL, isDefs, resS, resAll, tup1, AV.scal, plk, exq_go, exq_t, exq_f, ↓reduceIte, Nat.reduceLT, Nat.reduceLeDiff, Nat.reduceEqDiff, Nat.reduceAdd, Nat.reduceSub, List.contains_nil, reduceCtorEq, true_and, List.map_cons, List.map_nil, Bool.and_self, List.length_cons, List.length_nil, List.nil_append, List.append_nil, Nat.zero_add, Nat.add_zero, Nat.zero_mul, Int.reduceEq, Int.reduceLE, decide_true, not_false_eq_true, ti3, ti4, ti22, ti25, ti65, regAt, fi41, body41, Try.f41, fi56, body56, Try.f56, ↓exq_cd cd_code41, ↓exq_cd cd_c41_1, ↓exq_cd cd_c41_2, ↓exq_cd cd_c41_3, ↓exq_cd cd_c41_4, ↓exq_cd cd_c41_5, ↓exq_cd cd_c41_7, ↓exq_cd cd_c41_8, ↓exq_cd cd_c41_9, ↓exq_cd cd_c41_11, ↓exq_cd cd_code56, ↓exq_cd cd_c56_1, ↓exq_cd cd_c56_2, ↓exq_cd cd_c56_3, ↓exq_cd cd_c56_5, ↓exq_cd cd_c56_6, ↓exq_cd cd_c56_4, ↓exq_cd cd_c56_10, ↓exq_cd cd_c56_12, ↓exq_cd cd_c56_13, ↓exq_cd cd_c56_14, ↓exq_cd cd_c56_16, r41_1, r41_3, r41_7, r41_11, r56_1, r56_5, r56_12, r56_16, plA56, pl56]
      repeat (refine And.intro (a := (_ = true)) (by first | (simp; done) | (simp; omega)) ?_)
      exact ObQ.mk [0, 1, 2] (by decide) rfl rfl rfl ⟨rfl, rfl, rfl, trivial⟩
    · have tl := take_self l
      have tx := take_self x
      cases u with
      | none =>
        have e : dLay false ⟨l, f, x, xf, room, n, none, false⟩ b = (0, ⟨l ++ b, f, x, xf, room, n + 1, none, false⟩) := by simp [dLay, hr]
        rw [e]
        refine ExQ_ok [] 2000 plsOk noK ?_
        simp only [conf0, layR, lfO]
        (try rw [exh]); simp (maxSteps := 4000000) only [hr, tl, stops, inK, stepF, frsF, frF, itemF, codeF, condF, opsF, opsW, opF, callO, drF, drO, drW, drC, stepS, wtS, sopF, pv, evq, bltF, callF, calleeS, popF, lopF, bltP, callP, cls, rdl, quiet, p_move, p_assign, p_nilCheck, p_binOp, p_fieldAddr, p_len, l_load, roomN, appNN, srcN, dstN, e_store, e_append, SY.get, SY.put, SY.ev, SY.mk, SY.nth, SY.lvl, SY.setl, SY.ini, dr, flat, at1, rdC, rdCt, wrC, wrCt, ar, bopInt, bop, numsAt, killO, srcN, dstN, enterS, leaveS, retS, finishS, killL, isDefs, resS, resAll, tup1, AV.scal, plk, exq_go, exq_t, exq_f, ↓reduceIte, Nat.reduceLT, Nat.reduceLeDiff, Nat.reduceEqDiff, Nat.reduceAdd, Nat.reduceSub, Bool.and_true, Bool.true_and, List.contains_nil, reduceCtorEq, true_and, List.map_cons, List.map_nil, Bool.and_self, List.length_cons, List.length_nil, List.cons_append, List.nil_append, List.append_nil, Nat.zero_add, Nat.add_zero, Nat.zero_mul, Nat.mul_one, Int.reduceLT, Int.reduceLE, decide_true, decide_false, not_true_eq_false, ti3, ti4, ti5, ti22, ti25, ti65, regAt, fi41, body41, Try.f41, fi56, body56, Try.f56, fi57, body57, Try.f57, fi58, body58, Try.f58, ↓exq_cd cd_code41, ↓exq_cd cd_c41_1, ↓exq_cd cd_c41_2, ↓exq_cd cd_c41_3, ↓exq_cd cd_c41_4, ↓exq_cd cd_c41_5, ↓exq_cd cd_c41_7, ↓exq_cd cd_c41_8, ↓exq_cd cd_c41_6, ↓exq_cd cd_c41_12, ↓exq_cd cd_c41_13, ↓exq_cd cd_c41_14, ↓exq_cd cd_c41_15, ↓exq_cd cd_c41_16, ↓exq_cd cd_code56, ↓exq_cd cd_c56_1, ↓exq_cd cd_c56_2, ↓exq_cd cd_c56_3, ↓exq_cd cd_c56_5, ↓exq_cd cd_c56_6, ↓exq_cd cd_c56_4, ↓exq_cd cd_c56_10, ↓exq_cd cd_c56_12, ↓exq_cd cd_c56_13, ↓exq_cd cd_c56_11, ↓exq_cd cd_c56_17, ↓exq_cd cd_code57, ↓exq_cd cd_c57_1, ↓exq_cd cd_c57_2, ↓exq_cd cd_c57_3, ↓exq_cd cd_c57_4, ↓exq_cd cd_c57_5, ↓exq_cd cd_c57_7, ↓exq_cd cd_c57_8, ↓exq_cd cd_c57_6, ↓exq_cd cd_c57_14, ↓exq_cd cd_c57_16, ↓exq_cd cd_c57_17, ↓exq_cd cd_c57_15, ↓exq_cd cd_c57_20, ↓exq_cd cd_code58, ↓exq_cd cd_c58_1, ↓exq_cd cd_c58_2, ↓exq_cd cd_c58_3, ↓exq_cd cd_c58_5, ↓exq_cd cd_c58_6, ↓exq_cd cd_c58_7, ↓exq_cd cd_c58_9, r41_1, r41_3, r41_7, r41_12, r41_14, r41_16, r56_1, r56_5, r56_12, r56_17, r57_1, r57_3, r57_7, r57_16, r57_20, r58_1, r58_5, r58_9, plA56, pl56]
        repeat (refine And.intro (a := (_ = true)) (by first | (simp; done) | (simp; omega)) ?_)
        exact ObQ.mk [0, 3, 2] (by decide) rfl rfl rfl ⟨rfl, rfl, rfl, trivial⟩
      | some k =>
        simp only [fuOk, Bool.and_eq_true, decide_eq_true_eq] at hu
        by_cases hk : k = 0
        · subst hk
          have e : dLay false ⟨l, f, x, xf, room, n, some 0, false⟩ b = (11, ⟨l ++ b, f, x, xf, room, n + 1, some 0, true⟩) := by simp [dLay, hr]
          rw [e]
          refine ExQ_ok [] 2000 plsOk noK ?_
          simp only [conf0, layR, lfO]
          (try rw [exh]); simp (maxSteps := 4000000) only [hr, tl, stops, inK, stepF, frsF, frF, itemF, codeF, condF, opsF, opsW, opF, callO, drF, drO, drW, drC, stepS, wtS, sopF, pv, evq, bltF, callF, calleeS, popF, lopF, bltP, callP, cls, rdl, quiet, p_move, p_assign, p_nilCheck, p_binOp, p_fieldAddr, p_len, l_load, roomN, appNN, srcN, dstN, e_store, e_append, SY.get, SY.put, SY.ev, SY.mk, SY.nth, SY.lvl, SY.setl, SY.ini, dr, flat, at1, rdC, rdCt, wrC, wrCt, ar, bopInt, bop, numsAt, killO, srcN, dstN, enterS, leaveS, retS, finishS, killL, isDefs, resS, resAll, tup1, AV.scal, plk, exq_go, exq_t, exq_f, ↓reduceIte, Nat.reduceLT, Nat.reduceLeDiff, Nat.reduceEqDiff, Nat.reduceAdd, Nat.reduceSub, Bool.and_true, Bool.true_and, List.contains_nil, reduceCtorEq, true_and, List.map_cons, List.map_nil, Bool.and_self, List.length_cons, List.length_nil, List.cons_append, List.nil_append, List.append_nil, Nat.zero_add, Nat.add_zero, Nat.zero_mul, Nat.mul_one, Int.reduceLE, decide_true, decide_false, not_true_eq_false, ti3, ti4, ti5, ti22, ti25, ti65, regAt, fi41, body41, Try.f41, fi56, body56, Try.f56, fi57, body57, Try.f57, fi58, body58, Try.f58, ↓exq_cd cd_code41, ↓exq_cd cd_c41_1, ↓exq_cd cd_c41_2, ↓exq_cd cd_c41_3, ↓exq_cd cd_c41_4, ↓exq_cd cd_c41_5, ↓exq_cd cd_c41_7, ↓exq_cd cd_c41_8, ↓exq_cd cd_c41_6, ↓exq_cd cd_c41_12, ↓exq_cd cd_c41_13, ↓exq_cd cd_c41_14, ↓exq_cd cd_c41_15, ↓exq_cd cd_c41_16, ↓exq_cd cd_code56, ↓exq_cd cd_c56_1, ↓exq_cd cd_c56_2, ↓exq_cd cd_c56_3, ↓exq_cd cd_c56_5, ↓exq_cd cd_c56_6, ↓exq_cd cd_c56_4, ↓exq_cd cd_c56_10, ↓exq_cd cd_c56_12, ↓exq_cd cd_c56_13, ↓exq_cd cd_c56_11, ↓exq_cd cd_c56_17, ↓exq_cd cd_code57, ↓exq_cd cd_c57_1, ↓exq_cd cd_c57_2, ↓exq_cd cd_c57_3, ↓exq_cd cd_c57_4, ↓exq_cd cd_c57_5, ↓exq_cd cd_c57_7, ↓exq_cd cd_c57_8, ↓exq_cd cd_c57_9, ↓exq_cd cd_c57_11, ↓exq_cd cd_c57_12, ↓exq_cd cd_c57_13, ↓exq_cd cd_code58, ↓exq_cd cd_c58_1, ↓exq_cd cd_c58_2, ↓exq_cd cd_c58_3, ↓exq_cd cd_c58_5, ↓exq_cd cd_c58_6, ↓exq_cd cd_c58_4, ↓exq_cd cd_c58_10, r41_1, r41_3, r41_7, r41_12, r41_14, r41_16, r56_1, r56_5, r56_12, r56_17, r57_1, r57_3, r57_7, r57_11, r57_13, r58_1, r58_5, r58_10, plA56, pl56]
          repeat (refine And.intro (a := (_ = true)) (by first | (simp; done) | (simp; omega)) ?_)
          exact ObQ.mk [0, 3, 2] (by decide) rfl rfl rfl ⟨rfl, rfl, rfl, trivial⟩
        · have e : dLay false ⟨l, f, x, xf, room, n, some k, false⟩ b = (0, ⟨l ++ b, f, x, xf, room, n + 1, some (k - 1), false⟩) := by simp [dLay, hr, hk]
          have hk1 : 0 < k := by omega
          rw [e]
          refine ExQ_ok [] 2000 plsOk noK ?_
          simp only [conf0, layR, lfO]
          (try rw [exh]); simp (maxSteps := 4000000) only [hr, hk, hk1, tl, stops, inK, stepF, frsF, frF, itemF, codeF, condF, opsF, opsW, opF, callO, drF, drO, drW, drC, stepS, wtS, sopF, pv, evq, bltF, callF, calleeS, popF, lopF, bltP, callP, cls, rdl, quiet, p_move, p_assign, p_nilCheck, p_binOp, p_fieldAddr, p_len, l_load, roomN, appNN, srcN, dstN, e_store, e_append, SY.get, SY.put, SY.ev, SY.mk, SY.nth, SY.lvl, SY.setl, SY.ini, dr, flat, at1, rdC, rdCt, wrC, wrCt, ar, bopInt, bop, numsAt, killO, srcN, dstN, enterS, leaveS, retS, finishS, killL, isDefs, resS, resAll, tup1, AV.scal, plk, exq_go, exq_t, exq_f, ↓reduceIte, Nat.reduceLT, Nat.reduceLeDiff, Nat.reduceEqDiff, Nat.reduceAdd, Nat.reduceSub, Bool.and_true, Bool.true_and, List.contains_nil, reduceCtorEq, true_and, List.map_cons, List.map_nil, Bool.and_self, List.length_cons, List.length_nil, List.cons_append, List.nil_append, List.append_nil, Nat.zero_add, Nat.add_zero, Nat.zero_mul, Nat.mul_one, Int.reduceLE, decide_true, decide_false, not_true_eq_false, ti3, ti4, ti5, ti22, ti25, ti65, regAt, fi41, body41, Try.f41, fi56, body56, Try.f56, fi57, body57, Try.f57, fi58, body58, Try.f58, ↓exq_cd cd_code41, ↓exq_cd cd_c41_1, ↓exq_cd cd_c41_2, ↓exq_cd cd_c41_3, ↓exq_cd cd_c41_4, ↓exq_cd cd_c41_5, ↓exq_cd cd_c41_7, ↓exq_cd cd_c41_8, ↓exq_cd cd_c41_6, ↓exq_cd cd_c41_12, ↓exq_cd cd_c41_13, ↓exq_cd cd_c41_14, ↓exq_cd cd_c41_15, ↓exq_cd cd_c41_16, ↓exq_cd cd_code56, ↓exq_cd cd_c56_1, ↓exq_cd cd_c56_2, ↓exq_cd cd_c56_3, ↓exq_cd cd_c56_5, ↓exq_cd cd_c56_6, ↓exq_cd cd_c56_4, ↓exq_cd cd_c56_10, ↓exq_cd cd_c56_12, ↓exq_cd cd_c56_13, ↓exq_cd cd_c56_11, ↓exq_cd cd_c56_17, ↓exq_cd cd_code57, ↓exq_cd cd_c57_1, ↓exq_cd cd_c57_2, ↓exq_cd cd_c57_3, ↓exq_cd cd_c57_4, ↓exq_cd cd_c57_5, ↓exq_cd cd_c57_7, ↓exq_cd cd_c57_8, ↓exq_cd cd_c57_6, ↓exq_cd cd_c57_14, ↓exq_cd cd_c57_16, ↓exq_cd cd_c57_17, ↓exq_cd cd_c57_18, ↓exq_cd cd_c57_15, ↓exq_cd cd_c57_20, ↓exq_cd cd_code58, ↓exq_cd cd_c58_1, ↓exq_cd cd_c58_2, ↓exq_cd cd_c58_3, ↓exq_cd cd_c58_5, ↓exq_cd cd_c58_6, ↓exq_cd cd_c58_7, ↓exq_cd cd_c58_9, r41_1, r41_3, r41_7, r41_12, r41_14, r41_16, r56_1, r56_5, r56_12, r56_17, r57_1, r57_3, r57_7, r57_16, r57_18, r57_20, r58_1, r58_5, r58_9, plA56, pl56]
          repeat (refine And.intro (a := (_ = true)) (by first | (simp; done) | (simp; omega)) ?_)
          exact ObQ.mk [0, 3, 2] (by decide) rfl rfl rfl ⟨rfl, rfl, rfl, trivial⟩
set_option maxRecDepth 100000 in
set_option maxHeartbeats 4000000 in
theorem next_word (s : DS) (t : Bool) (b : List Int) (c : Option Nat) (hs : numOk s = true) (hb : b.length ≤ 1000000000) : Word Try.prog (plOf pls) 43 [.ptr 0 0 7 0, .imn t .u8 b c] (layR s) (ObQ 1 (.v (.int .i64 (dLay true s b).1)) (layR (dLay true s b).2)) := by
  obtain ⟨l, f, x, xf, room, n, u, out⟩ := s
  simp only [numOk, Bool.and_eq_true, decide_eq_true_eq] at hs
  obtain ⟨hn0, hn1, hlx, hf0, hf1, hu⟩ := hs
  refine ⟨_, fi43, by simp, fun C hC hl => ?_⟩
  cases out with
  | true =>
    have e : dLay true ⟨l, f, x, xf, room, n, u, true⟩ b = (11, ⟨l, f, x, xf, room, n, u, true⟩) := by simp [dLay]
    rw [e]
    refine ExQ_ok [] 2000 plsOk noK ?_
    simp only [conf0, layR, lfO]
    (try rw [exh]); simp (maxSteps := 4000000) only [stops, inK, stepF, frsF, frF, itemF, codeF, condF, opsF, opsW, opF, callO, stepS, wtS, sopF, pv, callF, calleeS, p_move, p_assign, p_nilCheck, p_binOp, p_fieldAddr, l_load, SY.get, SY.put, SY.ev, SY.mk, SY.nth, SY.lvl, SY.ini, dr, at1, rdC, rdCt, bopInt, bop, enterS, leaveS, retS, finishS, killL, isDefs, resS, resAll, tup1, AV.scal, exq_go, exq_t, ↓reduceIte, Nat.reduceLT, Nat.reduceLeDiff, Nat.reduceEqDiff, Nat.reduceAdd, Nat.reduceSub, List.contains_nil, reduceCtorEq, true_and, List.map_cons, List.map_nil, Bool.and_self, List.length_cons, List.length_nil, List.nil_append, List.append_nil, Nat.zero_add, Nat.zero_mul, Int.reduceEq, Int.reduceLE, decide_true, not_false_eq_true, ti4, ti25, ti65, regAt, fi43, body43, Try.f43, fi56, body56, Try.f56, ↓exq_cd cd_code43, ↓exq_cd cd_c43_1, ↓exq_cd cd_c43_2, ↓exq_cd cd_c43_3, ↓exq_cd cd_c43_4, ↓exq_cd cd_c43_5, ↓exq_cd cd_c43_7, ↓exq_cd cd_c43_8, ↓exq_cd cd_c43_9, ↓exq_cd cd_c43_11, ↓exq_cd cd_code56, ↓exq_cd cd_c56_1, ↓exq_cd cd_c56_2, ↓exq_cd cd_c56_3, ↓exq_cd cd_c56_5, ↓exq_cd cd_c56_6, ↓exq_cd cd_c56_7, ↓exq_cd cd_c56_9, r43_1, r43_3, r43_7, r43_11, r56_1, r56_5, r56_9]
    repeat (refine And.intro (a := (_ = true)) (by first | (simp; done) | (simp; omega)) ?_)
    exact ObQ.mk [0, 1, 2] (by decide) rfl rfl rfl ⟨rfl, rfl, rfl, trivial⟩
  | false =>
    by_cases hr : room < (l.length : Int) + x.length + b.length
    · have e : dLay true ⟨l, f, x, xf, room, n, u, false⟩ b = (8, ⟨l, f, x, xf, room, n, u, false⟩) := by simp [dLay, hr]
      rw [e]
      refine ExQ_ok [] 2000 plsOk noK ?_
      simp only [conf0, layR, lfO]
      (try rw [exh]); simp (maxSteps := 4000000) only [hr, stops, inK, stepF, frsF, frF, itemF, codeF, condF, opsF, opsW, opF, callO, drF, drO, drW, drC, stepS, wtS, sopF, pv, callF, calleeS, popF, lopF, bltP, callP, cls, rdl, p_move, p_assign, p_nilCheck, p_binOp, p_fieldAddr, p_len, l_load, SY.get, SY.put, SY.ev, SY.mk, SY.nth, SY.lvl, SY.ini, dr, at1, rdC, rdCt, ar, bopInt, bop, enterS, leaveS, retS, finishS, killL, isDefs, resS, resAll, tup1, AV.scal, plk, exq_go, exq_t, exq_f, ↓reduceIte, Nat.reduceLT, Nat.reduceLeDiff, Nat.reduceEqDiff, Nat.reduceAdd, Nat.reduceSub, List.contains_nil, reduceCtorEq, true_and, List.map_cons, List.map_nil, Bool.and_self, List.length_cons, List.length_nil, List.nil_append, List.append_nil, Nat.zero_add, Nat.add_zero, Nat.zero_mul, Int.reduceEq, Int.reduceLE, decide_true, not_false_eq_true, ti3, ti4, ti22, ti25, ti65, regAt, fi43, body43, Try.f43, fi56, body56, Try.f56, ↓exq_cd cd_code43, ↓exq_cd cd_c43_1, ↓exq_cd cd_c43_2, ↓exq_cd cd_c43_3, ↓exq_cd cd_c43_4, ↓exq_cd cd_c43_5, ↓exq_cd cd_c43_7, ↓exq_cd cd_c43_8, ↓exq_cd cd_c43_9, ↓exq_cd cd_c43_11, ↓exq_cd cd_code56, ↓exq_cd cd_c56_1, ↓exq_cd cd_c56_2, ↓exq_cd cd_c56_3, ↓exq_cd cd_c56_5, ↓exq_cd cd_c56_6, ↓exq_cd cd_c56_4, ↓exq_cd cd_c56_10, ↓exq_cd cd_c56_12, ↓exq_cd cd_c56_13, ↓exq_cd cd_c56_14, ↓exq_cd cd_c56_16, r43_1, r43_3, r43_7, r43_11, r56_1, r56_5, r56_12, r56_16, plA56, pl56]
      repeat (refine And.intro (a := (_ = true)) (by first | (simp; done) | (simp; omega)) ?_)
      exact ObQ.mk [0, 1, 2] (by decide) rfl rfl rfl ⟨rfl, rfl, rfl, trivial⟩
    · have tl := take_self l
      have tx := take_self x
      cases u with
      | none =>
        have e : dLay true ⟨l, f, x, xf, room, n, none, false⟩ b = (0, ⟨l, f, x ++ b, xf, room, n + 1, none, false⟩) := by simp [dLay, hr]
        rw [e]
        refine ExQ_ok [] 2000 plsOk noK ?_
        simp only [conf0, layR, lfO]
        (try rw [exh]); simp (maxSteps := 4000000) only [hr, tx, stops, inK, stepF, frsF, frF, itemF, codeF, condF, opsF, opsW, opF, callO, drF, drO, drW, drC, stepS, wtS, sopF, pv, evq, bltF, callF, calleeS, popF, lopF, bltP, callP, cls, rdl, quiet, p_move, p_assign, p_nilCheck, p_binOp, p_fieldAddr, p_len, l_load, roomN, appNN, srcN, dstN, e_store, e_append, SY.get, SY.put, SY.ev, SY.mk, SY.nth, SY.lvl, SY.setl, SY.ini, dr, flat, at1, rdC, rdCt, wrC, wrCt, ar, bopInt, bop, numsAt, killO, srcN, dstN, enterS, leaveS, retS, finishS, killL, isDefs, resS, resAll, tup1, AV.scal, plk, exq_go, exq_t, exq_f, ↓reduceIte, Nat.reduceLT, Nat.reduceLeDiff, Nat.reduceEqDiff, Nat.reduceAdd, Nat.reduceSub, Bool.and_true, Bool.true_and, List.contains_nil, reduceCtorEq, true_and, List.map_cons, List.map_nil, Bool.and_self, List.length_cons, List.length_nil, List.cons_append, List.nil_append, List.append_nil, Nat.zero_add, Nat.add_zero, Nat.zero_mul, Nat.mul_one, Int.reduceLT, Int.reduceLE, decide_true, decide_false, not_true_eq_false, ti3, ti4, ti5, ti22, ti25, ti65, regAt, fi43, body43, Try.f43, fi56, body56, Try.f56, fi57, body57, Try.f57, fi58, body58, Try.f58, ↓exq_cd cd_code43, ↓exq_cd cd_c43_1, ↓exq_cd cd_c43_2, ↓exq_cd cd_c43_3, ↓exq_cd cd_c43_4, ↓exq_cd cd_c43_5, ↓exq_cd cd_c43_7, ↓exq_cd cd_c43_8, ↓exq_cd cd_c43_6, ↓exq_cd cd_c43_12, ↓exq_cd cd_c43_13, ↓exq_cd cd_c43_14, ↓exq_cd cd_c43_15, ↓exq_cd cd_c43_16, ↓exq_cd cd_code56, ↓exq_cd cd_c56_1, ↓exq_cd cd_c56_2, ↓exq_cd cd_c56_3, ↓exq_cd cd_c56_5, ↓exq_cd cd_c56_6, ↓exq_cd cd_c56_4, ↓exq_cd cd_c56_10, ↓exq_cd cd_c56_12, ↓exq_cd cd_c56_13, ↓exq_cd cd_c56_11, ↓exq_cd cd_c56_17, ↓exq_cd cd_code57, ↓exq_cd cd_c57_1, ↓exq_cd cd_c57_2, ↓exq_cd cd_c57_3, ↓exq_cd cd_c57_4, ↓exq_cd cd_c57_5, ↓exq_cd cd_c57_7, ↓exq_cd cd_c57_8, ↓exq_cd cd_c57_6, ↓exq_cd cd_c57_14, ↓exq_cd cd_c57_16, ↓exq_cd cd_c57_17, ↓exq_cd cd_c57_15, ↓exq_cd cd_c57_20, ↓exq_cd cd_code58, ↓exq_cd cd_c58_1, ↓exq_cd cd_c58_2, ↓exq_cd cd_c58_3, ↓exq_cd cd_c58_5, ↓exq_cd cd_c58_6, ↓exq_cd cd_c58_7, ↓exq_cd cd_c58_9, r43_1, r43_3, r43_7, r43_12, r43_14, r43_16, r56_1, r56_5, r56_12, r56_17, r57_1, r57_3, r57_7, r57_16, r57_20, r58_1, r58_5, r58_9, plA56, pl56]
        repeat (refine And.intro (a := (_ = true)) (by first | (simp; done) | (simp; omega)) ?_)
        exact ObQ.mk [0, 1, 3] (by decide) rfl rfl rfl ⟨rfl, rfl, rfl, trivial⟩
      | some k =>
        simp only [fuOk, Bool.and_eq_true, decide_eq_true_eq] at hu
        by_cases hk : k = 0
        · subst hk
          have e : dLay true ⟨l, f, x, xf, room, n, some 0, false⟩ b = (11, ⟨l, f, x ++ b, xf, room, n + 1, some 0, true⟩) := by simp [dLay, hr]
          rw [e]
          refine ExQ_ok [] 2000 plsOk noK ?_
          simp only [conf0, layR, lfO]
          (try rw [exh]); simp (maxSteps := 4000000) only [hr, tx, stops, inK, stepF, frsF, frF, itemF, codeF, condF, opsF, opsW, opF, callO, drF, drO, drW, drC, stepS, wtS, sopF, pv, evq, bltF, callF, calleeS, popF, lopF, bltP, callP, cls, rdl, quiet, p_move, p_assign, p_nilCheck, p_binOp, p_fieldAddr, p_len, l_load, roomN, appNN, srcN, dstN, e_store, e_append, SY.get, SY.put, SY.ev, SY.mk, SY.nth, SY.lvl, SY.setl, SY.ini, dr, flat, at1, rdC, rdCt, wrC, wrCt, ar, bopInt, bop, numsAt, killO, srcN, dstN, enterS, leaveS, retS, finishS, killL, isDefs, resS, resAll, tup1, AV.scal, plk, exq_go, exq_t, exq_f, ↓reduceIte, Nat.reduceLT, Nat.reduceLeDiff, Nat.reduceEqDiff, Nat.reduceAdd, Nat.reduceSub, Bool.and_true, Bool.true_and, List.contains_nil, reduceCtorEq, true_and, List.map_cons, List.map_nil, Bool.and_self, List.length_cons, List.length_nil, List.cons_append, List.nil_append, List.append_nil, Nat.zero_add, Nat.add_zero, Nat.zero_mul, Nat.mul_one, Int.reduceLE, decide_true, decide_false, not_true_eq_false, ti3, ti4, ti5, ti22, ti25, ti65, regAt, fi43, body43, Try.f43, fi56, body56, Try.f56, fi57, body57, Try.f57, fi58, body58, Try.f58, ↓exq_cd cd_code43, ↓exq_cd cd_c43_1, ↓exq_cd cd_c43_2, ↓exq_cd cd_c43_3, ↓exq_cd cd_c43_4, ↓exq_cd cd_c43_5, ↓exq_cd cd_c43_7, ↓exq_cd cd_c43_8, ↓exq_cd cd_c43_6, ↓exq_cd cd_c43_12, ↓exq_cd cd_c43_13, ↓exq_cd cd_c43_14, ↓exq_cd cd_c43_15, ↓exq_cd cd_c43_16, ↓exq_cd cd_code56, ↓exq_cd cd_c56_1, ↓exq_cd cd_c56_2, ↓exq_cd cd_c56_3, ↓exq_cd cd_c56_5, ↓exq_cd cd_c56_6, ↓exq_cd cd_c56_4, ↓exq_cd cd_c56_10, ↓exq_cd cd_c56_12, ↓exq_cd cd_c56_13, ↓exq_cd cd_c56_11, ↓exq_cd cd_c56_17, ↓exq_cd cd_code57, ↓exq_cd cd_c57_1, ↓exq_cd cd_c57_2, ↓exq_cd cd_c57_3, ↓exq_cd cd_c57_4, ↓exq_cd cd_c57_5, ↓exq_cd cd_c57_7, ↓exq_cd cd_c57_8, ↓exq_cd cd_c57_9, ↓exq_cd cd_c57_11, ↓exq_cd cd_c57_12, ↓exq_cd cd_c57_13, ↓exq_cd cd_code58, ↓exq_cd cd_c58_1, ↓exq_cd cd_c58_2, ↓exq_cd cd_c58_3, ↓exq_cd cd_c58_5, ↓exq_cd cd_c58_6, ↓exq_cd cd_c58_4, ↓exq_cd cd_c58_10, r43_1, r43_3, r43_7, r43_12, r43_14, r43_16, r56_1, r56_5, r56_12, r56_17, r57_1, r57_3, r57_7, r57_11, r57_13, r58_1, r58_5, r58_10, plA56, pl56]
          repeat (refine And.intro (a := (_ = true)) (by first | (simp; done) | (simp; omega)) ?_)
          exact ObQ.mk [0, 1, 3] (by decide) rfl rfl rfl ⟨rfl, rfl, rfl, trivial⟩
        · have e : dLay true ⟨l, f, x, xf, room, n, some k, false⟩ b = (0, ⟨l, f, x ++ b, xf, room, n + 1, some (k - 1), false⟩) := by simp [dLay, hr, hk]
          have hk1 : 0 < k := by omega
          rw [e]
          refine ExQ_ok [] 2000 plsOk noK ?_
          simp only [conf0, layR, lfO]
          (try rw [exh]); simp (maxSteps := 4000000) only [hr, hk, hk1, tx, stops, inK, stepF, frsF, frF, itemF, codeF, condF, opsF, opsW, opF, callO, drF, drO, drW, drC, stepS, wtS, sopF, pv, evq, bltF, callF, calleeS, popF, lopF, bltP, callP, cls, rdl, quiet, p_move, p_assign, p_nilCheck, p_binOp, p_fieldAddr, p_len, l_load, roomN, appNN, srcN, dstN, e_store, e_append, SY.get, SY.put, SY.ev, SY.mk, SY.nth, SY.lvl, SY.setl, SY.ini, dr, flat, at1, rdC, rdCt, wrC, wrCt, ar, bopInt, bop, numsAt, killO, srcN, dstN, enterS, leaveS, retS, finishS, killL, isDefs, resS, resAll, tup1, AV.scal, plk, exq_go, exq_t, exq_f, ↓reduceIte, Nat.reduceLT, Nat.reduceLeDiff, Nat.reduceEqDiff, Nat.reduceAdd, Nat.reduceSub, Bool.and_true, Bool.true_and, List.contains_nil, reduceCtorEq, true_and, List.map_cons, List.map_nil, Bool.and_self, List.length_cons, List.length_nil, List.cons_append, List.nil_append, List.append_nil, Nat.zero_add, Nat.add_zero, Nat.zero_mul, Nat.mul_one, Int.reduceLE, decide_true, decide_false, not_true_eq_false, ti3, ti4, ti5, ti22, ti25, ti65, regAt, fi43, body43, Try.f43, fi56, body56, Try.f56, fi57, body57, Try.f57, fi58, body58, Try.f58, ↓exq_cd cd_code43, ↓exq_cd cd_c43_1, ↓exq_cd cd_c43_2, ↓exq_cd cd_c43_3, ↓exq_cd cd_c43_4, ↓exq_cd cd_c43_5, ↓exq_cd cd_c43_7, ↓exq_cd cd_c43_8, ↓exq_cd cd_c43_6, ↓exq_cd cd_c43_12, ↓exq_cd cd_c43_13, ↓exq_cd cd_c43_14, ↓exq_cd cd_c43_15, ↓exq_cd cd_c43_16, ↓exq_cd cd_code56, ↓exq_cd cd_c56_1, ↓exq_cd cd_c56_2, ↓exq_cd cd_c56_3, ↓exq_cd cd_c56_5, ↓exq_cd cd_c56_6, ↓exq_cd cd_c56_4, ↓exq_cd cd_c56_10, ↓exq_cd cd_c56_12, ↓exq_cd cd_c56_13, ↓exq_cd cd_c56_11, ↓exq_cd cd_c56_17, ↓exq_cd cd_code57, ↓exq_cd cd_c57_1, ↓exq_cd cd_c57_2, ↓exq_cd cd_c57_3, ↓exq_cd cd_c57_4, ↓exq_cd cd_c57_5, ↓exq_cd cd_c57_7, ↓exq_cd cd_c57_8, ↓exq_cd cd_c57_6, ↓exq_cd cd_c57_14, ↓exq_cd cd_c57_16, ↓exq_cd cd_c57_17, ↓exq_cd cd_c57_18, ↓exq_cd cd_c57_15, ↓exq_cd cd_c57_20, ↓exq_cd cd_code58, ↓exq_cd cd_c58_1, ↓exq_cd cd_c58_2, ↓exq_cd cd_c58_3, ↓exq_cd cd_c58_5, ↓exq_cd cd_c58_6, ↓exq_cd cd_c58_7, ↓exq_cd cd_c58_9, r43_1, r43_3, r43_7, r43_12, r43_14, r43_16, r56_1, r56_5, r56_12, r56_17, r57_1, r57_3, r57_7, r57_16, r57_18, r57_20, r58_1, r58_5, r58_9, plA56, pl56]
          repeat (refine And.intro (a := (_ = true)) (by first | (simp; done) | (simp; omega)) ?_)
          exact ObQ.mk [0, 1, 3] (by decide) rfl rfl rfl ⟨rfl, rfl, rfl, trivial⟩
set_option maxRecDepth 100000 in
set_option maxHeartbeats 4000000 in
theorem sync_word (s : DS) (hs : numOk s = true) : Word Try.prog (plOf pls) 42 [.ptr 0 0 7 0] (layR s) (ObQ 1 (.v (.int .i64 (dSync s).1)) (layR (dSync s).2)) := by
  obtain ⟨l, f, x, xf, room, n, u, out⟩ := s
  simp only [numOk, Bool.and_eq_true, decide_eq_true_eq] at hs
  obtain ⟨hn0, hn1, hlx, hf0, hf1, hu⟩ := hs
  refine ⟨_, fi42, by simp, fun C hC hl => ?_⟩
  cases out with
  | true =>
    have e : dSync ⟨l, f, x, xf, room, n, u, true⟩ = (11, ⟨l, f, x, xf, room, n, u, true⟩) := by simp [dSync]
    rw [e]
    refine ExQ_ok [] 2000 plsOk noK ?_
    simp only [conf0, layR, lfO]
    (try rw [exh]); simp (maxSteps := 4000000) only [stops, inK, stepF, frsF, frF, itemF, codeF, condF, opsF, opsW, opF, stepS, wtS, gdst, gdl, sopF, pv, p_move, p_assign, p_pick, p_nilCheck, p_fieldAddr, l_load, SY.get, SY.put, SY.ev, SY.mk, SY.nth, SY.lvl, SY.ini, dr, at1, rdC, rdCt, pickAV, leaveS, retS, killL, isDefs, resS, resAll, tup1, AV.scal, exq_go, exq_t, ↓reduceIte, Nat.reduceLT, Nat.reduceEqDiff, Nat.reduceAdd, Nat.reduceSub, Bool.not_false, reduceCtorEq, true_and, Bool.and_self, Nat.zero_add, Nat.zero_mul, Int.reduceLE, decide_true, ti4, ti65, regAt, fi42, body42, Try.f42, ↓exq_cd cd_code42, ↓exq_cd cd_c42_1, ↓exq_cd cd_c42_2, ↓exq_cd cd_c42_3, ↓exq_cd cd_c42_5, ↓exq_cd cd_c42_6, ↓exq_cd cd_c42_7, ↓exq_cd cd_c42_9, r42_1, r42_5, r42_9]
    repeat (refine And.intro (a := (_ = true)) (by first | (simp; done) | (simp; omega)) ?_)
    exact ObQ.mk [0, 1, 2] (by decide) rfl rfl rfl ⟨rfl, rfl, rfl, trivial⟩
  | false =>
    cases u with
    | none =>
      have e : dSync ⟨l, f, x, xf, room, n, none, false⟩ = (0, ⟨l, l.length, x, xf, room, n + 1, none, false⟩) := by simp [dSync]
      rw [e]
      refine ExQ_ok [] 2000 plsOk noK ?_
      simp only [conf0, layR, lfO]
      (try rw [exh]); simp (maxSteps := 4000000) only [stops, inK, stepF, frsF, frF, itemF, codeF, condF, opsF, opsW, opF, callO, stepS, wtS, gdst, gdl, sopF, pv, evq, bltF, callF, calleeS, quiet, p_move, p_assign, p_pick, p_nilCheck, p_binOp, p_unOp, p_fieldAddr, p_len, l_load, e_store, SY.get, SY.put, SY.ev, SY.mk, SY.nth, SY.lvl, SY.setl, SY.ini, dr, flat, at1, rdC, rdCt, wrC, wrCt, ar, bopInt, bop, pickAV, enterS, leaveS, retS, finishS, killL, isDefs, resS, resAll, tup1, AV.scal, exq_go, exq_f, ↓reduceIte, Nat.reduceLT, Nat.reduceLeDiff, Nat.reduceEqDiff, Nat.reduceAdd, Nat.reduceSub, Bool.not_false, Bool.not_true, List.contains_nil, reduceCtorEq, true_and, List.map_cons, List.map_nil, Bool.and_self, List.length_cons, List.length_nil, List.cons_append, List.nil_append, List.append_nil, Nat.zero_add, Nat.add_zero, Nat.zero_mul, Int.reduceLT, Int.reduceLE, decide_true, decide_false, ti3, ti4, ti22, ti65, regAt, fi42, body42, Try.f42, fi57, body57, Try.f57, ↓exq_cd cd_code42, ↓exq_cd cd_c42_1, ↓exq_cd cd_c42_2, ↓exq_cd cd_c42_3, ↓exq_cd cd_c42_5, ↓exq_cd cd_c42_6, ↓exq_cd cd_c42_4, ↓exq_cd cd_c42_10, ↓exq_cd cd_c42_11, ↓exq_cd cd_c42_12, ↓exq_cd cd_code57, ↓exq_cd cd_c57_1, ↓exq_cd cd_c57_2, ↓exq_cd cd_c57_3, ↓exq_cd cd_c57_4, ↓exq_cd cd_c57_5, ↓exq_cd cd_c57_7, ↓exq_cd cd_c57_8, ↓exq_cd cd_c57_6, ↓exq_cd cd_c57_14, ↓exq_cd cd_c57_16, ↓exq_cd cd_c57_17, ↓exq_cd cd_c57_15, ↓exq_cd cd_c57_20, r42_1, r42_5, r42_10, r42_12, r57_1, r57_3, r57_7, r57_16, r57_20]
      repeat (refine And.intro (a := (_ = true)) (by first | (simp; done) | (simp; omega)) ?_)
      exact ObQ.mk [0, 1, 2] (by decide) rfl rfl rfl ⟨rfl, rfl, rfl, trivial⟩
    | some k =>
      simp only [fuOk, Bool.and_eq_true, decide_eq_true_eq] at hu
      by_cases hk : k = 0
      · subst hk
        have e : dSync ⟨l, f, x, xf, room, n, some 0, false⟩ = (11, ⟨l, f, x, xf, room, n + 1, some 0, true⟩) := by simp [dSync]
        rw [e]
        refine ExQ_ok [] 2000 plsOk noK ?_
        simp only [conf0, layR, lfO]
        (try rw [exh]); simp (maxSteps := 4000000) only [stops, inK, stepF, frsF, frF, itemF, codeF, condF, opsF, opsW, opF, callO, stepS, wtS, gdst, gdl, sopF, pv, evq, callF, calleeS, quiet, p_move, p_assign, p_pick, p_nilCheck, p_binOp, p_unOp, p_fieldAddr, l_load, e_store, SY.get, SY.put, SY.ev, SY.mk, SY.nth, SY.lvl, SY.setl, SY.ini, dr, flat, at1, rdC, rdCt, wrC, wrCt, ar, bopInt, bop, pickAV, enterS, leaveS, retS, finishS, killL, isDefs, resS, resAll, tup1, AV.scal, exq_go, exq_t, exq_f, ↓reduceIte, Nat.reduceLT, Nat.reduceLeDiff, Nat.reduceEqDiff, Nat.reduceAdd, Nat.reduceSub, Bool.not_false, List.contains_nil, reduceCtorEq, true_and, List.map_cons, List.map_nil, Bool.and_self, List.length_cons, List.length_nil, List.cons_append, List.nil_append, List.append_nil, Nat.zero_add, Nat.zero_mul, Int.reduceLE, decide_true, ti3, ti4, ti65, regAt, fi42, body42, Try.f42, fi57, body57, Try.f57, ↓exq_cd cd_code42, ↓exq_cd cd_c42_1, ↓exq_cd cd_c42_2, ↓exq_cd cd_c42_3, ↓exq_cd cd_c42_5, ↓exq_cd cd_c42_6, ↓exq_cd cd_c42_7, ↓exq_cd cd_c42_9, ↓exq_cd cd_code57, ↓exq_cd cd_c57_1, ↓exq_cd cd_c57_2, ↓exq_cd cd_c57_3, ↓exq_cd cd_c57_4, ↓exq_cd cd_c57_5, ↓exq_cd cd_c57_7, ↓exq_cd cd_c57_8, ↓exq_cd cd_c57_9, ↓exq_cd cd_c57_11, ↓exq_cd cd_c57_12, ↓exq_cd cd_c57_13, r42_1, r42_5, r42_9, r57_1, r57_3, r57_7, r57_11, r57_13]
        repeat (refine And.intro (a := (_ = true)) (by first | (simp; done) | (simp; omega)) ?_)
        exact ObQ.mk [0, 1, 2] (by decide) rfl rfl rfl ⟨rfl, rfl, rfl, trivial⟩
      · have e : dSync ⟨l, f, x, xf, room, n, some k, false⟩ = (0, ⟨l, l.length, x, xf, room, n + 1, some (k - 1), false⟩) := by simp [dSync, hk]
        have hk1 : 0 < k := by omega
        rw [e]
        refine ExQ_ok [] 2000 plsOk noK ?_
        simp only [conf0, layR, lfO]
        (try rw [exh]); simp (maxSteps := 4000000) only [hk, hk1, stops, inK, stepF, frsF, frF, itemF, codeF, condF, opsF, opsW, opF, callO, stepS, wtS, gdst, gdl, sopF, pv, evq, bltF, callF, calleeS, quiet, p_move, p_assign, p_pick, p_nilCheck, p_binOp, p_unOp, p_fieldAddr, p_len, l_load, e_store, SY.get, SY.put, SY.ev, SY.mk, SY.nth, SY.lvl, SY.setl, SY.ini, dr, flat, at1, rdC, rdCt, wrC, wrCt, ar, bopInt, bop, pickAV, enterS, leaveS, retS, finishS, killL, isDefs, resS, resAll, tup1, AV.scal, exq_go, exq_t, exq_f, ↓reduceIte, Nat.reduceLT, Nat.reduceLeDiff, Nat.reduceEqDiff, Nat.reduceAdd, Nat.reduceSub, Bool.not_false, Bool.not_true, List.contains_nil, reduceCtorEq, true_and, List.map_cons, List.map_nil, Bool.and_self, List.length_cons, List.length_nil, List.cons_append, List.nil_append, List.append_nil, Nat.zero_add, Nat.add_zero, Nat.zero_mul, Int.reduceLE, decide_true, decide_false, ti3, ti4, ti22, ti65, regAt, fi42, body42, Try.f42, fi57, body57, Try.f57, ↓exq_cd cd_code42, ↓exq_cd cd_c42_1, ↓exq_cd cd_c42_2, ↓exq_cd cd_c42_3, ↓exq_cd cd_c42_5, ↓exq_cd cd_c42_6, ↓exq_cd cd_c42_4, ↓exq_cd cd_c42_10, ↓exq_cd cd_c42_11, ↓exq_cd cd_c42_12, ↓exq_cd cd_code57, ↓exq_cd cd_c57_1, ↓exq_cd cd_c57_2, ↓exq_cd cd_c57_3, ↓exq_cd cd_c57_4, ↓exq_cd cd_c57_5, ↓exq_cd cd_c57_7, ↓exq_cd cd_c57_8, ↓exq_cd cd_c57_6, ↓exq_cd cd_c57_14, ↓exq_cd cd_c57_16, ↓exq_cd cd_c57_17, ↓exq_cd cd_c57_18, ↓exq_cd cd_c57_15, ↓exq_cd cd_c57_20, r42_1, r42_5, r42_10, r42_12, r57_1, r57_3, r57_7, r57_16, r57_18, r57_20]
        repeat (refine And.intro (a := (_ = true)) (by first | (simp; done) | (simp; omega)) ?_)
        exact ObQ.mk [0, 1, 2] (by decide) rfl rfl rfl ⟨rfl, rfl, rfl, trivial⟩
set_option maxRecDepth 100000 in
set_option maxHeartbeats 4000000 in
theorem switch_word (s : DS) (hs : numOk s = true) : Word Try.prog (plOf pls) 44 [.ptr 0 0 7 0] (layR s) (ObQ 1 (.v (.int .i64 (dSwitch s).1)) (layR (dSwitch s).2)) := by
  obtain ⟨l, f, x, xf, room, n, u, out⟩ := s
  simp only [numOk, Bool.and_eq_true, decide_eq_true_eq] at hs
  obtain ⟨hn0, hn1, hlx, hf0, hf1, hu⟩ := hs
  refine ⟨_, fi44, by simp, fun C hC hl => ?_⟩
  cases out with
  | true =>
    have e : dSwitch ⟨l, f, x, xf, room, n, u, true⟩ = (11, ⟨l, f, x, xf, room, n, u, true⟩) := by simp [dSwitch]
    rw [e]
    refine ExQ_ok [] 2000 plsOk noK ?_
    simp only [conf0, layR, lfO]
    (try rw [exh]); simp (maxSteps := 4000000) only [stops, inK, stepF, frsF, frF, itemF, codeF, condF, opsF, opsW, opF, stepS, wtS, gdst, gdl, sopF, pv, p_move, p_assign, p_pick, p_nilCheck, p_fieldAddr, l_load, SY.get, SY.put, SY.ev, SY.mk, SY.nth, SY.lvl, SY.ini, dr, at1, rdC, rdCt, pickAV, leaveS, retS, killL, isDefs, resS, resAll, tup1, AV.scal, exq_go, exq_t, ↓reduceIte, Nat.reduceLT, Nat.reduceEqDiff, Nat.reduceAdd, Nat.reduceSub, Bool.not_false, reduceCtorEq, true_and, Bool.and_self, Nat.zero_add, Nat.zero_mul, Int.reduceLE, decide_true, ti4, ti65, regAt, fi44, body44, Try.f44, ↓exq_cd cd_code44, ↓exq_cd cd_c44_1, ↓exq_cd cd_c44_2, ↓exq_cd cd_c44_3, ↓exq_cd cd_c44_5, ↓exq_cd cd_c44_6, ↓exq_cd cd_c44_7, ↓exq_cd cd_c44_9, r44_1, r44_5, r44_9]
    repeat (refine And.intro (a := (_ = true)) (by first | (simp; done) | (simp; omega)) ?_)
    exact ObQ.mk [0, 1, 2] (by decide) rfl rfl rfl ⟨rfl, rfl, rfl, trivial⟩
  | false =>
    cases u with
    | none =>
      have e : dSwitch ⟨l, f, x, xf, room, n, none, false⟩ = (0, ⟨x, x.length, [], 0, room, n + 1, none, false⟩) := by simp [dSwitch]
      rw [e]
      refine ExQ_ok [] 2000 plsOk noK ?_
      simp only [conf0, layR, lfO]
      (try rw [exh]); simp (maxSteps := 4000000) only [stops, inK, stepF, frsF, frF, itemF, codeF, condF, opsF, opsW, opF, callO, stepS, wtS, gdst, gdl, sopF, pv, evq, bltF, callF, calleeS, quiet, p_move, p_assign, p_pick, p_nilCheck, p_binOp, p_unOp, p_fieldAddr, p_len, l_load, e_store, SY.get, SY.put, SY.ev, SY.mk, SY.nth, SY.lvl, SY.setl, SY.ini, dr, flat, at1, rdC, rdCt, wrC, wrCt, ar, bopInt, bop, pickAV, enterS, leaveS, retS, finishS, killL, isDefs, resS, resAll, tup1, AV.scal, exq_go, exq_f, ↓reduceIte, Nat.reduceLT, Nat.reduceLeDiff, Nat.reduceEqDiff, Nat.reduceAdd, Nat.reduceSub, Bool.not_false, Bool.not_true, List.contains_nil, reduceCtorEq, true_and, List.map_cons, List.map_nil, Bool.and_self, List.length_cons, List.length_nil, List.cons_append, List.nil_append, List.append_nil, Nat.zero_add, Nat.add_zero, Nat.zero_mul, Int.reduceLT, Int.reduceLE, decide_true, decide_false, ti3, ti4, ti22, ti65, regAt, fi44, body44, Try.f44, fi57, body57, Try.f57, ↓exq_cd cd_code44, ↓exq_cd cd_c44_1, ↓exq_cd cd_c44_2, ↓exq_cd cd_c44_3, ↓exq_cd cd_c44_5, ↓exq_cd cd_c44_6, ↓exq_cd cd_c44_4, ↓exq_cd cd_c44_10, ↓exq_cd cd_c44_11, ↓exq_cd cd_c44_12, ↓exq_cd cd_c44_13, ↓exq_cd cd_c44_14, ↓exq_cd cd_c44_15, ↓exq_cd cd_c44_16, ↓exq_cd cd_code57, ↓exq_cd cd_c57_1, ↓exq_cd cd_c57_2, ↓exq_cd cd_c57_3, ↓exq_cd cd_c57_4, ↓exq_cd cd_c57_5, ↓exq_cd cd_c57_7, ↓exq_cd cd_c57_8, ↓exq_cd cd_c57_6, ↓exq_cd cd_c57_14, ↓exq_cd cd_c57_16, ↓exq_cd cd_c57_17, ↓exq_cd cd_c57_15, ↓exq_cd cd_c57_20, r44_1, r44_5, r44_10, r44_12, r44_14, r44_16, r57_1, r57_3, r57_7, r57_16, r57_20]
      repeat (refine And.intro (a := (_ = true)) (by first | (simp; done) | (simp; omega)) ?_)
      refine ObQ.wk (Wk.nilcell (l := 0) (pre := [_, _]) .u8 rfl 0 1) ?_; exact ObQ.mk [0, 2, 3] (by decide) rfl rfl rfl ⟨rfl, rfl, rfl, trivial⟩
    | some k =>
      simp only [fuOk, Bool.and_eq_true, decide_eq_true_eq] at hu
      by_cases hk : k = 0
      · subst hk
        have e : dSwitch ⟨l, f, x, xf, room, n, some 0, false⟩ = (11, ⟨l, f, x, xf, room, n + 1, some 0, true⟩) := by simp [dSwitch]
        rw [e]
        refine ExQ_ok [] 2000 plsOk noK ?_
        simp only [conf0, layR, lfO]
        (try rw [exh]); simp (maxSteps := 4000000) only [stops, inK, stepF, frsF, frF, itemF, codeF, condF, opsF, opsW, opF, callO, stepS, wtS, gdst, gdl, sopF, pv, evq, callF, calleeS, quiet, p_move, p_assign, p_pick, p_nilCheck, p_binOp, p_unOp, p_fieldAddr, l_load, e_store, SY.get, SY.put, SY.ev, SY.mk, SY.nth, SY.lvl, SY.setl, SY.ini, dr, flat, at1, rdC, rdCt, wrC, wrCt, ar, bopInt, bop, pickAV, enterS, leaveS, retS, finishS, killL, isDefs, resS, resAll, tup1, AV.scal, exq_go, exq_t, exq_f, ↓reduceIte, Nat.reduceLT, Nat.reduceLeDiff, Nat.reduceEqDiff, Nat.reduceAdd, Nat.reduceSub, Bool.not_false, List.contains_nil, reduceCtorEq, true_and, List.map_cons, List.map_nil, Bool.and_self, List.length_cons, List.length_nil, List.cons_append, List.nil_append, List.append_nil, Nat.zero_add, Nat.zero_mul, Int.reduceLE, decide_true, ti3, ti4, ti65, regAt, fi44, body44, Try.f44, fi57, body57, Try.f57, ↓exq_cd cd_code44, ↓exq_cd cd_c44_1, ↓exq_cd cd_c44_2, ↓exq_cd cd_c44_3, ↓exq_cd cd_c44_5, ↓exq_cd cd_c44_6, ↓exq_cd cd_c44_7, ↓exq_cd cd_c44_9, ↓exq_cd cd_code57, ↓exq_cd cd_c57_1, ↓exq_cd cd_c57_2, ↓exq_cd cd_c57_3, ↓exq_cd cd_c57_4, ↓exq_cd cd_c57_5, ↓exq_cd cd_c57_7, ↓exq_cd cd_c57_8, ↓exq_cd cd_c57_9, ↓exq_cd cd_c57_11, ↓exq_cd cd_c57_12, ↓exq_cd cd_c57_13, r44_1, r44_5, r44_9, r57_1, r57_3, r57_7, r57_11, r57_13]
        repeat (refine And.intro (a := (_ = true)) (by first | (simp; done) | (simp; omega)) ?_)
        exact ObQ.mk [0, 1, 2] (by decide) rfl rfl rfl ⟨rfl, rfl, rfl, trivial⟩
      · have e : dSwitch ⟨l, f, x, xf, room, n, some k, false⟩ = (0, ⟨x, x.length, [], 0, room, n + 1, some (k - 1), false⟩) := by simp [dSwitch, hk]
        have hk1 : 0 < k := by omega
        rw [e]
        refine ExQ_ok [] 2000 plsOk noK ?_
        simp only [conf0, layR, lfO]
        (try rw [exh]); simp (maxSteps := 4000000) only [hk, hk1, stops, inK, stepF, frsF, frF, itemF, codeF, condF, opsF, opsW, opF, callO, stepS, wtS, gdst, gdl, sopF, pv, evq, bltF, callF, calleeS, quiet, p_move, p_assign, p_pick, p_nilCheck, p_binOp, p_unOp, p_fieldAddr, p_len, l_load, e_store, SY.get, SY.put, SY.ev, SY.mk, SY.nth, SY.lvl, SY.setl, SY.ini, dr, flat, at1, rdC, rdCt, wrC, wrCt, ar, bopInt, bop, pickAV, enterS, leaveS, retS, finishS, killL, isDefs, resS, resAll, tup1, AV.scal, exq_go, exq_t, exq_f, ↓reduceIte, Nat.reduceLT, Nat.reduceLeDiff, Nat.reduceEqDiff, Nat.reduceAdd, Nat.reduceSub, Bool.not_false, Bool.not_true, List.contains_nil, reduceCtorEq, true_and, List.map_cons, List.map_nil, Bool.and_self, List.length_cons, List.length_nil, List.cons_append, List.nil_append, List.append_nil, Nat.zero_add, Nat.add_zero, Nat.zero_mul, Int.reduceLE, decide_true, decide_false, ti3, ti4, ti22, ti65, regAt, fi44, body44, Try.f44, fi57, body57, Try.f57, ↓exq_cd cd_code44, ↓exq_cd cd_c44_1, ↓exq_cd cd_c44_2, ↓exq_cd cd_c44_3, ↓exq_cd cd_c44_5, ↓exq_cd cd_c44_6, ↓exq_cd cd_c44_4, ↓exq_cd cd_c44_10, ↓exq_cd cd_c44_11, ↓exq_cd cd_c44_12, ↓exq_cd cd_c44_13, ↓exq_cd cd_c44_14, ↓exq_cd cd_c44_15, ↓exq_cd cd_c44_16, ↓exq_cd cd_code57, ↓exq_cd cd_c57_1, ↓exq_cd cd_c57_2, ↓exq_cd cd_c57_3, ↓exq_cd cd_c57_4, ↓exq_cd cd_c57_5, ↓exq_cd cd_c57_7, ↓exq_cd cd_c57_8, ↓exq_cd cd_c57_6, ↓exq_cd cd_c57_14, ↓exq_cd cd_c57_16, ↓exq_cd cd_c57_17, ↓exq_cd cd_c57_18, ↓exq_cd cd_c57_15, ↓exq_cd cd_c57_20, r44_1, r44_5, r44_10, r44_12, r44_14, r44_16, r57_1, r57_3, r57_7, r57_16, r57_18, r57_20]
        repeat (refine And.intro (a := (_ = true)) (by first | (simp; done) | (simp; omega)) ?_)
        refine ObQ.wk (Wk.nilcell (l := 0) (pre := [_, _]) .u8 rfl 0 1) ?_; exact ObQ.mk [0, 2, 3] (by decide) rfl rfl rfl ⟨rfl, rfl, rfl, trivial⟩
end RW
end Go.Proofs.Ytmdepmhamefheaa
