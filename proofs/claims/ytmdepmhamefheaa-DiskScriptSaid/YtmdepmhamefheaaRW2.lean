/- The document's disk: the words of Room, Fuse, Crash, Wipe, Read, New; contracts. -/
import Derived.Test.YtmdepmhamefheaaRW1
set_option linter.unusedSimpArgs false
set_option linter.unusedVariables false
-- FUNCTIONS 45 46 47 48 51 27
namespace Go.Proofs.Ytmdepmhamefheaa
open Go Go.SY
namespace RW
open DW
set_option maxRecDepth 100000 in
set_option maxHeartbeats 4000000 in
theorem room_word (s : DS) (k : Int) (hs : numOk s = true) : Word Try.prog (plOf pls) 45 [.ptr 0 0 7 0, .v (.int .i64 k)] (layR s) (ObQ 1 (.v (.int .i64 (dRoom s k).1)) (layR (dRoom s k).2)) := by
  obtain ⟨l, f, x, xf, room, n, u, out⟩ := s
  simp only [numOk, Bool.and_eq_true, decide_eq_true_eq] at hs
  obtain ⟨hn0, hn1, hlx, hf0, hf1, hu⟩ := hs
  refine ⟨_, fi45, by simp, fun C hC hl => ?_⟩
  by_cases h1 : k < 0
  · have e : dRoom ⟨l, f, x, xf, room, n, u, out⟩ k = (2, ⟨l, f, x, xf, room, n, u, out⟩) := by simp [dRoom, h1]
    rw [e]
    refine ExQ_ok [] 2000 plsOk noK ?_
    simp only [conf0, layR, lfO]
    (try rw [exh]); simp (maxSteps := 4000000) only [h1, stops, inK, stepF, frsF, frF, itemF, codeF, condF, opsF, opsW, opF, stepS, wtS, gdst, gdl, sopF, pv, p_move, p_assign, p_pick, p_binOp, SY.get, SY.put, SY.ev, SY.mk, SY.ini, bopInt, bop, pickAV, leaveS, retS, killL, isDefs, resS, resAll, tup1, exq_go, exq_t, ↓reduceIte, Nat.reduceLT, Nat.reduceEqDiff, Nat.reduceAdd, Nat.reduceSub, Bool.not_false, reduceCtorEq, true_and, Bool.and_self, Nat.zero_add, Int.reduceLE, decide_true, ti3, regAt, fi45, body45, Try.f45, ↓exq_cd cd_code45, ↓exq_cd cd_c45_1, ↓exq_cd cd_c45_2, ↓exq_cd cd_c45_3, ↓exq_cd cd_c45_5, ↓exq_cd cd_c45_6, ↓exq_cd cd_c45_7, ↓exq_cd cd_c45_9, r45_1, r45_5, r45_9]
    repeat (refine And.intro (a := (_ = true)) (by first | (simp; done) | (simp; omega)) ?_)
    exact ObQ.mk [0, 1, 2] (by decide) rfl rfl rfl ⟨rfl, rfl, rfl, trivial⟩
  by_cases h2 : 1000000 < k
  · have e : dRoom ⟨l, f, x, xf, room, n, u, out⟩ k = (2, ⟨l, f, x, xf, room, n, u, out⟩) := by simp [dRoom, h2]
    rw [e]
    refine ExQ_ok [] 2000 plsOk noK ?_
    simp only [conf0, layR, lfO]
    (try rw [exh]); simp (maxSteps := 4000000) only [h1, h2, stops, inK, stepF, frsF, frF, itemF, codeF, condF, opsF, opsW, opF, stepS, wtS, gdst, gdl, sopF, pv, p_move, p_assign, p_pick, p_binOp, SY.get, SY.put, SY.ev, SY.mk, SY.ini, bopInt, bop, pickAV, leaveS, retS, killL, isDefs, resS, resAll, tup1, exq_go, exq_t, exq_f, ↓reduceIte, Nat.reduceLT, Nat.reduceEqDiff, Nat.reduceAdd, Nat.reduceSub, Bool.not_false, reduceCtorEq, true_and, Bool.and_self, Nat.zero_add, Int.reduceLE, decide_true, decide_false, ti3, regAt, fi45, body45, Try.f45, ↓exq_cd cd_code45, ↓exq_cd cd_c45_1, ↓exq_cd cd_c45_2, ↓exq_cd cd_c45_3, ↓exq_cd cd_c45_5, ↓exq_cd cd_c45_6, ↓exq_cd cd_c45_7, ↓exq_cd cd_c45_9, r45_1, r45_5, r45_9]
    repeat (refine And.intro (a := (_ = true)) (by first | (simp; done) | (simp; omega)) ?_)
    exact ObQ.mk [0, 1, 2] (by decide) rfl rfl rfl ⟨rfl, rfl, rfl, trivial⟩
  have e : dRoom ⟨l, f, x, xf, room, n, u, out⟩ k = (0, ⟨l, f, x, xf, k, n, u, out⟩) := by simp [dRoom, h1, h2]
  rw [e]
  refine ExQ_ok [] 2000 plsOk noK ?_
  simp only [conf0, layR, lfO]
  (try rw [exh]); simp (maxSteps := 4000000) only [h1, h2, stops, inK, stepF, frsF, frF, itemF, codeF, condF, opsF, opsW, opF, stepS, wtS, gdst, gdl, sopF, pv, evq, quiet, p_move, p_assign, p_pick, p_nilCheck, p_binOp, p_fieldAddr, e_store, SY.get, SY.put, SY.ev, SY.mk, SY.nth, SY.lvl, SY.setl, SY.ini, dr, flat, wrC, wrCt, bopInt, bop, pickAV, leaveS, retS, killL, isDefs, resS, resAll, tup1, exq_go, exq_f, ↓reduceIte, Nat.reduceLT, Nat.reduceEqDiff, Nat.reduceAdd, Nat.reduceSub, Bool.not_false, reduceCtorEq, true_and, Bool.and_self, List.cons_append, List.nil_append, Nat.zero_add, Nat.zero_mul, Int.reduceLE, decide_true, decide_false, ti3, ti65, regAt, fi45, body45, Try.f45, ↓exq_cd cd_code45, ↓exq_cd cd_c45_1, ↓exq_cd cd_c45_2, ↓exq_cd cd_c45_3, ↓exq_cd cd_c45_5, ↓exq_cd cd_c45_6, ↓exq_cd cd_c45_4, ↓exq_cd cd_c45_10, ↓exq_cd cd_c45_11, ↓exq_cd cd_c45_12, r45_1, r45_5, r45_10, r45_12]
  repeat (refine And.intro (a := (_ = true)) (by first | (simp; done) | (simp; omega)) ?_)
  exact ObQ.mk [0, 1, 2] (by decide) rfl rfl rfl ⟨rfl, rfl, rfl, trivial⟩
set_option maxRecDepth 100000 in
set_option maxHeartbeats 4000000 in
theorem fuse_word (s : DS) (k : Int) (hs : numOk s = true) : Word Try.prog (plOf pls) 46 [.ptr 0 0 7 0, .v (.int .i64 k)] (layR s) (ObQ 1 (.v (.int .i64 (dFuse s k).1)) (layR (dFuse s k).2)) := by
  obtain ⟨l, f, x, xf, room, n, u, out⟩ := s
  simp only [numOk, Bool.and_eq_true, decide_eq_true_eq] at hs
  obtain ⟨hn0, hn1, hlx, hf0, hf1, hu⟩ := hs
  refine ⟨_, fi46, by simp, fun C hC hl => ?_⟩
  by_cases h1 : k < 0
  · have e : dFuse ⟨l, f, x, xf, room, n, u, out⟩ k = (2, ⟨l, f, x, xf, room, n, u, out⟩) := by simp [dFuse, h1]
    rw [e]
    refine ExQ_ok [] 2000 plsOk noK ?_
    simp only [conf0, layR, lfO]
    (try rw [exh]); simp (maxSteps := 4000000) only [h1, stops, inK, stepF, frsF, frF, itemF, codeF, condF, opsF, opsW, opF, stepS, wtS, sopF, pv, p_move, p_assign, p_binOp, SY.get, SY.put, SY.ev, SY.mk, SY.ini, bopInt, bop, leaveS, retS, killL, isDefs, resS, resAll, tup1, exq_go, exq_t, ↓reduceIte, Nat.reduceLT, Nat.reduceEqDiff, Nat.reduceAdd, reduceCtorEq, true_and, Bool.and_self, Nat.zero_add, Int.reduceLE, decide_true, ti3, regAt, fi46, body46, Try.f46, ↓exq_cd cd_code46, ↓exq_cd cd_c46_1, ↓exq_cd cd_c46_2, ↓exq_cd cd_c46_3, ↓exq_cd cd_c46_5, ↓exq_cd cd_c46_6, ↓exq_cd cd_c46_7, ↓exq_cd cd_c46_9, r46_1, r46_5, r46_9]
    repeat (refine And.intro (a := (_ = true)) (by first | (simp; done) | (simp; omega)) ?_)
    exact ObQ.mk [0, 1, 2] (by decide) rfl rfl rfl ⟨rfl, rfl, rfl, trivial⟩
  have e : dFuse ⟨l, f, x, xf, room, n, u, out⟩ k = (0, ⟨l, f, x, xf, room, n, some k, out⟩) := by simp [dFuse, h1]
  rw [e]
  refine ExQ_ok [] 2000 plsOk noK ?_
  simp only [conf0, layR, lfO]
  (try rw [exh]); simp (maxSteps := 4000000) only [h1, stops, inK, stepF, frsF, frF, itemF, codeF, condF, opsF, opsW, opF, stepS, wtS, sopF, pv, evq, quiet, p_move, p_assign, p_nilCheck, p_binOp, p_fieldAddr, e_store, SY.get, SY.put, SY.ev, SY.mk, SY.nth, SY.lvl, SY.setl, SY.ini, dr, flat, wrC, wrCt, bopInt, bop, leaveS, retS, killL, isDefs, resS, resAll, tup1, exq_go, exq_f, ↓reduceIte, Nat.reduceLT, Nat.reduceEqDiff, Nat.reduceAdd, Nat.reduceSub, reduceCtorEq, true_and, Bool.and_self, List.cons_append, List.nil_append, Nat.zero_add, Nat.zero_mul, Int.reduceLE, decide_true, decide_false, ti3, ti65, regAt, fi46, body46, Try.f46, ↓exq_cd cd_code46, ↓exq_cd cd_c46_1, ↓exq_cd cd_c46_2, ↓exq_cd cd_c46_3, ↓exq_cd cd_c46_5, ↓exq_cd cd_c46_6, ↓exq_cd cd_c46_4, ↓exq_cd cd_c46_10, ↓exq_cd cd_c46_11, ↓exq_cd cd_c46_12, r46_1, r46_5, r46_10, r46_12]
  repeat (refine And.intro (a := (_ = true)) (by first | (simp; done) | (simp; omega)) ?_)
  exact ObQ.mk [0, 1, 2] (by decide) rfl rfl rfl ⟨rfl, rfl, rfl, trivial⟩
set_option maxRecDepth 100000 in
set_option maxHeartbeats 4000000 in
theorem wipe_word (s : DS) (hs : numOk s = true) : Word Try.prog (plOf pls) 48 [.ptr 0 0 7 0] (layR s) (ObQ 1 (.v (.int .i64 (dWipe s).1)) (layR (dWipe s).2)) := by
  obtain ⟨l, f, x, xf, room, n, u, out⟩ := s
  simp only [numOk, Bool.and_eq_true, decide_eq_true_eq] at hs
  obtain ⟨hn0, hn1, hlx, hf0, hf1, hu⟩ := hs
  refine ⟨_, fi48, by simp, fun C hC hl => ?_⟩
  refine ExQ_ok [] 2000 plsOk noK ?_
  simp only [conf0, layR, lfO]
  (try rw [exh]); simp (maxSteps := 4000000) only [stops, inK, stepF, frsF, frF, itemF, codeF, opsF, opsW, opF, stepS, wtS, sopF, pv, evq, quiet, p_move, p_assign, p_nilCheck, p_fieldAddr, e_store, SY.get, SY.put, SY.ev, SY.mk, SY.nth, SY.lvl, SY.setl, SY.ini, dr, flat, wrC, wrCt, leaveS, retS, killL, isDefs, resS, resAll, tup1, exq_go, ↓reduceIte, Nat.reduceLT, Nat.reduceAdd, Nat.reduceSub, reduceCtorEq, true_and, Bool.and_self, List.cons_append, List.nil_append, List.append_nil, Nat.zero_add, Nat.add_zero, Nat.zero_mul, Int.reduceLE, decide_true, ti3, ti4, ti22, ti65, regAt, fi48, body48, Try.f48, ↓exq_cd cd_code48, ↓exq_cd cd_c48_1, ↓exq_cd cd_c48_2, ↓exq_cd cd_c48_3, ↓exq_cd cd_c48_4, ↓exq_cd cd_c48_5, ↓exq_cd cd_c48_6, ↓exq_cd cd_c48_7, ↓exq_cd cd_c48_8, ↓exq_cd cd_c48_9, ↓exq_cd cd_c48_10, ↓exq_cd cd_c48_11, ↓exq_cd cd_c48_12, ↓exq_cd cd_c48_13, r48_1, r48_3, r48_5, r48_7, r48_9, r48_11, r48_13]
  repeat (refine And.intro (a := (_ = true)) (by first | (simp; done) | (simp; omega)) ?_)
  refine ObQ.wk (Wk.nilcell (l := 0) (pre := []) .u8 rfl 0 1) ?_; refine ObQ.wk (Wk.nilcell (l := 0) (pre := [_, _]) .u8 rfl 0 1) ?_; exact ObQ.mk [0, 3, 4] (by decide) rfl rfl rfl ⟨rfl, rfl, rfl, trivial⟩
set_option maxRecDepth 100000 in
set_option maxHeartbeats 4000000 in
theorem crash_word (s : DS) (k : Int) (hs : numOk s = true) (hk2 : k ≤ 9223372036854775807) : Word Try.prog (plOf pls) 47 [.ptr 0 0 7 0, .v (.int .i64 k)] (layR s) (ObQ 1 (.v (.int .i64 (dCrash s k).1)) (layR (dCrash s k).2)) := by
  obtain ⟨l, f, x, xf, room, n, u, out⟩ := s
  simp only [numOk, Bool.and_eq_true, decide_eq_true_eq] at hs
  obtain ⟨hn0, hn1, hlx, hf0, hf1, hu⟩ := hs
  refine ⟨_, fi47, by simp, fun C hC hl => ?_⟩
  by_cases h1 : k < 0
  · have e : dCrash ⟨l, f, x, xf, room, n, u, out⟩ k = (2, ⟨l, f, x, xf, room, n, u, out⟩) := by simp [dCrash, h1]
    rw [e]
    refine ExQ_ok [] 2000 plsOk noK ?_
    simp only [conf0, layR, lfO]
    (try rw [exh]); simp (maxSteps := 4000000) only [h1, stops, inK, stepF, frsF, frF, itemF, codeF, condF, opsF, opsW, opF, stepS, wtS, sopF, pv, p_move, p_assign, p_binOp, SY.get, SY.put, SY.ev, SY.mk, SY.ini, bopInt, bop, leaveS, retS, killL, isDefs, resS, resAll, tup1, exq_go, exq_t, ↓reduceIte, Nat.reduceLT, Nat.reduceEqDiff, Nat.reduceAdd, reduceCtorEq, true_and, Bool.and_self, Nat.zero_add, Int.reduceLE, decide_true, ti3, regAt, fi47, body47, Try.f47, ↓exq_cd cd_code47, ↓exq_cd cd_c47_1, ↓exq_cd cd_c47_2, ↓exq_cd cd_c47_3, ↓exq_cd cd_c47_5, ↓exq_cd cd_c47_6, ↓exq_cd cd_c47_7, ↓exq_cd cd_c47_9, r47_1, r47_5, r47_9]
    repeat (refine And.intro (a := (_ = true)) (by first | (simp; done) | (simp; omega)) ?_)
    exact ObQ.mk [0, 1, 2] (by decide) rfl rfl rfl ⟨rfl, rfl, rfl, trivial⟩
  by_cases h2 : k < (l.length : Int) - f
  · obtain ⟨M, hM, hMl⟩ : ∃ M : Nat, f + k = M ∧ M ≤ l.length := ⟨(f + k).toNat, by omega, by omega⟩
    have hc : crN ⟨l, f, x, xf, room, n, u, out⟩ k = M := by simp only [crN]; omega
    have e : dCrash ⟨l, f, x, xf, room, n, u, out⟩ k = (0, ⟨l.take M, M, [], 0, room, n, none, false⟩) := by simp only [dCrash, h1, if_false, hc]
    rw [e]
    have htl : (l.take M).length = M := by rw [List.length_take]; omega
    refine ExQ_ok [] 2000 plsOk noK ?_
    simp only [conf0, layR, lfO, htl]
    (try rw [exh]); simp (maxSteps := 4000000) only [h1, h2, hM, Int.toNat_natCast, stops, inK, stepF, frsF, frF, itemF, codeF, condF, opsF, opsW, opF, drF, drO, drW, drC, stepS, wtS, sopF, pv, evq, bltF, callF, popF, lopF, bltP, callP, cls, lvA, rdl, quiet, p_move, p_assign, p_nilCheck, p_binOp, p_fieldAddr, p_slice, p_len, l_load, e_store, SY.get, SY.put, SY.ev, SY.mk, SY.nth, SY.lvl, SY.setl, SY.ini, dr, flat, at1, rdC, rdCt, wrC, wrCt, ar, bopInt, bop, bnd, subO, cutOf, okMx, leaveS, retS, killL, isDefs, resS, resAll, tup1, AV.scal, plk, exq_go, exq_t, exq_f, ↓reduceIte, Nat.reduceLT, Nat.reduceEqDiff, Nat.reduceAdd, Nat.reduceSub, Bool.true_and, List.contains_nil, reduceCtorEq, true_and, Bool.false_eq_true, Bool.and_self, List.length_nil, List.cons_append, List.nil_append, Option.map_some, Option.map_none, List.append_nil, Nat.zero_add, Nat.add_zero, Nat.sub_zero, Nat.zero_mul, Int.toNat_natCast, Int.reduceLE, decide_true, decide_false, Option.getD_none, ti3, ti4, ti22, ti65, regAt, fi47, body47, Try.f47, ↓exq_cd cd_code47, ↓exq_cd cd_c47_1, ↓exq_cd cd_c47_2, ↓exq_cd cd_c47_3, ↓exq_cd cd_c47_5, ↓exq_cd cd_c47_6, ↓exq_cd cd_c47_4, ↓exq_cd cd_c47_10, ↓exq_cd cd_c47_12, ↓exq_cd cd_c47_13, ↓exq_cd cd_c47_14, ↓exq_cd cd_c47_11, ↓exq_cd cd_c47_16, ↓exq_cd cd_c47_17, ↓exq_cd cd_c47_18, ↓exq_cd cd_c47_19, ↓exq_cd cd_c47_20, ↓exq_cd cd_c47_21, ↓exq_cd cd_c47_22, ↓exq_cd cd_c47_23, ↓exq_cd cd_c47_24, r47_1, r47_5, r47_12, r47_14, r47_16, r47_18, r47_20, r47_22, r47_24, plA47, pl47]
    repeat (refine And.intro (a := (_ = true)) (by first | (simp; done) | (simp; omega)) ?_)
    refine ObQ.wk (Wk.nilcell (l := 0) (pre := [_, _]) .u8 rfl 0 1) ?_; refine ObQ.wk (Wk.cut (l := 1) (n := M) rfl) ?_; exact ObQ.mk [0, 1, 3] (by decide) rfl rfl rfl ⟨rfl, rfl, rfl, trivial⟩
  · have hc : crN ⟨l, f, x, xf, room, n, u, out⟩ k = l.length := by simp only [crN]; omega
    have e : dCrash ⟨l, f, x, xf, room, n, u, out⟩ k = (0, ⟨l, l.length, [], 0, room, n, none, false⟩) := by simp only [dCrash, h1, if_false, hc, List.take_length]
    rw [e]
    refine ExQ_ok [] 2000 plsOk noK ?_
    simp only [conf0, layR, lfO]
    (try rw [exh]); simp (maxSteps := 4000000) only [h1, h2, stops, inK, stepF, frsF, frF, itemF, codeF, condF, opsF, opsW, opF, drF, drO, drW, drC, stepS, wtS, sopF, pv, evq, bltF, callF, popF, lopF, bltP, callP, cls, rdl, quiet, p_move, p_assign, p_nilCheck, p_binOp, p_fieldAddr, p_len, l_load, e_store, SY.get, SY.put, SY.ev, SY.mk, SY.nth, SY.lvl, SY.setl, SY.ini, dr, flat, at1, rdC, rdCt, wrC, wrCt, ar, bopInt, bop, leaveS, retS, killL, isDefs, resS, resAll, tup1, AV.scal, plk, exq_go, exq_f, ↓reduceIte, Nat.reduceLT, Nat.reduceEqDiff, Nat.reduceAdd, Nat.reduceSub, reduceCtorEq, true_and, Bool.and_self, List.length_nil, List.cons_append, List.nil_append, List.append_nil, Nat.zero_add, Nat.add_zero, Nat.zero_mul, Int.reduceLE, decide_true, decide_false, ti3, ti4, ti22, ti65, regAt, fi47, body47, Try.f47, ↓exq_cd cd_code47, ↓exq_cd cd_c47_1, ↓exq_cd cd_c47_2, ↓exq_cd cd_c47_3, ↓exq_cd cd_c47_5, ↓exq_cd cd_c47_6, ↓exq_cd cd_c47_4, ↓exq_cd cd_c47_10, ↓exq_cd cd_c47_12, ↓exq_cd cd_c47_13, ↓exq_cd cd_c47_11, ↓exq_cd cd_c47_16, ↓exq_cd cd_c47_17, ↓exq_cd cd_c47_18, ↓exq_cd cd_c47_19, ↓exq_cd cd_c47_20, ↓exq_cd cd_c47_21, ↓exq_cd cd_c47_22, ↓exq_cd cd_c47_23, ↓exq_cd cd_c47_24, r47_1, r47_5, r47_12, r47_16, r47_18, r47_20, r47_22, r47_24, plA47, pl47]
    repeat (refine And.intro (a := (_ = true)) (by first | (simp; done) | (simp; omega)) ?_)
    refine ObQ.wk (Wk.nilcell (l := 0) (pre := [_, _]) .u8 rfl 0 1) ?_; exact ObQ.mk [0, 1, 3] (by decide) rfl rfl rfl ⟨rfl, rfl, rfl, trivial⟩
def rdW (s : DS) : AV := if s.out = true then .tup [.nil, .v (.int .i64 11)] else .tup [.sl 3 0 1 s.l.length none, .v (.int .i64 0)]
set_option maxRecDepth 100000 in
set_option maxHeartbeats 4000000 in
theorem read_word (s : DS) (hs : numOk s = true) : Word Try.prog (plOf pls) 51 [.ptr 0 0 7 0] (layR s) (ObQ (layR s).length (rdW s) (layR s ++ rdX s)) := by
  obtain ⟨l, f, x, xf, room, n, u, out⟩ := s
  simp only [numOk, Bool.and_eq_true, decide_eq_true_eq] at hs
  obtain ⟨hn0, hn1, hlx, hf0, hf1, hu⟩ := hs
  refine ⟨_, fi51, by simp, fun C hC hl => ?_⟩
  have tl := take_self l
  cases out with
  | true =>
    refine ExQ_ok [] 2000 plsOk noK ?_
    simp only [conf0, layR, lfO]
    (try rw [exh]); simp (maxSteps := 4000000) only [stops, inK, stepF, frsF, frF, itemF, codeF, condF, opsF, opsW, opF, stepS, wtS, sopF, pv, p_move, p_assign, p_nilCheck, p_fieldAddr, l_load, SY.get, SY.put, SY.ev, SY.mk, SY.nth, SY.lvl, SY.ini, dr, at1, rdC, rdCt, leaveS, retS, killL, isDefs, resS, resAll, tup1, AV.scal, exq_go, exq_t, ↓reduceIte, Nat.reduceLT, Nat.reduceEqDiff, Nat.reduceAdd, Nat.reduceSub, reduceCtorEq, true_and, Bool.and_self, List.length_cons, List.length_nil, List.cons_append, List.nil_append, Nat.zero_add, Nat.zero_mul, Int.reduceLE, decide_true, ti4, ti65, regAt, fi51, body51, Try.f51, ↓exq_cd cd_code51, ↓exq_cd cd_c51_1, ↓exq_cd cd_c51_2, ↓exq_cd cd_c51_3, ↓exq_cd cd_c51_5, ↓exq_cd cd_c51_6, ↓exq_cd cd_c51_7, ↓exq_cd cd_c51_9, r51_1, r51_5, r51_9]
    repeat (refine And.intro (a := (_ = true)) (by first | (simp; done) | (simp; omega)) ?_)
    exact ObQ.mk [0, 1, 2] (by decide) rfl rfl rfl ⟨rfl, rfl, rfl, trivial⟩
  | false =>
    refine ExQ_ok [] 2000 plsOk noK ?_
    simp only [conf0, layR, lfO]
    (try rw [exh]); simp (maxSteps := 4000000) only [tl, List.nil_append, stops, inK, stepF, frsF, frF, itemF, codeF, condF, opsF, opsW, opF, stepS, wtS, sopF, pv, evq, bltF, callF, quiet, p_move, p_assign, p_nilCheck, p_fieldAddr, l_load, roomN, appNN, srcN, dstN, e_buildSlice, e_append, SY.get, SY.put, SY.ev, SY.mk, SY.nth, SY.lvl, SY.ini, wid, wids, dr, at1, rdC, rdCt, fillA, numsAt, numsAV, rep, elCt, srcN, dstN, leaveS, retS, killL, isDefs, resS, resAll, tup1, AV.scal, exq_go, exq_f, ↓reduceIte, Nat.reduceLT, Nat.reduceLeDiff, Nat.reduceEqDiff, Nat.reduceAdd, Nat.reduceSub, Bool.and_true, Bool.true_and, Option.isSome_none, reduceCtorEq, true_and, Bool.false_eq_true, List.map_nil, Bool.and_self, List.drop_zero, List.length_cons, List.length_nil, List.cons_append, List.nil_append, Nat.zero_add, Nat.add_zero, Nat.zero_mul, Nat.mul_one, Int.reduceLE, decide_true, and_false, ti4, ti5, ti22, ti65, regAt, fi51, body51, Try.f51, ↓exq_cd cd_code51, ↓exq_cd cd_c51_1, ↓exq_cd cd_c51_2, ↓exq_cd cd_c51_3, ↓exq_cd cd_c51_5, ↓exq_cd cd_c51_6, ↓exq_cd cd_c51_4, ↓exq_cd cd_c51_10, r51_1, r51_5, r51_10]
    repeat (refine And.intro (a := (_ = true)) (by first | (simp; done) | (simp; omega)) ?_)
    exact ObQ.mk [0, 1, 2, 4] (by decide) rfl rfl rfl ⟨rfl, rfl, rfl, rfl, trivial⟩
def sNewR : List AV → Option (Bool × AV × Bls)
  | [.v (.int .i64 room)] => if room < 0 ∨ 1000000 < room then some (true, .tup [.v (.pointer none), .v (.int .i64 2)], []) else some (true, .tup [.ptr 0 0 7 0, .v (.int .i64 0)], layR (newD room))
  | _ => none
set_option maxRecDepth 100000 in
set_option maxHeartbeats 4000000 in
theorem new_ok : SpecW Try.prog (plOf pls) 27 sNewR := by
  refine ⟨_, fi27, fun args r bl1 h => ?_⟩
  unfold sNewR at h
  split at h
  · rename_i room
    split at h
    · rename_i hr
      simp only [Option.some.injEq, Prod.mk.injEq, true_and] at h
      obtain ⟨rfl, rfl⟩ := h
      refine ⟨by simp, fun C hC hb => ?_⟩
      by_cases h1 : room < 0
      · refine ExQ_ok [] 2000 plsOk noK ?_
        simp only [conf0]
        (try rw [exh]); simp (maxSteps := 4000000) only [h1, stops, inK, stepF, frsF, frF, itemF, codeF, condF, opsF, opsW, opF, stepS, wtS, gdst, gdl, sopF, pv, p_move, p_assign, p_pick, p_binOp, SY.get, SY.put, SY.ev, SY.mk, SY.ini, bopInt, bop, pickAV, leaveS, retS, killL, isDefs, resS, resAll, tup1, exq_go, exq_t, ↓reduceIte, Nat.reduceLT, Nat.reduceEqDiff, Nat.reduceAdd, Nat.reduceSub, Bool.not_false, reduceCtorEq, true_and, Bool.and_self, Int.reduceLE, decide_true, ti3, regAt, fi27, body27, Try.f27, ↓exq_cd cd_code27, ↓exq_cd cd_c27_1, ↓exq_cd cd_c27_2, ↓exq_cd cd_c27_3, ↓exq_cd cd_c27_5, ↓exq_cd cd_c27_6, ↓exq_cd cd_c27_7, ↓exq_cd cd_c27_9, r27_1, r27_5, r27_9]
        repeat (refine And.intro (a := (_ = true)) (by first | (simp; done) | (simp; omega)) ?_)
        exact ObQ.mk [] (by decide) rfl rfl rfl trivial
      · have h2 : 1000000 < room := hr.resolve_left h1
        refine ExQ_ok [] 2000 plsOk noK ?_
        simp only [conf0]
        (try rw [exh]); simp (maxSteps := 4000000) only [h1, h2, stops, inK, stepF, frsF, frF, itemF, codeF, condF, opsF, opsW, opF, stepS, wtS, gdst, gdl, sopF, pv, p_move, p_assign, p_pick, p_binOp, SY.get, SY.put, SY.ev, SY.mk, SY.ini, bopInt, bop, pickAV, leaveS, retS, killL, isDefs, resS, resAll, tup1, exq_go, exq_t, exq_f, ↓reduceIte, Nat.reduceLT, Nat.reduceEqDiff, Nat.reduceAdd, Nat.reduceSub, Bool.not_false, reduceCtorEq, true_and, Bool.and_self, Int.reduceLE, decide_true, decide_false, ti3, regAt, fi27, body27, Try.f27, ↓exq_cd cd_code27, ↓exq_cd cd_c27_1, ↓exq_cd cd_c27_2, ↓exq_cd cd_c27_3, ↓exq_cd cd_c27_5, ↓exq_cd cd_c27_6, ↓exq_cd cd_c27_7, ↓exq_cd cd_c27_9, r27_1, r27_5, r27_9]
        repeat (refine And.intro (a := (_ = true)) (by first | (simp; done) | (simp; omega)) ?_)
        exact ObQ.mk [] (by decide) rfl rfl rfl trivial
    · rename_i hr
      rw [not_or] at hr
      obtain ⟨h1, h2⟩ := hr
      simp only [Option.some.injEq, Prod.mk.injEq, true_and] at h
      obtain ⟨rfl, rfl⟩ := h
      refine ⟨by simp, fun C hC hb => ?_⟩
      refine ExQ_ok [] 2000 plsOk noK ?_
      simp only [conf0]
      (try rw [exh]); simp (maxSteps := 4000000) only [h1, h2, stops, inK, stepF, frsF, frF, itemF, codeF, condF, opsF, opsW, opF, stepS, wtS, gdst, gdl, sopF, pv, evq, quiet, p_move, p_assign, p_pick, p_binOp, p_build, e_box, SY.get, SY.put, SY.ev, SY.mk, SY.nth, SY.ini, wid, wids, dr, flat, pack, wrC, bopInt, bop, pickAV, fillA, plFs, nz, isArr, ctOf, leaveS, retS, killL, isDefs, resS, resAll, tup1, exq_go, exq_f, ↓reduceIte, Nat.reduceLT, Nat.reduceEqDiff, Nat.reduceAdd, Nat.reduceSub, Bool.not_false, reduceCtorEq, true_and, List.map_cons, List.map_nil, Bool.and_self, List.length_nil, List.cons_append, List.nil_append, Nat.add_zero, Int.reduceLE, decide_true, decide_false, ti3, ti65, regAt, fi27, body27, Try.f27, ↓exq_cd cd_code27, ↓exq_cd cd_c27_1, ↓exq_cd cd_c27_2, ↓exq_cd cd_c27_3, ↓exq_cd cd_c27_5, ↓exq_cd cd_c27_6, ↓exq_cd cd_c27_4, ↓exq_cd cd_c27_10, r27_1, r27_5, r27_10]
      repeat (refine And.intro (a := (_ = true)) (by first | (simp; done) | (simp; omega)) ?_)
      refine ObQ.wk (Wk.nilcell (l := 0) (pre := []) .u8 rfl 0 1) ?_
      refine ObQ.wk (Wk.nilcell (l := 0) (pre := [_, _]) .u8 rfl 0 1) ?_
      exact ObQ.mk [0, 1, 2] (by decide) rfl rfl rfl ⟨rfl, rfl, rfl, trivial⟩
  · cases h
theorem layR_len3 (s : DS) : 3 ≤ (layR s).length := Nat.le_refl _
theorem layR_ok (s : DS) : okBls (layR s).length (layR s) = true := rfl
theorem layR_some (s : DS) : ∀ (l : Nat) (x : Option Ct), (layR s)[l]? = some x → x ≠ none := by
  intro j y h e
  subst e
  match j, h with
  | 0, h => cases h
  | 1, h => cases h
  | 2, h => cases h
  | j + 3, h => simp [layR] at h
/-- Methods without an argument, with a number, with bytes. -/
def osK (f : DS → AV × DS) : OSpec := fun args bl => match args with
  | [.ptr l 0 7 0] => (match findR bl l with
    | some (v1, σ, s) => some (v1 && numOk s, σ, [.ptr 0 0 7 0], layR s, (f s).1, layR (f s).2)
    | none => none)
  | _ => none
def osI (f : DS → Int → AV × DS) : OSpec := fun args bl => match args with
  | [.ptr l 0 7 0, .v (.int .i64 k)] => (match findR bl l with
    | some (v1, σ, s) => some (v1 && (numOk s && decide (k ≤ 9223372036854775807)), σ, [.ptr 0 0 7 0, .v (.int .i64 k)], layR s, (f s k).1, layR (f s k).2)
    | none => none)
  | _ => none
def osB (f : DS → List Int → AV × DS) : OSpec := fun args bl => match args with
  | [.ptr l 0 7 0, x] => (match findR bl l with
    | some (v1, σ, s) => (match lnd (killL σ bl) x with
      | some (v2, x') => (match nilN .u8 x' with
        | .imn t .u8 b c => some (v1 && (v2 && (numOk s && decide (b.length ≤ 1000000000))), σ, [.ptr 0 0 7 0, .imn t .u8 b c], layR s, (f s b).1, layR (f s b).2)
        | _ => none)
      | none => none)
    | none => none)
  | _ => none
theorem osK_ok {g : FuncId} {f : DS → AV × DS} (hf : ∀ s, ∃ x, (f s).1 = .v x) (h : ∀ s, numOk s = true → Word Try.prog (plOf pls) g [.ptr 0 0 7 0] (layR s) (ObQ 1 (f s).1 (layR (f s).2))) : ObjOk Try.prog (plOf pls) g 1 (osK f) := by
  intro args bl σ args0 bl0 r1 bl1 hs
  unfold osK at hs
  split at hs
  · rename_i l
    split at hs
    · rename_i v1 σ' s e
      simp only [Option.some.injEq, Prod.mk.injEq, Bool.and_eq_true] at hs
      obtain ⟨⟨rfl, h1⟩, rfl, rfl, rfl, rfl, rfl⟩ := hs
      obtain ⟨a1, a2, a3, a4, a5, a6⟩ := findR_ok e
      obtain ⟨y, hy⟩ := hf s
      refine ⟨h s h1, ⟨_, ⟨_, _, rfl, .inl ⟨by simp [ren, a6], by simp [lvB]; omega⟩, rfl⟩, fun _ _ h => h⟩, a1, a2, a3, a4, a5, by have := layR_len3 (f s).2; omega, by rw [hy]; rfl, layR_ok _⟩
    · cases hs
  · cases hs
/-- Methods that leave the disk as it is. -/
def osR (f : DS → AV) (ex : DS → Bls) : OSpec := fun args bl => match args with
  | [.ptr l 0 7 0] => (match findR bl l with
    | some (v1, σ, s) => some (v1 && numOk s, σ, [.ptr 0 0 7 0], layR s, f s, ex s)
    | none => none)
  | _ => none
theorem osR_ok {g : FuncId} {f : DS → AV} {ex : DS → Bls} (h : ∀ s, numOk s = true → Word Try.prog (plOf pls) g [.ptr 0 0 7 0] (layR s) (ObQ (layR s).length (f s) (layR s ++ ex s))) (h1 : ∀ s, lvB (layR s ++ ex s).length false (f s) = true ∧ okBls (layR s ++ ex s).length (layR s ++ ex s) = true) : ReadOk Try.prog (plOf pls) g (osR f ex) := by
  intro args bl σ args0 bl0 r1 bl1 hs
  unfold osR at hs
  split at hs
  · rename_i l
    split at hs
    · rename_i v1 σ' s e
      simp only [Option.some.injEq, Prod.mk.injEq, Bool.and_eq_true] at hs
      obtain ⟨⟨rfl, h2⟩, rfl, rfl, rfl, rfl, rfl⟩ := hs
      obtain ⟨a1, a2, a3, a4, a5, a6⟩ := findR_ok e
      exact ⟨h s h2, ⟨_, ⟨_, _, rfl, .inl ⟨by simp [ren, a6], by simp [lvB]; omega⟩, rfl⟩, fun _ _ h => h⟩, a1, a2, a3, a4, layR_some s, layR_ok s, h1 s⟩
    · cases hs
  · cases hs
theorem osI_ok {g : FuncId} {f : DS → Int → AV × DS} (hf : ∀ s k, ∃ x, (f s k).1 = .v x) (h : ∀ s k, numOk s = true → k ≤ 9223372036854775807 → Word Try.prog (plOf pls) g [.ptr 0 0 7 0, .v (.int .i64 k)] (layR s) (ObQ 1 (f s k).1 (layR (f s k).2))) : ObjOk Try.prog (plOf pls) g 1 (osI f) := by
  intro args bl σ args0 bl0 r1 bl1 hs
  unfold osI at hs
  split at hs
  · rename_i l k
    split at hs
    · rename_i v1 σ' s e
      simp only [Option.some.injEq, Prod.mk.injEq, Bool.and_eq_true, decide_eq_true_eq] at hs
      obtain ⟨⟨rfl, h1, h2⟩, rfl, rfl, rfl, rfl, rfl⟩ := hs
      obtain ⟨a1, a2, a3, a4, a5, a6⟩ := findR_ok e
      obtain ⟨y, hy⟩ := hf s k
      refine ⟨h s k h1 h2, ⟨_, ⟨_, _, rfl, .inl ⟨by simp [ren, a6], by simp [lvB]; omega⟩, _, _, rfl, .inl ⟨rfl, rfl⟩, rfl⟩, fun _ _ h => h⟩, a1, a2, a3, a4, a5, by have := layR_len3 (f s k).2; omega, by rw [hy]; rfl, layR_ok _⟩
    · cases hs
  · cases hs
theorem osB_ok {g : FuncId} {f : DS → List Int → AV × DS} (hf : ∀ s b, ∃ x, (f s b).1 = .v x) (h : ∀ s t b c, numOk s = true → b.length ≤ 1000000000 → Word Try.prog (plOf pls) g [.ptr 0 0 7 0, .imn t .u8 b c] (layR s) (ObQ 1 (f s b).1 (layR (f s b).2))) : ObjOk Try.prog (plOf pls) g 1 (osB f) := by
  intro args bl σ args0 bl0 r1 bl1 hs
  unfold osB at hs
  split at hs
  · rename_i l x
    split at hs
    · rename_i v1 σ' s e
      split at hs
      · rename_i v2 x' e2
        split at hs
        · rename_i t b c e3
          simp only [Option.some.injEq, Prod.mk.injEq, Bool.and_eq_true, decide_eq_true_eq] at hs
          obtain ⟨⟨rfl, rfl, h1, h2⟩, rfl, rfl, rfl, rfl, rfl⟩ := hs
          obtain ⟨a1, a2, a3, a4, a5, a6⟩ := findR_ok e
          obtain ⟨y, hy⟩ := hf s b
          refine ⟨h s t b c h1 h2, ⟨[.ptr 0 0 7 0, x'], ⟨_, _, rfl, .inl ⟨by simp [ren, a6], by simp [lvB]; omega⟩, _, _, rfl, .inr e2, rfl⟩, fun β vs hd => ?_⟩, a1, a2, a3, a4, a5, by have := layR_len3 (f s b).2; omega, by rw [hy]; rfl, layR_ok _⟩
          simp only [DenL] at hd ⊢
          obtain ⟨y0, zs, e4, h4, y1, zs1, e5, h5, h6⟩ := hd
          exact ⟨y0, zs, e4, h4, y1, zs1, e5, by have := nilN_den .u8 h5; rwa [e3] at this, h6⟩
        · cases hs
      · cases hs
    · cases hs
  · cases hs
theorem read_sz (s : DS) : lvB (layR s ++ rdX s).length false (rdW s) = true ∧ okBls (layR s ++ rdX s).length (layR s ++ rdX s) = true := by
  obtain ⟨l, f, x, xf, room, n, u, out⟩ := s
  cases out <;> exact ⟨rfl, rfl⟩
/-- The document's disk ahead of a table. -/
def kRk (K : KT) : KT := ktO 41 1 (osB mApp) (ktO 43 1 (osB mNext) (ktO 42 1 (osK mSync) (ktO 44 1 (osK mSwitch) (ktO 48 1 (osK mWipe) (ktO 45 1 (osI mRoom) (ktO 46 1 (osI mFuse) (ktO 47 1 (osI mCrash) (ktW 51 (readK (osR rdW rdX)) (ktW 27 (conK sNewR) K)))))))))
theorem kRk_ok {K : KT} (hK : KOk Try.prog (plOf pls) K) : KOk Try.prog (plOf pls) (kRk K) :=
  ktO_ok plsOk (ktO_ok plsOk (ktO_ok plsOk (ktO_ok plsOk (ktO_ok plsOk (ktO_ok plsOk (ktO_ok plsOk (ktO_ok plsOk (ktW_ok (ktW_ok hK (specW_ok plsOk new_ok))
    (readK_ok plsOk ⟨_, fi51⟩ (osR_ok (fun s h1 => read_word s h1) read_sz)))
    ⟨_, fi47⟩ (osI_ok (fun _ _ => ⟨_, rfl⟩) fun s k h1 h2 => crash_word s k h1 h2))
    ⟨_, fi46⟩ (osI_ok (fun _ _ => ⟨_, rfl⟩) fun s k h1 h2 => fuse_word s k h1))
    ⟨_, fi45⟩ (osI_ok (fun _ _ => ⟨_, rfl⟩) fun s k h1 h2 => room_word s k h1))
    ⟨_, fi48⟩ (osK_ok (fun _ => ⟨_, rfl⟩) fun s h1 => wipe_word s h1))
    ⟨_, fi44⟩ (osK_ok (fun _ => ⟨_, rfl⟩) fun s h1 => switch_word s h1))
    ⟨_, fi42⟩ (osK_ok (fun _ => ⟨_, rfl⟩) fun s h1 => sync_word s h1))
    ⟨_, fi43⟩ (osB_ok (fun _ _ => ⟨_, rfl⟩) fun s t b c h1 h2 => next_word s t b c h1 h2))
    ⟨_, fi41⟩ (osB_ok (fun _ _ => ⟨_, rfl⟩) fun s t b c h1 h2 => app_word s t b c h1 h2)
end RW
end Go.Proofs.Ytmdepmhamefheaa
