/- DiskFirm: a round behind its act. -/
import Derived.Test.YtmdepmhamefheaaDF1
set_option linter.unusedSimpArgs false
set_option linter.unusedVariables false
-- FUNCTIONS 5
namespace Go.Proofs.Ytmdepmhamefheaa
open Go Go.SY
namespace DF
open DW
set_option maxRecDepth 100000 in
theorem known_run : runX Try.prog (fun _ => none) pls pts [] 8000 4 [] = true := by kernel_rfl
def kF0 : KT := ktOf [(4, specT), (13, KB.sPick), (23, sLng), (20, KB.sSaB)]
theorem kF0_ok : KOk Try.prog (plOf pls) kF0 := ktOf_ok plsOk fun x hx => by
  simp only [List.mem_cons, List.not_mem_nil, or_false] at hx
  rcases hx with rfl | rfl | rfl | rfl
  · exact spec_true plsOk noK known_run
  · exact KB.pick_ok
  · exact long_ok
  · exact KB.sameB_ok
def kF : KT := ktO 25 1 osAct (kDk kF0)
theorem kF_ok : KOk Try.prog (plOf pls) kF := ktO_ok plsOk (kDk_ok kF0_ok) ⟨_, fi25⟩ osAct_ok
def tmF (rs : List (List AV)) (c : Option Nat) (n i : Nat) (firm : Int) : TM := [(10, .v (.int .i64 i)), (9, .v (.int .i64 firm)), (8, .sl 0 0 1 n none), (6, .ptr 1 0 9 0), (5, .v (.bool true)), (1, .imr false 3 rs c)]
theorem tmF_lv {rs : List (List AV)} (hf : FlatR rs) (c : Option Nat) (n i : Nat) (firm : Int) (N : Nat) : lvT (N + 2) true (tmF rs c n i firm) = true := by
  simp [tmF, lvT, lvB, tB, hf.lv]
def fuQ (q : Nat) : Option Int → AV
  | none => .v (.pointer none)
  | some _ => .ptr q 0 1 0
def layF (s : DS) : Bls := some (.num .u8 s.l) :: some (.lit [.sl 2 0 1 s.l.length none, .v (.int .i64 s.f), .sl 3 0 1 s.x.length none, .v (.int .i64 s.xf), .v (.int .i64 s.room), .v (.int .i64 s.n), fuQ 4 s.u, .v (.bool s.out), .v (.bool true)]) :: some (.num .u8 s.l) :: some (.num .u8 s.x) :: fuL s.u
def tmB (rs : List (List AV)) (c : Option Nat) (n i : Nat) (firm : Int) : TM := [(12, .v (.int .i64 n)), (11, .ptr 1 0 3 0), (10, .v (.int .i64 i)), (9, .v (.int .i64 firm)), (8, .sl 0 0 1 n none), (6, .ptr 2 0 9 0), (5, .v (.bool true)), (1, .imr false 3 rs c)]
theorem tmB_lv {rs : List (List AV)} (hf : FlatR rs) (c : Option Nat) (n i : Nat) (firm : Int) (N : Nat) : lvT (N + 3) true (tmB rs c n i firm) = true := by
  simp [tmB, lvT, lvB, tB, hf.lv]
def layB (lg : List Int) (k n : Int) (b : List Int) (cb : Option Nat) (s : DS) : Bls := some (.num .u8 lg) :: some (.lit [.v (.int .i64 k), .v (.int .i64 n), .imn false .u8 b cb]) :: some (.lit [.sl 3 0 1 s.l.length none, .v (.int .i64 s.f), .sl 4 0 1 s.x.length none, .v (.int .i64 s.xf), .v (.int .i64 s.room), .v (.int .i64 s.n), fuQ 5 s.u, .v (.bool s.out), .v (.bool true)]) :: some (.num .u8 s.l) :: some (.num .u8 s.x) :: fuL s.u
theorem dec_self (xs : List Int) : decide (xs = xs) = true := decide_eq_true rfl
set_option maxRecDepth 100000 in
set_option maxHeartbeats 8000000 in
theorem rA0g0t (C : Ctx) (hC : C.β.b = []) (rs : List (List AV)) (hf : FlatR rs) (c : Option Nat) (i : Nat) (firm : Int) (lg : List Int) (n : Int) (b : List Int) (cb : Option Nat) (f : Int) (x : List Int) (xf room m : Int) (hb0 : 0 < b.length) (hb2 : b.length ≤ 200) 
    (hnum : numOk ⟨lg ++ b, f, x, xf, room, m, none, true⟩ = true) (hi : i ≤ 1000) (hlg : lg.length ≤ 20000) (hf0 : firm ≤ f) (hf2 : firm ≤ lg.length) (hf1 : f ≤ (lg ++ b).length)
    (hnx : Rch Try.prog (plOf pls) C ⟨[⟨5, 146, tmF rs c (lg ++ b).length (i + 1) f, [.lp c5_30, .blk 0, .code c5_26], none, [], []⟩], layF ⟨lg ++ b, f, x, xf, room, m, none, true⟩⟩ KB.IsT) :
    Rch Try.prog (plOf pls) C ⟨[⟨5, 146, tmB rs c lg.length i firm, [.code c5_49, .blk 1, .code c5_37, .lp c5_30, .blk 0, .code c5_26], none, [], []⟩], layB lg 0 n b cb ⟨lg ++ b, f, x, xf, room, m, none, true⟩⟩ KB.IsT := by
  have hg : (lg.length : Int) < (lg ++ b).length := by rw [List.length_append]; omega
  have hg1 : ¬ ((lg ++ b).length : Int) < firm := by rw [List.length_append]; omega
  have hg2 : ¬ f < firm := by omega
  have hg3 : ¬ ((lg ++ b).length : Int) < f := by omega
  have hll : (lg ++ b).length = lg.length + b.length := List.length_append
  simp only [tmB, layB, fuQ, fuL]
  refine ExQ_ok [] 4000 plsOk kF_ok ?_
  (try rw [exh]); simp (maxSteps := 4000000) only [kF, kF0, kDk, ktO, ktW, objK, objB, updT, mapB, rhoN, mrk, readK, osK, osRead, findD, mLen, mFirm, mUp, rdV, rdL, layD, fuP, fuL, hnum, List.nodup_cons, List.mem_cons, List.not_mem_nil, List.take_succ_cons, List.take_zero, KB.bff, take_self, not_false_eq_true, List.drop_zero, hg, hg1, hg2, hg3, Int.lt_irrefl, stops, inK, stepF, frsF, frF, itemF, codeF, condF, opsF, opsW, opF, callO, wtS, gdst, gdl, sopF, pv, evq, bltF, callF, calleeS, quiet, p_move, p_assign, p_pick, p_binOp, p_fieldAddr, p_extract, p_len, l_load, roomN, appNN, srcN, dstN, e_append, SY.get, SY.put, SY.ev, SY.mk, SY.nth, SY.lvl, SY.setl, dr, at1, rdC, rdCt, ar, bopInt, bopEq, isBl, bop, pickAV, numsAt, killO, srcN, dstN, killL, AV.scal, exq_go, exq_t, exq_f, ↓reduceIte, Nat.reduceLT, Nat.reduceEqDiff, Nat.reduceAdd, Nat.reduceSub, Bool.and_true, Bool.true_and, Bool.not_false, Bool.not_true, reduceCtorEq, true_and, List.map_cons, List.map_nil, Bool.and_self, List.drop_succ_cons, List.drop_zero, List.length_cons, List.length_nil, List.cons_append, List.nil_append, List.append_nil, Nat.zero_add, Nat.add_zero, Nat.zero_mul, Nat.mul_one, Int.reduceEq, Int.reduceLE, decide_true, decide_false, ktOf, alive, lvB, ren, renL, renCt, not_false_eq_true, ti3, ti4, ti5, ti22, ti25, ti42, regAt, body5, Try.f5, ↓exq_cd cd_c5_49, ↓exq_cd cd_c5_50, ↓exq_cd cd_c5_52, ↓exq_cd cd_c5_53, ↓exq_cd cd_c5_54, ↓exq_cd cd_c5_51, ↓exq_cd cd_c5_56, ↓exq_cd cd_c5_58, ↓exq_cd cd_c5_59, ↓exq_cd cd_c5_57, ↓exq_cd cd_c5_63, ↓exq_cd cd_c5_65, ↓exq_cd cd_c5_66, ↓exq_cd cd_c5_64, ↓exq_cd cd_c5_76, ↓exq_cd cd_c5_77, ↓exq_cd cd_c5_78, ↓exq_cd cd_c5_79, ↓exq_cd cd_c5_80, ↓exq_cd cd_c5_81, ↓exq_cd cd_c5_37, r5_52, r5_54, r5_58, r5_65, r5_76, r5_78, r5_80, r5_37]
  repeat (refine And.intro (a := (_ = true)) (by first | (simp; done) | (simp; omega)) ?_)
  refine Rch.fit1 hC [5, 2, 6, 7] (tm' := tmF rs c (lg ++ b).length (i + 1) f) (bl' := layF ⟨lg ++ b, f, x, xf, room, m, none, true⟩) rfl (by decide) rfl ⟨rfl, rfl, rfl, rfl, rfl, congrArg (fun x => AV.imr false 3 x c) (hf.ren _).symm, trivial⟩ (tmF_lv hf ..) ⟨⟨rfl, rfl⟩, ⟨rfl, rfl⟩, ⟨rfl, rfl⟩, ⟨rfl, rfl⟩, trivial⟩ ?_
  exact hnx
set_option maxRecDepth 100000 in
set_option maxHeartbeats 8000000 in
theorem rA0e0t (C : Ctx) (hC : C.β.b = []) (rs : List (List AV)) (hf : FlatR rs) (c : Option Nat) (i : Nat) (firm : Int) (lg : List Int) (n : Int) (b : List Int) (cb : Option Nat) (f : Int) (x : List Int) (xf room m : Int) 
    (hnum : numOk ⟨lg, f, x, xf, room, m, none, true⟩ = true) (hi : i ≤ 1000) (hlg : lg.length ≤ 20000) (hf0 : firm ≤ f) (hf2 : firm ≤ lg.length) (hf1 : f ≤ (lg).length)
    (hnx : Rch Try.prog (plOf pls) C ⟨[⟨5, 146, tmF rs c (lg).length (i + 1) f, [.lp c5_30, .blk 0, .code c5_26], none, [], []⟩], layF ⟨lg, f, x, xf, room, m, none, true⟩⟩ KB.IsT) :
    Rch Try.prog (plOf pls) C ⟨[⟨5, 146, tmB rs c lg.length i firm, [.code c5_49, .blk 1, .code c5_37, .lp c5_30, .blk 0, .code c5_26], none, [], []⟩], layB lg 0 n b cb ⟨lg, f, x, xf, room, m, none, true⟩⟩ KB.IsT := by
  have hg1 : ¬ (lg.length : Int) < firm := by omega
  have hg2 : ¬ f < firm := by omega
  have hg3 : ¬ (lg.length : Int) < f := by omega
  simp only [tmB, layB, fuQ, fuL]
  refine ExQ_ok [] 4000 plsOk kF_ok ?_
  (try rw [exh]); simp (maxSteps := 4000000) only [kF, kF0, kDk, ktO, ktW, objK, objB, updT, mapB, rhoN, mrk, readK, osK, osRead, findD, mLen, mFirm, mUp, rdV, rdL, layD, fuP, fuL, hnum, List.nodup_cons, List.mem_cons, List.not_mem_nil, List.take_succ_cons, List.take_zero, KB.bff, not_false_eq_true, List.drop_zero, hg1, hg2, hg3, Int.lt_irrefl, stops, inK, stepF, frsF, frF, itemF, codeF, condF, opsF, opsW, opF, callO, wtS, gdst, gdl, sopF, pv, bltF, callF, calleeS, p_move, p_assign, p_pick, p_binOp, p_fieldAddr, p_extract, p_len, l_load, SY.get, SY.put, SY.ev, SY.mk, SY.nth, SY.lvl, SY.setl, dr, at1, rdC, rdCt, ar, bopInt, bopEq, isBl, bop, pickAV, killL, AV.scal, exq_go, exq_t, exq_f, ↓reduceIte, Nat.reduceLT, Nat.reduceEqDiff, Nat.reduceAdd, Nat.reduceSub, Bool.and_true, Bool.true_and, Bool.not_false, Bool.not_true, reduceCtorEq, true_and, List.map_cons, List.map_nil, Bool.and_self, List.drop_succ_cons, List.drop_zero, List.length_cons, List.length_nil, List.cons_append, List.nil_append, List.append_nil, Nat.zero_add, Nat.add_zero, Nat.zero_mul, Int.reduceEq, Int.reduceLE, decide_true, decide_false, ktOf, alive, lvB, ren, renL, renCt, not_false_eq_true, ti3, ti4, ti22, ti25, ti42, regAt, body5, Try.f5, ↓exq_cd cd_c5_49, ↓exq_cd cd_c5_50, ↓exq_cd cd_c5_52, ↓exq_cd cd_c5_53, ↓exq_cd cd_c5_51, ↓exq_cd cd_c5_56, ↓exq_cd cd_c5_58, ↓exq_cd cd_c5_59, ↓exq_cd cd_c5_57, ↓exq_cd cd_c5_63, ↓exq_cd cd_c5_65, ↓exq_cd cd_c5_66, ↓exq_cd cd_c5_64, ↓exq_cd cd_c5_76, ↓exq_cd cd_c5_77, ↓exq_cd cd_c5_78, ↓exq_cd cd_c5_79, ↓exq_cd cd_c5_80, ↓exq_cd cd_c5_81, ↓exq_cd cd_c5_37, r5_52, r5_58, r5_65, r5_76, r5_78, r5_80, r5_37]
  repeat (refine And.intro (a := (_ = true)) (by first | (simp; done) | (simp; omega)) ?_)
  refine Rch.fit1 hC [0, 2, 5, 6] (tm' := tmF rs c (lg).length (i + 1) f) (bl' := layF ⟨lg, f, x, xf, room, m, none, true⟩) rfl (by decide) rfl ⟨rfl, rfl, rfl, rfl, rfl, congrArg (fun x => AV.imr false 3 x c) (hf.ren _).symm, trivial⟩ (tmF_lv hf ..) ⟨⟨rfl, rfl⟩, ⟨rfl, rfl⟩, ⟨rfl, rfl⟩, ⟨rfl, rfl⟩, trivial⟩ ?_
  exact hnx
set_option maxRecDepth 100000 in
set_option maxHeartbeats 8000000 in
theorem rA1g0t (C : Ctx) (hC : C.β.b = []) (rs : List (List AV)) (hf : FlatR rs) (c : Option Nat) (i : Nat) (firm : Int) (lg : List Int) (n : Int) (b : List Int) (cb : Option Nat) (f : Int) (x : List Int) (xf room m : Int) (hb0 : 0 < b.length) (hb2 : b.length ≤ 200) 
    (hnum : numOk ⟨lg ++ b, f, x, xf, room, m, none, true⟩ = true) (hi : i ≤ 1000) (hlg : lg.length ≤ 20000) (hf0 : firm ≤ f) (hf2 : firm ≤ lg.length) (hf1 : f ≤ (lg ++ b).length)
    (hnx : Rch Try.prog (plOf pls) C ⟨[⟨5, 146, tmF rs c (lg ++ b).length (i + 1) f, [.lp c5_30, .blk 0, .code c5_26], none, [], []⟩], layF ⟨lg ++ b, f, x, xf, room, m, none, true⟩⟩ KB.IsT) :
    Rch Try.prog (plOf pls) C ⟨[⟨5, 146, tmB rs c lg.length i firm, [.code c5_49, .blk 1, .code c5_37, .lp c5_30, .blk 0, .code c5_26], none, [], []⟩], layB lg 1 n b cb ⟨lg ++ b, f, x, xf, room, m, none, true⟩⟩ KB.IsT := by
  have hg : (lg.length : Int) < (lg ++ b).length := by rw [List.length_append]; omega
  have hg1 : ¬ ((lg ++ b).length : Int) < firm := by rw [List.length_append]; omega
  have hg2 : ¬ f < firm := by omega
  have hg3 : ¬ ((lg ++ b).length : Int) < f := by omega
  have hll : (lg ++ b).length = lg.length + b.length := List.length_append
  simp only [tmB, layB, fuQ, fuL]
  refine ExQ_ok [] 4000 plsOk kF_ok ?_
  (try rw [exh]); simp (maxSteps := 4000000) only [kF, kF0, kDk, ktO, ktW, objK, objB, updT, mapB, rhoN, mrk, readK, osK, osRead, findD, mLen, mFirm, mUp, rdV, rdL, layD, fuP, fuL, hnum, List.nodup_cons, List.mem_cons, List.not_mem_nil, List.take_succ_cons, List.take_zero, KB.bff, take_self, not_false_eq_true, List.drop_zero, hg, hg1, hg2, hg3, Int.lt_irrefl, stops, inK, stepF, frsF, frF, itemF, codeF, condF, opsF, opsW, opF, callO, wtS, gdst, gdl, sopF, pv, evq, bltF, callF, calleeS, quiet, p_move, p_assign, p_pick, p_binOp, p_fieldAddr, p_extract, p_len, l_load, roomN, appNN, srcN, dstN, e_append, SY.get, SY.put, SY.ev, SY.mk, SY.nth, SY.lvl, SY.setl, dr, at1, rdC, rdCt, ar, bopInt, bopEq, isBl, bop, pickAV, numsAt, killO, srcN, dstN, killL, AV.scal, exq_go, exq_t, exq_f, ↓reduceIte, Nat.reduceLT, Nat.reduceEqDiff, Nat.reduceAdd, Nat.reduceSub, Bool.and_true, Bool.true_and, Bool.not_false, Bool.not_true, reduceCtorEq, true_and, List.map_cons, List.map_nil, Bool.and_self, List.drop_succ_cons, List.drop_zero, List.length_cons, List.length_nil, List.cons_append, List.nil_append, List.append_nil, Nat.zero_add, Nat.add_zero, Nat.zero_mul, Nat.mul_one, Int.reduceEq, Int.reduceLE, decide_true, decide_false, ktOf, alive, lvB, ren, renL, renCt, not_false_eq_true, ti3, ti4, ti5, ti22, ti25, ti42, regAt, body5, Try.f5, ↓exq_cd cd_c5_49, ↓exq_cd cd_c5_50, ↓exq_cd cd_c5_52, ↓exq_cd cd_c5_53, ↓exq_cd cd_c5_54, ↓exq_cd cd_c5_51, ↓exq_cd cd_c5_56, ↓exq_cd cd_c5_58, ↓exq_cd cd_c5_59, ↓exq_cd cd_c5_57, ↓exq_cd cd_c5_63, ↓exq_cd cd_c5_65, ↓exq_cd cd_c5_66, ↓exq_cd cd_c5_64, ↓exq_cd cd_c5_76, ↓exq_cd cd_c5_77, ↓exq_cd cd_c5_78, ↓exq_cd cd_c5_79, ↓exq_cd cd_c5_80, ↓exq_cd cd_c5_81, ↓exq_cd cd_c5_37, r5_52, r5_54, r5_58, r5_65, r5_76, r5_78, r5_80, r5_37]
  repeat (refine And.intro (a := (_ = true)) (by first | (simp; done) | (simp; omega)) ?_)
  refine Rch.fit1 hC [5, 2, 6, 7] (tm' := tmF rs c (lg ++ b).length (i + 1) f) (bl' := layF ⟨lg ++ b, f, x, xf, room, m, none, true⟩) rfl (by decide) rfl ⟨rfl, rfl, rfl, rfl, rfl, congrArg (fun x => AV.imr false 3 x c) (hf.ren _).symm, trivial⟩ (tmF_lv hf ..) ⟨⟨rfl, rfl⟩, ⟨rfl, rfl⟩, ⟨rfl, rfl⟩, ⟨rfl, rfl⟩, trivial⟩ ?_
  exact hnx
set_option maxRecDepth 100000 in
set_option maxHeartbeats 8000000 in
theorem rA1e0t (C : Ctx) (hC : C.β.b = []) (rs : List (List AV)) (hf : FlatR rs) (c : Option Nat) (i : Nat) (firm : Int) (lg : List Int) (n : Int) (b : List Int) (cb : Option Nat) (f : Int) (x : List Int) (xf room m : Int) 
    (hnum : numOk ⟨lg, f, x, xf, room, m, none, true⟩ = true) (hi : i ≤ 1000) (hlg : lg.length ≤ 20000) (hf0 : firm ≤ f) (hf2 : firm ≤ lg.length) (hf1 : f ≤ (lg).length)
    (hnx : Rch Try.prog (plOf pls) C ⟨[⟨5, 146, tmF rs c (lg).length (i + 1) f, [.lp c5_30, .blk 0, .code c5_26], none, [], []⟩], layF ⟨lg, f, x, xf, room, m, none, true⟩⟩ KB.IsT) :
    Rch Try.prog (plOf pls) C ⟨[⟨5, 146, tmB rs c lg.length i firm, [.code c5_49, .blk 1, .code c5_37, .lp c5_30, .blk 0, .code c5_26], none, [], []⟩], layB lg 1 n b cb ⟨lg, f, x, xf, room, m, none, true⟩⟩ KB.IsT := by
  have hg1 : ¬ (lg.length : Int) < firm := by omega
  have hg2 : ¬ f < firm := by omega
  have hg3 : ¬ (lg.length : Int) < f := by omega
  simp only [tmB, layB, fuQ, fuL]
  refine ExQ_ok [] 4000 plsOk kF_ok ?_
  (try rw [exh]); simp (maxSteps := 4000000) only [kF, kF0, kDk, ktO, ktW, objK, objB, updT, mapB, rhoN, mrk, readK, osK, osRead, findD, mLen, mFirm, mUp, rdV, rdL, layD, fuP, fuL, hnum, List.nodup_cons, List.mem_cons, List.not_mem_nil, List.take_succ_cons, List.take_zero, KB.bff, not_false_eq_true, List.drop_zero, hg1, hg2, hg3, Int.lt_irrefl, stops, inK, stepF, frsF, frF, itemF, codeF, condF, opsF, opsW, opF, callO, wtS, gdst, gdl, sopF, pv, bltF, callF, calleeS, p_move, p_assign, p_pick, p_binOp, p_fieldAddr, p_extract, p_len, l_load, SY.get, SY.put, SY.ev, SY.mk, SY.nth, SY.lvl, SY.setl, dr, at1, rdC, rdCt, ar, bopInt, bopEq, isBl, bop, pickAV, killL, AV.scal, exq_go, exq_t, exq_f, ↓reduceIte, Nat.reduceLT, Nat.reduceEqDiff, Nat.reduceAdd, Nat.reduceSub, Bool.and_true, Bool.true_and, Bool.not_false, Bool.not_true, reduceCtorEq, true_and, List.map_cons, List.map_nil, Bool.and_self, List.drop_succ_cons, List.drop_zero, List.length_cons, List.length_nil, List.cons_append, List.nil_append, List.append_nil, Nat.zero_add, Nat.add_zero, Nat.zero_mul, Int.reduceEq, Int.reduceLE, decide_true, decide_false, ktOf, alive, lvB, ren, renL, renCt, not_false_eq_true, ti3, ti4, ti22, ti25, ti42, regAt, body5, Try.f5, ↓exq_cd cd_c5_49, ↓exq_cd cd_c5_50, ↓exq_cd cd_c5_52, ↓exq_cd cd_c5_53, ↓exq_cd cd_c5_51, ↓exq_cd cd_c5_56, ↓exq_cd cd_c5_58, ↓exq_cd cd_c5_59, ↓exq_cd cd_c5_57, ↓exq_cd cd_c5_63, ↓exq_cd cd_c5_65, ↓exq_cd cd_c5_66, ↓exq_cd cd_c5_64, ↓exq_cd cd_c5_76, ↓exq_cd cd_c5_77, ↓exq_cd cd_c5_78, ↓exq_cd cd_c5_79, ↓exq_cd cd_c5_80, ↓exq_cd cd_c5_81, ↓exq_cd cd_c5_37, r5_52, r5_58, r5_65, r5_76, r5_78, r5_80, r5_37]
  repeat (refine And.intro (a := (_ = true)) (by first | (simp; done) | (simp; omega)) ?_)
  refine Rch.fit1 hC [0, 2, 5, 6] (tm' := tmF rs c (lg).length (i + 1) f) (bl' := layF ⟨lg, f, x, xf, room, m, none, true⟩) rfl (by decide) rfl ⟨rfl, rfl, rfl, rfl, rfl, congrArg (fun x => AV.imr false 3 x c) (hf.ren _).symm, trivial⟩ (tmF_lv hf ..) ⟨⟨rfl, rfl⟩, ⟨rfl, rfl⟩, ⟨rfl, rfl⟩, ⟨rfl, rfl⟩, trivial⟩ ?_
  exact hnx
set_option maxRecDepth 100000 in
set_option maxHeartbeats 8000000 in
theorem rC0t (C : Ctx) (hC : C.β.b = []) (rs : List (List AV)) (hf : FlatR rs) (c : Option Nat) (i : Nat) (firm : Int) (lg : List Int) (n : Int) (b : List Int) (cb : Option Nat) (f : Int) (x : List Int) (xf room m : Int) (k : Int) (h0 : ¬ k = 0) (h1 : ¬ k = 1) (h7 : ¬ k = 7) 
    (hnum : numOk ⟨lg, f, x, xf, room, m, none, true⟩ = true) (hi : i ≤ 1000) (hlg : lg.length ≤ 20000) (hf0 : firm ≤ f) (hf2 : firm ≤ lg.length) (hf1 : f ≤ (lg).length)
    (hnx : Rch Try.prog (plOf pls) C ⟨[⟨5, 146, tmF rs c (lg).length (i + 1) f, [.lp c5_30, .blk 0, .code c5_26], none, [], []⟩], layF ⟨lg, f, x, xf, room, m, none, true⟩⟩ KB.IsT) :
    Rch Try.prog (plOf pls) C ⟨[⟨5, 146, tmB rs c lg.length i firm, [.code c5_49, .blk 1, .code c5_37, .lp c5_30, .blk 0, .code c5_26], none, [], []⟩], layB lg k n b cb ⟨lg, f, x, xf, room, m, none, true⟩⟩ KB.IsT := by
  have hg1 : ¬ (lg.length : Int) < firm := by omega
  have hg2 : ¬ f < firm := by omega
  have hg3 : ¬ (lg.length : Int) < f := by omega
  simp only [tmB, layB, fuQ, fuL]
  refine ExQ_ok [] 4000 plsOk kF_ok ?_
  (try rw [exh]); simp (maxSteps := 4000000) only [kF, kF0, kDk, ktO, ktW, objK, objB, updT, mapB, rhoN, mrk, readK, osK, osRead, findD, mLen, mFirm, mUp, rdV, rdL, layD, fuP, fuL, hnum, List.nodup_cons, List.mem_cons, List.not_mem_nil, List.take_succ_cons, List.take_zero, KB.bff, not_false_eq_true, List.drop_zero, hg1, hg2, hg3, h0, h1, h7, Int.lt_irrefl, stops, inK, stepF, frsF, frF, itemF, codeF, condF, opsF, opsW, opF, callO, wtS, gdst, gdl, sopF, pv, bltF, callF, calleeS, p_move, p_assign, p_pick, p_binOp, p_fieldAddr, p_extract, p_len, l_load, SY.get, SY.put, SY.ev, SY.mk, SY.nth, SY.lvl, SY.setl, dr, at1, rdC, rdCt, ar, bopInt, bopEq, isBl, bop, pickAV, killL, AV.scal, exq_go, exq_f, ↓reduceIte, Nat.reduceLT, Nat.reduceEqDiff, Nat.reduceAdd, Nat.reduceSub, Bool.and_true, Bool.true_and, Bool.not_false, Bool.not_true, reduceCtorEq, true_and, List.map_cons, List.map_nil, Bool.and_self, List.drop_succ_cons, List.drop_zero, List.length_cons, List.length_nil, List.cons_append, List.nil_append, List.append_nil, Nat.zero_add, Nat.add_zero, Nat.zero_mul, Int.reduceEq, Int.reduceLE, decide_true, decide_false, ktOf, alive, lvB, ren, renL, renCt, not_false_eq_true, ti3, ti4, ti22, ti25, ti42, regAt, body5, Try.f5, ↓exq_cd cd_c5_49, ↓exq_cd cd_c5_50, ↓exq_cd cd_c5_52, ↓exq_cd cd_c5_53, ↓exq_cd cd_c5_51, ↓exq_cd cd_c5_56, ↓exq_cd cd_c5_58, ↓exq_cd cd_c5_59, ↓exq_cd cd_c5_57, ↓exq_cd cd_c5_63, ↓exq_cd cd_c5_65, ↓exq_cd cd_c5_66, ↓exq_cd cd_c5_64, ↓exq_cd cd_c5_76, ↓exq_cd cd_c5_77, ↓exq_cd cd_c5_78, ↓exq_cd cd_c5_79, ↓exq_cd cd_c5_80, ↓exq_cd cd_c5_81, ↓exq_cd cd_c5_37, r5_52, r5_58, r5_65, r5_76, r5_78, r5_80, r5_37]
  repeat (refine And.intro (a := (_ = true)) (by first | (simp; done) | (simp; omega)) ?_)
  refine Rch.fit1 hC [0, 2, 5, 6] (tm' := tmF rs c (lg).length (i + 1) f) (bl' := layF ⟨lg, f, x, xf, room, m, none, true⟩) rfl (by decide) rfl ⟨rfl, rfl, rfl, rfl, rfl, congrArg (fun x => AV.imr false 3 x c) (hf.ren _).symm, trivial⟩ (tmF_lv hf ..) ⟨⟨rfl, rfl⟩, ⟨rfl, rfl⟩, ⟨rfl, rfl⟩, ⟨rfl, rfl⟩, trivial⟩ ?_
  exact hnx
set_option maxRecDepth 100000 in
set_option maxHeartbeats 8000000 in
theorem rD0t (C : Ctx) (hC : C.β.b = []) (rs : List (List AV)) (hf : FlatR rs) (c : Option Nat) (i : Nat) (firm : Int) (lg : List Int) (n : Int) (b : List Int) (cb : Option Nat) (f : Int) (x : List Int) (xf room m : Int) (hn : n < 0) 
    (hnum : numOk ⟨lg, f, x, xf, room, m, none, true⟩ = true) (hi : i ≤ 1000) (hlg : lg.length ≤ 20000) (hf0 : firm ≤ f) (hf2 : firm ≤ lg.length) (hf1 : f ≤ (lg).length)
    (hnx : Rch Try.prog (plOf pls) C ⟨[⟨5, 146, tmF rs c (lg).length (i + 1) f, [.lp c5_30, .blk 0, .code c5_26], none, [], []⟩], layF ⟨lg, f, x, xf, room, m, none, true⟩⟩ KB.IsT) :
    Rch Try.prog (plOf pls) C ⟨[⟨5, 146, tmB rs c lg.length i firm, [.code c5_49, .blk 1, .code c5_37, .lp c5_30, .blk 0, .code c5_26], none, [], []⟩], layB lg 7 n b cb ⟨lg, f, x, xf, room, m, none, true⟩⟩ KB.IsT := by
  have hg1 : ¬ (lg.length : Int) < firm := by omega
  have hg2 : ¬ f < firm := by omega
  have hg3 : ¬ (lg.length : Int) < f := by omega
  have hn2 : ¬ 0 ≤ n := by omega
  simp only [tmB, layB, fuQ, fuL]
  refine ExQ_ok [] 4000 plsOk kF_ok ?_
  (try rw [exh]); simp (maxSteps := 4000000) only [kF, kF0, kDk, ktO, ktW, objK, objB, updT, mapB, rhoN, mrk, readK, osK, osRead, findD, mLen, mFirm, mUp, rdV, rdL, layD, fuP, fuL, hnum, List.nodup_cons, List.mem_cons, List.not_mem_nil, List.take_succ_cons, List.take_zero, KB.bff, not_false_eq_true, List.drop_zero, hg1, hg2, hg3, hn2, Int.lt_irrefl, stops, inK, stepF, frsF, frF, itemF, codeF, condF, opsF, opsW, opF, callO, wtS, gdst, gdl, sopF, pv, bltF, callF, calleeS, p_move, p_assign, p_pick, p_binOp, p_fieldAddr, p_extract, p_len, l_load, SY.get, SY.put, SY.ev, SY.mk, SY.nth, SY.lvl, SY.setl, dr, at1, rdC, rdCt, ar, bopInt, bopEq, isBl, bop, pickAV, killL, AV.scal, exq_go, exq_t, exq_f, ↓reduceIte, Nat.reduceLT, Nat.reduceEqDiff, Nat.reduceAdd, Nat.reduceSub, Bool.and_true, Bool.true_and, Bool.not_false, Bool.not_true, reduceCtorEq, true_and, List.map_cons, List.map_nil, Bool.and_self, List.drop_succ_cons, List.drop_zero, List.length_cons, List.length_nil, List.cons_append, List.nil_append, List.append_nil, Nat.zero_add, Nat.add_zero, Nat.zero_mul, Int.reduceEq, Int.reduceLE, decide_true, decide_false, ktOf, alive, lvB, ren, renL, renCt, not_false_eq_true, ti3, ti4, ti22, ti25, ti42, regAt, body5, Try.f5, ↓exq_cd cd_c5_49, ↓exq_cd cd_c5_50, ↓exq_cd cd_c5_52, ↓exq_cd cd_c5_53, ↓exq_cd cd_c5_51, ↓exq_cd cd_c5_56, ↓exq_cd cd_c5_58, ↓exq_cd cd_c5_59, ↓exq_cd cd_c5_57, ↓exq_cd cd_c5_63, ↓exq_cd cd_c5_65, ↓exq_cd cd_c5_66, ↓exq_cd cd_c5_64, ↓exq_cd cd_c5_76, ↓exq_cd cd_c5_77, ↓exq_cd cd_c5_78, ↓exq_cd cd_c5_79, ↓exq_cd cd_c5_80, ↓exq_cd cd_c5_81, ↓exq_cd cd_c5_37, r5_52, r5_58, r5_65, r5_76, r5_78, r5_80, r5_37]
  repeat (refine And.intro (a := (_ = true)) (by first | (simp; done) | (simp; omega)) ?_)
  refine Rch.fit1 hC [0, 2, 5, 6] (tm' := tmF rs c (lg).length (i + 1) f) (bl' := layF ⟨lg, f, x, xf, room, m, none, true⟩) rfl (by decide) rfl ⟨rfl, rfl, rfl, rfl, rfl, congrArg (fun x => AV.imr false 3 x c) (hf.ren _).symm, trivial⟩ (tmF_lv hf ..) ⟨⟨rfl, rfl⟩, ⟨rfl, rfl⟩, ⟨rfl, rfl⟩, ⟨rfl, rfl⟩, trivial⟩ ?_
  exact hnx
set_option maxRecDepth 100000 in
set_option maxHeartbeats 8000000 in
theorem rA0g0f (C : Ctx) (hC : C.β.b = []) (rs : List (List AV)) (hf : FlatR rs) (c : Option Nat) (i : Nat) (firm : Int) (lg : List Int) (n : Int) (b : List Int) (cb : Option Nat) (f : Int) (x : List Int) (xf room m : Int) (hb0 : 0 < b.length) (hb2 : b.length ≤ 200) 
    (hnum : numOk ⟨lg ++ b, f, x, xf, room, m, none, false⟩ = true) (hi : i ≤ 1000) (hlg : lg.length ≤ 20000) (hf0 : firm ≤ f) (hf2 : firm ≤ lg.length) (hf1 : f ≤ (lg ++ b).length)
    (hnx : Rch Try.prog (plOf pls) C ⟨[⟨5, 146, tmF rs c (lg ++ b).length (i + 1) f, [.lp c5_30, .blk 0, .code c5_26], none, [], []⟩], layF ⟨lg ++ b, f, x, xf, room, m, none, false⟩⟩ KB.IsT) :
    Rch Try.prog (plOf pls) C ⟨[⟨5, 146, tmB rs c lg.length i firm, [.code c5_49, .blk 1, .code c5_37, .lp c5_30, .blk 0, .code c5_26], none, [], []⟩], layB lg 0 n b cb ⟨lg ++ b, f, x, xf, room, m, none, false⟩⟩ KB.IsT := by
  have hg : (lg.length : Int) < (lg ++ b).length := by rw [List.length_append]; omega
  have hg1 : ¬ ((lg ++ b).length : Int) < firm := by rw [List.length_append]; omega
  have hg2 : ¬ f < firm := by omega
  have hg3 : ¬ ((lg ++ b).length : Int) < f := by omega
  have hll : (lg ++ b).length = lg.length + b.length := List.length_append
  simp only [tmB, layB, fuQ, fuL]
  refine ExQ_ok [] 4000 plsOk kF_ok ?_
  (try rw [exh]); simp (maxSteps := 4000000) only [kF, kF0, kDk, ktO, ktW, objK, objB, updT, mapB, rhoN, mrk, readK, osK, osRead, findD, mLen, mFirm, mUp, rdV, rdL, layD, fuP, fuL, KB.sSaB, KB.sSaB0, mapI, nilN, hnum, List.nodup_cons, List.mem_cons, List.not_mem_nil, List.take_succ_cons, List.take_zero, KB.btt, take_self, not_false_eq_true, List.drop_zero, hg, hg1, hg2, hg3, Int.lt_irrefl, stops, inK, stepF, frsF, frF, itemF, codeF, condF, opsF, opsW, opF, callO, wtS, gdst, gdl, sopF, pv, evq, bltF, callF, calleeS, quiet, p_move, p_assign, p_pick, p_binOp, p_unOp, p_fieldAddr, p_extract, p_len, l_load, roomN, appNN, srcN, dstN, e_append, SY.get, SY.put, SY.ev, SY.mk, SY.nth, SY.lvl, SY.setl, dr, at1, rdC, rdCt, ar, bopInt, bopEq, isBl, bop, pickAV, numsAt, killO, srcN, dstN, killL, AV.scal, exq_go, exq_t, exq_f, ↓reduceIte, Nat.reduceLT, Nat.reduceEqDiff, Nat.reduceAdd, Nat.reduceSub, Bool.and_true, Bool.true_and, Bool.not_false, Bool.not_true, reduceCtorEq, true_and, Bool.false_eq_true, List.map_cons, List.map_nil, Bool.and_self, List.drop_succ_cons, List.drop_zero, List.length_cons, List.length_nil, List.cons_append, List.nil_append, List.append_nil, Nat.zero_add, Nat.add_zero, Nat.zero_mul, Nat.mul_one, Int.reduceEq, Int.reduceLE, decide_true, decide_false, ktOf, conK, alive, lndL, lnd, lvB, okBls, shB, ren, renL, renCt, not_false_eq_true, ti3, ti4, ti5, ti22, ti25, ti42, regAt, body5, Try.f5, ↓exq_cd cd_c5_49, ↓exq_cd cd_c5_50, ↓exq_cd cd_c5_52, ↓exq_cd cd_c5_53, ↓exq_cd cd_c5_54, ↓exq_cd cd_c5_51, ↓exq_cd cd_c5_56, ↓exq_cd cd_c5_58, ↓exq_cd cd_c5_59, ↓exq_cd cd_c5_57, ↓exq_cd cd_c5_63, ↓exq_cd cd_c5_65, ↓exq_cd cd_c5_66, ↓exq_cd cd_c5_64, ↓exq_cd cd_c5_76, ↓exq_cd cd_c5_77, ↓exq_cd cd_c5_78, ↓exq_cd cd_c5_79, ↓exq_cd cd_c5_80, ↓exq_cd cd_c5_81, ↓exq_cd cd_c5_37, r5_52, r5_54, r5_58, r5_65, r5_76, r5_78, r5_80, r5_37]
  repeat (refine And.intro (a := (_ = true)) (by first | (simp; done) | (simp; omega)) ?_)
  refine Rch.fit1 hC [5, 2, 6, 7] (tm' := tmF rs c (lg ++ b).length (i + 1) f) (bl' := layF ⟨lg ++ b, f, x, xf, room, m, none, false⟩) rfl (by decide) rfl ⟨rfl, rfl, rfl, rfl, rfl, congrArg (fun x => AV.imr false 3 x c) (hf.ren _).symm, trivial⟩ (tmF_lv hf ..) ⟨⟨rfl, rfl⟩, ⟨rfl, rfl⟩, ⟨rfl, rfl⟩, ⟨rfl, rfl⟩, trivial⟩ ?_
  exact hnx
set_option maxRecDepth 100000 in
set_option maxHeartbeats 8000000 in
theorem rA0e0f (C : Ctx) (hC : C.β.b = []) (rs : List (List AV)) (hf : FlatR rs) (c : Option Nat) (i : Nat) (firm : Int) (lg : List Int) (n : Int) (b : List Int) (cb : Option Nat) (f : Int) (x : List Int) (xf room m : Int) 
    (hnum : numOk ⟨lg, f, x, xf, room, m, none, false⟩ = true) (hi : i ≤ 1000) (hlg : lg.length ≤ 20000) (hf0 : firm ≤ f) (hf2 : firm ≤ lg.length) (hf1 : f ≤ (lg).length)
    (hnx : Rch Try.prog (plOf pls) C ⟨[⟨5, 146, tmF rs c (lg).length (i + 1) f, [.lp c5_30, .blk 0, .code c5_26], none, [], []⟩], layF ⟨lg, f, x, xf, room, m, none, false⟩⟩ KB.IsT) :
    Rch Try.prog (plOf pls) C ⟨[⟨5, 146, tmB rs c lg.length i firm, [.code c5_49, .blk 1, .code c5_37, .lp c5_30, .blk 0, .code c5_26], none, [], []⟩], layB lg 0 n b cb ⟨lg, f, x, xf, room, m, none, false⟩⟩ KB.IsT := by
  have hg1 : ¬ (lg.length : Int) < firm := by omega
  have hg2 : ¬ f < firm := by omega
  have hg3 : ¬ (lg.length : Int) < f := by omega
  simp only [tmB, layB, fuQ, fuL]
  refine ExQ_ok [] 4000 plsOk kF_ok ?_
  (try rw [exh]); simp (maxSteps := 4000000) only [kF, kF0, kDk, ktO, ktW, objK, objB, updT, mapB, rhoN, mrk, readK, osK, osRead, findD, mLen, mFirm, mUp, rdV, rdL, layD, fuP, fuL, KB.sSaB, KB.sSaB0, mapI, nilN, hnum, List.nodup_cons, List.mem_cons, List.not_mem_nil, List.take_succ_cons, List.take_zero, KB.btt, take_self, not_false_eq_true, List.drop_zero, hg1, hg2, hg3, Int.lt_irrefl, stops, inK, stepF, frsF, frF, itemF, codeF, condF, opsF, opsW, opF, callO, wtS, gdst, gdl, sopF, pv, bltF, callF, calleeS, p_move, p_assign, p_pick, p_binOp, p_unOp, p_fieldAddr, p_extract, p_len, l_load, SY.get, SY.put, SY.ev, SY.mk, SY.nth, SY.lvl, SY.setl, dr, at1, rdC, rdCt, ar, bopInt, bopEq, isBl, bop, pickAV, killL, AV.scal, exq_go, exq_t, exq_f, ↓reduceIte, Nat.reduceLT, Nat.reduceEqDiff, Nat.reduceAdd, Nat.reduceSub, Bool.and_true, Bool.true_and, Bool.not_false, Bool.not_true, reduceCtorEq, true_and, Bool.false_eq_true, List.map_cons, List.map_nil, Bool.and_self, List.drop_succ_cons, List.drop_zero, List.length_cons, List.length_nil, List.cons_append, List.nil_append, List.append_nil, Nat.zero_add, Nat.add_zero, Nat.zero_mul, Int.reduceEq, Int.reduceLE, decide_true, decide_false, ktOf, conK, alive, lndL, lnd, lvB, okBls, shB, ren, renL, renCt, not_false_eq_true, ti3, ti4, ti22, ti25, ti42, regAt, body5, Try.f5, ↓exq_cd cd_c5_49, ↓exq_cd cd_c5_50, ↓exq_cd cd_c5_52, ↓exq_cd cd_c5_53, ↓exq_cd cd_c5_51, ↓exq_cd cd_c5_56, ↓exq_cd cd_c5_58, ↓exq_cd cd_c5_59, ↓exq_cd cd_c5_57, ↓exq_cd cd_c5_63, ↓exq_cd cd_c5_65, ↓exq_cd cd_c5_66, ↓exq_cd cd_c5_64, ↓exq_cd cd_c5_76, ↓exq_cd cd_c5_77, ↓exq_cd cd_c5_78, ↓exq_cd cd_c5_79, ↓exq_cd cd_c5_80, ↓exq_cd cd_c5_81, ↓exq_cd cd_c5_37, r5_52, r5_58, r5_65, r5_76, r5_78, r5_80, r5_37]
  repeat (refine And.intro (a := (_ = true)) (by first | (simp; done) | (simp; omega)) ?_)
  refine Rch.fit1 hC [0, 2, 5, 6] (tm' := tmF rs c (lg).length (i + 1) f) (bl' := layF ⟨lg, f, x, xf, room, m, none, false⟩) rfl (by decide) rfl ⟨rfl, rfl, rfl, rfl, rfl, congrArg (fun x => AV.imr false 3 x c) (hf.ren _).symm, trivial⟩ (tmF_lv hf ..) ⟨⟨rfl, rfl⟩, ⟨rfl, rfl⟩, ⟨rfl, rfl⟩, ⟨rfl, rfl⟩, trivial⟩ ?_
  exact hnx
set_option maxRecDepth 100000 in
set_option maxHeartbeats 8000000 in
theorem rA1g0f (C : Ctx) (hC : C.β.b = []) (rs : List (List AV)) (hf : FlatR rs) (c : Option Nat) (i : Nat) (firm : Int) (lg : List Int) (n : Int) (b : List Int) (cb : Option Nat) (f : Int) (x : List Int) (xf room m : Int) (hb0 : 0 < b.length) (hb2 : b.length ≤ 200) 
    (hnum : numOk ⟨lg ++ b, f, x, xf, room, m, none, false⟩ = true) (hi : i ≤ 1000) (hlg : lg.length ≤ 20000) (hf0 : firm ≤ f) (hf2 : firm ≤ lg.length) (hf1 : f ≤ (lg ++ b).length)
    (hnx : Rch Try.prog (plOf pls) C ⟨[⟨5, 146, tmF rs c (lg ++ b).length (i + 1) f, [.lp c5_30, .blk 0, .code c5_26], none, [], []⟩], layF ⟨lg ++ b, f, x, xf, room, m, none, false⟩⟩ KB.IsT) :
    Rch Try.prog (plOf pls) C ⟨[⟨5, 146, tmB rs c lg.length i firm, [.code c5_49, .blk 1, .code c5_37, .lp c5_30, .blk 0, .code c5_26], none, [], []⟩], layB lg 1 n b cb ⟨lg ++ b, f, x, xf, room, m, none, false⟩⟩ KB.IsT := by
  have hg : (lg.length : Int) < (lg ++ b).length := by rw [List.length_append]; omega
  have hg1 : ¬ ((lg ++ b).length : Int) < firm := by rw [List.length_append]; omega
  have hg2 : ¬ f < firm := by omega
  have hg3 : ¬ ((lg ++ b).length : Int) < f := by omega
  have hll : (lg ++ b).length = lg.length + b.length := List.length_append
  simp only [tmB, layB, fuQ, fuL]
  refine ExQ_ok [] 4000 plsOk kF_ok ?_
  (try rw [exh]); simp (maxSteps := 4000000) only [kF, kF0, kDk, ktO, ktW, objK, objB, updT, mapB, rhoN, mrk, readK, osK, osRead, findD, mLen, mFirm, mUp, rdV, rdL, layD, fuP, fuL, KB.sSaB, KB.sSaB0, mapI, nilN, hnum, List.nodup_cons, List.mem_cons, List.not_mem_nil, List.take_succ_cons, List.take_zero, KB.btt, take_self, not_false_eq_true, List.drop_zero, hg, hg1, hg2, hg3, Int.lt_irrefl, stops, inK, stepF, frsF, frF, itemF, codeF, condF, opsF, opsW, opF, callO, wtS, gdst, gdl, sopF, pv, evq, bltF, callF, calleeS, quiet, p_move, p_assign, p_pick, p_binOp, p_unOp, p_fieldAddr, p_extract, p_len, l_load, roomN, appNN, srcN, dstN, e_append, SY.get, SY.put, SY.ev, SY.mk, SY.nth, SY.lvl, SY.setl, dr, at1, rdC, rdCt, ar, bopInt, bopEq, isBl, bop, pickAV, numsAt, killO, srcN, dstN, killL, AV.scal, exq_go, exq_t, exq_f, ↓reduceIte, Nat.reduceLT, Nat.reduceEqDiff, Nat.reduceAdd, Nat.reduceSub, Bool.and_true, Bool.true_and, Bool.not_false, Bool.not_true, reduceCtorEq, true_and, Bool.false_eq_true, List.map_cons, List.map_nil, Bool.and_self, List.drop_succ_cons, List.drop_zero, List.length_cons, List.length_nil, List.cons_append, List.nil_append, List.append_nil, Nat.zero_add, Nat.add_zero, Nat.zero_mul, Nat.mul_one, Int.reduceEq, Int.reduceLE, decide_true, decide_false, ktOf, conK, alive, lndL, lnd, lvB, okBls, shB, ren, renL, renCt, not_false_eq_true, ti3, ti4, ti5, ti22, ti25, ti42, regAt, body5, Try.f5, ↓exq_cd cd_c5_49, ↓exq_cd cd_c5_50, ↓exq_cd cd_c5_52, ↓exq_cd cd_c5_53, ↓exq_cd cd_c5_54, ↓exq_cd cd_c5_51, ↓exq_cd cd_c5_56, ↓exq_cd cd_c5_58, ↓exq_cd cd_c5_59, ↓exq_cd cd_c5_57, ↓exq_cd cd_c5_63, ↓exq_cd cd_c5_65, ↓exq_cd cd_c5_66, ↓exq_cd cd_c5_64, ↓exq_cd cd_c5_76, ↓exq_cd cd_c5_77, ↓exq_cd cd_c5_78, ↓exq_cd cd_c5_79, ↓exq_cd cd_c5_80, ↓exq_cd cd_c5_81, ↓exq_cd cd_c5_37, r5_52, r5_54, r5_58, r5_65, r5_76, r5_78, r5_80, r5_37]
  repeat (refine And.intro (a := (_ = true)) (by first | (simp; done) | (simp; omega)) ?_)
  refine Rch.fit1 hC [5, 2, 6, 7] (tm' := tmF rs c (lg ++ b).length (i + 1) f) (bl' := layF ⟨lg ++ b, f, x, xf, room, m, none, false⟩) rfl (by decide) rfl ⟨rfl, rfl, rfl, rfl, rfl, congrArg (fun x => AV.imr false 3 x c) (hf.ren _).symm, trivial⟩ (tmF_lv hf ..) ⟨⟨rfl, rfl⟩, ⟨rfl, rfl⟩, ⟨rfl, rfl⟩, ⟨rfl, rfl⟩, trivial⟩ ?_
  exact hnx
set_option maxRecDepth 100000 in
set_option maxHeartbeats 8000000 in
theorem rA1e0f (C : Ctx) (hC : C.β.b = []) (rs : List (List AV)) (hf : FlatR rs) (c : Option Nat) (i : Nat) (firm : Int) (lg : List Int) (n : Int) (b : List Int) (cb : Option Nat) (f : Int) (x : List Int) (xf room m : Int) 
    (hnum : numOk ⟨lg, f, x, xf, room, m, none, false⟩ = true) (hi : i ≤ 1000) (hlg : lg.length ≤ 20000) (hf0 : firm ≤ f) (hf2 : firm ≤ lg.length) (hf1 : f ≤ (lg).length)
    (hnx : Rch Try.prog (plOf pls) C ⟨[⟨5, 146, tmF rs c (lg).length (i + 1) f, [.lp c5_30, .blk 0, .code c5_26], none, [], []⟩], layF ⟨lg, f, x, xf, room, m, none, false⟩⟩ KB.IsT) :
    Rch Try.prog (plOf pls) C ⟨[⟨5, 146, tmB rs c lg.length i firm, [.code c5_49, .blk 1, .code c5_37, .lp c5_30, .blk 0, .code c5_26], none, [], []⟩], layB lg 1 n b cb ⟨lg, f, x, xf, room, m, none, false⟩⟩ KB.IsT := by
  have hg1 : ¬ (lg.length : Int) < firm := by omega
  have hg2 : ¬ f < firm := by omega
  have hg3 : ¬ (lg.length : Int) < f := by omega
  simp only [tmB, layB, fuQ, fuL]
  refine ExQ_ok [] 4000 plsOk kF_ok ?_
  (try rw [exh]); simp (maxSteps := 4000000) only [kF, kF0, kDk, ktO, ktW, objK, objB, updT, mapB, rhoN, mrk, readK, osK, osRead, findD, mLen, mFirm, mUp, rdV, rdL, layD, fuP, fuL, KB.sSaB, KB.sSaB0, mapI, nilN, hnum, List.nodup_cons, List.mem_cons, List.not_mem_nil, List.take_succ_cons, List.take_zero, KB.btt, take_self, not_false_eq_true, List.drop_zero, hg1, hg2, hg3, Int.lt_irrefl, stops, inK, stepF, frsF, frF, itemF, codeF, condF, opsF, opsW, opF, callO, wtS, gdst, gdl, sopF, pv, bltF, callF, calleeS, p_move, p_assign, p_pick, p_binOp, p_unOp, p_fieldAddr, p_extract, p_len, l_load, SY.get, SY.put, SY.ev, SY.mk, SY.nth, SY.lvl, SY.setl, dr, at1, rdC, rdCt, ar, bopInt, bopEq, isBl, bop, pickAV, killL, AV.scal, exq_go, exq_t, exq_f, ↓reduceIte, Nat.reduceLT, Nat.reduceEqDiff, Nat.reduceAdd, Nat.reduceSub, Bool.and_true, Bool.true_and, Bool.not_false, Bool.not_true, reduceCtorEq, true_and, Bool.false_eq_true, List.map_cons, List.map_nil, Bool.and_self, List.drop_succ_cons, List.drop_zero, List.length_cons, List.length_nil, List.cons_append, List.nil_append, List.append_nil, Nat.zero_add, Nat.add_zero, Nat.zero_mul, Int.reduceEq, Int.reduceLE, decide_true, decide_false, ktOf, conK, alive, lndL, lnd, lvB, okBls, shB, ren, renL, renCt, not_false_eq_true, ti3, ti4, ti22, ti25, ti42, regAt, body5, Try.f5, ↓exq_cd cd_c5_49, ↓exq_cd cd_c5_50, ↓exq_cd cd_c5_52, ↓exq_cd cd_c5_53, ↓exq_cd cd_c5_51, ↓exq_cd cd_c5_56, ↓exq_cd cd_c5_58, ↓exq_cd cd_c5_59, ↓exq_cd cd_c5_57, ↓exq_cd cd_c5_63, ↓exq_cd cd_c5_65, ↓exq_cd cd_c5_66, ↓exq_cd cd_c5_64, ↓exq_cd cd_c5_76, ↓exq_cd cd_c5_77, ↓exq_cd cd_c5_78, ↓exq_cd cd_c5_79, ↓exq_cd cd_c5_80, ↓exq_cd cd_c5_81, ↓exq_cd cd_c5_37, r5_52, r5_58, r5_65, r5_76, r5_78, r5_80, r5_37]
  repeat (refine And.intro (a := (_ = true)) (by first | (simp; done) | (simp; omega)) ?_)
  refine Rch.fit1 hC [0, 2, 5, 6] (tm' := tmF rs c (lg).length (i + 1) f) (bl' := layF ⟨lg, f, x, xf, room, m, none, false⟩) rfl (by decide) rfl ⟨rfl, rfl, rfl, rfl, rfl, congrArg (fun x => AV.imr false 3 x c) (hf.ren _).symm, trivial⟩ (tmF_lv hf ..) ⟨⟨rfl, rfl⟩, ⟨rfl, rfl⟩, ⟨rfl, rfl⟩, ⟨rfl, rfl⟩, trivial⟩ ?_
  exact hnx
set_option maxRecDepth 100000 in
set_option maxHeartbeats 8000000 in
theorem rC0f (C : Ctx) (hC : C.β.b = []) (rs : List (List AV)) (hf : FlatR rs) (c : Option Nat) (i : Nat) (firm : Int) (lg : List Int) (n : Int) (b : List Int) (cb : Option Nat) (f : Int) (x : List Int) (xf room m : Int) (k : Int) (h0 : ¬ k = 0) (h1 : ¬ k = 1) (h7 : ¬ k = 7) 
    (hnum : numOk ⟨lg, f, x, xf, room, m, none, false⟩ = true) (hi : i ≤ 1000) (hlg : lg.length ≤ 20000) (hf0 : firm ≤ f) (hf2 : firm ≤ lg.length) (hf1 : f ≤ (lg).length)
    (hnx : Rch Try.prog (plOf pls) C ⟨[⟨5, 146, tmF rs c (lg).length (i + 1) f, [.lp c5_30, .blk 0, .code c5_26], none, [], []⟩], layF ⟨lg, f, x, xf, room, m, none, false⟩⟩ KB.IsT) :
    Rch Try.prog (plOf pls) C ⟨[⟨5, 146, tmB rs c lg.length i firm, [.code c5_49, .blk 1, .code c5_37, .lp c5_30, .blk 0, .code c5_26], none, [], []⟩], layB lg k n b cb ⟨lg, f, x, xf, room, m, none, false⟩⟩ KB.IsT := by
  have hg1 : ¬ (lg.length : Int) < firm := by omega
  have hg2 : ¬ f < firm := by omega
  have hg3 : ¬ (lg.length : Int) < f := by omega
  simp only [tmB, layB, fuQ, fuL]
  refine ExQ_ok [] 4000 plsOk kF_ok ?_
  (try rw [exh]); simp (maxSteps := 4000000) only [kF, kF0, kDk, ktO, ktW, objK, objB, updT, mapB, rhoN, mrk, readK, osK, osRead, findD, mLen, mFirm, mUp, rdV, rdL, layD, fuP, fuL, KB.sSaB, KB.sSaB0, mapI, nilN, hnum, List.nodup_cons, List.mem_cons, List.not_mem_nil, List.take_succ_cons, List.take_zero, KB.btt, take_self, not_false_eq_true, List.drop_zero, hg1, hg2, hg3, h0, h1, h7, Int.lt_irrefl, stops, inK, stepF, frsF, frF, itemF, codeF, condF, opsF, opsW, opF, callO, wtS, gdst, gdl, sopF, pv, bltF, callF, calleeS, p_move, p_assign, p_pick, p_binOp, p_unOp, p_fieldAddr, p_extract, p_len, l_load, SY.get, SY.put, SY.ev, SY.mk, SY.nth, SY.lvl, SY.setl, dr, at1, rdC, rdCt, ar, bopInt, bopEq, isBl, bop, pickAV, killL, AV.scal, exq_go, exq_t, exq_f, ↓reduceIte, Nat.reduceLT, Nat.reduceEqDiff, Nat.reduceAdd, Nat.reduceSub, Bool.and_true, Bool.true_and, Bool.not_false, Bool.not_true, reduceCtorEq, true_and, Bool.false_eq_true, List.map_cons, List.map_nil, Bool.and_self, List.drop_succ_cons, List.drop_zero, List.length_cons, List.length_nil, List.cons_append, List.nil_append, List.append_nil, Nat.zero_add, Nat.add_zero, Nat.zero_mul, Int.reduceLE, decide_true, decide_false, ktOf, conK, alive, lndL, lnd, lvB, okBls, shB, ren, renL, renCt, not_false_eq_true, ti3, ti4, ti22, ti25, ti42, regAt, body5, Try.f5, ↓exq_cd cd_c5_49, ↓exq_cd cd_c5_50, ↓exq_cd cd_c5_52, ↓exq_cd cd_c5_53, ↓exq_cd cd_c5_51, ↓exq_cd cd_c5_56, ↓exq_cd cd_c5_58, ↓exq_cd cd_c5_59, ↓exq_cd cd_c5_57, ↓exq_cd cd_c5_63, ↓exq_cd cd_c5_65, ↓exq_cd cd_c5_66, ↓exq_cd cd_c5_64, ↓exq_cd cd_c5_76, ↓exq_cd cd_c5_77, ↓exq_cd cd_c5_78, ↓exq_cd cd_c5_79, ↓exq_cd cd_c5_80, ↓exq_cd cd_c5_81, ↓exq_cd cd_c5_37, r5_52, r5_58, r5_65, r5_76, r5_78, r5_80, r5_37]
  repeat (refine And.intro (a := (_ = true)) (by first | (simp; done) | (simp; omega)) ?_)
  refine Rch.fit1 hC [0, 2, 5, 6] (tm' := tmF rs c (lg).length (i + 1) f) (bl' := layF ⟨lg, f, x, xf, room, m, none, false⟩) rfl (by decide) rfl ⟨rfl, rfl, rfl, rfl, rfl, congrArg (fun x => AV.imr false 3 x c) (hf.ren _).symm, trivial⟩ (tmF_lv hf ..) ⟨⟨rfl, rfl⟩, ⟨rfl, rfl⟩, ⟨rfl, rfl⟩, ⟨rfl, rfl⟩, trivial⟩ ?_
  exact hnx
set_option maxRecDepth 100000 in
set_option maxHeartbeats 8000000 in
theorem rD0f (C : Ctx) (hC : C.β.b = []) (rs : List (List AV)) (hf : FlatR rs) (c : Option Nat) (i : Nat) (firm : Int) (lg : List Int) (n : Int) (b : List Int) (cb : Option Nat) (f : Int) (x : List Int) (xf room m : Int) (hn : n < 0) 
    (hnum : numOk ⟨lg, f, x, xf, room, m, none, false⟩ = true) (hi : i ≤ 1000) (hlg : lg.length ≤ 20000) (hf0 : firm ≤ f) (hf2 : firm ≤ lg.length) (hf1 : f ≤ (lg).length)
    (hnx : Rch Try.prog (plOf pls) C ⟨[⟨5, 146, tmF rs c (lg).length (i + 1) f, [.lp c5_30, .blk 0, .code c5_26], none, [], []⟩], layF ⟨lg, f, x, xf, room, m, none, false⟩⟩ KB.IsT) :
    Rch Try.prog (plOf pls) C ⟨[⟨5, 146, tmB rs c lg.length i firm, [.code c5_49, .blk 1, .code c5_37, .lp c5_30, .blk 0, .code c5_26], none, [], []⟩], layB lg 7 n b cb ⟨lg, f, x, xf, room, m, none, false⟩⟩ KB.IsT := by
  have hg1 : ¬ (lg.length : Int) < firm := by omega
  have hg2 : ¬ f < firm := by omega
  have hg3 : ¬ (lg.length : Int) < f := by omega
  have hn2 : ¬ 0 ≤ n := by omega
  simp only [tmB, layB, fuQ, fuL]
  refine ExQ_ok [] 4000 plsOk kF_ok ?_
  (try rw [exh]); simp (maxSteps := 4000000) only [kF, kF0, kDk, ktO, ktW, objK, objB, updT, mapB, rhoN, mrk, readK, osK, osRead, findD, mLen, mFirm, mUp, rdV, rdL, layD, fuP, fuL, KB.sSaB, KB.sSaB0, mapI, nilN, hnum, List.nodup_cons, List.mem_cons, List.not_mem_nil, List.take_succ_cons, List.take_zero, KB.btt, take_self, not_false_eq_true, List.drop_zero, hg1, hg2, hg3, hn2, Int.lt_irrefl, stops, inK, stepF, frsF, frF, itemF, codeF, condF, opsF, opsW, opF, callO, wtS, gdst, gdl, sopF, pv, bltF, callF, calleeS, p_move, p_assign, p_pick, p_binOp, p_unOp, p_fieldAddr, p_extract, p_len, l_load, SY.get, SY.put, SY.ev, SY.mk, SY.nth, SY.lvl, SY.setl, dr, at1, rdC, rdCt, ar, bopInt, bopEq, isBl, bop, pickAV, killL, AV.scal, exq_go, exq_t, exq_f, ↓reduceIte, Nat.reduceLT, Nat.reduceEqDiff, Nat.reduceAdd, Nat.reduceSub, Bool.and_true, Bool.true_and, Bool.not_false, Bool.not_true, reduceCtorEq, true_and, Bool.false_eq_true, List.map_cons, List.map_nil, Bool.and_self, List.drop_succ_cons, List.drop_zero, List.length_cons, List.length_nil, List.cons_append, List.nil_append, List.append_nil, Nat.zero_add, Nat.add_zero, Nat.zero_mul, Int.reduceEq, Int.reduceLE, decide_true, decide_false, ktOf, conK, alive, lndL, lnd, lvB, okBls, shB, ren, renL, renCt, not_false_eq_true, ti3, ti4, ti22, ti25, ti42, regAt, body5, Try.f5, ↓exq_cd cd_c5_49, ↓exq_cd cd_c5_50, ↓exq_cd cd_c5_52, ↓exq_cd cd_c5_53, ↓exq_cd cd_c5_51, ↓exq_cd cd_c5_56, ↓exq_cd cd_c5_58, ↓exq_cd cd_c5_59, ↓exq_cd cd_c5_57, ↓exq_cd cd_c5_63, ↓exq_cd cd_c5_65, ↓exq_cd cd_c5_66, ↓exq_cd cd_c5_64, ↓exq_cd cd_c5_76, ↓exq_cd cd_c5_77, ↓exq_cd cd_c5_78, ↓exq_cd cd_c5_79, ↓exq_cd cd_c5_80, ↓exq_cd cd_c5_81, ↓exq_cd cd_c5_37, r5_52, r5_58, r5_65, r5_76, r5_78, r5_80, r5_37]
  repeat (refine And.intro (a := (_ = true)) (by first | (simp; done) | (simp; omega)) ?_)
  refine Rch.fit1 hC [0, 2, 5, 6] (tm' := tmF rs c (lg).length (i + 1) f) (bl' := layF ⟨lg, f, x, xf, room, m, none, false⟩) rfl (by decide) rfl ⟨rfl, rfl, rfl, rfl, rfl, congrArg (fun x => AV.imr false 3 x c) (hf.ren _).symm, trivial⟩ (tmF_lv hf ..) ⟨⟨rfl, rfl⟩, ⟨rfl, rfl⟩, ⟨rfl, rfl⟩, ⟨rfl, rfl⟩, trivial⟩ ?_
  exact hnx
set_option maxRecDepth 100000 in
set_option maxHeartbeats 8000000 in
theorem rB0f (C : Ctx) (hC : C.β.b = []) (rs : List (List AV)) (hf : FlatR rs) (c : Option Nat) (i : Nat) (firm : Int) (lg : List Int) (n : Int) (b : List Int) (cb : Option Nat) (f : Int) (x : List Int) (xf room m : Int) (M : Nat) (hM : M ≤ lg.length) (hfM : f = M) (hn : 0 ≤ n) 
    (hnum : numOk ⟨lg.take M, f, x, xf, room, m, none, false⟩ = true) (hi : i ≤ 1000) (hlg : lg.length ≤ 20000) (hf0 : firm ≤ f) (hf2 : firm ≤ lg.length) (hf1 : f ≤ (lg.take M).length)
    (hnx : Rch Try.prog (plOf pls) C ⟨[⟨5, 146, tmF rs c (lg.take M).length (i + 1) f, [.lp c5_30, .blk 0, .code c5_26], none, [], []⟩], layF ⟨lg.take M, f, x, xf, room, m, none, false⟩⟩ KB.IsT) :
    Rch Try.prog (plOf pls) C ⟨[⟨5, 146, tmB rs c lg.length i firm, [.code c5_49, .blk 1, .code c5_37, .lp c5_30, .blk 0, .code c5_26], none, [], []⟩], layB lg 7 n b cb ⟨lg.take M, f, x, xf, room, m, none, false⟩⟩ KB.IsT := by
  have htl : (lg.take M).length = M := by rw [List.length_take]; omega
  rw [htl] at hf1 hnx
  subst hfM
  have hg1 : ¬ (M : Int) < firm := by omega
  have hg3 : ¬ (lg.length : Int) < M := by omega
  have htt : (lg.take M).take M = lg.take M := by rw [List.take_take, Nat.min_self]
  simp only [tmB, layB, fuQ, fuL]
  refine ExQ_ok [] 4000 plsOk kF_ok ?_
  (try rw [exh]); simp (maxSteps := 4000000) only [kF, kF0, kDk, ktO, ktW, objK, objB, updT, mapB, rhoN, mrk, readK, osK, osRead, findD, mLen, mFirm, mUp, rdV, rdL, layD, fuP, fuL, KB.sSaB, KB.sSaB0, mapI, nilN, hnum, List.nodup_cons, List.mem_cons, List.not_mem_nil, List.take_succ_cons, List.take_zero, KB.btt, not_true_eq_false, not_false_eq_true, List.drop_zero, Int.toNat_natCast, hg1, hg3, hn, htl, htt, Int.lt_irrefl, stops, inK, stepF, frsF, frF, itemF, codeF, condF, opsF, opsW, opF, callO, wtS, gdst, gdl, sopF, pv, orl, bltF, callF, calleeS, p_move, p_assign, p_pick, p_binOp, p_unOp, p_fieldAddr, p_slice, p_extract, p_len, l_load, SY.get, SY.put, SY.ev, SY.mk, SY.nth, SY.lvl, SY.setl, dr, at1, rdC, rdCt, ar, bopInt, bopEq, isBl, bop, pickAV, bnd, subO, cutOf, okMx, killL, AV.scal, exq_go, exq_t, exq_f, ↓reduceIte, Nat.reduceLT, Nat.reduceEqDiff, Nat.reduceAdd, Nat.reduceSub, Bool.and_true, Bool.true_and, Bool.not_false, Bool.not_true, reduceCtorEq, true_and, Bool.false_eq_true, List.map_cons, List.map_nil, Bool.and_self, List.drop_succ_cons, List.drop_zero, List.length_cons, List.length_nil, List.cons_append, List.nil_append, Option.map_some, Option.map_none, List.append_nil, Nat.zero_add, Nat.add_zero, Nat.sub_zero, Nat.zero_mul, Int.toNat_natCast, Int.reduceEq, Int.reduceLE, decide_true, decide_false, Option.getD_none, ktOf, conK, alive, lndL, lnd, lvB, okBls, shB, ren, renL, renCt, not_false_eq_true, not_true_eq_false, ti3, ti4, ti22, ti25, ti42, regAt, body5, Try.f5, ↓exq_cd cd_c5_49, ↓exq_cd cd_c5_50, ↓exq_cd cd_c5_52, ↓exq_cd cd_c5_53, ↓exq_cd cd_c5_51, ↓exq_cd cd_c5_56, ↓exq_cd cd_c5_58, ↓exq_cd cd_c5_59, ↓exq_cd cd_c5_57, ↓exq_cd cd_c5_63, ↓exq_cd cd_c5_65, ↓exq_cd cd_c5_66, ↓exq_cd cd_c5_67, ↓exq_cd cd_c5_69, ↓exq_cd cd_c5_70, ↓exq_cd cd_c5_71, ↓exq_cd cd_c5_72, ↓exq_cd cd_c5_64, ↓exq_cd cd_c5_76, ↓exq_cd cd_c5_77, ↓exq_cd cd_c5_78, ↓exq_cd cd_c5_79, ↓exq_cd cd_c5_80, ↓exq_cd cd_c5_81, ↓exq_cd cd_c5_37, r5_52, r5_58, r5_65, r5_69, r5_71, r5_76, r5_78, r5_80, r5_37]
  repeat (refine And.intro (a := (_ = true)) (by first | (simp; done) | (simp; omega)) ?_)
  refine Rch.wk rfl (Wk.cut (l := 0) (n := M) rfl) ?_
  refine Rch.fit1 hC [0, 2, 5, 6] (tm' := tmF rs c M (i + 1) M) (bl' := layF ⟨lg.take M, M, x, xf, room, m, none, false⟩) rfl (by decide) rfl ⟨rfl, rfl, rfl, rfl, rfl, congrArg (fun x => AV.imr false 3 x c) (hf.ren _).symm, trivial⟩ (tmF_lv hf ..) ⟨⟨rfl, rfl⟩, ⟨by dsimp only; rw [htl]; rfl, rfl⟩, ⟨rfl, rfl⟩, ⟨rfl, rfl⟩, trivial⟩ ?_
  exact hnx
set_option maxRecDepth 100000 in
set_option maxHeartbeats 8000000 in
theorem rA0g1t (C : Ctx) (hC : C.β.b = []) (rs : List (List AV)) (hf : FlatR rs) (c : Option Nat) (i : Nat) (firm : Int) (lg : List Int) (n : Int) (b : List Int) (cb : Option Nat) (f : Int) (x : List Int) (xf room m : Int) (w : Int) (hb0 : 0 < b.length) (hb2 : b.length ≤ 200) 
    (hnum : numOk ⟨lg ++ b, f, x, xf, room, m, some w, true⟩ = true) (hi : i ≤ 1000) (hlg : lg.length ≤ 20000) (hf0 : firm ≤ f) (hf2 : firm ≤ lg.length) (hf1 : f ≤ (lg ++ b).length)
    (hnx : Rch Try.prog (plOf pls) C ⟨[⟨5, 146, tmF rs c (lg ++ b).length (i + 1) f, [.lp c5_30, .blk 0, .code c5_26], none, [], []⟩], layF ⟨lg ++ b, f, x, xf, room, m, some w, true⟩⟩ KB.IsT) :
    Rch Try.prog (plOf pls) C ⟨[⟨5, 146, tmB rs c lg.length i firm, [.code c5_49, .blk 1, .code c5_37, .lp c5_30, .blk 0, .code c5_26], none, [], []⟩], layB lg 0 n b cb ⟨lg ++ b, f, x, xf, room, m, some w, true⟩⟩ KB.IsT := by
  have hg : (lg.length : Int) < (lg ++ b).length := by rw [List.length_append]; omega
  have hg1 : ¬ ((lg ++ b).length : Int) < firm := by rw [List.length_append]; omega
  have hg2 : ¬ f < firm := by omega
  have hg3 : ¬ ((lg ++ b).length : Int) < f := by omega
  have hll : (lg ++ b).length = lg.length + b.length := List.length_append
  simp only [tmB, layB, fuQ, fuL]
  refine ExQ_ok [] 4000 plsOk kF_ok ?_
  (try rw [exh]); simp (maxSteps := 4000000) only [kF, kF0, kDk, ktO, ktW, objK, objB, updT, mapB, rhoN, mrk, readK, osK, osRead, findD, mLen, mFirm, mUp, rdV, rdL, layD, fuP, fuL, hnum, List.nodup_cons, List.mem_cons, List.not_mem_nil, List.take_succ_cons, List.take_zero, KB.bff, take_self, not_false_eq_true, List.drop_zero, hg, hg1, hg2, hg3, Int.lt_irrefl, stops, inK, stepF, frsF, frF, itemF, codeF, condF, opsF, opsW, opF, callO, wtS, gdst, gdl, sopF, pv, evq, bltF, callF, calleeS, quiet, p_move, p_assign, p_pick, p_binOp, p_fieldAddr, p_extract, p_len, l_load, roomN, appNN, srcN, dstN, e_append, SY.get, SY.put, SY.ev, SY.mk, SY.nth, SY.lvl, SY.setl, dr, at1, rdC, rdCt, ar, bopInt, bopEq, isBl, bop, pickAV, numsAt, killO, srcN, dstN, killL, AV.scal, exq_go, exq_t, exq_f, ↓reduceIte, Nat.reduceLT, Nat.reduceEqDiff, Nat.reduceAdd, Nat.reduceSub, Bool.and_true, Bool.true_and, Bool.not_false, Bool.not_true, reduceCtorEq, true_and, List.map_cons, List.map_nil, Bool.and_self, List.drop_succ_cons, List.drop_zero, List.length_cons, List.length_nil, List.cons_append, List.nil_append, List.append_nil, Nat.zero_add, Nat.add_zero, Nat.zero_mul, Nat.mul_one, Int.reduceEq, Int.reduceLE, decide_true, decide_false, ktOf, alive, lvB, ren, renL, renCt, not_false_eq_true, ti3, ti4, ti5, ti22, ti25, ti42, regAt, body5, Try.f5, ↓exq_cd cd_c5_49, ↓exq_cd cd_c5_50, ↓exq_cd cd_c5_52, ↓exq_cd cd_c5_53, ↓exq_cd cd_c5_54, ↓exq_cd cd_c5_51, ↓exq_cd cd_c5_56, ↓exq_cd cd_c5_58, ↓exq_cd cd_c5_59, ↓exq_cd cd_c5_57, ↓exq_cd cd_c5_63, ↓exq_cd cd_c5_65, ↓exq_cd cd_c5_66, ↓exq_cd cd_c5_64, ↓exq_cd cd_c5_76, ↓exq_cd cd_c5_77, ↓exq_cd cd_c5_78, ↓exq_cd cd_c5_79, ↓exq_cd cd_c5_80, ↓exq_cd cd_c5_81, ↓exq_cd cd_c5_37, r5_52, r5_54, r5_58, r5_65, r5_76, r5_78, r5_80, r5_37]
  repeat (refine And.intro (a := (_ = true)) (by first | (simp; done) | (simp; omega)) ?_)
  refine Rch.fit1 hC [6, 2, 7, 8, 9] (tm' := tmF rs c (lg ++ b).length (i + 1) f) (bl' := layF ⟨lg ++ b, f, x, xf, room, m, some w, true⟩) rfl (by decide) rfl ⟨rfl, rfl, rfl, rfl, rfl, congrArg (fun x => AV.imr false 3 x c) (hf.ren _).symm, trivial⟩ (tmF_lv hf ..) ⟨⟨rfl, rfl⟩, ⟨rfl, rfl⟩, ⟨rfl, rfl⟩, ⟨rfl, rfl⟩, ⟨rfl, rfl⟩, trivial⟩ ?_
  exact hnx
set_option maxRecDepth 100000 in
set_option maxHeartbeats 8000000 in
theorem rA0e1t (C : Ctx) (hC : C.β.b = []) (rs : List (List AV)) (hf : FlatR rs) (c : Option Nat) (i : Nat) (firm : Int) (lg : List Int) (n : Int) (b : List Int) (cb : Option Nat) (f : Int) (x : List Int) (xf room m : Int) (w : Int) 
    (hnum : numOk ⟨lg, f, x, xf, room, m, some w, true⟩ = true) (hi : i ≤ 1000) (hlg : lg.length ≤ 20000) (hf0 : firm ≤ f) (hf2 : firm ≤ lg.length) (hf1 : f ≤ (lg).length)
    (hnx : Rch Try.prog (plOf pls) C ⟨[⟨5, 146, tmF rs c (lg).length (i + 1) f, [.lp c5_30, .blk 0, .code c5_26], none, [], []⟩], layF ⟨lg, f, x, xf, room, m, some w, true⟩⟩ KB.IsT) :
    Rch Try.prog (plOf pls) C ⟨[⟨5, 146, tmB rs c lg.length i firm, [.code c5_49, .blk 1, .code c5_37, .lp c5_30, .blk 0, .code c5_26], none, [], []⟩], layB lg 0 n b cb ⟨lg, f, x, xf, room, m, some w, true⟩⟩ KB.IsT := by
  have hg1 : ¬ (lg.length : Int) < firm := by omega
  have hg2 : ¬ f < firm := by omega
  have hg3 : ¬ (lg.length : Int) < f := by omega
  simp only [tmB, layB, fuQ, fuL]
  refine ExQ_ok [] 4000 plsOk kF_ok ?_
  (try rw [exh]); simp (maxSteps := 4000000) only [kF, kF0, kDk, ktO, ktW, objK, objB, updT, mapB, rhoN, mrk, readK, osK, osRead, findD, mLen, mFirm, mUp, rdV, rdL, layD, fuP, fuL, hnum, List.nodup_cons, List.mem_cons, List.not_mem_nil, List.take_succ_cons, List.take_zero, KB.bff, not_false_eq_true, List.drop_zero, hg1, hg2, hg3, Int.lt_irrefl, stops, inK, stepF, frsF, frF, itemF, codeF, condF, opsF, opsW, opF, callO, wtS, gdst, gdl, sopF, pv, bltF, callF, calleeS, p_move, p_assign, p_pick, p_binOp, p_fieldAddr, p_extract, p_len, l_load, SY.get, SY.put, SY.ev, SY.mk, SY.nth, SY.lvl, SY.setl, dr, at1, rdC, rdCt, ar, bopInt, bopEq, isBl, bop, pickAV, killL, AV.scal, exq_go, exq_t, exq_f, ↓reduceIte, Nat.reduceLT, Nat.reduceEqDiff, Nat.reduceAdd, Nat.reduceSub, Bool.and_true, Bool.true_and, Bool.not_false, Bool.not_true, reduceCtorEq, true_and, List.map_cons, List.map_nil, Bool.and_self, List.drop_succ_cons, List.drop_zero, List.length_cons, List.length_nil, List.cons_append, List.nil_append, List.append_nil, Nat.zero_add, Nat.add_zero, Nat.zero_mul, Int.reduceEq, Int.reduceLE, decide_true, decide_false, ktOf, alive, lvB, ren, renL, renCt, not_false_eq_true, ti3, ti4, ti22, ti25, ti42, regAt, body5, Try.f5, ↓exq_cd cd_c5_49, ↓exq_cd cd_c5_50, ↓exq_cd cd_c5_52, ↓exq_cd cd_c5_53, ↓exq_cd cd_c5_51, ↓exq_cd cd_c5_56, ↓exq_cd cd_c5_58, ↓exq_cd cd_c5_59, ↓exq_cd cd_c5_57, ↓exq_cd cd_c5_63, ↓exq_cd cd_c5_65, ↓exq_cd cd_c5_66, ↓exq_cd cd_c5_64, ↓exq_cd cd_c5_76, ↓exq_cd cd_c5_77, ↓exq_cd cd_c5_78, ↓exq_cd cd_c5_79, ↓exq_cd cd_c5_80, ↓exq_cd cd_c5_81, ↓exq_cd cd_c5_37, r5_52, r5_58, r5_65, r5_76, r5_78, r5_80, r5_37]
  repeat (refine And.intro (a := (_ = true)) (by first | (simp; done) | (simp; omega)) ?_)
  refine Rch.fit1 hC [0, 2, 6, 7, 8] (tm' := tmF rs c (lg).length (i + 1) f) (bl' := layF ⟨lg, f, x, xf, room, m, some w, true⟩) rfl (by decide) rfl ⟨rfl, rfl, rfl, rfl, rfl, congrArg (fun x => AV.imr false 3 x c) (hf.ren _).symm, trivial⟩ (tmF_lv hf ..) ⟨⟨rfl, rfl⟩, ⟨rfl, rfl⟩, ⟨rfl, rfl⟩, ⟨rfl, rfl⟩, ⟨rfl, rfl⟩, trivial⟩ ?_
  exact hnx
set_option maxRecDepth 100000 in
set_option maxHeartbeats 8000000 in
theorem rA1g1t (C : Ctx) (hC : C.β.b = []) (rs : List (List AV)) (hf : FlatR rs) (c : Option Nat) (i : Nat) (firm : Int) (lg : List Int) (n : Int) (b : List Int) (cb : Option Nat) (f : Int) (x : List Int) (xf room m : Int) (w : Int) (hb0 : 0 < b.length) (hb2 : b.length ≤ 200) 
    (hnum : numOk ⟨lg ++ b, f, x, xf, room, m, some w, true⟩ = true) (hi : i ≤ 1000) (hlg : lg.length ≤ 20000) (hf0 : firm ≤ f) (hf2 : firm ≤ lg.length) (hf1 : f ≤ (lg ++ b).length)
    (hnx : Rch Try.prog (plOf pls) C ⟨[⟨5, 146, tmF rs c (lg ++ b).length (i + 1) f, [.lp c5_30, .blk 0, .code c5_26], none, [], []⟩], layF ⟨lg ++ b, f, x, xf, room, m, some w, true⟩⟩ KB.IsT) :
    Rch Try.prog (plOf pls) C ⟨[⟨5, 146, tmB rs c lg.length i firm, [.code c5_49, .blk 1, .code c5_37, .lp c5_30, .blk 0, .code c5_26], none, [], []⟩], layB lg 1 n b cb ⟨lg ++ b, f, x, xf, room, m, some w, true⟩⟩ KB.IsT := by
  have hg : (lg.length : Int) < (lg ++ b).length := by rw [List.length_append]; omega
  have hg1 : ¬ ((lg ++ b).length : Int) < firm := by rw [List.length_append]; omega
  have hg2 : ¬ f < firm := by omega
  have hg3 : ¬ ((lg ++ b).length : Int) < f := by omega
  have hll : (lg ++ b).length = lg.length + b.length := List.length_append
  simp only [tmB, layB, fuQ, fuL]
  refine ExQ_ok [] 4000 plsOk kF_ok ?_
  (try rw [exh]); simp (maxSteps := 4000000) only [kF, kF0, kDk, ktO, ktW, objK, objB, updT, mapB, rhoN, mrk, readK, osK, osRead, findD, mLen, mFirm, mUp, rdV, rdL, layD, fuP, fuL, hnum, List.nodup_cons, List.mem_cons, List.not_mem_nil, List.take_succ_cons, List.take_zero, KB.bff, take_self, not_false_eq_true, List.drop_zero, hg, hg1, hg2, hg3, Int.lt_irrefl, stops, inK, stepF, frsF, frF, itemF, codeF, condF, opsF, opsW, opF, callO, wtS, gdst, gdl, sopF, pv, evq, bltF, callF, calleeS, quiet, p_move, p_assign, p_pick, p_binOp, p_fieldAddr, p_extract, p_len, l_load, roomN, appNN, srcN, dstN, e_append, SY.get, SY.put, SY.ev, SY.mk, SY.nth, SY.lvl, SY.setl, dr, at1, rdC, rdCt, ar, bopInt, bopEq, isBl, bop, pickAV, numsAt, killO, srcN, dstN, killL, AV.scal, exq_go, exq_t, exq_f, ↓reduceIte, Nat.reduceLT, Nat.reduceEqDiff, Nat.reduceAdd, Nat.reduceSub, Bool.and_true, Bool.true_and, Bool.not_false, Bool.not_true, reduceCtorEq, true_and, List.map_cons, List.map_nil, Bool.and_self, List.drop_succ_cons, List.drop_zero, List.length_cons, List.length_nil, List.cons_append, List.nil_append, List.append_nil, Nat.zero_add, Nat.add_zero, Nat.zero_mul, Nat.mul_one, Int.reduceEq, Int.reduceLE, decide_true, decide_false, ktOf, alive, lvB, ren, renL, renCt, not_false_eq_true, ti3, ti4, ti5, ti22, ti25, ti42, regAt, body5, Try.f5, ↓exq_cd cd_c5_49, ↓exq_cd cd_c5_50, ↓exq_cd cd_c5_52, ↓exq_cd cd_c5_53, ↓exq_cd cd_c5_54, ↓exq_cd cd_c5_51, ↓exq_cd cd_c5_56, ↓exq_cd cd_c5_58, ↓exq_cd cd_c5_59, ↓exq_cd cd_c5_57, ↓exq_cd cd_c5_63, ↓exq_cd cd_c5_65, ↓exq_cd cd_c5_66, ↓exq_cd cd_c5_64, ↓exq_cd cd_c5_76, ↓exq_cd cd_c5_77, ↓exq_cd cd_c5_78, ↓exq_cd cd_c5_79, ↓exq_cd cd_c5_80, ↓exq_cd cd_c5_81, ↓exq_cd cd_c5_37, r5_52, r5_54, r5_58, r5_65, r5_76, r5_78, r5_80, r5_37]
  repeat (refine And.intro (a := (_ = true)) (by first | (simp; done) | (simp; omega)) ?_)
  refine Rch.fit1 hC [6, 2, 7, 8, 9] (tm' := tmF rs c (lg ++ b).length (i + 1) f) (bl' := layF ⟨lg ++ b, f, x, xf, room, m, some w, true⟩) rfl (by decide) rfl ⟨rfl, rfl, rfl, rfl, rfl, congrArg (fun x => AV.imr false 3 x c) (hf.ren _).symm, trivial⟩ (tmF_lv hf ..) ⟨⟨rfl, rfl⟩, ⟨rfl, rfl⟩, ⟨rfl, rfl⟩, ⟨rfl, rfl⟩, ⟨rfl, rfl⟩, trivial⟩ ?_
  exact hnx
set_option maxRecDepth 100000 in
set_option maxHeartbeats 8000000 in
theorem rA1e1t (C : Ctx) (hC : C.β.b = []) (rs : List (List AV)) (hf : FlatR rs) (c : Option Nat) (i : Nat) (firm : Int) (lg : List Int) (n : Int) (b : List Int) (cb : Option Nat) (f : Int) (x : List Int) (xf room m : Int) (w : Int) 
    (hnum : numOk ⟨lg, f, x, xf, room, m, some w, true⟩ = true) (hi : i ≤ 1000) (hlg : lg.length ≤ 20000) (hf0 : firm ≤ f) (hf2 : firm ≤ lg.length) (hf1 : f ≤ (lg).length)
    (hnx : Rch Try.prog (plOf pls) C ⟨[⟨5, 146, tmF rs c (lg).length (i + 1) f, [.lp c5_30, .blk 0, .code c5_26], none, [], []⟩], layF ⟨lg, f, x, xf, room, m, some w, true⟩⟩ KB.IsT) :
    Rch Try.prog (plOf pls) C ⟨[⟨5, 146, tmB rs c lg.length i firm, [.code c5_49, .blk 1, .code c5_37, .lp c5_30, .blk 0, .code c5_26], none, [], []⟩], layB lg 1 n b cb ⟨lg, f, x, xf, room, m, some w, true⟩⟩ KB.IsT := by
  have hg1 : ¬ (lg.length : Int) < firm := by omega
  have hg2 : ¬ f < firm := by omega
  have hg3 : ¬ (lg.length : Int) < f := by omega
  simp only [tmB, layB, fuQ, fuL]
  refine ExQ_ok [] 4000 plsOk kF_ok ?_
  (try rw [exh]); simp (maxSteps := 4000000) only [kF, kF0, kDk, ktO, ktW, objK, objB, updT, mapB, rhoN, mrk, readK, osK, osRead, findD, mLen, mFirm, mUp, rdV, rdL, layD, fuP, fuL, hnum, List.nodup_cons, List.mem_cons, List.not_mem_nil, List.take_succ_cons, List.take_zero, KB.bff, not_false_eq_true, List.drop_zero, hg1, hg2, hg3, Int.lt_irrefl, stops, inK, stepF, frsF, frF, itemF, codeF, condF, opsF, opsW, opF, callO, wtS, gdst, gdl, sopF, pv, bltF, callF, calleeS, p_move, p_assign, p_pick, p_binOp, p_fieldAddr, p_extract, p_len, l_load, SY.get, SY.put, SY.ev, SY.mk, SY.nth, SY.lvl, SY.setl, dr, at1, rdC, rdCt, ar, bopInt, bopEq, isBl, bop, pickAV, killL, AV.scal, exq_go, exq_t, exq_f, ↓reduceIte, Nat.reduceLT, Nat.reduceEqDiff, Nat.reduceAdd, Nat.reduceSub, Bool.and_true, Bool.true_and, Bool.not_false, Bool.not_true, reduceCtorEq, true_and, List.map_cons, List.map_nil, Bool.and_self, List.drop_succ_cons, List.drop_zero, List.length_cons, List.length_nil, List.cons_append, List.nil_append, List.append_nil, Nat.zero_add, Nat.add_zero, Nat.zero_mul, Int.reduceEq, Int.reduceLE, decide_true, decide_false, ktOf, alive, lvB, ren, renL, renCt, not_false_eq_true, ti3, ti4, ti22, ti25, ti42, regAt, body5, Try.f5, ↓exq_cd cd_c5_49, ↓exq_cd cd_c5_50, ↓exq_cd cd_c5_52, ↓exq_cd cd_c5_53, ↓exq_cd cd_c5_51, ↓exq_cd cd_c5_56, ↓exq_cd cd_c5_58, ↓exq_cd cd_c5_59, ↓exq_cd cd_c5_57, ↓exq_cd cd_c5_63, ↓exq_cd cd_c5_65, ↓exq_cd cd_c5_66, ↓exq_cd cd_c5_64, ↓exq_cd cd_c5_76, ↓exq_cd cd_c5_77, ↓exq_cd cd_c5_78, ↓exq_cd cd_c5_79, ↓exq_cd cd_c5_80, ↓exq_cd cd_c5_81, ↓exq_cd cd_c5_37, r5_52, r5_58, r5_65, r5_76, r5_78, r5_80, r5_37]
  repeat (refine And.intro (a := (_ = true)) (by first | (simp; done) | (simp; omega)) ?_)
  refine Rch.fit1 hC [0, 2, 6, 7, 8] (tm' := tmF rs c (lg).length (i + 1) f) (bl' := layF ⟨lg, f, x, xf, room, m, some w, true⟩) rfl (by decide) rfl ⟨rfl, rfl, rfl, rfl, rfl, congrArg (fun x => AV.imr false 3 x c) (hf.ren _).symm, trivial⟩ (tmF_lv hf ..) ⟨⟨rfl, rfl⟩, ⟨rfl, rfl⟩, ⟨rfl, rfl⟩, ⟨rfl, rfl⟩, ⟨rfl, rfl⟩, trivial⟩ ?_
  exact hnx
set_option maxRecDepth 100000 in
set_option maxHeartbeats 8000000 in
theorem rC1t (C : Ctx) (hC : C.β.b = []) (rs : List (List AV)) (hf : FlatR rs) (c : Option Nat) (i : Nat) (firm : Int) (lg : List Int) (n : Int) (b : List Int) (cb : Option Nat) (f : Int) (x : List Int) (xf room m : Int) (w : Int) (k : Int) (h0 : ¬ k = 0) (h1 : ¬ k = 1) (h7 : ¬ k = 7) 
    (hnum : numOk ⟨lg, f, x, xf, room, m, some w, true⟩ = true) (hi : i ≤ 1000) (hlg : lg.length ≤ 20000) (hf0 : firm ≤ f) (hf2 : firm ≤ lg.length) (hf1 : f ≤ (lg).length)
    (hnx : Rch Try.prog (plOf pls) C ⟨[⟨5, 146, tmF rs c (lg).length (i + 1) f, [.lp c5_30, .blk 0, .code c5_26], none, [], []⟩], layF ⟨lg, f, x, xf, room, m, some w, true⟩⟩ KB.IsT) :
    Rch Try.prog (plOf pls) C ⟨[⟨5, 146, tmB rs c lg.length i firm, [.code c5_49, .blk 1, .code c5_37, .lp c5_30, .blk 0, .code c5_26], none, [], []⟩], layB lg k n b cb ⟨lg, f, x, xf, room, m, some w, true⟩⟩ KB.IsT := by
  have hg1 : ¬ (lg.length : Int) < firm := by omega
  have hg2 : ¬ f < firm := by omega
  have hg3 : ¬ (lg.length : Int) < f := by omega
  simp only [tmB, layB, fuQ, fuL]
  refine ExQ_ok [] 4000 plsOk kF_ok ?_
  (try rw [exh]); simp (maxSteps := 4000000) only [kF, kF0, kDk, ktO, ktW, objK, objB, updT, mapB, rhoN, mrk, readK, osK, osRead, findD, mLen, mFirm, mUp, rdV, rdL, layD, fuP, fuL, hnum, List.nodup_cons, List.mem_cons, List.not_mem_nil, List.take_succ_cons, List.take_zero, KB.bff, not_false_eq_true, List.drop_zero, hg1, hg2, hg3, h0, h1, h7, Int.lt_irrefl, stops, inK, stepF, frsF, frF, itemF, codeF, condF, opsF, opsW, opF, callO, wtS, gdst, gdl, sopF, pv, bltF, callF, calleeS, p_move, p_assign, p_pick, p_binOp, p_fieldAddr, p_extract, p_len, l_load, SY.get, SY.put, SY.ev, SY.mk, SY.nth, SY.lvl, SY.setl, dr, at1, rdC, rdCt, ar, bopInt, bopEq, isBl, bop, pickAV, killL, AV.scal, exq_go, exq_f, ↓reduceIte, Nat.reduceLT, Nat.reduceEqDiff, Nat.reduceAdd, Nat.reduceSub, Bool.and_true, Bool.true_and, Bool.not_false, Bool.not_true, reduceCtorEq, true_and, List.map_cons, List.map_nil, Bool.and_self, List.drop_succ_cons, List.drop_zero, List.length_cons, List.length_nil, List.cons_append, List.nil_append, List.append_nil, Nat.zero_add, Nat.add_zero, Nat.zero_mul, Int.reduceEq, Int.reduceLE, decide_true, decide_false, ktOf, alive, lvB, ren, renL, renCt, not_false_eq_true, ti3, ti4, ti22, ti25, ti42, regAt, body5, Try.f5, ↓exq_cd cd_c5_49, ↓exq_cd cd_c5_50, ↓exq_cd cd_c5_52, ↓exq_cd cd_c5_53, ↓exq_cd cd_c5_51, ↓exq_cd cd_c5_56, ↓exq_cd cd_c5_58, ↓exq_cd cd_c5_59, ↓exq_cd cd_c5_57, ↓exq_cd cd_c5_63, ↓exq_cd cd_c5_65, ↓exq_cd cd_c5_66, ↓exq_cd cd_c5_64, ↓exq_cd cd_c5_76, ↓exq_cd cd_c5_77, ↓exq_cd cd_c5_78, ↓exq_cd cd_c5_79, ↓exq_cd cd_c5_80, ↓exq_cd cd_c5_81, ↓exq_cd cd_c5_37, r5_52, r5_58, r5_65, r5_76, r5_78, r5_80, r5_37]
  repeat (refine And.intro (a := (_ = true)) (by first | (simp; done) | (simp; omega)) ?_)
  refine Rch.fit1 hC [0, 2, 6, 7, 8] (tm' := tmF rs c (lg).length (i + 1) f) (bl' := layF ⟨lg, f, x, xf, room, m, some w, true⟩) rfl (by decide) rfl ⟨rfl, rfl, rfl, rfl, rfl, congrArg (fun x => AV.imr false 3 x c) (hf.ren _).symm, trivial⟩ (tmF_lv hf ..) ⟨⟨rfl, rfl⟩, ⟨rfl, rfl⟩, ⟨rfl, rfl⟩, ⟨rfl, rfl⟩, ⟨rfl, rfl⟩, trivial⟩ ?_
  exact hnx
set_option maxRecDepth 100000 in
set_option maxHeartbeats 8000000 in
theorem rD1t (C : Ctx) (hC : C.β.b = []) (rs : List (List AV)) (hf : FlatR rs) (c : Option Nat) (i : Nat) (firm : Int) (lg : List Int) (n : Int) (b : List Int) (cb : Option Nat) (f : Int) (x : List Int) (xf room m : Int) (w : Int) (hn : n < 0) 
    (hnum : numOk ⟨lg, f, x, xf, room, m, some w, true⟩ = true) (hi : i ≤ 1000) (hlg : lg.length ≤ 20000) (hf0 : firm ≤ f) (hf2 : firm ≤ lg.length) (hf1 : f ≤ (lg).length)
    (hnx : Rch Try.prog (plOf pls) C ⟨[⟨5, 146, tmF rs c (lg).length (i + 1) f, [.lp c5_30, .blk 0, .code c5_26], none, [], []⟩], layF ⟨lg, f, x, xf, room, m, some w, true⟩⟩ KB.IsT) :
    Rch Try.prog (plOf pls) C ⟨[⟨5, 146, tmB rs c lg.length i firm, [.code c5_49, .blk 1, .code c5_37, .lp c5_30, .blk 0, .code c5_26], none, [], []⟩], layB lg 7 n b cb ⟨lg, f, x, xf, room, m, some w, true⟩⟩ KB.IsT := by
  have hg1 : ¬ (lg.length : Int) < firm := by omega
  have hg2 : ¬ f < firm := by omega
  have hg3 : ¬ (lg.length : Int) < f := by omega
  have hn2 : ¬ 0 ≤ n := by omega
  simp only [tmB, layB, fuQ, fuL]
  refine ExQ_ok [] 4000 plsOk kF_ok ?_
  (try rw [exh]); simp (maxSteps := 4000000) only [kF, kF0, kDk, ktO, ktW, objK, objB, updT, mapB, rhoN, mrk, readK, osK, osRead, findD, mLen, mFirm, mUp, rdV, rdL, layD, fuP, fuL, hnum, List.nodup_cons, List.mem_cons, List.not_mem_nil, List.take_succ_cons, List.take_zero, KB.bff, not_false_eq_true, List.drop_zero, hg1, hg2, hg3, hn2, Int.lt_irrefl, stops, inK, stepF, frsF, frF, itemF, codeF, condF, opsF, opsW, opF, callO, wtS, gdst, gdl, sopF, pv, bltF, callF, calleeS, p_move, p_assign, p_pick, p_binOp, p_fieldAddr, p_extract, p_len, l_load, SY.get, SY.put, SY.ev, SY.mk, SY.nth, SY.lvl, SY.setl, dr, at1, rdC, rdCt, ar, bopInt, bopEq, isBl, bop, pickAV, killL, AV.scal, exq_go, exq_t, exq_f, ↓reduceIte, Nat.reduceLT, Nat.reduceEqDiff, Nat.reduceAdd, Nat.reduceSub, Bool.and_true, Bool.true_and, Bool.not_false, Bool.not_true, reduceCtorEq, true_and, List.map_cons, List.map_nil, Bool.and_self, List.drop_succ_cons, List.drop_zero, List.length_cons, List.length_nil, List.cons_append, List.nil_append, List.append_nil, Nat.zero_add, Nat.add_zero, Nat.zero_mul, Int.reduceEq, Int.reduceLE, decide_true, decide_false, ktOf, alive, lvB, ren, renL, renCt, not_false_eq_true, ti3, ti4, ti22, ti25, ti42, regAt, body5, Try.f5, ↓exq_cd cd_c5_49, ↓exq_cd cd_c5_50, ↓exq_cd cd_c5_52, ↓exq_cd cd_c5_53, ↓exq_cd cd_c5_51, ↓exq_cd cd_c5_56, ↓exq_cd cd_c5_58, ↓exq_cd cd_c5_59, ↓exq_cd cd_c5_57, ↓exq_cd cd_c5_63, ↓exq_cd cd_c5_65, ↓exq_cd cd_c5_66, ↓exq_cd cd_c5_64, ↓exq_cd cd_c5_76, ↓exq_cd cd_c5_77, ↓exq_cd cd_c5_78, ↓exq_cd cd_c5_79, ↓exq_cd cd_c5_80, ↓exq_cd cd_c5_81, ↓exq_cd cd_c5_37, r5_52, r5_58, r5_65, r5_76, r5_78, r5_80, r5_37]
  repeat (refine And.intro (a := (_ = true)) (by first | (simp; done) | (simp; omega)) ?_)
  refine Rch.fit1 hC [0, 2, 6, 7, 8] (tm' := tmF rs c (lg).length (i + 1) f) (bl' := layF ⟨lg, f, x, xf, room, m, some w, true⟩) rfl (by decide) rfl ⟨rfl, rfl, rfl, rfl, rfl, congrArg (fun x => AV.imr false 3 x c) (hf.ren _).symm, trivial⟩ (tmF_lv hf ..) ⟨⟨rfl, rfl⟩, ⟨rfl, rfl⟩, ⟨rfl, rfl⟩, ⟨rfl, rfl⟩, ⟨rfl, rfl⟩, trivial⟩ ?_
  exact hnx
set_option maxRecDepth 100000 in
set_option maxHeartbeats 8000000 in
theorem rA0g1f (C : Ctx) (hC : C.β.b = []) (rs : List (List AV)) (hf : FlatR rs) (c : Option Nat) (i : Nat) (firm : Int) (lg : List Int) (n : Int) (b : List Int) (cb : Option Nat) (f : Int) (x : List Int) (xf room m : Int) (w : Int) (hb0 : 0 < b.length) (hb2 : b.length ≤ 200) 
    (hnum : numOk ⟨lg ++ b, f, x, xf, room, m, some w, false⟩ = true) (hi : i ≤ 1000) (hlg : lg.length ≤ 20000) (hf0 : firm ≤ f) (hf2 : firm ≤ lg.length) (hf1 : f ≤ (lg ++ b).length)
    (hnx : Rch Try.prog (plOf pls) C ⟨[⟨5, 146, tmF rs c (lg ++ b).length (i + 1) f, [.lp c5_30, .blk 0, .code c5_26], none, [], []⟩], layF ⟨lg ++ b, f, x, xf, room, m, some w, false⟩⟩ KB.IsT) :
    Rch Try.prog (plOf pls) C ⟨[⟨5, 146, tmB rs c lg.length i firm, [.code c5_49, .blk 1, .code c5_37, .lp c5_30, .blk 0, .code c5_26], none, [], []⟩], layB lg 0 n b cb ⟨lg ++ b, f, x, xf, room, m, some w, false⟩⟩ KB.IsT := by
  have hg : (lg.length : Int) < (lg ++ b).length := by rw [List.length_append]; omega
  have hg1 : ¬ ((lg ++ b).length : Int) < firm := by rw [List.length_append]; omega
  have hg2 : ¬ f < firm := by omega
  have hg3 : ¬ ((lg ++ b).length : Int) < f := by omega
  have hll : (lg ++ b).length = lg.length + b.length := List.length_append
  simp only [tmB, layB, fuQ, fuL]
  refine ExQ_ok [] 4000 plsOk kF_ok ?_
  (try rw [exh]); simp (maxSteps := 4000000) only [kF, kF0, kDk, ktO, ktW, objK, objB, updT, mapB, rhoN, mrk, readK, osK, osRead, findD, mLen, mFirm, mUp, rdV, rdL, layD, fuP, fuL, KB.sSaB, KB.sSaB0, mapI, nilN, hnum, List.nodup_cons, List.mem_cons, List.not_mem_nil, List.take_succ_cons, List.take_zero, KB.btt, take_self, not_false_eq_true, List.drop_zero, hg, hg1, hg2, hg3, Int.lt_irrefl, stops, inK, stepF, frsF, frF, itemF, codeF, condF, opsF, opsW, opF, callO, wtS, gdst, gdl, sopF, pv, evq, bltF, callF, calleeS, quiet, p_move, p_assign, p_pick, p_binOp, p_unOp, p_fieldAddr, p_extract, p_len, l_load, roomN, appNN, srcN, dstN, e_append, SY.get, SY.put, SY.ev, SY.mk, SY.nth, SY.lvl, SY.setl, dr, at1, rdC, rdCt, ar, bopInt, bopEq, isBl, bop, pickAV, numsAt, killO, srcN, dstN, killL, AV.scal, exq_go, exq_t, exq_f, ↓reduceIte, Nat.reduceLT, Nat.reduceEqDiff, Nat.reduceAdd, Nat.reduceSub, Bool.and_true, Bool.true_and, Bool.not_false, Bool.not_true, reduceCtorEq, true_and, Bool.false_eq_true, List.map_cons, List.map_nil, Bool.and_self, List.drop_succ_cons, List.drop_zero, List.length_cons, List.length_nil, List.cons_append, List.nil_append, List.append_nil, Nat.zero_add, Nat.add_zero, Nat.zero_mul, Nat.mul_one, Int.reduceEq, Int.reduceLE, decide_true, decide_false, ktOf, conK, alive, lndL, lnd, lvB, okBls, shB, ren, renL, renCt, not_false_eq_true, ti3, ti4, ti5, ti22, ti25, ti42, regAt, body5, Try.f5, ↓exq_cd cd_c5_49, ↓exq_cd cd_c5_50, ↓exq_cd cd_c5_52, ↓exq_cd cd_c5_53, ↓exq_cd cd_c5_54, ↓exq_cd cd_c5_51, ↓exq_cd cd_c5_56, ↓exq_cd cd_c5_58, ↓exq_cd cd_c5_59, ↓exq_cd cd_c5_57, ↓exq_cd cd_c5_63, ↓exq_cd cd_c5_65, ↓exq_cd cd_c5_66, ↓exq_cd cd_c5_64, ↓exq_cd cd_c5_76, ↓exq_cd cd_c5_77, ↓exq_cd cd_c5_78, ↓exq_cd cd_c5_79, ↓exq_cd cd_c5_80, ↓exq_cd cd_c5_81, ↓exq_cd cd_c5_37, r5_52, r5_54, r5_58, r5_65, r5_76, r5_78, r5_80, r5_37]
  repeat (refine And.intro (a := (_ = true)) (by first | (simp; done) | (simp; omega)) ?_)
  refine Rch.fit1 hC [6, 2, 7, 8, 9] (tm' := tmF rs c (lg ++ b).length (i + 1) f) (bl' := layF ⟨lg ++ b, f, x, xf, room, m, some w, false⟩) rfl (by decide) rfl ⟨rfl, rfl, rfl, rfl, rfl, congrArg (fun x => AV.imr false 3 x c) (hf.ren _).symm, trivial⟩ (tmF_lv hf ..) ⟨⟨rfl, rfl⟩, ⟨rfl, rfl⟩, ⟨rfl, rfl⟩, ⟨rfl, rfl⟩, ⟨rfl, rfl⟩, trivial⟩ ?_
  exact hnx
set_option maxRecDepth 100000 in
set_option maxHeartbeats 8000000 in
theorem rA0e1f (C : Ctx) (hC : C.β.b = []) (rs : List (List AV)) (hf : FlatR rs) (c : Option Nat) (i : Nat) (firm : Int) (lg : List Int) (n : Int) (b : List Int) (cb : Option Nat) (f : Int) (x : List Int) (xf room m : Int) (w : Int) 
    (hnum : numOk ⟨lg, f, x, xf, room, m, some w, false⟩ = true) (hi : i ≤ 1000) (hlg : lg.length ≤ 20000) (hf0 : firm ≤ f) (hf2 : firm ≤ lg.length) (hf1 : f ≤ (lg).length)
    (hnx : Rch Try.prog (plOf pls) C ⟨[⟨5, 146, tmF rs c (lg).length (i + 1) f, [.lp c5_30, .blk 0, .code c5_26], none, [], []⟩], layF ⟨lg, f, x, xf, room, m, some w, false⟩⟩ KB.IsT) :
    Rch Try.prog (plOf pls) C ⟨[⟨5, 146, tmB rs c lg.length i firm, [.code c5_49, .blk 1, .code c5_37, .lp c5_30, .blk 0, .code c5_26], none, [], []⟩], layB lg 0 n b cb ⟨lg, f, x, xf, room, m, some w, false⟩⟩ KB.IsT := by
  have hg1 : ¬ (lg.length : Int) < firm := by omega
  have hg2 : ¬ f < firm := by omega
  have hg3 : ¬ (lg.length : Int) < f := by omega
  simp only [tmB, layB, fuQ, fuL]
  refine ExQ_ok [] 4000 plsOk kF_ok ?_
  (try rw [exh]); simp (maxSteps := 4000000) only [kF, kF0, kDk, ktO, ktW, objK, objB, updT, mapB, rhoN, mrk, readK, osK, osRead, findD, mLen, mFirm, mUp, rdV, rdL, layD, fuP, fuL, KB.sSaB, KB.sSaB0, mapI, nilN, hnum, List.nodup_cons, List.mem_cons, List.not_mem_nil, List.take_succ_cons, List.take_zero, KB.btt, take_self, not_false_eq_true, List.drop_zero, hg1, hg2, hg3, Int.lt_irrefl, stops, inK, stepF, frsF, frF, itemF, codeF, condF, opsF, opsW, opF, callO, wtS, gdst, gdl, sopF, pv, bltF, callF, calleeS, p_move, p_assign, p_pick, p_binOp, p_unOp, p_fieldAddr, p_extract, p_len, l_load, SY.get, SY.put, SY.ev, SY.mk, SY.nth, SY.lvl, SY.setl, dr, at1, rdC, rdCt, ar, bopInt, bopEq, isBl, bop, pickAV, killL, AV.scal, exq_go, exq_t, exq_f, ↓reduceIte, Nat.reduceLT, Nat.reduceEqDiff, Nat.reduceAdd, Nat.reduceSub, Bool.and_true, Bool.true_and, Bool.not_false, Bool.not_true, reduceCtorEq, true_and, Bool.false_eq_true, List.map_cons, List.map_nil, Bool.and_self, List.drop_succ_cons, List.drop_zero, List.length_cons, List.length_nil, List.cons_append, List.nil_append, List.append_nil, Nat.zero_add, Nat.add_zero, Nat.zero_mul, Int.reduceEq, Int.reduceLE, decide_true, decide_false, ktOf, conK, alive, lndL, lnd, lvB, okBls, shB, ren, renL, renCt, not_false_eq_true, ti3, ti4, ti22, ti25, ti42, regAt, body5, Try.f5, ↓exq_cd cd_c5_49, ↓exq_cd cd_c5_50, ↓exq_cd cd_c5_52, ↓exq_cd cd_c5_53, ↓exq_cd cd_c5_51, ↓exq_cd cd_c5_56, ↓exq_cd cd_c5_58, ↓exq_cd cd_c5_59, ↓exq_cd cd_c5_57, ↓exq_cd cd_c5_63, ↓exq_cd cd_c5_65, ↓exq_cd cd_c5_66, ↓exq_cd cd_c5_64, ↓exq_cd cd_c5_76, ↓exq_cd cd_c5_77, ↓exq_cd cd_c5_78, ↓exq_cd cd_c5_79, ↓exq_cd cd_c5_80, ↓exq_cd cd_c5_81, ↓exq_cd cd_c5_37, r5_52, r5_58, r5_65, r5_76, r5_78, r5_80, r5_37]
  repeat (refine And.intro (a := (_ = true)) (by first | (simp; done) | (simp; omega)) ?_)
  refine Rch.fit1 hC [0, 2, 6, 7, 8] (tm' := tmF rs c (lg).length (i + 1) f) (bl' := layF ⟨lg, f, x, xf, room, m, some w, false⟩) rfl (by decide) rfl ⟨rfl, rfl, rfl, rfl, rfl, congrArg (fun x => AV.imr false 3 x c) (hf.ren _).symm, trivial⟩ (tmF_lv hf ..) ⟨⟨rfl, rfl⟩, ⟨rfl, rfl⟩, ⟨rfl, rfl⟩, ⟨rfl, rfl⟩, ⟨rfl, rfl⟩, trivial⟩ ?_
  exact hnx
set_option maxRecDepth 100000 in
set_option maxHeartbeats 8000000 in
theorem rA1g1f (C : Ctx) (hC : C.β.b = []) (rs : List (List AV)) (hf : FlatR rs) (c : Option Nat) (i : Nat) (firm : Int) (lg : List Int) (n : Int) (b : List Int) (cb : Option Nat) (f : Int) (x : List Int) (xf room m : Int) (w : Int) (hb0 : 0 < b.length) (hb2 : b.length ≤ 200) 
    (hnum : numOk ⟨lg ++ b, f, x, xf, room, m, some w, false⟩ = true) (hi : i ≤ 1000) (hlg : lg.length ≤ 20000) (hf0 : firm ≤ f) (hf2 : firm ≤ lg.length) (hf1 : f ≤ (lg ++ b).length)
    (hnx : Rch Try.prog (plOf pls) C ⟨[⟨5, 146, tmF rs c (lg ++ b).length (i + 1) f, [.lp c5_30, .blk 0, .code c5_26], none, [], []⟩], layF ⟨lg ++ b, f, x, xf, room, m, some w, false⟩⟩ KB.IsT) :
    Rch Try.prog (plOf pls) C ⟨[⟨5, 146, tmB rs c lg.length i firm, [.code c5_49, .blk 1, .code c5_37, .lp c5_30, .blk 0, .code c5_26], none, [], []⟩], layB lg 1 n b cb ⟨lg ++ b, f, x, xf, room, m, some w, false⟩⟩ KB.IsT := by
  have hg : (lg.length : Int) < (lg ++ b).length := by rw [List.length_append]; omega
  have hg1 : ¬ ((lg ++ b).length : Int) < firm := by rw [List.length_append]; omega
  have hg2 : ¬ f < firm := by omega
  have hg3 : ¬ ((lg ++ b).length : Int) < f := by omega
  have hll : (lg ++ b).length = lg.length + b.length := List.length_append
  simp only [tmB, layB, fuQ, fuL]
  refine ExQ_ok [] 4000 plsOk kF_ok ?_
  (try rw [exh]); simp (maxSteps := 4000000) only [kF, kF0, kDk, ktO, ktW, objK, objB, updT, mapB, rhoN, mrk, readK, osK, osRead, findD, mLen, mFirm, mUp, rdV, rdL, layD, fuP, fuL, KB.sSaB, KB.sSaB0, mapI, nilN, hnum, List.nodup_cons, List.mem_cons, List.not_mem_nil, List.take_succ_cons, List.take_zero, KB.btt, take_self, not_false_eq_true, List.drop_zero, hg, hg1, hg2, hg3, Int.lt_irrefl, stops, inK, stepF, frsF, frF, itemF, codeF, condF, opsF, opsW, opF, callO, wtS, gdst, gdl, sopF, pv, evq, bltF, callF, calleeS, quiet, p_move, p_assign, p_pick, p_binOp, p_unOp, p_fieldAddr, p_extract, p_len, l_load, roomN, appNN, srcN, dstN, e_append, SY.get, SY.put, SY.ev, SY.mk, SY.nth, SY.lvl, SY.setl, dr, at1, rdC, rdCt, ar, bopInt, bopEq, isBl, bop, pickAV, numsAt, killO, srcN, dstN, killL, AV.scal, exq_go, exq_t, exq_f, ↓reduceIte, Nat.reduceLT, Nat.reduceEqDiff, Nat.reduceAdd, Nat.reduceSub, Bool.and_true, Bool.true_and, Bool.not_false, Bool.not_true, reduceCtorEq, true_and, Bool.false_eq_true, List.map_cons, List.map_nil, Bool.and_self, List.drop_succ_cons, List.drop_zero, List.length_cons, List.length_nil, List.cons_append, List.nil_append, List.append_nil, Nat.zero_add, Nat.add_zero, Nat.zero_mul, Nat.mul_one, Int.reduceEq, Int.reduceLE, decide_true, decide_false, ktOf, conK, alive, lndL, lnd, lvB, okBls, shB, ren, renL, renCt, not_false_eq_true, ti3, ti4, ti5, ti22, ti25, ti42, regAt, body5, Try.f5, ↓exq_cd cd_c5_49, ↓exq_cd cd_c5_50, ↓exq_cd cd_c5_52, ↓exq_cd cd_c5_53, ↓exq_cd cd_c5_54, ↓exq_cd cd_c5_51, ↓exq_cd cd_c5_56, ↓exq_cd cd_c5_58, ↓exq_cd cd_c5_59, ↓exq_cd cd_c5_57, ↓exq_cd cd_c5_63, ↓exq_cd cd_c5_65, ↓exq_cd cd_c5_66, ↓exq_cd cd_c5_64, ↓exq_cd cd_c5_76, ↓exq_cd cd_c5_77, ↓exq_cd cd_c5_78, ↓exq_cd cd_c5_79, ↓exq_cd cd_c5_80, ↓exq_cd cd_c5_81, ↓exq_cd cd_c5_37, r5_52, r5_54, r5_58, r5_65, r5_76, r5_78, r5_80, r5_37]
  repeat (refine And.intro (a := (_ = true)) (by first | (simp; done) | (simp; omega)) ?_)
  refine Rch.fit1 hC [6, 2, 7, 8, 9] (tm' := tmF rs c (lg ++ b).length (i + 1) f) (bl' := layF ⟨lg ++ b, f, x, xf, room, m, some w, false⟩) rfl (by decide) rfl ⟨rfl, rfl, rfl, rfl, rfl, congrArg (fun x => AV.imr false 3 x c) (hf.ren _).symm, trivial⟩ (tmF_lv hf ..) ⟨⟨rfl, rfl⟩, ⟨rfl, rfl⟩, ⟨rfl, rfl⟩, ⟨rfl, rfl⟩, ⟨rfl, rfl⟩, trivial⟩ ?_
  exact hnx
set_option maxRecDepth 100000 in
set_option maxHeartbeats 8000000 in
theorem rA1e1f (C : Ctx) (hC : C.β.b = []) (rs : List (List AV)) (hf : FlatR rs) (c : Option Nat) (i : Nat) (firm : Int) (lg : List Int) (n : Int) (b : List Int) (cb : Option Nat) (f : Int) (x : List Int) (xf room m : Int) (w : Int) 
    (hnum : numOk ⟨lg, f, x, xf, room, m, some w, false⟩ = true) (hi : i ≤ 1000) (hlg : lg.length ≤ 20000) (hf0 : firm ≤ f) (hf2 : firm ≤ lg.length) (hf1 : f ≤ (lg).length)
    (hnx : Rch Try.prog (plOf pls) C ⟨[⟨5, 146, tmF rs c (lg).length (i + 1) f, [.lp c5_30, .blk 0, .code c5_26], none, [], []⟩], layF ⟨lg, f, x, xf, room, m, some w, false⟩⟩ KB.IsT) :
    Rch Try.prog (plOf pls) C ⟨[⟨5, 146, tmB rs c lg.length i firm, [.code c5_49, .blk 1, .code c5_37, .lp c5_30, .blk 0, .code c5_26], none, [], []⟩], layB lg 1 n b cb ⟨lg, f, x, xf, room, m, some w, false⟩⟩ KB.IsT := by
  have hg1 : ¬ (lg.length : Int) < firm := by omega
  have hg2 : ¬ f < firm := by omega
  have hg3 : ¬ (lg.length : Int) < f := by omega
  simp only [tmB, layB, fuQ, fuL]
  refine ExQ_ok [] 4000 plsOk kF_ok ?_
  (try rw [exh]); simp (maxSteps := 4000000) only [kF, kF0, kDk, ktO, ktW, objK, objB, updT, mapB, rhoN, mrk, readK, osK, osRead, findD, mLen, mFirm, mUp, rdV, rdL, layD, fuP, fuL, KB.sSaB, KB.sSaB0, mapI, nilN, hnum, List.nodup_cons, List.mem_cons, List.not_mem_nil, List.take_succ_cons, List.take_zero, KB.btt, take_self, not_false_eq_true, List.drop_zero, hg1, hg2, hg3, Int.lt_irrefl, stops, inK, stepF, frsF, frF, itemF, codeF, condF, opsF, opsW, opF, callO, wtS, gdst, gdl, sopF, pv, bltF, callF, calleeS, p_move, p_assign, p_pick, p_binOp, p_unOp, p_fieldAddr, p_extract, p_len, l_load, SY.get, SY.put, SY.ev, SY.mk, SY.nth, SY.lvl, SY.setl, dr, at1, rdC, rdCt, ar, bopInt, bopEq, isBl, bop, pickAV, killL, AV.scal, exq_go, exq_t, exq_f, ↓reduceIte, Nat.reduceLT, Nat.reduceEqDiff, Nat.reduceAdd, Nat.reduceSub, Bool.and_true, Bool.true_and, Bool.not_false, Bool.not_true, reduceCtorEq, true_and, Bool.false_eq_true, List.map_cons, List.map_nil, Bool.and_self, List.drop_succ_cons, List.drop_zero, List.length_cons, List.length_nil, List.cons_append, List.nil_append, List.append_nil, Nat.zero_add, Nat.add_zero, Nat.zero_mul, Int.reduceEq, Int.reduceLE, decide_true, decide_false, ktOf, conK, alive, lndL, lnd, lvB, okBls, shB, ren, renL, renCt, not_false_eq_true, ti3, ti4, ti22, ti25, ti42, regAt, body5, Try.f5, ↓exq_cd cd_c5_49, ↓exq_cd cd_c5_50, ↓exq_cd cd_c5_52, ↓exq_cd cd_c5_53, ↓exq_cd cd_c5_51, ↓exq_cd cd_c5_56, ↓exq_cd cd_c5_58, ↓exq_cd cd_c5_59, ↓exq_cd cd_c5_57, ↓exq_cd cd_c5_63, ↓exq_cd cd_c5_65, ↓exq_cd cd_c5_66, ↓exq_cd cd_c5_64, ↓exq_cd cd_c5_76, ↓exq_cd cd_c5_77, ↓exq_cd cd_c5_78, ↓exq_cd cd_c5_79, ↓exq_cd cd_c5_80, ↓exq_cd cd_c5_81, ↓exq_cd cd_c5_37, r5_52, r5_58, r5_65, r5_76, r5_78, r5_80, r5_37]
  repeat (refine And.intro (a := (_ = true)) (by first | (simp; done) | (simp; omega)) ?_)
  refine Rch.fit1 hC [0, 2, 6, 7, 8] (tm' := tmF rs c (lg).length (i + 1) f) (bl' := layF ⟨lg, f, x, xf, room, m, some w, false⟩) rfl (by decide) rfl ⟨rfl, rfl, rfl, rfl, rfl, congrArg (fun x => AV.imr false 3 x c) (hf.ren _).symm, trivial⟩ (tmF_lv hf ..) ⟨⟨rfl, rfl⟩, ⟨rfl, rfl⟩, ⟨rfl, rfl⟩, ⟨rfl, rfl⟩, ⟨rfl, rfl⟩, trivial⟩ ?_
  exact hnx
set_option maxRecDepth 100000 in
set_option maxHeartbeats 8000000 in
theorem rC1f (C : Ctx) (hC : C.β.b = []) (rs : List (List AV)) (hf : FlatR rs) (c : Option Nat) (i : Nat) (firm : Int) (lg : List Int) (n : Int) (b : List Int) (cb : Option Nat) (f : Int) (x : List Int) (xf room m : Int) (w : Int) (k : Int) (h0 : ¬ k = 0) (h1 : ¬ k = 1) (h7 : ¬ k = 7) 
    (hnum : numOk ⟨lg, f, x, xf, room, m, some w, false⟩ = true) (hi : i ≤ 1000) (hlg : lg.length ≤ 20000) (hf0 : firm ≤ f) (hf2 : firm ≤ lg.length) (hf1 : f ≤ (lg).length)
    (hnx : Rch Try.prog (plOf pls) C ⟨[⟨5, 146, tmF rs c (lg).length (i + 1) f, [.lp c5_30, .blk 0, .code c5_26], none, [], []⟩], layF ⟨lg, f, x, xf, room, m, some w, false⟩⟩ KB.IsT) :
    Rch Try.prog (plOf pls) C ⟨[⟨5, 146, tmB rs c lg.length i firm, [.code c5_49, .blk 1, .code c5_37, .lp c5_30, .blk 0, .code c5_26], none, [], []⟩], layB lg k n b cb ⟨lg, f, x, xf, room, m, some w, false⟩⟩ KB.IsT := by
  have hg1 : ¬ (lg.length : Int) < firm := by omega
  have hg2 : ¬ f < firm := by omega
  have hg3 : ¬ (lg.length : Int) < f := by omega
  simp only [tmB, layB, fuQ, fuL]
  refine ExQ_ok [] 4000 plsOk kF_ok ?_
  (try rw [exh]); simp (maxSteps := 4000000) only [kF, kF0, kDk, ktO, ktW, objK, objB, updT, mapB, rhoN, mrk, readK, osK, osRead, findD, mLen, mFirm, mUp, rdV, rdL, layD, fuP, fuL, KB.sSaB, KB.sSaB0, mapI, nilN, hnum, List.nodup_cons, List.mem_cons, List.not_mem_nil, List.take_succ_cons, List.take_zero, KB.btt, take_self, not_false_eq_true, List.drop_zero, hg1, hg2, hg3, h0, h1, h7, Int.lt_irrefl, stops, inK, stepF, frsF, frF, itemF, codeF, condF, opsF, opsW, opF, callO, wtS, gdst, gdl, sopF, pv, bltF, callF, calleeS, p_move, p_assign, p_pick, p_binOp, p_unOp, p_fieldAddr, p_extract, p_len, l_load, SY.get, SY.put, SY.ev, SY.mk, SY.nth, SY.lvl, SY.setl, dr, at1, rdC, rdCt, ar, bopInt, bopEq, isBl, bop, pickAV, killL, AV.scal, exq_go, exq_t, exq_f, ↓reduceIte, Nat.reduceLT, Nat.reduceEqDiff, Nat.reduceAdd, Nat.reduceSub, Bool.and_true, Bool.true_and, Bool.not_false, Bool.not_true, reduceCtorEq, true_and, Bool.false_eq_true, List.map_cons, List.map_nil, Bool.and_self, List.drop_succ_cons, List.drop_zero, List.length_cons, List.length_nil, List.cons_append, List.nil_append, List.append_nil, Nat.zero_add, Nat.add_zero, Nat.zero_mul, Int.reduceLE, decide_true, decide_false, ktOf, conK, alive, lndL, lnd, lvB, okBls, shB, ren, renL, renCt, not_false_eq_true, ti3, ti4, ti22, ti25, ti42, regAt, body5, Try.f5, ↓exq_cd cd_c5_49, ↓exq_cd cd_c5_50, ↓exq_cd cd_c5_52, ↓exq_cd cd_c5_53, ↓exq_cd cd_c5_51, ↓exq_cd cd_c5_56, ↓exq_cd cd_c5_58, ↓exq_cd cd_c5_59, ↓exq_cd cd_c5_57, ↓exq_cd cd_c5_63, ↓exq_cd cd_c5_65, ↓exq_cd cd_c5_66, ↓exq_cd cd_c5_64, ↓exq_cd cd_c5_76, ↓exq_cd cd_c5_77, ↓exq_cd cd_c5_78, ↓exq_cd cd_c5_79, ↓exq_cd cd_c5_80, ↓exq_cd cd_c5_81, ↓exq_cd cd_c5_37, r5_52, r5_58, r5_65, r5_76, r5_78, r5_80, r5_37]
  repeat (refine And.intro (a := (_ = true)) (by first | (simp; done) | (simp; omega)) ?_)
  refine Rch.fit1 hC [0, 2, 6, 7, 8] (tm' := tmF rs c (lg).length (i + 1) f) (bl' := layF ⟨lg, f, x, xf, room, m, some w, false⟩) rfl (by decide) rfl ⟨rfl, rfl, rfl, rfl, rfl, congrArg (fun x => AV.imr false 3 x c) (hf.ren _).symm, trivial⟩ (tmF_lv hf ..) ⟨⟨rfl, rfl⟩, ⟨rfl, rfl⟩, ⟨rfl, rfl⟩, ⟨rfl, rfl⟩, ⟨rfl, rfl⟩, trivial⟩ ?_
  exact hnx
set_option maxRecDepth 100000 in
set_option maxHeartbeats 8000000 in
theorem rD1f (C : Ctx) (hC : C.β.b = []) (rs : List (List AV)) (hf : FlatR rs) (c : Option Nat) (i : Nat) (firm : Int) (lg : List Int) (n : Int) (b : List Int) (cb : Option Nat) (f : Int) (x : List Int) (xf room m : Int) (w : Int) (hn : n < 0) 
    (hnum : numOk ⟨lg, f, x, xf, room, m, some w, false⟩ = true) (hi : i ≤ 1000) (hlg : lg.length ≤ 20000) (hf0 : firm ≤ f) (hf2 : firm ≤ lg.length) (hf1 : f ≤ (lg).length)
    (hnx : Rch Try.prog (plOf pls) C ⟨[⟨5, 146, tmF rs c (lg).length (i + 1) f, [.lp c5_30, .blk 0, .code c5_26], none, [], []⟩], layF ⟨lg, f, x, xf, room, m, some w, false⟩⟩ KB.IsT) :
    Rch Try.prog (plOf pls) C ⟨[⟨5, 146, tmB rs c lg.length i firm, [.code c5_49, .blk 1, .code c5_37, .lp c5_30, .blk 0, .code c5_26], none, [], []⟩], layB lg 7 n b cb ⟨lg, f, x, xf, room, m, some w, false⟩⟩ KB.IsT := by
  have hg1 : ¬ (lg.length : Int) < firm := by omega
  have hg2 : ¬ f < firm := by omega
  have hg3 : ¬ (lg.length : Int) < f := by omega
  have hn2 : ¬ 0 ≤ n := by omega
  simp only [tmB, layB, fuQ, fuL]
  refine ExQ_ok [] 4000 plsOk kF_ok ?_
  (try rw [exh]); simp (maxSteps := 4000000) only [kF, kF0, kDk, ktO, ktW, objK, objB, updT, mapB, rhoN, mrk, readK, osK, osRead, findD, mLen, mFirm, mUp, rdV, rdL, layD, fuP, fuL, KB.sSaB, KB.sSaB0, mapI, nilN, hnum, List.nodup_cons, List.mem_cons, List.not_mem_nil, List.take_succ_cons, List.take_zero, KB.btt, take_self, not_false_eq_true, List.drop_zero, hg1, hg2, hg3, hn2, Int.lt_irrefl, stops, inK, stepF, frsF, frF, itemF, codeF, condF, opsF, opsW, opF, callO, wtS, gdst, gdl, sopF, pv, bltF, callF, calleeS, p_move, p_assign, p_pick, p_binOp, p_unOp, p_fieldAddr, p_extract, p_len, l_load, SY.get, SY.put, SY.ev, SY.mk, SY.nth, SY.lvl, SY.setl, dr, at1, rdC, rdCt, ar, bopInt, bopEq, isBl, bop, pickAV, killL, AV.scal, exq_go, exq_t, exq_f, ↓reduceIte, Nat.reduceLT, Nat.reduceEqDiff, Nat.reduceAdd, Nat.reduceSub, Bool.and_true, Bool.true_and, Bool.not_false, Bool.not_true, reduceCtorEq, true_and, Bool.false_eq_true, List.map_cons, List.map_nil, Bool.and_self, List.drop_succ_cons, List.drop_zero, List.length_cons, List.length_nil, List.cons_append, List.nil_append, List.append_nil, Nat.zero_add, Nat.add_zero, Nat.zero_mul, Int.reduceEq, Int.reduceLE, decide_true, decide_false, ktOf, conK, alive, lndL, lnd, lvB, okBls, shB, ren, renL, renCt, not_false_eq_true, ti3, ti4, ti22, ti25, ti42, regAt, body5, Try.f5, ↓exq_cd cd_c5_49, ↓exq_cd cd_c5_50, ↓exq_cd cd_c5_52, ↓exq_cd cd_c5_53, ↓exq_cd cd_c5_51, ↓exq_cd cd_c5_56, ↓exq_cd cd_c5_58, ↓exq_cd cd_c5_59, ↓exq_cd cd_c5_57, ↓exq_cd cd_c5_63, ↓exq_cd cd_c5_65, ↓exq_cd cd_c5_66, ↓exq_cd cd_c5_64, ↓exq_cd cd_c5_76, ↓exq_cd cd_c5_77, ↓exq_cd cd_c5_78, ↓exq_cd cd_c5_79, ↓exq_cd cd_c5_80, ↓exq_cd cd_c5_81, ↓exq_cd cd_c5_37, r5_52, r5_58, r5_65, r5_76, r5_78, r5_80, r5_37]
  repeat (refine And.intro (a := (_ = true)) (by first | (simp; done) | (simp; omega)) ?_)
  refine Rch.fit1 hC [0, 2, 6, 7, 8] (tm' := tmF rs c (lg).length (i + 1) f) (bl' := layF ⟨lg, f, x, xf, room, m, some w, false⟩) rfl (by decide) rfl ⟨rfl, rfl, rfl, rfl, rfl, congrArg (fun x => AV.imr false 3 x c) (hf.ren _).symm, trivial⟩ (tmF_lv hf ..) ⟨⟨rfl, rfl⟩, ⟨rfl, rfl⟩, ⟨rfl, rfl⟩, ⟨rfl, rfl⟩, ⟨rfl, rfl⟩, trivial⟩ ?_
  exact hnx
set_option maxRecDepth 100000 in
set_option maxHeartbeats 8000000 in
theorem rB1f (C : Ctx) (hC : C.β.b = []) (rs : List (List AV)) (hf : FlatR rs) (c : Option Nat) (i : Nat) (firm : Int) (lg : List Int) (n : Int) (b : List Int) (cb : Option Nat) (f : Int) (x : List Int) (xf room m : Int) (w : Int) (M : Nat) (hM : M ≤ lg.length) (hfM : f = M) (hn : 0 ≤ n) 
    (hnum : numOk ⟨lg.take M, f, x, xf, room, m, some w, false⟩ = true) (hi : i ≤ 1000) (hlg : lg.length ≤ 20000) (hf0 : firm ≤ f) (hf2 : firm ≤ lg.length) (hf1 : f ≤ (lg.take M).length)
    (hnx : Rch Try.prog (plOf pls) C ⟨[⟨5, 146, tmF rs c (lg.take M).length (i + 1) f, [.lp c5_30, .blk 0, .code c5_26], none, [], []⟩], layF ⟨lg.take M, f, x, xf, room, m, some w, false⟩⟩ KB.IsT) :
    Rch Try.prog (plOf pls) C ⟨[⟨5, 146, tmB rs c lg.length i firm, [.code c5_49, .blk 1, .code c5_37, .lp c5_30, .blk 0, .code c5_26], none, [], []⟩], layB lg 7 n b cb ⟨lg.take M, f, x, xf, room, m, some w, false⟩⟩ KB.IsT := by
  have htl : (lg.take M).length = M := by rw [List.length_take]; omega
  rw [htl] at hf1 hnx
  subst hfM
  have hg1 : ¬ (M : Int) < firm := by omega
  have hg3 : ¬ (lg.length : Int) < M := by omega
  have htt : (lg.take M).take M = lg.take M := by rw [List.take_take, Nat.min_self]
  simp only [tmB, layB, fuQ, fuL]
  refine ExQ_ok [] 4000 plsOk kF_ok ?_
  (try rw [exh]); simp (maxSteps := 4000000) only [kF, kF0, kDk, ktO, ktW, objK, objB, updT, mapB, rhoN, mrk, readK, osK, osRead, findD, mLen, mFirm, mUp, rdV, rdL, layD, fuP, fuL, KB.sSaB, KB.sSaB0, mapI, nilN, hnum, List.nodup_cons, List.mem_cons, List.not_mem_nil, List.take_succ_cons, List.take_zero, KB.btt, not_true_eq_false, not_false_eq_true, List.drop_zero, Int.toNat_natCast, hg1, hg3, hn, htl, htt, Int.lt_irrefl, stops, inK, stepF, frsF, frF, itemF, codeF, condF, opsF, opsW, opF, callO, wtS, gdst, gdl, sopF, pv, orl, bltF, callF, calleeS, p_move, p_assign, p_pick, p_binOp, p_unOp, p_fieldAddr, p_slice, p_extract, p_len, l_load, SY.get, SY.put, SY.ev, SY.mk, SY.nth, SY.lvl, SY.setl, dr, at1, rdC, rdCt, ar, bopInt, bopEq, isBl, bop, pickAV, bnd, subO, cutOf, okMx, killL, AV.scal, exq_go, exq_t, exq_f, ↓reduceIte, Nat.reduceLT, Nat.reduceEqDiff, Nat.reduceAdd, Nat.reduceSub, Bool.and_true, Bool.true_and, Bool.not_false, Bool.not_true, reduceCtorEq, true_and, Bool.false_eq_true, List.map_cons, List.map_nil, Bool.and_self, List.drop_succ_cons, List.drop_zero, List.length_cons, List.length_nil, List.cons_append, List.nil_append, Option.map_some, Option.map_none, List.append_nil, Nat.zero_add, Nat.add_zero, Nat.sub_zero, Nat.zero_mul, Int.toNat_natCast, Int.reduceEq, Int.reduceLE, decide_true, decide_false, Option.getD_none, ktOf, conK, alive, lndL, lnd, lvB, okBls, shB, ren, renL, renCt, not_false_eq_true, not_true_eq_false, ti3, ti4, ti22, ti25, ti42, regAt, body5, Try.f5, ↓exq_cd cd_c5_49, ↓exq_cd cd_c5_50, ↓exq_cd cd_c5_52, ↓exq_cd cd_c5_53, ↓exq_cd cd_c5_51, ↓exq_cd cd_c5_56, ↓exq_cd cd_c5_58, ↓exq_cd cd_c5_59, ↓exq_cd cd_c5_57, ↓exq_cd cd_c5_63, ↓exq_cd cd_c5_65, ↓exq_cd cd_c5_66, ↓exq_cd cd_c5_67, ↓exq_cd cd_c5_69, ↓exq_cd cd_c5_70, ↓exq_cd cd_c5_71, ↓exq_cd cd_c5_72, ↓exq_cd cd_c5_64, ↓exq_cd cd_c5_76, ↓exq_cd cd_c5_77, ↓exq_cd cd_c5_78, ↓exq_cd cd_c5_79, ↓exq_cd cd_c5_80, ↓exq_cd cd_c5_81, ↓exq_cd cd_c5_37, r5_52, r5_58, r5_65, r5_69, r5_71, r5_76, r5_78, r5_80, r5_37]
  repeat (refine And.intro (a := (_ = true)) (by first | (simp; done) | (simp; omega)) ?_)
  refine Rch.wk rfl (Wk.cut (l := 0) (n := M) rfl) ?_
  refine Rch.fit1 hC [0, 2, 6, 7, 8] (tm' := tmF rs c M (i + 1) M) (bl' := layF ⟨lg.take M, M, x, xf, room, m, some w, false⟩) rfl (by decide) rfl ⟨rfl, rfl, rfl, rfl, rfl, congrArg (fun x => AV.imr false 3 x c) (hf.ren _).symm, trivial⟩ (tmF_lv hf ..) ⟨⟨rfl, rfl⟩, ⟨by dsimp only; rw [htl]; rfl, rfl⟩, ⟨rfl, rfl⟩, ⟨rfl, rfl⟩, ⟨rfl, rfl⟩, trivial⟩ ?_
  exact hnx
end DF
end Go.Proofs.Ytmdepmhamefheaa
