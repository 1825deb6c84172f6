/- Members: the words of cmp.Compare, member.Check. -/
import Derived.Test.YtdanhpemheldlaaCd
import Derived.Test.YtdanhpemheldlaaPl
import Derived.Test.YtdanhpemheldlaaTi
import Derived.Test.YtdanhpemheldlaaSm
import Derived.KernelRfl
set_option linter.unusedSimpArgs false
set_option linter.unusedVariables false
-- FUNCTIONS 52 59 32
namespace Go.Proofs.Ytdanhpemheldlaa
open Go Go.SY
namespace MB
theorem plsOk : PlOk Try.prog (plOf pls) := plsB_ok (by kernel_rfl) (by kernel_rfl)
theorem noK : KOk Try.prog (plOf pls) (fun _ => none) := fun g c h => by cases h
end MB
def cmpI (x y : Int) : Int := if x < y then -1 else if y < x then 1 else 0
def sCmp : List AV → Option (Bool × AV × Bls)
  | [.v (.int .i64 x), .v (.int .i64 y)] => some (true, .v (.int .i64 (cmpI x y)), [])
  | _ => none
set_option maxRecDepth 100000 in
set_option maxHeartbeats 4000000 in
theorem cmp_run (C : Ctx) (x y : Int) : Rch Try.prog (plOf pls) C (conf0 52 ⟨20, [.tmp 4], code52⟩ [.v (.int .i64 x), .v (.int .i64 y)] []) (Res (.v (.int .i64 (cmpI x y))) []) := by
  refine ExQ_ok [] 2000 MB.plsOk MB.noK ?_
  simp only [conf0]
  by_cases h : x < y
  · have e : cmpI x y = -1 := by rw [cmpI, if_pos h]
    (try rw [exh]); simp (maxSteps := 4000000) only [h, stops, inK, stepF, frsF, frF, itemF, codeF, condF, opsF, opsW, opF, callO, stepS, wtS, sopF, pv, callF, calleeS, p_move, p_assign, p_binOp, SY.get, SY.put, SY.ev, SY.mk, SY.ini, bopInt, bop, enterS, leaveS, retS, finishS, killL, isDefs, resS, resAll, tup1, exq_go, exq_t, exq_f, ↓reduceIte, Nat.reduceLT, Nat.reduceLeDiff, Nat.reduceEqDiff, Nat.reduceAdd, List.contains_nil, reduceCtorEq, true_and, List.map_cons, List.map_nil, Bool.and_self, List.length_cons, List.length_nil, List.nil_append, List.append_nil, Nat.zero_add, Int.reduceLE, decide_true, decide_false, not_true_eq_false, ti3, regAt, fi52, body52, Try.f52, fi59, body59, Try.f59, ↓exq_cd cd_code52, ↓exq_cd cd_c52_1, ↓exq_cd cd_c52_2, ↓exq_cd cd_c52_3, ↓exq_cd cd_c52_4, ↓exq_cd cd_c52_5, ↓exq_cd cd_c52_6, ↓exq_cd cd_c52_7, ↓exq_cd cd_c52_9, ↓exq_cd cd_c52_10, ↓exq_cd cd_c52_8, ↓exq_cd cd_c52_21, ↓exq_cd cd_c52_23, ↓exq_cd cd_c52_24, ↓exq_cd cd_c52_22, ↓exq_cd cd_c52_28, ↓exq_cd cd_c52_30, ↓exq_cd cd_c52_31, ↓exq_cd cd_c52_32, ↓exq_cd cd_c52_34, ↓exq_cd cd_code59, ↓exq_cd cd_c59_1, ↓exq_cd cd_c59_2, ↓exq_cd cd_c59_3, r52_1, r52_3, r52_5, r52_9, r52_23, r52_30, r52_34, r59_1, r59_3]
    rw [e]
    exact Res.val _ _
  · by_cases h2 : y < x
    · have e : cmpI x y = 1 := by rw [cmpI, if_neg h, if_pos h2]
      (try rw [exh]); simp (maxSteps := 4000000) only [h, h2, stops, inK, stepF, frsF, frF, itemF, codeF, condF, opsF, opsW, opF, callO, stepS, wtS, sopF, pv, callF, calleeS, p_move, p_assign, p_binOp, SY.get, SY.put, SY.ev, SY.mk, SY.ini, bopInt, bop, enterS, leaveS, retS, finishS, killL, isDefs, resS, resAll, tup1, exq_go, exq_t, exq_f, ↓reduceIte, Nat.reduceLT, Nat.reduceLeDiff, Nat.reduceEqDiff, Nat.reduceAdd, List.contains_nil, reduceCtorEq, true_and, List.map_cons, List.map_nil, Bool.and_self, List.length_cons, List.length_nil, List.nil_append, List.append_nil, Nat.zero_add, Int.reduceLE, decide_true, decide_false, not_true_eq_false, ti3, regAt, fi52, body52, Try.f52, fi59, body59, Try.f59, ↓exq_cd cd_code52, ↓exq_cd cd_c52_1, ↓exq_cd cd_c52_2, ↓exq_cd cd_c52_3, ↓exq_cd cd_c52_4, ↓exq_cd cd_c52_5, ↓exq_cd cd_c52_6, ↓exq_cd cd_c52_7, ↓exq_cd cd_c52_9, ↓exq_cd cd_c52_10, ↓exq_cd cd_c52_8, ↓exq_cd cd_c52_21, ↓exq_cd cd_c52_23, ↓exq_cd cd_c52_24, ↓exq_cd cd_c52_22, ↓exq_cd cd_c52_28, ↓exq_cd cd_c52_30, ↓exq_cd cd_c52_31, ↓exq_cd cd_c52_29, ↓exq_cd cd_c52_35, ↓exq_cd cd_c52_37, ↓exq_cd cd_c52_38, ↓exq_cd cd_c52_39, ↓exq_cd cd_c52_41, ↓exq_cd cd_code59, ↓exq_cd cd_c59_1, ↓exq_cd cd_c59_2, ↓exq_cd cd_c59_3, r52_1, r52_3, r52_5, r52_9, r52_23, r52_30, r52_37, r52_41, r59_1, r59_3]
      rw [e]
      exact Res.val _ _
    · have e : cmpI x y = 0 := by rw [cmpI, if_neg h, if_neg h2]
      (try rw [exh]); simp (maxSteps := 4000000) only [h, h2, stops, inK, stepF, frsF, frF, itemF, codeF, condF, opsF, opsW, opF, callO, stepS, wtS, sopF, pv, callF, calleeS, p_move, p_assign, p_binOp, SY.get, SY.put, SY.ev, SY.mk, SY.ini, bopInt, bop, enterS, leaveS, retS, finishS, killL, isDefs, resS, resAll, tup1, exq_go, exq_f, ↓reduceIte, Nat.reduceLT, Nat.reduceLeDiff, Nat.reduceEqDiff, Nat.reduceAdd, List.contains_nil, reduceCtorEq, true_and, List.map_cons, List.map_nil, Bool.and_self, List.length_cons, List.length_nil, List.nil_append, List.append_nil, Nat.zero_add, Int.reduceLE, decide_true, decide_false, not_true_eq_false, ti3, regAt, fi52, body52, Try.f52, fi59, body59, Try.f59, ↓exq_cd cd_code52, ↓exq_cd cd_c52_1, ↓exq_cd cd_c52_2, ↓exq_cd cd_c52_3, ↓exq_cd cd_c52_4, ↓exq_cd cd_c52_5, ↓exq_cd cd_c52_6, ↓exq_cd cd_c52_7, ↓exq_cd cd_c52_9, ↓exq_cd cd_c52_10, ↓exq_cd cd_c52_8, ↓exq_cd cd_c52_21, ↓exq_cd cd_c52_23, ↓exq_cd cd_c52_24, ↓exq_cd cd_c52_22, ↓exq_cd cd_c52_28, ↓exq_cd cd_c52_30, ↓exq_cd cd_c52_31, ↓exq_cd cd_c52_29, ↓exq_cd cd_c52_35, ↓exq_cd cd_c52_37, ↓exq_cd cd_c52_38, ↓exq_cd cd_c52_36, ↓exq_cd cd_c52_42, ↓exq_cd cd_code59, ↓exq_cd cd_c59_1, ↓exq_cd cd_c59_2, ↓exq_cd cd_c59_3, r52_1, r52_3, r52_5, r52_9, r52_23, r52_30, r52_37, r52_42, r59_1, r59_3]
      rw [e]
      exact Res.val _ _
theorem cmp_ok : SpecOk Try.prog (plOf pls) 52 sCmp := by
  refine ⟨_, fi52, fun args r bl1 h => ?_⟩
  unfold sCmp at h
  split at h
  · simp only [Option.some.injEq, Prod.mk.injEq, true_and] at h
    obtain ⟨rfl, rfl⟩ := h
    exact ⟨by simp, fun C _ _ => cmp_run C _ _⟩
  · cases h
theorem two0 (x y : Int) : [x, y][0]?.getD 0 = x := rfl
theorem two1 (x y : Int) : [x, y][1]?.getD 0 = y := rfl
/-- May a word be? -/
def MemOk (a b c : Int) : Prop := 1 ≤ a ∧ a ≤ 64 ∧ 1 ≤ b ∧ b ≤ 4 ∧ 0 ≤ c ∧ c ≤ 2147483647
instance (a b c : Int) : Decidable (MemOk a b c) := by unfold MemOk; infer_instance
def chk (a b c : Int) : Int := if MemOk a b c then 0 else 2
theorem chk_pos {a b c : Int} (h : MemOk a b c) : chk a b c = 0 := if_pos h
theorem chk_neg {a b c : Int} (h : ¬ MemOk a b c) : chk a b c = 2 := if_neg h
theorem chk_zero {a b c : Int} : chk a b c = 0 ↔ MemOk a b c := by
  by_cases h : MemOk a b c
  · simp [chk_pos h, h]
  · simp [chk_neg h, h]
def sChk : List AV → Option (Bool × AV × Bls)
  | [.agg [.v (.int .i64 a), .v (.int .i64 b), .v (.int .i64 c)]] => some (true, .v (.int .i64 (chk a b c)), [])
  | _ => none
set_option maxRecDepth 100000 in
set_option maxHeartbeats 4000000 in
theorem chk_run (C : Ctx) (a b c : Int) : Rch Try.prog (plOf pls) C (conf0 32 ⟨32, [.tmp 2], code32⟩ [.agg [.v (.int .i64 a), .v (.int .i64 b), .v (.int .i64 c)]] []) (Res (.v (.int .i64 (chk a b c))) []) := by
  refine ExQ_ok [] 2000 MB.plsOk MB.noK ?_
  simp only [conf0]
  by_cases h1 : a < 1
  · (try rw [exh]); simp (maxSteps := 4000000) only [h1, stops, inK, stepF, frsF, frF, itemF, codeF, condF, opsF, opsW, opF, stepS, wtS, gdst, gdl, sopF, pv, evq, quiet, p_move, p_assign, p_pick, p_binOp, p_fieldAddr, l_load, e_box, SY.get, SY.put, SY.ev, SY.mk, SY.nth, SY.lvl, SY.ini, wid, wids, dr, flat, at1, rdC, rdCt, bopInt, bop, pickAV, isArr, ctOf, leaveS, retS, killL, isDefs, resS, resAll, tup1, AV.scal, exq_go, exq_t, ↓reduceIte, Nat.reduceLT, Nat.reduceEqDiff, Nat.reduceAdd, Nat.reduceSub, Bool.not_false, reduceCtorEq, true_and, Bool.and_self, List.length_nil, List.nil_append, Nat.zero_add, Nat.add_zero, Nat.zero_mul, Int.reduceLE, decide_true, ti3, ti29, regAt, fi32, body32, Try.f32, ↓exq_cd cd_code32, ↓exq_cd cd_c32_1, ↓exq_cd cd_c32_2, ↓exq_cd cd_c32_3, ↓exq_cd cd_c32_5, ↓exq_cd cd_c32_6, ↓exq_cd cd_c32_7, ↓exq_cd cd_c32_8, ↓exq_cd cd_c32_9, ↓exq_cd cd_c32_11, r32_1, r32_5, r32_7, r32_11]
    rw [chk_neg (fun h => by have := h.1; omega)]
    exact Res.val _ _
  by_cases h2 : 64 < a
  · (try rw [exh]); simp (maxSteps := 4000000) only [h1, h2, stops, inK, stepF, frsF, frF, itemF, codeF, condF, opsF, opsW, opF, stepS, wtS, gdst, gdl, sopF, pv, evq, quiet, p_move, p_assign, p_pick, p_binOp, p_fieldAddr, l_load, e_box, SY.get, SY.put, SY.ev, SY.mk, SY.nth, SY.lvl, SY.ini, wid, wids, dr, flat, at1, rdC, rdCt, bopInt, bop, pickAV, isArr, ctOf, leaveS, retS, killL, isDefs, resS, resAll, tup1, AV.scal, exq_go, exq_t, exq_f, ↓reduceIte, Nat.reduceLT, Nat.reduceEqDiff, Nat.reduceAdd, Nat.reduceSub, Bool.not_false, reduceCtorEq, true_and, Bool.and_self, List.length_nil, List.nil_append, Nat.zero_add, Nat.add_zero, Nat.zero_mul, Int.reduceLE, decide_true, decide_false, ti3, ti29, regAt, fi32, body32, Try.f32, ↓exq_cd cd_code32, ↓exq_cd cd_c32_1, ↓exq_cd cd_c32_2, ↓exq_cd cd_c32_3, ↓exq_cd cd_c32_5, ↓exq_cd cd_c32_6, ↓exq_cd cd_c32_7, ↓exq_cd cd_c32_8, ↓exq_cd cd_c32_9, ↓exq_cd cd_c32_11, r32_1, r32_5, r32_7, r32_11]
    rw [chk_neg (fun h => by have := h.2.1; omega)]
    exact Res.val _ _
  by_cases h3 : b < 1
  · (try rw [exh]); simp (maxSteps := 4000000) only [h1, h2, h3, stops, inK, stepF, frsF, frF, itemF, codeF, condF, opsF, opsW, opF, stepS, wtS, gdst, gdl, sopF, pv, evq, quiet, p_move, p_assign, p_pick, p_binOp, p_fieldAddr, l_load, e_box, SY.get, SY.put, SY.ev, SY.mk, SY.nth, SY.lvl, SY.ini, wid, wids, dr, flat, at1, rdC, rdCt, bopInt, bop, pickAV, isArr, ctOf, leaveS, retS, killL, isDefs, resS, resAll, tup1, AV.scal, exq_go, exq_t, exq_f, ↓reduceIte, Nat.reduceLT, Nat.reduceEqDiff, Nat.reduceAdd, Nat.reduceSub, Bool.not_false, reduceCtorEq, true_and, Bool.and_self, List.length_nil, List.nil_append, Nat.zero_add, Nat.add_zero, Nat.zero_mul, Int.reduceLE, decide_true, decide_false, ti3, ti29, ti62, regAt, fi32, body32, Try.f32, ↓exq_cd cd_code32, ↓exq_cd cd_c32_1, ↓exq_cd cd_c32_2, ↓exq_cd cd_c32_3, ↓exq_cd cd_c32_5, ↓exq_cd cd_c32_6, ↓exq_cd cd_c32_7, ↓exq_cd cd_c32_8, ↓exq_cd cd_c32_9, ↓exq_cd cd_c32_11, r32_1, r32_5, r32_7, r32_11]
    rw [chk_neg (fun h => by have := h.2.2.1; omega)]
    exact Res.val _ _
  by_cases h4 : 4 < b
  · (try rw [exh]); simp (maxSteps := 4000000) only [h1, h2, h3, h4, stops, inK, stepF, frsF, frF, itemF, codeF, condF, opsF, opsW, opF, stepS, wtS, gdst, gdl, sopF, pv, evq, quiet, p_move, p_assign, p_pick, p_binOp, p_fieldAddr, l_load, e_box, SY.get, SY.put, SY.ev, SY.mk, SY.nth, SY.lvl, SY.ini, wid, wids, dr, flat, at1, rdC, rdCt, bopInt, bop, pickAV, isArr, ctOf, leaveS, retS, killL, isDefs, resS, resAll, tup1, AV.scal, exq_go, exq_t, exq_f, ↓reduceIte, Nat.reduceLT, Nat.reduceEqDiff, Nat.reduceAdd, Nat.reduceSub, Bool.not_false, reduceCtorEq, true_and, Bool.and_self, List.length_nil, List.nil_append, Nat.zero_add, Nat.add_zero, Nat.zero_mul, Int.reduceLE, decide_true, decide_false, ti3, ti29, ti62, regAt, fi32, body32, Try.f32, ↓exq_cd cd_code32, ↓exq_cd cd_c32_1, ↓exq_cd cd_c32_2, ↓exq_cd cd_c32_3, ↓exq_cd cd_c32_5, ↓exq_cd cd_c32_6, ↓exq_cd cd_c32_7, ↓exq_cd cd_c32_8, ↓exq_cd cd_c32_9, ↓exq_cd cd_c32_11, r32_1, r32_5, r32_7, r32_11]
    rw [chk_neg (fun h => by have := h.2.2.2.1; omega)]
    exact Res.val _ _
  by_cases h5 : c < 0
  · (try rw [exh]); simp (maxSteps := 4000000) only [h1, h2, h3, h4, h5, stops, inK, stepF, frsF, frF, itemF, codeF, condF, opsF, opsW, opF, stepS, wtS, gdst, gdl, sopF, pv, evq, quiet, p_move, p_assign, p_pick, p_binOp, p_fieldAddr, l_load, e_box, SY.get, SY.put, SY.ev, SY.mk, SY.nth, SY.lvl, SY.ini, wid, wids, dr, flat, at1, rdC, rdCt, bopInt, bop, pickAV, isArr, ctOf, leaveS, retS, killL, isDefs, resS, resAll, tup1, AV.scal, exq_go, exq_t, exq_f, ↓reduceIte, Nat.reduceLT, Nat.reduceEqDiff, Nat.reduceAdd, Nat.reduceSub, Bool.not_false, reduceCtorEq, true_and, Bool.and_self, List.length_nil, List.nil_append, Nat.zero_add, Nat.add_zero, Nat.zero_mul, Int.reduceLE, decide_true, decide_false, ti3, ti29, ti62, regAt, fi32, body32, Try.f32, ↓exq_cd cd_code32, ↓exq_cd cd_c32_1, ↓exq_cd cd_c32_2, ↓exq_cd cd_c32_3, ↓exq_cd cd_c32_5, ↓exq_cd cd_c32_6, ↓exq_cd cd_c32_7, ↓exq_cd cd_c32_8, ↓exq_cd cd_c32_9, ↓exq_cd cd_c32_11, r32_1, r32_5, r32_7, r32_11]
    rw [chk_neg (fun h => by have := h.2.2.2.2.1; omega)]
    exact Res.val _ _
  by_cases h6 : 2147483647 < c
  · (try rw [exh]); simp (maxSteps := 4000000) only [h1, h2, h3, h4, h5, h6, stops, inK, stepF, frsF, frF, itemF, codeF, condF, opsF, opsW, opF, stepS, wtS, gdst, gdl, sopF, pv, evq, quiet, p_move, p_assign, p_pick, p_binOp, p_fieldAddr, l_load, e_box, SY.get, SY.put, SY.ev, SY.mk, SY.nth, SY.lvl, SY.ini, wid, wids, dr, flat, at1, rdC, rdCt, bopInt, bop, pickAV, isArr, ctOf, leaveS, retS, killL, isDefs, resS, resAll, tup1, AV.scal, exq_go, exq_t, exq_f, ↓reduceIte, Nat.reduceLT, Nat.reduceEqDiff, Nat.reduceAdd, Nat.reduceSub, Bool.not_false, reduceCtorEq, true_and, Bool.and_self, List.length_nil, List.nil_append, Nat.zero_add, Nat.add_zero, Nat.zero_mul, Int.reduceLE, decide_true, decide_false, ti3, ti29, ti62, regAt, fi32, body32, Try.f32, ↓exq_cd cd_code32, ↓exq_cd cd_c32_1, ↓exq_cd cd_c32_2, ↓exq_cd cd_c32_3, ↓exq_cd cd_c32_5, ↓exq_cd cd_c32_6, ↓exq_cd cd_c32_7, ↓exq_cd cd_c32_8, ↓exq_cd cd_c32_9, ↓exq_cd cd_c32_11, r32_1, r32_5, r32_7, r32_11]
    rw [chk_neg (fun h => by have := h.2.2.2.2.2; omega)]
    exact Res.val _ _
  · (try rw [exh]); simp (maxSteps := 4000000) only [h1, h2, h3, h4, h5, h6, stops, inK, stepF, frsF, frF, itemF, codeF, condF, opsF, opsW, opF, stepS, wtS, gdst, gdl, sopF, pv, evq, quiet, p_move, p_assign, p_pick, p_binOp, p_fieldAddr, l_load, e_box, SY.get, SY.put, SY.ev, SY.mk, SY.nth, SY.lvl, SY.ini, wid, wids, dr, flat, at1, rdC, rdCt, bopInt, bop, pickAV, isArr, ctOf, leaveS, retS, killL, isDefs, resS, resAll, tup1, AV.scal, exq_go, exq_f, ↓reduceIte, Nat.reduceLT, Nat.reduceEqDiff, Nat.reduceAdd, Nat.reduceSub, Bool.not_false, reduceCtorEq, true_and, Bool.and_self, List.length_nil, List.nil_append, Nat.zero_add, Nat.add_zero, Nat.zero_mul, Int.reduceLE, decide_true, decide_false, ti3, ti29, ti62, regAt, fi32, body32, Try.f32, ↓exq_cd cd_code32, ↓exq_cd cd_c32_1, ↓exq_cd cd_c32_2, ↓exq_cd cd_c32_3, ↓exq_cd cd_c32_5, ↓exq_cd cd_c32_6, ↓exq_cd cd_c32_7, ↓exq_cd cd_c32_8, ↓exq_cd cd_c32_4, ↓exq_cd cd_c32_12, r32_1, r32_5, r32_7, r32_12]
    rw [chk_pos ⟨by omega, by omega, by omega, by omega, by omega, by omega⟩]
    exact Res.val _ _
theorem chk_ok : SpecOk Try.prog (plOf pls) 32 sChk := by
  refine ⟨_, fi32, fun args r bl1 h => ?_⟩
  unfold sChk at h
  split at h
  · simp only [Option.some.injEq, Prod.mk.injEq, true_and] at h
    obtain ⟨rfl, rfl⟩ := h
    exact ⟨by simp, fun C _ _ => chk_run C _ _ _⟩
  · cases h
def kM0 : KT := ktOf [(52, sCmp), (32, sChk)]
theorem kM0_ok : KOk Try.prog (plOf pls) kM0 := ktOf_ok MB.plsOk fun x hx => by
  simp only [List.mem_cons, List.not_mem_nil, or_false] at hx
  rcases hx with rfl | rfl
  · exact cmp_ok
  · exact chk_ok
end Go.Proofs.Ytdanhpemheldlaa
