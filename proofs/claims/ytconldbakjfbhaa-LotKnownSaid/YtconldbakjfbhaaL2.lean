/- Contracts of this seat's functions, text 2: no condition beside the statements. -/
import Derived.Test.YtconldbakjfbhaaL1
set_option linter.unusedSimpArgs false
set_option linter.unusedVariables false
namespace Go.Proofs.Ytconldbakjfbhaa
open Go Go.SX

def newSpec (xs : List Int) : Int := if 1000 < xs.length then 3 else if ∃ x ∈ xs, x < 0 then 2 else 0

theorem new10 (xs : List Int) (c : Nat) (hc : xs.length ≤ c) (hx : xs.length ≤ 9223372036854775807) (hc2 : c < 9223372036854775808) : SC Try.prog 10 [.sl 0 0 1 xs.length c] [ints false xs]
    (fun r bl => (newSpec xs ≠ 0 ∧ r = .tup [.v (.pointer none), vi (newSpec xs)] ∧ bl = [ints false xs]) ∨
      (newSpec xs = 0 ∧ ∃ (sp : List Int) (c' : Nat), xs.length ≤ c' ∧ c' ≤ xs.length + sp.length ∧ c' < 9223372036854775808 ∧ r = .tup [.ptr 2 0 3 0, vi 0] ∧
        bl = [ints false xs, ints true (xs ++ sp), some ⟨true, 41, .lit [.sl 1 0 1 xs.length c', vi 0, .v (.bool true)]⟩])) := by
  refine SC.of_go Try.func10 rfl rfl (Nat.le_of_ble_eq_true rfl) fun C hC => ex_go [] 100 mo rfl ?_
  simp only [Try.f10]
  simp (maxSteps := 4000000) only [ex, kindOf, pureOp, loadOp, ldLvl, planOf, norm, keep, pickL, rl, rlc, rl1, rlB, idx, sopW, chkA, sop, ev, SX.get, SX.put, SX.mk, ini, ti0, ti1, ti2, ti3, ti4, ti5, ti6, ti7, ti8, ti9, ti10, ti11, ti12, ti13, ti14, ti15, ti16, ti17, ti18, ti19, ti20, ti21, ti22, ti23, ti24, ti25, ti26, ti27, ti28, ti29, ti30, ti31, ti32, ti33, ti34, ti35, ti36, ti37, ti38, ti39, ti40, ti41, ti42, ti43, ti44, ti45, ti46, ti47, ti48, ti49, ti50, ti51, ti52, ti53, ti54, ti55, ti56, ti57, ti58, ti59, ti60, ti61, ti62, ti63, ti64, ti65, bop, bopInt, bopNil, bopStr, bopBool, ar, resOf, resAll, ung, gdst, gdl, nth, lvl, rdCt, wrCt, wrCh, wids, wid, vals, valsL, val1, bnd, at1, dr, tk, flat, rowSegs, setl, pickAV, sliceOf, okMx, zeroCt, chunk, fillA, plFs, nz, rep, numsAV, numsV, one, SX.hasBlk, SX.exitTo, callee, opAt, after, back, rnNew, rn, rnr, rnc, rn1, rnCt, wname, List.set, ↓bsplit_true, ↓bsplit_false, ↓reduceIte, Nat.reduceLT, Nat.reduceLeDiff, List.toList_toArray, Nat.reduceEqDiff, Nat.reduceAdd, Nat.reduceSub, Nat.reduceMul, Nat.reduceBEq, Nat.reduceBNe, Bool.and_true, Bool.true_and, Bool.not_false, Bool.not_true, List.contains_nil, List.contains_cons, Bool.or_false, Bool.false_or, Option.isSome_some, Option.isNone_none, Option.isNone_some, reduceCtorEq, true_and, and_true, Option.some.injEq, exists_eq_left', Bool.false_eq_true, List.map_cons, List.map_nil, List.all_cons, List.all_nil, Bool.and_self, List.drop_succ_cons, List.drop_zero, List.length_cons, List.length_nil, List.cons_append, List.nil_append, Option.map_some, Option.map_none, List.append_nil, Nat.zero_add, Nat.add_zero, Nat.sub_zero, Nat.zero_mul, Nat.mul_one, Int.toNat_natCast, Int.toNat_zero, Int.toNat_one, newOwn_iff, newOwnB, Int.add_zero, Int.sub_zero, Int.reduceEq, Int.reduceLT, Int.reduceLE, Int.reduceAdd, Int.reduceSub, Int.reduceMul, Int.reduceToNat, decide_true, decide_false]
  refine ⟨fun h => ?_, fun h => ?_⟩
  · have h : (1000 : Int) < xs.length := by simpa using h
    have h' : 1000 < xs.length := by omega
    simp [newSpec, h']
  · have h : ¬ (1000 : Int) < xs.length := by simpa using h
    have h' : ¬ 1000 < xs.length := by omega
    refine go_frame [⟨0, 0, 1, false⟩] (contains23 xs c hc hx) rfl rfl rfl rfl ?_ rfl fun r0 bl0' hK => ex_go [] 100 mo rfl ?_
    · simp only [FitsL, Fits, lvl, okCt, okCs, okc, ok1, okL, nth, rnCt, rnc, rn1, wname]
      simpa using shows_self rfl
    obtain ⟨rfl, rfl⟩ := hK
    simp (maxSteps := 4000000) only [ex, kindOf, pureOp, loadOp, ldLvl, planOf, norm, keep, pickL, rl, rlc, rl1, rlB, idx, sopW, chkA, sop, ev, SX.get, SX.put, SX.mk, ini, ti0, ti1, ti2, ti3, ti4, ti5, ti6, ti7, ti8, ti9, ti10, ti11, ti12, ti13, ti14, ti15, ti16, ti17, ti18, ti19, ti20, ti21, ti22, ti23, ti24, ti25, ti26, ti27, ti28, ti29, ti30, ti31, ti32, ti33, ti34, ti35, ti36, ti37, ti38, ti39, ti40, ti41, ti42, ti43, ti44, ti45, ti46, ti47, ti48, ti49, ti50, ti51, ti52, ti53, ti54, ti55, ti56, ti57, ti58, ti59, ti60, ti61, ti62, ti63, ti64, ti65, bop, bopInt, bopNil, bopStr, bopBool, ar, resOf, resAll, ung, gdst, gdl, nth, lvl, rdCt, wrCt, wrCh, wids, wid, vals, valsL, val1, bnd, at1, dr, tk, flat, rowSegs, setl, pickAV, sliceOf, okMx, zeroCt, chunk, fillA, plFs, nz, rep, numsAV, numsV, one, SX.hasBlk, SX.exitTo, callee, opAt, after, back, rnNew, rn, rnr, rnc, rn1, rnCt, wname, List.set, ↓bsplit_true, ↓bsplit_false, ↓reduceIte, Nat.reduceLT, Nat.reduceLeDiff, List.toList_toArray, Nat.reduceEqDiff, Nat.reduceAdd, Nat.reduceSub, Nat.reduceMul, Nat.reduceBEq, Nat.reduceBNe, Bool.and_true, Bool.true_and, Bool.not_false, Bool.not_true, List.contains_nil, List.contains_cons, Bool.or_false, Bool.false_or, Option.isSome_some, Option.isNone_none, Option.isNone_some, reduceCtorEq, true_and, and_true, Option.some.injEq, exists_eq_left', Bool.false_eq_true, List.map_cons, List.map_nil, List.all_cons, List.all_nil, Bool.and_self, List.drop_succ_cons, List.drop_zero, List.length_cons, List.length_nil, List.cons_append, List.nil_append, Option.map_some, Option.map_none, List.append_nil, Nat.zero_add, Nat.add_zero, Nat.sub_zero, Nat.zero_mul, Nat.mul_one, Int.toNat_natCast, Int.toNat_zero, Int.toNat_one, newOwn_iff, newOwnB, Int.add_zero, Int.sub_zero, Int.reduceEq, Int.reduceLT, Int.reduceLE, Int.reduceAdd, Int.reduceSub, Int.reduceMul, Int.reduceToNat, decide_true, decide_false]
    refine ⟨fun h2 => ?_, fun h2 => ?_⟩
    · have h2 : ∃ x ∈ xs, x < 0 := by simpa using h2
      simp only [newSpec, h', h2, if_false, if_true]
      simp
    · have h2 : ¬ ∃ x ∈ xs, x < 0 := by simpa using h2
      refine go_frame [⟨0, 0, 1, false⟩] (clone25 xs c hc (by omega) hc2) rfl rfl rfl rfl ?_ rfl fun r0 bl0' hK => ex_go [] 100 mo rfl ?_
      · simp only [FitsL, Fits, lvl, okCt, okCs, okc, ok1, okL, nth, rnCt, rnc, rn1, wname]
        simpa using shows_self rfl
      obtain ⟨sp, c', h3, h4, h5, rfl, rfl⟩ := hK
      simp (maxSteps := 4000000) only [ex, kindOf, pureOp, loadOp, ldLvl, planOf, norm, keep, pickL, rl, rlc, rl1, rlB, idx, sopW, chkA, sop, ev, SX.get, SX.put, SX.mk, ini, ti0, ti1, ti2, ti3, ti4, ti5, ti6, ti7, ti8, ti9, ti10, ti11, ti12, ti13, ti14, ti15, ti16, ti17, ti18, ti19, ti20, ti21, ti22, ti23, ti24, ti25, ti26, ti27, ti28, ti29, ti30, ti31, ti32, ti33, ti34, ti35, ti36, ti37, ti38, ti39, ti40, ti41, ti42, ti43, ti44, ti45, ti46, ti47, ti48, ti49, ti50, ti51, ti52, ti53, ti54, ti55, ti56, ti57, ti58, ti59, ti60, ti61, ti62, ti63, ti64, ti65, bop, bopInt, bopNil, bopStr, bopBool, ar, resOf, resAll, ung, gdst, gdl, nth, lvl, rdCt, wrCt, wrCh, wids, wid, vals, valsL, val1, bnd, at1, dr, tk, flat, rowSegs, setl, pickAV, sliceOf, okMx, zeroCt, chunk, fillA, plFs, nz, rep, numsAV, numsV, one, SX.hasBlk, SX.exitTo, callee, opAt, after, back, rnNew, rn, rnr, rnc, rn1, rnCt, wname, List.set, ↓bsplit_true, ↓bsplit_false, ↓reduceIte, Nat.reduceLT, Nat.reduceLeDiff, List.toList_toArray, Nat.reduceEqDiff, Nat.reduceAdd, Nat.reduceSub, Nat.reduceMul, Nat.reduceBEq, Nat.reduceBNe, Bool.and_true, Bool.true_and, Bool.not_false, Bool.not_true, List.contains_nil, List.contains_cons, Bool.or_false, Bool.false_or, Option.isSome_some, Option.isNone_none, Option.isNone_some, reduceCtorEq, true_and, and_true, Option.some.injEq, exists_eq_left', Bool.false_eq_true, List.map_cons, List.map_nil, List.all_cons, List.all_nil, Bool.and_self, List.drop_succ_cons, List.drop_zero, List.length_cons, List.length_nil, List.cons_append, List.nil_append, Option.map_some, Option.map_none, List.append_nil, Nat.zero_add, Nat.add_zero, Nat.sub_zero, Nat.zero_mul, Nat.mul_one, Int.toNat_natCast, Int.toNat_zero, Int.toNat_one, newOwn_iff, newOwnB, Int.add_zero, Int.sub_zero, Int.reduceEq, Int.reduceLT, Int.reduceLE, Int.reduceAdd, Int.reduceSub, Int.reduceMul, Int.reduceToNat, decide_true, decide_false]
      refine .inr ⟨by simp only [newSpec, h', h2, if_false], sp, c', h3, h4, h5, ?_⟩
      simp
end Go.Proofs.Ytconldbakjfbhaa
