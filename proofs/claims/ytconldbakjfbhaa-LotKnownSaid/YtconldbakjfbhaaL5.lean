import Derived.Test.YtconldbakjfbhaaL4
set_option linter.unusedSimpArgs false
set_option linter.unusedVariables false
namespace Go.Proofs.Ytconldbakjfbhaa
open Go Go.SX

abbrev refT (n c : Nat) (u : Int) : Option Blk := some ⟨true, 39, .lit [.sl 1 0 1 n c, .v (.int .i64 u)]⟩
abbrev RW : List Win := [⟨0, 0, 2, true⟩, ⟨1, 0, 1, true⟩]

/-- The document's lots, L of which are left. -/
def RefAt (L : List Int) (u : Int) (bl : Bls) : Prop :=
  ∃ n c xs, n ≤ xs.length ∧ n ≤ c ∧ c < 9223372036854775808 ∧ 0 ≤ u ∧ (xs.take n).drop u.toNat = L ∧ bl = [refT n c u, ints true xs]

theorem rdraw18 {L : List Int} {u : Int} {bl : Bls} (h : RefAt L u bl) (hu2 : u < 9223372036854775807) :
    SC Try.prog 18 [.ptr 0 0 2 0] bl (fun r bl' => r = vi (L.headD 0) ∧ RefAt L.tail (u + 1) bl') := by
  obtain ⟨n, c, xs, hm, hc, hc2, hu, rfl, rfl⟩ := h
  refine SC.of_go Try.func18 rfl rfl (Nat.le_of_ble_eq_true rfl) fun C hC => ex_go pl18 100 mo (by kernel_rfl) ?_
  simp only [Try.f18]
  simp (maxSteps := 4000000) only [pl18, ex, kindOf, pureOp, loadOp, ldLvl, planOf, norm, keep, pickL, rl, rlc, rl1, rlB, idx, sopW, chkA, sop, ev, SX.get, SX.put, SX.mk, ini, ti0, ti1, ti2, ti3, ti4, ti5, ti6, ti7, ti8, ti9, ti10, ti11, ti12, ti13, ti14, ti15, ti16, ti17, ti18, ti19, ti20, ti21, ti22, ti23, ti24, ti25, ti26, ti27, ti28, ti29, ti30, ti31, ti32, ti33, ti34, ti35, ti36, ti37, ti38, ti39, ti40, ti41, ti42, ti43, ti44, ti45, ti46, ti47, ti48, ti49, ti50, ti51, ti52, ti53, ti54, ti55, ti56, ti57, ti58, ti59, ti60, ti61, ti62, ti63, ti64, ti65, bop, bopInt, bopNil, bopStr, bopBool, ar, resOf, resAll, ung, gdst, gdl, nth, lvl, rdCt, wrCt, wrCh, wids, wid, vals, valsL, val1, bnd, at1, dr, tk, flat, rowSegs, setl, pickAV, sliceOf, okMx, zeroCt, chunk, fillA, plFs, nz, rep, numsAV, numsV, one, SX.hasBlk, SX.exitTo, callee, opAt, after, back, rnNew, rn, rnr, rnc, rn1, rnCt, wname, List.set, ↓bsplit_true, ↓bsplit_false, ↓reduceIte, Nat.reduceLT, Nat.reduceLeDiff, List.toList_toArray, Nat.reduceEqDiff, Nat.reduceAdd, Nat.reduceSub, Nat.reduceMul, Nat.reduceBEq, Nat.reduceBNe, Bool.and_true, Bool.true_and, Bool.not_false, Bool.not_true, List.contains_nil, List.contains_cons, Bool.or_false, Bool.false_or, Option.isSome_some, Option.isNone_none, Option.isNone_some, reduceCtorEq, true_and, and_true, Option.some.injEq, exists_eq_left', Bool.false_eq_true, List.map_cons, List.map_nil, List.all_cons, List.all_nil, Bool.and_self, List.drop_succ_cons, List.drop_zero, List.length_cons, List.length_nil, List.cons_append, List.nil_append, Option.map_some, Option.map_none, List.append_nil, Nat.zero_add, Nat.add_zero, Nat.sub_zero, Nat.zero_mul, Nat.mul_one, Int.toNat_natCast, Int.toNat_zero, Int.toNat_one, newOwn_iff, newOwnB, Int.add_zero, Int.sub_zero, Int.reduceEq, Int.reduceLT, Int.reduceLE, Int.reduceAdd, Int.reduceSub, Int.reduceMul, Int.reduceToNat, decide_true, decide_false]
  obtain ⟨v, rfl⟩ : ∃ v : Nat, u = v := ⟨u.toNat, by omega⟩
  have ht : (List.drop v (List.take n xs)).tail = List.drop (v + 1) (List.take n xs) := by simp
  refine ⟨by omega, fun h => ?_, fun h => ?_⟩
  · have h : (n : Int) < v + 1 := by simpa using h
    have h0 : List.drop v (List.take n xs) = [] := List.drop_eq_nil_of_le (by simp; omega)
    refine ⟨by rw [Int.toNat_natCast, h0]; rfl, n, c, xs, hm, hc, hc2, by omega, ?_, rfl⟩
    rw [Int.toNat_natCast, ht]; rfl
  · have h : ¬ (n : Int) < v + 1 := by simpa using h
    refine ⟨by omega, by omega, by omega, ?_, n, c, xs, hm, hc, hc2, by omega, ?_, rfl⟩
    · have h1 : v < (xs.take n).length := by simp; omega
      rw [Int.toNat_natCast, List.drop_eq_getElem_cons h1]
      have : ((v : Int) + 1 - 1).toNat = v := by omega
      simp only [List.headD_cons, this, List.getElem_take]
      rw [List.getElem?_eq_getElem (by omega), Option.getD_some]
    · rw [Int.toNat_natCast, ht]; rfl

theorem rpick20 {L : List Int} {u n : Int} {bl : Bls} (h : RefAt L u bl) (hu2 : u < 9223372036854775807) :
    SC Try.prog 20 [.ptr 0 0 2 0, vi n] bl (fun r bl' => r = vi (pk L n) ∧ RefAt (if n < 2 then L else L.tail) (if n < 2 then u else u + 1) bl') := by
  obtain ⟨m, c, xs, hm, hc, hc2, hu, hL, rfl⟩ := h
  refine SC.of_go Try.func20 rfl rfl (Nat.le_of_ble_eq_true rfl) fun C hC => ex_go [] 100 mo rfl ?_
  simp only [Try.f20]
  simp (maxSteps := 4000000) only [ex, kindOf, pureOp, loadOp, ldLvl, planOf, norm, keep, pickL, rl, rlc, rl1, rlB, idx, sopW, chkA, sop, ev, SX.get, SX.put, SX.mk, ini, ti0, ti1, ti2, ti3, ti4, ti5, ti6, ti7, ti8, ti9, ti10, ti11, ti12, ti13, ti14, ti15, ti16, ti17, ti18, ti19, ti20, ti21, ti22, ti23, ti24, ti25, ti26, ti27, ti28, ti29, ti30, ti31, ti32, ti33, ti34, ti35, ti36, ti37, ti38, ti39, ti40, ti41, ti42, ti43, ti44, ti45, ti46, ti47, ti48, ti49, ti50, ti51, ti52, ti53, ti54, ti55, ti56, ti57, ti58, ti59, ti60, ti61, ti62, ti63, ti64, ti65, bop, bopInt, bopNil, bopStr, bopBool, ar, resOf, resAll, ung, gdst, gdl, nth, lvl, rdCt, wrCt, wrCh, wids, wid, vals, valsL, val1, bnd, at1, dr, tk, flat, rowSegs, setl, pickAV, sliceOf, okMx, zeroCt, chunk, fillA, plFs, nz, rep, numsAV, numsV, one, SX.hasBlk, SX.exitTo, callee, opAt, after, back, rnNew, rn, rnr, rnc, rn1, rnCt, wname, List.set, ↓bsplit_true, ↓bsplit_false, ↓reduceIte, Nat.reduceLT, Nat.reduceLeDiff, List.toList_toArray, Nat.reduceEqDiff, Nat.reduceAdd, Nat.reduceSub, Nat.reduceMul, Nat.reduceBEq, Nat.reduceBNe, Bool.and_true, Bool.true_and, Bool.not_false, Bool.not_true, List.contains_nil, List.contains_cons, Bool.or_false, Bool.false_or, Option.isSome_some, Option.isNone_none, Option.isNone_some, reduceCtorEq, true_and, and_true, Option.some.injEq, exists_eq_left', Bool.false_eq_true, List.map_cons, List.map_nil, List.all_cons, List.all_nil, Bool.and_self, List.drop_succ_cons, List.drop_zero, List.length_cons, List.length_nil, List.cons_append, List.nil_append, Option.map_some, Option.map_none, List.append_nil, Nat.zero_add, Nat.add_zero, Nat.sub_zero, Nat.zero_mul, Nat.mul_one, Int.toNat_natCast, Int.toNat_zero, Int.toNat_one, newOwn_iff, newOwnB, Int.add_zero, Int.sub_zero, Int.reduceEq, Int.reduceLT, Int.reduceLE, Int.reduceAdd, Int.reduceSub, Int.reduceMul, Int.reduceToNat, decide_true, decide_false]
  refine ⟨fun h => ?_, fun h => ?_⟩
  · have h : n < 2 := by simpa using h
    simp only [pk, h, if_true, true_and]
    exact ⟨m, c, xs, hm, hc, hc2, hu, hL, rfl⟩
  · have h : ¬ n < 2 := by simpa using h
    refine go_frame RW (rdraw18 (L := L) (u := u) ⟨m, c, xs, hm, hc, hc2, hu, hL, rfl⟩ hu2) rfl rfl rfl rfl ?_ rfl fun r0 bl0' hK => ex_go [] 100 mo rfl ?_
    · simp [FitsL, Fits, lvl, okCt, okCs, okc, ok1, okL, nth, rnCt, rnc, rn1, wname]
    obtain ⟨rfl, m', c', xs', hm', hc', hc2', hu', hL', rfl⟩ := hK
    simp (maxSteps := 4000000) only [ex, kindOf, pureOp, loadOp, ldLvl, planOf, norm, keep, pickL, rl, rlc, rl1, rlB, idx, sopW, chkA, sop, ev, SX.get, SX.put, SX.mk, ini, ti0, ti1, ti2, ti3, ti4, ti5, ti6, ti7, ti8, ti9, ti10, ti11, ti12, ti13, ti14, ti15, ti16, ti17, ti18, ti19, ti20, ti21, ti22, ti23, ti24, ti25, ti26, ti27, ti28, ti29, ti30, ti31, ti32, ti33, ti34, ti35, ti36, ti37, ti38, ti39, ti40, ti41, ti42, ti43, ti44, ti45, ti46, ti47, ti48, ti49, ti50, ti51, ti52, ti53, ti54, ti55, ti56, ti57, ti58, ti59, ti60, ti61, ti62, ti63, ti64, ti65, bop, bopInt, bopNil, bopStr, bopBool, ar, resOf, resAll, ung, gdst, gdl, nth, lvl, rdCt, wrCt, wrCh, wids, wid, vals, valsL, val1, bnd, at1, dr, tk, flat, rowSegs, setl, pickAV, sliceOf, okMx, zeroCt, chunk, fillA, plFs, nz, rep, numsAV, numsV, one, SX.hasBlk, SX.exitTo, callee, opAt, after, back, rnNew, rn, rnr, rnc, rn1, rnCt, wname, List.set, ↓bsplit_true, ↓bsplit_false, ↓reduceIte, Nat.reduceLT, Nat.reduceLeDiff, List.toList_toArray, Nat.reduceEqDiff, Nat.reduceAdd, Nat.reduceSub, Nat.reduceMul, Nat.reduceBEq, Nat.reduceBNe, Bool.and_true, Bool.true_and, Bool.not_false, Bool.not_true, List.contains_nil, List.contains_cons, Bool.or_false, Bool.false_or, Option.isSome_some, Option.isNone_none, Option.isNone_some, reduceCtorEq, true_and, and_true, Option.some.injEq, exists_eq_left', Bool.false_eq_true, List.map_cons, List.map_nil, List.all_cons, List.all_nil, Bool.and_self, List.drop_succ_cons, List.drop_zero, List.length_cons, List.length_nil, List.cons_append, List.nil_append, Option.map_some, Option.map_none, List.append_nil, Nat.zero_add, Nat.add_zero, Nat.sub_zero, Nat.zero_mul, Nat.mul_one, Int.toNat_natCast, Int.toNat_zero, Int.toNat_one, newOwn_iff, newOwnB, Int.add_zero, Int.sub_zero, Int.reduceEq, Int.reduceLT, Int.reduceLE, Int.reduceAdd, Int.reduceSub, Int.reduceMul, Int.reduceToNat, decide_true, decide_false]
    simp only [pk, h, if_false, true_and]
    exact ⟨by omega, m', c', xs', hm', hc', hc2', hu', hL', rfl⟩

theorem rnew11 (xs : List Int) (c : Nat) (hx : xs.length ≤ 9223372036854775807) : SC Try.prog 11 [.sl 0 0 1 xs.length c] [ints false xs]
    (fun r bl => (newSpec xs ≠ 0 ∧ r = .tup [.v (.pointer none), vi (newSpec xs)] ∧ bl = [ints false xs]) ∨
      (newSpec xs = 0 ∧ ∃ (sp : List Int) (c' : Nat), xs.length ≤ c' ∧ c' ≤ xs.length + sp.length ∧ c' < 9223372036854775808 ∧ r = .tup [.ptr 2 0 2 0, vi 0] ∧
        bl = [ints false xs, ints true (xs ++ sp), some ⟨true, 39, .lit [.sl 1 0 1 xs.length c', vi 0]⟩])) := by
  refine SC.of_go Try.func11 rfl rfl (Nat.le_of_ble_eq_true rfl) fun C hC => ex_go [] 100 mo rfl ?_
  simp only [Try.f11]
  simp (maxSteps := 4000000) only [ex, kindOf, pureOp, loadOp, ldLvl, planOf, norm, keep, pickL, rl, rlc, rl1, rlB, idx, sopW, chkA, sop, ev, SX.get, SX.put, SX.mk, ini, ti0, ti1, ti2, ti3, ti4, ti5, ti6, ti7, ti8, ti9, ti10, ti11, ti12, ti13, ti14, ti15, ti16, ti17, ti18, ti19, ti20, ti21, ti22, ti23, ti24, ti25, ti26, ti27, ti28, ti29, ti30, ti31, ti32, ti33, ti34, ti35, ti36, ti37, ti38, ti39, ti40, ti41, ti42, ti43, ti44, ti45, ti46, ti47, ti48, ti49, ti50, ti51, ti52, ti53, ti54, ti55, ti56, ti57, ti58, ti59, ti60, ti61, ti62, ti63, ti64, ti65, bop, bopInt, bopNil, bopStr, bopBool, ar, resOf, resAll, ung, gdst, gdl, nth, lvl, rdCt, wrCt, wrCh, wids, wid, vals, valsL, val1, bnd, at1, dr, tk, flat, rowSegs, setl, pickAV, sliceOf, okMx, zeroCt, chunk, fillA, plFs, nz, rep, numsAV, numsV, one, SX.hasBlk, SX.exitTo, callee, opAt, after, back, rnNew, rn, rnr, rnc, rn1, rnCt, wname, List.set, ↓bsplit_true, ↓bsplit_false, ↓reduceIte, Nat.reduceLT, Nat.reduceLeDiff, List.toList_toArray, Nat.reduceEqDiff, Nat.reduceAdd, Nat.reduceSub, Nat.reduceMul, Nat.reduceBEq, Nat.reduceBNe, Bool.and_true, Bool.true_and, Bool.not_false, Bool.not_true, List.contains_nil, List.contains_cons, Bool.or_false, Bool.false_or, Option.isSome_some, Option.isNone_none, Option.isNone_some, reduceCtorEq, true_and, and_true, Option.some.injEq, exists_eq_left', Bool.false_eq_true, List.map_cons, List.map_nil, List.all_cons, List.all_nil, Bool.and_self, List.drop_succ_cons, List.drop_zero, List.length_cons, List.length_nil, List.cons_append, List.nil_append, Option.map_some, Option.map_none, List.append_nil, Nat.zero_add, Nat.add_zero, Nat.sub_zero, Nat.zero_mul, Nat.mul_one, Int.toNat_natCast, Int.toNat_zero, Int.toNat_one, newOwn_iff, newOwnB, Int.add_zero, Int.sub_zero, Int.reduceEq, Int.reduceLT, Int.reduceLE, Int.reduceAdd, Int.reduceSub, Int.reduceMul, Int.reduceToNat, decide_true, decide_false]
  refine ⟨fun h => ?_, fun h => ?_⟩
  · have h : (1000 : Int) < xs.length := by simpa using h
    have h' : 1000 < xs.length := by omega
    simp [newSpec, h']
  · have h : ¬ (1000 : Int) < xs.length := by simpa using h
    have h' : ¬ 1000 < xs.length := by omega
    refine go_loopN [0, 4] [0] (fun n s => ∃ j : Nat, n = xs.length - j ∧ j ≤ xs.length ∧ (∀ x ∈ xs.take j, 0 ≤ x) ∧
      s = ⟨24, [(0, .sl 0 0 1 xs.length c), (4, vi j)], [ints false xs]⟩) xs.length (by rw [hC]; rfl) ?_ fun n s ⟨j, hn, hj, hp, hs⟩ => ?_
    · exact ⟨0, rfl, Nat.zero_le _, by simp, by simp (maxSteps := 4000000) only [ex, kindOf, pureOp, loadOp, ldLvl, planOf, norm, keep, pickL, rl, rlc, rl1, rlB, idx, sopW, chkA, sop, ev, SX.get, SX.put, SX.mk, ini, ti0, ti1, ti2, ti3, ti4, ti5, ti6, ti7, ti8, ti9, ti10, ti11, ti12, ti13, ti14, ti15, ti16, ti17, ti18, ti19, ti20, ti21, ti22, ti23, ti24, ti25, ti26, ti27, ti28, ti29, ti30, ti31, ti32, ti33, ti34, ti35, ti36, ti37, ti38, ti39, ti40, ti41, ti42, ti43, ti44, ti45, ti46, ti47, ti48, ti49, ti50, ti51, ti52, ti53, ti54, ti55, ti56, ti57, ti58, ti59, ti60, ti61, ti62, ti63, ti64, ti65, bop, bopInt, bopNil, bopStr, bopBool, ar, resOf, resAll, ung, gdst, gdl, nth, lvl, rdCt, wrCt, wrCh, wids, wid, vals, valsL, val1, bnd, at1, dr, tk, flat, rowSegs, setl, pickAV, sliceOf, okMx, zeroCt, chunk, fillA, plFs, nz, rep, numsAV, numsV, one, SX.hasBlk, SX.exitTo, callee, opAt, after, back, rnNew, rn, rnr, rnc, rn1, rnCt, wname, List.set, ↓bsplit_true, ↓bsplit_false, ↓reduceIte, Nat.reduceLT, Nat.reduceLeDiff, List.toList_toArray, Nat.reduceEqDiff, Nat.reduceAdd, Nat.reduceSub, Nat.reduceMul, Nat.reduceBEq, Nat.reduceBNe, Bool.and_true, Bool.true_and, Bool.not_false, Bool.not_true, List.contains_nil, List.contains_cons, Bool.or_false, Bool.false_or, Option.isSome_some, Option.isNone_none, Option.isNone_some, reduceCtorEq, true_and, and_true, Option.some.injEq, exists_eq_left', Bool.false_eq_true, List.map_cons, List.map_nil, List.all_cons, List.all_nil, Bool.and_self, List.drop_succ_cons, List.drop_zero, List.length_cons, List.length_nil, List.cons_append, List.nil_append, Option.map_some, Option.map_none, List.append_nil, Nat.zero_add, Nat.add_zero, Nat.sub_zero, Nat.zero_mul, Nat.mul_one, Int.toNat_natCast, Int.toNat_zero, Int.toNat_one, newOwn_iff, newOwnB, Int.add_zero, Int.sub_zero, Int.reduceEq, Int.reduceLT, Int.reduceLE, Int.reduceAdd, Int.reduceSub, Int.reduceMul, Int.reduceToNat, decide_true, decide_false]; rfl⟩
    subst hs
    refine ex_go [] 100 mo rfl ?_
    simp (maxSteps := 4000000) only [ex, kindOf, pureOp, loadOp, ldLvl, planOf, norm, keep, pickL, rl, rlc, rl1, rlB, idx, sopW, chkA, sop, ev, SX.get, SX.put, SX.mk, ini, ti0, ti1, ti2, ti3, ti4, ti5, ti6, ti7, ti8, ti9, ti10, ti11, ti12, ti13, ti14, ti15, ti16, ti17, ti18, ti19, ti20, ti21, ti22, ti23, ti24, ti25, ti26, ti27, ti28, ti29, ti30, ti31, ti32, ti33, ti34, ti35, ti36, ti37, ti38, ti39, ti40, ti41, ti42, ti43, ti44, ti45, ti46, ti47, ti48, ti49, ti50, ti51, ti52, ti53, ti54, ti55, ti56, ti57, ti58, ti59, ti60, ti61, ti62, ti63, ti64, ti65, bop, bopInt, bopNil, bopStr, bopBool, ar, resOf, resAll, ung, gdst, gdl, nth, lvl, rdCt, wrCt, wrCh, wids, wid, vals, valsL, val1, bnd, at1, dr, tk, flat, rowSegs, setl, pickAV, sliceOf, okMx, zeroCt, chunk, fillA, plFs, nz, rep, numsAV, numsV, one, SX.hasBlk, SX.exitTo, callee, opAt, after, back, rnNew, rn, rnr, rnc, rn1, rnCt, wname, List.set, ↓bsplit_true, ↓bsplit_false, ↓reduceIte, Nat.reduceLT, Nat.reduceLeDiff, List.toList_toArray, Nat.reduceEqDiff, Nat.reduceAdd, Nat.reduceSub, Nat.reduceMul, Nat.reduceBEq, Nat.reduceBNe, Bool.and_true, Bool.true_and, Bool.not_false, Bool.not_true, List.contains_nil, List.contains_cons, Bool.or_false, Bool.false_or, Option.isSome_some, Option.isNone_none, Option.isNone_some, reduceCtorEq, true_and, and_true, Option.some.injEq, exists_eq_left', Bool.false_eq_true, List.map_cons, List.map_nil, List.all_cons, List.all_nil, Bool.and_self, List.drop_succ_cons, List.drop_zero, List.length_cons, List.length_nil, List.cons_append, List.nil_append, Option.map_some, Option.map_none, List.append_nil, Nat.zero_add, Nat.add_zero, Nat.sub_zero, Nat.zero_mul, Nat.mul_one, Int.toNat_natCast, Int.toNat_zero, Int.toNat_one, newOwn_iff, newOwnB, Int.add_zero, Int.sub_zero, Int.reduceEq, Int.reduceLT, Int.reduceLE, Int.reduceAdd, Int.reduceSub, Int.reduceMul, Int.reduceToNat, decide_true, decide_false]
    refine ⟨fun h2 => ?_, fun h2 => ?_⟩
    · have h2 : j < xs.length := by simpa using h2
      refine ⟨by omega, by omega, fun h3 => ?_, fun h3 => ?_⟩
      · have h3 : xs[j]?.getD 0 < 0 := by simpa using h3
        rw [List.getElem?_eq_getElem h2, Option.getD_some] at h3
        have hex : ∃ x ∈ xs, x < 0 := ⟨_, List.getElem_mem h2, h3⟩
        simp only [newSpec, h', hex, if_false, if_true]
        simp
      · have h3 : ¬ xs[j]?.getD 0 < 0 := by simpa using h3
        refine ⟨by omega, xs.length - (j + 1), [0], by omega, by rw [hC]; rfl, j + 1, rfl, by omega, ?_, ?_⟩
        · intro x hx
          rw [List.take_add_one, List.getElem?_eq_getElem h2] at hx
          rw [List.getElem?_eq_getElem h2, Option.getD_some] at h3
          simp only [Option.toList_some, List.mem_append, List.mem_singleton] at hx
          rcases hx with hx | hx
          · exact hp x hx
          · omega
        · simp (maxSteps := 4000000) only [ex, kindOf, pureOp, loadOp, ldLvl, planOf, norm, keep, pickL, rl, rlc, rl1, rlB, idx, sopW, chkA, sop, ev, SX.get, SX.put, SX.mk, ini, ti0, ti1, ti2, ti3, ti4, ti5, ti6, ti7, ti8, ti9, ti10, ti11, ti12, ti13, ti14, ti15, ti16, ti17, ti18, ti19, ti20, ti21, ti22, ti23, ti24, ti25, ti26, ti27, ti28, ti29, ti30, ti31, ti32, ti33, ti34, ti35, ti36, ti37, ti38, ti39, ti40, ti41, ti42, ti43, ti44, ti45, ti46, ti47, ti48, ti49, ti50, ti51, ti52, ti53, ti54, ti55, ti56, ti57, ti58, ti59, ti60, ti61, ti62, ti63, ti64, ti65, bop, bopInt, bopNil, bopStr, bopBool, ar, resOf, resAll, ung, gdst, gdl, nth, lvl, rdCt, wrCt, wrCh, wids, wid, vals, valsL, val1, bnd, at1, dr, tk, flat, rowSegs, setl, pickAV, sliceOf, okMx, zeroCt, chunk, fillA, plFs, nz, rep, numsAV, numsV, one, SX.hasBlk, SX.exitTo, callee, opAt, after, back, rnNew, rn, rnr, rnc, rn1, rnCt, wname, List.set, ↓bsplit_true, ↓bsplit_false, ↓reduceIte, Nat.reduceLT, Nat.reduceLeDiff, List.toList_toArray, Nat.reduceEqDiff, Nat.reduceAdd, Nat.reduceSub, Nat.reduceMul, Nat.reduceBEq, Nat.reduceBNe, Bool.and_true, Bool.true_and, Bool.not_false, Bool.not_true, List.contains_nil, List.contains_cons, Bool.or_false, Bool.false_or, Option.isSome_some, Option.isNone_none, Option.isNone_some, reduceCtorEq, true_and, and_true, Option.some.injEq, exists_eq_left', Bool.false_eq_true, List.map_cons, List.map_nil, List.all_cons, List.all_nil, Bool.and_self, List.drop_succ_cons, List.drop_zero, List.length_cons, List.length_nil, List.cons_append, List.nil_append, Option.map_some, Option.map_none, List.append_nil, Nat.zero_add, Nat.add_zero, Nat.sub_zero, Nat.zero_mul, Nat.mul_one, Int.toNat_natCast, Int.toNat_zero, Int.toNat_one, newOwn_iff, newOwnB, Int.add_zero, Int.sub_zero, Int.reduceEq, Int.reduceLT, Int.reduceLE, Int.reduceAdd, Int.reduceSub, Int.reduceMul, Int.reduceToNat, decide_true, decide_false]; rfl
    · have h2 : ¬ j < xs.length := by simpa using h2
      have hno : ¬ ∃ x ∈ xs, x < 0 := fun ⟨x, hx, h3⟩ => by
        have := hp x (by rw [List.take_of_length_le (by omega)]; exact hx)
        omega
      refine go_eff (app_num (k := .i64) (e := 3) (by_ := 8) (l := some 1) (olds := []) (news := xs) (c := 0) rfl ti22 rfl ti22 (by intro k h; cases h) ti3 rfl rfl (vs := 0 + xs.length ≤ xs.length) ?_ ?_ ?_ ?_ ?_ ?_) rfl fun r bl' hK => ?_
      · simp [srcN, ev, SX.get, lvl]
      · exact Nat.zero_le _
      · omega
      · simp only [List.length_nil]; omega
      · decide
      · decide
      · obtain ⟨sp, c', h1, h2, h3, rfl, rfl⟩ := hK
        refine go_norm [21] [0, 2] (by rw [hC]; rfl) ?_
        refine ex_go [] 100 mo rfl ?_
        simp (maxSteps := 4000000) only [ex, kindOf, pureOp, loadOp, ldLvl, planOf, norm, keep, pickL, rl, rlc, rl1, rlB, idx, sopW, chkA, sop, ev, SX.get, SX.put, SX.mk, ini, ti0, ti1, ti2, ti3, ti4, ti5, ti6, ti7, ti8, ti9, ti10, ti11, ti12, ti13, ti14, ti15, ti16, ti17, ti18, ti19, ti20, ti21, ti22, ti23, ti24, ti25, ti26, ti27, ti28, ti29, ti30, ti31, ti32, ti33, ti34, ti35, ti36, ti37, ti38, ti39, ti40, ti41, ti42, ti43, ti44, ti45, ti46, ti47, ti48, ti49, ti50, ti51, ti52, ti53, ti54, ti55, ti56, ti57, ti58, ti59, ti60, ti61, ti62, ti63, ti64, ti65, bop, bopInt, bopNil, bopStr, bopBool, ar, resOf, resAll, ung, gdst, gdl, nth, lvl, rdCt, wrCt, wrCh, wids, wid, vals, valsL, val1, bnd, at1, dr, tk, flat, rowSegs, setl, pickAV, sliceOf, okMx, zeroCt, chunk, fillA, plFs, nz, rep, numsAV, numsV, one, SX.hasBlk, SX.exitTo, callee, opAt, after, back, rnNew, rn, rnr, rnc, rn1, rnCt, wname, List.set, ↓bsplit_true, ↓bsplit_false, ↓reduceIte, Nat.reduceLT, Nat.reduceLeDiff, List.toList_toArray, Nat.reduceEqDiff, Nat.reduceAdd, Nat.reduceSub, Nat.reduceMul, Nat.reduceBEq, Nat.reduceBNe, Bool.and_true, Bool.true_and, Bool.not_false, Bool.not_true, List.contains_nil, List.contains_cons, Bool.or_false, Bool.false_or, Option.isSome_some, Option.isNone_none, Option.isNone_some, reduceCtorEq, true_and, and_true, Option.some.injEq, exists_eq_left', Bool.false_eq_true, List.map_cons, List.map_nil, List.all_cons, List.all_nil, Bool.and_self, List.drop_succ_cons, List.drop_zero, List.length_cons, List.length_nil, List.cons_append, List.nil_append, Option.map_some, Option.map_none, List.append_nil, Nat.zero_add, Nat.add_zero, Nat.sub_zero, Nat.zero_mul, Nat.mul_one, Int.toNat_natCast, Int.toNat_zero, Int.toNat_one, newOwn_iff, newOwnB, Int.add_zero, Int.sub_zero, Int.reduceEq, Int.reduceLT, Int.reduceLE, Int.reduceAdd, Int.reduceSub, Int.reduceMul, Int.reduceToNat, decide_true, decide_false, killL]
        refine .inr ⟨by simp only [newSpec, h', hno, if_false], sp, c', by simpa using h1, by simpa using h2, by omega, ?_⟩
        simp
end Go.Proofs.Ytconldbakjfbhaa
