/- Contracts of this seat's functions, text 7: no condition beside the statements. -/
import Derived.Test.YtconldbakjfbhaaL6
import Derived.Test.YtconldbakjfbhaaSx22
set_option linter.unusedSimpArgs false
set_option linter.unusedVariables false
namespace Go.Proofs.Ytconldbakjfbhaa
open Go Go.SX

def shOut (n : Int) (L : List Int) : List Int := if n < 1 ∨ 64 < n then [] else (shuf (n.toNat - 1) (upTo n.toNat) L).1
def shLeft (n : Int) (L : List Int) : List Int := if n < 1 ∨ 64 < n then L else (shuf (n.toNat - 1) (upTo n.toNat) L).2
def shUsed (n : Int) : Int := if n < 1 ∨ 64 < n then 0 else n - 1

theorem shuf_len : ∀ (k : Nat) (out L : List Int), (shuf k out L).1.length = out.length
  | 0, _, _ => rfl
  | k + 1, out, L => by simp only [shuf]; rw [shuf_len]; simp

theorem shOut_len {n : Int} {L : List Int} (h : 1 ≤ n) (h2 : n ≤ 64) : (shOut n L).length = n.toNat := by
  have : ¬ (n < 1 ∨ 64 < n) := by omega
  simp only [shOut, this, if_false, shuf_len, upTo_len]

theorem shuf_tail : ∀ (k : Nat) (out L : List Int), (shuf k out L).2 = L.drop k
  | 0, _, _ => rfl
  | k + 1, out, L => by simp only [shuf]; rw [shuf_tail, List.drop_tail]

theorem shLeft_mem {n : Int} {L : List Int} (hL : ∀ x ∈ L, 0 ≤ x) : ∀ x ∈ shLeft n L, 0 ≤ x := by
  unfold shLeft
  split
  · exact hL
  · rw [shuf_tail]; exact fun x hx => hL x (List.mem_of_mem_drop hx)

theorem shuffle15 {L : List Int} {u n : Int} {bl : Bls} (h : LotsAt L u bl) (hL : ∀ x ∈ L, 0 ≤ x) (hu : 0 ≤ u) (hu2 : u < 4611686018427387904) :
    SC Try.prog 15 [.ptr 0 0 3 0, vi n] bl (fun r bl' => r = .sl 2 0 1 (shOut n L).length (shOut n L).length ∧ ∃ i' m' c' u' xs', LotsAt (shLeft n L) (u + shUsed n) [lotsT i' m' c' u' true, ints true xs'] ∧ bl' = [lotsT i' m' c' u' true, ints true xs', ints true (shOut n L)]) := by
  by_cases hn : n < 1 ∨ 64 < n
  · refine SCW.ent (K := fun r b => r = .nil ∧ b = bl) ?_ fun r b hk => ?_
    · obtain ⟨i, m, c, xs, hm, hc, hc2, hLL, rfl⟩ := h
      refine SC.of_go Try.func15 rfl rfl (Nat.le_of_ble_eq_true rfl) fun C hC => ex_go pl15 100 mo (by kernel_rfl) ?_
      simp only [Try.f15]
      simp (maxSteps := 4000000) only [pl15, ex, kindOf, pureOp, loadOp, ldLvl, planOf, norm, keep, pickL, rl, rlc, rl1, rlB, idx, sopW, chkA, sop, ev, SX.get, SX.put, SX.mk, ini, ti0, ti1, ti2, ti3, ti4, ti5, ti6, ti7, ti8, ti9, ti10, ti11, ti12, ti13, ti14, ti15, ti16, ti17, ti18, ti19, ti20, ti21, ti22, ti23, ti24, ti25, ti26, ti27, ti28, ti29, ti30, ti31, ti32, ti33, ti34, ti35, ti36, ti37, ti38, ti39, ti40, ti41, ti42, ti43, ti44, ti45, ti46, ti47, ti48, ti49, ti50, ti51, ti52, ti53, ti54, ti55, ti56, ti57, ti58, ti59, ti60, ti61, ti62, ti63, ti64, ti65, bop, bopInt, bopNil, bopStr, bopBool, ar, resOf, resAll, ung, gdst, gdl, nth, lvl, rdCt, wrCt, wrCh, wids, wid, vals, valsL, val1, bnd, at1, dr, tk, flat, rowSegs, setl, pickAV, sliceOf, okMx, zeroCt, chunk, fillA, plFs, nz, rep, numsAV, numsV, one, SX.hasBlk, SX.exitTo, callee, opAt, after, back, rnNew, rn, rnr, rnc, rn1, rnCt, wname, List.set, ↓bsplit_true, ↓bsplit_false, ↓reduceIte, Nat.reduceLT, Nat.reduceLeDiff, List.toList_toArray, Nat.reduceEqDiff, Nat.reduceAdd, Nat.reduceSub, Nat.reduceMul, Nat.reduceBEq, Nat.reduceBNe, Bool.and_true, Bool.true_and, Bool.not_false, Bool.not_true, List.contains_nil, List.contains_cons, Bool.or_false, Bool.false_or, Option.isSome_some, Option.isNone_none, Option.isNone_some, reduceCtorEq, true_and, and_true, Option.some.injEq, exists_eq_left', Bool.false_eq_true, List.map_cons, List.map_nil, List.all_cons, List.all_nil, Bool.and_self, List.drop_succ_cons, List.drop_zero, List.length_cons, List.length_nil, List.cons_append, List.nil_append, Option.map_some, Option.map_none, List.append_nil, Nat.zero_add, Nat.add_zero, Nat.sub_zero, Nat.zero_mul, Nat.mul_one, Int.toNat_natCast, Int.toNat_zero, Int.toNat_one, newOwn_iff, newOwnB, Int.add_zero, Int.sub_zero, Int.reduceEq, Int.reduceLT, Int.reduceLE, Int.reduceAdd, Int.reduceSub, Int.reduceMul, Int.reduceToNat, decide_true, decide_false]
      refine go_frame LW (none26 i m c u true xs) rfl rfl rfl rfl ?_ rfl fun r0 bl0' hK => ex_go pl15 100 mo (by kernel_rfl) ?_
      · simp [FitsL, Fits, lvl, okCt, okCs, okc, ok1, okL, nth, rnCt, rnc, rn1, wname]
      obtain ⟨rfl, rfl⟩ := hK
      simp (maxSteps := 4000000) only [pl15, ex, kindOf, pureOp, loadOp, ldLvl, planOf, norm, keep, pickL, rl, rlc, rl1, rlB, idx, sopW, chkA, sop, ev, SX.get, SX.put, SX.mk, ini, ti0, ti1, ti2, ti3, ti4, ti5, ti6, ti7, ti8, ti9, ti10, ti11, ti12, ti13, ti14, ti15, ti16, ti17, ti18, ti19, ti20, ti21, ti22, ti23, ti24, ti25, ti26, ti27, ti28, ti29, ti30, ti31, ti32, ti33, ti34, ti35, ti36, ti37, ti38, ti39, ti40, ti41, ti42, ti43, ti44, ti45, ti46, ti47, ti48, ti49, ti50, ti51, ti52, ti53, ti54, ti55, ti56, ti57, ti58, ti59, ti60, ti61, ti62, ti63, ti64, ti65, bop, bopInt, bopNil, bopStr, bopBool, ar, resOf, resAll, ung, gdst, gdl, nth, lvl, rdCt, wrCt, wrCh, wids, wid, vals, valsL, val1, bnd, at1, dr, tk, flat, rowSegs, setl, pickAV, sliceOf, okMx, zeroCt, chunk, fillA, plFs, nz, rep, numsAV, numsV, one, SX.hasBlk, SX.exitTo, callee, opAt, after, back, rnNew, rn, rnr, rnc, rn1, rnCt, wname, List.set, ↓bsplit_true, ↓bsplit_false, ↓reduceIte, Nat.reduceLT, Nat.reduceLeDiff, List.toList_toArray, Nat.reduceEqDiff, Nat.reduceAdd, Nat.reduceSub, Nat.reduceMul, Nat.reduceBEq, Nat.reduceBNe, Bool.and_true, Bool.true_and, Bool.not_false, Bool.not_true, List.contains_nil, List.contains_cons, Bool.or_false, Bool.false_or, Option.isSome_some, Option.isNone_none, Option.isNone_some, reduceCtorEq, true_and, and_true, Option.some.injEq, exists_eq_left', Bool.false_eq_true, List.map_cons, List.map_nil, List.all_cons, List.all_nil, Bool.and_self, List.drop_succ_cons, List.drop_zero, List.length_cons, List.length_nil, List.cons_append, List.nil_append, Option.map_some, Option.map_none, List.append_nil, Nat.zero_add, Nat.add_zero, Nat.sub_zero, Nat.zero_mul, Nat.mul_one, Int.toNat_natCast, Int.toNat_zero, Int.toNat_one, newOwn_iff, newOwnB, Int.add_zero, Int.sub_zero, Int.reduceEq, Int.reduceLT, Int.reduceLE, Int.reduceAdd, Int.reduceSub, Int.reduceMul, Int.reduceToNat, decide_true, decide_false]
      rcases hn with hn | hn
      · simp (maxSteps := 4000000) only [hn, pl15, ex, kindOf, pureOp, loadOp, ldLvl, planOf, norm, keep, pickL, rl, rlc, rl1, rlB, idx, sopW, chkA, sop, ev, SX.get, SX.put, SX.mk, ini, ti0, ti1, ti2, ti3, ti4, ti5, ti6, ti7, ti8, ti9, ti10, ti11, ti12, ti13, ti14, ti15, ti16, ti17, ti18, ti19, ti20, ti21, ti22, ti23, ti24, ti25, ti26, ti27, ti28, ti29, ti30, ti31, ti32, ti33, ti34, ti35, ti36, ti37, ti38, ti39, ti40, ti41, ti42, ti43, ti44, ti45, ti46, ti47, ti48, ti49, ti50, ti51, ti52, ti53, ti54, ti55, ti56, ti57, ti58, ti59, ti60, ti61, ti62, ti63, ti64, ti65, bop, bopInt, bopNil, bopStr, bopBool, ar, resOf, resAll, ung, gdst, gdl, nth, lvl, rdCt, wrCt, wrCh, wids, wid, vals, valsL, val1, bnd, at1, dr, tk, flat, rowSegs, setl, pickAV, sliceOf, okMx, zeroCt, chunk, fillA, plFs, nz, rep, numsAV, numsV, one, SX.hasBlk, SX.exitTo, callee, opAt, after, back, rnNew, rn, rnr, rnc, rn1, rnCt, wname, List.set, ↓bsplit_true, ↓bsplit_false, ↓reduceIte, Nat.reduceLT, Nat.reduceLeDiff, List.toList_toArray, Nat.reduceEqDiff, Nat.reduceAdd, Nat.reduceSub, Nat.reduceMul, Nat.reduceBEq, Nat.reduceBNe, Bool.and_true, Bool.true_and, Bool.not_false, Bool.not_true, List.contains_nil, List.contains_cons, Bool.or_false, Bool.false_or, Option.isSome_some, Option.isNone_none, Option.isNone_some, reduceCtorEq, true_and, and_true, Option.some.injEq, exists_eq_left', Bool.false_eq_true, List.map_cons, List.map_nil, List.all_cons, List.all_nil, Bool.and_self, List.drop_succ_cons, List.drop_zero, List.length_cons, List.length_nil, List.cons_append, List.nil_append, Option.map_some, Option.map_none, List.append_nil, Nat.zero_add, Nat.add_zero, Nat.sub_zero, Nat.zero_mul, Nat.mul_one, Int.toNat_natCast, Int.toNat_zero, Int.toNat_one, newOwn_iff, newOwnB, Int.add_zero, Int.sub_zero, Int.reduceEq, Int.reduceLT, Int.reduceLE, Int.reduceAdd, Int.reduceSub, Int.reduceMul, Int.reduceToNat, decide_true, decide_false]
      · have h1 : ¬ n < 1 := by omega
        simp (maxSteps := 4000000) only [hn, h1, pl15, ex, kindOf, pureOp, loadOp, ldLvl, planOf, norm, keep, pickL, rl, rlc, rl1, rlB, idx, sopW, chkA, sop, ev, SX.get, SX.put, SX.mk, ini, ti0, ti1, ti2, ti3, ti4, ti5, ti6, ti7, ti8, ti9, ti10, ti11, ti12, ti13, ti14, ti15, ti16, ti17, ti18, ti19, ti20, ti21, ti22, ti23, ti24, ti25, ti26, ti27, ti28, ti29, ti30, ti31, ti32, ti33, ti34, ti35, ti36, ti37, ti38, ti39, ti40, ti41, ti42, ti43, ti44, ti45, ti46, ti47, ti48, ti49, ti50, ti51, ti52, ti53, ti54, ti55, ti56, ti57, ti58, ti59, ti60, ti61, ti62, ti63, ti64, ti65, bop, bopInt, bopNil, bopStr, bopBool, ar, resOf, resAll, ung, gdst, gdl, nth, lvl, rdCt, wrCt, wrCh, wids, wid, vals, valsL, val1, bnd, at1, dr, tk, flat, rowSegs, setl, pickAV, sliceOf, okMx, zeroCt, chunk, fillA, plFs, nz, rep, numsAV, numsV, one, SX.hasBlk, SX.exitTo, callee, opAt, after, back, rnNew, rn, rnr, rnc, rn1, rnCt, wname, List.set, ↓bsplit_true, ↓bsplit_false, ↓reduceIte, Nat.reduceLT, Nat.reduceLeDiff, List.toList_toArray, Nat.reduceEqDiff, Nat.reduceAdd, Nat.reduceSub, Nat.reduceMul, Nat.reduceBEq, Nat.reduceBNe, Bool.and_true, Bool.true_and, Bool.not_false, Bool.not_true, List.contains_nil, List.contains_cons, Bool.or_false, Bool.false_or, Option.isSome_some, Option.isNone_none, Option.isNone_some, reduceCtorEq, true_and, and_true, Option.some.injEq, exists_eq_left', Bool.false_eq_true, List.map_cons, List.map_nil, List.all_cons, List.all_nil, Bool.and_self, List.drop_succ_cons, List.drop_zero, List.length_cons, List.length_nil, List.cons_append, List.nil_append, Option.map_some, Option.map_none, List.append_nil, Nat.zero_add, Nat.add_zero, Nat.sub_zero, Nat.zero_mul, Nat.mul_one, Int.toNat_natCast, Int.toNat_zero, Int.toNat_one, newOwn_iff, newOwnB, Int.add_zero, Int.sub_zero, Int.reduceEq, Int.reduceLT, Int.reduceLE, Int.reduceAdd, Int.reduceSub, Int.reduceMul, Int.reduceToNat, decide_true, decide_false]
    · obtain ⟨rfl, rfl⟩ := hk
      obtain ⟨i, m, c, xs, hm, hc, hc2, hLL, rfl⟩ := h
      refine ⟨_, _, ?_, Ent.nil _ 3 .i64 1, fun _ => newOwn_of rfl⟩
      simp only [shOut, shLeft, shUsed, hn, if_true]
      exact ⟨rfl, i, m, c, u, xs, ⟨i, m, c, xs, hm, hc, hc2, hLL, by simp⟩, rfl⟩
  · obtain ⟨v, rfl⟩ : ∃ v : Nat, n = v := ⟨n.toNat, by omega⟩
    refine (shuffleN h hL hu hu2 (n := v) (by omega) (by omega)).mono fun r b ⟨h1, bl0, h2, h3⟩ => ?_
    have hlen := shOut_len (n := v) (L := L) (by omega) (by omega)
    rw [hlen]
    simp only [shOut, shLeft, shUsed, hn, if_false, Int.toNat_natCast]
    obtain ⟨i, m, c, xs, hm, hc, hc2, hLL, rfl⟩ := h2
    have e : u + ((v - 1 : Nat) : Int) = u + (v - 1) := by omega
    rw [e] at h3
    refine ⟨h1, i, m, c, _, xs, ⟨i, m, c, xs, hm, hc, hc2, hLL, rfl⟩, h3⟩

theorem rshuffle16 {L : List Int} {u n : Int} {bl : Bls} (h : RefAt L u bl) (hL : ∀ x ∈ L, 0 ≤ x) (hu2 : u < 4611686018427387904) (hn : 0 ≤ n) :
    SC Try.prog 16 [.ptr 0 0 2 0, vi n] bl (fun r bl' => ∃ c' O m c u' xs, r = .sl 2 0 1 (shOut n L).length c' ∧ (shOut n L).length ≤ c' ∧ c' ≤ O.length ∧ c' < 9223372036854775808 ∧ O.take (shOut n L).length = shOut n L ∧
      RefAt (shLeft n L) (u + shUsed n) [refT m c u' , ints true xs] ∧ bl' = [refT m c u', ints true xs, ints true O]) := by
  by_cases hn2 : 64 < n
  · refine SCW.ent (K := fun r b => r = .nil ∧ b = bl) ?_ fun r b hk => ?_
    · obtain ⟨m, c, xs, hm, hc, hc2, hu, hLL, rfl⟩ := h
      refine SC.of_go Try.func16 rfl rfl (Nat.le_of_ble_eq_true rfl) fun C hC => ex_go [] 100 mo rfl ?_
      simp only [Try.f16]
      simp (maxSteps := 4000000) only [hn2, ex, kindOf, pureOp, loadOp, ldLvl, planOf, norm, keep, pickL, rl, rlc, rl1, rlB, idx, sopW, chkA, sop, ev, SX.get, SX.put, SX.mk, ini, ti0, ti1, ti2, ti3, ti4, ti5, ti6, ti7, ti8, ti9, ti10, ti11, ti12, ti13, ti14, ti15, ti16, ti17, ti18, ti19, ti20, ti21, ti22, ti23, ti24, ti25, ti26, ti27, ti28, ti29, ti30, ti31, ti32, ti33, ti34, ti35, ti36, ti37, ti38, ti39, ti40, ti41, ti42, ti43, ti44, ti45, ti46, ti47, ti48, ti49, ti50, ti51, ti52, ti53, ti54, ti55, ti56, ti57, ti58, ti59, ti60, ti61, ti62, ti63, ti64, ti65, bop, bopInt, bopNil, bopStr, bopBool, ar, resOf, resAll, ung, gdst, gdl, nth, lvl, rdCt, wrCt, wrCh, wids, wid, vals, valsL, val1, bnd, at1, dr, tk, flat, rowSegs, setl, pickAV, sliceOf, okMx, zeroCt, chunk, fillA, plFs, nz, rep, numsAV, numsV, one, SX.hasBlk, SX.exitTo, callee, opAt, after, back, rnNew, rn, rnr, rnc, rn1, rnCt, wname, List.set, ↓bsplit_true, ↓bsplit_false, ↓reduceIte, Nat.reduceLT, Nat.reduceLeDiff, List.toList_toArray, Nat.reduceEqDiff, Nat.reduceAdd, Nat.reduceSub, Nat.reduceMul, Nat.reduceBEq, Nat.reduceBNe, Bool.and_true, Bool.true_and, Bool.not_false, Bool.not_true, List.contains_nil, List.contains_cons, Bool.or_false, Bool.false_or, Option.isSome_some, Option.isNone_none, Option.isNone_some, reduceCtorEq, true_and, and_true, Option.some.injEq, exists_eq_left', Bool.false_eq_true, List.map_cons, List.map_nil, List.all_cons, List.all_nil, Bool.and_self, List.drop_succ_cons, List.drop_zero, List.length_cons, List.length_nil, List.cons_append, List.nil_append, Option.map_some, Option.map_none, List.append_nil, Nat.zero_add, Nat.add_zero, Nat.sub_zero, Nat.zero_mul, Nat.mul_one, Int.toNat_natCast, Int.toNat_zero, Int.toNat_one, newOwn_iff, newOwnB, Int.add_zero, Int.sub_zero, Int.reduceEq, Int.reduceLT, Int.reduceLE, Int.reduceAdd, Int.reduceSub, Int.reduceMul, Int.reduceToNat, decide_true, decide_false]
    · obtain ⟨rfl, rfl⟩ := hk
      obtain ⟨m, c, xs, hm, hc, hc2, hu, hLL, rfl⟩ := h
      refine ⟨_, _, ?_, Ent.nil _ 3 .i64 1, fun _ => newOwn_of rfl⟩
      have hn3 : n < 1 ∨ 64 < n := .inr hn2
      simp only [shOut, shLeft, shUsed, hn3, if_true]
      exact ⟨0, [], m, c, u, xs, rfl, by simp, by simp, by decide, rfl, ⟨m, c, xs, hm, hc, hc2, by omega, by simpa using hLL, by simp⟩, rfl⟩
  · obtain ⟨v, rfl⟩ : ∃ v : Nat, n = v := ⟨n.toNat, by omega⟩
    refine (rshuffleN h hL hu2 (n := v) (by omega)).mono fun r b ⟨c', O, bl0, h1, h2, h3, h4, h5, h6, h7⟩ => ?_
    obtain ⟨m, c, xs, hm, hc, hc2, hu, hLL, rfl⟩ := h6
    by_cases h0 : v = 0
    · subst h0
      simp only [shOut, shLeft, shUsed]
      refine ⟨c', O, m, c, _, xs, h1, h2, h3, h4, by simp, ⟨m, c, xs, hm, hc, hc2, hu, ?_, by simp⟩, h7⟩
      simpa [shuf] using hLL
    · have hn3 : ¬ (((v : Nat) : Int) < 1 ∨ 64 < ((v : Nat) : Int)) := by omega
      have hlen := shOut_len (n := v) (L := L) (by omega) (by omega)
      rw [hlen]
      simp only [shOut, shLeft, shUsed, hn3, if_false, Int.toNat_natCast]
      have e : u + ((v - 1 : Nat) : Int) = u + (v - 1) := by omega
      rw [e] at h7 hLL hu
      exact ⟨c', O, m, c, _, xs, h1, h2, h3, h4, h5, ⟨m, c, xs, hm, hc, hc2, hu, hLL, rfl⟩, h7⟩

theorem fresh22 (xs : List Int) (c : Nat) (hc : xs.length ≤ c) (hx : xs.length ≤ 1000) (hc2 : c < 9223372036854775808) (hp : ∀ x ∈ xs, 0 ≤ x) : SC Try.prog 22 [.sl 0 0 1 xs.length c] [ints false xs]
    (fun r bl => ∃ (sp : List Int) (c' : Nat), xs.length ≤ c' ∧ c' ≤ xs.length + sp.length ∧ c' < 9223372036854775808 ∧ r = .ptr 2 0 3 0 ∧
        bl = [ints false xs, ints true (xs ++ sp), some ⟨true, 41, .lit [.sl 1 0 1 xs.length c', vi 0, .v (.bool true)]⟩]) := by
  refine SC.of_go Try.func22 rfl rfl (Nat.le_of_ble_eq_true rfl) fun C hC => ex_go [] 100 mo rfl ?_
  simp only [Try.f22]
  simp (maxSteps := 4000000) only [ex, kindOf, pureOp, loadOp, ldLvl, planOf, norm, keep, pickL, rl, rlc, rl1, rlB, idx, sopW, chkA, sop, ev, SX.get, SX.put, SX.mk, ini, ti0, ti1, ti2, ti3, ti4, ti5, ti6, ti7, ti8, ti9, ti10, ti11, ti12, ti13, ti14, ti15, ti16, ti17, ti18, ti19, ti20, ti21, ti22, ti23, ti24, ti25, ti26, ti27, ti28, ti29, ti30, ti31, ti32, ti33, ti34, ti35, ti36, ti37, ti38, ti39, ti40, ti41, ti42, ti43, ti44, ti45, ti46, ti47, ti48, ti49, ti50, ti51, ti52, ti53, ti54, ti55, ti56, ti57, ti58, ti59, ti60, ti61, ti62, ti63, ti64, ti65, bop, bopInt, bopNil, bopStr, bopBool, ar, resOf, resAll, ung, gdst, gdl, nth, lvl, rdCt, wrCt, wrCh, wids, wid, vals, valsL, val1, bnd, at1, dr, tk, flat, rowSegs, setl, pickAV, sliceOf, okMx, zeroCt, chunk, fillA, plFs, nz, rep, numsAV, numsV, one, SX.hasBlk, SX.exitTo, callee, opAt, after, back, rnNew, rn, rnr, rnc, rn1, rnCt, wname, List.set, ↓bsplit_true, ↓bsplit_false, ↓reduceIte, Nat.reduceLT, Nat.reduceLeDiff, List.toList_toArray, Nat.reduceEqDiff, Nat.reduceAdd, Nat.reduceSub, Nat.reduceMul, Nat.reduceBEq, Nat.reduceBNe, Bool.and_true, Bool.true_and, Bool.not_false, Bool.not_true, List.contains_nil, List.contains_cons, Bool.or_false, Bool.false_or, Option.isSome_some, Option.isNone_none, Option.isNone_some, reduceCtorEq, true_and, and_true, Option.some.injEq, exists_eq_left', Bool.false_eq_true, List.map_cons, List.map_nil, List.all_cons, List.all_nil, Bool.and_self, List.drop_succ_cons, List.drop_zero, List.length_cons, List.length_nil, List.cons_append, List.nil_append, Option.map_some, Option.map_none, List.append_nil, Nat.zero_add, Nat.add_zero, Nat.sub_zero, Nat.zero_mul, Nat.mul_one, Int.toNat_natCast, Int.toNat_zero, Int.toNat_one, newOwn_iff, newOwnB, Int.add_zero, Int.sub_zero, Int.reduceEq, Int.reduceLT, Int.reduceLE, Int.reduceAdd, Int.reduceSub, Int.reduceMul, Int.reduceToNat, decide_true, decide_false]
  have h0 : newSpec xs = 0 := by
    have h1 : ¬ 1000 < xs.length := by omega
    have h2 : ¬ ∃ x ∈ xs, x < 0 := fun ⟨x, hx, h⟩ => by have := hp x hx; omega
    simp only [newSpec, h1, h2, if_false]
  refine go_frame [⟨0, 0, 1, false⟩] (new10 xs c hc (by omega) hc2) rfl rfl rfl rfl ?_ rfl fun r0 bl0' hK => ex_go [] 100 mo rfl ?_
  · simp only [FitsL, Fits, lvl, okCt, okCs, okc, ok1, okL, nth, rnCt, rnc, rn1, wname]
    simpa using shows_self rfl
  rcases hK with ⟨h, -⟩ | ⟨-, sp, c', h1, h2, h3, rfl, rfl⟩
  · exact absurd h0 h
  simp (maxSteps := 4000000) only [ex, kindOf, pureOp, loadOp, ldLvl, planOf, norm, keep, pickL, rl, rlc, rl1, rlB, idx, sopW, chkA, sop, ev, SX.get, SX.put, SX.mk, ini, ti0, ti1, ti2, ti3, ti4, ti5, ti6, ti7, ti8, ti9, ti10, ti11, ti12, ti13, ti14, ti15, ti16, ti17, ti18, ti19, ti20, ti21, ti22, ti23, ti24, ti25, ti26, ti27, ti28, ti29, ti30, ti31, ti32, ti33, ti34, ti35, ti36, ti37, ti38, ti39, ti40, ti41, ti42, ti43, ti44, ti45, ti46, ti47, ti48, ti49, ti50, ti51, ti52, ti53, ti54, ti55, ti56, ti57, ti58, ti59, ti60, ti61, ti62, ti63, ti64, ti65, bop, bopInt, bopNil, bopStr, bopBool, ar, resOf, resAll, ung, gdst, gdl, nth, lvl, rdCt, wrCt, wrCh, wids, wid, vals, valsL, val1, bnd, at1, dr, tk, flat, rowSegs, setl, pickAV, sliceOf, okMx, zeroCt, chunk, fillA, plFs, nz, rep, numsAV, numsV, one, SX.hasBlk, SX.exitTo, callee, opAt, after, back, rnNew, rn, rnr, rnc, rn1, rnCt, wname, List.set, ↓bsplit_true, ↓bsplit_false, ↓reduceIte, Nat.reduceLT, Nat.reduceLeDiff, List.toList_toArray, Nat.reduceEqDiff, Nat.reduceAdd, Nat.reduceSub, Nat.reduceMul, Nat.reduceBEq, Nat.reduceBNe, Bool.and_true, Bool.true_and, Bool.not_false, Bool.not_true, List.contains_nil, List.contains_cons, Bool.or_false, Bool.false_or, Option.isSome_some, Option.isNone_none, Option.isNone_some, reduceCtorEq, true_and, and_true, Option.some.injEq, exists_eq_left', Bool.false_eq_true, List.map_cons, List.map_nil, List.all_cons, List.all_nil, Bool.and_self, List.drop_succ_cons, List.drop_zero, List.length_cons, List.length_nil, List.cons_append, List.nil_append, Option.map_some, Option.map_none, List.append_nil, Nat.zero_add, Nat.add_zero, Nat.sub_zero, Nat.zero_mul, Nat.mul_one, Int.toNat_natCast, Int.toNat_zero, Int.toNat_one, newOwn_iff, newOwnB, Int.add_zero, Int.sub_zero, Int.reduceEq, Int.reduceLT, Int.reduceLE, Int.reduceAdd, Int.reduceSub, Int.reduceMul, Int.reduceToNat, decide_true, decide_false]
  simp (maxSteps := 4000000) only [not_true_eq_false, ex, kindOf, pureOp, loadOp, ldLvl, planOf, norm, keep, pickL, rl, rlc, rl1, rlB, idx, sopW, chkA, sop, ev, SX.get, SX.put, SX.mk, ini, ti0, ti1, ti2, ti3, ti4, ti5, ti6, ti7, ti8, ti9, ti10, ti11, ti12, ti13, ti14, ti15, ti16, ti17, ti18, ti19, ti20, ti21, ti22, ti23, ti24, ti25, ti26, ti27, ti28, ti29, ti30, ti31, ti32, ti33, ti34, ti35, ti36, ti37, ti38, ti39, ti40, ti41, ti42, ti43, ti44, ti45, ti46, ti47, ti48, ti49, ti50, ti51, ti52, ti53, ti54, ti55, ti56, ti57, ti58, ti59, ti60, ti61, ti62, ti63, ti64, ti65, bop, bopInt, bopNil, bopStr, bopBool, ar, resOf, resAll, ung, gdst, gdl, nth, lvl, rdCt, wrCt, wrCh, wids, wid, vals, valsL, val1, bnd, at1, dr, tk, flat, rowSegs, setl, pickAV, sliceOf, okMx, zeroCt, chunk, fillA, plFs, nz, rep, numsAV, numsV, one, SX.hasBlk, SX.exitTo, callee, opAt, after, back, rnNew, rn, rnr, rnc, rn1, rnCt, wname, List.set, ↓bsplit_true, ↓bsplit_false, ↓reduceIte, Nat.reduceLT, Nat.reduceLeDiff, List.toList_toArray, Nat.reduceEqDiff, Nat.reduceAdd, Nat.reduceSub, Nat.reduceMul, Nat.reduceBEq, Nat.reduceBNe, Bool.and_true, Bool.true_and, Bool.not_false, Bool.not_true, List.contains_nil, List.contains_cons, Bool.or_false, Bool.false_or, Option.isSome_some, Option.isNone_none, Option.isNone_some, reduceCtorEq, true_and, and_true, Option.some.injEq, exists_eq_left', Bool.false_eq_true, List.map_cons, List.map_nil, List.all_cons, List.all_nil, Bool.and_self, List.drop_succ_cons, List.drop_zero, List.length_cons, List.length_nil, List.cons_append, List.nil_append, Option.map_some, Option.map_none, List.append_nil, Nat.zero_add, Nat.add_zero, Nat.sub_zero, Nat.zero_mul, Nat.mul_one, Int.toNat_natCast, Int.toNat_zero, Int.toNat_one, newOwn_iff, newOwnB, Int.add_zero, Int.sub_zero, Int.reduceEq, Int.reduceLT, Int.reduceLE, Int.reduceAdd, Int.reduceSub, Int.reduceMul, Int.reduceToNat, decide_true, decide_false]
  exact ⟨sp, c', h1, h2, h3, rfl⟩
end Go.Proofs.Ytconldbakjfbhaa
