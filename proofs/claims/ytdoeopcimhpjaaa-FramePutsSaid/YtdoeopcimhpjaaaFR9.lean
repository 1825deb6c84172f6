/- Frames: the words of the laws' helpers. -/
import Derived.Test.YtdoeopcimhpjaaaFR8
set_option linter.unusedSimpArgs false
set_option linter.unusedVariables false
-- FUNCTIONS 27
namespace Go.Proofs.Ytdoeopcimhpjaaa
open Go Go.SY
def kpick (x n : Int) : Int := if n < 1 then 0 else if x.tmod n < 0 then x.tmod n + n else x.tmod n
def sPick : List AV → Option (Bool × AV × Bls)
  | [.v (.int .i64 x), .v (.int .i64 n)] => some (decide (n ≤ 9223372036854775807), .v (.int .i64 (kpick x n)), [])
  | _ => none
set_option maxRecDepth 100000 in
set_option maxHeartbeats 4000000 in
theorem pick_run (C : Ctx) (x n : Int) (hn : n ≤ 9223372036854775807) : Rch Try.prog (plOf pls) C (conf0 27 ⟨16, [.tmp 4], code27⟩ [.v (.int .i64 x), .v (.int .i64 n)] []) (Res (.v (.int .i64 (kpick x n))) []) := by
  refine ExQ_ok [] 2000 plsOk noK ?_
  simp only [conf0]
  by_cases h : n < 1
  · (try rw [exh]); simp (maxSteps := 4000000) only [h, Ex, stops, inK, stepF, frsF, frF, itemF, codeF, condF, opsF, opsW, opF, callO, drF, drO, drW, drC, stepS, wtS, gdst, gdl, sopF, pv, evq, orl, bltF, callF, calleeS, popF, lopF, bltP, callP, cls, lvA, rdl, quiet, p_move, p_assign, p_pick, p_nilCheck, p_binOp, p_unOp, p_convert, p_fieldAddr, p_indexAddr, p_index, p_slice, p_makeFunc, p_extract, p_field, p_build, p_len, p_cap, p_min, p_max, l_load, l_convert, l_slice, zerR, roomR, appRR, roomN, appNN, cpSrcN, clN, cpSrc, cpR, clR, e_clear, srcR, dstR, srcN, dstN, e_store, e_alloc, e_box, e_buildSlice, e_makeSlice, e_append, e_copy, e_convert, SY.get, SY.put, SY.ev, SY.mk, SY.nth, SY.lvl, SY.setl, SY.ini, wid, wids, dr, tk, flat, at1, pack, parts, rdC, rdCt, wrC, wrCt, ar, bits2, bopInt, bopStr, bopEq, isPtr, isSl, isBl, eqPs, eqLf, bop, pickAV, bnd, subO, cutOf, okMx, fillA, plFs, nz, minI, numsAt, aOf, hd1, hdL, immL, isArr, ctOf, rowsOf, numsAV, rep, elCt, wrRow, killO, srcN, dstN, dstR, srcR, chR, enterS, leaveS, retS, endS, exitS, gotoS, finishS, killL, isDefs, setPs, roundS, resS, resAll, tup1, conf0, AV.scal, plk, spz, Ct.cell, exq_zero, exq_go, exq_d, exq_n, lvCt, lvE, exq_t, exq_f, exq_t0, exq_f0, ↓bsplit_true, ↓bsplit_false, ↓reduceIte, Nat.reduceLT, Nat.reduceLeDiff, List.toList_toArray, Nat.reduceEqDiff, Nat.reduceAdd, Nat.reduceSub, Nat.reduceMul, Nat.reduceBEq, Nat.reduceBNe, Bool.and_true, Bool.true_and, Bool.not_false, Bool.not_true, List.contains_nil, List.contains_cons, Bool.or_false, Bool.false_or, Option.isSome_some, Option.isSome_none, Option.isNone_none, Option.isNone_some, reduceCtorEq, true_and, and_true, Option.some.injEq, Bool.false_eq_true, List.map_cons, List.map_nil, List.all_cons, List.all_nil, Bool.and_self, List.drop_succ_cons, List.drop_zero, List.length_cons, List.length_nil, List.cons_append, List.nil_append, Option.map_some, Option.map_none, List.append_nil, Nat.zero_add, Nat.add_zero, Nat.sub_zero, Nat.zero_mul, Nat.mul_one, Int.toNat_natCast, Int.toNat_zero, Int.toNat_one, Int.add_zero, Int.sub_zero, Int.reduceEq, Int.reduceLT, Int.reduceLE, Int.reduceAdd, Int.reduceSub, Int.reduceMul, Int.reduceToNat, Int.cast_ofNat_Int, decide_true, decide_false, Option.getD_some, Option.getD_none, ktB, ktX, ktOf, conK, extK, ovlK, rwz, alive, lndL, lnd, lvB, lvL, lvR, lvT, tB_tt, tB_ft, tB_ff, okBls, shB, ren, renL, renR, renCt, ne_eq, not_false_eq_true, not_true_eq_false, and_false, false_and, and_self, ti0, ti1, ti2, ti3, ti4, ti5, ti6, ti7, ti8, ti9, ti10, ti11, ti12, ti13, ti14, ti15, ti16, ti17, ti18, ti19, ti20, ti21, ti22, ti23, ti24, ti25, ti26, ti27, ti28, ti29, ti30, ti31, ti32, ti33, ti34, ti35, ti36, ti37, ti38, ti39, ti40, ti41, ti42, ti43, ti44, ti45, ti46, ti47, ti48, ti49, ti50, ti51, ti52, ti53, ti54, ti55, ti56, ti57, ti58, ti59, ti60, ti61, ti62, ti63, ti64, ti65, ti66, ti67, ti68, ti69, ti70, ti71, ti72, ti73, ti74, ti75, ti76, regAt, fi27, body27, Try.f27, ↓exq_cd cd_code27, ↓exq_cd cd_c27_1, ↓exq_cd cd_c27_2, ↓exq_cd cd_c27_3, ↓exq_cd cd_c27_5, ↓exq_cd cd_c27_6, ↓exq_cd cd_c27_7, ↓exq_cd cd_c27_9, ↓exq_cd cd_c27_4, ↓exq_cd cd_c27_10, ↓exq_cd cd_c27_11, ↓exq_cd cd_c27_12, ↓exq_cd cd_c27_14, ↓exq_cd cd_c27_15, ↓exq_cd cd_c27_16, ↓exq_cd cd_c27_13, ↓exq_cd cd_c27_18, r27_1, r27_5, r27_9, r27_10, r27_14, r27_16, r27_18, plA11, pl11, plA13, pl13, plA16, pl16, plA31, pl31, plA37, pl37, plA39, pl39]
    repeat (refine And.intro (a := (_ = true)) (by first | (simp; done) | (simp; omega)) ?_)
    rw [kpick, if_pos h]
    exact Res.val _ _
  · have g1 := Int.lt_tmod_of_pos x (b := n) (by omega)
    have g2 := Int.tmod_lt_of_pos x (b := n) (by omega)
    by_cases h2 : x.tmod n < 0
    · (try rw [exh]); simp (maxSteps := 4000000) only [h, h2, Ex, stops, inK, stepF, frsF, frF, itemF, codeF, condF, opsF, opsW, opF, callO, drF, drO, drW, drC, stepS, wtS, gdst, gdl, sopF, pv, evq, orl, bltF, callF, calleeS, popF, lopF, bltP, callP, cls, lvA, rdl, quiet, p_move, p_assign, p_pick, p_nilCheck, p_binOp, p_unOp, p_convert, p_fieldAddr, p_indexAddr, p_index, p_slice, p_makeFunc, p_extract, p_field, p_build, p_len, p_cap, p_min, p_max, l_load, l_convert, l_slice, zerR, roomR, appRR, roomN, appNN, cpSrcN, clN, cpSrc, cpR, clR, e_clear, srcR, dstR, srcN, dstN, e_store, e_alloc, e_box, e_buildSlice, e_makeSlice, e_append, e_copy, e_convert, SY.get, SY.put, SY.ev, SY.mk, SY.nth, SY.lvl, SY.setl, SY.ini, wid, wids, dr, tk, flat, at1, pack, parts, rdC, rdCt, wrC, wrCt, ar, bits2, bopInt, bopStr, bopEq, isPtr, isSl, isBl, eqPs, eqLf, bop, pickAV, bnd, subO, cutOf, okMx, fillA, plFs, nz, minI, numsAt, aOf, hd1, hdL, immL, isArr, ctOf, rowsOf, numsAV, rep, elCt, wrRow, killO, srcN, dstN, dstR, srcR, chR, enterS, leaveS, retS, endS, exitS, gotoS, finishS, killL, isDefs, setPs, roundS, resS, resAll, tup1, conf0, AV.scal, plk, spz, Ct.cell, exq_zero, exq_go, exq_d, exq_n, lvCt, lvE, exq_t, exq_f, exq_t0, exq_f0, ↓bsplit_true, ↓bsplit_false, ↓reduceIte, Nat.reduceLT, Nat.reduceLeDiff, List.toList_toArray, Nat.reduceEqDiff, Nat.reduceAdd, Nat.reduceSub, Nat.reduceMul, Nat.reduceBEq, Nat.reduceBNe, Bool.and_true, Bool.true_and, Bool.not_false, Bool.not_true, List.contains_nil, List.contains_cons, Bool.or_false, Bool.false_or, Option.isSome_some, Option.isSome_none, Option.isNone_none, Option.isNone_some, reduceCtorEq, true_and, and_true, Option.some.injEq, Bool.false_eq_true, List.map_cons, List.map_nil, List.all_cons, List.all_nil, Bool.and_self, List.drop_succ_cons, List.drop_zero, List.length_cons, List.length_nil, List.cons_append, List.nil_append, Option.map_some, Option.map_none, List.append_nil, Nat.zero_add, Nat.add_zero, Nat.sub_zero, Nat.zero_mul, Nat.mul_one, Int.toNat_natCast, Int.toNat_zero, Int.toNat_one, Int.add_zero, Int.sub_zero, Int.reduceEq, Int.reduceLT, Int.reduceLE, Int.reduceAdd, Int.reduceSub, Int.reduceMul, Int.reduceToNat, Int.cast_ofNat_Int, decide_true, decide_false, Option.getD_some, Option.getD_none, ktB, ktX, ktOf, conK, extK, ovlK, rwz, alive, lndL, lnd, lvB, lvL, lvR, lvT, tB_tt, tB_ft, tB_ff, okBls, shB, ren, renL, renR, renCt, ne_eq, not_false_eq_true, not_true_eq_false, and_false, false_and, and_self, ti0, ti1, ti2, ti3, ti4, ti5, ti6, ti7, ti8, ti9, ti10, ti11, ti12, ti13, ti14, ti15, ti16, ti17, ti18, ti19, ti20, ti21, ti22, ti23, ti24, ti25, ti26, ti27, ti28, ti29, ti30, ti31, ti32, ti33, ti34, ti35, ti36, ti37, ti38, ti39, ti40, ti41, ti42, ti43, ti44, ti45, ti46, ti47, ti48, ti49, ti50, ti51, ti52, ti53, ti54, ti55, ti56, ti57, ti58, ti59, ti60, ti61, ti62, ti63, ti64, ti65, ti66, ti67, ti68, ti69, ti70, ti71, ti72, ti73, ti74, ti75, ti76, regAt, fi27, body27, Try.f27, ↓exq_cd cd_code27, ↓exq_cd cd_c27_1, ↓exq_cd cd_c27_2, ↓exq_cd cd_c27_3, ↓exq_cd cd_c27_5, ↓exq_cd cd_c27_6, ↓exq_cd cd_c27_7, ↓exq_cd cd_c27_9, ↓exq_cd cd_c27_4, ↓exq_cd cd_c27_10, ↓exq_cd cd_c27_11, ↓exq_cd cd_c27_12, ↓exq_cd cd_c27_14, ↓exq_cd cd_c27_15, ↓exq_cd cd_c27_16, ↓exq_cd cd_c27_13, ↓exq_cd cd_c27_18, r27_1, r27_5, r27_9, r27_10, r27_14, r27_16, r27_18, plA11, pl11, plA13, pl13, plA16, pl16, plA31, pl31, plA37, pl37, plA39, pl39]
      repeat (refine And.intro (a := (_ = true)) (by first | (simp; done) | (simp; omega)) ?_)
      rw [kpick, if_neg h, if_pos h2]
      exact Res.val _ _
    · (try rw [exh]); simp (maxSteps := 4000000) only [h, h2, Ex, stops, inK, stepF, frsF, frF, itemF, codeF, condF, opsF, opsW, opF, callO, drF, drO, drW, drC, stepS, wtS, gdst, gdl, sopF, pv, evq, orl, bltF, callF, calleeS, popF, lopF, bltP, callP, cls, lvA, rdl, quiet, p_move, p_assign, p_pick, p_nilCheck, p_binOp, p_unOp, p_convert, p_fieldAddr, p_indexAddr, p_index, p_slice, p_makeFunc, p_extract, p_field, p_build, p_len, p_cap, p_min, p_max, l_load, l_convert, l_slice, zerR, roomR, appRR, roomN, appNN, cpSrcN, clN, cpSrc, cpR, clR, e_clear, srcR, dstR, srcN, dstN, e_store, e_alloc, e_box, e_buildSlice, e_makeSlice, e_append, e_copy, e_convert, SY.get, SY.put, SY.ev, SY.mk, SY.nth, SY.lvl, SY.setl, SY.ini, wid, wids, dr, tk, flat, at1, pack, parts, rdC, rdCt, wrC, wrCt, ar, bits2, bopInt, bopStr, bopEq, isPtr, isSl, isBl, eqPs, eqLf, bop, pickAV, bnd, subO, cutOf, okMx, fillA, plFs, nz, minI, numsAt, aOf, hd1, hdL, immL, isArr, ctOf, rowsOf, numsAV, rep, elCt, wrRow, killO, srcN, dstN, dstR, srcR, chR, enterS, leaveS, retS, endS, exitS, gotoS, finishS, killL, isDefs, setPs, roundS, resS, resAll, tup1, conf0, AV.scal, plk, spz, Ct.cell, exq_zero, exq_go, exq_d, exq_n, lvCt, lvE, exq_t, exq_f, exq_t0, exq_f0, ↓bsplit_true, ↓bsplit_false, ↓reduceIte, Nat.reduceLT, Nat.reduceLeDiff, List.toList_toArray, Nat.reduceEqDiff, Nat.reduceAdd, Nat.reduceSub, Nat.reduceMul, Nat.reduceBEq, Nat.reduceBNe, Bool.and_true, Bool.true_and, Bool.not_false, Bool.not_true, List.contains_nil, List.contains_cons, Bool.or_false, Bool.false_or, Option.isSome_some, Option.isSome_none, Option.isNone_none, Option.isNone_some, reduceCtorEq, true_and, and_true, Option.some.injEq, Bool.false_eq_true, List.map_cons, List.map_nil, List.all_cons, List.all_nil, Bool.and_self, List.drop_succ_cons, List.drop_zero, List.length_cons, List.length_nil, List.cons_append, List.nil_append, Option.map_some, Option.map_none, List.append_nil, Nat.zero_add, Nat.add_zero, Nat.sub_zero, Nat.zero_mul, Nat.mul_one, Int.toNat_natCast, Int.toNat_zero, Int.toNat_one, Int.add_zero, Int.sub_zero, Int.reduceEq, Int.reduceLT, Int.reduceLE, Int.reduceAdd, Int.reduceSub, Int.reduceMul, Int.reduceToNat, Int.cast_ofNat_Int, decide_true, decide_false, Option.getD_some, Option.getD_none, ktB, ktX, ktOf, conK, extK, ovlK, rwz, alive, lndL, lnd, lvB, lvL, lvR, lvT, tB_tt, tB_ft, tB_ff, okBls, shB, ren, renL, renR, renCt, ne_eq, not_false_eq_true, not_true_eq_false, and_false, false_and, and_self, ti0, ti1, ti2, ti3, ti4, ti5, ti6, ti7, ti8, ti9, ti10, ti11, ti12, ti13, ti14, ti15, ti16, ti17, ti18, ti19, ti20, ti21, ti22, ti23, ti24, ti25, ti26, ti27, ti28, ti29, ti30, ti31, ti32, ti33, ti34, ti35, ti36, ti37, ti38, ti39, ti40, ti41, ti42, ti43, ti44, ti45, ti46, ti47, ti48, ti49, ti50, ti51, ti52, ti53, ti54, ti55, ti56, ti57, ti58, ti59, ti60, ti61, ti62, ti63, ti64, ti65, ti66, ti67, ti68, ti69, ti70, ti71, ti72, ti73, ti74, ti75, ti76, regAt, fi27, body27, Try.f27, ↓exq_cd cd_code27, ↓exq_cd cd_c27_1, ↓exq_cd cd_c27_2, ↓exq_cd cd_c27_3, ↓exq_cd cd_c27_5, ↓exq_cd cd_c27_6, ↓exq_cd cd_c27_7, ↓exq_cd cd_c27_9, ↓exq_cd cd_c27_4, ↓exq_cd cd_c27_10, ↓exq_cd cd_c27_11, ↓exq_cd cd_c27_12, ↓exq_cd cd_c27_14, ↓exq_cd cd_c27_15, ↓exq_cd cd_c27_16, ↓exq_cd cd_c27_13, ↓exq_cd cd_c27_18, r27_1, r27_5, r27_9, r27_10, r27_14, r27_16, r27_18, plA11, pl11, plA13, pl13, plA16, pl16, plA31, pl31, plA37, pl37, plA39, pl39]
      repeat (refine And.intro (a := (_ = true)) (by first | (simp; done) | (simp; omega)) ?_)
      rw [kpick, if_neg h, if_neg h2]
      exact Res.val _ _
theorem pick_ok : SpecOk Try.prog (plOf pls) 27 sPick := by
  refine ⟨_, fi27, fun args r bl1 h => ?_⟩
  unfold sPick at h
  split at h
  · simp only [Option.some.injEq, Prod.mk.injEq, decide_eq_true_eq] at h
    obtain ⟨h1, rfl, rfl⟩ := h
    exact ⟨by simp, fun C _ _ => pick_run C _ _ h1⟩
  · cases h
theorem pick_lt (x : Int) {n : Nat} (h : 1 ≤ n) : ∃ k : Nat, k < n ∧ kpick x n = (k : Int) := by
  have g1 := Int.lt_tmod_of_pos x (b := (n : Int)) (by omega)
  have g2 := Int.tmod_lt_of_pos x (b := (n : Int)) (by omega)
  refine ⟨(kpick x n).toNat, ?_, ?_⟩ <;> (unfold kpick; split <;> (try split) <;> omega)
set_option maxRecDepth 100000 in
theorem known_run : runX Try.prog kTab pls pts [] 4000 4 [] = true := by kernel_rfl
set_option maxRecDepth 100000 in
theorem awake_run : runX Try.prog kTab pls pts [] 4000 9 [] = true := by kernel_rfl
def kL : KT := ktOf [(4, specT), (9, specT), (20, sLong0), (22, sJoin), (11, sSplit), (13, sSam), (18, sSize), (24, sSaB), (27, sPick)]
theorem kL_ok : KOk Try.prog (plOf pls) kL := ktOf_ok plsOk fun x hx => by
  simp only [List.mem_cons, List.not_mem_nil, or_false] at hx
  rcases hx with rfl | rfl | rfl | rfl | rfl | rfl | rfl | rfl | rfl
  · exact spec_true plsOk kTab_ok known_run
  · exact spec_true plsOk kTab_ok awake_run
  · exact long_ok
  · exact join_ok
  · exact split_ok
  · exact same_ok
  · exact size_ok
  · exact sameB_ok
  · exact pick_ok
/-- Records that are gone through are few. -/
theorem lng_few {rs : List (List AV)} (h : lngB rs = false) : rs.length ≤ 20 ∧ ∀ x ∈ bys rs, x.length ≤ 4100 := by
  rw [lngB, Bool.or_eq_false_iff, decide_eq_false_iff_not] at h
  refine ⟨by omega, fun x hx => ?_⟩
  obtain ⟨r, hr, rfl⟩ := List.mem_map.1 hx
  have := List.any_eq_false.1 h.2 r hr
  simp only [decide_eq_true_eq] at this
  omega
theorem jn_bound : ∀ {ls : List (List Int)}, (∀ x ∈ ls, x.length ≤ 4100) → (jn ls).length ≤ 4108 * ls.length
  | [], _ => by simp [jn]
  | x :: r, h => by
    have h1 := h x (List.mem_cons_self ..)
    have h2 := jn_bound (ls := r) fun y hy => h y (List.mem_cons_of_mem _ hy)
    have e : jn (x :: r) = frm x ++ jn r := rfl
    rw [e, List.length_append, frm_len, List.length_cons]
    omega
theorem jn_few {rs : List (List AV)} (h : lngB rs = false) : (jn (bys rs)).length ≤ 82160 := by
  obtain ⟨h1, h2⟩ := lng_few h
  have := jn_bound h2
  rw [bys_len] at this
  omega
theorem fit_all {rs : List (List AV)} (hok : ∀ x ∈ bys rs, okN .u8 x) (h : jErr (bys rs) = 0) : ∀ x ∈ bys rs, Fit x := fun x hx => by
  have := putE_iff.1 (jErr_iff.1 h x hx)
  exact ⟨hok x hx, this.1, this.2⟩
/-- The size of a record's frame. -/
theorem siz_fit {rs : List (List AV)} {i : Nat} (hf : ∀ x ∈ bys rs, Fit x) (hi : i < rs.length) : sizN ((byA rs i).length : Nat) = 8 + ((byA rs i).length : Nat) ∧ (jn ((bys rs).take (i + 1))).length = (jn ((bys rs).take i)).length + (8 + (byA rs i).length) := by
  have hm : byA rs i ∈ bys rs := List.mem_of_getElem? (bys_get hi)
  obtain ⟨-, h1, h2⟩ := hf _ hm
  refine ⟨by rw [sizN, if_pos (by omega), if_pos (by omega)], ?_⟩
  rw [bys_succ hi, jn_app, List.length_append]
  have e : jn [byA rs i] = frm (byA rs i) := List.append_nil _
  rw [e, frm_len]
  omega
/-- A record that is handed in. -/
def rwC (r : List Int × Nat) : List AV := [.imn false .u8 r.1 (some r.2)]
theorem rwC_all (ms : List (List Int × Nat)) : (ms.map rwC).all isB = true := List.all_eq_true.2 fun r hr => by
  obtain ⟨x, _, rfl⟩ := List.mem_map.1 hr
  rfl
theorem rwC_ok {ms : List (List Int × Nat)} (h : ∀ r ∈ ms, okN .u8 r.1 ∧ r.1.length ≤ r.2 ∧ r.2 ≤ maxLen) : ∀ x ∈ bys (ms.map rwC), okN .u8 x := fun x hx => by
  rw [bys, List.map_map] at hx
  obtain ⟨r, hr, rfl⟩ := List.mem_map.1 hx
  exact (h r hr).1
def IsT (r : AV) (_ : Bls) : Prop := r = .v (.bool true)
end Go.Proofs.Ytdoeopcimhpjaaa
