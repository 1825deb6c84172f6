/- Views: rows that are members; view.Check. -/
import Derived.Test.YtdanhpemheldlaaV0
import Derived.Test.YtdanhpemheldlaaMB1
import Derived.Test.YtdanhpemheldlaaSy45
set_option linter.unusedSimpArgs false
set_option linter.unusedVariables false
-- FUNCTIONS 13
namespace Go.Proofs.Ytdanhpemheldlaa
open Go Go.SY
def idR : List AV → Int
  | .v (.int .i64 a) :: _ => a
  | _ => 0
def stR : List AV → Int
  | _ :: .v (.int .i64 a) :: _ => a
  | _ => 0
def icR : List AV → Int
  | _ :: _ :: .v (.int .i64 a) :: _ => a
  | _ => 0
def isM : List AV → Bool
  | [.v (.int .i64 _), .v (.int .i64 _), .v (.int .i64 _)] => true
  | _ => false
theorem isM_eq {r : List AV} (h : isM r = true) : r = [.v (.int .i64 (idR r)), .v (.int .i64 (stR r)), .v (.int .i64 (icR r))] := by
  unfold isM at h
  split at h
  · rfl
  · cases h
theorem isM_flat {rs : List (List AV)} (h : rs.all isM = true) : FlatR rs :=
  FlatR.of fun r hr => by
    rw [isM_eq (List.all_eq_true.1 h r hr)]; rfl
def rowA (rs : List (List AV)) (i : Nat) : List AV := rs[i]?.getD []
theorem isM_row {rs : List (List AV)} (h : rs.all isM = true) {i : Nat} (hi : i < rs.length) : rs[i]?.getD [] = [.v (.int .i64 (idR (rowA rs i))), .v (.int .i64 (stR (rowA rs i))), .v (.int .i64 (icR (rowA rs i)))] := by
  have e : rs[i]?.getD [] = rs[i] := by rw [List.getElem?_eq_getElem hi]; rfl
  unfold rowA
  rw [e]
  exact isM_eq (List.all_eq_true.1 h _ (List.getElem_mem hi))
def MemR (r : List AV) : Prop := MemOk (idR r) (stR r) (icR r)
instance (r : List AV) : Decidable (MemR r) := by unfold MemR; infer_instance
def vOk : List (List AV) → Int → Bool
  | [], _ => true
  | r :: q, last => decide (MemR r) && (decide (last < idR r) && vOk q (idR r))
theorem vOk_step {rs : List (List AV)} {i : Nat} (h : i < rs.length) (last : Int) : vOk (rs.drop i) last = (decide (MemR (rowA rs i)) && (decide (last < idR (rowA rs i)) && vOk (rs.drop (i + 1)) (idR (rowA rs i)))) := by
  rw [List.drop_eq_getElem_cons h]
  have e : rowA rs i = rs[i] := by unfold rowA; rw [List.getElem?_eq_getElem h]; rfl
  rw [e]
  rfl
def vchk (rs : List (List AV)) : Int := if vOk rs 0 = true then 0 else 2
def sV : List AV → Option (Bool × AV × Bls)
  | [.imr _ 3 rs _] => some (rs.all isM && decide (rs.length < 4611686018427387904), .v (.int .i64 (vchk rs)), [])
  | _ => none
def tV (t : Bool) (rs : List (List AV)) (c : Option Nat) (last : Int) (i : Nat) : TM := [(3, .v (.int .i64 last)), (8, .v (.int .i64 i)), (7, .v (.int .i64 rs.length)), (6, .imr t 3 rs c)]
theorem tV_lv {rs : List (List AV)} (hf : FlatR rs) (t : Bool) (c : Option Nat) (last : Int) (i N : Nat) : lvT N true (tV t rs c last i) = true := by
  cases t <;> simp only [tV, lvT, lvB, tB, hf.lv, Bool.and_true, Bool.true_and]
set_option maxRecDepth 100000 in
set_option maxHeartbeats 4000000 in
theorem vchk_run (C : Ctx) (hC : C.β.b = []) (t : Bool) (rs : List (List AV)) (c : Option Nat) (hm : rs.all isM = true) (hx : rs.length < 4611686018427387904) : Rch Try.prog (plOf pls) C (conf0 13 ⟨24, [.tmp 2], code13⟩ [.imr t 3 rs c] []) (Res (.v (.int .i64 (vchk rs))) []) := by
  have hf := isM_flat hm
  refine ExQ_ok [] 2000 plsOk kM0_ok ?_
  simp only [conf0]
  (try rw [exh]); simp (maxSteps := 4000000) only [kM0, sCmp, sChk, Ex, stops, inK, stepF, frsF, frF, itemF, codeF, condF, opsF, opsW, opF, callO, drF, drO, drW, drC, stepS, wtS, gdst, gdl, sopF, pv, evq, orl, bltF, callF, calleeS, popF, lopF, bltP, callP, cls, lvA, rdl, quiet, p_move, p_assign, p_pick, p_nilCheck, p_binOp, p_unOp, p_convert, p_fieldAddr, p_indexAddr, p_index, p_slice, p_makeFunc, p_extract, p_field, p_build, p_len, p_cap, p_min, p_max, l_load, l_convert, l_slice, zerR, roomR, appRR, roomN, appNN, cpSrcN, clN, cpSrc, cpR, clR, e_clear, srcR, dstR, srcN, dstN, e_store, e_alloc, e_box, e_buildSlice, e_makeSlice, e_append, e_copy, e_convert, SY.get, SY.put, SY.ev, SY.mk, SY.nth, SY.lvl, SY.setl, SY.ini, wid, wids, dr, tk, flat, at1, pack, parts, rdC, rdCt, wrC, wrCt, ar, bits2, bopInt, bopStr, bopEq, isPtr, isSl, isBl, eqPs, eqLf, bop, pickAV, bnd, subO, cutOf, okMx, fillA, plFs, nz, minI, numsAt, aOf, hd1, hdL, immL, isArr, ctOf, rowsOf, numsAV, rep, elCt, wrRow, killO, srcN, dstN, dstR, srcR, chR, enterS, leaveS, retS, endS, exitS, gotoS, finishS, killL, isDefs, setPs, roundS, resS, resAll, tup1, conf0, AV.scal, plk, spz, Ct.cell, exq_zero, exq_go, exq_d, exq_n, lvCt, lvE, exq_t, exq_f, exq_t0, exq_f0, ↓bsplit_true, ↓bsplit_false, ↓reduceIte, Nat.reduceLT, Nat.reduceLeDiff, List.toList_toArray, Nat.reduceEqDiff, Nat.reduceAdd, Nat.reduceSub, Nat.reduceMul, Nat.reduceBEq, Nat.reduceBNe, Bool.and_true, Bool.true_and, Bool.not_false, Bool.not_true, List.contains_nil, List.contains_cons, Bool.or_false, Bool.false_or, Option.isSome_some, Option.isSome_none, Option.isNone_none, Option.isNone_some, reduceCtorEq, true_and, and_true, Option.some.injEq, Bool.false_eq_true, List.map_cons, List.map_nil, List.all_cons, List.all_nil, Bool.and_self, List.drop_succ_cons, List.drop_zero, List.length_cons, List.length_nil, List.cons_append, List.nil_append, Option.map_some, Option.map_none, List.append_nil, Nat.zero_add, Nat.add_zero, Nat.sub_zero, Nat.zero_mul, Nat.mul_one, Int.toNat_natCast, Int.toNat_zero, Int.toNat_one, Int.add_zero, Int.sub_zero, Int.reduceEq, Int.reduceLT, Int.reduceLE, Int.reduceAdd, Int.reduceSub, Int.reduceMul, Int.reduceToNat, Int.cast_ofNat_Int, decide_true, decide_false, Option.getD_some, Option.getD_none, ktB, ktX, ktOf, conK, extK, ovlK, rwz, alive, lndL, lnd, lvB, lvL, lvR, lvT, tB_tt, tB_ft, tB_ff, okBls, shB, ren, renL, renR, renCt, ne_eq, not_false_eq_true, not_true_eq_false, and_false, false_and, and_self, ti0, ti1, ti2, ti3, ti4, ti5, ti6, ti7, ti8, ti9, ti10, ti11, ti12, ti13, ti14, ti15, ti16, ti17, ti18, ti19, ti20, ti21, ti22, ti23, ti24, ti25, ti26, ti27, ti28, ti29, ti30, ti31, ti32, ti33, ti34, ti35, ti36, ti37, ti38, ti39, ti40, ti41, ti42, ti43, ti44, ti45, ti46, ti47, ti48, ti49, ti50, ti51, ti52, ti53, ti54, ti55, ti56, ti57, ti58, ti59, ti60, ti61, ti62, ti63, ti64, ti65, ti66, ti67, ti68, ti69, ti70, ti71, ti72, ti73, ti74, ti75, ti76, ti77, ti78, ti79, ti80, ti81, ti82, ti83, ti84, ti85, ti86, ti87, ti88, regAt, fi13, body13, Try.f13, ↓exq_cd cd_code13, ↓exq_cd cd_c13_1, ↓exq_cd cd_c13_2, ↓exq_cd cd_c13_3, ↓exq_cd cd_c13_4, ↓exq_cd cd_c13_5, ↓exq_cd cd_c13_7, ↓exq_cd cd_c13_8, ↓exq_cd cd_c13_9, ↓exq_cd cd_c13_10, ↓exq_cd cd_c13_11, ↓exq_cd cd_c13_12, ↓exq_cd cd_c13_13, ↓exq_cd cd_c13_14, ↓exq_cd cd_c13_16, ↓exq_cd cd_c13_18, ↓exq_cd cd_c13_19, ↓exq_cd cd_c13_20, ↓exq_cd cd_c13_21, ↓exq_cd cd_c13_23, ↓exq_cd cd_c13_24, ↓exq_cd cd_c13_25, ↓exq_cd cd_c13_27, ↓exq_cd cd_c13_22, ↓exq_cd cd_c13_17, ↓exq_cd cd_c13_6, ↓exq_cd cd_c13_28, r13_1, r13_3, r13_7, r13_11, r13_19, r13_23, r13_27, r13_22, r13_17, r13_28, plA4, pl4, plA8, pl8, plA9, pl9, plA11, pl11, plA12, pl12, plA18, pl18, plA26, pl26, plA28, pl28, plA36, pl36, plA41, pl41, plA44, pl44, plA48, pl48, plA56, pl56, plA63, pl63]
  repeat (refine And.intro (a := (_ = true)) (by first | (simp; done) | (simp; omega)) ?_)
  refine Rch.loop plsOk ?_
  refine Rch.fit1 hC [] (bl' := []) (tm' := tV t rs c 0 0) rfl List.nodup_nil rfl ⟨rfl, rfl, rfl, congrArg (fun x => AV.imr t 3 x c) (hf.ren _).symm, trivial⟩ (tV_lv hf ..) trivial ?_
  have fin : ∀ q last, (if vOk q last = true then (0 : Int) else 2) = if vOk q last = true then 0 else 2 := fun _ _ => rfl
  refine loop_ind plsOk (α := {a : Nat × Int // a.1 ≤ rs.length}) (fun a => rs.length - a.1.1) (fun a => tV t rs c a.1.2 a.1.1) (fun _ => []) (fun a => Res (.v (.int .i64 (if vOk (rs.drop a.1.1) a.1.2 = true then 0 else 2))) []) ?_ ⟨(0, 0), Nat.zero_le _⟩
  rintro ⟨⟨i, last⟩, hi⟩ ih
  simp only [tV] at hi ih ⊢
  by_cases h : (i : Int) < rs.length
  · have e := isM_row hm (i := i) (by omega)
    rw [vOk_step (by omega)]
    by_cases h1 : MemR (rowA rs i)
    case neg =>
      have h1' := chk_neg h1
      refine ExQ_ok [] 2000 plsOk kM0_ok ?_
      (try rw [exh]); simp (maxSteps := 4000000) only [kM0, sCmp, sChk, h, e, h1', Ex, stops, inK, stepF, frsF, frF, itemF, codeF, condF, opsF, opsW, opF, callO, drF, drO, drW, drC, stepS, wtS, gdst, gdl, sopF, pv, evq, orl, bltF, callF, calleeS, popF, lopF, bltP, callP, cls, lvA, rdl, quiet, p_move, p_assign, p_pick, p_nilCheck, p_binOp, p_unOp, p_convert, p_fieldAddr, p_indexAddr, p_index, p_slice, p_makeFunc, p_extract, p_field, p_build, p_len, p_cap, p_min, p_max, l_load, l_convert, l_slice, zerR, roomR, appRR, roomN, appNN, cpSrcN, clN, cpSrc, cpR, clR, e_clear, srcR, dstR, srcN, dstN, e_store, e_alloc, e_box, e_buildSlice, e_makeSlice, e_append, e_copy, e_convert, SY.get, SY.put, SY.ev, SY.mk, SY.nth, SY.lvl, SY.setl, SY.ini, wid, wids, dr, tk, flat, at1, pack, parts, rdC, rdCt, wrC, wrCt, ar, bits2, bopInt, bopStr, bopEq, isPtr, isSl, isBl, eqPs, eqLf, bop, pickAV, bnd, subO, cutOf, okMx, fillA, plFs, nz, minI, numsAt, aOf, hd1, hdL, immL, isArr, ctOf, rowsOf, numsAV, rep, elCt, wrRow, killO, srcN, dstN, dstR, srcR, chR, enterS, leaveS, retS, endS, exitS, gotoS, finishS, killL, isDefs, setPs, roundS, resS, resAll, tup1, conf0, AV.scal, plk, spz, Ct.cell, exq_zero, exq_go, exq_d, exq_n, lvCt, lvE, exq_t, exq_f, exq_t0, exq_f0, ↓bsplit_true, ↓bsplit_false, ↓reduceIte, Nat.reduceLT, Nat.reduceLeDiff, List.toList_toArray, Nat.reduceEqDiff, Nat.reduceAdd, Nat.reduceSub, Nat.reduceMul, Nat.reduceBEq, Nat.reduceBNe, Bool.and_true, Bool.true_and, Bool.not_false, Bool.not_true, List.contains_nil, List.contains_cons, Bool.or_false, Bool.false_or, Option.isSome_some, Option.isSome_none, Option.isNone_none, Option.isNone_some, reduceCtorEq, true_and, and_true, Option.some.injEq, Bool.false_eq_true, List.map_cons, List.map_nil, List.all_cons, List.all_nil, Bool.and_self, List.drop_succ_cons, List.drop_zero, List.length_cons, List.length_nil, List.cons_append, List.nil_append, Option.map_some, Option.map_none, List.append_nil, Nat.zero_add, Nat.add_zero, Nat.sub_zero, Nat.zero_mul, Nat.mul_one, Int.toNat_natCast, Int.toNat_zero, Int.toNat_one, Int.add_zero, Int.sub_zero, Int.reduceEq, Int.reduceLT, Int.reduceLE, Int.reduceAdd, Int.reduceSub, Int.reduceMul, Int.reduceToNat, Int.cast_ofNat_Int, decide_true, decide_false, Option.getD_some, Option.getD_none, ktB, ktX, ktOf, conK, extK, ovlK, rwz, alive, lndL, lnd, lvB, lvL, lvR, lvT, tB_tt, tB_ft, tB_ff, okBls, shB, ren, renL, renR, renCt, ne_eq, not_false_eq_true, not_true_eq_false, and_false, false_and, and_self, ti0, ti1, ti2, ti3, ti4, ti5, ti6, ti7, ti8, ti9, ti10, ti11, ti12, ti13, ti14, ti15, ti16, ti17, ti18, ti19, ti20, ti21, ti22, ti23, ti24, ti25, ti26, ti27, ti28, ti29, ti30, ti31, ti32, ti33, ti34, ti35, ti36, ti37, ti38, ti39, ti40, ti41, ti42, ti43, ti44, ti45, ti46, ti47, ti48, ti49, ti50, ti51, ti52, ti53, ti54, ti55, ti56, ti57, ti58, ti59, ti60, ti61, ti62, ti63, ti64, ti65, ti66, ti67, ti68, ti69, ti70, ti71, ti72, ti73, ti74, ti75, ti76, ti77, ti78, ti79, ti80, ti81, ti82, ti83, ti84, ti85, ti86, ti87, ti88, regAt, fi13, body13, Try.f13, ↓exq_cd cd_code13, ↓exq_cd cd_c13_1, ↓exq_cd cd_c13_2, ↓exq_cd cd_c13_3, ↓exq_cd cd_c13_4, ↓exq_cd cd_c13_5, ↓exq_cd cd_c13_7, ↓exq_cd cd_c13_8, ↓exq_cd cd_c13_9, ↓exq_cd cd_c13_10, ↓exq_cd cd_c13_11, ↓exq_cd cd_c13_12, ↓exq_cd cd_c13_13, ↓exq_cd cd_c13_14, ↓exq_cd cd_c13_16, ↓exq_cd cd_c13_18, ↓exq_cd cd_c13_19, ↓exq_cd cd_c13_20, ↓exq_cd cd_c13_21, ↓exq_cd cd_c13_23, ↓exq_cd cd_c13_24, ↓exq_cd cd_c13_25, ↓exq_cd cd_c13_27, ↓exq_cd cd_c13_22, ↓exq_cd cd_c13_17, ↓exq_cd cd_c13_6, ↓exq_cd cd_c13_28, r13_1, r13_3, r13_7, r13_11, r13_19, r13_23, r13_27, r13_22, r13_17, r13_28, plA4, pl4, plA8, pl8, plA9, pl9, plA11, pl11, plA12, pl12, plA18, pl18, plA26, pl26, plA28, pl28, plA36, pl36, plA41, pl41, plA44, pl44, plA48, pl48, plA56, pl56, plA63, pl63]
      repeat (refine And.intro (a := (_ = true)) (by first | (simp; done) | (simp; omega)) ?_)
      rw [decide_eq_false h1]
      exact Res.val _ _
    have h1' := chk_pos h1
    by_cases h2 : last < idR (rowA rs i)
    case neg =>
      have g2 : idR (rowA rs i) ≤ last := by omega
      refine ExQ_ok [] 2000 plsOk kM0_ok ?_
      (try rw [exh]); simp (maxSteps := 4000000) only [kM0, sCmp, sChk, h, e, h1', g2, Ex, stops, inK, stepF, frsF, frF, itemF, codeF, condF, opsF, opsW, opF, callO, drF, drO, drW, drC, stepS, wtS, gdst, gdl, sopF, pv, evq, orl, bltF, callF, calleeS, popF, lopF, bltP, callP, cls, lvA, rdl, quiet, p_move, p_assign, p_pick, p_nilCheck, p_binOp, p_unOp, p_convert, p_fieldAddr, p_indexAddr, p_index, p_slice, p_makeFunc, p_extract, p_field, p_build, p_len, p_cap, p_min, p_max, l_load, l_convert, l_slice, zerR, roomR, appRR, roomN, appNN, cpSrcN, clN, cpSrc, cpR, clR, e_clear, srcR, dstR, srcN, dstN, e_store, e_alloc, e_box, e_buildSlice, e_makeSlice, e_append, e_copy, e_convert, SY.get, SY.put, SY.ev, SY.mk, SY.nth, SY.lvl, SY.setl, SY.ini, wid, wids, dr, tk, flat, at1, pack, parts, rdC, rdCt, wrC, wrCt, ar, bits2, bopInt, bopStr, bopEq, isPtr, isSl, isBl, eqPs, eqLf, bop, pickAV, bnd, subO, cutOf, okMx, fillA, plFs, nz, minI, numsAt, aOf, hd1, hdL, immL, isArr, ctOf, rowsOf, numsAV, rep, elCt, wrRow, killO, srcN, dstN, dstR, srcR, chR, enterS, leaveS, retS, endS, exitS, gotoS, finishS, killL, isDefs, setPs, roundS, resS, resAll, tup1, conf0, AV.scal, plk, spz, Ct.cell, exq_zero, exq_go, exq_d, exq_n, lvCt, lvE, exq_t, exq_f, exq_t0, exq_f0, ↓bsplit_true, ↓bsplit_false, ↓reduceIte, Nat.reduceLT, Nat.reduceLeDiff, List.toList_toArray, Nat.reduceEqDiff, Nat.reduceAdd, Nat.reduceSub, Nat.reduceMul, Nat.reduceBEq, Nat.reduceBNe, Bool.and_true, Bool.true_and, Bool.not_false, Bool.not_true, List.contains_nil, List.contains_cons, Bool.or_false, Bool.false_or, Option.isSome_some, Option.isSome_none, Option.isNone_none, Option.isNone_some, reduceCtorEq, true_and, and_true, Option.some.injEq, Bool.false_eq_true, List.map_cons, List.map_nil, List.all_cons, List.all_nil, Bool.and_self, List.drop_succ_cons, List.drop_zero, List.length_cons, List.length_nil, List.cons_append, List.nil_append, Option.map_some, Option.map_none, List.append_nil, Nat.zero_add, Nat.add_zero, Nat.sub_zero, Nat.zero_mul, Nat.mul_one, Int.toNat_natCast, Int.toNat_zero, Int.toNat_one, Int.add_zero, Int.sub_zero, Int.reduceEq, Int.reduceLT, Int.reduceLE, Int.reduceAdd, Int.reduceSub, Int.reduceMul, Int.reduceToNat, Int.cast_ofNat_Int, decide_true, decide_false, Option.getD_some, Option.getD_none, ktB, ktX, ktOf, conK, extK, ovlK, rwz, alive, lndL, lnd, lvB, lvL, lvR, lvT, tB_tt, tB_ft, tB_ff, okBls, shB, ren, renL, renR, renCt, ne_eq, not_false_eq_true, not_true_eq_false, and_false, false_and, and_self, ti0, ti1, ti2, ti3, ti4, ti5, ti6, ti7, ti8, ti9, ti10, ti11, ti12, ti13, ti14, ti15, ti16, ti17, ti18, ti19, ti20, ti21, ti22, ti23, ti24, ti25, ti26, ti27, ti28, ti29, ti30, ti31, ti32, ti33, ti34, ti35, ti36, ti37, ti38, ti39, ti40, ti41, ti42, ti43, ti44, ti45, ti46, ti47, ti48, ti49, ti50, ti51, ti52, ti53, ti54, ti55, ti56, ti57, ti58, ti59, ti60, ti61, ti62, ti63, ti64, ti65, ti66, ti67, ti68, ti69, ti70, ti71, ti72, ti73, ti74, ti75, ti76, ti77, ti78, ti79, ti80, ti81, ti82, ti83, ti84, ti85, ti86, ti87, ti88, regAt, fi13, body13, Try.f13, ↓exq_cd cd_code13, ↓exq_cd cd_c13_1, ↓exq_cd cd_c13_2, ↓exq_cd cd_c13_3, ↓exq_cd cd_c13_4, ↓exq_cd cd_c13_5, ↓exq_cd cd_c13_7, ↓exq_cd cd_c13_8, ↓exq_cd cd_c13_9, ↓exq_cd cd_c13_10, ↓exq_cd cd_c13_11, ↓exq_cd cd_c13_12, ↓exq_cd cd_c13_13, ↓exq_cd cd_c13_14, ↓exq_cd cd_c13_16, ↓exq_cd cd_c13_18, ↓exq_cd cd_c13_19, ↓exq_cd cd_c13_20, ↓exq_cd cd_c13_21, ↓exq_cd cd_c13_23, ↓exq_cd cd_c13_24, ↓exq_cd cd_c13_25, ↓exq_cd cd_c13_27, ↓exq_cd cd_c13_22, ↓exq_cd cd_c13_17, ↓exq_cd cd_c13_6, ↓exq_cd cd_c13_28, r13_1, r13_3, r13_7, r13_11, r13_19, r13_23, r13_27, r13_22, r13_17, r13_28, plA4, pl4, plA8, pl8, plA9, pl9, plA11, pl11, plA12, pl12, plA18, pl18, plA26, pl26, plA28, pl28, plA36, pl36, plA41, pl41, plA44, pl44, plA48, pl48, plA56, pl56, plA63, pl63]
      repeat (refine And.intro (a := (_ = true)) (by first | (simp; done) | (simp; omega)) ?_)
      rw [decide_eq_false h2, Bool.false_and, Bool.and_false]
      exact Res.val _ _
    have g2 : ¬ idR (rowA rs i) ≤ last := by omega
    refine ExQ_ok [] 2000 plsOk kM0_ok ?_
    (try rw [exh]); simp (maxSteps := 4000000) only [kM0, sCmp, sChk, h, e, h1', g2, Ex, stops, inK, stepF, frsF, frF, itemF, codeF, condF, opsF, opsW, opF, callO, drF, drO, drW, drC, stepS, wtS, gdst, gdl, sopF, pv, evq, orl, bltF, callF, calleeS, popF, lopF, bltP, callP, cls, lvA, rdl, quiet, p_move, p_assign, p_pick, p_nilCheck, p_binOp, p_unOp, p_convert, p_fieldAddr, p_indexAddr, p_index, p_slice, p_makeFunc, p_extract, p_field, p_build, p_len, p_cap, p_min, p_max, l_load, l_convert, l_slice, zerR, roomR, appRR, roomN, appNN, cpSrcN, clN, cpSrc, cpR, clR, e_clear, srcR, dstR, srcN, dstN, e_store, e_alloc, e_box, e_buildSlice, e_makeSlice, e_append, e_copy, e_convert, SY.get, SY.put, SY.ev, SY.mk, SY.nth, SY.lvl, SY.setl, SY.ini, wid, wids, dr, tk, flat, at1, pack, parts, rdC, rdCt, wrC, wrCt, ar, bits2, bopInt, bopStr, bopEq, isPtr, isSl, isBl, eqPs, eqLf, bop, pickAV, bnd, subO, cutOf, okMx, fillA, plFs, nz, minI, numsAt, aOf, hd1, hdL, immL, isArr, ctOf, rowsOf, numsAV, rep, elCt, wrRow, killO, srcN, dstN, dstR, srcR, chR, enterS, leaveS, retS, endS, exitS, gotoS, finishS, killL, isDefs, setPs, roundS, resS, resAll, tup1, conf0, AV.scal, plk, spz, Ct.cell, exq_zero, exq_go, exq_d, exq_n, lvCt, lvE, exq_t, exq_f, exq_t0, exq_f0, ↓bsplit_true, ↓bsplit_false, ↓reduceIte, Nat.reduceLT, Nat.reduceLeDiff, List.toList_toArray, Nat.reduceEqDiff, Nat.reduceAdd, Nat.reduceSub, Nat.reduceMul, Nat.reduceBEq, Nat.reduceBNe, Bool.and_true, Bool.true_and, Bool.not_false, Bool.not_true, List.contains_nil, List.contains_cons, Bool.or_false, Bool.false_or, Option.isSome_some, Option.isSome_none, Option.isNone_none, Option.isNone_some, reduceCtorEq, true_and, and_true, Option.some.injEq, Bool.false_eq_true, List.map_cons, List.map_nil, List.all_cons, List.all_nil, Bool.and_self, List.drop_succ_cons, List.drop_zero, List.length_cons, List.length_nil, List.cons_append, List.nil_append, Option.map_some, Option.map_none, List.append_nil, Nat.zero_add, Nat.add_zero, Nat.sub_zero, Nat.zero_mul, Nat.mul_one, Int.toNat_natCast, Int.toNat_zero, Int.toNat_one, Int.add_zero, Int.sub_zero, Int.reduceEq, Int.reduceLT, Int.reduceLE, Int.reduceAdd, Int.reduceSub, Int.reduceMul, Int.reduceToNat, Int.cast_ofNat_Int, decide_true, decide_false, Option.getD_some, Option.getD_none, ktB, ktX, ktOf, conK, extK, ovlK, rwz, alive, lndL, lnd, lvB, lvL, lvR, lvT, tB_tt, tB_ft, tB_ff, okBls, shB, ren, renL, renR, renCt, ne_eq, not_false_eq_true, not_true_eq_false, and_false, false_and, and_self, ti0, ti1, ti2, ti3, ti4, ti5, ti6, ti7, ti8, ti9, ti10, ti11, ti12, ti13, ti14, ti15, ti16, ti17, ti18, ti19, ti20, ti21, ti22, ti23, ti24, ti25, ti26, ti27, ti28, ti29, ti30, ti31, ti32, ti33, ti34, ti35, ti36, ti37, ti38, ti39, ti40, ti41, ti42, ti43, ti44, ti45, ti46, ti47, ti48, ti49, ti50, ti51, ti52, ti53, ti54, ti55, ti56, ti57, ti58, ti59, ti60, ti61, ti62, ti63, ti64, ti65, ti66, ti67, ti68, ti69, ti70, ti71, ti72, ti73, ti74, ti75, ti76, ti77, ti78, ti79, ti80, ti81, ti82, ti83, ti84, ti85, ti86, ti87, ti88, regAt, fi13, body13, Try.f13, ↓exq_cd cd_code13, ↓exq_cd cd_c13_1, ↓exq_cd cd_c13_2, ↓exq_cd cd_c13_3, ↓exq_cd cd_c13_4, ↓exq_cd cd_c13_5, ↓exq_cd cd_c13_7, ↓exq_cd cd_c13_8, ↓exq_cd cd_c13_9, ↓exq_cd cd_c13_10, ↓exq_cd cd_c13_11, ↓exq_cd cd_c13_12, ↓exq_cd cd_c13_13, ↓exq_cd cd_c13_14, ↓exq_cd cd_c13_16, ↓exq_cd cd_c13_18, ↓exq_cd cd_c13_19, ↓exq_cd cd_c13_20, ↓exq_cd cd_c13_21, ↓exq_cd cd_c13_23, ↓exq_cd cd_c13_24, ↓exq_cd cd_c13_25, ↓exq_cd cd_c13_27, ↓exq_cd cd_c13_22, ↓exq_cd cd_c13_17, ↓exq_cd cd_c13_6, ↓exq_cd cd_c13_28, r13_1, r13_3, r13_7, r13_11, r13_19, r13_23, r13_27, r13_22, r13_17, r13_28, plA4, pl4, plA8, pl8, plA9, pl9, plA11, pl11, plA12, pl12, plA18, pl18, plA26, pl26, plA28, pl28, plA36, pl36, plA41, pl41, plA44, pl44, plA48, pl48, plA56, pl56, plA63, pl63]
    repeat (refine And.intro (a := (_ = true)) (by first | (simp; done) | (simp; omega)) ?_)
    rw [decide_eq_true h1, decide_eq_true h2, Bool.true_and, Bool.true_and]
    refine Rch.fit1 hC [] (bl' := []) (tm' := tV t rs c (idR (rowA rs i)) (i + 1)) rfl List.nodup_nil rfl ⟨rfl, rfl, rfl, congrArg (fun x => AV.imr t 3 x c) (hf.ren _).symm, trivial⟩ (tV_lv hf ..) trivial ?_
    exact ih ⟨(i + 1, idR (rowA rs i)), by simp only; omega⟩ (by simp only; omega)
  · refine ExQ_ok [] 2000 plsOk kM0_ok ?_
    (try rw [exh]); simp (maxSteps := 4000000) only [kM0, sCmp, sChk, h, Ex, stops, inK, stepF, frsF, frF, itemF, codeF, condF, opsF, opsW, opF, callO, drF, drO, drW, drC, stepS, wtS, gdst, gdl, sopF, pv, evq, orl, bltF, callF, calleeS, popF, lopF, bltP, callP, cls, lvA, rdl, quiet, p_move, p_assign, p_pick, p_nilCheck, p_binOp, p_unOp, p_convert, p_fieldAddr, p_indexAddr, p_index, p_slice, p_makeFunc, p_extract, p_field, p_build, p_len, p_cap, p_min, p_max, l_load, l_convert, l_slice, zerR, roomR, appRR, roomN, appNN, cpSrcN, clN, cpSrc, cpR, clR, e_clear, srcR, dstR, srcN, dstN, e_store, e_alloc, e_box, e_buildSlice, e_makeSlice, e_append, e_copy, e_convert, SY.get, SY.put, SY.ev, SY.mk, SY.nth, SY.lvl, SY.setl, SY.ini, wid, wids, dr, tk, flat, at1, pack, parts, rdC, rdCt, wrC, wrCt, ar, bits2, bopInt, bopStr, bopEq, isPtr, isSl, isBl, eqPs, eqLf, bop, pickAV, bnd, subO, cutOf, okMx, fillA, plFs, nz, minI, numsAt, aOf, hd1, hdL, immL, isArr, ctOf, rowsOf, numsAV, rep, elCt, wrRow, killO, srcN, dstN, dstR, srcR, chR, enterS, leaveS, retS, endS, exitS, gotoS, finishS, killL, isDefs, setPs, roundS, resS, resAll, tup1, conf0, AV.scal, plk, spz, Ct.cell, exq_zero, exq_go, exq_d, exq_n, lvCt, lvE, exq_t, exq_f, exq_t0, exq_f0, ↓bsplit_true, ↓bsplit_false, ↓reduceIte, Nat.reduceLT, Nat.reduceLeDiff, List.toList_toArray, Nat.reduceEqDiff, Nat.reduceAdd, Nat.reduceSub, Nat.reduceMul, Nat.reduceBEq, Nat.reduceBNe, Bool.and_true, Bool.true_and, Bool.not_false, Bool.not_true, List.contains_nil, List.contains_cons, Bool.or_false, Bool.false_or, Option.isSome_some, Option.isSome_none, Option.isNone_none, Option.isNone_some, reduceCtorEq, true_and, and_true, Option.some.injEq, Bool.false_eq_true, List.map_cons, List.map_nil, List.all_cons, List.all_nil, Bool.and_self, List.drop_succ_cons, List.drop_zero, List.length_cons, List.length_nil, List.cons_append, List.nil_append, Option.map_some, Option.map_none, List.append_nil, Nat.zero_add, Nat.add_zero, Nat.sub_zero, Nat.zero_mul, Nat.mul_one, Int.toNat_natCast, Int.toNat_zero, Int.toNat_one, Int.add_zero, Int.sub_zero, Int.reduceEq, Int.reduceLT, Int.reduceLE, Int.reduceAdd, Int.reduceSub, Int.reduceMul, Int.reduceToNat, Int.cast_ofNat_Int, decide_true, decide_false, Option.getD_some, Option.getD_none, ktB, ktX, ktOf, conK, extK, ovlK, rwz, alive, lndL, lnd, lvB, lvL, lvR, lvT, tB_tt, tB_ft, tB_ff, okBls, shB, ren, renL, renR, renCt, ne_eq, not_false_eq_true, not_true_eq_false, and_false, false_and, and_self, ti0, ti1, ti2, ti3, ti4, ti5, ti6, ti7, ti8, ti9, ti10, ti11, ti12, ti13, ti14, ti15, ti16, ti17, ti18, ti19, ti20, ti21, ti22, ti23, ti24, ti25, ti26, ti27, ti28, ti29, ti30, ti31, ti32, ti33, ti34, ti35, ti36, ti37, ti38, ti39, ti40, ti41, ti42, ti43, ti44, ti45, ti46, ti47, ti48, ti49, ti50, ti51, ti52, ti53, ti54, ti55, ti56, ti57, ti58, ti59, ti60, ti61, ti62, ti63, ti64, ti65, ti66, ti67, ti68, ti69, ti70, ti71, ti72, ti73, ti74, ti75, ti76, ti77, ti78, ti79, ti80, ti81, ti82, ti83, ti84, ti85, ti86, ti87, ti88, regAt, fi13, body13, Try.f13, ↓exq_cd cd_code13, ↓exq_cd cd_c13_1, ↓exq_cd cd_c13_2, ↓exq_cd cd_c13_3, ↓exq_cd cd_c13_4, ↓exq_cd cd_c13_5, ↓exq_cd cd_c13_7, ↓exq_cd cd_c13_8, ↓exq_cd cd_c13_9, ↓exq_cd cd_c13_10, ↓exq_cd cd_c13_11, ↓exq_cd cd_c13_12, ↓exq_cd cd_c13_13, ↓exq_cd cd_c13_14, ↓exq_cd cd_c13_16, ↓exq_cd cd_c13_18, ↓exq_cd cd_c13_19, ↓exq_cd cd_c13_20, ↓exq_cd cd_c13_21, ↓exq_cd cd_c13_23, ↓exq_cd cd_c13_24, ↓exq_cd cd_c13_25, ↓exq_cd cd_c13_27, ↓exq_cd cd_c13_22, ↓exq_cd cd_c13_17, ↓exq_cd cd_c13_6, ↓exq_cd cd_c13_28, r13_1, r13_3, r13_7, r13_11, r13_19, r13_23, r13_27, r13_22, r13_17, r13_28, plA4, pl4, plA8, pl8, plA9, pl9, plA11, pl11, plA12, pl12, plA18, pl18, plA26, pl26, plA28, pl28, plA36, pl36, plA41, pl41, plA44, pl44, plA48, pl48, plA56, pl56, plA63, pl63]
    repeat (refine And.intro (a := (_ = true)) (by first | (simp; done) | (simp; omega)) ?_)
    rw [List.drop_eq_nil_of_le (by omega)]
    exact Res.val _ _
theorem vchk_ok : SpecOk Try.prog (plOf pls) 13 sV := by
  refine ⟨_, fi13, fun args r bl1 h => ?_⟩
  unfold sV at h
  split at h
  · simp only [Option.some.injEq, Prod.mk.injEq, Bool.and_eq_true, decide_eq_true_eq] at h
    obtain ⟨⟨h1, h2⟩, rfl, rfl⟩ := h
    exact ⟨by simp, fun C hC _ => vchk_run C hC _ _ _ h1 h2⟩
  · cases h
/-- What a list that is a view is like. -/
theorem vOk_from {rs : List (List AV)} : ∀ {last : Int}, vOk rs last = true → (∀ i, i < rs.length → MemR (rowA rs i) ∧ last < idR (rowA rs i)) ∧ ∀ i j, i < j → j < rs.length → idR (rowA rs i) < idR (rowA rs j) := by
  induction rs with
  | nil => intro last _; exact ⟨fun i h => absurd h (Nat.not_lt_zero _), fun i j _ h => absurd h (Nat.not_lt_zero _)⟩
  | cons r q ih =>
    intro last h
    simp only [vOk, Bool.and_eq_true, decide_eq_true_eq] at h
    obtain ⟨h1, h2, h3⟩ := h
    obtain ⟨a, b⟩ := ih h3
    refine ⟨fun i hi => ?_, fun i j hij hj => ?_⟩
    · cases i with
      | zero => exact ⟨h1, h2⟩
      | succ i =>
        simp only [List.length_cons] at hi
        have := a i (by omega)
        exact ⟨this.1, by have := this.2; show last < idR (rowA q i); omega⟩
    · cases j with
      | zero => omega
      | succ j =>
        simp only [List.length_cons] at hj
        cases i with
        | zero => exact (a j (by omega)).2
        | succ i => exact b i j (by omega) (by omega)
end Go.Proofs.Ytdanhpemheldlaa
