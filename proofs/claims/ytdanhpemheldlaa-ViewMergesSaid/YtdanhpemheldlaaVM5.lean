/- Views: Merge. -/
import Derived.Test.YtdanhpemheldlaaVM3
set_option linter.unusedSimpArgs false
set_option linter.unusedVariables false
-- FUNCTIONS 10 33 30 39
-- ENTERED 38
namespace Go.Proofs.Ytdanhpemheldlaa
open Go Go.SY
def kG0 : KT := ktOf [(13, sV), (49, sIdxM), (34, sSearch), (37, sMM)]
theorem kG0_ok : KOk Try.prog (plOf pls) kG0 := ktOf_ok plsOk fun x hx => by
  simp only [List.mem_cons, List.not_mem_nil, or_false] at hx
  rcases hx with rfl | rfl | rfl | rfl
  · exact vchk_ok
  · exact idxM_ok
  · exact search_ok
  · exact mm_ok
def kG : KT := ktW 36 (insK 3) kG0
theorem kG_ok : KOk Try.prog (plOf pls) kG := ktW_ok kG0_ok (insK_ok plsOk ins_ok ⟨_, fi36⟩)
theorem mIns_new {rs : List (List AV)} {m : List AV} (him : isM m = true) (hf : fndR rs (idR m) = false) : mIns rs m = rs.take (posR rs (idR m)) ++ ([.v (.int .i64 (idR m)), .v (.int .i64 (stR m)), .v (.int .i64 (icR m))] :: rs.drop (posR rs (idR m))) := by
  rw [mIns, if_neg (by rw [hf]; decide), insR, ← isM_eq him]
theorem mIns_old {rs : List (List AV)} {m : List AV} (hf : fndR rs (idR m) = true) : mIns rs m = rs.set (posR rs (idR m)) (betR (rowA rs (posR rs (idR m))) m) := by
  rw [mIns, if_pos hf]
/-- May the words be merged? -/
def mrgB (vs ws : List (List AV)) : Bool := vOk vs 0 && ws.all fun r => decide (MemR r)
def mrgV (vs ws : List (List AV)) : AV := if mrgB vs ws = true then .tup [.sl 0 0 3 (mrgR vs ws).length none, .sl 1 0 3 (frsh vs (mrgR vs ws)).length none, .v (.int .i64 0)] else .tup [.nil, .nil, .v (.int .i64 2)]
def mrgL (vs ws : List (List AV)) : Bls := if mrgB vs ws = true then [some (.rows 3 (mrgR vs ws)), some (.rows 3 (frsh vs (mrgR vs ws)))] else []
theorem idxB_all {ws : List (List AV)} : (ws.all (fun r => decide (MemR r)) = true) ↔ ¬ 0 ≤ idxB ws 0 := by
  rw [idxB_neg, List.all_eq_true]
  constructor
  · rintro h ⟨r, hr, hn⟩
    exact hn (of_decide_eq_true (h r hr))
  · intro h r hr
    exact decide_eq_true (Classical.byContradiction fun hn => h ⟨r, hr, hn⟩)
def tG (t u : Bool) (vs ws : List (List AV)) (c d : Option Nat) (n i : Nat) : TM := [(25, .v (.int .i64 i)), (24, .v (.int .i64 ws.length)), (7, .sl 0 0 3 n none), (6, .v (.int .i64 0)), (5, .nil), (4, .nil), (23, .imr u 3 ws d), (0, .imr t 3 vs c)]
theorem tG_lv {vs ws : List (List AV)} (hf : FlatR vs) (hg : FlatR ws) (t u : Bool) (c d : Option Nat) (n i N : Nat) : lvT (N + 1) true (tG t u vs ws c d n i) = true := by
  cases t <;> cases u <;> simp [tG, lvT, lvB, tB, hf.lv, hg.lv]
def tG2 (t u : Bool) (vs ws : List (List AV)) (c d : Option Nat) (n i p : Nat) : TM := [(25, .v (.int .i64 i)), (24, .v (.int .i64 ws.length)), (10, .v (.int .i64 p)), (9, .ptr 1 0 3 0), (7, .sl 0 0 3 n none), (6, .v (.int .i64 0)), (5, .nil), (4, .nil), (23, .imr u 3 ws d), (0, .imr t 3 vs c)]
theorem tG2_lv {vs ws : List (List AV)} (hf : FlatR vs) (hg : FlatR ws) (t u : Bool) (c d : Option Nat) (n i p N : Nat) : lvT (N + 2) true (tG2 t u vs ws c d n i p) = true := by
  cases t <;> cases u <;> simp [tG2, lvT, lvB, tB, hf.lv, hg.lv]
def ptG : PT := .br 5 9 (.leaf [(0, []), (1, []), (2, []), (3, []), (4, []), (5, []), (6, []), (7, []), (8, []), (9, []), (10, []), (11, [])]) (.leaf [(0, []), (1, []), (2, []), (3, []), (4, []), (9, [3, 4]), (5, []), (6, []), (7, []), (8, []), (10, []), (11, [])])
set_option maxRecDepth 100000 in
set_option maxHeartbeats 4000000 in
theorem mrg_loop (C : Ctx) (hC : C.β.b = []) (t u : Bool) (vs ws : List (List AV)) (c d : Option Nat) (hvm : vs.all isM = true) (hwm : ws.all isM = true) (hx : vs.length ≤ 200000) (hx2 : ws.length ≤ 200000) (hv : vOk vs 0 = true) (hw : ∀ r ∈ ws, MemR r ∧ isM r = true) :
    Rch Try.prog (plOf pls) C ⟨[⟨10, 64, tG t u vs ws c d vs.length 0, [.code c10_17, .lp c10_17, .blk 0, .code c10_13], none, [], []⟩], [some (.rows 3 vs)]⟩ (Res (.tup [.sl 0 0 3 (mrgR vs ws).length none, .sl 1 0 3 (frsh vs (mrgR vs ws)).length none, .v (.int .i64 0)]) [some (.rows 3 (mrgR vs ws)), some (.rows 3 (frsh vs (mrgR vs ws)))]) := by
  have hf := isM_flat hvm
  have hg := isM_flat hwm
  refine loop_ind plsOk (α := {i : Nat // i ≤ ws.length}) (fun a => ws.length - a.1) (fun a => tG t u vs ws c d (mrgR vs (ws.take a.1)).length a.1) (fun a => [some (.rows 3 (mrgR vs (ws.take a.1)))]) (fun _ => Res (.tup [.sl 0 0 3 (mrgR vs ws).length none, .sl 1 0 3 (frsh vs (mrgR vs ws)).length none, .v (.int .i64 0)]) [some (.rows 3 (mrgR vs ws)), some (.rows 3 (frsh vs (mrgR vs ws)))]) ?_ ⟨0, Nat.zero_le _⟩
  rintro ⟨i, hi⟩ ih
  simp only [tG] at hi ih ⊢
  have hlen := mrgR_len (vs := vs) (ws.take i)
  have htk : (ws.take i).length ≤ i := by rw [List.length_take]; omega
  obtain ⟨ho1, ho2⟩ := mrgR_ok hv hvm (ws.take i) (fun r hr => hw r (List.mem_of_mem_take hr))
  have hho := isM_flat ho2
  by_cases h : (i : Int) < ws.length
  · have hi' : i < ws.length := by omega
    have e := isM_row hwm hi'
    have hmm := hw (rowA ws i) (by rw [rowA_get hi']; exact List.getElem_mem hi')
    have hsu := mrgR_succ (vs := vs) hi'
    obtain ⟨hn1, hn2⟩ := mrgR_ok hv hvm (ws.take (i + 1)) (fun r hr => hw r (List.mem_of_mem_take hr))
    have hhn := isM_flat hn2
    generalize hos : mrgR vs (ws.take i) = os at *
    have hot : os.take os.length = os := List.take_of_length_le (Nat.le_refl _)
    have hpl := posR_le (rs := os) (k := idR (rowA ws i))
    cases hfd : fndR os (idR (rowA ws i)) with
    | false =>
      have hne := mIns_new hmm.2 hfd
      have hnl : (mrgR vs (ws.take (i + 1))).length = os.length + 1 := by rw [hsu, hne]; simp; omega
      refine ExQ_ok [] 2000 plsOk kG_ok ?_
      (try rw [exh]); simp (maxSteps := 4000000) only [kG, ktW, kG0, sSearch, h, e, hot, hfd, ho1, ho2, hho.lv, List.drop_zero, Int.toNat_natCast, List.length_cons, List.length_nil, Nat.reduceAdd, insK, lnd, tk1', stops, inK, stepF, frsF, frF, itemF, codeF, condF, opsF, opsW, opF, callO, stepS, wtS, sopF, pv, evq, callF, calleeS, quiet, p_move, p_assign, p_binOp, p_unOp, p_fieldAddr, p_indexAddr, p_extract, l_load, e_store, e_alloc, e_buildSlice, SY.get, SY.put, SY.ev, SY.mk, SY.nth, SY.lvl, SY.setl, wid, wids, dr, tk, flat, at1, pack, rdC, rdCt, wrC, wrCt, ar, bopInt, bop, fillA, immL, isArr, ctOf, rowsOf, rep, elCt, exitS, AV.scal, exq_go, exq_t, ↓reduceIte, Nat.reduceLT, Nat.reduceLeDiff, Nat.reduceEqDiff, Nat.reduceAdd, Nat.reduceSub, Nat.reduceMul, Bool.and_true, Bool.true_and, Bool.not_false, reduceCtorEq, true_and, List.map_cons, List.map_nil, Bool.and_self, List.drop_zero, List.length_cons, List.length_nil, List.cons_append, List.nil_append, List.append_nil, Nat.zero_add, Nat.add_zero, Nat.zero_mul, Int.toNat_natCast, Int.reduceLE, decide_true, decide_false, ktOf, conK, alive, lndL, lnd, lvB, lvL, lvR, okBls, shB, ren, renL, and_self, ti3, ti22, ti29, regAt, body10, Try.f10, ↓exq_cd cd_c10_17, ↓exq_cd cd_c10_18, ↓exq_cd cd_c10_19, ↓exq_cd cd_c10_20, ↓exq_cd cd_c10_21, ↓exq_cd cd_c10_23, ↓exq_cd cd_c10_25, ↓exq_cd cd_c10_26, ↓exq_cd cd_c10_27, ↓exq_cd cd_c10_28, ↓exq_cd cd_c10_29, ↓exq_cd cd_c10_30, ↓exq_cd cd_c10_32, ↓exq_cd cd_c10_33, ↓exq_cd cd_c10_34, ↓exq_cd cd_c10_36, ↓exq_cd cd_c10_24, r10_18, r10_26, r10_28, r10_32, r10_36, r10_24]
      repeat (refine And.intro (a := (_ = true)) (by first | (simp; done) | (simp; omega)) ?_)
      try ((try rw [exh]); simp (maxSteps := 4000000) only [kG, ktW, kG0, sV, sIdxM, sSearch, sMM, h, e, hot, hfd, ho1, ho2, hho.lv, List.drop_zero, Int.toNat_natCast, List.length_cons, List.length_nil, Nat.reduceAdd, insK, lnd, tk1', Ex, stops, inK, stepF, frsF, frF, itemF, codeF, condF, opsF, opsW, opF, callO, drF, drO, drW, drC, stepS, wtS, gdst, gdl, sopF, pv, evq, orl, bltF, callF, calleeS, popF, lopF, bltP, callP, cls, lvA, rdl, quiet, p_move, p_assign, p_pick, p_nilCheck, p_binOp, p_unOp, p_convert, p_fieldAddr, p_indexAddr, p_index, p_slice, p_makeFunc, p_extract, p_field, p_build, p_len, p_cap, p_min, p_max, l_load, l_convert, l_slice, zerR, roomR, appRR, roomN, appNN, cpSrcN, clN, cpSrc, cpR, clR, e_clear, srcR, dstR, srcN, dstN, e_store, e_alloc, e_box, e_buildSlice, e_makeSlice, e_append, e_copy, e_convert, SY.get, SY.put, SY.ev, SY.mk, SY.nth, SY.lvl, SY.setl, SY.ini, wid, wids, dr, tk, flat, at1, pack, parts, rdC, rdCt, wrC, wrCt, ar, bits2, bopInt, bopStr, bopEq, isPtr, isSl, isBl, eqPs, eqLf, bop, pickAV, bnd, subO, cutOf, okMx, fillA, plFs, nz, minI, numsAt, aOf, hd1, hdL, immL, isArr, ctOf, rowsOf, numsAV, rep, elCt, wrRow, killO, srcN, dstN, dstR, srcR, chR, enterS, leaveS, retS, endS, exitS, gotoS, finishS, killL, isDefs, setPs, roundS, resS, resAll, tup1, conf0, AV.scal, plk, spz, Ct.cell, exq_zero, exq_go, exq_d, exq_n, lvCt, lvE, exq_t, exq_f, exq_t0, exq_f0, ↓bsplit_true, ↓bsplit_false, ↓reduceIte, Nat.reduceLT, Nat.reduceLeDiff, List.toList_toArray, Nat.reduceEqDiff, Nat.reduceAdd, Nat.reduceSub, Nat.reduceMul, Nat.reduceBEq, Nat.reduceBNe, Bool.and_true, Bool.true_and, Bool.not_false, Bool.not_true, List.contains_nil, List.contains_cons, Bool.or_false, Bool.false_or, Option.isSome_some, Option.isSome_none, Option.isNone_none, Option.isNone_some, reduceCtorEq, true_and, and_true, Option.some.injEq, Bool.false_eq_true, List.map_cons, List.map_nil, List.all_cons, List.all_nil, Bool.and_self, List.drop_succ_cons, List.drop_zero, List.length_cons, List.length_nil, List.cons_append, List.nil_append, Option.map_some, Option.map_none, List.append_nil, Nat.zero_add, Nat.add_zero, Nat.sub_zero, Nat.zero_mul, Nat.mul_one, Int.toNat_natCast, Int.toNat_zero, Int.toNat_one, Int.add_zero, Int.sub_zero, Int.reduceEq, Int.reduceLT, Int.reduceLE, Int.reduceAdd, Int.reduceSub, Int.reduceMul, Int.reduceToNat, Int.cast_ofNat_Int, decide_true, decide_false, Option.getD_some, Option.getD_none, ktB, ktX, ktOf, conK, extK, ovlK, rwz, alive, lndL, lnd, lvB, lvL, lvR, lvT, tB_tt, tB_ft, tB_ff, okBls, shB, ren, renL, renR, renCt, ne_eq, not_false_eq_true, not_true_eq_false, and_false, false_and, and_self, ti0, ti1, ti2, ti3, ti4, ti5, ti6, ti7, ti8, ti9, ti10, ti11, ti12, ti13, ti14, ti15, ti16, ti17, ti18, ti19, ti20, ti21, ti22, ti23, ti24, ti25, ti26, ti27, ti28, ti29, ti30, ti31, ti32, ti33, ti34, ti35, ti36, ti37, ti38, ti39, ti40, ti41, ti42, ti43, ti44, ti45, ti46, ti47, ti48, ti49, ti50, ti51, ti52, ti53, ti54, ti55, ti56, ti57, ti58, ti59, ti60, ti61, ti62, ti63, ti64, ti65, ti66, ti67, ti68, ti69, ti70, ti71, ti72, ti73, ti74, ti75, ti76, ti77, ti78, ti79, ti80, ti81, ti82, ti83, ti84, ti85, ti86, ti87, ti88, regAt, fi10, body10, Try.f10, fi33, body33, Try.f33, fi30, body30, Try.f30, fi39, body39, Try.f39, fi38, body38, Try.f38, ↓exq_cd cd_code10, ↓exq_cd cd_c10_1, ↓exq_cd cd_c10_2, ↓exq_cd cd_c10_3, ↓exq_cd cd_c10_5, ↓exq_cd cd_c10_6, ↓exq_cd cd_c10_7, ↓exq_cd cd_c10_9, ↓exq_cd cd_c10_4, ↓exq_cd cd_c10_10, ↓exq_cd cd_c10_11, ↓exq_cd cd_c10_12, ↓exq_cd cd_c10_14, ↓exq_cd cd_c10_15, ↓exq_cd cd_c10_16, ↓exq_cd cd_c10_17, ↓exq_cd cd_c10_18, ↓exq_cd cd_c10_19, ↓exq_cd cd_c10_20, ↓exq_cd cd_c10_21, ↓exq_cd cd_c10_23, ↓exq_cd cd_c10_25, ↓exq_cd cd_c10_26, ↓exq_cd cd_c10_27, ↓exq_cd cd_c10_28, ↓exq_cd cd_c10_29, ↓exq_cd cd_c10_30, ↓exq_cd cd_c10_32, ↓exq_cd cd_c10_33, ↓exq_cd cd_c10_34, ↓exq_cd cd_c10_36, ↓exq_cd cd_c10_31, ↓exq_cd cd_c10_37, ↓exq_cd cd_c10_38, ↓exq_cd cd_c10_39, ↓exq_cd cd_c10_40, ↓exq_cd cd_c10_41, ↓exq_cd cd_c10_24, ↓exq_cd cd_c10_13, ↓exq_cd cd_c10_43, ↓exq_cd cd_code30, ↓exq_cd cd_c30_1, ↓exq_cd cd_c30_2, ↓exq_cd cd_c30_3, ↓exq_cd cd_code33, ↓exq_cd cd_c33_1, ↓exq_cd cd_c33_2, ↓exq_cd cd_c33_3, ↓exq_cd cd_c33_5, ↓exq_cd cd_c33_6, ↓exq_cd cd_c33_7, ↓exq_cd cd_c33_9, ↓exq_cd cd_c33_4, ↓exq_cd cd_c33_10, ↓exq_cd cd_code39, ↓exq_cd cd_c39_1, ↓exq_cd cd_c39_2, ↓exq_cd cd_c39_3, r10_1, r10_5, r10_9, r10_10, r10_14, r10_18, r10_26, r10_28, r10_32, r10_36, r10_37, r10_39, r10_41, r10_24, r10_43, r30_1, r30_3, r33_1, r33_5, r33_9, r33_10, r39_1, r39_3, plA4, pl4, plA8, pl8, plA9, pl9, plA11, pl11, plA12, pl12, plA18, pl18, plA26, pl26, plA28, pl28, plA36, pl36, plA41, pl41, plA44, pl44, plA48, pl48, plA56, pl56, plA63, pl63])
      repeat (refine And.intro (a := (_ = true)) (by first | (simp; done) | (simp; omega)) ?_)
      refine Rch.fit1 hC [3] (tm' := tG t u vs ws c d (mrgR vs (ws.take (i + 1))).length (i + 1)) (bl' := [some (.rows 3 (mrgR vs (ws.take (i + 1))))]) rfl (by decide) rfl ⟨rfl, rfl, by rw [hnl]; exact rfl, rfl, rfl, rfl, congrArg (fun x => AV.imr u 3 x d) (hg.ren _).symm, congrArg (fun x => AV.imr t 3 x c) (hf.ren _).symm, trivial⟩ (tG_lv hf hg ..) ⟨⟨by rw [renRows hhn, hsu, hne]; exact rfl, lvRows hhn ..⟩, trivial⟩ ?_
      exact ih ⟨i + 1, by omega⟩ (by simp only; omega)
    | true =>
      obtain ⟨hp, hid⟩ := of_decide_eq_true hfd
      have e' := isM_row ho2 hp
      have hmo := ((vOk_from ho1).1 _ hp).1
      unfold MemR at hmo
      rw [hid] at hmo
      have dm1 := decide_eq_true hmo
      have dm2 := decide_eq_true (show MemOk _ _ _ from hmm.1)
      have hol := mIns_old hfd
      have hnl : (mrgR vs (ws.take (i + 1))).length = os.length := by rw [hsu, hol, List.length_set]
      refine ExQ_ok [] 39 plsOk kG_ok ?_
      (try rw [exh]); simp (maxSteps := 4000000) only [kG, ktW, kG0, sSearch, h, e, hot, hfd, ho1, ho2, hho.lv, List.drop_zero, Int.toNat_natCast, List.length_cons, List.length_nil, Nat.reduceAdd, decide_true, stops, stepF, frsF, frF, itemF, codeF, condF, opsF, opsW, opF, callO, wtS, sopF, pv, evq, callF, calleeS, quiet, p_move, p_assign, p_binOp, p_unOp, p_fieldAddr, p_indexAddr, p_extract, l_load, e_store, e_alloc, SY.get, SY.put, SY.ev, SY.nth, SY.lvl, SY.setl, wid, wids, dr, tk, flat, at1, pack, rdC, rdCt, wrC, wrCt, bopInt, bop, isArr, ctOf, AV.scal, exq_zero, exq_go, exq_t, exq_f, ↓reduceIte, Nat.reduceLT, Nat.reduceEqDiff, Nat.reduceAdd, Nat.reduceSub, Bool.and_true, Bool.true_and, Bool.not_true, reduceCtorEq, true_and, List.map_cons, List.map_nil, Bool.and_self, List.drop_zero, List.length_cons, List.length_nil, List.cons_append, List.nil_append, List.append_nil, Nat.zero_add, Nat.add_zero, Nat.zero_mul, Int.toNat_natCast, decide_true, decide_false, ktOf, conK, alive, lndL, lnd, lvB, lvL, okBls, shB, ren, renL, ti3, ti22, ti29, regAt, body10, Try.f10, ↓exq_cd cd_c10_17, ↓exq_cd cd_c10_18, ↓exq_cd cd_c10_19, ↓exq_cd cd_c10_20, ↓exq_cd cd_c10_21, ↓exq_cd cd_c10_23, ↓exq_cd cd_c10_25, ↓exq_cd cd_c10_26, ↓exq_cd cd_c10_27, ↓exq_cd cd_c10_28, ↓exq_cd cd_c10_29, ↓exq_cd cd_c10_30, ↓exq_cd cd_c10_32, ↓exq_cd cd_c10_33, ↓exq_cd cd_c10_31, r10_18, r10_26, r10_28, r10_32]
      repeat (refine And.intro (a := (_ = true)) (by first | (simp; done) | (simp; omega)) ?_)
      refine Rch.fit1 hC [0, 1] (tm' := tG2 t u vs ws c d os.length i (posR os (idR (rowA ws i)))) (bl' := [some (.rows 3 os), some (.lit [.v (.int .i64 (idR (rowA ws i))), .v (.int .i64 (stR (rowA ws i))), .v (.int .i64 (icR (rowA ws i)))])]) rfl (by decide) rfl ⟨rfl, rfl, rfl, rfl, rfl, rfl, rfl, rfl, congrArg (fun x => AV.imr u 3 x d) (hg.ren _).symm, congrArg (fun x => AV.imr t 3 x c) (hf.ren _).symm, trivial⟩ (tG2_lv hf hg ..) ⟨⟨by rw [renRows hho]; exact rfl, lvRows hho ..⟩, ⟨rfl, rfl⟩, trivial⟩ ?_
      simp only [tG2]
      rw [cd_c10_37]
      refine Rch.alts plsOk (t := ptG) (by kernel_rfl) ?_
      intro p' hp'
      simp only [ptG, leaves, List.cons_append, List.nil_append, List.mem_cons, List.not_mem_nil, or_false] at hp'
      rcases hp' with rfl | rfl
      · refine ExQ_ok [] 2000 plsOk kG_ok ?_
        (try rw [exh]); simp (maxSteps := 4000000) only [kG, ktW, kG0, sMM, Int.toNat_natCast, List.length_cons, List.length_nil, Nat.reduceAdd, e', hid, dm1, dm2, decide_true, stops, inK, stepF, frsF, frF, itemF, codeF, condF, opsF, opsW, opF, callO, drF, drO, drW, drC, wtS, sopF, pv, evq, callF, calleeS, popF, lopF, cls, lvA, rdl, quiet, p_move, p_assign, p_binOp, p_indexAddr, p_extract, l_load, e_store, e_alloc, SY.get, SY.put, SY.ev, SY.mk, SY.nth, SY.lvl, SY.setl, wid, wids, dr, tk, flat, pack, rdC, rdCt, wrC, wrCt, ar, bopInt, bop, hd1, hdL, isArr, ctOf, wrRow, exq_go, exq_t, ↓reduceIte, Nat.reduceLT, Nat.reduceEqDiff, Nat.reduceAdd, Nat.reduceSub, Bool.and_true, Bool.true_and, List.contains_nil, reduceCtorEq, true_and, Bool.false_eq_true, List.map_cons, List.map_nil, Bool.and_self, List.length_cons, List.length_nil, List.cons_append, List.nil_append, List.append_nil, Nat.zero_add, Nat.add_zero, Nat.zero_mul, Int.toNat_natCast, Int.reduceLE, decide_true, ktOf, conK, alive, lndL, lnd, lvB, lvL, okBls, shB, ren, renL, and_self, ti3, ti22, ti24, ti29, regAt, body10, Try.f10, ↓exq_cd cd_c10_38, ↓exq_cd cd_c10_39, ↓exq_cd cd_c10_40, ↓exq_cd cd_c10_41, ↓exq_cd cd_c10_24, r10_37, r10_39, r10_41, r10_24]
        repeat (refine And.intro (a := (_ = true)) (by first | (simp; done) | (simp; omega)) ?_)
        refine Rch.fit1 hC [0] (tm' := tG t u vs ws c d (mrgR vs (ws.take (i + 1))).length (i + 1)) (bl' := [some (.rows 3 (mrgR vs (ws.take (i + 1))))]) rfl (by decide) rfl ⟨rfl, rfl, by rw [hnl]; exact rfl, rfl, rfl, rfl, congrArg (fun x => AV.imr u 3 x d) (hg.ren _).symm, congrArg (fun x => AV.imr t 3 x c) (hf.ren _).symm, trivial⟩ (tG_lv hf hg ..) ⟨⟨by rw [renRows hhn, hsu, hol, betR, hid]; exact rfl, lvRows hhn ..⟩, trivial⟩ ?_
        exact ih ⟨i + 1, by omega⟩ (by simp only; omega)
      · refine ExQ_ok [] 2000 plsOk kG_ok ?_
        (try rw [exh]); simp (maxSteps := 4000000) only [kG, ktW, kG0, sMM, Int.toNat_natCast, List.length_cons, List.length_nil, Nat.reduceAdd, e', hid, dm1, dm2, decide_true, stops, inK, stepF, frsF, frF, itemF, codeF, condF, opsF, opsW, opF, callO, drF, drO, drW, drC, wtS, sopF, pv, evq, callF, calleeS, popF, lopF, cls, lvA, rdl, quiet, p_move, p_assign, p_binOp, p_indexAddr, p_extract, l_load, e_store, e_alloc, SY.get, SY.put, SY.ev, SY.mk, SY.nth, SY.lvl, SY.setl, wid, wids, dr, tk, flat, pack, rdC, rdCt, wrC, wrCt, ar, bopInt, bop, hd1, hdL, isArr, ctOf, wrRow, exq_go, exq_t, ↓reduceIte, Nat.reduceLT, Nat.reduceEqDiff, Nat.reduceAdd, Nat.reduceSub, Nat.reduceBEq, Bool.and_true, Bool.true_and, List.contains_nil, List.contains_cons, Bool.or_false, Bool.false_or, reduceCtorEq, true_and, Bool.false_eq_true, List.map_cons, List.map_nil, Bool.and_self, List.length_cons, List.length_nil, List.cons_append, List.nil_append, List.append_nil, Nat.zero_add, Nat.add_zero, Nat.zero_mul, Int.toNat_natCast, Int.reduceLE, decide_true, ktOf, conK, alive, lndL, lnd, lvB, lvL, okBls, shB, ren, renL, and_self, ti3, ti22, ti24, ti29, regAt, body10, Try.f10, ↓exq_cd cd_c10_38, ↓exq_cd cd_c10_39, ↓exq_cd cd_c10_40, ↓exq_cd cd_c10_41, ↓exq_cd cd_c10_24, r10_37, r10_39, r10_41, r10_24]
        repeat (refine And.intro (a := (_ = true)) (by first | (simp; done) | (simp; omega)) ?_)
        refine Rch.fit1 hC [0] (tm' := tG t u vs ws c d (mrgR vs (ws.take (i + 1))).length (i + 1)) (bl' := [some (.rows 3 (mrgR vs (ws.take (i + 1))))]) rfl (by decide) rfl ⟨rfl, rfl, by rw [hnl]; exact rfl, rfl, rfl, rfl, congrArg (fun x => AV.imr u 3 x d) (hg.ren _).symm, congrArg (fun x => AV.imr t 3 x c) (hf.ren _).symm, trivial⟩ (tG_lv hf hg ..) ⟨⟨by rw [renRows hhn, hsu, hol, betR, hid]; exact rfl, lvRows hhn ..⟩, trivial⟩ ?_
        exact ih ⟨i + 1, by omega⟩ (by simp only; omega)
  · obtain rfl : i = ws.length := by omega
    have hwt : ws.take ws.length = ws := List.take_of_length_le (Nat.le_refl _)
    rw [hwt] at ho1 ho2 hho hlen ⊢
    clear ih
    generalize hos : mrgR vs ws = os at *
    refine ExQ_ok [38] 2000 plsOk kG_ok ?_
    (try rw [exh]); simp (maxSteps := 4000000) only [kG, ktW, kG0, h, stops, stepF, frsF, frF, itemF, codeF, condF, opsF, opsW, opF, callO, stepS, wtS, sopF, pv, evq, callF, calleeS, quiet, p_move, p_assign, p_binOp, p_makeFunc, e_box, SY.get, SY.put, SY.ev, SY.mk, SY.ini, flat, bopInt, bop, isArr, ctOf, enterS, leaveS, retS, exitS, finishS, killL, isDefs, resS, resAll, tup1, exq_go, exq_f, ↓reduceIte, Nat.reduceLT, Nat.reduceLeDiff, Nat.reduceEqDiff, Nat.reduceAdd, Nat.reduceBEq, List.contains_nil, List.contains_cons, Bool.or_false, reduceCtorEq, true_and, List.map_cons, List.map_nil, Bool.and_self, List.length_cons, List.length_nil, List.cons_append, List.nil_append, List.append_nil, Nat.zero_add, decide_false, ktOf, ti3, ti22, regAt, body10, Try.f10, fi39, body39, Try.f39, fi38, ↓exq_cd cd_c10_17, ↓exq_cd cd_c10_18, ↓exq_cd cd_c10_19, ↓exq_cd cd_c10_20, ↓exq_cd cd_c10_13, ↓exq_cd cd_c10_43, ↓exq_cd cd_code39, ↓exq_cd cd_c39_1, ↓exq_cd cd_c39_2, ↓exq_cd cd_c39_3, r10_18, r10_43, r39_1, r39_3]
    repeat (refine And.intro (a := (_ = true)) (by first | (simp; done) | (simp; omega)) ?_)
    refine Rch.call [0, 1, 2] (wordF t os vs os.length c rfl ho2 hvm (by omega) (by omega) hv) fi38 ⟨_, _, rfl, .inl ⟨rfl, rfl⟩, rfl⟩ (by decide) rfl rfl ⟨⟨by rw [renRows hho]; exact rfl, lvRows hho ..⟩, ⟨rfl, rfl⟩, ⟨by rw [renBox hf]; exact rfl, lvBox hf ..⟩, trivial⟩ ?_
    rintro _ _ ⟨rfl, rfl⟩
    have hfl := isM_flat (frsh_all (rs := vs) ho2)
    refine ⟨⟨by simp [okRet, okBls, Ct.cell, lvCt, lvL, lvB, hho.lv, hfl.lv], by simp⟩, _, rfl, ?_⟩
    refine ExQ_ok [] 2000 plsOk kG_ok ?_
    (try rw [exh]); simp (maxSteps := 4000000) only [aftT, tauN, updT, mapB, nm, List.getD_cons_zero, kG, kG0, stops, inK, stepF, frsF, frF, itemF, codeF, opsF, opsW, opF, stepS, wtS, sopF, pv, p_assign, SY.get, SY.put, SY.ev, SY.mk, SY.setl, leaveS, retS, killL, isDefs, resS, resAll, tup1, exq_go, ↓reduceIte, Nat.reduceLT, Nat.reduceEqDiff, Nat.reduceAdd, Nat.reduceSub, reduceCtorEq, true_and, Bool.and_self, List.drop_succ_cons, List.drop_zero, List.length_cons, List.length_nil, List.cons_append, List.nil_append, Nat.zero_add, Nat.add_zero, Int.reduceLE, decide_true, ktOf, ren, renL, renCt, fi10]
    repeat (refine And.intro (a := (_ = true)) (by first | (simp; done) | (simp; omega)) ?_)
    refine ⟨[0, 3], by decide, rfl, rfl, fun l x hl => ?_⟩
    match l with
    | 0 => simp at hl; subst hl; rw [renRows hho]; exact congrArg (fun y => some (some (Ct.rows 3 y))) (hho.ren _)
    | 1 => simp at hl; subst hl; rw [renRows hfl]; exact congrArg (fun y => some (some (Ct.rows 3 y))) (hfl.ren _)
    | l + 2 => simp at hl
end Go.Proofs.Ytdanhpemheldlaa
