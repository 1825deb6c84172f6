/- JournalRewrites: its walk. -/
import Derived.Test.YtlhjbjpcnncndaaJRW
set_option linter.unusedSimpArgs false
set_option linter.unusedVariables false
namespace Go.Proofs.Ytlhjbjpcnncndaa
open Go Go.SY
namespace JRW
open DW JW JL JC
set_option maxRecDepth 100000 in
set_option maxHeartbeats 16000000 in
theorem rw_burn (C : Ctx) (hC : C.β.b = []) (rs : List (List AV)) (hm : rs.all isB = true) (hok : ∀ x ∈ bys rs, okN .u8 x) (c0 : Option Nat) (os : List (List AV)) (hmo : os.all isB = true) (hoko : ∀ x ∈ bys os, okN .u8 x) (c1 : Option Nat) (firm fuse kept : Int) (hb : finB rs = true) (hbo : finB os = true) (k kk : Nat) (q : Int) (hk0 : k < rs.length + 1) (hk : KB.kpick firm ((rs.length : Int) + 1) = (k : Int)) (hkk : KB.kpick kept 5000 = (kk : Int)) (hkk0 : kk < 5000) (hqq : KB.kpick fuse 4 = q) (hq : q = 0 ∨ q = 1) :
    Rch Try.prog (plOf pls) C (conf0 6 ⟨112, [.tmp 10], code6⟩ [.imr false 1 rs c0, .imr false 1 os c1, .v (.int .i64 firm), .v (.int .i64 fuse), .v (.int .i64 kept)] []) IsT := by
  have hf := isB_flat hm
  have hfo := isB_flat hmo
  obtain ⟨hb1, hft, hb2, hjs⟩ := fin_fit hb hok
  obtain ⟨ho1, hot, ho2, hjo⟩ := fin_fit hbo hoko
  have hbl : (bys rs).length = rs.length := bys_len
  have hbo2 : (bys os).length = os.length := bys_len
  have bys0 : bys [] = [] := rfl
  have hfs : ¬ q < 0 := by omega
  have hL : laidS (bys rs) k = ⟨jn (bys rs), ((jn ((bys rs).take k)).length : Nat), [], 0, 1000000, (rs.length : Int) + 1, none, false⟩ := by rw [laidS, bys_len]
  have hfu : dFuse ⟨jn (bys rs), ((jn ((bys rs).take k)).length : Nat), [], 0, 1000000, (rs.length : Int) + 1, none, false⟩ q = (0, ⟨jn (bys rs), ((jn ((bys rs).take k)).length : Nat), [], 0, 1000000, (rs.length : Int) + 1, some q, false⟩) := by rw [dFuse, if_neg hfs]
  have hff : (jn ((bys rs).take k)).length ≤ (jn (bys rs)).length := jn_take_le k
  have hkl : k ≤ (bys rs).length := by rw [bys_len]; omega
  have q0 : numOk ⟨jn (bys rs), ((jn ((bys rs).take k)).length : Nat), [], 0, 1000000, (rs.length : Int) + 1, none, false⟩ = true := by
    simp only [numOk, fuOk, Bool.and_eq_true, decide_eq_true_eq, List.length_nil]
    exact ⟨by omega, by omega, by omega, by omega, by omega, trivial⟩
  have q1 : numJ ⟨jn (bys rs), ((jn ((bys rs).take k)).length : Nat), [], 0, 1000000, (rs.length : Int) + 1, some q, false⟩ ((bys rs).map rwN) = true := by
    simp only [numJ, numOk, fuOk, Bool.and_eq_true, decide_eq_true_eq, List.all_eq_true, bys_rwN, List.length_nil, List.length_map, bys_len]
    exact ⟨⟨by omega, by omega, by omega, by omega, by omega, by omega, by omega⟩, by omega, by omega, by omega, fun y hy => by have := hb2 y hy; omega⟩
  have g1 := rwN_all (bys rs)
  have b1 := bys_rwN (bys rs)
  have n1 : ((bys rs).map rwN).length = rs.length := by rw [List.length_map, bys_len]
  have f1 := isB_flat g1
  have hol : os.length ≤ 1000000000 := by omega
  have hoj : (jn (bys os)).length ≤ 1000000000 := by omega
  have hoa : ((bys os).all fun y => decide (y.length ≤ 1000000)) = true := by
    simp only [List.all_eq_true, decide_eq_true_eq]
    exact fun y hy => by have := ho2 y hy; omega
  have hoe := err_fit hot
  obtain ⟨m2, hm2a, hm2b, hRw⟩ := rw_burnt (lg := jn (bys rs)) (ys := (bys rs).map rwN) (us := os) (ff := ((jn ((bys rs).take k)).length : Nat)) (m := (rs.length : Int) + 1) hoe rfl (by omega) (by omega) hq
  obtain ⟨M, hM1, hM2, hMe⟩ : ∃ M : Nat, (jn ((bys rs).take k)).length ≤ M ∧ M ≤ (jn (bys rs)).length ∧ ((jn ((bys rs).take k)).length : Int) + min (kk : Int) ((jn (bys rs)).length - (jn ((bys rs).take k)).length) = M := ⟨(((jn ((bys rs).take k)).length : Int) + min (kk : Int) ((jn (bys rs)).length - (jn ((bys rs).take k)).length)).toNat, by omega, by omega, by omega⟩
  have hCr : dCrash ⟨jn (bys rs), ((jn ((bys rs).take k)).length : Nat), jn (bys os), 0, 1000000, m2, some 0, true⟩ (kk : Int) = (0, ⟨(jn (bys rs)).take M, (M : Nat), [], 0, 1000000, m2, none, false⟩) := by
    have hc : crN ⟨jn (bys rs), ((jn ((bys rs).take k)).length : Nat), jn (bys os), 0, 1000000, m2, some 0, true⟩ (kk : Int) = M := by simp only [crN, hMe]; exact Int.toNat_natCast M
    simp only [dCrash, hc]
    rw [if_neg (by omega)]
  obtain ⟨i, m1, hki, hin, hm1, hm3, hop⟩ := op_crash hft (by omega) hkl hM1 hM2 m2
  obtain ⟨eV, eL⟩ := opV_ok rfl hop
  have hLf : ∀ x ∈ (bys rs).take i, Fit x := fun x hx => hft x (List.mem_of_mem_take hx)
  have hLj : (jn ((bys rs).take i)).length ≤ 4160 := by have := jn_take_le (ls := bys rs) i; omega
  have hLl : ((bys rs).take i).length = i := by rw [List.length_take]; omega
  have q4 : numOk ⟨jn (bys rs), ((jn ((bys rs).take k)).length : Nat), jn (bys os), 0, 1000000, m2, some 0, true⟩ = true := by
    simp only [numOk, fuOk, Bool.and_eq_true, decide_eq_true_eq]
    exact ⟨by omega, by omega, by omega, by omega, by omega, by omega, by omega⟩
  have q2 : numJ ⟨(jn (bys rs)).take M, (M : Nat), [], 0, 1000000, m2, none, false⟩ [] = true := by
    simp only [numJ, numOk, fuOk, Bool.and_eq_true, decide_eq_true_eq, List.all_eq_true, List.length_nil, List.length_take, bys0]
    exact ⟨⟨by omega, by omega, by omega, by omega, by omega, trivial⟩, by omega, by omega, by omega, fun y hy => by cases hy⟩
  have q3 : numJ ⟨jn ((bys rs).take i), ((jn ((bys rs).take i)).length : Nat), [], 0, 1000000, m1, none, false⟩ (((bys rs).take i).map rwN) = true := by
    simp only [numJ, numOk, fuOk, Bool.and_eq_true, decide_eq_true_eq, List.all_eq_true, bys_rwN, List.length_nil, List.length_map, hLl]
    exact ⟨⟨by omega, by omega, by omega, by omega, by omega, trivial⟩, by omega, by omega, by omega, fun y hy => by have := hb2 y (List.mem_of_mem_take hy); omega⟩
  have g2 := rwN_all ((bys rs).take i)
  have b2 := bys_rwN ((bys rs).take i)
  have n2 : (((bys rs).take i).map rwN).length = i := by rw [List.length_map, hLl]
  have t2 : (((bys rs).take i).map rwN).take i = ((bys rs).take i).map rwN := List.take_of_length_le (by omega)
  have b4 : bys (rs.take i) = (bys rs).take i := bys_take i
  have g4 : (rs.take i).all isB = true := List.all_eq_true.2 fun r hr => List.all_eq_true.1 hm r (List.mem_of_mem_take hr)
  simp only [okS] at eV eL
  have z1 : (k : Int) ≤ (i : Nat) := by omega
  have z2 : (i : Int) ≤ rs.length := by omega
  have z4 : ¬ (1 : Int) < q := by omega
  have f2 := isB_flat g2
  have f4 := isB_flat g4
  clear hop hft hLf hok hb2 hot ho2 hoko
  generalize (jn ((bys rs).take k)).length = ff at *
  generalize hL0 : (bys rs).take i = L at *
  generalize hys : (bys rs).map rwN = ys at *
  generalize hus : L.map rwN = us at *
  generalize jn L = lgi at *
  generalize (jn (bys rs)).take M = lgc at *
  generalize jn (bys rs) = lg at *
  generalize hxo : jn (bys os) = xo at *
  refine ExQ_ok [] 6000 plsOk kJR_ok ?_
  simp only [conf0]
  (try rw [exh]); simp (maxSteps := 4000000) only [kJR, kC1, kAll, kJ, specT, sFin0, sSam, sSam0, KB.sPick, sLaid, kDj, ktOf, ktO, ktW, conK, objK, objB, updT, mapB, rhoN, nm, mrk, readK, sCln, sPut, sJoin, sSplit, sSize, mapI, DW.osB, DW.osI, DW.osK, DW.osR, findD, mApp, mNext, mSync, mSwitch, mFirm, mCrash, mFuse, rdV, rdX, sNew, nilN, nilR, List.append_nil, List.nodup_cons, List.mem_cons, List.not_mem_nil, List.take_succ_cons, List.take_zero, List.getD_cons_zero, List.getD_cons_succ, KB.btt, KB.bff, not_true_eq_false, not_false_eq_true, List.drop_zero, List.length_replicate, osJa, osJs, osJw, osJr, osOp, findJ, layJ, layD, layO, fuL, fuP, fu5, jLen, jFirm, jAll, jAllX, mCrash, mFuse, hf.lv, hf.ren, hm, hfo.lv, hfo.ren, hmo, hb, hbo, hk, hkk, hqq, hL, hfu, hRw, hCr, eV, eL, q0, q1, q2, q3, q4, g1, g2, g4, b1, b2, b4, hL0, hys, hus, hxo, n1, n2, t2, z1, z2, z4, hol, hoj, hoa, f1.lv, f1.ren, f2.lv, f2.ren, f4.lv, f4.ren, Int.toNat_natCast, Int.le_refl, decide_true, decide_false, Bool.not_false, Bool.not_true, Ex, stops, inK, stepF, frsF, frF, itemF, codeF, condF, opsF, opsW, opF, callO, drF, drO, drW, drC, stepS, wtS, gdst, gdl, sopF, pv, evq, orl, bltF, callF, calleeS, popF, lopF, bltP, callP, cls, lvA, rdl, quiet, p_move, p_assign, p_pick, p_nilCheck, p_binOp, p_unOp, p_convert, p_fieldAddr, p_indexAddr, p_index, p_slice, p_makeFunc, p_extract, p_field, p_build, p_len, p_cap, p_min, p_max, l_load, l_convert, l_slice, zerR, roomR, appRR, roomN, appNN, cpSrcN, clN, cpSrc, cpR, clR, e_clear, srcR, dstR, srcN, dstN, e_store, e_alloc, e_box, e_buildSlice, e_makeSlice, e_append, e_copy, e_convert, SY.get, SY.put, SY.ev, SY.mk, SY.nth, SY.lvl, SY.setl, SY.ini, wid, wids, dr, tk, flat, at1, pack, parts, rdC, rdCt, wrC, wrCt, ar, bits2, bopInt, bopStr, bopEq, isPtr, isSl, isBl, eqPs, eqLf, bop, pickAV, bnd, subO, cutOf, okMx, fillA, plFs, nz, minI, numsAt, aOf, hd1, hdL, immL, isArr, ctOf, rowsOf, numsAV, rep, elCt, wrRow, killO, srcN, dstN, dstR, srcR, chR, enterS, leaveS, retS, endS, exitS, gotoS, finishS, killL, isDefs, setPs, roundS, resS, resAll, tup1, conf0, AV.scal, plk, spz, Ct.cell, exq_zero, exq_go, exq_d, exq_n, lvCt, lvE, exq_t, exq_f, exq_t0, exq_f0, ↓bsplit_true, ↓bsplit_false, ↓reduceIte, Nat.reduceLT, Nat.reduceLeDiff, List.toList_toArray, Nat.reduceEqDiff, Nat.reduceAdd, Nat.reduceSub, Nat.reduceMul, Nat.reduceBEq, Nat.reduceBNe, Bool.and_true, Bool.true_and, Bool.not_false, Bool.not_true, List.contains_nil, List.contains_cons, Bool.or_false, Bool.false_or, Option.isSome_some, Option.isSome_none, Option.isNone_none, Option.isNone_some, reduceCtorEq, true_and, and_true, Option.some.injEq, Bool.false_eq_true, List.map_cons, List.map_nil, List.all_cons, List.all_nil, Bool.and_self, List.drop_succ_cons, List.drop_zero, List.length_cons, List.length_nil, List.cons_append, List.nil_append, Option.map_some, Option.map_none, List.append_nil, Nat.zero_add, Nat.add_zero, Nat.sub_zero, Nat.zero_mul, Nat.mul_one, Int.toNat_natCast, Int.toNat_zero, Int.toNat_one, Int.add_zero, Int.sub_zero, Int.reduceEq, Int.reduceLT, Int.reduceLE, Int.reduceAdd, Int.reduceSub, Int.reduceMul, Int.reduceToNat, Int.cast_ofNat_Int, decide_true, decide_false, Option.getD_some, Option.getD_none, ktB, ktX, ktOf, conK, extK, ovlK, rwz, alive, alive0, mks, noMk, lndL, lnd, lvB, lvL, lvR, lvT, tB_tt, tB_ft, tB_ff, okBls, shB, ren, renL, renR, renCt, ne_eq, not_false_eq_true, not_true_eq_false, and_false, false_and, and_self, ti0, ti1, ti2, ti3, ti4, ti5, ti6, ti7, ti8, ti9, ti10, ti11, ti12, ti13, ti14, ti15, ti16, ti17, ti18, ti19, ti20, ti21, ti22, ti23, ti24, ti25, ti26, ti27, ti28, ti29, ti30, ti31, ti32, ti33, ti34, ti35, ti36, ti37, ti38, ti39, ti40, ti41, ti42, ti43, ti44, ti45, ti46, ti47, ti48, ti49, ti50, ti51, ti52, ti53, ti54, ti55, ti56, ti57, ti58, ti59, ti60, ti61, ti62, ti63, ti64, ti65, ti66, ti67, ti68, ti69, ti70, ti71, ti72, ti73, ti74, ti75, ti76, ti77, ti78, ti79, ti80, ti81, ti82, ti83, ti84, ti85, ti86, ti87, ti88, ti89, ti90, ti91, ti92, ti93, ti94, ti95, ti96, ti97, ti98, ti99, ti100, ti101, ti102, ti103, ti104, regAt, fi6, body6, Try.f6, fi23, body23, Try.f23, ↓xs6, ↓xs23, r6_1, r6_3, r6_7, r6_11, r6_12, r6_14, r6_18, r6_22, r6_23, r6_27, r6_31, r6_32, r6_36, r6_40, r6_41, r6_45, r6_49, r6_52, r6_56, r6_57, r23_1, r23_3, plA8, pl8, plA10, pl10, plA11, pl11, plA17, pl17, plA22, pl22, plA25, pl25, plA31, pl31, plA37, pl37, plA45, pl45, plA53, pl53, plA55, pl55]
  repeat (refine And.intro (a := (_ = true)) (by first | (simp; done) | (simp; omega)) ?_)
  exact rfl
set_option maxRecDepth 100000 in
set_option maxHeartbeats 16000000 in
theorem rw_suc (C : Ctx) (hC : C.β.b = []) (rs : List (List AV)) (hm : rs.all isB = true) (hok : ∀ x ∈ bys rs, okN .u8 x) (c0 : Option Nat) (os : List (List AV)) (hmo : os.all isB = true) (hoko : ∀ x ∈ bys os, okN .u8 x) (c1 : Option Nat) (firm fuse kept : Int) (hb : finB rs = true) (hbo : finB os = true) (k kk : Nat) (q : Int) (hk0 : k < rs.length + 1) (hk : KB.kpick firm ((rs.length : Int) + 1) = (k : Int)) (hkk : KB.kpick kept 5000 = (kk : Int)) (hkk0 : kk < 5000) (hqq : KB.kpick fuse 4 = q) (hq : 2 ≤ q) (hq4 : q < 4) :
    Rch Try.prog (plOf pls) C (conf0 6 ⟨112, [.tmp 10], code6⟩ [.imr false 1 rs c0, .imr false 1 os c1, .v (.int .i64 firm), .v (.int .i64 fuse), .v (.int .i64 kept)] []) IsT := by
  have hf := isB_flat hm
  have hfo := isB_flat hmo
  obtain ⟨hb1, hft, hb2, hjs⟩ := fin_fit hb hok
  obtain ⟨ho1, hot, ho2, hjo⟩ := fin_fit hbo hoko
  have hbl : (bys rs).length = rs.length := bys_len
  have hbo2 : (bys os).length = os.length := bys_len
  have bys0 : bys [] = [] := rfl
  have hfs : ¬ q < 0 := by omega
  have hL : laidS (bys rs) k = ⟨jn (bys rs), ((jn ((bys rs).take k)).length : Nat), [], 0, 1000000, (rs.length : Int) + 1, none, false⟩ := by rw [laidS, bys_len]
  have hfu : dFuse ⟨jn (bys rs), ((jn ((bys rs).take k)).length : Nat), [], 0, 1000000, (rs.length : Int) + 1, none, false⟩ q = (0, ⟨jn (bys rs), ((jn ((bys rs).take k)).length : Nat), [], 0, 1000000, (rs.length : Int) + 1, some q, false⟩) := by rw [dFuse, if_neg hfs]
  have hff : (jn ((bys rs).take k)).length ≤ (jn (bys rs)).length := jn_take_le k
  have hkl : k ≤ (bys rs).length := by rw [bys_len]; omega
  have q0 : numOk ⟨jn (bys rs), ((jn ((bys rs).take k)).length : Nat), [], 0, 1000000, (rs.length : Int) + 1, none, false⟩ = true := by
    simp only [numOk, fuOk, Bool.and_eq_true, decide_eq_true_eq, List.length_nil]
    exact ⟨by omega, by omega, by omega, by omega, by omega, trivial⟩
  have q1 : numJ ⟨jn (bys rs), ((jn ((bys rs).take k)).length : Nat), [], 0, 1000000, (rs.length : Int) + 1, some q, false⟩ ((bys rs).map rwN) = true := by
    simp only [numJ, numOk, fuOk, Bool.and_eq_true, decide_eq_true_eq, List.all_eq_true, bys_rwN, List.length_nil, List.length_map, bys_len]
    exact ⟨⟨by omega, by omega, by omega, by omega, by omega, by omega, by omega⟩, by omega, by omega, by omega, fun y hy => by have := hb2 y hy; omega⟩
  have g1 := rwN_all (bys rs)
  have b1 := bys_rwN (bys rs)
  have n1 : ((bys rs).map rwN).length = rs.length := by rw [List.length_map, bys_len]
  have f1 := isB_flat g1
  have hol : os.length ≤ 1000000000 := by omega
  have hoj : (jn (bys os)).length ≤ 1000000000 := by omega
  have hoa : ((bys os).all fun y => decide (y.length ≤ 1000000)) = true := by
    simp only [List.all_eq_true, decide_eq_true_eq]
    exact fun y hy => by have := ho2 y hy; omega
  have hoe := err_fit hot
  have hRw := rw_done (lg := jn (bys rs)) (ys := (bys rs).map rwN) (us := os) (ff := ((jn ((bys rs).take k)).length : Nat)) (m := (rs.length : Int) + 1) hoe rfl (by omega) (by omega) hq
  have hCr : dCrash ⟨jn (bys os), ((jn (bys os)).length : Nat), [], 0, 1000000, (rs.length : Int) + 1 + 2, some (q - 2), false⟩ (kk : Int) = (0, ⟨jn (bys os), ((jn (bys os)).length : Nat), [], 0, 1000000, (rs.length : Int) + 1 + 2, none, false⟩) := by
    have hc : crN ⟨jn (bys os), ((jn (bys os)).length : Nat), [], 0, 1000000, (rs.length : Int) + 1 + 2, some (q - 2), false⟩ (kk : Int) = (jn (bys os)).length := by simp only [crN]; omega
    simp only [dCrash, hc]
    rw [if_neg (by omega), List.take_of_length_le (Nat.le_refl _)]
  have hop := op_whole hot ((jn (bys os)).length : Nat) ((rs.length : Int) + 1 + 2)
  obtain ⟨eV, eL⟩ := opV_ok rfl hop
  have hfm := fm_all hot
  rw [hbo2] at hfm
  have q4 : numJ ⟨jn (bys os), ((jn (bys os)).length : Nat), [], 0, 1000000, (rs.length : Int) + 1 + 2, some (q - 2), false⟩ ((bys os).map rwN) = true := by
    simp only [numJ, numOk, fuOk, Bool.and_eq_true, decide_eq_true_eq, List.all_eq_true, bys_rwN, List.length_nil, List.length_map, hbo2]
    exact ⟨⟨by omega, by omega, by omega, by omega, by omega, by omega, by omega⟩, by omega, by omega, by omega, fun y hy => by have := ho2 y hy; omega⟩
  have q5 : numOk ⟨jn (bys os), ((jn (bys os)).length : Nat), [], 0, 1000000, (rs.length : Int) + 1 + 2, some (q - 2), false⟩ = true := (numJ_at q4).1
  have q3 : numJ ⟨jn (bys os), ((jn (bys os)).length : Nat), [], 0, 1000000, (rs.length : Int) + 1 + 2, none, false⟩ ((bys os).map rwN) = true := by
    simp only [numJ, numOk, fuOk, Bool.and_eq_true, decide_eq_true_eq, List.all_eq_true, bys_rwN, List.length_nil, List.length_map, hbo2]
    exact ⟨⟨by omega, by omega, by omega, by omega, by omega, trivial⟩, by omega, by omega, by omega, fun y hy => by have := ho2 y hy; omega⟩
  have q2 : numJ ⟨jn (bys os), ((jn (bys os)).length : Nat), [], 0, 1000000, (rs.length : Int) + 1 + 2, none, false⟩ [] = true := by
    simp only [numJ, Bool.and_eq_true, decide_eq_true_eq, List.all_eq_true] at q3 ⊢
    exact ⟨q3.1, q3.2.1, q3.2.2.1, by simp, fun y hy => by cases hy⟩
  have g2 := rwN_all (bys os)
  have b2 := bys_rwN (bys os)
  have n2 : ((bys os).map rwN).length = os.length := by rw [List.length_map, hbo2]
  have t2 : ((bys os).map rwN).take os.length = (bys os).map rwN := List.take_of_length_le (by omega)
  have z4 : (1 : Int) < q := by omega
  have f2 := isB_flat g2
  clear hop hft hok hb2 hot ho2 hoko
  generalize (jn ((bys rs).take k)).length = ff at *
  generalize hys : (bys rs).map rwN = ys at *
  generalize hus : (bys os).map rwN = us at *
  generalize jn (bys rs) = lg at *
  generalize hxo : jn (bys os) = xo at *
  refine ExQ_ok [] 6000 plsOk kJR_ok ?_
  simp only [conf0]
  (try rw [exh]); simp (maxSteps := 4000000) only [kJR, kC1, kAll, kJ, specT, sFin0, sSam, sSam0, KB.sPick, sLaid, kDj, ktOf, ktO, ktW, conK, objK, objB, updT, mapB, rhoN, nm, mrk, readK, sCln, sPut, sJoin, sSplit, sSize, mapI, DW.osB, DW.osI, DW.osK, DW.osR, findD, mApp, mNext, mSync, mSwitch, mFirm, mCrash, mFuse, rdV, rdX, sNew, nilN, nilR, List.append_nil, List.nodup_cons, List.mem_cons, List.not_mem_nil, List.take_succ_cons, List.take_zero, List.getD_cons_zero, List.getD_cons_succ, KB.btt, KB.bff, not_true_eq_false, not_false_eq_true, List.drop_zero, List.length_replicate, osJa, osJs, osJw, osJr, osOp, findJ, layJ, layD, layO, fuL, fuP, fu5, jLen, jFirm, jAll, jAllX, mCrash, mFuse, hf.lv, hf.ren, hm, hfo.lv, hfo.ren, hmo, hb, hbo, hk, hkk, hqq, hL, hfu, hRw, hCr, eV, eL, hfm, q0, q1, q2, q3, q4, q5, g1, g2, b1, b2, hys, hus, hxo, n1, n2, t2, z4, hol, hoj, hoa, f1.lv, f1.ren, f2.lv, f2.ren, Int.toNat_natCast, Int.le_refl, decide_true, decide_false, Bool.not_false, Bool.not_true, Ex, stops, inK, stepF, frsF, frF, itemF, codeF, condF, opsF, opsW, opF, callO, drF, drO, drW, drC, stepS, wtS, gdst, gdl, sopF, pv, evq, orl, bltF, callF, calleeS, popF, lopF, bltP, callP, cls, lvA, rdl, quiet, p_move, p_assign, p_pick, p_nilCheck, p_binOp, p_unOp, p_convert, p_fieldAddr, p_indexAddr, p_index, p_slice, p_makeFunc, p_extract, p_field, p_build, p_len, p_cap, p_min, p_max, l_load, l_convert, l_slice, zerR, roomR, appRR, roomN, appNN, cpSrcN, clN, cpSrc, cpR, clR, e_clear, srcR, dstR, srcN, dstN, e_store, e_alloc, e_box, e_buildSlice, e_makeSlice, e_append, e_copy, e_convert, SY.get, SY.put, SY.ev, SY.mk, SY.nth, SY.lvl, SY.setl, SY.ini, wid, wids, dr, tk, flat, at1, pack, parts, rdC, rdCt, wrC, wrCt, ar, bits2, bopInt, bopStr, bopEq, isPtr, isSl, isBl, eqPs, eqLf, bop, pickAV, bnd, subO, cutOf, okMx, fillA, plFs, nz, minI, numsAt, aOf, hd1, hdL, immL, isArr, ctOf, rowsOf, numsAV, rep, elCt, wrRow, killO, srcN, dstN, dstR, srcR, chR, enterS, leaveS, retS, endS, exitS, gotoS, finishS, killL, isDefs, setPs, roundS, resS, resAll, tup1, conf0, AV.scal, plk, spz, Ct.cell, exq_zero, exq_go, exq_d, exq_n, lvCt, lvE, exq_t, exq_f, exq_t0, exq_f0, ↓bsplit_true, ↓bsplit_false, ↓reduceIte, Nat.reduceLT, Nat.reduceLeDiff, List.toList_toArray, Nat.reduceEqDiff, Nat.reduceAdd, Nat.reduceSub, Nat.reduceMul, Nat.reduceBEq, Nat.reduceBNe, Bool.and_true, Bool.true_and, Bool.not_false, Bool.not_true, List.contains_nil, List.contains_cons, Bool.or_false, Bool.false_or, Option.isSome_some, Option.isSome_none, Option.isNone_none, Option.isNone_some, reduceCtorEq, true_and, and_true, Option.some.injEq, Bool.false_eq_true, List.map_cons, List.map_nil, List.all_cons, List.all_nil, Bool.and_self, List.drop_succ_cons, List.drop_zero, List.length_cons, List.length_nil, List.cons_append, List.nil_append, Option.map_some, Option.map_none, List.append_nil, Nat.zero_add, Nat.add_zero, Nat.sub_zero, Nat.zero_mul, Nat.mul_one, Int.toNat_natCast, Int.toNat_zero, Int.toNat_one, Int.add_zero, Int.sub_zero, Int.reduceEq, Int.reduceLT, Int.reduceLE, Int.reduceAdd, Int.reduceSub, Int.reduceMul, Int.reduceToNat, Int.cast_ofNat_Int, decide_true, decide_false, Option.getD_some, Option.getD_none, ktB, ktX, ktOf, conK, extK, ovlK, rwz, alive, alive0, mks, noMk, lndL, lnd, lvB, lvL, lvR, lvT, tB_tt, tB_ft, tB_ff, okBls, shB, ren, renL, renR, renCt, ne_eq, not_false_eq_true, not_true_eq_false, and_false, false_and, and_self, ti0, ti1, ti2, ti3, ti4, ti5, ti6, ti7, ti8, ti9, ti10, ti11, ti12, ti13, ti14, ti15, ti16, ti17, ti18, ti19, ti20, ti21, ti22, ti23, ti24, ti25, ti26, ti27, ti28, ti29, ti30, ti31, ti32, ti33, ti34, ti35, ti36, ti37, ti38, ti39, ti40, ti41, ti42, ti43, ti44, ti45, ti46, ti47, ti48, ti49, ti50, ti51, ti52, ti53, ti54, ti55, ti56, ti57, ti58, ti59, ti60, ti61, ti62, ti63, ti64, ti65, ti66, ti67, ti68, ti69, ti70, ti71, ti72, ti73, ti74, ti75, ti76, ti77, ti78, ti79, ti80, ti81, ti82, ti83, ti84, ti85, ti86, ti87, ti88, ti89, ti90, ti91, ti92, ti93, ti94, ti95, ti96, ti97, ti98, ti99, ti100, ti101, ti102, ti103, ti104, regAt, fi6, body6, Try.f6, fi23, body23, Try.f23, ↓xs6, ↓xs23, r6_1, r6_3, r6_7, r6_11, r6_12, r6_14, r6_18, r6_22, r6_23, r6_27, r6_31, r6_32, r6_36, r6_40, r6_41, r6_45, r6_49, r6_52, r6_56, r6_57, r23_1, r23_3, plA8, pl8, plA10, pl10, plA11, pl11, plA17, pl17, plA22, pl22, plA25, pl25, plA31, pl31, plA37, pl37, plA45, pl45, plA53, pl53, plA55, pl55]
  repeat (refine And.intro (a := (_ = true)) (by first | (simp; done) | (simp; omega)) ?_)
  exact rfl
set_option maxRecDepth 100000 in
set_option maxHeartbeats 16000000 in
theorem rw_law (C : Ctx) (hC : C.β.b = []) (rs : List (List AV)) (hm : rs.all isB = true) (hok : ∀ x ∈ bys rs, okN .u8 x) (c0 : Option Nat) (os : List (List AV)) (hmo : os.all isB = true) (hoko : ∀ x ∈ bys os, okN .u8 x) (c1 : Option Nat) (firm fuse kept : Int) : Rch Try.prog (plOf pls) C (conf0 6 ⟨112, [.tmp 10], code6⟩ [.imr false 1 rs c0, .imr false 1 os c1, .v (.int .i64 firm), .v (.int .i64 fuse), .v (.int .i64 kept)] []) IsT := by
  have hf := isB_flat hm
  have hfo := isB_flat hmo
  by_cases hb : finB rs = true
  case neg =>
    have hb0 : finB rs = false := Bool.eq_false_iff.2 hb
    refine ExQ_ok [] 4000 plsOk kJR_ok ?_
    simp only [conf0]
    (try rw [exh]); simp (maxSteps := 4000000) only [kJR, kC1, kAll, kJ, specT, sFin0, sSam, sSam0, KB.sPick, sLaid, kDj, ktOf, ktO, ktW, conK, objK, objB, updT, mapB, rhoN, nm, mrk, readK, sCln, sPut, sJoin, sSplit, sSize, mapI, DW.osB, DW.osI, DW.osK, DW.osR, findD, mApp, mNext, mSync, mSwitch, mFirm, mCrash, mFuse, rdV, rdX, sNew, nilN, nilR, List.append_nil, List.nodup_cons, List.mem_cons, List.not_mem_nil, List.take_succ_cons, List.take_zero, List.getD_cons_zero, List.getD_cons_succ, KB.btt, KB.bff, not_true_eq_false, not_false_eq_true, List.drop_zero, List.length_replicate, osJa, osJs, osJw, osJr, osOp, findJ, layJ, layD, layO, fuL, fuP, fu5, jLen, jFirm, jAll, jAllX, mCrash, mFuse, hf.lv, hf.ren, hm, hfo.lv, hfo.ren, hmo, hb0, decide_true, Bool.not_false, KB.btt, KB.bff, Ex, stops, inK, stepF, frsF, frF, itemF, codeF, condF, opsF, opsW, opF, callO, drF, drO, drW, drC, stepS, wtS, gdst, gdl, sopF, pv, evq, orl, bltF, callF, calleeS, popF, lopF, bltP, callP, cls, lvA, rdl, quiet, p_move, p_assign, p_pick, p_nilCheck, p_binOp, p_unOp, p_convert, p_fieldAddr, p_indexAddr, p_index, p_slice, p_makeFunc, p_extract, p_field, p_build, p_len, p_cap, p_min, p_max, l_load, l_convert, l_slice, zerR, roomR, appRR, roomN, appNN, cpSrcN, clN, cpSrc, cpR, clR, e_clear, srcR, dstR, srcN, dstN, e_store, e_alloc, e_box, e_buildSlice, e_makeSlice, e_append, e_copy, e_convert, SY.get, SY.put, SY.ev, SY.mk, SY.nth, SY.lvl, SY.setl, SY.ini, wid, wids, dr, tk, flat, at1, pack, parts, rdC, rdCt, wrC, wrCt, ar, bits2, bopInt, bopStr, bopEq, isPtr, isSl, isBl, eqPs, eqLf, bop, pickAV, bnd, subO, cutOf, okMx, fillA, plFs, nz, minI, numsAt, aOf, hd1, hdL, immL, isArr, ctOf, rowsOf, numsAV, rep, elCt, wrRow, killO, srcN, dstN, dstR, srcR, chR, enterS, leaveS, retS, endS, exitS, gotoS, finishS, killL, isDefs, setPs, roundS, resS, resAll, tup1, conf0, AV.scal, plk, spz, Ct.cell, exq_zero, exq_go, exq_d, exq_n, lvCt, lvE, exq_t, exq_f, exq_t0, exq_f0, ↓bsplit_true, ↓bsplit_false, ↓reduceIte, Nat.reduceLT, Nat.reduceLeDiff, List.toList_toArray, Nat.reduceEqDiff, Nat.reduceAdd, Nat.reduceSub, Nat.reduceMul, Nat.reduceBEq, Nat.reduceBNe, Bool.and_true, Bool.true_and, Bool.not_false, Bool.not_true, List.contains_nil, List.contains_cons, Bool.or_false, Bool.false_or, Option.isSome_some, Option.isSome_none, Option.isNone_none, Option.isNone_some, reduceCtorEq, true_and, and_true, Option.some.injEq, Bool.false_eq_true, List.map_cons, List.map_nil, List.all_cons, List.all_nil, Bool.and_self, List.drop_succ_cons, List.drop_zero, List.length_cons, List.length_nil, List.cons_append, List.nil_append, Option.map_some, Option.map_none, List.append_nil, Nat.zero_add, Nat.add_zero, Nat.sub_zero, Nat.zero_mul, Nat.mul_one, Int.toNat_natCast, Int.toNat_zero, Int.toNat_one, Int.add_zero, Int.sub_zero, Int.reduceEq, Int.reduceLT, Int.reduceLE, Int.reduceAdd, Int.reduceSub, Int.reduceMul, Int.reduceToNat, Int.cast_ofNat_Int, decide_true, decide_false, Option.getD_some, Option.getD_none, ktB, ktX, ktOf, conK, extK, ovlK, rwz, alive, alive0, mks, noMk, lndL, lnd, lvB, lvL, lvR, lvT, tB_tt, tB_ft, tB_ff, okBls, shB, ren, renL, renR, renCt, ne_eq, not_false_eq_true, not_true_eq_false, and_false, false_and, and_self, ti0, ti1, ti2, ti3, ti4, ti5, ti6, ti7, ti8, ti9, ti10, ti11, ti12, ti13, ti14, ti15, ti16, ti17, ti18, ti19, ti20, ti21, ti22, ti23, ti24, ti25, ti26, ti27, ti28, ti29, ti30, ti31, ti32, ti33, ti34, ti35, ti36, ti37, ti38, ti39, ti40, ti41, ti42, ti43, ti44, ti45, ti46, ti47, ti48, ti49, ti50, ti51, ti52, ti53, ti54, ti55, ti56, ti57, ti58, ti59, ti60, ti61, ti62, ti63, ti64, ti65, ti66, ti67, ti68, ti69, ti70, ti71, ti72, ti73, ti74, ti75, ti76, ti77, ti78, ti79, ti80, ti81, ti82, ti83, ti84, ti85, ti86, ti87, ti88, ti89, ti90, ti91, ti92, ti93, ti94, ti95, ti96, ti97, ti98, ti99, ti100, ti101, ti102, ti103, ti104, regAt, fi6, body6, Try.f6, fi23, body23, Try.f23, ↓xs6, ↓xs23, r6_1, r6_3, r6_7, r6_11, r6_12, r6_14, r6_18, r6_22, r6_23, r6_27, r6_31, r6_32, r6_36, r6_40, r6_41, r6_45, r6_49, r6_52, r6_56, r6_57, r23_1, r23_3, plA8, pl8, plA10, pl10, plA11, pl11, plA17, pl17, plA22, pl22, plA25, pl25, plA31, pl31, plA37, pl37, plA45, pl45, plA53, pl53, plA55, pl55]
    repeat (refine And.intro (a := (_ = true)) (by first | (simp; done) | (simp; omega)) ?_)
    exact rfl
  by_cases hbo : finB os = true
  case neg =>
    have hb0 : finB os = false := Bool.eq_false_iff.2 hbo
    refine ExQ_ok [] 4000 plsOk kJR_ok ?_
    simp only [conf0]
    (try rw [exh]); simp (maxSteps := 4000000) only [kJR, kC1, kAll, kJ, specT, sFin0, sSam, sSam0, KB.sPick, sLaid, kDj, ktOf, ktO, ktW, conK, objK, objB, updT, mapB, rhoN, nm, mrk, readK, sCln, sPut, sJoin, sSplit, sSize, mapI, DW.osB, DW.osI, DW.osK, DW.osR, findD, mApp, mNext, mSync, mSwitch, mFirm, mCrash, mFuse, rdV, rdX, sNew, nilN, nilR, List.append_nil, List.nodup_cons, List.mem_cons, List.not_mem_nil, List.take_succ_cons, List.take_zero, List.getD_cons_zero, List.getD_cons_succ, KB.btt, KB.bff, not_true_eq_false, not_false_eq_true, List.drop_zero, List.length_replicate, osJa, osJs, osJw, osJr, osOp, findJ, layJ, layD, layO, fuL, fuP, fu5, jLen, jFirm, jAll, jAllX, mCrash, mFuse, hf.lv, hf.ren, hm, hfo.lv, hfo.ren, hmo, hb, hb0, decide_true, Bool.not_false, Bool.not_true, KB.btt, KB.bff, Ex, stops, inK, stepF, frsF, frF, itemF, codeF, condF, opsF, opsW, opF, callO, drF, drO, drW, drC, stepS, wtS, gdst, gdl, sopF, pv, evq, orl, bltF, callF, calleeS, popF, lopF, bltP, callP, cls, lvA, rdl, quiet, p_move, p_assign, p_pick, p_nilCheck, p_binOp, p_unOp, p_convert, p_fieldAddr, p_indexAddr, p_index, p_slice, p_makeFunc, p_extract, p_field, p_build, p_len, p_cap, p_min, p_max, l_load, l_convert, l_slice, zerR, roomR, appRR, roomN, appNN, cpSrcN, clN, cpSrc, cpR, clR, e_clear, srcR, dstR, srcN, dstN, e_store, e_alloc, e_box, e_buildSlice, e_makeSlice, e_append, e_copy, e_convert, SY.get, SY.put, SY.ev, SY.mk, SY.nth, SY.lvl, SY.setl, SY.ini, wid, wids, dr, tk, flat, at1, pack, parts, rdC, rdCt, wrC, wrCt, ar, bits2, bopInt, bopStr, bopEq, isPtr, isSl, isBl, eqPs, eqLf, bop, pickAV, bnd, subO, cutOf, okMx, fillA, plFs, nz, minI, numsAt, aOf, hd1, hdL, immL, isArr, ctOf, rowsOf, numsAV, rep, elCt, wrRow, killO, srcN, dstN, dstR, srcR, chR, enterS, leaveS, retS, endS, exitS, gotoS, finishS, killL, isDefs, setPs, roundS, resS, resAll, tup1, conf0, AV.scal, plk, spz, Ct.cell, exq_zero, exq_go, exq_d, exq_n, lvCt, lvE, exq_t, exq_f, exq_t0, exq_f0, ↓bsplit_true, ↓bsplit_false, ↓reduceIte, Nat.reduceLT, Nat.reduceLeDiff, List.toList_toArray, Nat.reduceEqDiff, Nat.reduceAdd, Nat.reduceSub, Nat.reduceMul, Nat.reduceBEq, Nat.reduceBNe, Bool.and_true, Bool.true_and, Bool.not_false, Bool.not_true, List.contains_nil, List.contains_cons, Bool.or_false, Bool.false_or, Option.isSome_some, Option.isSome_none, Option.isNone_none, Option.isNone_some, reduceCtorEq, true_and, and_true, Option.some.injEq, Bool.false_eq_true, List.map_cons, List.map_nil, List.all_cons, List.all_nil, Bool.and_self, List.drop_succ_cons, List.drop_zero, List.length_cons, List.length_nil, List.cons_append, List.nil_append, Option.map_some, Option.map_none, List.append_nil, Nat.zero_add, Nat.add_zero, Nat.sub_zero, Nat.zero_mul, Nat.mul_one, Int.toNat_natCast, Int.toNat_zero, Int.toNat_one, Int.add_zero, Int.sub_zero, Int.reduceEq, Int.reduceLT, Int.reduceLE, Int.reduceAdd, Int.reduceSub, Int.reduceMul, Int.reduceToNat, Int.cast_ofNat_Int, decide_true, decide_false, Option.getD_some, Option.getD_none, ktB, ktX, ktOf, conK, extK, ovlK, rwz, alive, alive0, mks, noMk, lndL, lnd, lvB, lvL, lvR, lvT, tB_tt, tB_ft, tB_ff, okBls, shB, ren, renL, renR, renCt, ne_eq, not_false_eq_true, not_true_eq_false, and_false, false_and, and_self, ti0, ti1, ti2, ti3, ti4, ti5, ti6, ti7, ti8, ti9, ti10, ti11, ti12, ti13, ti14, ti15, ti16, ti17, ti18, ti19, ti20, ti21, ti22, ti23, ti24, ti25, ti26, ti27, ti28, ti29, ti30, ti31, ti32, ti33, ti34, ti35, ti36, ti37, ti38, ti39, ti40, ti41, ti42, ti43, ti44, ti45, ti46, ti47, ti48, ti49, ti50, ti51, ti52, ti53, ti54, ti55, ti56, ti57, ti58, ti59, ti60, ti61, ti62, ti63, ti64, ti65, ti66, ti67, ti68, ti69, ti70, ti71, ti72, ti73, ti74, ti75, ti76, ti77, ti78, ti79, ti80, ti81, ti82, ti83, ti84, ti85, ti86, ti87, ti88, ti89, ti90, ti91, ti92, ti93, ti94, ti95, ti96, ti97, ti98, ti99, ti100, ti101, ti102, ti103, ti104, regAt, fi6, body6, Try.f6, fi23, body23, Try.f23, ↓xs6, ↓xs23, r6_1, r6_3, r6_7, r6_11, r6_12, r6_14, r6_18, r6_22, r6_23, r6_27, r6_31, r6_32, r6_36, r6_40, r6_41, r6_45, r6_49, r6_52, r6_56, r6_57, r23_1, r23_3, plA8, pl8, plA10, pl10, plA11, pl11, plA17, pl17, plA22, pl22, plA25, pl25, plA31, pl31, plA37, pl37, plA45, pl45, plA53, pl53, plA55, pl55]
    repeat (refine And.intro (a := (_ = true)) (by first | (simp; done) | (simp; omega)) ?_)
    exact rfl
  obtain ⟨k, hk0, hk1⟩ := KB.pick_lt firm (n := rs.length + 1) (by omega)
  obtain ⟨kk, hkk0, hkk1⟩ := KB.pick_lt kept (n := 5000) (by omega)
  obtain ⟨q, hq0, hq1⟩ := KB.pick_lt fuse (n := 4) (by omega)
  by_cases h : (2 : Int) ≤ (q : Int)
  · exact rw_suc C hC rs hm hok c0 os hmo hoko c1 firm fuse kept hb hbo k kk q hk0 hk1 hkk1 hkk0 hq1 h (by omega)
  · exact rw_burn C hC rs hm hok c0 os hmo hoko c1 firm fuse kept hb hbo k kk q hk0 hk1 hkk1 hkk0 hq1 (by omega)
end JRW
end Go.Proofs.Ytlhjbjpcnncndaa
