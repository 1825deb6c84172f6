/- crc.on: its word. -/
import Derived.Test.YtdoeopcimhpjaaaPl
import Derived.Test.YtdoeopcimhpjaaaFn
import Derived.Test.YtdoeopcimhpjaaaTi
import Derived.Test.YtdoeopcimhpjaaaC0
import Derived.Test.YtdoeopcimhpjaaaSe
import Derived.KernelRfl
set_option linter.unusedSimpArgs false
set_option linter.unusedVariables false
namespace Go.Proofs.Ytdoeopcimhpjaaa
open Go Go.SY
theorem plsOk : PlOk Try.prog (plOf pls) := plsB_ok (by kernel_rfl) (by kernel_rfl)

def sOn : List AV → Option (Bool × AV × Bls)
  | [.v (.int .u32 x), .v (.int .i64 b)] => some (decide (0 ≤ x) && (decide (x < 4294967296) && decide (b = 8)), .v (.int .u32 ((crcB 8 x.toNat : Nat) : Int)), [])
  | _ => none

set_option maxRecDepth 100000 in
set_option maxHeartbeats 4000000 in
theorem on_run (C : Ctx) (hC : C.β.b = []) (x : Nat) (hx : x < 4294967296) : Rch Try.prog (plOf pls) C (conf0 44 ⟨19, [.tmp 4], code44⟩ [.v (.int .u32 x), .v (.int .i64 8)] []) (Res (.v (.int .u32 ((crcB 8 x : Nat) : Int))) []) := by
  refine Ex_ok (K := fun _ => none) (n := 40) (R := fun c => Rch Try.prog (plOf pls) C c _) plsOk (fun g c h => by cases h) (fun c h => h) ?_
  simp (maxSteps := 4000000) only [Ex, stops, inK, stepF, frsF, frF, itemF, codeF, condF, opsF, opsW, opF, callO, drF, drO, drW, drC, stepS, wtS, gdst, gdl, sopF, pv, evq, orl, bltF, callF, calleeS, popF, lopF, bltP, callP, cls, lvA, rdl, quiet, p_move, p_assign, p_pick, p_nilCheck, p_binOp, p_unOp, p_convert, p_fieldAddr, p_indexAddr, p_index, p_slice, p_makeFunc, p_extract, p_field, p_build, p_len, p_cap, p_min, p_max, l_load, l_convert, l_slice, zerR, roomR, appRR, roomN, appNN, cpSrcN, clN, cpSrc, cpR, clR, e_clear, srcR, dstR, srcN, dstN, e_store, e_alloc, e_box, e_buildSlice, e_makeSlice, e_append, e_copy, e_convert, SY.get, SY.put, SY.ev, SY.mk, SY.nth, SY.lvl, SY.setl, SY.ini, wid, wids, dr, tk, flat, at1, pack, parts, rdC, rdCt, wrC, wrCt, ar, bits2, bopInt, bopStr, bopEq, isPtr, isSl, isBl, eqPs, eqLf, bop, pickAV, bnd, subO, cutOf, okMx, fillA, plFs, nz, minI, numsAt, aOf, hd1, hdL, immL, isArr, ctOf, rowsOf, numsAV, rep, elCt, wrRow, killO, srcN, dstN, dstR, srcR, chR, enterS, leaveS, retS, endS, exitS, gotoS, finishS, killL, isDefs, setPs, roundS, resS, resAll, tup1, conf0, AV.scal, plk, spz, Ct.cell, exs_zero, exs_go, exs_t, exs_f, exs_t0, exs_f0, ↓bsplit_true, ↓bsplit_false, ↓reduceIte, Nat.reduceLT, Nat.reduceLeDiff, List.toList_toArray, Nat.reduceEqDiff, Nat.reduceAdd, Nat.reduceSub, Nat.reduceMul, Nat.reduceBEq, Nat.reduceBNe, Bool.and_true, Bool.true_and, Bool.not_false, Bool.not_true, List.contains_nil, List.contains_cons, Bool.or_false, Bool.false_or, Option.isSome_some, Option.isSome_none, Option.isNone_none, Option.isNone_some, reduceCtorEq, true_and, and_true, Option.some.injEq, Bool.false_eq_true, List.map_cons, List.map_nil, List.all_cons, List.all_nil, Bool.and_self, List.drop_succ_cons, List.drop_zero, List.length_cons, List.length_nil, List.cons_append, List.nil_append, Option.map_some, Option.map_none, List.append_nil, Nat.zero_add, Nat.add_zero, Nat.sub_zero, Nat.zero_mul, Nat.mul_one, Int.toNat_natCast, Int.toNat_zero, Int.toNat_one, Int.add_zero, Int.sub_zero, Int.reduceEq, Int.reduceLT, Int.reduceLE, Int.reduceAdd, Int.reduceSub, Int.reduceMul, Int.reduceToNat, Int.cast_ofNat_Int, decide_true, decide_false, Option.getD_some, Option.getD_none, ktB, ktX, ktOf, conK, extK, ovlK, rwz, alive, lndL, lnd, lvB, lvL, lvR, lvT, tB_tt, tB_ft, tB_ff, okBls, shB, ren, renL, renR, renCt, ne_eq, not_false_eq_true, not_true_eq_false, and_false, false_and, and_self, ti0, ti1, ti2, ti3, ti4, ti5, ti6, ti7, ti8, ti9, ti10, ti11, ti12, ti13, ti14, ti15, ti16, ti17, ti18, ti19, ti20, ti21, ti22, ti23, ti24, ti25, ti26, ti27, ti28, ti29, ti30, ti31, ti32, ti33, ti34, ti35, ti36, ti37, ti38, ti39, ti40, ti41, ti42, ti43, ti44, ti45, ti46, ti47, ti48, ti49, ti50, ti51, ti52, ti53, ti54, ti55, ti56, ti57, ti58, ti59, ti60, ti61, ti62, ti63, ti64, ti65, ti66, ti67, ti68, ti69, ti70, ti71, ti72, ti73, ti74, ti75, ti76, fi2, code2, Try.f2, fi3, code3, Try.f3, fi4, code4, Try.f4, fi5, code5, Try.f5, fi6, code6, Try.f6, fi7, code7, Try.f7, fi8, code8, Try.f8, fi9, code9, Try.f9, fi10, code10, Try.f10, fi11, code11, Try.f11, fi12, code12, Try.f12, fi13, code13, Try.f13, fi14, code14, Try.f14, fi15, code15, Try.f15, fi16, code16, Try.f16, fi17, code17, Try.f17, fi18, code18, Try.f18, fi19, code19, Try.f19, fi20, code20, Try.f20, fi21, code21, Try.f21, fi22, code22, Try.f22, fi23, code23, Try.f23, fi24, code24, Try.f24, fi25, code25, Try.f25, fi26, code26, Try.f26, fi27, code27, Try.f27, fi28, code28, Try.f28, fi29, code29, Try.f29, fi30, code30, Try.f30, fi31, code31, Try.f31, fi32, code32, Try.f32, fi33, code33, Try.f33, fi34, code34, Try.f34, fi35, code35, Try.f35, fi36, code36, Try.f36, fi37, code37, Try.f37, fi38, code38, Try.f38, fi39, code39, Try.f39, fi40, code40, Try.f40, fi41, code41, Try.f41, fi42, code42, Try.f42, fi43, code43, Try.f43, fi44, code44, Try.f44, plA11, pl11, plA13, pl13, plA16, pl16, plA31, pl31, plA37, pl37, plA39, pl39]
  refine Rch.loop plsOk ?_
  refine Rch.fit1 hC [] (bl' := []) (tm' := [(0, .v (.int .u32 (x : Nat))), (6, .v (.int .i64 8)), (7, .v (.int .i64 0))]) rfl List.nodup_nil rfl ⟨rfl, rfl, rfl, trivial⟩ rfl trivial ?_
  refine loop_ind plsOk (α := {a : Nat × Nat × Int // a.2.1 < 4294967296 ∧ a.1 + a.2.2 = 8 ∧ 0 ≤ a.2.2}) (fun a => a.1.1) (fun a => [(0, .v (.int .u32 (a.1.2.1 : Nat))), (6, .v (.int .i64 8)), (7, .v (.int .i64 a.1.2.2))]) (fun _ => []) (fun a => Res (.v (.int .u32 ((crcB a.1.1 a.1.2.1 : Nat) : Int))) []) ?_ ⟨(8, x, 0), hx, by simp, by simp⟩
  rintro ⟨⟨j, y, i⟩, hy, hj, hi⟩ ih
  simp only at hy hj hi
  refine Ex_ok (K := fun _ => none) (n := 60) (R := fun c => Rch Try.prog (plOf pls) C c _) plsOk (fun g c h => by cases h) (fun c h => h) ?_
  simp (maxSteps := 4000000) only [Ex, stops, inK, stepF, frsF, frF, itemF, codeF, condF, opsF, opsW, opF, callO, drF, drO, drW, drC, stepS, wtS, gdst, gdl, sopF, pv, evq, orl, bltF, callF, calleeS, popF, lopF, bltP, callP, cls, lvA, rdl, quiet, p_move, p_assign, p_pick, p_nilCheck, p_binOp, p_unOp, p_convert, p_fieldAddr, p_indexAddr, p_index, p_slice, p_makeFunc, p_extract, p_field, p_build, p_len, p_cap, p_min, p_max, l_load, l_convert, l_slice, zerR, roomR, appRR, roomN, appNN, cpSrcN, clN, cpSrc, cpR, clR, e_clear, srcR, dstR, srcN, dstN, e_store, e_alloc, e_box, e_buildSlice, e_makeSlice, e_append, e_copy, e_convert, SY.get, SY.put, SY.ev, SY.mk, SY.nth, SY.lvl, SY.setl, SY.ini, wid, wids, dr, tk, flat, at1, pack, parts, rdC, rdCt, wrC, wrCt, ar, bits2, bopInt, bopStr, bopEq, isPtr, isSl, isBl, eqPs, eqLf, bop, pickAV, bnd, subO, cutOf, okMx, fillA, plFs, nz, minI, numsAt, aOf, hd1, hdL, immL, isArr, ctOf, rowsOf, numsAV, rep, elCt, wrRow, killO, srcN, dstN, dstR, srcR, chR, enterS, leaveS, retS, endS, exitS, gotoS, finishS, killL, isDefs, setPs, roundS, resS, resAll, tup1, conf0, AV.scal, plk, spz, Ct.cell, exs_zero, exs_go, exs_t, exs_f, exs_t0, exs_f0, ↓bsplit_true, ↓bsplit_false, ↓reduceIte, Nat.reduceLT, Nat.reduceLeDiff, List.toList_toArray, Nat.reduceEqDiff, Nat.reduceAdd, Nat.reduceSub, Nat.reduceMul, Nat.reduceBEq, Nat.reduceBNe, Bool.and_true, Bool.true_and, Bool.not_false, Bool.not_true, List.contains_nil, List.contains_cons, Bool.or_false, Bool.false_or, Option.isSome_some, Option.isSome_none, Option.isNone_none, Option.isNone_some, reduceCtorEq, true_and, and_true, Option.some.injEq, Bool.false_eq_true, List.map_cons, List.map_nil, List.all_cons, List.all_nil, Bool.and_self, List.drop_succ_cons, List.drop_zero, List.length_cons, List.length_nil, List.cons_append, List.nil_append, Option.map_some, Option.map_none, List.append_nil, Nat.zero_add, Nat.add_zero, Nat.sub_zero, Nat.zero_mul, Nat.mul_one, Int.toNat_natCast, Int.toNat_zero, Int.toNat_one, Int.add_zero, Int.sub_zero, Int.reduceEq, Int.reduceLT, Int.reduceLE, Int.reduceAdd, Int.reduceSub, Int.reduceMul, Int.reduceToNat, Int.cast_ofNat_Int, decide_true, decide_false, Option.getD_some, Option.getD_none, ktB, ktX, ktOf, conK, extK, ovlK, rwz, alive, lndL, lnd, lvB, lvL, lvR, lvT, tB_tt, tB_ft, tB_ff, okBls, shB, ren, renL, renR, renCt, ne_eq, not_false_eq_true, not_true_eq_false, and_false, false_and, and_self, ti0, ti1, ti2, ti3, ti4, ti5, ti6, ti7, ti8, ti9, ti10, ti11, ti12, ti13, ti14, ti15, ti16, ti17, ti18, ti19, ti20, ti21, ti22, ti23, ti24, ti25, ti26, ti27, ti28, ti29, ti30, ti31, ti32, ti33, ti34, ti35, ti36, ti37, ti38, ti39, ti40, ti41, ti42, ti43, ti44, ti45, ti46, ti47, ti48, ti49, ti50, ti51, ti52, ti53, ti54, ti55, ti56, ti57, ti58, ti59, ti60, ti61, ti62, ti63, ti64, ti65, ti66, ti67, ti68, ti69, ti70, ti71, ti72, ti73, ti74, ti75, ti76, fi2, code2, Try.f2, fi3, code3, Try.f3, fi4, code4, Try.f4, fi5, code5, Try.f5, fi6, code6, Try.f6, fi7, code7, Try.f7, fi8, code8, Try.f8, fi9, code9, Try.f9, fi10, code10, Try.f10, fi11, code11, Try.f11, fi12, code12, Try.f12, fi13, code13, Try.f13, fi14, code14, Try.f14, fi15, code15, Try.f15, fi16, code16, Try.f16, fi17, code17, Try.f17, fi18, code18, Try.f18, fi19, code19, Try.f19, fi20, code20, Try.f20, fi21, code21, Try.f21, fi22, code22, Try.f22, fi23, code23, Try.f23, fi24, code24, Try.f24, fi25, code25, Try.f25, fi26, code26, Try.f26, fi27, code27, Try.f27, fi28, code28, Try.f28, fi29, code29, Try.f29, fi30, code30, Try.f30, fi31, code31, Try.f31, fi32, code32, Try.f32, fi33, code33, Try.f33, fi34, code34, Try.f34, fi35, code35, Try.f35, fi36, code36, Try.f36, fi37, code37, Try.f37, fi38, code38, Try.f38, fi39, code39, Try.f39, fi40, code40, Try.f40, fi41, code41, Try.f41, fi42, code42, Try.f42, fi43, code43, Try.f43, fi44, code44, Try.f44, plA11, pl11, plA13, pl13, plA16, pl16, plA31, pl31, plA37, pl37, plA39, pl39]
  rw [u32_low hy, u32_half]
  rw [u32_poly (x := y / 2) (by omega)]
  refine ⟨fun h1 => ?_, fun h1 => ?_⟩
  · have h1 := of_decide_eq_true h1
    have hs : ∃ j', j = j' + 1 := ⟨j - 1, by omega⟩
    obtain ⟨j', rfl⟩ := hs
    refine ⟨fun h2 => ⟨by simp; omega, ?_⟩, fun h2 => ⟨by simp; omega, ?_⟩⟩
    · have h2 := of_decide_eq_true h2
      have e : crcS y = (y / 2) ^^^ 3988292384 := by unfold crcS; rw [show y % 2 = 1 by omega]; rfl
      refine Rch.fit1 hC [] (bl' := []) (tm' := [(0, .v (.int .u32 ((crcS y : Nat) : Int))), (6, .v (.int .i64 8)), (7, .v (.int .i64 (i + 1)))]) rfl List.nodup_nil rfl ⟨by rw [e]; rfl, rfl, rfl, trivial⟩ rfl trivial ?_
      exact ih ⟨(j', crcS y, i + 1), crcS_lt hy, by simp only; omega, by simp only; omega⟩ (Nat.lt_succ_self _)
    · have h2 := of_decide_eq_false h2
      have e : crcS y = y / 2 := by unfold crcS; rw [show y % 2 = 0 by omega]; rfl
      refine Rch.fit1 hC [] (bl' := []) (tm' := [(0, .v (.int .u32 ((crcS y : Nat) : Int))), (6, .v (.int .i64 8)), (7, .v (.int .i64 (i + 1)))]) rfl List.nodup_nil rfl ⟨by rw [e]; rfl, rfl, rfl, trivial⟩ rfl trivial ?_
      exact ih ⟨(j', crcS y, i + 1), crcS_lt hy, by simp only; omega, by simp only; omega⟩ (Nat.lt_succ_self _)
  · have h1 := of_decide_eq_false h1
    obtain rfl : j = 0 := by omega
    exact Res.val _ _

theorem on_ok : SpecOk Try.prog (plOf pls) 44 sOn := by
  refine ⟨_, fi44, fun args r bl1 h => ?_⟩
  unfold sOn at h
  split at h
  · rename_i x b
    simp only [Option.some.injEq, Prod.mk.injEq, Bool.and_eq_true, decide_eq_true_eq] at h
    obtain ⟨⟨h1, h2, rfl⟩, rfl, rfl⟩ := h
    obtain ⟨n, rfl⟩ := Int.eq_ofNat_of_zero_le h1
    refine ⟨by simp, fun C hC hb => ?_⟩
    exact on_run C hC n (by omega)
  · cases h
end Go.Proofs.Ytdoeopcimhpjaaa
