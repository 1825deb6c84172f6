/- Check sums: the words of crc.More, crc.Sum. -/
import Derived.Test.YtlhjbjpcnncndaaC2
import Derived.Test.YtlhjbjpcnncndaaCd
import Derived.Test.YtlhjbjpcnncndaaSe
set_option linter.unusedSimpArgs false
set_option linter.unusedVariables false
namespace Go.Proofs.Ytlhjbjpcnncndaa
open Go Go.SY
def kTab : KT := ktOf [(57, fun args => match args with
      | [] => some (true, .ch 256 .u32 crcTab, [])
      | _ => none)]
theorem kTab_ok : KOk Try.prog (plOf pls) kTab := ktOf_ok plsOk fun x hx => by
  simp only [List.mem_singleton] at hx
  subst hx
  exact table_ok
def crc1 (x c : Nat) : Nat := (x / 256) ^^^ crcB 8 ((x % 256) ^^^ c)
def crcL (x : Nat) (cs : List Int) : Nat := cs.foldl (fun x c => crc1 x c.toNat) x
def crcM (x : Nat) (cs : List Int) : Nat := crcL (x ^^^ 4294967295) cs ^^^ 4294967295
theorem xor8 {x y : Nat} (h : x < 256) (k : y < 256) : x ^^^ y < 256 := Nat.xor_lt_two_pow (n := 8) h k
theorem xor32 {x y : Nat} (h : x < 4294967296) (k : y < 4294967296) : x ^^^ y < 4294967296 := Nat.xor_lt_two_pow (n := 32) h k
theorem crc1_lt {x c : Nat} (h : x < 4294967296) (k : c < 256) : crc1 x c < 4294967296 := xor32 (by omega) (crcB_lt (by have := xor8 (x := x % 256) (by omega) k; omega))
theorem u32_not {x : Nat} (h : x < 4294967296) : IntKind.u32.wrap (((BitVec.ofInt IntKind.u32.bits (if IntKind.u32.signed = true then -1 else IntKind.u32.max) ^^^ BitVec.ofInt IntKind.u32.bits (x : Int)).toNat : Nat) : Int) = ((x ^^^ 4294967295 : Nat) : Int) := by
  have e : (if IntKind.u32.signed = true then -1 else IntKind.u32.max) = ((4294967295 : Nat) : Int) := rfl
  rw [e, Go.SY.u32_xor (x := 4294967295) (y := x) (by decide) h, Nat.xor_comm]
theorem u32_shr8 {x : Nat} : (x : Int).fdiv (2 ^ min 8 IntKind.u32.bits) = ((x / 256 : Nat) : Int) := by
  have : min 8 IntKind.u32.bits = 8 := by decide
  rw [this, Int.fdiv_eq_ediv_of_nonneg _ (by decide)]
  simp
theorem u8_low {x : Nat} : IntKind.u8.wrap (x : Int) = ((x % 256 : Nat) : Int) := by
  simp only [IntKind.wrap, IntKind.bits, IntKind.signed]
  simp
theorem u8_xor {x y : Nat} (h : x < 256) (k : y < 256) : IntKind.u8.wrap (((BitVec.ofInt IntKind.u8.bits (x : Int) ^^^ BitVec.ofInt IntKind.u8.bits (y : Int)).toNat : Nat) : Int) = ((x ^^^ y : Nat) : Int) := by
  have b8 : ∀ {x : Nat}, x < 256 → (BitVec.ofInt IntKind.u8.bits (x : Int)).toNat = x := fun {x} h => by
    simp only [IntKind.bits, BitVec.toNat_ofInt]
    omega
  rw [BitVec.toNat_xor, b8 h, b8 k, u8_low, Nat.mod_eq_of_lt (xor8 h k)]
theorem tab_get {i : Nat} (h : i < 256) : crcTab[i]?.getD 0 = ((crcB 8 i : Nat) : Int) := by
  unfold crcTab
  rw [List.getElem?_map, List.getElem?_range h]
  rfl
theorem tab_len : crcTab.length = 256 := by unfold crcTab; simp
theorem byte_at {xs : List Int} (h : okN .u8 xs) {i : Nat} (hi : i < xs.length) : ∃ c : Nat, c < 256 ∧ xs[i]?.getD 0 = (c : Int) := by
  have := h _ (List.getElem_mem hi)
  simp only [inK, Bool.and_eq_true, decide_eq_true_eq] at this
  refine ⟨(xs[i]).toNat, by omega, ?_⟩
  rw [List.getElem?_eq_getElem hi, Option.getD_some]
  omega
theorem crcL_step {xs : List Int} {i c x : Nat} (hi : i < xs.length) (hc : xs[i]?.getD 0 = (c : Int)) : crcL x (xs.drop i) = crcL (crc1 x c) (xs.drop (i + 1)) := by
  rw [List.drop_eq_getElem_cons hi]
  rw [List.getElem?_eq_getElem hi, Option.getD_some] at hc
  rw [hc]
  rfl
theorem crcL_lt : ∀ {xs : List Int} {x : Nat}, okN .u8 xs → x < 4294967296 → crcL x xs < 4294967296
  | [], _, _, h => h
  | c :: xs, x, ho, h => by
    have := ho c (List.mem_cons_self ..)
    simp only [inK, Bool.and_eq_true, decide_eq_true_eq] at this
    exact crcL_lt (xs := xs) (fun y hy => ho y (List.mem_cons_of_mem _ hy)) (crc1_lt h (by omega))
def tMo (t : Bool) (xs : List Int) (c0 : Option Nat) (i x : Nat) : TM := [(14, .v (.int .i64 i)), (13, .v (.int .i64 (xs.length : Nat))), (12, .imn t .u8 xs c0), (6, .v (.int .u32 (x : Nat))), (5, .ptr 0 0 256 0)]
set_option maxRecDepth 100000 in
set_option maxHeartbeats 4000000 in
theorem more_run (C : Ctx) (hC : C.β.b = []) (t : Bool) (xs : List Int) (hx : okN .u8 xs) (c0 : Option Nat) (x : Nat) (hs : x < 4294967296) (hl : xs.length < 9223372036854775808) : Rch Try.prog (plOf pls) C (conf0 51 ⟨30, [.tmp 4], code51⟩ [.v (.int .u32 x), .imn t .u8 xs c0] []) (Res (.v (.int .u32 ((crcM x xs : Nat) : Int))) []) := by
  have ht := tab_len
  refine ExQ_ok [] 2000 plsOk kTab_ok ?_
  simp only [conf0]
  (try rw [exh]); simp (maxSteps := 4000000) only [kTab, Ex, stops, inK, stepF, frsF, frF, itemF, codeF, condF, opsF, opsW, opF, callO, drF, drO, drW, drC, stepS, wtS, gdst, gdl, sopF, pv, evq, orl, bltF, callF, calleeS, popF, lopF, bltP, callP, cls, lvA, rdl, quiet, p_move, p_assign, p_pick, p_nilCheck, p_binOp, p_unOp, p_convert, p_fieldAddr, p_indexAddr, p_index, p_slice, p_makeFunc, p_extract, p_field, p_build, p_len, p_cap, p_min, p_max, l_load, l_convert, l_slice, zerR, roomR, appRR, roomN, appNN, cpSrcN, clN, cpSrc, cpR, clR, e_clear, srcR, dstR, srcN, dstN, e_store, e_alloc, e_box, e_buildSlice, e_makeSlice, e_append, e_copy, e_convert, SY.get, SY.put, SY.ev, SY.mk, SY.nth, SY.lvl, SY.setl, SY.ini, wid, wids, dr, tk, flat, at1, pack, parts, rdC, rdCt, wrC, wrCt, ar, bits2, bopInt, bopStr, bopEq, isPtr, isSl, isBl, eqPs, eqLf, bop, pickAV, bnd, subO, cutOf, okMx, fillA, plFs, nz, minI, numsAt, aOf, hd1, hdL, immL, isArr, ctOf, rowsOf, numsAV, rep, elCt, wrRow, killO, srcN, dstN, dstR, srcR, chR, enterS, leaveS, retS, endS, exitS, gotoS, finishS, killL, isDefs, setPs, roundS, resS, resAll, tup1, conf0, AV.scal, plk, spz, Ct.cell, exq_zero, exq_go, exq_d, exq_n, lvCt, lvE, exq_t, exq_f, exq_t0, exq_f0, ↓bsplit_true, ↓bsplit_false, ↓reduceIte, Nat.reduceLT, Nat.reduceLeDiff, List.toList_toArray, Nat.reduceEqDiff, Nat.reduceAdd, Nat.reduceSub, Nat.reduceMul, Nat.reduceBEq, Nat.reduceBNe, Bool.and_true, Bool.true_and, Bool.not_false, Bool.not_true, List.contains_nil, List.contains_cons, Bool.or_false, Bool.false_or, Option.isSome_some, Option.isSome_none, Option.isNone_none, Option.isNone_some, reduceCtorEq, true_and, and_true, Option.some.injEq, Bool.false_eq_true, List.map_cons, List.map_nil, List.all_cons, List.all_nil, Bool.and_self, List.drop_succ_cons, List.drop_zero, List.length_cons, List.length_nil, List.cons_append, List.nil_append, Option.map_some, Option.map_none, List.append_nil, Nat.zero_add, Nat.add_zero, Nat.sub_zero, Nat.zero_mul, Nat.mul_one, Int.toNat_natCast, Int.toNat_zero, Int.toNat_one, Int.add_zero, Int.sub_zero, Int.reduceEq, Int.reduceLT, Int.reduceLE, Int.reduceAdd, Int.reduceSub, Int.reduceMul, Int.reduceToNat, Int.cast_ofNat_Int, decide_true, decide_false, Option.getD_some, Option.getD_none, ktB, ktX, ktOf, conK, extK, ovlK, rwz, alive, alive0, mks, noMk, lndL, lnd, lvB, lvL, lvR, lvT, tB_tt, tB_ft, tB_ff, okBls, shB, ren, renL, renR, renCt, ne_eq, not_false_eq_true, not_true_eq_false, and_false, false_and, and_self, ti0, ti1, ti2, ti3, ti4, ti5, ti6, ti7, ti8, ti9, ti10, ti11, ti12, ti13, ti14, ti15, ti16, ti17, ti18, ti19, ti20, ti21, ti22, ti23, ti24, ti25, ti26, ti27, ti28, ti29, ti30, ti31, ti32, ti33, ti34, ti35, ti36, ti37, ti38, ti39, ti40, ti41, ti42, ti43, ti44, ti45, ti46, ti47, ti48, ti49, ti50, ti51, ti52, ti53, ti54, ti55, ti56, ti57, ti58, ti59, ti60, ti61, ti62, ti63, ti64, ti65, ti66, ti67, ti68, ti69, ti70, ti71, ti72, ti73, ti74, ti75, ti76, ti77, ti78, ti79, ti80, ti81, ti82, ti83, ti84, ti85, ti86, ti87, ti88, ti89, ti90, ti91, ti92, ti93, ti94, ti95, ti96, ti97, ti98, ti99, ti100, ti101, ti102, ti103, ti104, regAt, fi51, body51, Try.f51, fi44, body44, Try.f44, ↓xs44, ↓xs51, r44_1, r44_3, r51_1, r51_3, r51_5, r51_9, r51_13, r51_21, r51_22, r51_19, r51_23, plA8, pl8, plA10, pl10, plA11, pl11, plA17, pl17, plA22, pl22, plA25, pl25, plA31, pl31, plA37, pl37, plA45, pl45, plA53, pl53, plA55, pl55]
  repeat (refine And.intro (a := (_ = true)) (by first | (simp; done) | (simp; omega)) ?_)
  rw [u32_not hs]
  refine Rch.loop plsOk ?_
  refine Rch.fit1 hC [0] (tm' := tMo t xs c0 0 (x ^^^ 4294967295)) (bl' := [some (.num .u32 crcTab)]) rfl (by decide) rfl ⟨rfl, rfl, rfl, rfl, rfl, trivial⟩ (by cases t <;> rfl) ⟨⟨rfl, rfl⟩, trivial⟩ ?_
  refine loop_ind plsOk (α := {a : Nat × Nat // a.1 ≤ xs.length ∧ a.2 < 4294967296 ∧ crcL a.2 (xs.drop a.1) = crcL (x ^^^ 4294967295) xs}) (fun a => xs.length - a.1.1) (fun a => tMo t xs c0 a.1.1 a.1.2) (fun _ => [some (.num .u32 crcTab)]) (fun _ => Res (.v (.int .u32 ((crcM x xs : Nat) : Int))) []) ?_ ⟨(0, x ^^^ 4294967295), Nat.zero_le _, xor32 hs (by decide), rfl⟩
  rintro ⟨⟨i, y⟩, hi, hy, he⟩ ih
  simp only [tMo] at hi hy he ih ⊢
  by_cases h : (i : Int) < xs.length
  · obtain ⟨c, hc, hg⟩ := byte_at hx (i := i) (by omega)
    have hb := xor8 (x := y % 256) (by omega) hc
    refine ExQ_ok [] 2000 plsOk kTab_ok ?_
    (try rw [exh]); simp (maxSteps := 4000000) only [kTab, h, hg, u8_low, u8_xor (x := y % 256) (by omega) hc, u32_shr8, Int.toNat_natCast, tab_get hb, Ex, stops, inK, stepF, frsF, frF, itemF, codeF, condF, opsF, opsW, opF, callO, drF, drO, drW, drC, stepS, wtS, gdst, gdl, sopF, pv, evq, orl, bltF, callF, calleeS, popF, lopF, bltP, callP, cls, lvA, rdl, quiet, p_move, p_assign, p_pick, p_nilCheck, p_binOp, p_unOp, p_convert, p_fieldAddr, p_indexAddr, p_index, p_slice, p_makeFunc, p_extract, p_field, p_build, p_len, p_cap, p_min, p_max, l_load, l_convert, l_slice, zerR, roomR, appRR, roomN, appNN, cpSrcN, clN, cpSrc, cpR, clR, e_clear, srcR, dstR, srcN, dstN, e_store, e_alloc, e_box, e_buildSlice, e_makeSlice, e_append, e_copy, e_convert, SY.get, SY.put, SY.ev, SY.mk, SY.nth, SY.lvl, SY.setl, SY.ini, wid, wids, dr, tk, flat, at1, pack, parts, rdC, rdCt, wrC, wrCt, ar, bits2, bopInt, bopStr, bopEq, isPtr, isSl, isBl, eqPs, eqLf, bop, pickAV, bnd, subO, cutOf, okMx, fillA, plFs, nz, minI, numsAt, aOf, hd1, hdL, immL, isArr, ctOf, rowsOf, numsAV, rep, elCt, wrRow, killO, srcN, dstN, dstR, srcR, chR, enterS, leaveS, retS, endS, exitS, gotoS, finishS, killL, isDefs, setPs, roundS, resS, resAll, tup1, conf0, AV.scal, plk, spz, Ct.cell, exq_zero, exq_go, exq_d, exq_n, lvCt, lvE, exq_t, exq_f, exq_t0, exq_f0, ↓bsplit_true, ↓bsplit_false, ↓reduceIte, Nat.reduceLT, Nat.reduceLeDiff, List.toList_toArray, Nat.reduceEqDiff, Nat.reduceAdd, Nat.reduceSub, Nat.reduceMul, Nat.reduceBEq, Nat.reduceBNe, Bool.and_true, Bool.true_and, Bool.not_false, Bool.not_true, List.contains_nil, List.contains_cons, Bool.or_false, Bool.false_or, Option.isSome_some, Option.isSome_none, Option.isNone_none, Option.isNone_some, reduceCtorEq, true_and, and_true, Option.some.injEq, Bool.false_eq_true, List.map_cons, List.map_nil, List.all_cons, List.all_nil, Bool.and_self, List.drop_succ_cons, List.drop_zero, List.length_cons, List.length_nil, List.cons_append, List.nil_append, Option.map_some, Option.map_none, List.append_nil, Nat.zero_add, Nat.add_zero, Nat.sub_zero, Nat.zero_mul, Nat.mul_one, Int.toNat_natCast, Int.toNat_zero, Int.toNat_one, Int.add_zero, Int.sub_zero, Int.reduceEq, Int.reduceLT, Int.reduceLE, Int.reduceAdd, Int.reduceSub, Int.reduceMul, Int.reduceToNat, Int.cast_ofNat_Int, decide_true, decide_false, Option.getD_some, Option.getD_none, ktB, ktX, ktOf, conK, extK, ovlK, rwz, alive, alive0, mks, noMk, lndL, lnd, lvB, lvL, lvR, lvT, tB_tt, tB_ft, tB_ff, okBls, shB, ren, renL, renR, renCt, ne_eq, not_false_eq_true, not_true_eq_false, and_false, false_and, and_self, ti0, ti1, ti2, ti3, ti4, ti5, ti6, ti7, ti8, ti9, ti10, ti11, ti12, ti13, ti14, ti15, ti16, ti17, ti18, ti19, ti20, ti21, ti22, ti23, ti24, ti25, ti26, ti27, ti28, ti29, ti30, ti31, ti32, ti33, ti34, ti35, ti36, ti37, ti38, ti39, ti40, ti41, ti42, ti43, ti44, ti45, ti46, ti47, ti48, ti49, ti50, ti51, ti52, ti53, ti54, ti55, ti56, ti57, ti58, ti59, ti60, ti61, ti62, ti63, ti64, ti65, ti66, ti67, ti68, ti69, ti70, ti71, ti72, ti73, ti74, ti75, ti76, ti77, ti78, ti79, ti80, ti81, ti82, ti83, ti84, ti85, ti86, ti87, ti88, ti89, ti90, ti91, ti92, ti93, ti94, ti95, ti96, ti97, ti98, ti99, ti100, ti101, ti102, ti103, ti104, regAt, fi51, body51, Try.f51, fi44, body44, Try.f44, ↓xs44, ↓xs51, r44_1, r44_3, r51_1, r51_3, r51_5, r51_9, r51_13, r51_21, r51_22, r51_19, r51_23, plA8, pl8, plA10, pl10, plA11, pl11, plA17, pl17, plA22, pl22, plA25, pl25, plA31, pl31, plA37, pl37, plA45, pl45, plA53, pl53, plA55, pl55]
    repeat (refine And.intro (a := (_ = true)) (by first | (simp; done) | (simp; omega)) ?_)
    rw [Go.SY.u32_xor (by omega) (crcB_lt (by omega))]
    refine Rch.fit1 hC [0] (tm' := tMo t xs c0 (i + 1) (crc1 y c)) (bl' := [some (.num .u32 crcTab)]) rfl (by decide) rfl ⟨rfl, rfl, rfl, rfl, rfl, trivial⟩ (by cases t <;> rfl) ⟨⟨rfl, rfl⟩, trivial⟩ ?_
    exact ih ⟨(i + 1, crc1 y c), by simp only; omega, crc1_lt hy hc, by simp only; rw [← crcL_step (by omega) hg, he]⟩ (by simp only; omega)
  · obtain rfl : i = xs.length := by omega
    rw [List.drop_length] at he
    refine ExQ_ok [] 2000 plsOk kTab_ok ?_
    (try rw [exh]); simp (maxSteps := 4000000) only [kTab, h, Ex, stops, inK, stepF, frsF, frF, itemF, codeF, condF, opsF, opsW, opF, callO, drF, drO, drW, drC, stepS, wtS, gdst, gdl, sopF, pv, evq, orl, bltF, callF, calleeS, popF, lopF, bltP, callP, cls, lvA, rdl, quiet, p_move, p_assign, p_pick, p_nilCheck, p_binOp, p_unOp, p_convert, p_fieldAddr, p_indexAddr, p_index, p_slice, p_makeFunc, p_extract, p_field, p_build, p_len, p_cap, p_min, p_max, l_load, l_convert, l_slice, zerR, roomR, appRR, roomN, appNN, cpSrcN, clN, cpSrc, cpR, clR, e_clear, srcR, dstR, srcN, dstN, e_store, e_alloc, e_box, e_buildSlice, e_makeSlice, e_append, e_copy, e_convert, SY.get, SY.put, SY.ev, SY.mk, SY.nth, SY.lvl, SY.setl, SY.ini, wid, wids, dr, tk, flat, at1, pack, parts, rdC, rdCt, wrC, wrCt, ar, bits2, bopInt, bopStr, bopEq, isPtr, isSl, isBl, eqPs, eqLf, bop, pickAV, bnd, subO, cutOf, okMx, fillA, plFs, nz, minI, numsAt, aOf, hd1, hdL, immL, isArr, ctOf, rowsOf, numsAV, rep, elCt, wrRow, killO, srcN, dstN, dstR, srcR, chR, enterS, leaveS, retS, endS, exitS, gotoS, finishS, killL, isDefs, setPs, roundS, resS, resAll, tup1, conf0, AV.scal, plk, spz, Ct.cell, exq_zero, exq_go, exq_d, exq_n, lvCt, lvE, exq_t, exq_f, exq_t0, exq_f0, ↓bsplit_true, ↓bsplit_false, ↓reduceIte, Nat.reduceLT, Nat.reduceLeDiff, List.toList_toArray, Nat.reduceEqDiff, Nat.reduceAdd, Nat.reduceSub, Nat.reduceMul, Nat.reduceBEq, Nat.reduceBNe, Bool.and_true, Bool.true_and, Bool.not_false, Bool.not_true, List.contains_nil, List.contains_cons, Bool.or_false, Bool.false_or, Option.isSome_some, Option.isSome_none, Option.isNone_none, Option.isNone_some, reduceCtorEq, true_and, and_true, Option.some.injEq, Bool.false_eq_true, List.map_cons, List.map_nil, List.all_cons, List.all_nil, Bool.and_self, List.drop_succ_cons, List.drop_zero, List.length_cons, List.length_nil, List.cons_append, List.nil_append, Option.map_some, Option.map_none, List.append_nil, Nat.zero_add, Nat.add_zero, Nat.sub_zero, Nat.zero_mul, Nat.mul_one, Int.toNat_natCast, Int.toNat_zero, Int.toNat_one, Int.add_zero, Int.sub_zero, Int.reduceEq, Int.reduceLT, Int.reduceLE, Int.reduceAdd, Int.reduceSub, Int.reduceMul, Int.reduceToNat, Int.cast_ofNat_Int, decide_true, decide_false, Option.getD_some, Option.getD_none, ktB, ktX, ktOf, conK, extK, ovlK, rwz, alive, alive0, mks, noMk, lndL, lnd, lvB, lvL, lvR, lvT, tB_tt, tB_ft, tB_ff, okBls, shB, ren, renL, renR, renCt, ne_eq, not_false_eq_true, not_true_eq_false, and_false, false_and, and_self, ti0, ti1, ti2, ti3, ti4, ti5, ti6, ti7, ti8, ti9, ti10, ti11, ti12, ti13, ti14, ti15, ti16, ti17, ti18, ti19, ti20, ti21, ti22, ti23, ti24, ti25, ti26, ti27, ti28, ti29, ti30, ti31, ti32, ti33, ti34, ti35, ti36, ti37, ti38, ti39, ti40, ti41, ti42, ti43, ti44, ti45, ti46, ti47, ti48, ti49, ti50, ti51, ti52, ti53, ti54, ti55, ti56, ti57, ti58, ti59, ti60, ti61, ti62, ti63, ti64, ti65, ti66, ti67, ti68, ti69, ti70, ti71, ti72, ti73, ti74, ti75, ti76, ti77, ti78, ti79, ti80, ti81, ti82, ti83, ti84, ti85, ti86, ti87, ti88, ti89, ti90, ti91, ti92, ti93, ti94, ti95, ti96, ti97, ti98, ti99, ti100, ti101, ti102, ti103, ti104, regAt, fi51, body51, Try.f51, fi44, body44, Try.f44, ↓xs44, ↓xs51, r44_1, r44_3, r51_1, r51_3, r51_5, r51_9, r51_13, r51_21, r51_22, r51_19, r51_23, plA8, pl8, plA10, pl10, plA11, pl11, plA17, pl17, plA22, pl22, plA25, pl25, plA31, pl31, plA37, pl37, plA45, pl45, plA53, pl53, plA55, pl55]
    repeat (refine And.intro (a := (_ = true)) (by first | (simp; done) | (simp; omega)) ?_)
    rw [u32_not hy]
    have e : crcM x xs = y ^^^ 4294967295 := by unfold crcM; rw [← he]; rfl
    rw [e]
    exact Res.val _ _
def sMore : List AV → Option (Bool × AV × Bls)
  | [.v (.int .u32 x), .imn _ .u8 xs _] => some (decide (0 ≤ x) && decide (x < 4294967296), .v (.int .u32 ((crcM x.toNat xs : Nat) : Int)), [])
  | _ => none
theorem more_ok : SpecOk Try.prog (plOf pls) 51 sMore := by
  refine ⟨_, fi51, fun args r bl1 h => ?_⟩
  unfold sMore at h
  split at h
  · rename_i x t xs c
    simp only [Option.some.injEq, Prod.mk.injEq, Bool.and_eq_true, decide_eq_true_eq] at h
    obtain ⟨⟨h1, h2⟩, rfl, rfl⟩ := h
    obtain ⟨n, rfl⟩ := Int.eq_ofNat_of_zero_le h1
    refine ⟨by simp, fun C hC _ => ?_⟩
    refine Rch.len 1 (t := t) (kk := .u8) (xs := xs) (c := c) rfl rfl fun hl hx => ?_
    refine Rch.fit1 hC [] (tm' := ini 0 [.v (.int .u32 (n : Int)), .imn t .u8 xs c]) (bl' := []) rfl (by decide) rfl ⟨rfl, rfl, trivial⟩ (by cases t <;> rfl) trivial ?_
    exact more_run C hC t xs hx c n (by omega) hl
  · cases h
def kMore : KT := ktOf [(51, sMore)]
theorem kMore_ok : KOk Try.prog (plOf pls) kMore := ktOf_ok plsOk fun x hx => by
  simp only [List.mem_singleton] at hx
  subst hx
  exact more_ok
def sSum : List AV → Option (Bool × AV × Bls)
  | [.imn _ .u8 xs _] => some (true, .v (.int .u32 ((crcM 0 xs : Nat) : Int)), [])
  | _ => none
theorem zn : Int.toNat 0 = 0 := rfl
set_option maxRecDepth 100000 in
set_option maxHeartbeats 4000000 in
theorem sum_run (C : Ctx) (t : Bool) (xs : List Int) (c0 : Option Nat) : Rch Try.prog (plOf pls) C (conf0 44 ⟨5, [.tmp 2], code44⟩ [.imn t .u8 xs c0] []) (Res (.v (.int .u32 ((crcM 0 xs : Nat) : Int))) []) := by
  refine ExQ_ok [] 2000 plsOk kMore_ok ?_
  simp only [conf0]
  (try rw [exh]); simp (maxSteps := 4000000) only [kMore, sMore, zn, Ex, stops, inK, stepF, frsF, frF, itemF, codeF, condF, opsF, opsW, opF, callO, drF, drO, drW, drC, stepS, wtS, gdst, gdl, sopF, pv, evq, orl, bltF, callF, calleeS, popF, lopF, bltP, callP, cls, lvA, rdl, quiet, p_move, p_assign, p_pick, p_nilCheck, p_binOp, p_unOp, p_convert, p_fieldAddr, p_indexAddr, p_index, p_slice, p_makeFunc, p_extract, p_field, p_build, p_len, p_cap, p_min, p_max, l_load, l_convert, l_slice, zerR, roomR, appRR, roomN, appNN, cpSrcN, clN, cpSrc, cpR, clR, e_clear, srcR, dstR, srcN, dstN, e_store, e_alloc, e_box, e_buildSlice, e_makeSlice, e_append, e_copy, e_convert, SY.get, SY.put, SY.ev, SY.mk, SY.nth, SY.lvl, SY.setl, SY.ini, wid, wids, dr, tk, flat, at1, pack, parts, rdC, rdCt, wrC, wrCt, ar, bits2, bopInt, bopStr, bopEq, isPtr, isSl, isBl, eqPs, eqLf, bop, pickAV, bnd, subO, cutOf, okMx, fillA, plFs, nz, minI, numsAt, aOf, hd1, hdL, immL, isArr, ctOf, rowsOf, numsAV, rep, elCt, wrRow, killO, srcN, dstN, dstR, srcR, chR, enterS, leaveS, retS, endS, exitS, gotoS, finishS, killL, isDefs, setPs, roundS, resS, resAll, tup1, conf0, AV.scal, plk, spz, Ct.cell, exq_zero, exq_go, exq_d, exq_n, lvCt, lvE, exq_t, exq_f, exq_t0, exq_f0, ↓bsplit_true, ↓bsplit_false, ↓reduceIte, Nat.reduceLT, Nat.reduceLeDiff, List.toList_toArray, Nat.reduceEqDiff, Nat.reduceAdd, Nat.reduceSub, Nat.reduceMul, Nat.reduceBEq, Nat.reduceBNe, Bool.and_true, Bool.true_and, Bool.not_false, Bool.not_true, List.contains_nil, List.contains_cons, Bool.or_false, Bool.false_or, Option.isSome_some, Option.isSome_none, Option.isNone_none, Option.isNone_some, reduceCtorEq, true_and, and_true, Option.some.injEq, Bool.false_eq_true, List.map_cons, List.map_nil, List.all_cons, List.all_nil, Bool.and_self, List.drop_succ_cons, List.drop_zero, List.length_cons, List.length_nil, List.cons_append, List.nil_append, Option.map_some, Option.map_none, List.append_nil, Nat.zero_add, Nat.add_zero, Nat.sub_zero, Nat.zero_mul, Nat.mul_one, Int.toNat_natCast, Int.toNat_zero, Int.toNat_one, Int.add_zero, Int.sub_zero, Int.reduceEq, Int.reduceLT, Int.reduceLE, Int.reduceAdd, Int.reduceSub, Int.reduceMul, Int.reduceToNat, Int.cast_ofNat_Int, decide_true, decide_false, Option.getD_some, Option.getD_none, ktB, ktX, ktOf, conK, extK, ovlK, rwz, alive, alive0, mks, noMk, lndL, lnd, lvB, lvL, lvR, lvT, tB_tt, tB_ft, tB_ff, okBls, shB, ren, renL, renR, renCt, ne_eq, not_false_eq_true, not_true_eq_false, and_false, false_and, and_self, ti0, ti1, ti2, ti3, ti4, ti5, ti6, ti7, ti8, ti9, ti10, ti11, ti12, ti13, ti14, ti15, ti16, ti17, ti18, ti19, ti20, ti21, ti22, ti23, ti24, ti25, ti26, ti27, ti28, ti29, ti30, ti31, ti32, ti33, ti34, ti35, ti36, ti37, ti38, ti39, ti40, ti41, ti42, ti43, ti44, ti45, ti46, ti47, ti48, ti49, ti50, ti51, ti52, ti53, ti54, ti55, ti56, ti57, ti58, ti59, ti60, ti61, ti62, ti63, ti64, ti65, ti66, ti67, ti68, ti69, ti70, ti71, ti72, ti73, ti74, ti75, ti76, ti77, ti78, ti79, ti80, ti81, ti82, ti83, ti84, ti85, ti86, ti87, ti88, ti89, ti90, ti91, ti92, ti93, ti94, ti95, ti96, ti97, ti98, ti99, ti100, ti101, ti102, ti103, ti104, regAt, fi51, body51, Try.f51, fi44, body44, Try.f44, ↓xs44, ↓xs51, r44_1, r44_3, r51_1, r51_3, r51_5, r51_9, r51_13, r51_21, r51_22, r51_19, r51_23, plA8, pl8, plA10, pl10, plA11, pl11, plA17, pl17, plA22, pl22, plA25, pl25, plA31, pl31, plA37, pl37, plA45, pl45, plA53, pl53, plA55, pl55]
  repeat (refine And.intro (a := (_ = true)) (by first | (simp; done) | (simp; omega)) ?_)
  exact Res.val _ _
theorem sum_ok : SpecOk Try.prog (plOf pls) 44 sSum := by
  refine ⟨_, fi44, fun args r bl1 h => ?_⟩
  unfold sSum at h
  split at h
  · simp only [Option.some.injEq, Prod.mk.injEq, true_and] at h
    obtain ⟨rfl, rfl⟩ := h
    exact ⟨by simp, fun C _ _ => sum_run C _ _ _⟩
  · cases h
end Go.Proofs.Ytlhjbjpcnncndaa
