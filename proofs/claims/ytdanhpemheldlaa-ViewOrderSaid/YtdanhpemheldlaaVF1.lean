/- ViewForward, in plain lists; the word of fine. -/
import Derived.Test.YtdanhpemheldlaaVM6
import Derived.Test.YtdanhpemheldlaaMB2
set_option linter.unusedSimpArgs false
set_option linter.unusedVariables false
-- FUNCTIONS 14
namespace Go.Proofs.Ytdanhpemheldlaa
open Go Go.SY
theorem vOk_weak {rs : List (List AV)} {a b : Int} (h : vOk rs a = true) (hab : b ≤ a) : vOk rs b = true := by
  cases rs with
  | nil => rfl
  | cons r q =>
    simp only [vOk, Bool.and_eq_true, decide_eq_true_eq] at h ⊢
    exact ⟨h.1, by omega, h.2.2⟩
theorem vOk_filter {rs : List (List AV)} {p : List AV → Bool} : ∀ {last : Int}, vOk rs last = true → vOk (rs.filter p) last = true := by
  induction rs with
  | nil => intro last h; exact h
  | cons r q ih =>
    intro last h
    simp only [vOk, Bool.and_eq_true, decide_eq_true_eq] at h
    by_cases hp : p r = true
    · rw [List.filter_cons_of_pos hp]
      simp only [vOk, decide_eq_true h.1, decide_eq_true h.2.1, ih h.2.2, Bool.and_self]
    · rw [List.filter_cons_of_neg hp]
      exact vOk_weak (ih h.2.2) (by omega)
theorem fnd_at {rs : List (List AV)} (hv : vOk rs 0 = true) {i : Nat} (hi : i < rs.length) {k : Int} (hk : idR (rowA rs i) = k) : fndR rs k = true ∧ posR rs k = i := by
  obtain ⟨h1, h2⟩ := vOk_from hv
  have hs := posR_iff (k := k) h2
  have e1 : ¬ i < posR rs k := fun h => by have := (hs i hi).2 h; omega
  have e2 : i ≤ posR rs k := by
    rcases Nat.lt_or_ge (posR rs k) i with h | h
    · exfalso
      have h3 := h2 (posR rs k) i h hi
      have h4 := (hs (posR rs k) (by omega)).1 (by omega)
      omega
    · exact h
  have e3 : posR rs k = i := by omega
  exact ⟨decide_eq_true ⟨by omega, by rw [e3]; exact hk⟩, e3⟩
theorem row_eq {r q : List AV} (hr : isM r = true) (hq : isM q = true) (h : tr3 r = tr3 q) : r = q := by
  rw [isM_eq hr, isM_eq hq]
  simp only [tr3, Prod.mk.injEq] at h
  rw [h.1, h.2.1, h.2.2]
/-- The one is about the same node, and not below the other. -/
def geR (x y : List AV) : Prop := idR x = idR y ∧ (icR y < icR x ∨ icR y = icR x ∧ stR y ≤ stR x)
theorem betR_left {r m : List AV} : geR (betR r m) r := by
  refine ⟨rfl, ?_⟩
  show icR r < (if betB (stR r) (icR r) (stR m) (icR m) = true then icR m else icR r) ∨ icR r = (if betB (stR r) (icR r) (stR m) (icR m) = true then icR m else icR r) ∧ stR r ≤ (if betB (stR r) (icR r) (stR m) (icR m) = true then stR m else stR r)
  by_cases h : betB (stR r) (icR r) (stR m) (icR m) = true
  · rw [if_pos h, if_pos h]
    have := of_decide_eq_true h
    omega
  · rw [if_neg h, if_neg h]
    omega
theorem betR_right {r m : List AV} (hid : idR r = idR m) : geR (betR r m) m := by
  refine ⟨hid, ?_⟩
  show icR m < (if betB (stR r) (icR r) (stR m) (icR m) = true then icR m else icR r) ∨ icR m = (if betB (stR r) (icR r) (stR m) (icR m) = true then icR m else icR r) ∧ stR m ≤ (if betB (stR r) (icR r) (stR m) (icR m) = true then stR m else stR r)
  by_cases h : betB (stR r) (icR r) (stR m) (icR m) = true
  · rw [if_pos h, if_pos h]
    omega
  · rw [if_neg h, if_neg h]
    have : ¬ (icR r < icR m ∨ icR r = icR m ∧ stR r < stR m) := fun h' => h (decide_eq_true h')
    omega
theorem geR_trans {x y z : List AV} (h1 : geR x y) (h2 : geR y z) : geR x z := by
  obtain ⟨a, b⟩ := h1
  obtain ⟨c, d⟩ := h2
  exact ⟨a.trans c, by omega⟩
def Cov (ns : List (List AV)) (r : List AV) : Prop := ∃ i, i < ns.length ∧ geR (rowA ns i) r
theorem cov_keep {os : List (List AV)} {m r : List AV} (h : Cov os r) : Cov (mIns os m) r := by
  obtain ⟨i, hi, hg⟩ := h
  unfold mIns
  split
  · rename_i hf
    obtain ⟨hp, hid⟩ := of_decide_eq_true hf
    refine ⟨i, by rw [List.length_set]; exact hi, ?_⟩
    rw [setR_at hp]
    split
    · rename_i e
      subst e
      exact geR_trans betR_left hg
    · exact hg
  · have hp := posR_le (rs := os) (k := idR m)
    rcases Nat.lt_or_ge i (posR os (idR m)) with h | h
    · exact ⟨i, by rw [insR_len hp]; omega, by rw [insR_lo hp h]; exact hg⟩
    · exact ⟨i + 1, by rw [insR_len hp]; omega, by rw [insR_hi hp (by omega)]; exact hg⟩
theorem cov_new {os : List (List AV)} {m : List AV} : Cov (mIns os m) m := by
  unfold mIns
  split
  · rename_i hf
    obtain ⟨hp, hid⟩ := of_decide_eq_true hf
    refine ⟨posR os (idR m), by rw [List.length_set]; exact hp, ?_⟩
    rw [setR_at hp, if_pos rfl]
    exact betR_right hid
  · have hp := posR_le (rs := os) (k := idR m)
    exact ⟨posR os (idR m), by rw [insR_len hp]; omega, by rw [insR_eq hp]; exact ⟨rfl, by omega⟩⟩
theorem cov_mrg : ∀ {ws vs : List (List AV)}, (∀ r, Cov vs r → Cov (mrgR vs ws) r) ∧ ∀ r ∈ ws, Cov (mrgR vs ws) r := by
  intro ws
  induction ws with
  | nil => exact fun {vs} => ⟨fun r h => h, fun r hr => by cases hr⟩
  | cons w q ih =>
    intro vs
    have ih := ih (vs := mIns vs w)
    refine ⟨fun r h => ih.1 r (cov_keep h), fun r hr => ?_⟩
    rcases List.mem_cons.1 hr with rfl | hr
    · exact ih.1 _ cov_new
    · exact ih.2 r hr
theorem cov_self {vs : List (List AV)} {r : List AV} (h : r ∈ vs) : Cov vs r := by
  obtain ⟨i, hi, rfl⟩ := List.mem_iff_getElem.1 h
  exact ⟨i, hi, by rw [rowA_get hi]; exact ⟨rfl, by omega⟩⟩
theorem mIns_mem {os : List (List AV)} {m x : List AV} (ho : os.all isM = true) (hm : isM m = true) (h : x ∈ mIns os m) : x ∈ os ∨ x = m := by
  unfold mIns at h
  split at h
  · rename_i hf
    obtain ⟨hp, hid⟩ := of_decide_eq_true hf
    rcases List.mem_or_eq_of_mem_set h with h1 | rfl
    · exact .inl h1
    · have hr := all_row ho hp
      have hrm : rowA os (posR os (idR m)) ∈ os := by rw [rowA_get hp]; exact List.getElem_mem hp
      by_cases hb : betB (stR (rowA os (posR os (idR m)))) (icR (rowA os (posR os (idR m)))) (stR m) (icR m) = true
      · right
        rw [betR, if_pos hb, if_pos hb, hid]
        exact (isM_eq hm).symm
      · left
        rw [betR, if_neg hb, if_neg hb, ← isM_eq hr]
        exact hrm
  · unfold insR at h
    rcases List.mem_append.1 h with h1 | h1
    · exact .inl (List.mem_of_mem_take h1)
    · rcases List.mem_cons.1 h1 with rfl | h2
      · exact .inr rfl
      · exact .inl (List.mem_of_mem_drop h2)
theorem mrg_mem : ∀ {ws vs : List (List AV)}, vOk vs 0 = true → vs.all isM = true → (∀ r ∈ ws, MemR r ∧ isM r = true) → ∀ {x}, x ∈ mrgR vs ws → x ∈ vs ∨ x ∈ ws := by
  intro ws
  induction ws with
  | nil => intro vs _ _ _ x h; exact .inl h
  | cons w q ih =>
    intro vs hv ha hw x hx
    have h0 := hw w (List.mem_cons_self ..)
    have hok := mIns_ok hv ha h0.1 h0.2
    rcases ih hok.1 hok.2 (fun r hr => hw r (List.mem_cons_of_mem _ hr)) hx with h | h
    · rcases mIns_mem ha h0.2 h with h | rfl
      · exact .inl h
      · exact .inr (List.mem_cons_self ..)
    · exact .inr (List.mem_cons_of_mem _ h)
/-- What the law asks of a row of the view behind the words. -/
theorem fwd_row {vs ws : List (List AV)} (hv : vOk vs 0 = true) (ha : vs.all isM = true) (hw : ∀ r ∈ ws, MemR r ∧ isM r = true) {i : Nat} (hi : i < (mrgR vs ws).length) :
    (keepB vs (rowA (mrgR vs ws) i) = true → fndR (frsh vs (mrgR vs ws)) (idR (rowA (mrgR vs ws) i)) = true ∧ rowA (frsh vs (mrgR vs ws)) (posR (frsh vs (mrgR vs ws)) (idR (rowA (mrgR vs ws) i))) = rowA (mrgR vs ws) i ∧ ∃ k, k < ws.length ∧ tr3 (rowA ws k) = tr3 (rowA (mrgR vs ws) i)) ∧
    (keepB vs (rowA (mrgR vs ws) i) = false → fndR (frsh vs (mrgR vs ws)) (idR (rowA (mrgR vs ws) i)) = false) := by
  obtain ⟨ho1, ho2⟩ := mrgR_ok hv ha ws hw
  have hmem : rowA (mrgR vs ws) i ∈ mrgR vs ws := by rw [rowA_get hi]; exact List.getElem_mem hi
  have hfo : vOk (frsh vs (mrgR vs ws)) 0 = true := vOk_filter ho1
  constructor
  · intro hk
    have hin : rowA (mrgR vs ws) i ∈ frsh vs (mrgR vs ws) := List.mem_filter.2 ⟨hmem, hk⟩
    obtain ⟨j, hj, ej⟩ := List.mem_iff_getElem.1 hin
    have ej' : rowA (frsh vs (mrgR vs ws)) j = rowA (mrgR vs ws) i := by rw [rowA_get hj]; exact ej
    obtain ⟨f1, f2⟩ := fnd_at hfo hj (congrArg idR ej')
    refine ⟨f1, by rw [f2]; exact ej', ?_⟩
    rcases mrg_mem hv ha hw hmem with h | h
    · exfalso
      obtain ⟨j, hj, ej⟩ := List.mem_iff_getElem.1 h
      have ej' : rowA vs j = rowA (mrgR vs ws) i := by rw [rowA_get hj]; exact ej
      obtain ⟨f1, f2⟩ := fnd_at hv hj (congrArg idR ej')
      rw [keepB, f1, f2, decide_eq_true (congrArg tr3 ej')] at hk
      cases hk
    · obtain ⟨k, hk, ek⟩ := List.mem_iff_getElem.1 h
      exact ⟨k, hk, by rw [rowA_get hk, ek]⟩
  · intro hk
    cases hf : fndR (frsh vs (mrgR vs ws)) (idR (rowA (mrgR vs ws) i)) with
    | false => rfl
    | true =>
      exfalso
      obtain ⟨hp, hid⟩ := of_decide_eq_true hf
      have hxm : rowA (frsh vs (mrgR vs ws)) (posR (frsh vs (mrgR vs ws)) (idR (rowA (mrgR vs ws) i))) ∈ frsh vs (mrgR vs ws) := by rw [rowA_get hp]; exact List.getElem_mem hp
      obtain ⟨h1, h2⟩ := List.mem_filter.1 hxm
      obtain ⟨j, hj, ej⟩ := List.mem_iff_getElem.1 h1
      rw [← rowA_get hj] at ej
      have a1 := (fnd_at ho1 hj (k := idR (rowA (mrgR vs ws) i)) (by rw [ej]; exact hid)).2
      have a2 := (fnd_at ho1 hi rfl).2
      have : j = i := by omega
      subst this
      rw [← ej, hk] at h2
      cases h2
def sFine : List AV → Option (Bool × AV × Bls)
  | [.imr _ 3 rs _] => some (rs.all isM && decide (rs.length < 4611686018427387904), .v (.bool (rs.all fun r => decide (MemR r))), [])
  | _ => none
def tI3 (t : Bool) (rs : List (List AV)) (c : Option Nat) (i : Nat) : TM := [(3, .v (.int .i64 i)), (0, .imr t 3 rs c)]
theorem tI3_lv {rs : List (List AV)} (hf : FlatR rs) (t : Bool) (c : Option Nat) (i N : Nat) : lvT N true (tI3 t rs c i) = true := by
  cases t <;> simp only [tI3, lvT, lvB, tB, hf.lv, Bool.and_true, Bool.true_and]
set_option maxRecDepth 100000 in
set_option maxHeartbeats 4000000 in
theorem fine_run (C : Ctx) (hC : C.β.b = []) (t : Bool) (rs : List (List AV)) (c : Option Nat) (hm : rs.all isM = true) (hx : rs.length < 4611686018427387904) : Rch Try.prog (plOf pls) C (conf0 14 ⟨16, [.tmp 2], code14⟩ [.imr t 3 rs c] []) (Res (.v (.bool (rs.all fun r => decide (MemR r)))) []) := by
  have hf := isM_flat hm
  refine ExQ_ok [] 2000 plsOk kM0_ok ?_
  simp only [conf0]
  (try rw [exh]); simp (maxSteps := 4000000) only [kM0, sCmp, sChk, Ex, stops, inK, stepF, frsF, frF, itemF, codeF, condF, opsF, opsW, opF, callO, drF, drO, drW, drC, stepS, wtS, gdst, gdl, sopF, pv, evq, orl, bltF, callF, calleeS, popF, lopF, bltP, callP, cls, lvA, rdl, quiet, p_move, p_assign, p_pick, p_nilCheck, p_binOp, p_unOp, p_convert, p_fieldAddr, p_indexAddr, p_index, p_slice, p_makeFunc, p_extract, p_field, p_build, p_len, p_cap, p_min, p_max, l_load, l_convert, l_slice, zerR, roomR, appRR, roomN, appNN, cpSrcN, clN, cpSrc, cpR, clR, e_clear, srcR, dstR, srcN, dstN, e_store, e_alloc, e_box, e_buildSlice, e_makeSlice, e_append, e_copy, e_convert, SY.get, SY.put, SY.ev, SY.mk, SY.nth, SY.lvl, SY.setl, SY.ini, wid, wids, dr, tk, flat, at1, pack, parts, rdC, rdCt, wrC, wrCt, ar, bits2, bopInt, bopStr, bopEq, isPtr, isSl, isBl, eqPs, eqLf, bop, pickAV, bnd, subO, cutOf, okMx, fillA, plFs, nz, minI, numsAt, aOf, hd1, hdL, immL, isArr, ctOf, rowsOf, numsAV, rep, elCt, wrRow, killO, srcN, dstN, dstR, srcR, chR, enterS, leaveS, retS, endS, exitS, gotoS, finishS, killL, isDefs, setPs, roundS, resS, resAll, tup1, conf0, AV.scal, plk, spz, Ct.cell, exq_zero, exq_go, exq_d, exq_n, lvCt, lvE, exq_t, exq_f, exq_t0, exq_f0, ↓bsplit_true, ↓bsplit_false, ↓reduceIte, Nat.reduceLT, Nat.reduceLeDiff, List.toList_toArray, Nat.reduceEqDiff, Nat.reduceAdd, Nat.reduceSub, Nat.reduceMul, Nat.reduceBEq, Nat.reduceBNe, Bool.and_true, Bool.true_and, Bool.not_false, Bool.not_true, List.contains_nil, List.contains_cons, Bool.or_false, Bool.false_or, Option.isSome_some, Option.isSome_none, Option.isNone_none, Option.isNone_some, reduceCtorEq, true_and, and_true, Option.some.injEq, Bool.false_eq_true, List.map_cons, List.map_nil, List.all_cons, List.all_nil, Bool.and_self, List.drop_succ_cons, List.drop_zero, List.length_cons, List.length_nil, List.cons_append, List.nil_append, Option.map_some, Option.map_none, List.append_nil, Nat.zero_add, Nat.add_zero, Nat.sub_zero, Nat.zero_mul, Nat.mul_one, Int.toNat_natCast, Int.toNat_zero, Int.toNat_one, Int.add_zero, Int.sub_zero, Int.reduceEq, Int.reduceLT, Int.reduceLE, Int.reduceAdd, Int.reduceSub, Int.reduceMul, Int.reduceToNat, Int.cast_ofNat_Int, decide_true, decide_false, Option.getD_some, Option.getD_none, ktB, ktX, ktOf, conK, extK, ovlK, rwz, alive, lndL, lnd, lvB, lvL, lvR, lvT, tB_tt, tB_ft, tB_ff, okBls, shB, ren, renL, renR, renCt, ne_eq, not_false_eq_true, not_true_eq_false, and_false, false_and, and_self, ti0, ti1, ti2, ti3, ti4, ti5, ti6, ti7, ti8, ti9, ti10, ti11, ti12, ti13, ti14, ti15, ti16, ti17, ti18, ti19, ti20, ti21, ti22, ti23, ti24, ti25, ti26, ti27, ti28, ti29, ti30, ti31, ti32, ti33, ti34, ti35, ti36, ti37, ti38, ti39, ti40, ti41, ti42, ti43, ti44, ti45, ti46, ti47, ti48, ti49, ti50, ti51, ti52, ti53, ti54, ti55, ti56, ti57, ti58, ti59, ti60, ti61, ti62, ti63, ti64, ti65, ti66, ti67, ti68, ti69, ti70, ti71, ti72, ti73, ti74, ti75, ti76, ti77, ti78, ti79, ti80, ti81, ti82, ti83, ti84, ti85, ti86, ti87, ti88, regAt, fi14, body14, Try.f14, ↓exq_cd cd_code14, ↓exq_cd cd_c14_1, ↓exq_cd cd_c14_2, ↓exq_cd cd_c14_3, ↓exq_cd cd_c14_5, ↓exq_cd cd_c14_6, ↓exq_cd cd_c14_7, ↓exq_cd cd_c14_8, ↓exq_cd cd_c14_9, ↓exq_cd cd_c14_11, ↓exq_cd cd_c14_12, ↓exq_cd cd_c14_10, ↓exq_cd cd_c14_14, ↓exq_cd cd_c14_16, ↓exq_cd cd_c14_17, ↓exq_cd cd_c14_18, ↓exq_cd cd_c14_19, ↓exq_cd cd_c14_21, ↓exq_cd cd_c14_15, ↓exq_cd cd_c14_4, ↓exq_cd cd_c14_22, r14_1, r14_5, r14_11, r14_17, r14_21, r14_15, r14_22, plA4, pl4, plA8, pl8, plA9, pl9, plA11, pl11, plA12, pl12, plA18, pl18, plA26, pl26, plA28, pl28, plA36, pl36, plA41, pl41, plA44, pl44, plA48, pl48, plA56, pl56, plA63, pl63]
  repeat (refine And.intro (a := (_ = true)) (by first | (simp; done) | (simp; omega)) ?_)
  refine Rch.loop plsOk ?_
  refine Rch.fit1 hC [] (bl' := []) (tm' := tI3 t rs c 0) rfl List.nodup_nil rfl ⟨rfl, congrArg (fun x => AV.imr t 3 x c) (hf.ren _).symm, trivial⟩ (tI3_lv hf ..) trivial ?_
  refine loop_ind plsOk (α := {i : Nat // i ≤ rs.length ∧ ∀ j, j < i → MemR (rowA rs j)}) (fun a => rs.length - a.1) (fun a => tI3 t rs c a.1) (fun _ => []) (fun a => Res (.v (.bool (rs.all fun r => decide (MemR r)))) []) ?_ ⟨0, Nat.zero_le _, fun j hj => absurd hj (Nat.not_lt_zero _)⟩
  rintro ⟨i, hi, hj⟩ ih
  simp only [tI3] at hi hj ih ⊢
  by_cases h : (i : Int) < rs.length
  · have e := isM_row hm (i := i) (by omega)
    by_cases h1 : MemR (rowA rs i)
    · have h1' := chk_pos h1
      refine ExQ_ok [] 2000 plsOk kM0_ok ?_
      (try rw [exh]); simp (maxSteps := 4000000) only [kM0, sCmp, sChk, h, e, h1', Ex, stops, inK, stepF, frsF, frF, itemF, codeF, condF, opsF, opsW, opF, callO, drF, drO, drW, drC, stepS, wtS, gdst, gdl, sopF, pv, evq, orl, bltF, callF, calleeS, popF, lopF, bltP, callP, cls, lvA, rdl, quiet, p_move, p_assign, p_pick, p_nilCheck, p_binOp, p_unOp, p_convert, p_fieldAddr, p_indexAddr, p_index, p_slice, p_makeFunc, p_extract, p_field, p_build, p_len, p_cap, p_min, p_max, l_load, l_convert, l_slice, zerR, roomR, appRR, roomN, appNN, cpSrcN, clN, cpSrc, cpR, clR, e_clear, srcR, dstR, srcN, dstN, e_store, e_alloc, e_box, e_buildSlice, e_makeSlice, e_append, e_copy, e_convert, SY.get, SY.put, SY.ev, SY.mk, SY.nth, SY.lvl, SY.setl, SY.ini, wid, wids, dr, tk, flat, at1, pack, parts, rdC, rdCt, wrC, wrCt, ar, bits2, bopInt, bopStr, bopEq, isPtr, isSl, isBl, eqPs, eqLf, bop, pickAV, bnd, subO, cutOf, okMx, fillA, plFs, nz, minI, numsAt, aOf, hd1, hdL, immL, isArr, ctOf, rowsOf, numsAV, rep, elCt, wrRow, killO, srcN, dstN, dstR, srcR, chR, enterS, leaveS, retS, endS, exitS, gotoS, finishS, killL, isDefs, setPs, roundS, resS, resAll, tup1, conf0, AV.scal, plk, spz, Ct.cell, exq_zero, exq_go, exq_d, exq_n, lvCt, lvE, exq_t, exq_f, exq_t0, exq_f0, ↓bsplit_true, ↓bsplit_false, ↓reduceIte, Nat.reduceLT, Nat.reduceLeDiff, List.toList_toArray, Nat.reduceEqDiff, Nat.reduceAdd, Nat.reduceSub, Nat.reduceMul, Nat.reduceBEq, Nat.reduceBNe, Bool.and_true, Bool.true_and, Bool.not_false, Bool.not_true, List.contains_nil, List.contains_cons, Bool.or_false, Bool.false_or, Option.isSome_some, Option.isSome_none, Option.isNone_none, Option.isNone_some, reduceCtorEq, true_and, and_true, Option.some.injEq, Bool.false_eq_true, List.map_cons, List.map_nil, List.all_cons, List.all_nil, Bool.and_self, List.drop_succ_cons, List.drop_zero, List.length_cons, List.length_nil, List.cons_append, List.nil_append, Option.map_some, Option.map_none, List.append_nil, Nat.zero_add, Nat.add_zero, Nat.sub_zero, Nat.zero_mul, Nat.mul_one, Int.toNat_natCast, Int.toNat_zero, Int.toNat_one, Int.add_zero, Int.sub_zero, Int.reduceEq, Int.reduceLT, Int.reduceLE, Int.reduceAdd, Int.reduceSub, Int.reduceMul, Int.reduceToNat, Int.cast_ofNat_Int, decide_true, decide_false, Option.getD_some, Option.getD_none, ktB, ktX, ktOf, conK, extK, ovlK, rwz, alive, lndL, lnd, lvB, lvL, lvR, lvT, tB_tt, tB_ft, tB_ff, okBls, shB, ren, renL, renR, renCt, ne_eq, not_false_eq_true, not_true_eq_false, and_false, false_and, and_self, ti0, ti1, ti2, ti3, ti4, ti5, ti6, ti7, ti8, ti9, ti10, ti11, ti12, ti13, ti14, ti15, ti16, ti17, ti18, ti19, ti20, ti21, ti22, ti23, ti24, ti25, ti26, ti27, ti28, ti29, ti30, ti31, ti32, ti33, ti34, ti35, ti36, ti37, ti38, ti39, ti40, ti41, ti42, ti43, ti44, ti45, ti46, ti47, ti48, ti49, ti50, ti51, ti52, ti53, ti54, ti55, ti56, ti57, ti58, ti59, ti60, ti61, ti62, ti63, ti64, ti65, ti66, ti67, ti68, ti69, ti70, ti71, ti72, ti73, ti74, ti75, ti76, ti77, ti78, ti79, ti80, ti81, ti82, ti83, ti84, ti85, ti86, ti87, ti88, regAt, fi14, body14, Try.f14, ↓exq_cd cd_code14, ↓exq_cd cd_c14_1, ↓exq_cd cd_c14_2, ↓exq_cd cd_c14_3, ↓exq_cd cd_c14_5, ↓exq_cd cd_c14_6, ↓exq_cd cd_c14_7, ↓exq_cd cd_c14_8, ↓exq_cd cd_c14_9, ↓exq_cd cd_c14_11, ↓exq_cd cd_c14_12, ↓exq_cd cd_c14_10, ↓exq_cd cd_c14_14, ↓exq_cd cd_c14_16, ↓exq_cd cd_c14_17, ↓exq_cd cd_c14_18, ↓exq_cd cd_c14_19, ↓exq_cd cd_c14_21, ↓exq_cd cd_c14_15, ↓exq_cd cd_c14_4, ↓exq_cd cd_c14_22, r14_1, r14_5, r14_11, r14_17, r14_21, r14_15, r14_22, plA4, pl4, plA8, pl8, plA9, pl9, plA11, pl11, plA12, pl12, plA18, pl18, plA26, pl26, plA28, pl28, plA36, pl36, plA41, pl41, plA44, pl44, plA48, pl48, plA56, pl56, plA63, pl63]
      repeat (refine And.intro (a := (_ = true)) (by first | (simp; done) | (simp; omega)) ?_)
      refine Rch.fit1 hC [] (bl' := []) (tm' := tI3 t rs c (i + 1)) rfl List.nodup_nil rfl ⟨rfl, congrArg (fun x => AV.imr t 3 x c) (hf.ren _).symm, trivial⟩ (tI3_lv hf ..) trivial ?_
      exact ih ⟨i + 1, by omega, fun j hj' => by
        rcases Nat.lt_or_ge j i with h4 | h4
        · exact hj j h4
        · rw [show j = i by omega]; exact h1⟩ (by simp only; omega)
    · have h1' := chk_neg h1
      have hres : (rs.all fun r => decide (MemR r)) = false := Bool.eq_false_iff.2 fun h2 => h1 (by
        have := List.all_eq_true.1 h2 (rowA rs i) (by rw [rowA_get (by omega)]; exact List.getElem_mem _)
        exact of_decide_eq_true this)
      refine ExQ_ok [] 2000 plsOk kM0_ok ?_
      (try rw [exh]); simp (maxSteps := 4000000) only [kM0, sCmp, sChk, h, e, h1', Ex, stops, inK, stepF, frsF, frF, itemF, codeF, condF, opsF, opsW, opF, callO, drF, drO, drW, drC, stepS, wtS, gdst, gdl, sopF, pv, evq, orl, bltF, callF, calleeS, popF, lopF, bltP, callP, cls, lvA, rdl, quiet, p_move, p_assign, p_pick, p_nilCheck, p_binOp, p_unOp, p_convert, p_fieldAddr, p_indexAddr, p_index, p_slice, p_makeFunc, p_extract, p_field, p_build, p_len, p_cap, p_min, p_max, l_load, l_convert, l_slice, zerR, roomR, appRR, roomN, appNN, cpSrcN, clN, cpSrc, cpR, clR, e_clear, srcR, dstR, srcN, dstN, e_store, e_alloc, e_box, e_buildSlice, e_makeSlice, e_append, e_copy, e_convert, SY.get, SY.put, SY.ev, SY.mk, SY.nth, SY.lvl, SY.setl, SY.ini, wid, wids, dr, tk, flat, at1, pack, parts, rdC, rdCt, wrC, wrCt, ar, bits2, bopInt, bopStr, bopEq, isPtr, isSl, isBl, eqPs, eqLf, bop, pickAV, bnd, subO, cutOf, okMx, fillA, plFs, nz, minI, numsAt, aOf, hd1, hdL, immL, isArr, ctOf, rowsOf, numsAV, rep, elCt, wrRow, killO, srcN, dstN, dstR, srcR, chR, enterS, leaveS, retS, endS, exitS, gotoS, finishS, killL, isDefs, setPs, roundS, resS, resAll, tup1, conf0, AV.scal, plk, spz, Ct.cell, exq_zero, exq_go, exq_d, exq_n, lvCt, lvE, exq_t, exq_f, exq_t0, exq_f0, ↓bsplit_true, ↓bsplit_false, ↓reduceIte, Nat.reduceLT, Nat.reduceLeDiff, List.toList_toArray, Nat.reduceEqDiff, Nat.reduceAdd, Nat.reduceSub, Nat.reduceMul, Nat.reduceBEq, Nat.reduceBNe, Bool.and_true, Bool.true_and, Bool.not_false, Bool.not_true, List.contains_nil, List.contains_cons, Bool.or_false, Bool.false_or, Option.isSome_some, Option.isSome_none, Option.isNone_none, Option.isNone_some, reduceCtorEq, true_and, and_true, Option.some.injEq, Bool.false_eq_true, List.map_cons, List.map_nil, List.all_cons, List.all_nil, Bool.and_self, List.drop_succ_cons, List.drop_zero, List.length_cons, List.length_nil, List.cons_append, List.nil_append, Option.map_some, Option.map_none, List.append_nil, Nat.zero_add, Nat.add_zero, Nat.sub_zero, Nat.zero_mul, Nat.mul_one, Int.toNat_natCast, Int.toNat_zero, Int.toNat_one, Int.add_zero, Int.sub_zero, Int.reduceEq, Int.reduceLT, Int.reduceLE, Int.reduceAdd, Int.reduceSub, Int.reduceMul, Int.reduceToNat, Int.cast_ofNat_Int, decide_true, decide_false, Option.getD_some, Option.getD_none, ktB, ktX, ktOf, conK, extK, ovlK, rwz, alive, lndL, lnd, lvB, lvL, lvR, lvT, tB_tt, tB_ft, tB_ff, okBls, shB, ren, renL, renR, renCt, ne_eq, not_false_eq_true, not_true_eq_false, and_false, false_and, and_self, ti0, ti1, ti2, ti3, ti4, ti5, ti6, ti7, ti8, ti9, ti10, ti11, ti12, ti13, ti14, ti15, ti16, ti17, ti18, ti19, ti20, ti21, ti22, ti23, ti24, ti25, ti26, ti27, ti28, ti29, ti30, ti31, ti32, ti33, ti34, ti35, ti36, ti37, ti38, ti39, ti40, ti41, ti42, ti43, ti44, ti45, ti46, ti47, ti48, ti49, ti50, ti51, ti52, ti53, ti54, ti55, ti56, ti57, ti58, ti59, ti60, ti61, ti62, ti63, ti64, ti65, ti66, ti67, ti68, ti69, ti70, ti71, ti72, ti73, ti74, ti75, ti76, ti77, ti78, ti79, ti80, ti81, ti82, ti83, ti84, ti85, ti86, ti87, ti88, regAt, fi14, body14, Try.f14, ↓exq_cd cd_code14, ↓exq_cd cd_c14_1, ↓exq_cd cd_c14_2, ↓exq_cd cd_c14_3, ↓exq_cd cd_c14_5, ↓exq_cd cd_c14_6, ↓exq_cd cd_c14_7, ↓exq_cd cd_c14_8, ↓exq_cd cd_c14_9, ↓exq_cd cd_c14_11, ↓exq_cd cd_c14_12, ↓exq_cd cd_c14_10, ↓exq_cd cd_c14_14, ↓exq_cd cd_c14_16, ↓exq_cd cd_c14_17, ↓exq_cd cd_c14_18, ↓exq_cd cd_c14_19, ↓exq_cd cd_c14_21, ↓exq_cd cd_c14_15, ↓exq_cd cd_c14_4, ↓exq_cd cd_c14_22, r14_1, r14_5, r14_11, r14_17, r14_21, r14_15, r14_22, plA4, pl4, plA8, pl8, plA9, pl9, plA11, pl11, plA12, pl12, plA18, pl18, plA26, pl26, plA28, pl28, plA36, pl36, plA41, pl41, plA44, pl44, plA48, pl48, plA56, pl56, plA63, pl63]
      repeat (refine And.intro (a := (_ = true)) (by first | (simp; done) | (simp; omega)) ?_)
      rw [hres]
      exact Res.val _ _
  · have hres : (rs.all fun r => decide (MemR r)) = true := List.all_eq_true.2 fun r hr => by
      obtain ⟨j, hj2, rfl⟩ := List.mem_iff_getElem.1 hr
      have := hj j (by omega)
      rw [rowA_get hj2] at this
      exact decide_eq_true this
    refine ExQ_ok [] 2000 plsOk kM0_ok ?_
    (try rw [exh]); simp (maxSteps := 4000000) only [kM0, sCmp, sChk, h, Ex, stops, inK, stepF, frsF, frF, itemF, codeF, condF, opsF, opsW, opF, callO, drF, drO, drW, drC, stepS, wtS, gdst, gdl, sopF, pv, evq, orl, bltF, callF, calleeS, popF, lopF, bltP, callP, cls, lvA, rdl, quiet, p_move, p_assign, p_pick, p_nilCheck, p_binOp, p_unOp, p_convert, p_fieldAddr, p_indexAddr, p_index, p_slice, p_makeFunc, p_extract, p_field, p_build, p_len, p_cap, p_min, p_max, l_load, l_convert, l_slice, zerR, roomR, appRR, roomN, appNN, cpSrcN, clN, cpSrc, cpR, clR, e_clear, srcR, dstR, srcN, dstN, e_store, e_alloc, e_box, e_buildSlice, e_makeSlice, e_append, e_copy, e_convert, SY.get, SY.put, SY.ev, SY.mk, SY.nth, SY.lvl, SY.setl, SY.ini, wid, wids, dr, tk, flat, at1, pack, parts, rdC, rdCt, wrC, wrCt, ar, bits2, bopInt, bopStr, bopEq, isPtr, isSl, isBl, eqPs, eqLf, bop, pickAV, bnd, subO, cutOf, okMx, fillA, plFs, nz, minI, numsAt, aOf, hd1, hdL, immL, isArr, ctOf, rowsOf, numsAV, rep, elCt, wrRow, killO, srcN, dstN, dstR, srcR, chR, enterS, leaveS, retS, endS, exitS, gotoS, finishS, killL, isDefs, setPs, roundS, resS, resAll, tup1, conf0, AV.scal, plk, spz, Ct.cell, exq_zero, exq_go, exq_d, exq_n, lvCt, lvE, exq_t, exq_f, exq_t0, exq_f0, ↓bsplit_true, ↓bsplit_false, ↓reduceIte, Nat.reduceLT, Nat.reduceLeDiff, List.toList_toArray, Nat.reduceEqDiff, Nat.reduceAdd, Nat.reduceSub, Nat.reduceMul, Nat.reduceBEq, Nat.reduceBNe, Bool.and_true, Bool.true_and, Bool.not_false, Bool.not_true, List.contains_nil, List.contains_cons, Bool.or_false, Bool.false_or, Option.isSome_some, Option.isSome_none, Option.isNone_none, Option.isNone_some, reduceCtorEq, true_and, and_true, Option.some.injEq, Bool.false_eq_true, List.map_cons, List.map_nil, List.all_cons, List.all_nil, Bool.and_self, List.drop_succ_cons, List.drop_zero, List.length_cons, List.length_nil, List.cons_append, List.nil_append, Option.map_some, Option.map_none, List.append_nil, Nat.zero_add, Nat.add_zero, Nat.sub_zero, Nat.zero_mul, Nat.mul_one, Int.toNat_natCast, Int.toNat_zero, Int.toNat_one, Int.add_zero, Int.sub_zero, Int.reduceEq, Int.reduceLT, Int.reduceLE, Int.reduceAdd, Int.reduceSub, Int.reduceMul, Int.reduceToNat, Int.cast_ofNat_Int, decide_true, decide_false, Option.getD_some, Option.getD_none, ktB, ktX, ktOf, conK, extK, ovlK, rwz, alive, lndL, lnd, lvB, lvL, lvR, lvT, tB_tt, tB_ft, tB_ff, okBls, shB, ren, renL, renR, renCt, ne_eq, not_false_eq_true, not_true_eq_false, and_false, false_and, and_self, ti0, ti1, ti2, ti3, ti4, ti5, ti6, ti7, ti8, ti9, ti10, ti11, ti12, ti13, ti14, ti15, ti16, ti17, ti18, ti19, ti20, ti21, ti22, ti23, ti24, ti25, ti26, ti27, ti28, ti29, ti30, ti31, ti32, ti33, ti34, ti35, ti36, ti37, ti38, ti39, ti40, ti41, ti42, ti43, ti44, ti45, ti46, ti47, ti48, ti49, ti50, ti51, ti52, ti53, ti54, ti55, ti56, ti57, ti58, ti59, ti60, ti61, ti62, ti63, ti64, ti65, ti66, ti67, ti68, ti69, ti70, ti71, ti72, ti73, ti74, ti75, ti76, ti77, ti78, ti79, ti80, ti81, ti82, ti83, ti84, ti85, ti86, ti87, ti88, regAt, fi14, body14, Try.f14, ↓exq_cd cd_code14, ↓exq_cd cd_c14_1, ↓exq_cd cd_c14_2, ↓exq_cd cd_c14_3, ↓exq_cd cd_c14_5, ↓exq_cd cd_c14_6, ↓exq_cd cd_c14_7, ↓exq_cd cd_c14_8, ↓exq_cd cd_c14_9, ↓exq_cd cd_c14_11, ↓exq_cd cd_c14_12, ↓exq_cd cd_c14_10, ↓exq_cd cd_c14_14, ↓exq_cd cd_c14_16, ↓exq_cd cd_c14_17, ↓exq_cd cd_c14_18, ↓exq_cd cd_c14_19, ↓exq_cd cd_c14_21, ↓exq_cd cd_c14_15, ↓exq_cd cd_c14_4, ↓exq_cd cd_c14_22, r14_1, r14_5, r14_11, r14_17, r14_21, r14_15, r14_22, plA4, pl4, plA8, pl8, plA9, pl9, plA11, pl11, plA12, pl12, plA18, pl18, plA26, pl26, plA28, pl28, plA36, pl36, plA41, pl41, plA44, pl44, plA48, pl48, plA56, pl56, plA63, pl63]
    repeat (refine And.intro (a := (_ = true)) (by first | (simp; done) | (simp; omega)) ?_)
    rw [hres]
    exact Res.val _ _
theorem fine_ok : SpecOk Try.prog (plOf pls) 14 sFine := by
  refine ⟨_, fi14, fun args r bl1 h => ?_⟩
  unfold sFine at h
  split at h
  · simp only [Option.some.injEq, Prod.mk.injEq, Bool.and_eq_true, decide_eq_true_eq] at h
    obtain ⟨⟨h1, h2⟩, rfl, rfl⟩ := h
    exact ⟨by simp, fun C hC _ => fine_run C hC _ _ _ h1 h2⟩
  · cases h
end Go.Proofs.Ytdanhpemheldlaa
