/- Views: the document's Check, word, Get. -/
import Derived.Test.YtdanhpemheldlaaVL3
set_option linter.unusedSimpArgs false
set_option linter.unusedVariables false
-- FUNCTIONS 40 26 42 23
namespace Go.Proofs.Ytdanhpemheldlaa
open Go Go.SY
set_option maxRecDepth 100000 in
set_option maxHeartbeats 4000000 in
theorem rchk_run (C : Ctx) (a b c : Int) : Rch Try.prog (plOf pls) C (conf0 40 ⟨31, [.tmp 2], code40⟩ [.agg [.v (.int .i64 a), .v (.int .i64 b), .v (.int .i64 c)]] []) (Res (.v (.int .i64 (chk a b c))) []) := by
  refine ExQ_ok [] 2000 plsOk noK ?_
  simp only [conf0]
  by_cases h1 : a < 1
  · (try rw [exh]); simp (maxSteps := 4000000) only [h1, stops, inK, stepF, frsF, frF, itemF, codeF, condF, opsF, opsW, opF, stepS, wtS, gdst, gdl, sopF, pv, evq, quiet, p_move, p_assign, p_pick, p_binOp, p_fieldAddr, l_load, e_box, SY.get, SY.put, SY.ev, SY.mk, SY.nth, SY.lvl, SY.ini, wid, wids, dr, flat, at1, rdC, rdCt, bopInt, bop, pickAV, isArr, ctOf, leaveS, retS, killL, isDefs, resS, resAll, tup1, AV.scal, exq_go, exq_t, ↓reduceIte, Nat.reduceLT, Nat.reduceEqDiff, Nat.reduceAdd, Nat.reduceSub, Bool.not_false, reduceCtorEq, true_and, Bool.and_self, List.length_nil, List.nil_append, Nat.add_zero, Nat.zero_mul, Int.reduceLE, decide_true, ti3, ti29, regAt, fi40, body40, Try.f40, ↓exq_cd cd_code40, ↓exq_cd cd_c40_1, ↓exq_cd cd_c40_2, ↓exq_cd cd_c40_3, ↓exq_cd cd_c40_5, ↓exq_cd cd_c40_6, ↓exq_cd cd_c40_7, ↓exq_cd cd_c40_9, r40_1, r40_5, r40_9]
    rw [chk_neg (fun h => by have := h.1; omega)]
    exact Res.val _ _
  by_cases h2 : 64 < a
  · (try rw [exh]); simp (maxSteps := 4000000) only [h1, h2, stops, inK, stepF, frsF, frF, itemF, codeF, condF, opsF, opsW, opF, stepS, wtS, gdst, gdl, sopF, pv, evq, quiet, p_move, p_assign, p_pick, p_binOp, p_fieldAddr, l_load, e_box, SY.get, SY.put, SY.ev, SY.mk, SY.nth, SY.lvl, SY.ini, wid, wids, dr, flat, at1, rdC, rdCt, bopInt, bop, pickAV, isArr, ctOf, leaveS, retS, killL, isDefs, resS, resAll, tup1, AV.scal, exq_go, exq_t, exq_f, ↓reduceIte, Nat.reduceLT, Nat.reduceEqDiff, Nat.reduceAdd, Nat.reduceSub, Bool.not_false, reduceCtorEq, true_and, Bool.and_self, List.length_nil, List.nil_append, Nat.add_zero, Nat.zero_mul, Int.reduceLE, decide_true, decide_false, ti3, ti29, regAt, fi40, body40, Try.f40, ↓exq_cd cd_code40, ↓exq_cd cd_c40_1, ↓exq_cd cd_c40_2, ↓exq_cd cd_c40_3, ↓exq_cd cd_c40_5, ↓exq_cd cd_c40_6, ↓exq_cd cd_c40_7, ↓exq_cd cd_c40_9, r40_1, r40_5, r40_9]
    rw [chk_neg (fun h => by have := h.2.1; omega)]
    exact Res.val _ _
  by_cases h3 : b < 1
  · (try rw [exh]); simp (maxSteps := 4000000) only [h1, h2, h3, stops, inK, stepF, frsF, frF, itemF, codeF, condF, opsF, opsW, opF, stepS, wtS, gdst, gdl, sopF, pv, evq, quiet, p_move, p_assign, p_pick, p_binOp, p_fieldAddr, l_load, e_box, SY.get, SY.put, SY.ev, SY.mk, SY.nth, SY.lvl, SY.ini, wid, wids, dr, flat, at1, rdC, rdCt, bopInt, bop, pickAV, isArr, ctOf, leaveS, retS, killL, isDefs, resS, resAll, tup1, AV.scal, exq_go, exq_t, exq_f, ↓reduceIte, Nat.reduceLT, Nat.reduceEqDiff, Nat.reduceAdd, Nat.reduceSub, Bool.not_false, reduceCtorEq, true_and, Bool.and_self, List.length_nil, List.nil_append, Nat.zero_add, Nat.add_zero, Nat.zero_mul, Int.reduceLE, decide_true, decide_false, ti3, ti29, regAt, fi40, body40, Try.f40, ↓exq_cd cd_code40, ↓exq_cd cd_c40_1, ↓exq_cd cd_c40_2, ↓exq_cd cd_c40_3, ↓exq_cd cd_c40_5, ↓exq_cd cd_c40_6, ↓exq_cd cd_c40_7, ↓exq_cd cd_c40_9, r40_1, r40_5, r40_9]
    rw [chk_neg (fun h => by have := h.2.2.1; omega)]
    exact Res.val _ _
  by_cases h4 : 4 < b
  · (try rw [exh]); simp (maxSteps := 4000000) only [h1, h2, h3, h4, stops, inK, stepF, frsF, frF, itemF, codeF, condF, opsF, opsW, opF, stepS, wtS, gdst, gdl, sopF, pv, evq, quiet, p_move, p_assign, p_pick, p_binOp, p_fieldAddr, l_load, e_box, SY.get, SY.put, SY.ev, SY.mk, SY.nth, SY.lvl, SY.ini, wid, wids, dr, flat, at1, rdC, rdCt, bopInt, bop, pickAV, isArr, ctOf, leaveS, retS, killL, isDefs, resS, resAll, tup1, AV.scal, exq_go, exq_t, exq_f, ↓reduceIte, Nat.reduceLT, Nat.reduceEqDiff, Nat.reduceAdd, Nat.reduceSub, Bool.not_false, reduceCtorEq, true_and, Bool.and_self, List.length_nil, List.nil_append, Nat.zero_add, Nat.add_zero, Nat.zero_mul, Int.reduceLE, decide_true, decide_false, ti3, ti29, regAt, fi40, body40, Try.f40, ↓exq_cd cd_code40, ↓exq_cd cd_c40_1, ↓exq_cd cd_c40_2, ↓exq_cd cd_c40_3, ↓exq_cd cd_c40_5, ↓exq_cd cd_c40_6, ↓exq_cd cd_c40_7, ↓exq_cd cd_c40_9, r40_1, r40_5, r40_9]
    rw [chk_neg (fun h => by have := h.2.2.2.1; omega)]
    exact Res.val _ _
  by_cases h5 : c < 0
  · (try rw [exh]); simp (maxSteps := 4000000) only [h1, h2, h3, h4, h5, stops, inK, stepF, frsF, frF, itemF, codeF, condF, opsF, opsW, opF, stepS, wtS, gdst, gdl, sopF, pv, evq, quiet, p_move, p_assign, p_pick, p_binOp, p_fieldAddr, l_load, e_box, SY.get, SY.put, SY.ev, SY.mk, SY.nth, SY.lvl, SY.ini, wid, wids, dr, flat, at1, rdC, rdCt, bopInt, bop, pickAV, isArr, ctOf, leaveS, retS, killL, isDefs, resS, resAll, tup1, AV.scal, exq_go, exq_t, exq_f, ↓reduceIte, Nat.reduceLT, Nat.reduceEqDiff, Nat.reduceAdd, Nat.reduceSub, Bool.not_false, reduceCtorEq, true_and, Bool.and_self, List.length_nil, List.nil_append, Nat.zero_add, Nat.add_zero, Nat.zero_mul, Int.reduceLE, decide_true, decide_false, ti3, ti29, regAt, fi40, body40, Try.f40, ↓exq_cd cd_code40, ↓exq_cd cd_c40_1, ↓exq_cd cd_c40_2, ↓exq_cd cd_c40_3, ↓exq_cd cd_c40_5, ↓exq_cd cd_c40_6, ↓exq_cd cd_c40_7, ↓exq_cd cd_c40_9, r40_1, r40_5, r40_9]
    rw [chk_neg (fun h => by have := h.2.2.2.2.1; omega)]
    exact Res.val _ _
  by_cases h6 : 2147483647 < c
  · (try rw [exh]); simp (maxSteps := 4000000) only [h1, h2, h3, h4, h5, h6, stops, inK, stepF, frsF, frF, itemF, codeF, condF, opsF, opsW, opF, stepS, wtS, gdst, gdl, sopF, pv, evq, quiet, p_move, p_assign, p_pick, p_binOp, p_fieldAddr, l_load, e_box, SY.get, SY.put, SY.ev, SY.mk, SY.nth, SY.lvl, SY.ini, wid, wids, dr, flat, at1, rdC, rdCt, bopInt, bop, pickAV, isArr, ctOf, leaveS, retS, killL, isDefs, resS, resAll, tup1, AV.scal, exq_go, exq_t, exq_f, ↓reduceIte, Nat.reduceLT, Nat.reduceEqDiff, Nat.reduceAdd, Nat.reduceSub, Bool.not_false, reduceCtorEq, true_and, Bool.and_self, List.length_nil, List.nil_append, Nat.zero_add, Nat.add_zero, Nat.zero_mul, Int.reduceLE, decide_true, decide_false, ti3, ti29, regAt, fi40, body40, Try.f40, ↓exq_cd cd_code40, ↓exq_cd cd_c40_1, ↓exq_cd cd_c40_2, ↓exq_cd cd_c40_3, ↓exq_cd cd_c40_5, ↓exq_cd cd_c40_6, ↓exq_cd cd_c40_7, ↓exq_cd cd_c40_9, r40_1, r40_5, r40_9]
    rw [chk_neg (fun h => by have := h.2.2.2.2.2; omega)]
    exact Res.val _ _
  · (try rw [exh]); simp (maxSteps := 4000000) only [h1, h2, h3, h4, h5, h6, stops, inK, stepF, frsF, frF, itemF, codeF, condF, opsF, opsW, opF, stepS, wtS, gdst, gdl, sopF, pv, evq, quiet, p_move, p_assign, p_pick, p_binOp, p_fieldAddr, l_load, e_box, SY.get, SY.put, SY.ev, SY.mk, SY.nth, SY.lvl, SY.ini, wid, wids, dr, flat, at1, rdC, rdCt, bopInt, bop, pickAV, isArr, ctOf, leaveS, retS, killL, isDefs, resS, resAll, tup1, AV.scal, exq_go, exq_f, ↓reduceIte, Nat.reduceLT, Nat.reduceEqDiff, Nat.reduceAdd, Nat.reduceSub, Bool.not_false, reduceCtorEq, true_and, Bool.and_self, List.length_nil, List.nil_append, Nat.zero_add, Nat.add_zero, Nat.zero_mul, Int.reduceLE, decide_true, decide_false, ti3, ti29, regAt, fi40, body40, Try.f40, ↓exq_cd cd_code40, ↓exq_cd cd_c40_1, ↓exq_cd cd_c40_2, ↓exq_cd cd_c40_3, ↓exq_cd cd_c40_5, ↓exq_cd cd_c40_6, ↓exq_cd cd_c40_4, ↓exq_cd cd_c40_10, r40_1, r40_5, r40_10]
    rw [chk_pos ⟨by omega, by omega, by omega, by omega, by omega, by omega⟩]
    exact Res.val _ _
theorem rchk_ok : SpecOk Try.prog (plOf pls) 40 sChk := by
  refine ⟨_, fi40, fun args r bl1 h => ?_⟩
  unfold sChk at h
  split at h
  · simp only [Option.some.injEq, Prod.mk.injEq, true_and] at h
    obtain ⟨rfl, rfl⟩ := h
    exact ⟨by simp, fun C _ _ => rchk_run C _ _ _⟩
  · cases h
def kR0 : KT := ktOf [(40, sChk)]
theorem kR0_ok : KOk Try.prog (plOf pls) kR0 := ktOf_ok plsOk fun x hx => by
  simp only [List.mem_cons, List.not_mem_nil, or_false] at hx
  subst hx
  exact rchk_ok
def tI (s : Nat) (t : Bool) (rs : List (List AV)) (c : Option Nat) (i : Nat) : TM := [(s, .v (.int .i64 i)), (0, .imr t 3 rs c)]
theorem tI_lv {rs : List (List AV)} (hf : FlatR rs) (s : Nat) (t : Bool) (c : Option Nat) (i N : Nat) : lvT N true (tI s t rs c i) = true := by
  cases t <;> simp only [tI, lvT, lvB, tB, hf.lv, Bool.and_true]
def lastR (rs : List (List AV)) (i : Nat) : Int := if i = 0 then 0 else idR (rowA rs (i - 1))
set_option maxRecDepth 100000 in
set_option maxHeartbeats 4000000 in
theorem rvchk_run (C : Ctx) (hC : C.β.b = []) (t : Bool) (rs : List (List AV)) (c : Option Nat) (hm : rs.all isM = true) (hx : rs.length < 4611686018427387904) : Rch Try.prog (plOf pls) C (conf0 26 ⟨34, [.tmp 2], code26⟩ [.imr t 3 rs c] []) (Res (.v (.int .i64 (vchk rs))) []) := by
  have hf := isM_flat hm
  refine ExQ_ok [] 2000 plsOk kR0_ok ?_
  simp only [conf0]
  (try rw [exh]); simp (maxSteps := 4000000) only [kR0, stops, inK, stepF, frsF, frF, itemF, codeF, opsF, opsW, opF, wtS, sopF, pv, p_assign, SY.put, SY.ev, SY.mk, SY.ini, exq_go, ↓reduceIte, Nat.reduceLT, Nat.reduceAdd, true_and, Bool.and_self, Int.reduceLE, decide_true, ktOf, regAt, body26, Try.f26, ↓exq_cd cd_code26, ↓exq_cd cd_c26_1, ↓exq_cd cd_c26_2, ↓exq_cd cd_c26_3, ↓exq_cd cd_c26_5, ↓exq_cd cd_c26_6, ↓exq_cd cd_c26_7, r26_1, r26_5]
  repeat (refine And.intro (a := (_ = true)) (by first | (simp; done) | (simp; omega)) ?_)
  refine Rch.loop plsOk ?_
  refine Rch.fit1 hC [] (bl' := []) (tm' := tI 3 t rs c 0) rfl List.nodup_nil rfl ⟨rfl, congrArg (fun x => AV.imr t 3 x c) (hf.ren _).symm, trivial⟩ (tI_lv hf ..) trivial ?_
  refine loop_ind plsOk (α := {i : Nat // i ≤ rs.length}) (fun a => rs.length - a.1) (fun a => tI 3 t rs c a.1) (fun _ => []) (fun a => Res (.v (.int .i64 (if vOk (rs.drop a.1) (lastR rs a.1) = true then 0 else 2))) []) ?_ ⟨0, Nat.zero_le _⟩
  rintro ⟨i, hi⟩ ih
  simp only [tI] at hi ih ⊢
  by_cases h : (i : Int) < rs.length
  · have e := isM_row hm (i := i) (by omega)
    rw [vOk_step (by omega)]
    by_cases h1 : MemR (rowA rs i)
    case neg =>
      have h1' := chk_neg h1
      refine ExQ_ok [] 2000 plsOk kR0_ok ?_
      (try rw [exh]); simp (maxSteps := 4000000) only [kR0, sChk, h, e, h1', stops, inK, stepF, frsF, frF, itemF, codeF, condF, opsF, opsW, opF, callO, drF, drO, drW, drC, stepS, wtS, gdst, gdl, sopF, pv, bltF, callF, calleeS, popF, lopF, cls, lvA, rdl, p_move, p_assign, p_pick, p_binOp, p_indexAddr, p_len, l_load, SY.get, SY.put, SY.ev, SY.mk, SY.nth, dr, tk, pack, rdC, bopInt, bop, pickAV, leaveS, retS, killL, isDefs, resS, resAll, tup1, plk, exq_go, exq_t, ↓reduceIte, Nat.reduceLT, Nat.reduceEqDiff, Nat.reduceAdd, Nat.reduceSub, Bool.and_true, Bool.not_false, List.contains_nil, reduceCtorEq, true_and, Bool.false_eq_true, List.map_cons, List.map_nil, Bool.and_self, List.nil_append, List.append_nil, Int.toNat_natCast, Int.reduceEq, Int.reduceLE, decide_true, ktOf, conK, alive, lndL, lnd, lvB, lvL, okBls, shB, ren, not_false_eq_true, ti3, ti22, ti24, ti29, regAt, fi26, body26, Try.f26, ↓exq_cd cd_c26_8, ↓exq_cd cd_c26_9, ↓exq_cd cd_c26_11, ↓exq_cd cd_c26_12, ↓exq_cd cd_c26_10, ↓exq_cd cd_c26_14, ↓exq_cd cd_c26_16, ↓exq_cd cd_c26_17, ↓exq_cd cd_c26_18, ↓exq_cd cd_c26_19, ↓exq_cd cd_c26_21, r26_11, r26_17, r26_21, plA26, pl26]
      repeat (refine And.intro (a := (_ = true)) (by first | (simp; done) | (simp; omega)) ?_)
      rw [decide_eq_false h1]
      exact Res.val _ _
    have h1' := chk_pos h1
    have hl2 : lastR rs (i + 1) = idR (rowA rs i) := by simp [lastR]
    by_cases hi0 : i = 0
    · subst hi0
      have h2 : lastR rs 0 < idR (rowA rs 0) := by have := h1.1; simp only [lastR, if_true]; omega
      have gz : (0 : Int) < rs.length := by omega
      refine ExQ_ok [] 2000 plsOk kR0_ok ?_
      (try rw [exh]); simp (maxSteps := 4000000) only [kR0, sChk, e, h1', gz, stops, inK, stepF, frsF, frF, itemF, codeF, condF, opsF, opsW, opF, callO, drF, drO, drW, drC, wtS, gdst, gdl, sopF, pv, bltF, callF, calleeS, popF, lopF, cls, lvA, rdl, p_move, p_assign, p_pick, p_binOp, p_indexAddr, p_len, l_load, SY.get, SY.put, SY.ev, SY.mk, SY.nth, dr, tk, pack, rdC, ar, bopInt, bop, pickAV, plk, exq_go, exq_t, exq_f, ↓reduceIte, Nat.reduceLT, Nat.reduceEqDiff, Nat.reduceAdd, Nat.reduceSub, Bool.not_false, Bool.not_true, List.contains_nil, reduceCtorEq, true_and, Bool.false_eq_true, List.map_cons, List.map_nil, Bool.and_self, List.nil_append, List.append_nil, Nat.zero_add, Int.toNat_zero, Int.reduceLT, Int.reduceLE, Int.reduceAdd, Int.cast_ofNat_Int, decide_true, decide_false, ktOf, conK, alive, lndL, lnd, lvB, lvL, okBls, shB, ren, not_true_eq_false, ti3, ti22, ti24, ti29, regAt, body26, Try.f26, ↓exq_cd cd_c26_8, ↓exq_cd cd_c26_9, ↓exq_cd cd_c26_11, ↓exq_cd cd_c26_12, ↓exq_cd cd_c26_10, ↓exq_cd cd_c26_14, ↓exq_cd cd_c26_16, ↓exq_cd cd_c26_17, ↓exq_cd cd_c26_18, ↓exq_cd cd_c26_15, r26_11, r26_17, r26_15, plA26, pl26]
      repeat (refine And.intro (a := (_ = true)) (by first | (simp; done) | (simp; omega)) ?_)
      rw [decide_eq_true h1, decide_eq_true h2, Bool.true_and, Bool.true_and, ← hl2]
      refine Rch.fit1 hC [] (bl' := []) (tm' := tI 3 t rs c 1) rfl List.nodup_nil rfl ⟨rfl, congrArg (fun x => AV.imr t 3 x c) (hf.ren _).symm, trivial⟩ (tI_lv hf ..) trivial ?_
      exact ih ⟨1, by omega⟩ (by simp only; omega)
    obtain ⟨j, rfl⟩ : ∃ j, i = j + 1 := ⟨i - 1, by omega⟩
    have e' := isM_row hm (i := j) (by omega)
    have g0 : (0 : Int) < ((j + 1 : Nat) : Int) := by omega
    have g1 : ((j + 1 : Nat) : Int) - 1 = (j : Int) := by omega
    have hl1 : lastR rs (j + 1) = idR (rowA rs j) := by simp [lastR]
    rw [hl1]
    by_cases h2 : idR (rowA rs j) < idR (rowA rs (j + 1))
    case neg =>
      have g2 : idR (rowA rs (j + 1)) ≤ idR (rowA rs j) := by omega
      refine ExQ_ok [] 2000 plsOk kR0_ok ?_
      (try rw [exh]); simp (maxSteps := 4000000) only [kR0, sChk, h, e, e', h1', g0, g1, g2, stops, inK, stepF, frsF, frF, itemF, codeF, condF, opsF, opsW, opF, callO, drF, drO, drW, drC, stepS, wtS, gdst, gdl, sopF, pv, bltF, callF, calleeS, popF, lopF, cls, lvA, rdl, p_move, p_assign, p_pick, p_binOp, p_fieldAddr, p_indexAddr, p_len, l_load, SY.get, SY.put, SY.ev, SY.mk, SY.nth, dr, tk, at1, pack, rdC, ar, bopInt, bop, pickAV, leaveS, retS, killL, isDefs, resS, resAll, tup1, AV.scal, plk, exq_go, exq_t, exq_f, ↓reduceIte, Nat.reduceLT, Nat.reduceEqDiff, Nat.reduceAdd, Nat.reduceSub, Bool.and_true, Bool.not_false, Bool.not_true, List.contains_nil, reduceCtorEq, true_and, Bool.false_eq_true, List.map_cons, List.map_nil, Bool.and_self, List.nil_append, List.append_nil, Nat.add_zero, Int.toNat_natCast, Int.reduceLE, decide_true, decide_false, ktOf, conK, alive, lndL, lnd, lvB, lvL, okBls, shB, ren, not_true_eq_false, ti3, ti22, ti24, ti29, regAt, fi26, body26, Try.f26, ↓exq_cd cd_c26_8, ↓exq_cd cd_c26_9, ↓exq_cd cd_c26_11, ↓exq_cd cd_c26_12, ↓exq_cd cd_c26_10, ↓exq_cd cd_c26_14, ↓exq_cd cd_c26_16, ↓exq_cd cd_c26_17, ↓exq_cd cd_c26_18, ↓exq_cd cd_c26_19, ↓exq_cd cd_c26_21, r26_11, r26_17, r26_21, plA26, pl26]
      repeat (refine And.intro (a := (_ = true)) (by first | (simp; done) | (simp; omega)) ?_)
      rw [decide_eq_false h2, Bool.false_and, Bool.and_false]
      exact Res.val _ _
    have g2 : ¬ idR (rowA rs (j + 1)) ≤ idR (rowA rs j) := by omega
    refine ExQ_ok [] 2000 plsOk kR0_ok ?_
    (try rw [exh]); simp (maxSteps := 4000000) only [kR0, sChk, h, e, e', h1', g0, g1, g2, stops, inK, stepF, frsF, frF, itemF, codeF, condF, opsF, opsW, opF, callO, drF, drO, drW, drC, wtS, gdst, gdl, sopF, pv, bltF, callF, calleeS, popF, lopF, cls, lvA, rdl, p_move, p_assign, p_pick, p_binOp, p_fieldAddr, p_indexAddr, p_len, l_load, SY.get, SY.put, SY.ev, SY.mk, SY.nth, dr, tk, at1, pack, rdC, ar, bopInt, bop, pickAV, AV.scal, plk, exq_go, exq_t, exq_f, ↓reduceIte, Nat.reduceLT, Nat.reduceEqDiff, Nat.reduceAdd, Nat.reduceSub, Bool.and_true, Bool.not_false, Bool.not_true, List.contains_nil, reduceCtorEq, true_and, Bool.false_eq_true, List.map_cons, List.map_nil, Bool.and_self, List.nil_append, List.append_nil, Nat.add_zero, Int.toNat_natCast, Int.reduceLE, decide_true, decide_false, ktOf, conK, alive, lndL, lnd, lvB, lvL, okBls, shB, ren, not_true_eq_false, ti3, ti22, ti24, ti29, regAt, body26, Try.f26, ↓exq_cd cd_c26_8, ↓exq_cd cd_c26_9, ↓exq_cd cd_c26_11, ↓exq_cd cd_c26_12, ↓exq_cd cd_c26_10, ↓exq_cd cd_c26_14, ↓exq_cd cd_c26_16, ↓exq_cd cd_c26_17, ↓exq_cd cd_c26_18, ↓exq_cd cd_c26_15, r26_11, r26_17, r26_15, plA26, pl26]
    repeat (refine And.intro (a := (_ = true)) (by first | (simp; done) | (simp; omega)) ?_)
    rw [decide_eq_true h1, decide_eq_true h2, Bool.true_and, Bool.true_and, ← hl2]
    refine Rch.fit1 hC [] (bl' := []) (tm' := tI 3 t rs c (j + 1 + 1)) rfl List.nodup_nil rfl ⟨rfl, congrArg (fun x => AV.imr t 3 x c) (hf.ren _).symm, trivial⟩ (tI_lv hf ..) trivial ?_
    exact ih ⟨j + 1 + 1, by omega⟩ (by simp only; omega)
  · refine ExQ_ok [] 2000 plsOk kR0_ok ?_
    (try rw [exh]); simp (maxSteps := 4000000) only [kR0, h, stops, inK, stepF, frsF, frF, itemF, codeF, condF, opsF, opsW, opF, stepS, wtS, sopF, pv, bltF, callF, p_move, p_assign, p_binOp, p_len, SY.get, SY.put, SY.ev, SY.mk, bopInt, bop, leaveS, retS, exitS, killL, isDefs, resS, resAll, tup1, exq_go, exq_f, ↓reduceIte, Nat.reduceLT, Nat.reduceEqDiff, Nat.reduceAdd, reduceCtorEq, true_and, Bool.and_self, Int.reduceLE, decide_true, decide_false, ktOf, ti3, ti22, regAt, fi26, body26, Try.f26, ↓exq_cd cd_c26_8, ↓exq_cd cd_c26_9, ↓exq_cd cd_c26_11, ↓exq_cd cd_c26_12, ↓exq_cd cd_c26_4, ↓exq_cd cd_c26_22, r26_11, r26_22]
    repeat (refine And.intro (a := (_ = true)) (by first | (simp; done) | (simp; omega)) ?_)
    rw [List.drop_eq_nil_of_le (by omega)]
    exact Res.val _ _
theorem rvchk_ok : SpecOk Try.prog (plOf pls) 26 sV := by
  refine ⟨_, fi26, fun args r bl1 h => ?_⟩
  unfold sV at h
  split at h
  · simp only [Option.some.injEq, Prod.mk.injEq, Bool.and_eq_true, decide_eq_true_eq] at h
    obtain ⟨⟨h1, h2⟩, rfl, rfl⟩ := h
    exact ⟨by simp, fun C hC _ => rvchk_run C hC _ _ _ h1 h2⟩
  · cases h
def wrdR (rs : List (List AV)) (k : Int) : AV := .tup [.agg [.v (.int .i64 (if fndR rs k = true then idR (rowA rs (posR rs k)) else 0)), .v (.int .i64 (if fndR rs k = true then stR (rowA rs (posR rs k)) else 0)), .v (.int .i64 (if fndR rs k = true then icR (rowA rs (posR rs k)) else 0))], .v (.bool (fndR rs k))]
def sWord : List AV → Option (Bool × AV × Bls)
  | [.imr _ 3 rs _, .v (.int .i64 k)] => some (rs.all isM && (decide (rs.length < 4611686018427387904) && vOk rs 0), wrdR rs k, [])
  | _ => none
def tJ (t : Bool) (rs : List (List AV)) (c : Option Nat) (k : Int) (i : Nat) : TM := [(6, .v (.int .i64 i)), (5, .v (.bool false)), (4, .ptr 0 0 3 0), (1, .v (.int .i64 k)), (0, .imr t 3 rs c)]
theorem tJ_lv {rs : List (List AV)} (hf : FlatR rs) (t : Bool) (c : Option Nat) (k : Int) (i N : Nat) : lvT (N + 1) true (tJ t rs c k i) = true := by
  cases t <;> simp [tJ, lvT, lvB, tB, hf.lv]
def zB : Bls := [some (.lit [.v (.int .i64 0), .v (.int .i64 0), .v (.int .i64 0)])]
set_option maxRecDepth 100000 in
set_option maxHeartbeats 4000000 in
theorem word_run (C : Ctx) (hC : C.β.b = []) (t : Bool) (rs : List (List AV)) (c : Option Nat) (k : Int) (hm : rs.all isM = true) (hx : rs.length < 4611686018427387904) (hv : vOk rs 0 = true) : Rch Try.prog (plOf pls) C (conf0 42 ⟨25, [.cell 4 29, .tmp 5], code42⟩ [.imr t 3 rs c, .v (.int .i64 k)] []) (Res (wrdR rs k) []) := by
  have hf := isM_flat hm
  have hs := posR_iff (k := k) (vOk_from hv).2
  refine ExQ_ok [] 2000 plsOk kR0_ok ?_
  simp only [conf0]
  (try rw [exh]); simp (maxSteps := 4000000) only [kR0, stops, inK, stepF, frsF, frF, itemF, codeF, opsF, opsW, opF, wtS, sopF, pv, evq, quiet, p_assign, e_alloc, SY.put, SY.ev, SY.mk, SY.ini, isArr, ctOf, exq_go, ↓reduceIte, Nat.reduceLT, Nat.reduceAdd, true_and, Bool.and_self, List.length_nil, List.nil_append, Nat.zero_add, Int.reduceLE, decide_true, ktOf, ti29, regAt, body42, Try.f42, ↓exq_cd cd_code42, ↓exq_cd cd_c42_1, ↓exq_cd cd_c42_2, ↓exq_cd cd_c42_3, ↓exq_cd cd_c42_5, ↓exq_cd cd_c42_6, ↓exq_cd cd_c42_7, r42_1, r42_5]
  repeat (refine And.intro (a := (_ = true)) (by first | (simp; done) | (simp; omega)) ?_)
  refine Rch.loop plsOk ?_
  refine Rch.fit1 hC [0] (bl' := zB) (tm' := tJ t rs c k 0) rfl (by decide) rfl ⟨rfl, rfl, rfl, rfl, congrArg (fun x => AV.imr t 3 x c) (hf.ren _).symm, trivial⟩ (tJ_lv hf ..) ⟨⟨rfl, rfl⟩, trivial⟩ ?_
  refine loop_ind plsOk (α := {i : Nat // i ≤ rs.length ∧ (fndR rs k = true → i ≤ posR rs k)}) (fun a => rs.length - a.1) (fun a => tJ t rs c k a.1) (fun _ => zB) (fun a => Res (wrdR rs k) []) ?_ ⟨0, Nat.zero_le _, fun _ => Nat.zero_le _⟩
  rintro ⟨i, hi, hip⟩ ih
  simp only [tJ, zB] at hi hip ih ⊢
  by_cases h : (i : Int) < rs.length
  · have e := isM_row hm (i := i) (by omega)
    by_cases h1 : idR (rowA rs i) = k
    · have e1 : ¬ i < posR rs k := fun h2 => by have := (hs i (by omega)).2 h2; omega
      have e2 : i ≤ posR rs k := by
        rcases Nat.lt_or_ge (posR rs k) i with h2 | h2
        · exfalso
          have h3 := (vOk_from hv).2 (posR rs k) i h2 (by omega)
          have h4 := (hs (posR rs k) (by omega)).1 (by omega)
          omega
        · exact h2
      have e3 : posR rs k = i := by omega
      have hfd : fndR rs k = true := decide_eq_true ⟨by omega, by rw [e3]; exact h1⟩
      have h1' := h1
      refine ExQ_ok [] 2000 plsOk kR0_ok ?_
      (try rw [exh]); simp (maxSteps := 4000000) only [kR0, h, e, h1, stops, stepF, frsF, frF, itemF, codeF, condF, opsF, opsW, opF, stepS, wtS, sopF, pv, evq, bltF, callF, quiet, p_move, p_assign, p_binOp, p_fieldAddr, p_indexAddr, p_len, l_load, e_store, SY.get, SY.put, SY.ev, SY.mk, SY.nth, SY.lvl, SY.setl, wid, wids, dr, tk, flat, at1, pack, rdC, rdCt, wrC, wrCt, bopInt, bop, leaveS, retS, killL, isDefs, resS, resAll, tup1, AV.scal, exq_go, exq_t, ↓reduceIte, Nat.reduceLT, Nat.reduceEqDiff, Nat.reduceAdd, Nat.reduceSub, Bool.and_true, reduceCtorEq, true_and, Bool.and_self, List.append_nil, Nat.add_zero, Nat.zero_mul, Int.toNat_natCast, decide_true, ktOf, ti3, ti22, ti29, regAt, fi42, body42, Try.f42, ↓exq_cd cd_c42_8, ↓exq_cd cd_c42_9, ↓exq_cd cd_c42_11, ↓exq_cd cd_c42_12, ↓exq_cd cd_c42_10, ↓exq_cd cd_c42_14, ↓exq_cd cd_c42_16, ↓exq_cd cd_c42_17, ↓exq_cd cd_c42_18, ↓exq_cd cd_c42_19, ↓exq_cd cd_c42_21, r42_11, r42_17, r42_21]
      repeat (refine And.intro (a := (_ = true)) (by first | (simp; done) | (simp; omega)) ?_)
      rw [wrdR, hfd, e3, h1]
      exact ⟨[], List.nodup_nil, rfl, rfl, fun l c h => by simp at h⟩
    · refine ExQ_ok [] 2000 plsOk kR0_ok ?_
      (try rw [exh]); simp (maxSteps := 4000000) only [kR0, h, e, h1, stops, inK, stepF, frsF, frF, itemF, codeF, condF, opsF, opsW, opF, wtS, sopF, pv, bltF, callF, p_move, p_assign, p_binOp, p_fieldAddr, p_indexAddr, p_len, l_load, SY.get, SY.put, SY.ev, SY.mk, SY.nth, dr, at1, rdC, ar, bopInt, bop, AV.scal, exq_go, exq_t, exq_f, ↓reduceIte, Nat.reduceLT, Nat.reduceEqDiff, Nat.reduceAdd, Bool.and_true, reduceCtorEq, true_and, Bool.and_self, Nat.add_zero, Int.toNat_natCast, Int.reduceLE, decide_true, decide_false, ktOf, ti3, ti22, ti29, regAt, body42, Try.f42, ↓exq_cd cd_c42_8, ↓exq_cd cd_c42_9, ↓exq_cd cd_c42_11, ↓exq_cd cd_c42_12, ↓exq_cd cd_c42_10, ↓exq_cd cd_c42_14, ↓exq_cd cd_c42_16, ↓exq_cd cd_c42_17, ↓exq_cd cd_c42_18, ↓exq_cd cd_c42_15, r42_11, r42_17, r42_15]
      repeat (refine And.intro (a := (_ = true)) (by first | (simp; done) | (simp; omega)) ?_)
      refine Rch.fit1 hC [0] (bl' := zB) (tm' := tJ t rs c k (i + 1)) rfl (by decide) rfl ⟨rfl, rfl, rfl, rfl, congrArg (fun x => AV.imr t 3 x c) (hf.ren _).symm, trivial⟩ (tJ_lv hf ..) ⟨⟨rfl, rfl⟩, trivial⟩ ?_
      exact ih ⟨i + 1, by omega, fun hfd => by
        have h2 := hip hfd
        have h3 := (of_decide_eq_true hfd).2
        rcases Nat.lt_or_ge i (posR rs k) with h4 | h4
        · exact h4
        · exact absurd (by rw [show i = posR rs k by omega]; exact h3) h1⟩ (by simp only; omega)
  · have hfd : fndR rs k = false := by
      cases hfd : fndR rs k with
      | false => rfl
      | true =>
        have h2 := hip hfd
        have h3 := (of_decide_eq_true hfd).1
        omega
    refine ExQ_ok [] 2000 plsOk kR0_ok ?_
    (try rw [exh]); simp (maxSteps := 4000000) only [kR0, h, stops, inK, stepF, frsF, frF, itemF, codeF, condF, opsF, opsW, opF, stepS, wtS, sopF, pv, evq, bltF, callF, quiet, p_move, p_assign, p_binOp, p_build, p_len, e_store, SY.get, SY.put, SY.ev, SY.mk, SY.lvl, SY.setl, wid, wids, dr, tk, flat, pack, rdC, rdCt, wrC, wrCt, bopInt, bop, fillA, nz, leaveS, retS, exitS, killL, isDefs, resS, resAll, tup1, exq_go, exq_f, ↓reduceIte, Nat.reduceLT, Nat.reduceEqDiff, Nat.reduceAdd, Nat.reduceSub, reduceCtorEq, true_and, List.map_nil, Bool.and_self, List.append_nil, Nat.add_zero, Nat.zero_mul, decide_false, ktOf, ti3, ti22, ti29, regAt, fi42, body42, Try.f42, ↓exq_cd cd_c42_8, ↓exq_cd cd_c42_9, ↓exq_cd cd_c42_11, ↓exq_cd cd_c42_12, ↓exq_cd cd_c42_4, ↓exq_cd cd_c42_22, r42_11, r42_22]
    repeat (refine And.intro (a := (_ = true)) (by first | (simp; done) | (simp; omega)) ?_)
    rw [wrdR, hfd]
    exact ⟨[], List.nodup_nil, rfl, rfl, fun l c h => by simp at h⟩
theorem word_ok : SpecOk Try.prog (plOf pls) 42 sWord := by
  refine ⟨_, fi42, fun args r bl1 h => ?_⟩
  unfold sWord at h
  split at h
  · simp only [Option.some.injEq, Prod.mk.injEq, Bool.and_eq_true, decide_eq_true_eq] at h
    obtain ⟨⟨h1, h2, h3⟩, rfl, rfl⟩ := h
    exact ⟨by simp, fun C hC _ => word_run C hC _ _ _ _ h1 h2 h3⟩
  · cases h
def kR1 : KT := ktOf [(26, sV), (42, sWord)]
theorem kR1_ok : KOk Try.prog (plOf pls) kR1 := ktOf_ok plsOk fun x hx => by
  simp only [List.mem_cons, List.not_mem_nil, or_false] at hx
  rcases hx with rfl | rfl
  · exact rvchk_ok
  · exact word_ok
set_option maxRecDepth 100000 in
set_option maxHeartbeats 4000000 in
theorem rget_run (C : Ctx) (hC : C.β.b = []) (t : Bool) (rs : List (List AV)) (c : Option Nat) (k : Int) (hm : rs.all isM = true) (hx : rs.length < 4611686018427387904) : Rch Try.prog (plOf pls) C (conf0 23 ⟨22, [.cell 4 29, .tmp 5], code23⟩ [.imr t 3 rs c, .v (.int .i64 k)] []) (Res (getR rs k) []) := by
  have hf := isM_flat hm
  by_cases hv : vOk rs 0 = true
  case neg =>
    have e : vchk rs = 2 := if_neg hv
    have g : gotB rs k = false := by rw [gotB, Bool.eq_false_iff.2 hv]; rfl
    have gE : getE rs k = 2 := if_neg hv
    refine ExQ_ok [] 2000 plsOk kR1_ok ?_
    simp only [conf0]
    (try rw [exh]); simp (maxSteps := 4000000) only [kR1, sV, hf.lv, e, hm, stops, inK, stepF, frsF, frF, itemF, codeF, condF, opsF, opsW, opF, callO, stepS, wtS, sopF, pv, evq, callF, calleeS, quiet, p_move, p_assign, p_binOp, p_build, e_store, e_alloc, SY.get, SY.put, SY.ev, SY.mk, SY.lvl, SY.setl, SY.ini, wid, wids, dr, tk, flat, pack, rdC, rdCt, wrC, wrCt, bopInt, bop, fillA, nz, isArr, ctOf, leaveS, retS, killL, isDefs, resS, resAll, tup1, exq_go, exq_t, ↓reduceIte, Nat.reduceLT, Nat.reduceEqDiff, Nat.reduceAdd, Nat.reduceSub, Bool.and_true, Bool.true_and, reduceCtorEq, true_and, List.map_cons, List.map_nil, Bool.and_self, List.length_nil, List.nil_append, List.append_nil, Nat.zero_add, Nat.add_zero, Nat.zero_mul, Int.reduceEq, Int.reduceLE, decide_true, ktOf, conK, alive, lndL, lnd, lvB, tB_tt, okBls, shB, ren, not_false_eq_true, ti24, ti29, regAt, fi23, body23, Try.f23, ↓exq_cd cd_code23, ↓exq_cd cd_c23_1, ↓exq_cd cd_c23_2, ↓exq_cd cd_c23_3, ↓exq_cd cd_c23_5, ↓exq_cd cd_c23_6, ↓exq_cd cd_c23_7, ↓exq_cd cd_c23_9, r23_1, r23_5, r23_9]
    repeat (refine And.intro (a := (_ = true)) (by first | (simp; done) | (simp; omega)) ?_)
    rw [getR, g, gE]
    exact ⟨[], List.nodup_nil, rfl, rfl, fun l c h => by simp at h⟩
  have e0 : vchk rs = 0 := if_pos hv
  cases hfd : fndR rs k with
  | true =>
    have g : gotB rs k = true := by rw [gotB, hv, hfd]; rfl
    have gE : getE rs k = 0 := by rw [getE, if_pos hv, if_pos hfd]
    refine ExQ_ok [] 2000 plsOk kR1_ok ?_
    simp only [conf0]
    (try rw [exh]); simp (maxSteps := 4000000) only [kR1, sV, sWord, hf.lv, e0, hm, hv, hfd, wrdR, stops, inK, stepF, frsF, frF, itemF, codeF, condF, opsF, opsW, opF, callO, stepS, wtS, sopF, pv, evq, callF, calleeS, quiet, p_move, p_assign, p_binOp, p_unOp, p_extract, l_load, e_store, e_alloc, SY.get, SY.put, SY.ev, SY.mk, SY.nth, SY.lvl, SY.setl, SY.ini, wid, wids, dr, tk, flat, pack, rdC, rdCt, wrC, wrCt, bopInt, bop, isArr, ctOf, leaveS, retS, killL, isDefs, resS, resAll, tup1, exq_go, exq_f, ↓reduceIte, Nat.reduceLT, Nat.reduceEqDiff, Nat.reduceAdd, Nat.reduceSub, Bool.and_true, Bool.true_and, Bool.not_true, reduceCtorEq, true_and, List.map_cons, List.map_nil, Bool.and_self, List.length_cons, List.length_nil, List.cons_append, List.nil_append, List.append_nil, Nat.zero_add, Nat.add_zero, Nat.zero_mul, Int.reduceLE, decide_true, decide_false, ktOf, conK, alive, lndL, lnd, lvB, lvL, tB_tt, okBls, shB, ren, renL, not_true_eq_false, ti24, ti29, regAt, fi23, body23, Try.f23, ↓exq_cd cd_code23, ↓exq_cd cd_c23_1, ↓exq_cd cd_c23_2, ↓exq_cd cd_c23_3, ↓exq_cd cd_c23_5, ↓exq_cd cd_c23_6, ↓exq_cd cd_c23_4, ↓exq_cd cd_c23_10, ↓exq_cd cd_c23_11, ↓exq_cd cd_c23_12, ↓exq_cd cd_c23_14, ↓exq_cd cd_c23_15, ↓exq_cd cd_c23_13, ↓exq_cd cd_c23_19, r23_1, r23_5, r23_10, r23_14, r23_19]
    repeat (refine And.intro (a := (_ = true)) (by first | (simp; done) | (simp; omega)) ?_)
    rw [getR, g, gE]
    exact ⟨[], List.nodup_nil, rfl, rfl, fun l c h => by simp at h⟩
  | false =>
    have g : gotB rs k = false := by rw [gotB, hv, hfd]; rfl
    have gE : getE rs k = 6 := by rw [getE, if_pos hv, if_neg (by rw [hfd]; decide)]
    refine ExQ_ok [] 2000 plsOk kR1_ok ?_
    simp only [conf0]
    (try rw [exh]); simp (maxSteps := 4000000) only [kR1, sV, sWord, hf.lv, e0, hm, hv, hfd, wrdR, stops, inK, stepF, frsF, frF, itemF, codeF, condF, opsF, opsW, opF, callO, stepS, wtS, sopF, pv, evq, callF, calleeS, quiet, p_move, p_assign, p_binOp, p_unOp, p_extract, l_load, e_store, e_alloc, SY.get, SY.put, SY.ev, SY.mk, SY.nth, SY.lvl, SY.setl, SY.ini, wid, wids, dr, tk, flat, pack, rdC, rdCt, wrC, wrCt, bopInt, bop, isArr, ctOf, leaveS, retS, killL, isDefs, resS, resAll, tup1, exq_go, exq_t, exq_f, ↓reduceIte, Nat.reduceLT, Nat.reduceEqDiff, Nat.reduceAdd, Nat.reduceSub, Bool.and_true, Bool.true_and, Bool.not_false, reduceCtorEq, true_and, Bool.false_eq_true, List.map_cons, List.map_nil, Bool.and_self, List.length_cons, List.length_nil, List.cons_append, List.nil_append, List.append_nil, Nat.zero_add, Nat.add_zero, Nat.zero_mul, Int.reduceLE, decide_true, decide_false, ktOf, conK, alive, lndL, lnd, lvB, lvL, tB_tt, okBls, shB, ren, renL, not_true_eq_false, ti24, ti29, regAt, fi23, body23, Try.f23, ↓exq_cd cd_code23, ↓exq_cd cd_c23_1, ↓exq_cd cd_c23_2, ↓exq_cd cd_c23_3, ↓exq_cd cd_c23_5, ↓exq_cd cd_c23_6, ↓exq_cd cd_c23_4, ↓exq_cd cd_c23_10, ↓exq_cd cd_c23_11, ↓exq_cd cd_c23_12, ↓exq_cd cd_c23_14, ↓exq_cd cd_c23_15, ↓exq_cd cd_c23_16, ↓exq_cd cd_c23_18, r23_1, r23_5, r23_10, r23_14, r23_18]
    repeat (refine And.intro (a := (_ = true)) (by first | (simp; done) | (simp; omega)) ?_)
    rw [getR, g, gE]
    exact ⟨[], List.nodup_nil, rfl, rfl, fun l c h => by simp at h⟩
theorem rget_ok : SpecOk Try.prog (plOf pls) 23 sGet := by
  refine ⟨_, fi23, fun args r bl1 h => ?_⟩
  unfold sGet at h
  split at h
  · simp only [Option.some.injEq, Prod.mk.injEq, Bool.and_eq_true, decide_eq_true_eq] at h
    obtain ⟨⟨h1, h2⟩, rfl, rfl⟩ := h
    exact ⟨by simp, fun C hC _ => rget_run C hC _ _ _ _ h1 h2⟩
  · cases h
end Go.Proofs.Ytdanhpemheldlaa
