/- Texts of ours in one: VT1, VT2, VT3. -/
import Derived.Test.YtdanhpemheldlaaVL3
import Derived.Test.YtdanhpemheldlaaCf
import Derived.Test.YtdanhpemheldlaaCe
set_option linter.unusedSimpArgs false
set_option linter.unusedVariables false
/- Views: the document's Check, word, Get. -/
-- FUNCTIONS 40 26 42 23
namespace Go.Proofs.Ytdanhpemheldlaa
open Go Go.SY
set_option maxRecDepth 100000 in
set_option maxHeartbeats 4000000 in
theorem rchk_run (C : Ctx) (a b c : Int) : Rch Try.prog (plOf pls) C (conf0 40 ⟨31, [.tmp 2], code40⟩ [.agg [.v (.int .i64 a), .v (.int .i64 b), .v (.int .i64 c)]] []) (Res (.v (.int .i64 (chk a b c))) []) := by
  refine ExQ_ok [] 2000 plsOk noK ?_
  simp only [conf0]
  by_cases h1 : a < 1
  · (try rw [exh]); simp (maxSteps := 4000000) only [h1, stops, inK, stepF, frsF, frF, itemF, codeF, condF, opsF, opsW, opF, stepS, wtS, gdst, gdl, sopF, pv, evq, quiet, p_move, p_assign, p_pick, p_binOp, p_fieldAddr, l_load, e_box, SY.get, SY.put, SY.ev, SY.mk, SY.nth, SY.lvl, SY.ini, wid, wids, dr, flat, at1, rdC, rdCt, bopInt, bop, pickAV, isArr, ctOf, leaveS, retS, killL, isDefs, resS, resAll, tup1, AV.scal, exq_go, exq_t, ↓reduceIte, Nat.reduceLT, Nat.reduceEqDiff, Nat.reduceAdd, Nat.reduceSub, Bool.not_false, reduceCtorEq, true_and, Bool.and_self, List.length_nil, List.nil_append, Nat.add_zero, Nat.zero_mul, Int.reduceLE, decide_true, ti3, ti29, regAt, fi40, body40, Try.f40, ↓exq_cd cd_code40, ↓exq_cd cd_c40_1, ↓exq_cd cd_c40_2, ↓exq_cd cd_c40_3, ↓exq_cd cd_c40_5, ↓exq_cd cd_c40_6, ↓exq_cd cd_c40_7, ↓exq_cd cd_c40_9, r40_1, r40_5, r40_9]
    rw [chk_neg (fun h => by have := h.1; omega)]
    exact Res.val _ _
  by_cases h2 : 64 < a
  · (try rw [exh]); simp (maxSteps := 4000000) only [h1, h2, stops, inK, stepF, frsF, frF, itemF, codeF, condF, opsF, opsW, opF, stepS, wtS, gdst, gdl, sopF, pv, evq, quiet, p_move, p_assign, p_pick, p_binOp, p_fieldAddr, l_load, e_box, SY.get, SY.put, SY.ev, SY.mk, SY.nth, SY.lvl, SY.ini, wid, wids, dr, flat, at1, rdC, rdCt, bopInt, bop, pickAV, isArr, ctOf, leaveS, retS, killL, isDefs, resS, resAll, tup1, AV.scal, exq_go, exq_t, exq_f, ↓reduceIte, Nat.reduceLT, Nat.reduceEqDiff, Nat.reduceAdd, Nat.reduceSub, Bool.not_false, reduceCtorEq, true_and, Bool.and_self, List.length_nil, List.nil_append, Nat.add_zero, Nat.zero_mul, Int.reduceLE, decide_true, decide_false, ti3, ti29, regAt, fi40, body40, Try.f40, ↓exq_cd cd_code40, ↓exq_cd cd_c40_1, ↓exq_cd cd_c40_2, ↓exq_cd cd_c40_3, ↓exq_cd cd_c40_5, ↓exq_cd cd_c40_6, ↓exq_cd cd_c40_7, ↓exq_cd cd_c40_9, r40_1, r40_5, r40_9]
    rw [chk_neg (fun h => by have := h.2.1; omega)]
    exact Res.val _ _
  by_cases h3 : b < 1
  · (try rw [exh]); simp (maxSteps := 4000000) only [h1, h2, h3, stops, inK, stepF, frsF, frF, itemF, codeF, condF, opsF, opsW, opF, stepS, wtS, gdst, gdl, sopF, pv, evq, quiet, p_move, p_assign, p_pick, p_binOp, p_fieldAddr, l_load, e_box, SY.get, SY.put, SY.ev, SY.mk, SY.nth, SY.lvl, SY.ini, wid, wids, dr, flat, at1, rdC, rdCt, bopInt, bop, pickAV, isArr, ctOf, leaveS, retS, killL, isDefs, resS, resAll, tup1, AV.scal, exq_go, exq_t, exq_f, ↓reduceIte, Nat.reduceLT, Nat.reduceEqDiff, Nat.reduceAdd, Nat.reduceSub, Bool.not_false, reduceCtorEq, true_and, Bool.and_self, List.length_nil, List.nil_append, Nat.zero_add, Nat.add_zero, Nat.zero_mul, Int.reduceLE, decide_true, decide_false, ti3, ti29, regAt, fi40, body40, Try.f40, ↓exq_cd cd_code40, ↓exq_cd cd_c40_1, ↓exq_cd cd_c40_2, ↓exq_cd cd_c40_3, ↓exq_cd cd_c40_5, ↓exq_cd cd_c40_6, ↓exq_cd cd_c40_7, ↓exq_cd cd_c40_9, r40_1, r40_5, r40_9]
    rw [chk_neg (fun h => by have := h.2.2.1; omega)]
    exact Res.val _ _
  by_cases h4 : 4 < b
  · (try rw [exh]); simp (maxSteps := 4000000) only [h1, h2, h3, h4, stops, inK, stepF, frsF, frF, itemF, codeF, condF, opsF, opsW, opF, stepS, wtS, gdst, gdl, sopF, pv, evq, quiet, p_move, p_assign, p_pick, p_binOp, p_fieldAddr, l_load, e_box, SY.get, SY.put, SY.ev, SY.mk, SY.nth, SY.lvl, SY.ini, wid, wids, dr, flat, at1, rdC, rdCt, bopInt, bop, pickAV, isArr, ctOf, leaveS, retS, killL, isDefs, resS, resAll, tup1, AV.scal, exq_go, exq_t, exq_f, ↓reduceIte, Nat.reduceLT, Nat.reduceEqDiff, Nat.reduceAdd, Nat.reduceSub, Bool.not_false, reduceCtorEq, true_and, Bool.and_self, List.length_nil, List.nil_append, Nat.zero_add, Nat.add_zero, Nat.zero_mul, Int.reduceLE, decide_true, decide_false, ti3, ti29, regAt, fi40, body40, Try.f40, ↓exq_cd cd_code40, ↓exq_cd cd_c40_1, ↓exq_cd cd_c40_2, ↓exq_cd cd_c40_3, ↓exq_cd cd_c40_5, ↓exq_cd cd_c40_6, ↓exq_cd cd_c40_7, ↓exq_cd cd_c40_9, r40_1, r40_5, r40_9]
    rw [chk_neg (fun h => by have := h.2.2.2.1; omega)]
    exact Res.val _ _
  by_cases h5 : c < 0
  · (try rw [exh]); simp (maxSteps := 4000000) only [h1, h2, h3, h4, h5, stops, inK, stepF, frsF, frF, itemF, codeF, condF, opsF, opsW, opF, stepS, wtS, gdst, gdl, sopF, pv, evq, quiet, p_move, p_assign, p_pick, p_binOp, p_fieldAddr, l_load, e_box, SY.get, SY.put, SY.ev, SY.mk, SY.nth, SY.lvl, SY.ini, wid, wids, dr, flat, at1, rdC, rdCt, bopInt, bop, pickAV, isArr, ctOf, leaveS, retS, killL, isDefs, resS, resAll, tup1, AV.scal, exq_go, exq_t, exq_f, ↓reduceIte, Nat.reduceLT, Nat.reduceEqDiff, Nat.reduceAdd, Nat.reduceSub, Bool.not_false, reduceCtorEq, true_and, Bool.and_self, List.length_nil, List.nil_append, Nat.zero_add, Nat.add_zero, Nat.zero_mul, Int.reduceLE, decide_true, decide_false, ti3, ti29, regAt, fi40, body40, Try.f40, ↓exq_cd cd_code40, ↓exq_cd cd_c40_1, ↓exq_cd cd_c40_2, ↓exq_cd cd_c40_3, ↓exq_cd cd_c40_5, ↓exq_cd cd_c40_6, ↓exq_cd cd_c40_7, ↓exq_cd cd_c40_9, r40_1, r40_5, r40_9]
    rw [chk_neg (fun h => by have := h.2.2.2.2.1; omega)]
    exact Res.val _ _
  by_cases h6 : 2147483647 < c
  · (try rw [exh]); simp (maxSteps := 4000000) only [h1, h2, h3, h4, h5, h6, stops, inK, stepF, frsF, frF, itemF, codeF, condF, opsF, opsW, opF, stepS, wtS, gdst, gdl, sopF, pv, evq, quiet, p_move, p_assign, p_pick, p_binOp, p_fieldAddr, l_load, e_box, SY.get, SY.put, SY.ev, SY.mk, SY.nth, SY.lvl, SY.ini, wid, wids, dr, flat, at1, rdC, rdCt, bopInt, bop, pickAV, isArr, ctOf, leaveS, retS, killL, isDefs, resS, resAll, tup1, AV.scal, exq_go, exq_t, exq_f, ↓reduceIte, Nat.reduceLT, Nat.reduceEqDiff, Nat.reduceAdd, Nat.reduceSub, Bool.not_false, reduceCtorEq, true_and, Bool.and_self, List.length_nil, List.nil_append, Nat.zero_add, Nat.add_zero, Nat.zero_mul, Int.reduceLE, decide_true, decide_false, ti3, ti29, regAt, fi40, body40, Try.f40, ↓exq_cd cd_code40, ↓exq_cd cd_c40_1, ↓exq_cd cd_c40_2, ↓exq_cd cd_c40_3, ↓exq_cd cd_c40_5, ↓exq_cd cd_c40_6, ↓exq_cd cd_c40_7, ↓exq_cd cd_c40_9, r40_1, r40_5, r40_9]
    rw [chk_neg (fun h => by have := h.2.2.2.2.2; omega)]
    exact Res.val _ _
  · (try rw [exh]); simp (maxSteps := 4000000) only [h1, h2, h3, h4, h5, h6, stops, inK, stepF, frsF, frF, itemF, codeF, condF, opsF, opsW, opF, stepS, wtS, gdst, gdl, sopF, pv, evq, quiet, p_move, p_assign, p_pick, p_binOp, p_fieldAddr, l_load, e_box, SY.get, SY.put, SY.ev, SY.mk, SY.nth, SY.lvl, SY.ini, wid, wids, dr, flat, at1, rdC, rdCt, bopInt, bop, pickAV, isArr, ctOf, leaveS, retS, killL, isDefs, resS, resAll, tup1, AV.scal, exq_go, exq_f, ↓reduceIte, Nat.reduceLT, Nat.reduceEqDiff, Nat.reduceAdd, Nat.reduceSub, Bool.not_false, reduceCtorEq, true_and, Bool.and_self, List.length_nil, List.nil_append, Nat.zero_add, Nat.add_zero, Nat.zero_mul, Int.reduceLE, decide_true, decide_false, ti3, ti29, regAt, fi40, body40, Try.f40, ↓exq_cd cd_code40, ↓exq_cd cd_c40_1, ↓exq_cd cd_c40_2, ↓exq_cd cd_c40_3, ↓exq_cd cd_c40_5, ↓exq_cd cd_c40_6, ↓exq_cd cd_c40_4, ↓exq_cd cd_c40_10, r40_1, r40_5, r40_10]
    rw [chk_pos ⟨by omega, by omega, by omega, by omega, by omega, by omega⟩]
    exact Res.val _ _
theorem rchk_ok : SpecOk Try.prog (plOf pls) 40 sChk := by
  refine ⟨_, fi40, fun args r bl1 h => ?_⟩
  unfold sChk at h
  split at h
  · simp only [Option.some.injEq, Prod.mk.injEq, true_and] at h
    obtain ⟨rfl, rfl⟩ := h
    exact ⟨by simp, fun C _ _ => rchk_run C _ _ _⟩
  · cases h
def kR0 : KT := ktOf [(40, sChk)]
theorem kR0_ok : KOk Try.prog (plOf pls) kR0 := ktOf_ok plsOk fun x hx => by
  simp only [List.mem_cons, List.not_mem_nil, or_false] at hx
  subst hx
  exact rchk_ok
def tI (s : Nat) (t : Bool) (rs : List (List AV)) (c : Option Nat) (i : Nat) : TM := [(s, .v (.int .i64 i)), (0, .imr t 3 rs c)]
theorem tI_lv {rs : List (List AV)} (hf : FlatR rs) (s : Nat) (t : Bool) (c : Option Nat) (i N : Nat) : lvT N true (tI s t rs c i) = true := by
  cases t <;> simp only [tI, lvT, lvB, tB, hf.lv, Bool.and_true]
def lastR (rs : List (List AV)) (i : Nat) : Int := if i = 0 then 0 else idR (rowA rs (i - 1))
set_option maxRecDepth 100000 in
set_option maxHeartbeats 4000000 in
theorem rvchk_run (C : Ctx) (hC : C.β.b = []) (t : Bool) (rs : List (List AV)) (c : Option Nat) (hm : rs.all isM = true) (hx : rs.length < 4611686018427387904) : Rch Try.prog (plOf pls) C (conf0 26 ⟨34, [.tmp 2], code26⟩ [.imr t 3 rs c] []) (Res (.v (.int .i64 (vchk rs))) []) := by
  have hf := isM_flat hm
  refine ExQ_ok [] 2000 plsOk kR0_ok ?_
  simp only [conf0]
  (try rw [exh]); simp (maxSteps := 4000000) only [kR0, stops, inK, stepF, frsF, frF, itemF, codeF, opsF, opsW, opF, wtS, sopF, pv, p_assign, SY.put, SY.ev, SY.mk, SY.ini, exq_go, ↓reduceIte, Nat.reduceLT, Nat.reduceAdd, true_and, Bool.and_self, Int.reduceLE, decide_true, ktOf, regAt, body26, Try.f26, ↓exq_cd cd_code26, ↓exq_cd cd_c26_1, ↓exq_cd cd_c26_2, ↓exq_cd cd_c26_3, ↓exq_cd cd_c26_5, ↓exq_cd cd_c26_6, ↓exq_cd cd_c26_7, r26_1, r26_5]
  repeat (refine And.intro (a := (_ = true)) (by first | (simp; done) | (simp; omega)) ?_)
  refine Rch.loop plsOk ?_
  refine Rch.fit1 hC [] (bl' := []) (tm' := tI 3 t rs c 0) rfl List.nodup_nil rfl ⟨rfl, congrArg (fun x => AV.imr t 3 x c) (hf.ren _).symm, trivial⟩ (tI_lv hf ..) trivial ?_
  refine loop_ind plsOk (α := {i : Nat // i ≤ rs.length}) (fun a => rs.length - a.1) (fun a => tI 3 t rs c a.1) (fun _ => []) (fun a => Res (.v (.int .i64 (if vOk (rs.drop a.1) (lastR rs a.1) = true then 0 else 2))) []) ?_ ⟨0, Nat.zero_le _⟩
  rintro ⟨i, hi⟩ ih
  simp only [tI] at hi ih ⊢
  by_cases h : (i : Int) < rs.length
  · have e := isM_row hm (i := i) (by omega)
    rw [vOk_step (by omega)]
    by_cases h1 : MemR (rowA rs i)
    case neg =>
      have h1' := chk_neg h1
      refine ExQ_ok [] 2000 plsOk kR0_ok ?_
      (try rw [exh]); simp (maxSteps := 4000000) only [kR0, sChk, h, e, h1', stops, inK, stepF, frsF, frF, itemF, codeF, condF, opsF, opsW, opF, callO, drF, drO, drW, drC, stepS, wtS, gdst, gdl, sopF, pv, bltF, callF, calleeS, popF, lopF, cls, lvA, rdl, p_move, p_assign, p_pick, p_binOp, p_indexAddr, p_len, l_load, SY.get, SY.put, SY.ev, SY.mk, SY.nth, dr, tk, pack, rdC, bopInt, bop, pickAV, leaveS, retS, killL, isDefs, resS, resAll, tup1, plk, exq_go, exq_t, ↓reduceIte, Nat.reduceLT, Nat.reduceEqDiff, Nat.reduceAdd, Nat.reduceSub, Bool.and_true, Bool.not_false, List.contains_nil, reduceCtorEq, true_and, Bool.false_eq_true, List.map_cons, List.map_nil, Bool.and_self, List.nil_append, List.append_nil, Int.toNat_natCast, Int.reduceEq, Int.reduceLE, decide_true, ktOf, conK, alive, lndL, lnd, lvB, lvL, okBls, shB, ren, not_false_eq_true, ti3, ti22, ti24, ti29, regAt, fi26, body26, Try.f26, ↓exq_cd cd_c26_8, ↓exq_cd cd_c26_9, ↓exq_cd cd_c26_11, ↓exq_cd cd_c26_12, ↓exq_cd cd_c26_10, ↓exq_cd cd_c26_14, ↓exq_cd cd_c26_16, ↓exq_cd cd_c26_17, ↓exq_cd cd_c26_18, ↓exq_cd cd_c26_19, ↓exq_cd cd_c26_21, r26_11, r26_17, r26_21, plA26, pl26]
      repeat (refine And.intro (a := (_ = true)) (by first | (simp; done) | (simp; omega)) ?_)
      rw [decide_eq_false h1]
      exact Res.val _ _
    have h1' := chk_pos h1
    have hl2 : lastR rs (i + 1) = idR (rowA rs i) := by simp [lastR]
    by_cases hi0 : i = 0
    · subst hi0
      have h2 : lastR rs 0 < idR (rowA rs 0) := by have := h1.1; simp only [lastR, if_true]; omega
      have gz : (0 : Int) < rs.length := by omega
      refine ExQ_ok [] 2000 plsOk kR0_ok ?_
      (try rw [exh]); simp (maxSteps := 4000000) only [kR0, sChk, e, h1', gz, stops, inK, stepF, frsF, frF, itemF, codeF, condF, opsF, opsW, opF, callO, drF, drO, drW, drC, wtS, gdst, gdl, sopF, pv, bltF, callF, calleeS, popF, lopF, cls, lvA, rdl, p_move, p_assign, p_pick, p_binOp, p_indexAddr, p_len, l_load, SY.get, SY.put, SY.ev, SY.mk, SY.nth, dr, tk, pack, rdC, ar, bopInt, bop, pickAV, plk, exq_go, exq_t, exq_f, ↓reduceIte, Nat.reduceLT, Nat.reduceEqDiff, Nat.reduceAdd, Nat.reduceSub, Bool.not_false, Bool.not_true, List.contains_nil, reduceCtorEq, true_and, Bool.false_eq_true, List.map_cons, List.map_nil, Bool.and_self, List.nil_append, List.append_nil, Nat.zero_add, Int.toNat_zero, Int.reduceLT, Int.reduceLE, Int.reduceAdd, Int.cast_ofNat_Int, decide_true, decide_false, ktOf, conK, alive, lndL, lnd, lvB, lvL, okBls, shB, ren, not_true_eq_false, ti3, ti22, ti24, ti29, regAt, body26, Try.f26, ↓exq_cd cd_c26_8, ↓exq_cd cd_c26_9, ↓exq_cd cd_c26_11, ↓exq_cd cd_c26_12, ↓exq_cd cd_c26_10, ↓exq_cd cd_c26_14, ↓exq_cd cd_c26_16, ↓exq_cd cd_c26_17, ↓exq_cd cd_c26_18, ↓exq_cd cd_c26_15, r26_11, r26_17, r26_15, plA26, pl26]
      repeat (refine And.intro (a := (_ = true)) (by first | (simp; done) | (simp; omega)) ?_)
      rw [decide_eq_true h1, decide_eq_true h2, Bool.true_and, Bool.true_and, ← hl2]
      refine Rch.fit1 hC [] (bl' := []) (tm' := tI 3 t rs c 1) rfl List.nodup_nil rfl ⟨rfl, congrArg (fun x => AV.imr t 3 x c) (hf.ren _).symm, trivial⟩ (tI_lv hf ..) trivial ?_
      exact ih ⟨1, by omega⟩ (by simp only; omega)
    obtain ⟨j, rfl⟩ : ∃ j, i = j + 1 := ⟨i - 1, by omega⟩
    have e' := isM_row hm (i := j) (by omega)
    have g0 : (0 : Int) < ((j + 1 : Nat) : Int) := by omega
    have g1 : ((j + 1 : Nat) : Int) - 1 = (j : Int) := by omega
    have hl1 : lastR rs (j + 1) = idR (rowA rs j) := by simp [lastR]
    rw [hl1]
    by_cases h2 : idR (rowA rs j) < idR (rowA rs (j + 1))
    case neg =>
      have g2 : idR (rowA rs (j + 1)) ≤ idR (rowA rs j) := by omega
      refine ExQ_ok [] 2000 plsOk kR0_ok ?_
      (try rw [exh]); simp (maxSteps := 4000000) only [kR0, sChk, h, e, e', h1', g0, g1, g2, stops, inK, stepF, frsF, frF, itemF, codeF, condF, opsF, opsW, opF, callO, drF, drO, drW, drC, stepS, wtS, gdst, gdl, sopF, pv, bltF, callF, calleeS, popF, lopF, cls, lvA, rdl, p_move, p_assign, p_pick, p_binOp, p_fieldAddr, p_indexAddr, p_len, l_load, SY.get, SY.put, SY.ev, SY.mk, SY.nth, dr, tk, at1, pack, rdC, ar, bopInt, bop, pickAV, leaveS, retS, killL, isDefs, resS, resAll, tup1, AV.scal, plk, exq_go, exq_t, exq_f, ↓reduceIte, Nat.reduceLT, Nat.reduceEqDiff, Nat.reduceAdd, Nat.reduceSub, Bool.and_true, Bool.not_false, Bool.not_true, List.contains_nil, reduceCtorEq, true_and, Bool.false_eq_true, List.map_cons, List.map_nil, Bool.and_self, List.nil_append, List.append_nil, Nat.add_zero, Int.toNat_natCast, Int.reduceLE, decide_true, decide_false, ktOf, conK, alive, lndL, lnd, lvB, lvL, okBls, shB, ren, not_true_eq_false, ti3, ti22, ti24, ti29, regAt, fi26, body26, Try.f26, ↓exq_cd cd_c26_8, ↓exq_cd cd_c26_9, ↓exq_cd cd_c26_11, ↓exq_cd cd_c26_12, ↓exq_cd cd_c26_10, ↓exq_cd cd_c26_14, ↓exq_cd cd_c26_16, ↓exq_cd cd_c26_17, ↓exq_cd cd_c26_18, ↓exq_cd cd_c26_19, ↓exq_cd cd_c26_21, r26_11, r26_17, r26_21, plA26, pl26]
      repeat (refine And.intro (a := (_ = true)) (by first | (simp; done) | (simp; omega)) ?_)
      rw [decide_eq_false h2, Bool.false_and, Bool.and_false]
      exact Res.val _ _
    have g2 : ¬ idR (rowA rs (j + 1)) ≤ idR (rowA rs j) := by omega
    refine ExQ_ok [] 2000 plsOk kR0_ok ?_
    (try rw [exh]); simp (maxSteps := 4000000) only [kR0, sChk, h, e, e', h1', g0, g1, g2, stops, inK, stepF, frsF, frF, itemF, codeF, condF, opsF, opsW, opF, callO, drF, drO, drW, drC, wtS, gdst, gdl, sopF, pv, bltF, callF, calleeS, popF, lopF, cls, lvA, rdl, p_move, p_assign, p_pick, p_binOp, p_fieldAddr, p_indexAddr, p_len, l_load, SY.get, SY.put, SY.ev, SY.mk, SY.nth, dr, tk, at1, pack, rdC, ar, bopInt, bop, pickAV, AV.scal, plk, exq_go, exq_t, exq_f, ↓reduceIte, Nat.reduceLT, Nat.reduceEqDiff, Nat.reduceAdd, Nat.reduceSub, Bool.and_true, Bool.not_false, Bool.not_true, List.contains_nil, reduceCtorEq, true_and, Bool.false_eq_true, List.map_cons, List.map_nil, Bool.and_self, List.nil_append, List.append_nil, Nat.add_zero, Int.toNat_natCast, Int.reduceLE, decide_true, decide_false, ktOf, conK, alive, lndL, lnd, lvB, lvL, okBls, shB, ren, not_true_eq_false, ti3, ti22, ti24, ti29, regAt, body26, Try.f26, ↓exq_cd cd_c26_8, ↓exq_cd cd_c26_9, ↓exq_cd cd_c26_11, ↓exq_cd cd_c26_12, ↓exq_cd cd_c26_10, ↓exq_cd cd_c26_14, ↓exq_cd cd_c26_16, ↓exq_cd cd_c26_17, ↓exq_cd cd_c26_18, ↓exq_cd cd_c26_15, r26_11, r26_17, r26_15, plA26, pl26]
    repeat (refine And.intro (a := (_ = true)) (by first | (simp; done) | (simp; omega)) ?_)
    rw [decide_eq_true h1, decide_eq_true h2, Bool.true_and, Bool.true_and, ← hl2]
    refine Rch.fit1 hC [] (bl' := []) (tm' := tI 3 t rs c (j + 1 + 1)) rfl List.nodup_nil rfl ⟨rfl, congrArg (fun x => AV.imr t 3 x c) (hf.ren _).symm, trivial⟩ (tI_lv hf ..) trivial ?_
    exact ih ⟨j + 1 + 1, by omega⟩ (by simp only; omega)
  · refine ExQ_ok [] 2000 plsOk kR0_ok ?_
    (try rw [exh]); simp (maxSteps := 4000000) only [kR0, h, stops, inK, stepF, frsF, frF, itemF, codeF, condF, opsF, opsW, opF, stepS, wtS, sopF, pv, bltF, callF, p_move, p_assign, p_binOp, p_len, SY.get, SY.put, SY.ev, SY.mk, bopInt, bop, leaveS, retS, exitS, killL, isDefs, resS, resAll, tup1, exq_go, exq_f, ↓reduceIte, Nat.reduceLT, Nat.reduceEqDiff, Nat.reduceAdd, reduceCtorEq, true_and, Bool.and_self, Int.reduceLE, decide_true, decide_false, ktOf, ti3, ti22, regAt, fi26, body26, Try.f26, ↓exq_cd cd_c26_8, ↓exq_cd cd_c26_9, ↓exq_cd cd_c26_11, ↓exq_cd cd_c26_12, ↓exq_cd cd_c26_4, ↓exq_cd cd_c26_22, r26_11, r26_22]
    repeat (refine And.intro (a := (_ = true)) (by first | (simp; done) | (simp; omega)) ?_)
    rw [List.drop_eq_nil_of_le (by omega)]
    exact Res.val _ _
theorem rvchk_ok : SpecOk Try.prog (plOf pls) 26 sV := by
  refine ⟨_, fi26, fun args r bl1 h => ?_⟩
  unfold sV at h
  split at h
  · simp only [Option.some.injEq, Prod.mk.injEq, Bool.and_eq_true, decide_eq_true_eq] at h
    obtain ⟨⟨h1, h2⟩, rfl, rfl⟩ := h
    exact ⟨by simp, fun C hC _ => rvchk_run C hC _ _ _ h1 h2⟩
  · cases h
def wrdR (rs : List (List AV)) (k : Int) : AV := .tup [.agg [.v (.int .i64 (if fndR rs k = true then idR (rowA rs (posR rs k)) else 0)), .v (.int .i64 (if fndR rs k = true then stR (rowA rs (posR rs k)) else 0)), .v (.int .i64 (if fndR rs k = true then icR (rowA rs (posR rs k)) else 0))], .v (.bool (fndR rs k))]
def sWord : List AV → Option (Bool × AV × Bls)
  | [.imr _ 3 rs _, .v (.int .i64 k)] => some (rs.all isM && (decide (rs.length < 4611686018427387904) && vOk rs 0), wrdR rs k, [])
  | _ => none
def tJ (t : Bool) (rs : List (List AV)) (c : Option Nat) (k : Int) (i : Nat) : TM := [(6, .v (.int .i64 i)), (5, .v (.bool false)), (4, .ptr 0 0 3 0), (1, .v (.int .i64 k)), (0, .imr t 3 rs c)]
theorem tJ_lv {rs : List (List AV)} (hf : FlatR rs) (t : Bool) (c : Option Nat) (k : Int) (i N : Nat) : lvT (N + 1) true (tJ t rs c k i) = true := by
  cases t <;> simp [tJ, lvT, lvB, tB, hf.lv]
def zB : Bls := [some (.lit [.v (.int .i64 0), .v (.int .i64 0), .v (.int .i64 0)])]
set_option maxRecDepth 100000 in
set_option maxHeartbeats 4000000 in
theorem word_run (C : Ctx) (hC : C.β.b = []) (t : Bool) (rs : List (List AV)) (c : Option Nat) (k : Int) (hm : rs.all isM = true) (hx : rs.length < 4611686018427387904) (hv : vOk rs 0 = true) : Rch Try.prog (plOf pls) C (conf0 42 ⟨25, [.cell 4 29, .tmp 5], code42⟩ [.imr t 3 rs c, .v (.int .i64 k)] []) (Res (wrdR rs k) []) := by
  have hf := isM_flat hm
  have hs := posR_iff (k := k) (vOk_from hv).2
  refine ExQ_ok [] 2000 plsOk kR0_ok ?_
  simp only [conf0]
  (try rw [exh]); simp (maxSteps := 4000000) only [kR0, stops, inK, stepF, frsF, frF, itemF, codeF, opsF, opsW, opF, wtS, sopF, pv, evq, quiet, p_assign, e_alloc, SY.put, SY.ev, SY.mk, SY.ini, isArr, ctOf, exq_go, ↓reduceIte, Nat.reduceLT, Nat.reduceAdd, true_and, Bool.and_self, List.length_nil, List.nil_append, Nat.zero_add, Int.reduceLE, decide_true, ktOf, ti29, regAt, body42, Try.f42, ↓exq_cd cd_code42, ↓exq_cd cd_c42_1, ↓exq_cd cd_c42_2, ↓exq_cd cd_c42_3, ↓exq_cd cd_c42_5, ↓exq_cd cd_c42_6, ↓exq_cd cd_c42_7, r42_1, r42_5]
  repeat (refine And.intro (a := (_ = true)) (by first | (simp; done) | (simp; omega)) ?_)
  refine Rch.loop plsOk ?_
  refine Rch.fit1 hC [0] (bl' := zB) (tm' := tJ t rs c k 0) rfl (by decide) rfl ⟨rfl, rfl, rfl, rfl, congrArg (fun x => AV.imr t 3 x c) (hf.ren _).symm, trivial⟩ (tJ_lv hf ..) ⟨⟨rfl, rfl⟩, trivial⟩ ?_
  refine loop_ind plsOk (α := {i : Nat // i ≤ rs.length ∧ (fndR rs k = true → i ≤ posR rs k)}) (fun a => rs.length - a.1) (fun a => tJ t rs c k a.1) (fun _ => zB) (fun a => Res (wrdR rs k) []) ?_ ⟨0, Nat.zero_le _, fun _ => Nat.zero_le _⟩
  rintro ⟨i, hi, hip⟩ ih
  simp only [tJ, zB] at hi hip ih ⊢
  by_cases h : (i : Int) < rs.length
  · have e := isM_row hm (i := i) (by omega)
    by_cases h1 : idR (rowA rs i) = k
    · have e1 : ¬ i < posR rs k := fun h2 => by have := (hs i (by omega)).2 h2; omega
      have e2 : i ≤ posR rs k := by
        rcases Nat.lt_or_ge (posR rs k) i with h2 | h2
        · exfalso
          have h3 := (vOk_from hv).2 (posR rs k) i h2 (by omega)
          have h4 := (hs (posR rs k) (by omega)).1 (by omega)
          omega
        · exact h2
      have e3 : posR rs k = i := by omega
      have hfd : fndR rs k = true := decide_eq_true ⟨by omega, by rw [e3]; exact h1⟩
      have h1' := h1
      refine ExQ_ok [] 2000 plsOk kR0_ok ?_
      (try rw [exh]); simp (maxSteps := 4000000) only [kR0, h, e, h1, stops, stepF, frsF, frF, itemF, codeF, condF, opsF, opsW, opF, stepS, wtS, sopF, pv, evq, bltF, callF, quiet, p_move, p_assign, p_binOp, p_fieldAddr, p_indexAddr, p_len, l_load, e_store, SY.get, SY.put, SY.ev, SY.mk, SY.nth, SY.lvl, SY.setl, wid, wids, dr, tk, flat, at1, pack, rdC, rdCt, wrC, wrCt, bopInt, bop, leaveS, retS, killL, isDefs, resS, resAll, tup1, AV.scal, exq_go, exq_t, ↓reduceIte, Nat.reduceLT, Nat.reduceEqDiff, Nat.reduceAdd, Nat.reduceSub, Bool.and_true, reduceCtorEq, true_and, Bool.and_self, List.append_nil, Nat.add_zero, Nat.zero_mul, Int.toNat_natCast, decide_true, ktOf, ti3, ti22, ti29, regAt, fi42, body42, Try.f42, ↓exq_cd cd_c42_8, ↓exq_cd cd_c42_9, ↓exq_cd cd_c42_11, ↓exq_cd cd_c42_12, ↓exq_cd cd_c42_10, ↓exq_cd cd_c42_14, ↓exq_cd cd_c42_16, ↓exq_cd cd_c42_17, ↓exq_cd cd_c42_18, ↓exq_cd cd_c42_19, ↓exq_cd cd_c42_21, r42_11, r42_17, r42_21]
      repeat (refine And.intro (a := (_ = true)) (by first | (simp; done) | (simp; omega)) ?_)
      rw [wrdR, hfd, e3, h1]
      exact ⟨[], List.nodup_nil, rfl, rfl, fun l c h => by simp at h⟩
    · refine ExQ_ok [] 2000 plsOk kR0_ok ?_
      (try rw [exh]); simp (maxSteps := 4000000) only [kR0, h, e, h1, stops, inK, stepF, frsF, frF, itemF, codeF, condF, opsF, opsW, opF, wtS, sopF, pv, bltF, callF, p_move, p_assign, p_binOp, p_fieldAddr, p_indexAddr, p_len, l_load, SY.get, SY.put, SY.ev, SY.mk, SY.nth, dr, at1, rdC, ar, bopInt, bop, AV.scal, exq_go, exq_t, exq_f, ↓reduceIte, Nat.reduceLT, Nat.reduceEqDiff, Nat.reduceAdd, Bool.and_true, reduceCtorEq, true_and, Bool.and_self, Nat.add_zero, Int.toNat_natCast, Int.reduceLE, decide_true, decide_false, ktOf, ti3, ti22, ti29, regAt, body42, Try.f42, ↓exq_cd cd_c42_8, ↓exq_cd cd_c42_9, ↓exq_cd cd_c42_11, ↓exq_cd cd_c42_12, ↓exq_cd cd_c42_10, ↓exq_cd cd_c42_14, ↓exq_cd cd_c42_16, ↓exq_cd cd_c42_17, ↓exq_cd cd_c42_18, ↓exq_cd cd_c42_15, r42_11, r42_17, r42_15]
      repeat (refine And.intro (a := (_ = true)) (by first | (simp; done) | (simp; omega)) ?_)
      refine Rch.fit1 hC [0] (bl' := zB) (tm' := tJ t rs c k (i + 1)) rfl (by decide) rfl ⟨rfl, rfl, rfl, rfl, congrArg (fun x => AV.imr t 3 x c) (hf.ren _).symm, trivial⟩ (tJ_lv hf ..) ⟨⟨rfl, rfl⟩, trivial⟩ ?_
      exact ih ⟨i + 1, by omega, fun hfd => by
        have h2 := hip hfd
        have h3 := (of_decide_eq_true hfd).2
        rcases Nat.lt_or_ge i (posR rs k) with h4 | h4
        · exact h4
        · exact absurd (by rw [show i = posR rs k by omega]; exact h3) h1⟩ (by simp only; omega)
  · have hfd : fndR rs k = false := by
      cases hfd : fndR rs k with
      | false => rfl
      | true =>
        have h2 := hip hfd
        have h3 := (of_decide_eq_true hfd).1
        omega
    refine ExQ_ok [] 2000 plsOk kR0_ok ?_
    (try rw [exh]); simp (maxSteps := 4000000) only [kR0, h, stops, inK, stepF, frsF, frF, itemF, codeF, condF, opsF, opsW, opF, stepS, wtS, sopF, pv, evq, bltF, callF, quiet, p_move, p_assign, p_binOp, p_build, p_len, e_store, SY.get, SY.put, SY.ev, SY.mk, SY.lvl, SY.setl, wid, wids, dr, tk, flat, pack, rdC, rdCt, wrC, wrCt, bopInt, bop, fillA, nz, leaveS, retS, exitS, killL, isDefs, resS, resAll, tup1, exq_go, exq_f, ↓reduceIte, Nat.reduceLT, Nat.reduceEqDiff, Nat.reduceAdd, Nat.reduceSub, reduceCtorEq, true_and, List.map_nil, Bool.and_self, List.append_nil, Nat.add_zero, Nat.zero_mul, decide_false, ktOf, ti3, ti22, ti29, regAt, fi42, body42, Try.f42, ↓exq_cd cd_c42_8, ↓exq_cd cd_c42_9, ↓exq_cd cd_c42_11, ↓exq_cd cd_c42_12, ↓exq_cd cd_c42_4, ↓exq_cd cd_c42_22, r42_11, r42_22]
    repeat (refine And.intro (a := (_ = true)) (by first | (simp; done) | (simp; omega)) ?_)
    rw [wrdR, hfd]
    exact ⟨[], List.nodup_nil, rfl, rfl, fun l c h => by simp at h⟩
theorem word_ok : SpecOk Try.prog (plOf pls) 42 sWord := by
  refine ⟨_, fi42, fun args r bl1 h => ?_⟩
  unfold sWord at h
  split at h
  · simp only [Option.some.injEq, Prod.mk.injEq, Bool.and_eq_true, decide_eq_true_eq] at h
    obtain ⟨⟨h1, h2, h3⟩, rfl, rfl⟩ := h
    exact ⟨by simp, fun C hC _ => word_run C hC _ _ _ _ h1 h2 h3⟩
  · cases h
def kR1 : KT := ktOf [(26, sV), (42, sWord)]
theorem kR1_ok : KOk Try.prog (plOf pls) kR1 := ktOf_ok plsOk fun x hx => by
  simp only [List.mem_cons, List.not_mem_nil, or_false] at hx
  rcases hx with rfl | rfl
  · exact rvchk_ok
  · exact word_ok
set_option maxRecDepth 100000 in
set_option maxHeartbeats 4000000 in
theorem rget_run (C : Ctx) (hC : C.β.b = []) (t : Bool) (rs : List (List AV)) (c : Option Nat) (k : Int) (hm : rs.all isM = true) (hx : rs.length < 4611686018427387904) : Rch Try.prog (plOf pls) C (conf0 23 ⟨22, [.cell 4 29, .tmp 5], code23⟩ [.imr t 3 rs c, .v (.int .i64 k)] []) (Res (getR rs k) []) := by
  have hf := isM_flat hm
  by_cases hv : vOk rs 0 = true
  case neg =>
    have e : vchk rs = 2 := if_neg hv
    have g : gotB rs k = false := by rw [gotB, Bool.eq_false_iff.2 hv]; rfl
    have gE : getE rs k = 2 := if_neg hv
    refine ExQ_ok [] 2000 plsOk kR1_ok ?_
    simp only [conf0]
    (try rw [exh]); simp (maxSteps := 4000000) only [kR1, sV, hf.lv, e, hm, stops, inK, stepF, frsF, frF, itemF, codeF, condF, opsF, opsW, opF, callO, stepS, wtS, sopF, pv, evq, callF, calleeS, quiet, p_move, p_assign, p_binOp, p_build, e_store, e_alloc, SY.get, SY.put, SY.ev, SY.mk, SY.lvl, SY.setl, SY.ini, wid, wids, dr, tk, flat, pack, rdC, rdCt, wrC, wrCt, bopInt, bop, fillA, nz, isArr, ctOf, leaveS, retS, killL, isDefs, resS, resAll, tup1, exq_go, exq_t, ↓reduceIte, Nat.reduceLT, Nat.reduceEqDiff, Nat.reduceAdd, Nat.reduceSub, Bool.and_true, Bool.true_and, reduceCtorEq, true_and, List.map_cons, List.map_nil, Bool.and_self, List.length_nil, List.nil_append, List.append_nil, Nat.zero_add, Nat.add_zero, Nat.zero_mul, Int.reduceEq, Int.reduceLE, decide_true, ktOf, conK, alive, lndL, lnd, lvB, tB_tt, okBls, shB, ren, not_false_eq_true, ti24, ti29, fi23, code23, Try.f23]
    repeat (refine And.intro (a := (_ = true)) (by first | (simp; done) | (simp; omega)) ?_)
    rw [getR, g, gE]
    exact ⟨[], List.nodup_nil, rfl, rfl, fun l c h => by simp at h⟩
  have e0 : vchk rs = 0 := if_pos hv
  cases hfd : fndR rs k with
  | true =>
    have g : gotB rs k = true := by rw [gotB, hv, hfd]; rfl
    have gE : getE rs k = 0 := by rw [getE, if_pos hv, if_pos hfd]
    refine ExQ_ok [] 2000 plsOk kR1_ok ?_
    simp only [conf0]
    (try rw [exh]); simp (maxSteps := 4000000) only [kR1, sV, sWord, hf.lv, e0, hm, hv, hfd, wrdR, stops, inK, stepF, frsF, frF, itemF, codeF, condF, opsF, opsW, opF, callO, stepS, wtS, sopF, pv, evq, callF, calleeS, quiet, p_move, p_assign, p_binOp, p_unOp, p_extract, l_load, e_store, e_alloc, SY.get, SY.put, SY.ev, SY.mk, SY.nth, SY.lvl, SY.setl, SY.ini, wid, wids, dr, tk, flat, pack, rdC, rdCt, wrC, wrCt, bopInt, bop, isArr, ctOf, leaveS, retS, killL, isDefs, resS, resAll, tup1, exq_go, exq_f, ↓reduceIte, Nat.reduceLT, Nat.reduceEqDiff, Nat.reduceAdd, Nat.reduceSub, Bool.and_true, Bool.true_and, Bool.not_true, reduceCtorEq, true_and, List.map_cons, List.map_nil, Bool.and_self, List.length_cons, List.length_nil, List.cons_append, List.nil_append, List.append_nil, Nat.zero_add, Nat.add_zero, Nat.zero_mul, Int.reduceLE, decide_true, decide_false, ktOf, conK, alive, lndL, lnd, lvB, lvL, tB_tt, okBls, shB, ren, renL, not_true_eq_false, ti24, ti29, fi23, code23, Try.f23]
    repeat (refine And.intro (a := (_ = true)) (by first | (simp; done) | (simp; omega)) ?_)
    rw [getR, g, gE]
    exact ⟨[], List.nodup_nil, rfl, rfl, fun l c h => by simp at h⟩
  | false =>
    have g : gotB rs k = false := by rw [gotB, hv, hfd]; rfl
    have gE : getE rs k = 6 := by rw [getE, if_pos hv, if_neg (by rw [hfd]; decide)]
    refine ExQ_ok [] 2000 plsOk kR1_ok ?_
    simp only [conf0]
    (try rw [exh]); simp (maxSteps := 4000000) only [kR1, sV, sWord, hf.lv, e0, hm, hv, hfd, wrdR, stops, inK, stepF, frsF, frF, itemF, codeF, condF, opsF, opsW, opF, callO, stepS, wtS, sopF, pv, evq, callF, calleeS, quiet, p_move, p_assign, p_binOp, p_unOp, p_extract, l_load, e_store, e_alloc, SY.get, SY.put, SY.ev, SY.mk, SY.nth, SY.lvl, SY.setl, SY.ini, wid, wids, dr, tk, flat, pack, rdC, rdCt, wrC, wrCt, bopInt, bop, isArr, ctOf, leaveS, retS, killL, isDefs, resS, resAll, tup1, exq_go, exq_t, exq_f, ↓reduceIte, Nat.reduceLT, Nat.reduceEqDiff, Nat.reduceAdd, Nat.reduceSub, Bool.and_true, Bool.true_and, Bool.not_false, reduceCtorEq, true_and, Bool.false_eq_true, List.map_cons, List.map_nil, Bool.and_self, List.length_cons, List.length_nil, List.cons_append, List.nil_append, List.append_nil, Nat.zero_add, Nat.add_zero, Nat.zero_mul, Int.reduceLE, decide_true, decide_false, ktOf, conK, alive, lndL, lnd, lvB, lvL, tB_tt, okBls, shB, ren, renL, not_true_eq_false, ti24, ti29, fi23, code23, Try.f23]
    repeat (refine And.intro (a := (_ = true)) (by first | (simp; done) | (simp; omega)) ?_)
    rw [getR, g, gE]
    exact ⟨[], List.nodup_nil, rfl, rfl, fun l c h => by simp at h⟩
theorem rget_ok : SpecOk Try.prog (plOf pls) 23 sGet := by
  refine ⟨_, fi23, fun args r bl1 h => ?_⟩
  unfold sGet at h
  split at h
  · simp only [Option.some.injEq, Prod.mk.injEq, Bool.and_eq_true, decide_eq_true_eq] at h
    obtain ⟨⟨h1, h2⟩, rfl, rfl⟩ := h
    exact ⟨by simp, fun C hC _ => rget_run C hC _ _ _ _ h1 h2⟩
  · cases h
end Go.Proofs.Ytdanhpemheldlaa

/- Views: the document's Live, Alive. -/
-- FUNCTIONS 24 25 47
namespace Go.Proofs.Ytdanhpemheldlaa
open Go Go.SY
def tU0 (t : Bool) (rs : List (List AV)) (c : Option Nat) : TM := [(3, .nil), (4, .v (.int .i64 0)), (0, .imr t 3 rs c)]
theorem tU0_lv {rs : List (List AV)} (hf : FlatR rs) (t : Bool) (c : Option Nat) (N : Nat) : lvT N true (tU0 t rs c) = true := by
  cases t <;> simp [tU0, lvT, lvB, tB, hf.lv]
def tU (t : Bool) (rs : List (List AV)) (c : Option Nat) (m i : Nat) : TM := [(3, .sl 0 0 1 m none), (4, .v (.int .i64 i)), (0, .imr t 3 rs c)]
theorem tU_lv {rs : List (List AV)} (hf : FlatR rs) (t : Bool) (c : Option Nat) (m i N : Nat) : lvT (N + 1) true (tU t rs c m i) = true := by
  cases t <;> simp [tU, lvT, lvB, tB, hf.lv]
def sRLive : List AV → Option (Bool × AV × Bls)
  | [.imr _ 3 rs _] => some (rs.all isM && decide (rs.length < 1000000), thoR pLive rs, thoB pLive rs)
  | _ => none
def sRAlive : List AV → Option (Bool × AV × Bls)
  | [.imr _ 3 rs _] => some (rs.all isM && decide (rs.length < 1000000), thoR pAlive rs, thoB pAlive rs)
  | _ => none

set_option maxRecDepth 100000 in
set_option maxHeartbeats 4000000 in
theorem rRLive_run (C : Ctx) (hC : C.β.b = []) (t : Bool) (rs : List (List AV)) (c : Option Nat) (hm : rs.all isM = true) (hx : rs.length < 1000000) : Rch Try.prog (plOf pls) C (conf0 24 ⟨30, [.tmp 2], code24⟩ [.imr t 3 rs c] []) (Res (thoR pLive rs) (thoB pLive rs)) := by
  have hf := isM_flat hm
  by_cases hv : vOk rs 0 = true
  case neg =>
    have e : vchk rs = 2 := if_neg hv
    have hpos : (0 : Int) < rs.length := by
      cases rs with
      | nil => exact absurd rfl hv
      | cons r q => simp only [List.length_cons]; omega
    refine ExQ_ok [] 2000 plsOk kR1_ok ?_
    simp only [conf0]
    (try rw [exh]); simp (maxSteps := 4000000) only [kR1, stops, inK, stepF, frsF, frF, itemF, codeF, opsF, opsW, opF, wtS, sopF, pv, p_assign, SY.put, SY.ev, SY.mk, SY.ini, exq_go, ↓reduceIte, Nat.reduceLT, Nat.reduceAdd, true_and, Bool.and_self, Int.reduceLE, decide_true, ktOf, regAt, body24, Try.f24, ↓exq_cd cd_code24, ↓exq_cd cd_c24_1, ↓exq_cd cd_c24_2, ↓exq_cd cd_c24_3, ↓exq_cd cd_c24_4, ↓exq_cd cd_c24_5, ↓exq_cd cd_c24_7, ↓exq_cd cd_c24_8, ↓exq_cd cd_c24_9, r24_1, r24_3, r24_7]
    repeat (refine And.intro (a := (_ = true)) (by first | (simp; done) | (simp; omega)) ?_)
    refine Rch.loop plsOk ?_
    refine ExQ_ok [] 2000 plsOk kR1_ok ?_
    (try rw [exh]); simp (maxSteps := 4000000) only [kR1, sV, hf.lv, e, hm, hpos, stops, inK, stepF, frsF, frF, itemF, codeF, condF, opsF, opsW, opF, callO, stepS, wtS, gdst, gdl, sopF, pv, bltF, callF, calleeS, p_move, p_assign, p_pick, p_binOp, p_len, SY.get, SY.put, SY.ev, SY.mk, bopInt, bop, pickAV, leaveS, retS, exitS, killL, isDefs, resS, resAll, tup1, exq_go, exq_t, exq_f, ↓reduceIte, Nat.reduceLT, Nat.reduceEqDiff, Nat.reduceAdd, Nat.reduceSub, Bool.and_true, Bool.true_and, Bool.not_true, reduceCtorEq, true_and, List.map_cons, List.map_nil, Bool.and_self, List.nil_append, List.append_nil, Int.reduceEq, Int.reduceLE, decide_true, decide_false, ktOf, conK, alive, lndL, lnd, lvB, tB_tt, okBls, shB, ren, ti3, ti22, ti24, regAt, fi24, body24, Try.f24, ↓exq_cd cd_c24_10, ↓exq_cd cd_c24_11, ↓exq_cd cd_c24_13, ↓exq_cd cd_c24_14, ↓exq_cd cd_c24_6, ↓exq_cd cd_c24_23, r24_13, r24_23]
    repeat (refine And.intro (a := (_ = true)) (by first | (simp; done) | (simp; omega)) ?_)
    rw [thoR, if_neg hv, thoB, if_neg hv]
    exact ⟨[], List.nodup_nil, rfl, rfl, fun l c h => by simp at h⟩
  have e0 : vchk rs = 0 := if_pos hv
  rw [thoR, if_pos hv, thoB, if_pos hv]
  refine ExQ_ok [] 2000 plsOk kR1_ok ?_
  simp only [conf0]
  (try rw [exh]); simp (maxSteps := 4000000) only [kR1, stops, inK, stepF, frsF, frF, itemF, codeF, opsF, opsW, opF, wtS, sopF, pv, p_assign, SY.put, SY.ev, SY.mk, SY.ini, exq_go, ↓reduceIte, Nat.reduceLT, Nat.reduceAdd, true_and, Bool.and_self, Int.reduceLE, decide_true, ktOf, regAt, body24, Try.f24, ↓exq_cd cd_code24, ↓exq_cd cd_c24_1, ↓exq_cd cd_c24_2, ↓exq_cd cd_c24_3, ↓exq_cd cd_c24_4, ↓exq_cd cd_c24_5, ↓exq_cd cd_c24_7, ↓exq_cd cd_c24_8, ↓exq_cd cd_c24_9, r24_1, r24_3, r24_7]
  repeat (refine And.intro (a := (_ = true)) (by first | (simp; done) | (simp; omega)) ?_)
  refine Rch.fit1 hC [] (bl' := []) (tm' := tU0 t rs c) rfl List.nodup_nil rfl ⟨rfl, rfl, congrArg (fun x => AV.imr t 3 x c) (hf.ren _).symm, trivial⟩ (tU0_lv hf ..) trivial ?_
  simp only [tU0]
  refine Rch.nilsl 3 0 1 .i64 rfl rfl ?_
  refine Rch.loop plsOk ?_
  refine Rch.fit1 hC [0] (bl' := [some (.num .i64 (idsR pLive (rs.take 0)))]) (tm' := tU t rs c 0 0) rfl (by decide) rfl ⟨rfl, rfl, congrArg (fun x => AV.imr t 3 x c) (hf.ren _).symm, trivial⟩ (tU_lv hf ..) ⟨⟨rfl, rfl⟩, trivial⟩ ?_
  refine loop_ind plsOk (α := {i : Nat // i ≤ rs.length}) (fun a => rs.length - a.1) (fun a => tU t rs c (idsR pLive (rs.take a.1)).length a.1) (fun a => [some (.num .i64 (idsR pLive (rs.take a.1)))]) (fun _ => Res (.sl 0 0 1 (idsR pLive rs).length none) [some (.num .i64 (idsR pLive rs))]) ?_ ⟨0, Nat.zero_le _⟩
  rintro ⟨i, hi⟩ ih
  simp only [tU] at hi ih ⊢
  by_cases h : (i : Int) < rs.length
  · have hi' : i < rs.length := by omega
    have e := isM_row hm hi'
    have hs := idsR_succ (p := pLive) hi'
    have hle := idsR_le (p := pLive) (rs := rs.take i)
    have hle2 : (rs.take i).length ≤ rs.length := by simp; omega
    have htk : (idsR pLive (rs.take i)).take (idsR pLive (rs.take i)).length = idsR pLive (rs.take i) := List.take_of_length_le (Nat.le_refl _)
    by_cases h1 : stR (rowA rs i) = 1
    · have hp : pLive (stR (rowA rs i)) = true := by simp [pLive, h1]
      rw [if_pos hp] at hs
      have hs' := hs.symm
      have hle3 := idsR_le (p := pLive) (rs := rs.take (i + 1))
      have hle4 : (rs.take (i + 1)).length ≤ rs.length := by simp; omega
      refine ExQ_ok [] 2000 plsOk kR1_ok ?_
      (try rw [exh]); simp (maxSteps := 4000000) only [kR1, sV, hf.lv, hm, e0, h, e, h1, htk, tk1, hs', stops, inK, stepF, frsF, frF, itemF, codeF, condF, opsF, opsW, opF, callO, stepS, wtS, gdst, gdl, sopF, pv, evq, bltF, callF, calleeS, quiet, p_move, p_assign, p_pick, p_binOp, p_fieldAddr, p_indexAddr, p_len, l_load, roomN, appNN, srcN, dstN, e_box, e_buildSlice, e_append, SY.get, SY.put, SY.ev, SY.mk, SY.nth, SY.lvl, SY.setl, SY.ini, wid, wids, dr, tk, flat, at1, pack, rdC, rdCt, wrC, ar, bopInt, bop, pickAV, fillA, numsAt, isArr, ctOf, numsAV, rep, elCt, killO, srcN, dstN, enterS, leaveS, retS, finishS, killL, isDefs, resS, resAll, tup1, AV.scal, exq_go, exq_t, ↓reduceIte, Nat.reduceLT, Nat.reduceLeDiff, Nat.reduceEqDiff, Nat.reduceAdd, Nat.reduceSub, Bool.and_true, Bool.true_and, Bool.not_false, Bool.not_true, List.contains_nil, reduceCtorEq, true_and, List.map_cons, List.map_nil, Bool.and_self, List.drop_zero, List.length_cons, List.length_nil, List.cons_append, List.nil_append, List.append_nil, Nat.zero_add, Nat.add_zero, Nat.zero_mul, Nat.mul_one, Int.toNat_natCast, Int.reduceLE, decide_true, ktOf, conK, alive, lndL, lnd, lvB, tB_tt, okBls, shB, ren, ti3, ti22, ti24, ti29, ti37, regAt, body24, Try.f24, fi47, body47, Try.f47, ↓exq_cd cd_c24_10, ↓exq_cd cd_c24_11, ↓exq_cd cd_c24_13, ↓exq_cd cd_c24_14, ↓exq_cd cd_c24_12, ↓exq_cd cd_c24_16, ↓exq_cd cd_c24_18, ↓exq_cd cd_c24_19, ↓exq_cd cd_c24_20, ↓exq_cd cd_c24_21, ↓exq_cd cd_c24_17, ↓exq_cd cd_code47, ↓exq_cd cd_c47_1, ↓exq_cd cd_c47_2, ↓exq_cd cd_c47_3, r24_13, r24_19, r24_21, r24_17, r47_1, r47_3]
      repeat (refine And.intro (a := (_ = true)) (by first | (simp; done) | (simp; omega)) ?_)
      refine Rch.fit1 hC [3] (bl' := [some (.num .i64 (idsR pLive (rs.take (i + 1))))]) (tm' := tU t rs c (idsR pLive (rs.take (i + 1))).length (i + 1)) rfl (by decide) rfl ⟨rfl, rfl, congrArg (fun x => AV.imr t 3 x c) (hf.ren _).symm, trivial⟩ (tU_lv hf ..) ⟨⟨rfl, rfl⟩, trivial⟩ ?_
      exact ih ⟨i + 1, by omega⟩ (by simp only; omega)
    by_cases h2 : stR (rowA rs i) = 2
    · have hp : pLive (stR (rowA rs i)) = true := by simp [pLive, h2]
      rw [if_pos hp] at hs
      have hs' := hs.symm
      have hle3 := idsR_le (p := pLive) (rs := rs.take (i + 1))
      have hle4 : (rs.take (i + 1)).length ≤ rs.length := by simp; omega
      refine ExQ_ok [] 2000 plsOk kR1_ok ?_
      (try rw [exh]); simp (maxSteps := 4000000) only [kR1, sV, hf.lv, hm, e0, h, e, h2, htk, tk1, hs', stops, inK, stepF, frsF, frF, itemF, codeF, condF, opsF, opsW, opF, callO, stepS, wtS, gdst, gdl, sopF, pv, evq, bltF, callF, calleeS, quiet, p_move, p_assign, p_pick, p_binOp, p_fieldAddr, p_indexAddr, p_len, l_load, roomN, appNN, srcN, dstN, e_box, e_buildSlice, e_append, SY.get, SY.put, SY.ev, SY.mk, SY.nth, SY.lvl, SY.setl, SY.ini, wid, wids, dr, tk, flat, at1, pack, rdC, rdCt, wrC, ar, bopInt, bop, pickAV, fillA, numsAt, isArr, ctOf, numsAV, rep, elCt, killO, srcN, dstN, enterS, leaveS, retS, finishS, killL, isDefs, resS, resAll, tup1, AV.scal, exq_go, exq_t, exq_f, ↓reduceIte, Nat.reduceLT, Nat.reduceLeDiff, Nat.reduceEqDiff, Nat.reduceAdd, Nat.reduceSub, Bool.and_true, Bool.true_and, Bool.not_false, Bool.not_true, List.contains_nil, reduceCtorEq, true_and, List.map_cons, List.map_nil, Bool.and_self, List.drop_zero, List.length_cons, List.length_nil, List.cons_append, List.nil_append, List.append_nil, Nat.zero_add, Nat.add_zero, Nat.zero_mul, Nat.mul_one, Int.toNat_natCast, Int.reduceEq, Int.reduceLE, decide_true, decide_false, ktOf, conK, alive, lndL, lnd, lvB, tB_tt, okBls, shB, ren, ti3, ti22, ti24, ti29, ti37, regAt, body24, Try.f24, fi47, body47, Try.f47, ↓exq_cd cd_c24_10, ↓exq_cd cd_c24_11, ↓exq_cd cd_c24_13, ↓exq_cd cd_c24_14, ↓exq_cd cd_c24_12, ↓exq_cd cd_c24_16, ↓exq_cd cd_c24_18, ↓exq_cd cd_c24_19, ↓exq_cd cd_c24_20, ↓exq_cd cd_c24_21, ↓exq_cd cd_c24_17, ↓exq_cd cd_code47, ↓exq_cd cd_c47_1, ↓exq_cd cd_c47_2, ↓exq_cd cd_c47_3, r24_13, r24_19, r24_21, r24_17, r47_1, r47_3]
      repeat (refine And.intro (a := (_ = true)) (by first | (simp; done) | (simp; omega)) ?_)
      refine Rch.fit1 hC [3] (bl' := [some (.num .i64 (idsR pLive (rs.take (i + 1))))]) (tm' := tU t rs c (idsR pLive (rs.take (i + 1))).length (i + 1)) rfl (by decide) rfl ⟨rfl, rfl, congrArg (fun x => AV.imr t 3 x c) (hf.ren _).symm, trivial⟩ (tU_lv hf ..) ⟨⟨rfl, rfl⟩, trivial⟩ ?_
      exact ih ⟨i + 1, by omega⟩ (by simp only; omega)
    · have hp : ¬ pLive (stR (rowA rs i)) = true := by simp [pLive, h1, h2]
      rw [if_neg hp, List.append_nil] at hs
      refine ExQ_ok [] 2000 plsOk kR1_ok ?_
      (try rw [exh]); simp (maxSteps := 4000000) only [kR1, sV, hf.lv, hm, e0, h, e, h1, h2, stops, inK, stepF, frsF, frF, itemF, codeF, condF, opsF, opsW, opF, callO, stepS, wtS, gdst, gdl, sopF, pv, evq, bltF, callF, calleeS, quiet, p_move, p_assign, p_pick, p_binOp, p_fieldAddr, p_indexAddr, p_len, l_load, e_box, SY.get, SY.put, SY.ev, SY.mk, SY.nth, SY.lvl, SY.ini, wid, wids, dr, tk, flat, at1, pack, rdC, rdCt, ar, bopInt, bop, pickAV, isArr, ctOf, enterS, leaveS, retS, finishS, killL, isDefs, resS, resAll, tup1, AV.scal, exq_go, exq_t, exq_f, ↓reduceIte, Nat.reduceLT, Nat.reduceLeDiff, Nat.reduceEqDiff, Nat.reduceAdd, Nat.reduceSub, Bool.and_true, Bool.true_and, Bool.not_false, Bool.not_true, List.contains_nil, reduceCtorEq, true_and, List.map_cons, List.map_nil, Bool.and_self, List.length_cons, List.length_nil, List.cons_append, List.nil_append, List.append_nil, Nat.zero_add, Nat.add_zero, Nat.zero_mul, Int.toNat_natCast, Int.reduceLE, decide_true, decide_false, ktOf, conK, alive, lndL, lnd, lvB, tB_tt, okBls, shB, ren, ti3, ti22, ti24, ti29, regAt, body24, Try.f24, fi47, body47, Try.f47, ↓exq_cd cd_c24_10, ↓exq_cd cd_c24_11, ↓exq_cd cd_c24_13, ↓exq_cd cd_c24_14, ↓exq_cd cd_c24_12, ↓exq_cd cd_c24_16, ↓exq_cd cd_c24_18, ↓exq_cd cd_c24_19, ↓exq_cd cd_c24_20, ↓exq_cd cd_c24_17, ↓exq_cd cd_code47, ↓exq_cd cd_c47_1, ↓exq_cd cd_c47_2, ↓exq_cd cd_c47_3, r24_13, r24_19, r24_17, r47_1, r47_3]
      repeat (refine And.intro (a := (_ = true)) (by first | (simp; done) | (simp; omega)) ?_)
      refine Rch.fit1 hC [0] (bl' := [some (.num .i64 (idsR pLive (rs.take (i + 1))))]) (tm' := tU t rs c (idsR pLive (rs.take (i + 1))).length (i + 1)) rfl (by decide) rfl ⟨by rw [hs]; exact rfl, rfl, congrArg (fun x => AV.imr t 3 x c) (hf.ren _).symm, trivial⟩ (tU_lv hf ..) ⟨⟨by rw [hs]; exact rfl, rfl⟩, trivial⟩ ?_
      exact ih ⟨i + 1, by omega⟩ (by simp only; omega)
  · obtain rfl : i = rs.length := by omega
    refine ExQ_ok [] 2000 plsOk kR1_ok ?_
    (try rw [exh]); simp (maxSteps := 4000000) only [kR1, h, stops, stepF, frsF, frF, itemF, codeF, condF, opsF, opsW, opF, stepS, wtS, gdst, gdl, sopF, pv, bltF, callF, p_move, p_assign, p_pick, p_binOp, p_len, SY.get, SY.put, SY.ev, SY.mk, bopInt, bop, pickAV, leaveS, retS, exitS, killL, isDefs, resS, resAll, tup1, exq_go, exq_f, ↓reduceIte, Nat.reduceLT, Nat.reduceEqDiff, Nat.reduceAdd, Nat.reduceSub, Bool.not_true, reduceCtorEq, true_and, decide_false, ktOf, ti3, ti22, regAt, fi24, body24, Try.f24, ↓exq_cd cd_c24_10, ↓exq_cd cd_c24_11, ↓exq_cd cd_c24_13, ↓exq_cd cd_c24_14, ↓exq_cd cd_c24_6, ↓exq_cd cd_c24_23, r24_13, r24_23]
    repeat (refine And.intro (a := (_ = true)) (by first | (simp; done) | (simp; omega)) ?_)
    rw [List.take_of_length_le (Nat.le_refl _)]
    refine ⟨[0], by simp, rfl, rfl, fun l c h => ?_⟩
    match l with
    | 0 => simp at h; subst h; rfl
    | l + 1 => simp at h
theorem rRLive_ok : SpecOk Try.prog (plOf pls) 24 sRLive := by
  refine ⟨_, fi24, fun args r bl1 h => ?_⟩
  unfold sRLive at h
  split at h
  · simp only [Option.some.injEq, Prod.mk.injEq, Bool.and_eq_true, decide_eq_true_eq] at h
    obtain ⟨⟨h1, h2⟩, rfl, rfl⟩ := h
    exact ⟨by simp, fun C hC _ => rRLive_run C hC _ _ _ h1 h2⟩
  · cases h

set_option maxRecDepth 100000 in
set_option maxHeartbeats 4000000 in
theorem rRAlive_run (C : Ctx) (hC : C.β.b = []) (t : Bool) (rs : List (List AV)) (c : Option Nat) (hm : rs.all isM = true) (hx : rs.length < 1000000) : Rch Try.prog (plOf pls) C (conf0 25 ⟨31, [.tmp 2], code25⟩ [.imr t 3 rs c] []) (Res (thoR pAlive rs) (thoB pAlive rs)) := by
  have hf := isM_flat hm
  by_cases hv : vOk rs 0 = true
  case neg =>
    have e : vchk rs = 2 := if_neg hv
    have hpos : (0 : Int) < rs.length := by
      cases rs with
      | nil => exact absurd rfl hv
      | cons r q => simp only [List.length_cons]; omega
    refine ExQ_ok [] 2000 plsOk kR1_ok ?_
    simp only [conf0]
    (try rw [exh]); simp (maxSteps := 4000000) only [kR1, stops, inK, stepF, frsF, frF, itemF, codeF, opsF, opsW, opF, wtS, sopF, pv, p_assign, SY.put, SY.ev, SY.mk, SY.ini, exq_go, ↓reduceIte, Nat.reduceLT, Nat.reduceAdd, true_and, Bool.and_self, Int.reduceLE, decide_true, ktOf, regAt, body25, Try.f25, ↓exq_cd cd_code25, ↓exq_cd cd_c25_1, ↓exq_cd cd_c25_2, ↓exq_cd cd_c25_3, ↓exq_cd cd_c25_4, ↓exq_cd cd_c25_5, ↓exq_cd cd_c25_7, ↓exq_cd cd_c25_8, ↓exq_cd cd_c25_9, r25_1, r25_3, r25_7]
    repeat (refine And.intro (a := (_ = true)) (by first | (simp; done) | (simp; omega)) ?_)
    refine Rch.loop plsOk ?_
    refine ExQ_ok [] 2000 plsOk kR1_ok ?_
    (try rw [exh]); simp (maxSteps := 4000000) only [kR1, sV, hf.lv, e, hm, hpos, stops, inK, stepF, frsF, frF, itemF, codeF, condF, opsF, opsW, opF, callO, stepS, wtS, gdst, gdl, sopF, pv, bltF, callF, calleeS, p_move, p_assign, p_pick, p_binOp, p_len, SY.get, SY.put, SY.ev, SY.mk, bopInt, bop, pickAV, leaveS, retS, exitS, killL, isDefs, resS, resAll, tup1, exq_go, exq_t, exq_f, ↓reduceIte, Nat.reduceLT, Nat.reduceEqDiff, Nat.reduceAdd, Nat.reduceSub, Bool.and_true, Bool.true_and, Bool.not_true, reduceCtorEq, true_and, List.map_cons, List.map_nil, Bool.and_self, List.nil_append, List.append_nil, Int.reduceEq, Int.reduceLE, decide_true, decide_false, ktOf, conK, alive, lndL, lnd, lvB, tB_tt, okBls, shB, ren, ti3, ti22, ti24, regAt, fi25, body25, Try.f25, ↓exq_cd cd_c25_10, ↓exq_cd cd_c25_11, ↓exq_cd cd_c25_13, ↓exq_cd cd_c25_14, ↓exq_cd cd_c25_6, ↓exq_cd cd_c25_23, r25_13, r25_23]
    repeat (refine And.intro (a := (_ = true)) (by first | (simp; done) | (simp; omega)) ?_)
    rw [thoR, if_neg hv, thoB, if_neg hv]
    exact ⟨[], List.nodup_nil, rfl, rfl, fun l c h => by simp at h⟩
  have e0 : vchk rs = 0 := if_pos hv
  rw [thoR, if_pos hv, thoB, if_pos hv]
  refine ExQ_ok [] 2000 plsOk kR1_ok ?_
  simp only [conf0]
  (try rw [exh]); simp (maxSteps := 4000000) only [kR1, stops, inK, stepF, frsF, frF, itemF, codeF, opsF, opsW, opF, wtS, sopF, pv, p_assign, SY.put, SY.ev, SY.mk, SY.ini, exq_go, ↓reduceIte, Nat.reduceLT, Nat.reduceAdd, true_and, Bool.and_self, Int.reduceLE, decide_true, ktOf, regAt, body25, Try.f25, ↓exq_cd cd_code25, ↓exq_cd cd_c25_1, ↓exq_cd cd_c25_2, ↓exq_cd cd_c25_3, ↓exq_cd cd_c25_4, ↓exq_cd cd_c25_5, ↓exq_cd cd_c25_7, ↓exq_cd cd_c25_8, ↓exq_cd cd_c25_9, r25_1, r25_3, r25_7]
  repeat (refine And.intro (a := (_ = true)) (by first | (simp; done) | (simp; omega)) ?_)
  refine Rch.fit1 hC [] (bl' := []) (tm' := tU0 t rs c) rfl List.nodup_nil rfl ⟨rfl, rfl, congrArg (fun x => AV.imr t 3 x c) (hf.ren _).symm, trivial⟩ (tU0_lv hf ..) trivial ?_
  simp only [tU0]
  refine Rch.nilsl 3 0 1 .i64 rfl rfl ?_
  refine Rch.loop plsOk ?_
  refine Rch.fit1 hC [0] (bl' := [some (.num .i64 (idsR pAlive (rs.take 0)))]) (tm' := tU t rs c 0 0) rfl (by decide) rfl ⟨rfl, rfl, congrArg (fun x => AV.imr t 3 x c) (hf.ren _).symm, trivial⟩ (tU_lv hf ..) ⟨⟨rfl, rfl⟩, trivial⟩ ?_
  refine loop_ind plsOk (α := {i : Nat // i ≤ rs.length}) (fun a => rs.length - a.1) (fun a => tU t rs c (idsR pAlive (rs.take a.1)).length a.1) (fun a => [some (.num .i64 (idsR pAlive (rs.take a.1)))]) (fun _ => Res (.sl 0 0 1 (idsR pAlive rs).length none) [some (.num .i64 (idsR pAlive rs))]) ?_ ⟨0, Nat.zero_le _⟩
  rintro ⟨i, hi⟩ ih
  simp only [tU] at hi ih ⊢
  by_cases h : (i : Int) < rs.length
  · have hi' : i < rs.length := by omega
    have e := isM_row hm hi'
    have hs := idsR_succ (p := pAlive) hi'
    have hle := idsR_le (p := pAlive) (rs := rs.take i)
    have hle2 : (rs.take i).length ≤ rs.length := by simp; omega
    have htk : (idsR pAlive (rs.take i)).take (idsR pAlive (rs.take i)).length = idsR pAlive (rs.take i) := List.take_of_length_le (Nat.le_refl _)
    by_cases h1 : stR (rowA rs i) = 1
    · have hp : pAlive (stR (rowA rs i)) = true := by simp [pAlive, h1]
      rw [if_pos hp] at hs
      have hs' := hs.symm
      have hle3 := idsR_le (p := pAlive) (rs := rs.take (i + 1))
      have hle4 : (rs.take (i + 1)).length ≤ rs.length := by simp; omega
      refine ExQ_ok [] 2000 plsOk kR1_ok ?_
      (try rw [exh]); simp (maxSteps := 4000000) only [kR1, sV, hf.lv, hm, e0, h, e, h1, htk, tk1, hs', stops, inK, stepF, frsF, frF, itemF, codeF, condF, opsF, opsW, opF, callO, wtS, gdst, gdl, sopF, pv, evq, bltF, callF, calleeS, quiet, p_move, p_assign, p_pick, p_binOp, p_fieldAddr, p_indexAddr, p_len, l_load, roomN, appNN, srcN, dstN, e_buildSlice, e_append, SY.get, SY.put, SY.ev, SY.mk, SY.nth, SY.lvl, SY.setl, wid, wids, dr, flat, at1, rdC, wrC, ar, bopInt, bop, pickAV, fillA, numsAt, numsAV, rep, elCt, killO, srcN, dstN, AV.scal, exq_go, exq_t, ↓reduceIte, Nat.reduceLT, Nat.reduceLeDiff, Nat.reduceEqDiff, Nat.reduceAdd, Nat.reduceSub, Bool.and_true, Bool.true_and, Bool.not_true, reduceCtorEq, true_and, List.map_cons, List.map_nil, Bool.and_self, List.drop_zero, List.length_cons, List.length_nil, List.cons_append, List.nil_append, List.append_nil, Nat.zero_add, Nat.add_zero, Nat.mul_one, Int.toNat_natCast, Int.reduceLE, decide_true, ktOf, conK, alive, lndL, lnd, lvB, tB_tt, okBls, shB, ren, ti3, ti22, ti24, ti29, ti37, regAt, body25, Try.f25, ↓exq_cd cd_c25_10, ↓exq_cd cd_c25_11, ↓exq_cd cd_c25_13, ↓exq_cd cd_c25_14, ↓exq_cd cd_c25_12, ↓exq_cd cd_c25_16, ↓exq_cd cd_c25_18, ↓exq_cd cd_c25_19, ↓exq_cd cd_c25_20, ↓exq_cd cd_c25_21, ↓exq_cd cd_c25_17, r25_13, r25_19, r25_21, r25_17]
      repeat (refine And.intro (a := (_ = true)) (by first | (simp; done) | (simp; omega)) ?_)
      refine Rch.fit1 hC [2] (bl' := [some (.num .i64 (idsR pAlive (rs.take (i + 1))))]) (tm' := tU t rs c (idsR pAlive (rs.take (i + 1))).length (i + 1)) rfl (by decide) rfl ⟨rfl, rfl, congrArg (fun x => AV.imr t 3 x c) (hf.ren _).symm, trivial⟩ (tU_lv hf ..) ⟨⟨rfl, rfl⟩, trivial⟩ ?_
      exact ih ⟨i + 1, by omega⟩ (by simp only; omega)
    · have hp : ¬ pAlive (stR (rowA rs i)) = true := by simp [pAlive, h1]
      rw [if_neg hp, List.append_nil] at hs
      refine ExQ_ok [] 2000 plsOk kR1_ok ?_
      (try rw [exh]); simp (maxSteps := 4000000) only [kR1, sV, hf.lv, hm, e0, h, e, h1, stops, inK, stepF, frsF, frF, itemF, codeF, condF, opsF, opsW, opF, callO, wtS, gdst, gdl, sopF, pv, bltF, callF, calleeS, p_move, p_assign, p_pick, p_binOp, p_fieldAddr, p_indexAddr, p_len, l_load, SY.get, SY.put, SY.ev, SY.mk, SY.nth, dr, at1, rdC, ar, bopInt, bop, pickAV, AV.scal, exq_go, exq_t, exq_f, ↓reduceIte, Nat.reduceLT, Nat.reduceEqDiff, Nat.reduceAdd, Nat.reduceSub, Bool.and_true, Bool.true_and, Bool.not_true, reduceCtorEq, true_and, List.map_cons, List.map_nil, Bool.and_self, List.nil_append, List.append_nil, Nat.zero_add, Int.toNat_natCast, Int.reduceLE, decide_true, decide_false, ktOf, conK, alive, lndL, lnd, lvB, tB_tt, okBls, shB, ren, ti3, ti22, ti24, ti29, regAt, body25, Try.f25, ↓exq_cd cd_c25_10, ↓exq_cd cd_c25_11, ↓exq_cd cd_c25_13, ↓exq_cd cd_c25_14, ↓exq_cd cd_c25_12, ↓exq_cd cd_c25_16, ↓exq_cd cd_c25_18, ↓exq_cd cd_c25_19, ↓exq_cd cd_c25_20, ↓exq_cd cd_c25_17, r25_13, r25_19, r25_17]
      repeat (refine And.intro (a := (_ = true)) (by first | (simp; done) | (simp; omega)) ?_)
      refine Rch.fit1 hC [0] (bl' := [some (.num .i64 (idsR pAlive (rs.take (i + 1))))]) (tm' := tU t rs c (idsR pAlive (rs.take (i + 1))).length (i + 1)) rfl (by decide) rfl ⟨by rw [hs]; exact rfl, rfl, congrArg (fun x => AV.imr t 3 x c) (hf.ren _).symm, trivial⟩ (tU_lv hf ..) ⟨⟨by rw [hs]; exact rfl, rfl⟩, trivial⟩ ?_
      exact ih ⟨i + 1, by omega⟩ (by simp only; omega)
  · obtain rfl : i = rs.length := by omega
    refine ExQ_ok [] 2000 plsOk kR1_ok ?_
    (try rw [exh]); simp (maxSteps := 4000000) only [kR1, h, stops, stepF, frsF, frF, itemF, codeF, condF, opsF, opsW, opF, stepS, wtS, gdst, gdl, sopF, pv, bltF, callF, p_move, p_assign, p_pick, p_binOp, p_len, SY.get, SY.put, SY.ev, SY.mk, bopInt, bop, pickAV, leaveS, retS, exitS, killL, isDefs, resS, resAll, tup1, exq_go, exq_f, ↓reduceIte, Nat.reduceLT, Nat.reduceEqDiff, Nat.reduceAdd, Nat.reduceSub, Bool.not_true, reduceCtorEq, true_and, decide_false, ktOf, ti3, ti22, regAt, fi25, body25, Try.f25, ↓exq_cd cd_c25_10, ↓exq_cd cd_c25_11, ↓exq_cd cd_c25_13, ↓exq_cd cd_c25_14, ↓exq_cd cd_c25_6, ↓exq_cd cd_c25_23, r25_13, r25_23]
    repeat (refine And.intro (a := (_ = true)) (by first | (simp; done) | (simp; omega)) ?_)
    rw [List.take_of_length_le (Nat.le_refl _)]
    refine ⟨[0], by simp, rfl, rfl, fun l c h => ?_⟩
    match l with
    | 0 => simp at h; subst h; rfl
    | l + 1 => simp at h
theorem rRAlive_ok : SpecOk Try.prog (plOf pls) 25 sRAlive := by
  refine ⟨_, fi25, fun args r bl1 h => ?_⟩
  unfold sRAlive at h
  split at h
  · simp only [Option.some.injEq, Prod.mk.injEq, Bool.and_eq_true, decide_eq_true_eq] at h
    obtain ⟨⟨h1, h2⟩, rfl, rfl⟩ := h
    exact ⟨by simp, fun C hC _ => rRAlive_run C hC _ _ _ h1 h2⟩
  · cases h
end Go.Proofs.Ytdanhpemheldlaa

/- Views: lists held against each other. -/
-- FUNCTIONS 48 28 12
namespace Go.Proofs.Ytdanhpemheldlaa
open Go Go.SY
def tri (r : List AV) : Int × Int × Int := (idR r, stR r, icR r)
def sameR (rs qs : List (List AV)) : Bool := decide (rs.map tri = qs.map tri)
theorem same_len {rs qs : List (List AV)} (h : ¬ rs.length = qs.length) : sameR rs qs = false := decide_eq_false fun e => h (by simpa using congrArg List.length e)
theorem same_ne {rs qs : List (List AV)} (hl : rs.length = qs.length) {i : Nat} (hi : i < rs.length) (h : tri (rowA rs i) ≠ tri (rowA qs i)) : sameR rs qs = false := decide_eq_false fun e => h (by
  have e1 : (rs.map tri)[i]? = (qs.map tri)[i]? := by rw [e]
  rw [List.getElem?_map, List.getElem?_map, List.getElem?_eq_getElem hi, List.getElem?_eq_getElem (by omega)] at e1
  have r1 : rowA rs i = rs[i] := by unfold rowA; rw [List.getElem?_eq_getElem hi]; rfl
  have r2 : rowA qs i = qs[i] := by unfold rowA; rw [List.getElem?_eq_getElem (by omega)]; rfl
  rw [r1, r2]
  exact Option.some.inj e1)
theorem same_all {rs qs : List (List AV)} (hl : rs.length = qs.length) (h : ∀ i, i < rs.length → tri (rowA rs i) = tri (rowA qs i)) : sameR rs qs = true := decide_eq_true (by
  apply List.ext_getElem
  · simpa using hl
  · intro i h1 h2
    simp only [List.length_map] at h1 h2
    have := h i h1
    have r1 : rowA rs i = rs[i] := by unfold rowA; rw [List.getElem?_eq_getElem h1]; rfl
    have r2 : rowA qs i = qs[i] := by unfold rowA; rw [List.getElem?_eq_getElem h2]; rfl
    rw [r1, r2] at this
    simpa using this)
theorem same_refl (rs : List (List AV)) : sameR rs rs = true := decide_eq_true rfl
def sSame : List AV → Option (Bool × AV × Bls)
  | [.imr _ 3 rs _, .imr _ 3 qs _] => some (rs.all isM && (qs.all isM && (decide (rs.length < 4611686018427387904) && decide (qs.length < 4611686018427387904))), .v (.bool (sameR rs qs)), [])
  | _ => none
def tX5 (t u : Bool) (rs qs : List (List AV)) (c d : Option Nat) (i : Nat) : TM := [(5, .v (.int .i64 i)), (0, .imr t 3 rs c), (1, .imr u 3 qs d)]
theorem tX5_lv {rs qs : List (List AV)} (hf : FlatR rs) (hg : FlatR qs) (t u : Bool) (c d : Option Nat) (i N : Nat) : lvT N true (tX5 t u rs qs c d i) = true := by
  cases t <;> cases u <;> simp [tX5, lvT, lvB, tB, hf.lv, hg.lv]
def tX13 (t u : Bool) (rs qs : List (List AV)) (c d : Option Nat) (i : Nat) : TM := [(13, .v (.int .i64 i)), (12, .v (.int .i64 qs.length)), (0, .imr t 3 rs c), (1, .imr u 3 qs d)]
theorem tX13_lv {rs qs : List (List AV)} (hf : FlatR rs) (hg : FlatR qs) (t u : Bool) (c d : Option Nat) (i N : Nat) : lvT N true (tX13 t u rs qs c d i) = true := by
  cases t <;> cases u <;> simp [tX13, lvT, lvB, tB, hf.lv, hg.lv]

set_option maxRecDepth 100000 in
set_option maxHeartbeats 4000000 in
theorem equal_run (C : Ctx) (hC : C.β.b = []) (t u : Bool) (rs qs : List (List AV)) (c d : Option Nat) (hm : rs.all isM = true) (hq : qs.all isM = true) (hx : rs.length < 4611686018427387904) (hx2 : qs.length < 4611686018427387904) : Rch Try.prog (plOf pls) C (conf0 48 ⟨26, [.tmp 4], code48⟩ [.imr t 3 rs c, .imr u 3 qs d] []) (Res (.v (.bool (sameR rs qs))) []) := by
  have hf := isM_flat hm
  have hg := isM_flat hq
  by_cases hlen : rs.length = qs.length
  case neg =>
    have g0 : ¬ (rs.length : Int) = qs.length := by omega
    refine ExQ_ok [] 2000 plsOk noK ?_
    simp only [conf0]
    (try rw [exh]); simp (maxSteps := 4000000) only [g0, stops, stepF, frsF, frF, itemF, codeF, condF, opsF, opsW, opF, stepS, wtS, sopF, pv, bltF, callF, p_move, p_assign, p_binOp, p_len, SY.get, SY.put, SY.ev, SY.mk, SY.ini, bopInt, bop, leaveS, retS, killL, isDefs, resS, resAll, tup1, exq_go, exq_t, ↓reduceIte, Nat.reduceLT, Nat.reduceEqDiff, Nat.reduceAdd, reduceCtorEq, true_and, Nat.zero_add, decide_true, not_false_eq_true, ti3, ti22, regAt, fi48, body48, Try.f48, ↓exq_cd cd_code48, ↓exq_cd cd_c48_1, ↓exq_cd cd_c48_2, ↓exq_cd cd_c48_3, ↓exq_cd cd_c48_5, ↓exq_cd cd_c48_6, ↓exq_cd cd_c48_7, ↓exq_cd cd_c48_9, r48_1, r48_5, r48_9]
    rw [same_len hlen]
    exact Res.val _ _
  have g0 : (rs.length : Int) = qs.length := by omega
  refine ExQ_ok [] 2000 plsOk noK ?_
  simp only [conf0]
  (try rw [exh]); simp (maxSteps := 4000000) only [g0, stops, inK, stepF, frsF, frF, itemF, codeF, condF, opsF, opsW, opF, wtS, sopF, pv, bltF, callF, p_move, p_assign, p_binOp, p_len, SY.get, SY.put, SY.ev, SY.mk, SY.ini, bopInt, bop, exq_go, exq_f, ↓reduceIte, Nat.reduceLT, Nat.reduceEqDiff, Nat.reduceAdd, reduceCtorEq, true_and, Bool.and_self, Nat.zero_add, Int.reduceLE, decide_true, decide_false, not_true_eq_false, ti3, ti22, regAt, body48, Try.f48, ↓exq_cd cd_code48, ↓exq_cd cd_c48_1, ↓exq_cd cd_c48_2, ↓exq_cd cd_c48_3, ↓exq_cd cd_c48_5, ↓exq_cd cd_c48_6, ↓exq_cd cd_c48_4, ↓exq_cd cd_c48_10, ↓exq_cd cd_c48_12, ↓exq_cd cd_c48_13, ↓exq_cd cd_c48_14, r48_1, r48_5, r48_12]
  repeat (refine And.intro (a := (_ = true)) (by first | (simp; done) | (simp; omega)) ?_)
  refine Rch.loop plsOk ?_
  refine Rch.fit1 hC [] (bl' := []) (tm' := tX13 t u rs qs c d 0) rfl List.nodup_nil rfl ⟨rfl, rfl, congrArg (fun x => AV.imr t 3 x c) (hf.ren _).symm, congrArg (fun x => AV.imr u 3 x d) (hg.ren _).symm, trivial⟩ (tX13_lv hf hg ..) trivial ?_
  refine loop_ind plsOk (α := {i : Nat // i ≤ rs.length ∧ ∀ j, j < i → tri (rowA rs j) = tri (rowA qs j)}) (fun a => rs.length - a.1) (fun a => tX13 t u rs qs c d a.1) (fun _ => []) (fun a => Res (.v (.bool (sameR rs qs))) []) ?_ ⟨0, Nat.zero_le _, fun j hj => absurd hj (Nat.not_lt_zero _)⟩
  rintro ⟨i, hi, hj⟩ ih
  simp only [tX13] at hi hj ih ⊢
  by_cases h : (i : Int) < qs.length
  · have e := isM_row hm (i := i) (by omega)
    have e' := isM_row hq (i := i) (by omega)
    have bad : tri (rowA rs i) ≠ tri (rowA qs i) → sameR rs qs = false := fun hne => same_ne hlen (by omega) hne
    by_cases h1 : idR (rowA rs i) = idR (rowA qs i)
    case neg =>
      refine ExQ_ok [] 2000 plsOk noK ?_
      (try rw [exh]); simp (maxSteps := 4000000) only [h, g0, e, e', h1, Bool.false_and, Bool.not_false, stops, stepF, frsF, frF, itemF, codeF, condF, opsF, opsW, opF, drF, drO, drW, drC, stepS, wtS, sopF, pv, popF, lopF, cls, rdl, p_move, p_assign, p_binOp, p_indexAddr, l_load, SY.get, SY.put, SY.ev, SY.mk, SY.nth, dr, tk, pack, parts, rdC, bopInt, bopEq, eqPs, bop, leaveS, retS, killL, isDefs, resS, resAll, tup1, plk, exq_go, exq_t, ↓reduceIte, Nat.reduceLT, Nat.reduceEqDiff, Nat.reduceAdd, Nat.reduceSub, Bool.and_true, Bool.not_false, reduceCtorEq, true_and, Int.toNat_natCast, decide_true, decide_false, ti3, ti22, ti29, regAt, fi48, body48, Try.f48, ↓exq_cd cd_c48_15, ↓exq_cd cd_c48_16, ↓exq_cd cd_c48_17, ↓exq_cd cd_c48_18, ↓exq_cd cd_c48_19, ↓exq_cd cd_c48_21, ↓exq_cd cd_c48_23, ↓exq_cd cd_c48_24, ↓exq_cd cd_c48_25, ↓exq_cd cd_c48_26, ↓exq_cd cd_c48_27, ↓exq_cd cd_c48_28, ↓exq_cd cd_c48_30, r48_16, r48_24, r48_26, r48_30, plA48, pl48]
      repeat (refine And.intro (a := (_ = true)) (by first | (simp; done) | (simp; omega)) ?_)
      rw [bad (fun h => h1 (congrArg Prod.fst h))]
      exact Res.val _ _
    by_cases h2 : stR (rowA rs i) = stR (rowA qs i)
    case neg =>
      refine ExQ_ok [] 2000 plsOk noK ?_
      (try rw [exh]); simp (maxSteps := 4000000) only [h, g0, e, e', h1, h2, Bool.false_and, Bool.and_false, Bool.not_false, stops, stepF, frsF, frF, itemF, codeF, condF, opsF, opsW, opF, drF, drO, drW, drC, stepS, wtS, sopF, pv, popF, lopF, cls, rdl, p_move, p_assign, p_binOp, p_indexAddr, l_load, SY.get, SY.put, SY.ev, SY.mk, SY.nth, dr, tk, pack, parts, rdC, bopInt, bopEq, eqPs, bop, leaveS, retS, killL, isDefs, resS, resAll, tup1, plk, exq_go, exq_t, ↓reduceIte, Nat.reduceLT, Nat.reduceEqDiff, Nat.reduceAdd, Nat.reduceSub, Bool.and_true, Bool.not_false, reduceCtorEq, true_and, Int.toNat_natCast, decide_true, decide_false, ti3, ti22, ti29, regAt, fi48, body48, Try.f48, ↓exq_cd cd_c48_15, ↓exq_cd cd_c48_16, ↓exq_cd cd_c48_17, ↓exq_cd cd_c48_18, ↓exq_cd cd_c48_19, ↓exq_cd cd_c48_21, ↓exq_cd cd_c48_23, ↓exq_cd cd_c48_24, ↓exq_cd cd_c48_25, ↓exq_cd cd_c48_26, ↓exq_cd cd_c48_27, ↓exq_cd cd_c48_28, ↓exq_cd cd_c48_30, r48_16, r48_24, r48_26, r48_30, plA48, pl48]
      repeat (refine And.intro (a := (_ = true)) (by first | (simp; done) | (simp; omega)) ?_)
      rw [bad (fun h => h2 (congrArg (fun x => x.2.1) h))]
      exact Res.val _ _
    by_cases h3 : icR (rowA rs i) = icR (rowA qs i)
    case neg =>
      refine ExQ_ok [] 2000 plsOk noK ?_
      (try rw [exh]); simp (maxSteps := 4000000) only [h, g0, e, e', h1, h2, h3, Bool.and_false, Bool.not_false, stops, stepF, frsF, frF, itemF, codeF, condF, opsF, opsW, opF, drF, drO, drW, drC, stepS, wtS, sopF, pv, popF, lopF, cls, rdl, p_move, p_assign, p_binOp, p_indexAddr, l_load, SY.get, SY.put, SY.ev, SY.mk, SY.nth, dr, tk, pack, parts, rdC, bopInt, bopEq, eqPs, bop, leaveS, retS, killL, isDefs, resS, resAll, tup1, plk, exq_go, exq_t, ↓reduceIte, Nat.reduceLT, Nat.reduceEqDiff, Nat.reduceAdd, Nat.reduceSub, Bool.and_true, Bool.not_false, reduceCtorEq, true_and, Int.toNat_natCast, decide_true, decide_false, ti3, ti22, ti29, regAt, fi48, body48, Try.f48, ↓exq_cd cd_c48_15, ↓exq_cd cd_c48_16, ↓exq_cd cd_c48_17, ↓exq_cd cd_c48_18, ↓exq_cd cd_c48_19, ↓exq_cd cd_c48_21, ↓exq_cd cd_c48_23, ↓exq_cd cd_c48_24, ↓exq_cd cd_c48_25, ↓exq_cd cd_c48_26, ↓exq_cd cd_c48_27, ↓exq_cd cd_c48_28, ↓exq_cd cd_c48_30, r48_16, r48_24, r48_26, r48_30, plA48, pl48]
      repeat (refine And.intro (a := (_ = true)) (by first | (simp; done) | (simp; omega)) ?_)
      rw [bad (fun h => h3 (congrArg (fun x => x.2.2) h))]
      exact Res.val _ _
    have eq : tri (rowA rs i) = tri (rowA qs i) := by simp only [tri, h1, h2, h3]
    refine ExQ_ok [] 2000 plsOk noK ?_
    (try rw [exh]); simp (maxSteps := 4000000) only [h, g0, e, e', h1, h2, h3, Bool.and_self, Bool.not_true, stops, inK, stepF, frsF, frF, itemF, codeF, condF, opsF, opsW, opF, drF, drO, drW, drC, wtS, sopF, pv, popF, lopF, cls, rdl, p_move, p_assign, p_binOp, p_indexAddr, l_load, SY.get, SY.put, SY.ev, SY.mk, SY.nth, dr, tk, pack, parts, rdC, ar, bopInt, bopEq, eqPs, bop, plk, exq_go, exq_t, exq_f, ↓reduceIte, Nat.reduceLT, Nat.reduceEqDiff, Nat.reduceAdd, Nat.reduceSub, Bool.and_true, Bool.not_true, reduceCtorEq, true_and, Bool.and_self, Int.toNat_natCast, Int.reduceLE, decide_true, ti3, ti22, ti29, regAt, body48, Try.f48, ↓exq_cd cd_c48_15, ↓exq_cd cd_c48_16, ↓exq_cd cd_c48_17, ↓exq_cd cd_c48_18, ↓exq_cd cd_c48_19, ↓exq_cd cd_c48_21, ↓exq_cd cd_c48_23, ↓exq_cd cd_c48_24, ↓exq_cd cd_c48_25, ↓exq_cd cd_c48_26, ↓exq_cd cd_c48_27, ↓exq_cd cd_c48_22, r48_16, r48_24, r48_26, r48_22, plA48, pl48]
    repeat (refine And.intro (a := (_ = true)) (by first | (simp; done) | (simp; omega)) ?_)
    refine Rch.fit1 hC [] (bl' := []) (tm' := tX13 t u rs qs c d (i + 1)) rfl List.nodup_nil rfl ⟨rfl, rfl, congrArg (fun x => AV.imr t 3 x c) (hf.ren _).symm, congrArg (fun x => AV.imr u 3 x d) (hg.ren _).symm, trivial⟩ (tX13_lv hf hg ..) trivial ?_
    exact ih ⟨i + 1, by omega, fun j hj' => by
      rcases Nat.lt_or_ge j i with h4 | h4
      · exact hj j h4
      · rw [show j = i by omega]; exact eq⟩ (by simp only; omega)
  · refine ExQ_ok [] 2000 plsOk noK ?_
    (try rw [exh]); simp (maxSteps := 4000000) only [h, stops, stepF, frsF, frF, itemF, codeF, condF, opsF, opsW, opF, stepS, wtS, sopF, pv, p_assign, p_binOp, SY.get, SY.put, SY.ev, SY.mk, bopInt, bop, leaveS, retS, exitS, killL, isDefs, resS, resAll, tup1, exq_go, exq_f, ↓reduceIte, Nat.reduceLT, Nat.reduceEqDiff, Nat.reduceAdd, true_and, decide_false, ti3, regAt, fi48, body48, Try.f48, ↓exq_cd cd_c48_15, ↓exq_cd cd_c48_16, ↓exq_cd cd_c48_17, ↓exq_cd cd_c48_18, ↓exq_cd cd_c48_11, ↓exq_cd cd_c48_31, r48_16, r48_31]
    repeat (refine And.intro (a := (_ = true)) (by first | (simp; done) | (simp; omega)) ?_)
    rw [same_all hlen (fun j h4 => hj j (by omega))]
    exact Res.val _ _
theorem equal_ok : SpecOk Try.prog (plOf pls) 48 sSame := by
  refine ⟨_, fi48, fun args r bl1 h => ?_⟩
  unfold sSame at h
  split at h
  · simp only [Option.some.injEq, Prod.mk.injEq, Bool.and_eq_true, decide_eq_true_eq] at h
    obtain ⟨⟨h1, h2, h3, h4⟩, rfl, rfl⟩ := h
    exact ⟨by simp, fun C hC _ => equal_run C hC _ _ _ _ _ _ h1 h2 h3 h4⟩
  · cases h

set_option maxRecDepth 100000 in
set_option maxHeartbeats 4000000 in
theorem rsame_run (C : Ctx) (hC : C.β.b = []) (t u : Bool) (rs qs : List (List AV)) (c d : Option Nat) (hm : rs.all isM = true) (hq : qs.all isM = true) (hx : rs.length < 4611686018427387904) (hx2 : qs.length < 4611686018427387904) : Rch Try.prog (plOf pls) C (conf0 28 ⟨26, [.tmp 4], code28⟩ [.imr t 3 rs c, .imr u 3 qs d] []) (Res (.v (.bool (sameR rs qs))) []) := by
  have hf := isM_flat hm
  have hg := isM_flat hq
  by_cases hlen : rs.length = qs.length
  case neg =>
    have g0 : ¬ (rs.length : Int) = qs.length := by omega
    refine ExQ_ok [] 2000 plsOk noK ?_
    simp only [conf0]
    (try rw [exh]); simp (maxSteps := 4000000) only [g0, stops, stepF, frsF, frF, itemF, codeF, condF, opsF, opsW, opF, stepS, wtS, sopF, pv, bltF, callF, p_move, p_assign, p_binOp, p_len, SY.get, SY.put, SY.ev, SY.mk, SY.ini, bopInt, bop, leaveS, retS, killL, isDefs, resS, resAll, tup1, exq_go, exq_t, ↓reduceIte, Nat.reduceLT, Nat.reduceEqDiff, Nat.reduceAdd, reduceCtorEq, true_and, Nat.zero_add, decide_true, not_false_eq_true, ti3, ti22, regAt, fi28, body28, Try.f28, ↓exq_cd cd_code28, ↓exq_cd cd_c28_1, ↓exq_cd cd_c28_2, ↓exq_cd cd_c28_3, ↓exq_cd cd_c28_5, ↓exq_cd cd_c28_6, ↓exq_cd cd_c28_7, ↓exq_cd cd_c28_9, r28_1, r28_5, r28_9]
    rw [same_len hlen]
    exact Res.val _ _
  have g0 : (rs.length : Int) = qs.length := by omega
  refine ExQ_ok [] 2000 plsOk noK ?_
  simp only [conf0]
  (try rw [exh]); simp (maxSteps := 4000000) only [g0, stops, inK, stepF, frsF, frF, itemF, codeF, condF, opsF, opsW, opF, wtS, sopF, pv, bltF, callF, p_move, p_assign, p_binOp, p_len, SY.get, SY.put, SY.ev, SY.mk, SY.ini, bopInt, bop, exq_go, exq_f, ↓reduceIte, Nat.reduceLT, Nat.reduceEqDiff, Nat.reduceAdd, reduceCtorEq, true_and, Bool.and_self, Nat.zero_add, Int.reduceLE, decide_true, decide_false, not_true_eq_false, ti3, ti22, regAt, body28, Try.f28, ↓exq_cd cd_code28, ↓exq_cd cd_c28_1, ↓exq_cd cd_c28_2, ↓exq_cd cd_c28_3, ↓exq_cd cd_c28_5, ↓exq_cd cd_c28_6, ↓exq_cd cd_c28_4, ↓exq_cd cd_c28_10, ↓exq_cd cd_c28_12, ↓exq_cd cd_c28_13, ↓exq_cd cd_c28_14, r28_1, r28_5, r28_12]
  repeat (refine And.intro (a := (_ = true)) (by first | (simp; done) | (simp; omega)) ?_)
  refine Rch.loop plsOk ?_
  refine Rch.fit1 hC [] (bl' := []) (tm' := tX5 t u rs qs c d 0) rfl List.nodup_nil rfl ⟨rfl, congrArg (fun x => AV.imr t 3 x c) (hf.ren _).symm, congrArg (fun x => AV.imr u 3 x d) (hg.ren _).symm, trivial⟩ (tX5_lv hf hg ..) trivial ?_
  refine loop_ind plsOk (α := {i : Nat // i ≤ rs.length ∧ ∀ j, j < i → tri (rowA rs j) = tri (rowA qs j)}) (fun a => rs.length - a.1) (fun a => tX5 t u rs qs c d a.1) (fun _ => []) (fun a => Res (.v (.bool (sameR rs qs))) []) ?_ ⟨0, Nat.zero_le _, fun j hj => absurd hj (Nat.not_lt_zero _)⟩
  rintro ⟨i, hi, hj⟩ ih
  simp only [tX5] at hi hj ih ⊢
  by_cases h : (i : Int) < qs.length
  · have e := isM_row hm (i := i) (by omega)
    have e' := isM_row hq (i := i) (by omega)
    have bad : tri (rowA rs i) ≠ tri (rowA qs i) → sameR rs qs = false := fun hne => same_ne hlen (by omega) hne
    by_cases h1 : idR (rowA rs i) = idR (rowA qs i)
    case neg =>
      refine ExQ_ok [] 2000 plsOk noK ?_
      (try rw [exh]); simp (maxSteps := 4000000) only [h, g0, e, e', h1, Bool.false_and, Bool.not_false, stops, stepF, frsF, frF, itemF, codeF, condF, opsF, opsW, opF, drF, drO, drW, drC, stepS, wtS, sopF, pv, bltF, callF, popF, lopF, cls, rdl, p_move, p_assign, p_binOp, p_indexAddr, p_len, l_load, SY.get, SY.put, SY.ev, SY.mk, SY.nth, dr, tk, pack, parts, rdC, bopInt, bopEq, eqPs, bop, leaveS, retS, killL, isDefs, resS, resAll, tup1, plk, exq_go, exq_t, ↓reduceIte, Nat.reduceLT, Nat.reduceEqDiff, Nat.reduceAdd, Nat.reduceSub, Bool.and_true, Bool.not_false, reduceCtorEq, true_and, Int.toNat_natCast, decide_true, decide_false, ti3, ti22, ti29, regAt, fi28, body28, Try.f28, ↓exq_cd cd_c28_15, ↓exq_cd cd_c28_16, ↓exq_cd cd_c28_18, ↓exq_cd cd_c28_19, ↓exq_cd cd_c28_17, ↓exq_cd cd_c28_21, ↓exq_cd cd_c28_23, ↓exq_cd cd_c28_24, ↓exq_cd cd_c28_25, ↓exq_cd cd_c28_26, ↓exq_cd cd_c28_28, r28_18, r28_24, r28_28, plA28, pl28]
      repeat (refine And.intro (a := (_ = true)) (by first | (simp; done) | (simp; omega)) ?_)
      rw [bad (fun h => h1 (congrArg Prod.fst h))]
      exact Res.val _ _
    by_cases h2 : stR (rowA rs i) = stR (rowA qs i)
    case neg =>
      refine ExQ_ok [] 2000 plsOk noK ?_
      (try rw [exh]); simp (maxSteps := 4000000) only [h, g0, e, e', h1, h2, Bool.false_and, Bool.and_false, Bool.not_false, stops, stepF, frsF, frF, itemF, codeF, condF, opsF, opsW, opF, drF, drO, drW, drC, stepS, wtS, sopF, pv, bltF, callF, popF, lopF, cls, rdl, p_move, p_assign, p_binOp, p_indexAddr, p_len, l_load, SY.get, SY.put, SY.ev, SY.mk, SY.nth, dr, tk, pack, parts, rdC, bopInt, bopEq, eqPs, bop, leaveS, retS, killL, isDefs, resS, resAll, tup1, plk, exq_go, exq_t, ↓reduceIte, Nat.reduceLT, Nat.reduceEqDiff, Nat.reduceAdd, Nat.reduceSub, Bool.and_true, Bool.not_false, reduceCtorEq, true_and, Int.toNat_natCast, decide_true, decide_false, ti3, ti22, ti29, regAt, fi28, body28, Try.f28, ↓exq_cd cd_c28_15, ↓exq_cd cd_c28_16, ↓exq_cd cd_c28_18, ↓exq_cd cd_c28_19, ↓exq_cd cd_c28_17, ↓exq_cd cd_c28_21, ↓exq_cd cd_c28_23, ↓exq_cd cd_c28_24, ↓exq_cd cd_c28_25, ↓exq_cd cd_c28_26, ↓exq_cd cd_c28_28, r28_18, r28_24, r28_28, plA28, pl28]
      repeat (refine And.intro (a := (_ = true)) (by first | (simp; done) | (simp; omega)) ?_)
      rw [bad (fun h => h2 (congrArg (fun x => x.2.1) h))]
      exact Res.val _ _
    by_cases h3 : icR (rowA rs i) = icR (rowA qs i)
    case neg =>
      refine ExQ_ok [] 2000 plsOk noK ?_
      (try rw [exh]); simp (maxSteps := 4000000) only [h, g0, e, e', h1, h2, h3, Bool.and_false, Bool.not_false, stops, stepF, frsF, frF, itemF, codeF, condF, opsF, opsW, opF, drF, drO, drW, drC, stepS, wtS, sopF, pv, bltF, callF, popF, lopF, cls, rdl, p_move, p_assign, p_binOp, p_indexAddr, p_len, l_load, SY.get, SY.put, SY.ev, SY.mk, SY.nth, dr, tk, pack, parts, rdC, bopInt, bopEq, eqPs, bop, leaveS, retS, killL, isDefs, resS, resAll, tup1, plk, exq_go, exq_t, ↓reduceIte, Nat.reduceLT, Nat.reduceEqDiff, Nat.reduceAdd, Nat.reduceSub, Bool.and_true, Bool.not_false, reduceCtorEq, true_and, Int.toNat_natCast, decide_true, decide_false, ti3, ti22, ti29, regAt, fi28, body28, Try.f28, ↓exq_cd cd_c28_15, ↓exq_cd cd_c28_16, ↓exq_cd cd_c28_18, ↓exq_cd cd_c28_19, ↓exq_cd cd_c28_17, ↓exq_cd cd_c28_21, ↓exq_cd cd_c28_23, ↓exq_cd cd_c28_24, ↓exq_cd cd_c28_25, ↓exq_cd cd_c28_26, ↓exq_cd cd_c28_28, r28_18, r28_24, r28_28, plA28, pl28]
      repeat (refine And.intro (a := (_ = true)) (by first | (simp; done) | (simp; omega)) ?_)
      rw [bad (fun h => h3 (congrArg (fun x => x.2.2) h))]
      exact Res.val _ _
    have eq : tri (rowA rs i) = tri (rowA qs i) := by simp only [tri, h1, h2, h3]
    refine ExQ_ok [] 2000 plsOk noK ?_
    (try rw [exh]); simp (maxSteps := 4000000) only [h, g0, e, e', h1, h2, h3, Bool.and_self, Bool.not_true, stops, inK, stepF, frsF, frF, itemF, codeF, condF, opsF, opsW, opF, drF, drO, drW, drC, wtS, sopF, pv, bltF, callF, popF, lopF, cls, rdl, p_move, p_assign, p_binOp, p_indexAddr, p_len, l_load, SY.get, SY.put, SY.ev, SY.mk, SY.nth, dr, tk, pack, parts, rdC, ar, bopInt, bopEq, eqPs, bop, plk, exq_go, exq_t, exq_f, ↓reduceIte, Nat.reduceLT, Nat.reduceEqDiff, Nat.reduceAdd, Nat.reduceSub, Bool.and_true, Bool.not_true, reduceCtorEq, true_and, Bool.and_self, Int.toNat_natCast, Int.reduceLE, decide_true, ti3, ti22, ti29, regAt, body28, Try.f28, ↓exq_cd cd_c28_15, ↓exq_cd cd_c28_16, ↓exq_cd cd_c28_18, ↓exq_cd cd_c28_19, ↓exq_cd cd_c28_17, ↓exq_cd cd_c28_21, ↓exq_cd cd_c28_23, ↓exq_cd cd_c28_24, ↓exq_cd cd_c28_25, ↓exq_cd cd_c28_22, r28_18, r28_24, r28_22, plA28, pl28]
    repeat (refine And.intro (a := (_ = true)) (by first | (simp; done) | (simp; omega)) ?_)
    refine Rch.fit1 hC [] (bl' := []) (tm' := tX5 t u rs qs c d (i + 1)) rfl List.nodup_nil rfl ⟨rfl, congrArg (fun x => AV.imr t 3 x c) (hf.ren _).symm, congrArg (fun x => AV.imr u 3 x d) (hg.ren _).symm, trivial⟩ (tX5_lv hf hg ..) trivial ?_
    exact ih ⟨i + 1, by omega, fun j hj' => by
      rcases Nat.lt_or_ge j i with h4 | h4
      · exact hj j h4
      · rw [show j = i by omega]; exact eq⟩ (by simp only; omega)
  · refine ExQ_ok [] 2000 plsOk noK ?_
    (try rw [exh]); simp (maxSteps := 4000000) only [h, g0, stops, stepF, frsF, frF, itemF, codeF, condF, opsF, opsW, opF, stepS, wtS, sopF, pv, bltF, callF, p_move, p_assign, p_binOp, p_len, SY.get, SY.put, SY.ev, SY.mk, bopInt, bop, leaveS, retS, exitS, killL, isDefs, resS, resAll, tup1, exq_go, exq_f, ↓reduceIte, Nat.reduceLT, Nat.reduceEqDiff, Nat.reduceAdd, reduceCtorEq, true_and, decide_false, ti3, ti22, regAt, fi28, body28, Try.f28, ↓exq_cd cd_c28_15, ↓exq_cd cd_c28_16, ↓exq_cd cd_c28_18, ↓exq_cd cd_c28_19, ↓exq_cd cd_c28_11, ↓exq_cd cd_c28_29, r28_18, r28_29]
    repeat (refine And.intro (a := (_ = true)) (by first | (simp; done) | (simp; omega)) ?_)
    rw [same_all hlen (fun j h4 => hj j (by omega))]
    exact Res.val _ _
theorem rsame_ok : SpecOk Try.prog (plOf pls) 28 sSame := by
  refine ⟨_, fi28, fun args r bl1 h => ?_⟩
  unfold sSame at h
  split at h
  · simp only [Option.some.injEq, Prod.mk.injEq, Bool.and_eq_true, decide_eq_true_eq] at h
    obtain ⟨⟨h1, h2, h3, h4⟩, rfl, rfl⟩ := h
    exact ⟨by simp, fun C hC _ => rsame_run C hC _ _ _ _ _ _ h1 h2 h3 h4⟩
  · cases h

set_option maxRecDepth 100000 in
set_option maxHeartbeats 4000000 in
theorem members_run (C : Ctx) (hC : C.β.b = []) (t u : Bool) (rs qs : List (List AV)) (c d : Option Nat) (hm : rs.all isM = true) (hq : qs.all isM = true) (hx : rs.length < 4611686018427387904) (hx2 : qs.length < 4611686018427387904) : Rch Try.prog (plOf pls) C (conf0 12 ⟨26, [.tmp 4], code12⟩ [.imr t 3 rs c, .imr u 3 qs d] []) (Res (.v (.bool (sameR rs qs))) []) := by
  have hf := isM_flat hm
  have hg := isM_flat hq
  by_cases hlen : rs.length = qs.length
  case neg =>
    have g0 : ¬ (rs.length : Int) = qs.length := by omega
    refine ExQ_ok [] 2000 plsOk noK ?_
    simp only [conf0]
    (try rw [exh]); simp (maxSteps := 4000000) only [g0, stops, stepF, frsF, frF, itemF, codeF, condF, opsF, opsW, opF, stepS, wtS, sopF, pv, bltF, callF, p_move, p_assign, p_binOp, p_len, SY.get, SY.put, SY.ev, SY.mk, SY.ini, bopInt, bop, leaveS, retS, killL, isDefs, resS, resAll, tup1, exq_go, exq_t, ↓reduceIte, Nat.reduceLT, Nat.reduceEqDiff, Nat.reduceAdd, reduceCtorEq, true_and, Nat.zero_add, decide_true, not_false_eq_true, ti3, ti22, regAt, fi12, body12, Try.f12, ↓exq_cd cd_code12, ↓exq_cd cd_c12_1, ↓exq_cd cd_c12_2, ↓exq_cd cd_c12_3, ↓exq_cd cd_c12_5, ↓exq_cd cd_c12_6, ↓exq_cd cd_c12_7, ↓exq_cd cd_c12_9, r12_1, r12_5, r12_9]
    rw [same_len hlen]
    exact Res.val _ _
  have g0 : (rs.length : Int) = qs.length := by omega
  refine ExQ_ok [] 2000 plsOk noK ?_
  simp only [conf0]
  (try rw [exh]); simp (maxSteps := 4000000) only [g0, stops, inK, stepF, frsF, frF, itemF, codeF, condF, opsF, opsW, opF, wtS, sopF, pv, bltF, callF, p_move, p_assign, p_binOp, p_len, SY.get, SY.put, SY.ev, SY.mk, SY.ini, bopInt, bop, exq_go, exq_f, ↓reduceIte, Nat.reduceLT, Nat.reduceEqDiff, Nat.reduceAdd, reduceCtorEq, true_and, Bool.and_self, Nat.zero_add, Int.reduceLE, decide_true, decide_false, not_true_eq_false, ti3, ti22, regAt, body12, Try.f12, ↓exq_cd cd_code12, ↓exq_cd cd_c12_1, ↓exq_cd cd_c12_2, ↓exq_cd cd_c12_3, ↓exq_cd cd_c12_5, ↓exq_cd cd_c12_6, ↓exq_cd cd_c12_4, ↓exq_cd cd_c12_10, ↓exq_cd cd_c12_12, ↓exq_cd cd_c12_13, ↓exq_cd cd_c12_14, r12_1, r12_5, r12_12]
  repeat (refine And.intro (a := (_ = true)) (by first | (simp; done) | (simp; omega)) ?_)
  refine Rch.loop plsOk ?_
  refine Rch.fit1 hC [] (bl' := []) (tm' := tX5 t u rs qs c d 0) rfl List.nodup_nil rfl ⟨rfl, congrArg (fun x => AV.imr t 3 x c) (hf.ren _).symm, congrArg (fun x => AV.imr u 3 x d) (hg.ren _).symm, trivial⟩ (tX5_lv hf hg ..) trivial ?_
  refine loop_ind plsOk (α := {i : Nat // i ≤ rs.length ∧ ∀ j, j < i → tri (rowA rs j) = tri (rowA qs j)}) (fun a => rs.length - a.1) (fun a => tX5 t u rs qs c d a.1) (fun _ => []) (fun a => Res (.v (.bool (sameR rs qs))) []) ?_ ⟨0, Nat.zero_le _, fun j hj => absurd hj (Nat.not_lt_zero _)⟩
  rintro ⟨i, hi, hj⟩ ih
  simp only [tX5] at hi hj ih ⊢
  by_cases h : (i : Int) < qs.length
  · have e := isM_row hm (i := i) (by omega)
    have e' := isM_row hq (i := i) (by omega)
    have bad : tri (rowA rs i) ≠ tri (rowA qs i) → sameR rs qs = false := fun hne => same_ne hlen (by omega) hne
    by_cases h1 : idR (rowA rs i) = idR (rowA qs i)
    case neg =>
      refine ExQ_ok [] 2000 plsOk noK ?_
      (try rw [exh]); simp (maxSteps := 4000000) only [h, g0, e, e', h1, Bool.false_and, Bool.not_false, stops, stepF, frsF, frF, itemF, codeF, condF, opsF, opsW, opF, drF, drO, drW, drC, stepS, wtS, sopF, pv, bltF, callF, popF, lopF, cls, rdl, p_move, p_assign, p_binOp, p_indexAddr, p_len, l_load, SY.get, SY.put, SY.ev, SY.mk, SY.nth, dr, tk, pack, parts, rdC, bopInt, bopEq, eqPs, bop, leaveS, retS, killL, isDefs, resS, resAll, tup1, plk, exq_go, exq_t, ↓reduceIte, Nat.reduceLT, Nat.reduceEqDiff, Nat.reduceAdd, Nat.reduceSub, Bool.and_true, Bool.not_false, reduceCtorEq, true_and, Int.toNat_natCast, decide_true, decide_false, ti3, ti22, ti29, regAt, fi12, body12, Try.f12, ↓exq_cd cd_c12_15, ↓exq_cd cd_c12_16, ↓exq_cd cd_c12_18, ↓exq_cd cd_c12_19, ↓exq_cd cd_c12_17, ↓exq_cd cd_c12_21, ↓exq_cd cd_c12_23, ↓exq_cd cd_c12_24, ↓exq_cd cd_c12_25, ↓exq_cd cd_c12_26, ↓exq_cd cd_c12_28, r12_18, r12_24, r12_28, plA12, pl12]
      repeat (refine And.intro (a := (_ = true)) (by first | (simp; done) | (simp; omega)) ?_)
      rw [bad (fun h => h1 (congrArg Prod.fst h))]
      exact Res.val _ _
    by_cases h2 : stR (rowA rs i) = stR (rowA qs i)
    case neg =>
      refine ExQ_ok [] 2000 plsOk noK ?_
      (try rw [exh]); simp (maxSteps := 4000000) only [h, g0, e, e', h1, h2, Bool.false_and, Bool.and_false, Bool.not_false, stops, stepF, frsF, frF, itemF, codeF, condF, opsF, opsW, opF, drF, drO, drW, drC, stepS, wtS, sopF, pv, bltF, callF, popF, lopF, cls, rdl, p_move, p_assign, p_binOp, p_indexAddr, p_len, l_load, SY.get, SY.put, SY.ev, SY.mk, SY.nth, dr, tk, pack, parts, rdC, bopInt, bopEq, eqPs, bop, leaveS, retS, killL, isDefs, resS, resAll, tup1, plk, exq_go, exq_t, ↓reduceIte, Nat.reduceLT, Nat.reduceEqDiff, Nat.reduceAdd, Nat.reduceSub, Bool.and_true, Bool.not_false, reduceCtorEq, true_and, Int.toNat_natCast, decide_true, decide_false, ti3, ti22, ti29, regAt, fi12, body12, Try.f12, ↓exq_cd cd_c12_15, ↓exq_cd cd_c12_16, ↓exq_cd cd_c12_18, ↓exq_cd cd_c12_19, ↓exq_cd cd_c12_17, ↓exq_cd cd_c12_21, ↓exq_cd cd_c12_23, ↓exq_cd cd_c12_24, ↓exq_cd cd_c12_25, ↓exq_cd cd_c12_26, ↓exq_cd cd_c12_28, r12_18, r12_24, r12_28, plA12, pl12]
      repeat (refine And.intro (a := (_ = true)) (by first | (simp; done) | (simp; omega)) ?_)
      rw [bad (fun h => h2 (congrArg (fun x => x.2.1) h))]
      exact Res.val _ _
    by_cases h3 : icR (rowA rs i) = icR (rowA qs i)
    case neg =>
      refine ExQ_ok [] 2000 plsOk noK ?_
      (try rw [exh]); simp (maxSteps := 4000000) only [h, g0, e, e', h1, h2, h3, Bool.and_false, Bool.not_false, stops, stepF, frsF, frF, itemF, codeF, condF, opsF, opsW, opF, drF, drO, drW, drC, stepS, wtS, sopF, pv, bltF, callF, popF, lopF, cls, rdl, p_move, p_assign, p_binOp, p_indexAddr, p_len, l_load, SY.get, SY.put, SY.ev, SY.mk, SY.nth, dr, tk, pack, parts, rdC, bopInt, bopEq, eqPs, bop, leaveS, retS, killL, isDefs, resS, resAll, tup1, plk, exq_go, exq_t, ↓reduceIte, Nat.reduceLT, Nat.reduceEqDiff, Nat.reduceAdd, Nat.reduceSub, Bool.and_true, Bool.not_false, reduceCtorEq, true_and, Int.toNat_natCast, decide_true, decide_false, ti3, ti22, ti29, regAt, fi12, body12, Try.f12, ↓exq_cd cd_c12_15, ↓exq_cd cd_c12_16, ↓exq_cd cd_c12_18, ↓exq_cd cd_c12_19, ↓exq_cd cd_c12_17, ↓exq_cd cd_c12_21, ↓exq_cd cd_c12_23, ↓exq_cd cd_c12_24, ↓exq_cd cd_c12_25, ↓exq_cd cd_c12_26, ↓exq_cd cd_c12_28, r12_18, r12_24, r12_28, plA12, pl12]
      repeat (refine And.intro (a := (_ = true)) (by first | (simp; done) | (simp; omega)) ?_)
      rw [bad (fun h => h3 (congrArg (fun x => x.2.2) h))]
      exact Res.val _ _
    have eq : tri (rowA rs i) = tri (rowA qs i) := by simp only [tri, h1, h2, h3]
    refine ExQ_ok [] 2000 plsOk noK ?_
    (try rw [exh]); simp (maxSteps := 4000000) only [h, g0, e, e', h1, h2, h3, Bool.and_self, Bool.not_true, stops, inK, stepF, frsF, frF, itemF, codeF, condF, opsF, opsW, opF, drF, drO, drW, drC, wtS, sopF, pv, bltF, callF, popF, lopF, cls, rdl, p_move, p_assign, p_binOp, p_indexAddr, p_len, l_load, SY.get, SY.put, SY.ev, SY.mk, SY.nth, dr, tk, pack, parts, rdC, ar, bopInt, bopEq, eqPs, bop, plk, exq_go, exq_t, exq_f, ↓reduceIte, Nat.reduceLT, Nat.reduceEqDiff, Nat.reduceAdd, Nat.reduceSub, Bool.and_true, Bool.not_true, reduceCtorEq, true_and, Bool.and_self, Int.toNat_natCast, Int.reduceLE, decide_true, ti3, ti22, ti29, regAt, body12, Try.f12, ↓exq_cd cd_c12_15, ↓exq_cd cd_c12_16, ↓exq_cd cd_c12_18, ↓exq_cd cd_c12_19, ↓exq_cd cd_c12_17, ↓exq_cd cd_c12_21, ↓exq_cd cd_c12_23, ↓exq_cd cd_c12_24, ↓exq_cd cd_c12_25, ↓exq_cd cd_c12_22, r12_18, r12_24, r12_22, plA12, pl12]
    repeat (refine And.intro (a := (_ = true)) (by first | (simp; done) | (simp; omega)) ?_)
    refine Rch.fit1 hC [] (bl' := []) (tm' := tX5 t u rs qs c d (i + 1)) rfl List.nodup_nil rfl ⟨rfl, congrArg (fun x => AV.imr t 3 x c) (hf.ren _).symm, congrArg (fun x => AV.imr u 3 x d) (hg.ren _).symm, trivial⟩ (tX5_lv hf hg ..) trivial ?_
    exact ih ⟨i + 1, by omega, fun j hj' => by
      rcases Nat.lt_or_ge j i with h4 | h4
      · exact hj j h4
      · rw [show j = i by omega]; exact eq⟩ (by simp only; omega)
  · refine ExQ_ok [] 2000 plsOk noK ?_
    (try rw [exh]); simp (maxSteps := 4000000) only [h, g0, stops, stepF, frsF, frF, itemF, codeF, condF, opsF, opsW, opF, stepS, wtS, sopF, pv, bltF, callF, p_move, p_assign, p_binOp, p_len, SY.get, SY.put, SY.ev, SY.mk, bopInt, bop, leaveS, retS, exitS, killL, isDefs, resS, resAll, tup1, exq_go, exq_f, ↓reduceIte, Nat.reduceLT, Nat.reduceEqDiff, Nat.reduceAdd, reduceCtorEq, true_and, decide_false, ti3, ti22, regAt, fi12, body12, Try.f12, ↓exq_cd cd_c12_15, ↓exq_cd cd_c12_16, ↓exq_cd cd_c12_18, ↓exq_cd cd_c12_19, ↓exq_cd cd_c12_11, ↓exq_cd cd_c12_29, r12_18, r12_29]
    repeat (refine And.intro (a := (_ = true)) (by first | (simp; done) | (simp; omega)) ?_)
    rw [same_all hlen (fun j h4 => hj j (by omega))]
    exact Res.val _ _
theorem members_ok : SpecOk Try.prog (plOf pls) 12 sSame := by
  refine ⟨_, fi12, fun args r bl1 h => ?_⟩
  unfold sSame at h
  split at h
  · simp only [Option.some.injEq, Prod.mk.injEq, Bool.and_eq_true, decide_eq_true_eq] at h
    obtain ⟨⟨h1, h2, h3, h4⟩, rfl, rfl⟩ := h
    exact ⟨by simp, fun C hC _ => members_run C hC _ _ _ _ _ _ h1 h2 h3 h4⟩
  · cases h
end Go.Proofs.Ytdanhpemheldlaa
