/- Views: the document's Live, Alive. -/
import Derived.Test.YtdanhpemheldlaaVT1
set_option linter.unusedSimpArgs false
set_option linter.unusedVariables false
-- FUNCTIONS 24 25 47
namespace Go.Proofs.Ytdanhpemheldlaa
open Go Go.SY
def tU0 (t : Bool) (rs : List (List AV)) (c : Option Nat) : TM := [(3, .nil), (4, .v (.int .i64 0)), (0, .imr t 3 rs c)]
theorem tU0_lv {rs : List (List AV)} (hf : FlatR rs) (t : Bool) (c : Option Nat) (N : Nat) : lvT N true (tU0 t rs c) = true := by
  cases t <;> simp [tU0, lvT, lvB, tB, hf.lv]
def tU (t : Bool) (rs : List (List AV)) (c : Option Nat) (m i : Nat) : TM := [(3, .sl 0 0 1 m none), (4, .v (.int .i64 i)), (0, .imr t 3 rs c)]
theorem tU_lv {rs : List (List AV)} (hf : FlatR rs) (t : Bool) (c : Option Nat) (m i N : Nat) : lvT (N + 1) true (tU t rs c m i) = true := by
  cases t <;> simp [tU, lvT, lvB, tB, hf.lv]
def sRLive : List AV → Option (Bool × AV × Bls)
  | [.imr _ 3 rs _] => some (rs.all isM && decide (rs.length < 1000000), thoR pLive rs, thoB pLive rs)
  | _ => none
def sRAlive : List AV → Option (Bool × AV × Bls)
  | [.imr _ 3 rs _] => some (rs.all isM && decide (rs.length < 1000000), thoR pAlive rs, thoB pAlive rs)
  | _ => none

set_option maxRecDepth 100000 in
set_option maxHeartbeats 4000000 in
theorem rRLive_run (C : Ctx) (hC : C.β.b = []) (t : Bool) (rs : List (List AV)) (c : Option Nat) (hm : rs.all isM = true) (hx : rs.length < 1000000) : Rch Try.prog (plOf pls) C (conf0 24 ⟨30, [.tmp 2], code24⟩ [.imr t 3 rs c] []) (Res (thoR pLive rs) (thoB pLive rs)) := by
  have hf := isM_flat hm
  by_cases hv : vOk rs 0 = true
  case neg =>
    have e : vchk rs = 2 := if_neg hv
    have hpos : (0 : Int) < rs.length := by
      cases rs with
      | nil => exact absurd rfl hv
      | cons r q => simp only [List.length_cons]; omega
    refine ExQ_ok [] 2000 plsOk kR1_ok ?_
    simp only [conf0]
    (try rw [exh]); simp (maxSteps := 4000000) only [kR1, stops, inK, stepF, frsF, frF, itemF, codeF, opsF, opsW, opF, wtS, sopF, pv, p_assign, SY.put, SY.ev, SY.mk, SY.ini, exq_go, ↓reduceIte, Nat.reduceLT, Nat.reduceAdd, true_and, Bool.and_self, Int.reduceLE, decide_true, ktOf, regAt, body24, Try.f24, ↓exq_cd cd_code24, ↓exq_cd cd_c24_1, ↓exq_cd cd_c24_2, ↓exq_cd cd_c24_3, ↓exq_cd cd_c24_4, ↓exq_cd cd_c24_5, ↓exq_cd cd_c24_7, ↓exq_cd cd_c24_8, ↓exq_cd cd_c24_9, r24_1, r24_3, r24_7]
    repeat (refine And.intro (a := (_ = true)) (by first | (simp; done) | (simp; omega)) ?_)
    refine Rch.loop plsOk ?_
    refine ExQ_ok [] 2000 plsOk kR1_ok ?_
    (try rw [exh]); simp (maxSteps := 4000000) only [kR1, sV, hf.lv, e, hm, hpos, stops, inK, stepF, frsF, frF, itemF, codeF, condF, opsF, opsW, opF, callO, stepS, wtS, gdst, gdl, sopF, pv, bltF, callF, calleeS, p_move, p_assign, p_pick, p_binOp, p_len, SY.get, SY.put, SY.ev, SY.mk, bopInt, bop, pickAV, leaveS, retS, exitS, killL, isDefs, resS, resAll, tup1, exq_go, exq_t, exq_f, ↓reduceIte, Nat.reduceLT, Nat.reduceEqDiff, Nat.reduceAdd, Nat.reduceSub, Bool.and_true, Bool.true_and, Bool.not_true, reduceCtorEq, true_and, List.map_cons, List.map_nil, Bool.and_self, List.nil_append, List.append_nil, Int.reduceEq, Int.reduceLE, decide_true, decide_false, ktOf, conK, alive, lndL, lnd, lvB, tB_tt, okBls, shB, ren, ti3, ti22, ti24, regAt, fi24, body24, Try.f24, ↓exq_cd cd_c24_10, ↓exq_cd cd_c24_11, ↓exq_cd cd_c24_13, ↓exq_cd cd_c24_14, ↓exq_cd cd_c24_6, ↓exq_cd cd_c24_23, r24_13, r24_23]
    repeat (refine And.intro (a := (_ = true)) (by first | (simp; done) | (simp; omega)) ?_)
    rw [thoR, if_neg hv, thoB, if_neg hv]
    exact ⟨[], List.nodup_nil, rfl, rfl, fun l c h => by simp at h⟩
  have e0 : vchk rs = 0 := if_pos hv
  rw [thoR, if_pos hv, thoB, if_pos hv]
  refine ExQ_ok [] 2000 plsOk kR1_ok ?_
  simp only [conf0]
  (try rw [exh]); simp (maxSteps := 4000000) only [kR1, stops, inK, stepF, frsF, frF, itemF, codeF, opsF, opsW, opF, wtS, sopF, pv, p_assign, SY.put, SY.ev, SY.mk, SY.ini, exq_go, ↓reduceIte, Nat.reduceLT, Nat.reduceAdd, true_and, Bool.and_self, Int.reduceLE, decide_true, ktOf, regAt, body24, Try.f24, ↓exq_cd cd_code24, ↓exq_cd cd_c24_1, ↓exq_cd cd_c24_2, ↓exq_cd cd_c24_3, ↓exq_cd cd_c24_4, ↓exq_cd cd_c24_5, ↓exq_cd cd_c24_7, ↓exq_cd cd_c24_8, ↓exq_cd cd_c24_9, r24_1, r24_3, r24_7]
  repeat (refine And.intro (a := (_ = true)) (by first | (simp; done) | (simp; omega)) ?_)
  refine Rch.fit1 hC [] (bl' := []) (tm' := tU0 t rs c) rfl List.nodup_nil rfl ⟨rfl, rfl, congrArg (fun x => AV.imr t 3 x c) (hf.ren _).symm, trivial⟩ (tU0_lv hf ..) trivial ?_
  simp only [tU0]
  refine Rch.nilsl 3 0 1 .i64 rfl rfl ?_
  refine Rch.loop plsOk ?_
  refine Rch.fit1 hC [0] (bl' := [some (.num .i64 (idsR pLive (rs.take 0)))]) (tm' := tU t rs c 0 0) rfl (by decide) rfl ⟨rfl, rfl, congrArg (fun x => AV.imr t 3 x c) (hf.ren _).symm, trivial⟩ (tU_lv hf ..) ⟨⟨rfl, rfl⟩, trivial⟩ ?_
  refine loop_ind plsOk (α := {i : Nat // i ≤ rs.length}) (fun a => rs.length - a.1) (fun a => tU t rs c (idsR pLive (rs.take a.1)).length a.1) (fun a => [some (.num .i64 (idsR pLive (rs.take a.1)))]) (fun _ => Res (.sl 0 0 1 (idsR pLive rs).length none) [some (.num .i64 (idsR pLive rs))]) ?_ ⟨0, Nat.zero_le _⟩
  rintro ⟨i, hi⟩ ih
  simp only [tU] at hi ih ⊢
  by_cases h : (i : Int) < rs.length
  · have hi' : i < rs.length := by omega
    have e := isM_row hm hi'
    have hs := idsR_succ (p := pLive) hi'
    have hle := idsR_le (p := pLive) (rs := rs.take i)
    have hle2 : (rs.take i).length ≤ rs.length := by simp; omega
    have htk : (idsR pLive (rs.take i)).take (idsR pLive (rs.take i)).length = idsR pLive (rs.take i) := List.take_of_length_le (Nat.le_refl _)
    by_cases h1 : stR (rowA rs i) = 1
    · have hp : pLive (stR (rowA rs i)) = true := by simp [pLive, h1]
      rw [if_pos hp] at hs
      have hs' := hs.symm
      have hle3 := idsR_le (p := pLive) (rs := rs.take (i + 1))
      have hle4 : (rs.take (i + 1)).length ≤ rs.length := by simp; omega
      refine ExQ_ok [] 2000 plsOk kR1_ok ?_
      (try rw [exh]); simp (maxSteps := 4000000) only [kR1, sV, hf.lv, hm, e0, h, e, h1, htk, tk1, hs', stops, inK, stepF, frsF, frF, itemF, codeF, condF, opsF, opsW, opF, callO, stepS, wtS, gdst, gdl, sopF, pv, evq, bltF, callF, calleeS, quiet, p_move, p_assign, p_pick, p_binOp, p_fieldAddr, p_indexAddr, p_len, l_load, roomN, appNN, srcN, dstN, e_box, e_buildSlice, e_append, SY.get, SY.put, SY.ev, SY.mk, SY.nth, SY.lvl, SY.setl, SY.ini, wid, wids, dr, tk, flat, at1, pack, rdC, rdCt, wrC, ar, bopInt, bop, pickAV, fillA, numsAt, isArr, ctOf, numsAV, rep, elCt, killO, srcN, dstN, enterS, leaveS, retS, finishS, killL, isDefs, resS, resAll, tup1, AV.scal, exq_go, exq_t, ↓reduceIte, Nat.reduceLT, Nat.reduceLeDiff, Nat.reduceEqDiff, Nat.reduceAdd, Nat.reduceSub, Bool.and_true, Bool.true_and, Bool.not_false, Bool.not_true, List.contains_nil, reduceCtorEq, true_and, List.map_cons, List.map_nil, Bool.and_self, List.drop_zero, List.length_cons, List.length_nil, List.cons_append, List.nil_append, List.append_nil, Nat.zero_add, Nat.add_zero, Nat.zero_mul, Nat.mul_one, Int.toNat_natCast, Int.reduceLE, decide_true, ktOf, conK, alive, lndL, lnd, lvB, tB_tt, okBls, shB, ren, ti3, ti22, ti24, ti29, ti37, regAt, body24, Try.f24, fi47, body47, Try.f47, ↓exq_cd cd_c24_10, ↓exq_cd cd_c24_11, ↓exq_cd cd_c24_13, ↓exq_cd cd_c24_14, ↓exq_cd cd_c24_12, ↓exq_cd cd_c24_16, ↓exq_cd cd_c24_18, ↓exq_cd cd_c24_19, ↓exq_cd cd_c24_20, ↓exq_cd cd_c24_21, ↓exq_cd cd_c24_17, ↓exq_cd cd_code47, ↓exq_cd cd_c47_1, ↓exq_cd cd_c47_2, ↓exq_cd cd_c47_3, r24_13, r24_19, r24_21, r24_17, r47_1, r47_3]
      repeat (refine And.intro (a := (_ = true)) (by first | (simp; done) | (simp; omega)) ?_)
      refine Rch.fit1 hC [3] (bl' := [some (.num .i64 (idsR pLive (rs.take (i + 1))))]) (tm' := tU t rs c (idsR pLive (rs.take (i + 1))).length (i + 1)) rfl (by decide) rfl ⟨rfl, rfl, congrArg (fun x => AV.imr t 3 x c) (hf.ren _).symm, trivial⟩ (tU_lv hf ..) ⟨⟨rfl, rfl⟩, trivial⟩ ?_
      exact ih ⟨i + 1, by omega⟩ (by simp only; omega)
    by_cases h2 : stR (rowA rs i) = 2
    · have hp : pLive (stR (rowA rs i)) = true := by simp [pLive, h2]
      rw [if_pos hp] at hs
      have hs' := hs.symm
      have hle3 := idsR_le (p := pLive) (rs := rs.take (i + 1))
      have hle4 : (rs.take (i + 1)).length ≤ rs.length := by simp; omega
      refine ExQ_ok [] 2000 plsOk kR1_ok ?_
      (try rw [exh]); simp (maxSteps := 4000000) only [kR1, sV, hf.lv, hm, e0, h, e, h2, htk, tk1, hs', stops, inK, stepF, frsF, frF, itemF, codeF, condF, opsF, opsW, opF, callO, stepS, wtS, gdst, gdl, sopF, pv, evq, bltF, callF, calleeS, quiet, p_move, p_assign, p_pick, p_binOp, p_fieldAddr, p_indexAddr, p_len, l_load, roomN, appNN, srcN, dstN, e_box, e_buildSlice, e_append, SY.get, SY.put, SY.ev, SY.mk, SY.nth, SY.lvl, SY.setl, SY.ini, wid, wids, dr, tk, flat, at1, pack, rdC, rdCt, wrC, ar, bopInt, bop, pickAV, fillA, numsAt, isArr, ctOf, numsAV, rep, elCt, killO, srcN, dstN, enterS, leaveS, retS, finishS, killL, isDefs, resS, resAll, tup1, AV.scal, exq_go, exq_t, exq_f, ↓reduceIte, Nat.reduceLT, Nat.reduceLeDiff, Nat.reduceEqDiff, Nat.reduceAdd, Nat.reduceSub, Bool.and_true, Bool.true_and, Bool.not_false, Bool.not_true, List.contains_nil, reduceCtorEq, true_and, List.map_cons, List.map_nil, Bool.and_self, List.drop_zero, List.length_cons, List.length_nil, List.cons_append, List.nil_append, List.append_nil, Nat.zero_add, Nat.add_zero, Nat.zero_mul, Nat.mul_one, Int.toNat_natCast, Int.reduceEq, Int.reduceLE, decide_true, decide_false, ktOf, conK, alive, lndL, lnd, lvB, tB_tt, okBls, shB, ren, ti3, ti22, ti24, ti29, ti37, regAt, body24, Try.f24, fi47, body47, Try.f47, ↓exq_cd cd_c24_10, ↓exq_cd cd_c24_11, ↓exq_cd cd_c24_13, ↓exq_cd cd_c24_14, ↓exq_cd cd_c24_12, ↓exq_cd cd_c24_16, ↓exq_cd cd_c24_18, ↓exq_cd cd_c24_19, ↓exq_cd cd_c24_20, ↓exq_cd cd_c24_21, ↓exq_cd cd_c24_17, ↓exq_cd cd_code47, ↓exq_cd cd_c47_1, ↓exq_cd cd_c47_2, ↓exq_cd cd_c47_3, r24_13, r24_19, r24_21, r24_17, r47_1, r47_3]
      repeat (refine And.intro (a := (_ = true)) (by first | (simp; done) | (simp; omega)) ?_)
      refine Rch.fit1 hC [3] (bl' := [some (.num .i64 (idsR pLive (rs.take (i + 1))))]) (tm' := tU t rs c (idsR pLive (rs.take (i + 1))).length (i + 1)) rfl (by decide) rfl ⟨rfl, rfl, congrArg (fun x => AV.imr t 3 x c) (hf.ren _).symm, trivial⟩ (tU_lv hf ..) ⟨⟨rfl, rfl⟩, trivial⟩ ?_
      exact ih ⟨i + 1, by omega⟩ (by simp only; omega)
    · have hp : ¬ pLive (stR (rowA rs i)) = true := by simp [pLive, h1, h2]
      rw [if_neg hp, List.append_nil] at hs
      refine ExQ_ok [] 2000 plsOk kR1_ok ?_
      (try rw [exh]); simp (maxSteps := 4000000) only [kR1, sV, hf.lv, hm, e0, h, e, h1, h2, stops, inK, stepF, frsF, frF, itemF, codeF, condF, opsF, opsW, opF, callO, stepS, wtS, gdst, gdl, sopF, pv, evq, bltF, callF, calleeS, quiet, p_move, p_assign, p_pick, p_binOp, p_fieldAddr, p_indexAddr, p_len, l_load, e_box, SY.get, SY.put, SY.ev, SY.mk, SY.nth, SY.lvl, SY.ini, wid, wids, dr, tk, flat, at1, pack, rdC, rdCt, ar, bopInt, bop, pickAV, isArr, ctOf, enterS, leaveS, retS, finishS, killL, isDefs, resS, resAll, tup1, AV.scal, exq_go, exq_t, exq_f, ↓reduceIte, Nat.reduceLT, Nat.reduceLeDiff, Nat.reduceEqDiff, Nat.reduceAdd, Nat.reduceSub, Bool.and_true, Bool.true_and, Bool.not_false, Bool.not_true, List.contains_nil, reduceCtorEq, true_and, List.map_cons, List.map_nil, Bool.and_self, List.length_cons, List.length_nil, List.cons_append, List.nil_append, List.append_nil, Nat.zero_add, Nat.add_zero, Nat.zero_mul, Int.toNat_natCast, Int.reduceLE, decide_true, decide_false, ktOf, conK, alive, lndL, lnd, lvB, tB_tt, okBls, shB, ren, ti3, ti22, ti24, ti29, regAt, body24, Try.f24, fi47, body47, Try.f47, ↓exq_cd cd_c24_10, ↓exq_cd cd_c24_11, ↓exq_cd cd_c24_13, ↓exq_cd cd_c24_14, ↓exq_cd cd_c24_12, ↓exq_cd cd_c24_16, ↓exq_cd cd_c24_18, ↓exq_cd cd_c24_19, ↓exq_cd cd_c24_20, ↓exq_cd cd_c24_17, ↓exq_cd cd_code47, ↓exq_cd cd_c47_1, ↓exq_cd cd_c47_2, ↓exq_cd cd_c47_3, r24_13, r24_19, r24_17, r47_1, r47_3]
      repeat (refine And.intro (a := (_ = true)) (by first | (simp; done) | (simp; omega)) ?_)
      refine Rch.fit1 hC [0] (bl' := [some (.num .i64 (idsR pLive (rs.take (i + 1))))]) (tm' := tU t rs c (idsR pLive (rs.take (i + 1))).length (i + 1)) rfl (by decide) rfl ⟨by rw [hs]; exact rfl, rfl, congrArg (fun x => AV.imr t 3 x c) (hf.ren _).symm, trivial⟩ (tU_lv hf ..) ⟨⟨by rw [hs]; exact rfl, rfl⟩, trivial⟩ ?_
      exact ih ⟨i + 1, by omega⟩ (by simp only; omega)
  · obtain rfl : i = rs.length := by omega
    refine ExQ_ok [] 2000 plsOk kR1_ok ?_
    (try rw [exh]); simp (maxSteps := 4000000) only [kR1, h, stops, stepF, frsF, frF, itemF, codeF, condF, opsF, opsW, opF, stepS, wtS, gdst, gdl, sopF, pv, bltF, callF, p_move, p_assign, p_pick, p_binOp, p_len, SY.get, SY.put, SY.ev, SY.mk, bopInt, bop, pickAV, leaveS, retS, exitS, killL, isDefs, resS, resAll, tup1, exq_go, exq_f, ↓reduceIte, Nat.reduceLT, Nat.reduceEqDiff, Nat.reduceAdd, Nat.reduceSub, Bool.not_true, reduceCtorEq, true_and, decide_false, ktOf, ti3, ti22, regAt, fi24, body24, Try.f24, ↓exq_cd cd_c24_10, ↓exq_cd cd_c24_11, ↓exq_cd cd_c24_13, ↓exq_cd cd_c24_14, ↓exq_cd cd_c24_6, ↓exq_cd cd_c24_23, r24_13, r24_23]
    repeat (refine And.intro (a := (_ = true)) (by first | (simp; done) | (simp; omega)) ?_)
    rw [List.take_of_length_le (Nat.le_refl _)]
    refine ⟨[0], by simp, rfl, rfl, fun l c h => ?_⟩
    match l with
    | 0 => simp at h; subst h; rfl
    | l + 1 => simp at h
theorem rRLive_ok : SpecOk Try.prog (plOf pls) 24 sRLive := by
  refine ⟨_, fi24, fun args r bl1 h => ?_⟩
  unfold sRLive at h
  split at h
  · simp only [Option.some.injEq, Prod.mk.injEq, Bool.and_eq_true, decide_eq_true_eq] at h
    obtain ⟨⟨h1, h2⟩, rfl, rfl⟩ := h
    exact ⟨by simp, fun C hC _ => rRLive_run C hC _ _ _ h1 h2⟩
  · cases h

set_option maxRecDepth 100000 in
set_option maxHeartbeats 4000000 in
theorem rRAlive_run (C : Ctx) (hC : C.β.b = []) (t : Bool) (rs : List (List AV)) (c : Option Nat) (hm : rs.all isM = true) (hx : rs.length < 1000000) : Rch Try.prog (plOf pls) C (conf0 25 ⟨31, [.tmp 2], code25⟩ [.imr t 3 rs c] []) (Res (thoR pAlive rs) (thoB pAlive rs)) := by
  have hf := isM_flat hm
  by_cases hv : vOk rs 0 = true
  case neg =>
    have e : vchk rs = 2 := if_neg hv
    have hpos : (0 : Int) < rs.length := by
      cases rs with
      | nil => exact absurd rfl hv
      | cons r q => simp only [List.length_cons]; omega
    refine ExQ_ok [] 2000 plsOk kR1_ok ?_
    simp only [conf0]
    (try rw [exh]); simp (maxSteps := 4000000) only [kR1, stops, inK, stepF, frsF, frF, itemF, codeF, opsF, opsW, opF, wtS, sopF, pv, p_assign, SY.put, SY.ev, SY.mk, SY.ini, exq_go, ↓reduceIte, Nat.reduceLT, Nat.reduceAdd, true_and, Bool.and_self, Int.reduceLE, decide_true, ktOf, regAt, body25, Try.f25, ↓exq_cd cd_code25, ↓exq_cd cd_c25_1, ↓exq_cd cd_c25_2, ↓exq_cd cd_c25_3, ↓exq_cd cd_c25_4, ↓exq_cd cd_c25_5, ↓exq_cd cd_c25_7, ↓exq_cd cd_c25_8, ↓exq_cd cd_c25_9, r25_1, r25_3, r25_7]
    repeat (refine And.intro (a := (_ = true)) (by first | (simp; done) | (simp; omega)) ?_)
    refine Rch.loop plsOk ?_
    refine ExQ_ok [] 2000 plsOk kR1_ok ?_
    (try rw [exh]); simp (maxSteps := 4000000) only [kR1, sV, hf.lv, e, hm, hpos, stops, inK, stepF, frsF, frF, itemF, codeF, condF, opsF, opsW, opF, callO, stepS, wtS, gdst, gdl, sopF, pv, bltF, callF, calleeS, p_move, p_assign, p_pick, p_binOp, p_len, SY.get, SY.put, SY.ev, SY.mk, bopInt, bop, pickAV, leaveS, retS, exitS, killL, isDefs, resS, resAll, tup1, exq_go, exq_t, exq_f, ↓reduceIte, Nat.reduceLT, Nat.reduceEqDiff, Nat.reduceAdd, Nat.reduceSub, Bool.and_true, Bool.true_and, Bool.not_true, reduceCtorEq, true_and, List.map_cons, List.map_nil, Bool.and_self, List.nil_append, List.append_nil, Int.reduceEq, Int.reduceLE, decide_true, decide_false, ktOf, conK, alive, lndL, lnd, lvB, tB_tt, okBls, shB, ren, ti3, ti22, ti24, regAt, fi25, body25, Try.f25, ↓exq_cd cd_c25_10, ↓exq_cd cd_c25_11, ↓exq_cd cd_c25_13, ↓exq_cd cd_c25_14, ↓exq_cd cd_c25_6, ↓exq_cd cd_c25_23, r25_13, r25_23]
    repeat (refine And.intro (a := (_ = true)) (by first | (simp; done) | (simp; omega)) ?_)
    rw [thoR, if_neg hv, thoB, if_neg hv]
    exact ⟨[], List.nodup_nil, rfl, rfl, fun l c h => by simp at h⟩
  have e0 : vchk rs = 0 := if_pos hv
  rw [thoR, if_pos hv, thoB, if_pos hv]
  refine ExQ_ok [] 2000 plsOk kR1_ok ?_
  simp only [conf0]
  (try rw [exh]); simp (maxSteps := 4000000) only [kR1, stops, inK, stepF, frsF, frF, itemF, codeF, opsF, opsW, opF, wtS, sopF, pv, p_assign, SY.put, SY.ev, SY.mk, SY.ini, exq_go, ↓reduceIte, Nat.reduceLT, Nat.reduceAdd, true_and, Bool.and_self, Int.reduceLE, decide_true, ktOf, regAt, body25, Try.f25, ↓exq_cd cd_code25, ↓exq_cd cd_c25_1, ↓exq_cd cd_c25_2, ↓exq_cd cd_c25_3, ↓exq_cd cd_c25_4, ↓exq_cd cd_c25_5, ↓exq_cd cd_c25_7, ↓exq_cd cd_c25_8, ↓exq_cd cd_c25_9, r25_1, r25_3, r25_7]
  repeat (refine And.intro (a := (_ = true)) (by first | (simp; done) | (simp; omega)) ?_)
  refine Rch.fit1 hC [] (bl' := []) (tm' := tU0 t rs c) rfl List.nodup_nil rfl ⟨rfl, rfl, congrArg (fun x => AV.imr t 3 x c) (hf.ren _).symm, trivial⟩ (tU0_lv hf ..) trivial ?_
  simp only [tU0]
  refine Rch.nilsl 3 0 1 .i64 rfl rfl ?_
  refine Rch.loop plsOk ?_
  refine Rch.fit1 hC [0] (bl' := [some (.num .i64 (idsR pAlive (rs.take 0)))]) (tm' := tU t rs c 0 0) rfl (by decide) rfl ⟨rfl, rfl, congrArg (fun x => AV.imr t 3 x c) (hf.ren _).symm, trivial⟩ (tU_lv hf ..) ⟨⟨rfl, rfl⟩, trivial⟩ ?_
  refine loop_ind plsOk (α := {i : Nat // i ≤ rs.length}) (fun a => rs.length - a.1) (fun a => tU t rs c (idsR pAlive (rs.take a.1)).length a.1) (fun a => [some (.num .i64 (idsR pAlive (rs.take a.1)))]) (fun _ => Res (.sl 0 0 1 (idsR pAlive rs).length none) [some (.num .i64 (idsR pAlive rs))]) ?_ ⟨0, Nat.zero_le _⟩
  rintro ⟨i, hi⟩ ih
  simp only [tU] at hi ih ⊢
  by_cases h : (i : Int) < rs.length
  · have hi' : i < rs.length := by omega
    have e := isM_row hm hi'
    have hs := idsR_succ (p := pAlive) hi'
    have hle := idsR_le (p := pAlive) (rs := rs.take i)
    have hle2 : (rs.take i).length ≤ rs.length := by simp; omega
    have htk : (idsR pAlive (rs.take i)).take (idsR pAlive (rs.take i)).length = idsR pAlive (rs.take i) := List.take_of_length_le (Nat.le_refl _)
    by_cases h1 : stR (rowA rs i) = 1
    · have hp : pAlive (stR (rowA rs i)) = true := by simp [pAlive, h1]
      rw [if_pos hp] at hs
      have hs' := hs.symm
      have hle3 := idsR_le (p := pAlive) (rs := rs.take (i + 1))
      have hle4 : (rs.take (i + 1)).length ≤ rs.length := by simp; omega
      refine ExQ_ok [] 2000 plsOk kR1_ok ?_
      (try rw [exh]); simp (maxSteps := 4000000) only [kR1, sV, hf.lv, hm, e0, h, e, h1, htk, tk1, hs', stops, inK, stepF, frsF, frF, itemF, codeF, condF, opsF, opsW, opF, callO, wtS, gdst, gdl, sopF, pv, evq, bltF, callF, calleeS, quiet, p_move, p_assign, p_pick, p_binOp, p_fieldAddr, p_indexAddr, p_len, l_load, roomN, appNN, srcN, dstN, e_buildSlice, e_append, SY.get, SY.put, SY.ev, SY.mk, SY.nth, SY.lvl, SY.setl, wid, wids, dr, flat, at1, rdC, wrC, ar, bopInt, bop, pickAV, fillA, numsAt, numsAV, rep, elCt, killO, srcN, dstN, AV.scal, exq_go, exq_t, ↓reduceIte, Nat.reduceLT, Nat.reduceLeDiff, Nat.reduceEqDiff, Nat.reduceAdd, Nat.reduceSub, Bool.and_true, Bool.true_and, Bool.not_true, reduceCtorEq, true_and, List.map_cons, List.map_nil, Bool.and_self, List.drop_zero, List.length_cons, List.length_nil, List.cons_append, List.nil_append, List.append_nil, Nat.zero_add, Nat.add_zero, Nat.mul_one, Int.toNat_natCast, Int.reduceLE, decide_true, ktOf, conK, alive, lndL, lnd, lvB, tB_tt, okBls, shB, ren, ti3, ti22, ti24, ti29, ti37, regAt, body25, Try.f25, ↓exq_cd cd_c25_10, ↓exq_cd cd_c25_11, ↓exq_cd cd_c25_13, ↓exq_cd cd_c25_14, ↓exq_cd cd_c25_12, ↓exq_cd cd_c25_16, ↓exq_cd cd_c25_18, ↓exq_cd cd_c25_19, ↓exq_cd cd_c25_20, ↓exq_cd cd_c25_21, ↓exq_cd cd_c25_17, r25_13, r25_19, r25_21, r25_17]
      repeat (refine And.intro (a := (_ = true)) (by first | (simp; done) | (simp; omega)) ?_)
      refine Rch.fit1 hC [2] (bl' := [some (.num .i64 (idsR pAlive (rs.take (i + 1))))]) (tm' := tU t rs c (idsR pAlive (rs.take (i + 1))).length (i + 1)) rfl (by decide) rfl ⟨rfl, rfl, congrArg (fun x => AV.imr t 3 x c) (hf.ren _).symm, trivial⟩ (tU_lv hf ..) ⟨⟨rfl, rfl⟩, trivial⟩ ?_
      exact ih ⟨i + 1, by omega⟩ (by simp only; omega)
    · have hp : ¬ pAlive (stR (rowA rs i)) = true := by simp [pAlive, h1]
      rw [if_neg hp, List.append_nil] at hs
      refine ExQ_ok [] 2000 plsOk kR1_ok ?_
      (try rw [exh]); simp (maxSteps := 4000000) only [kR1, sV, hf.lv, hm, e0, h, e, h1, stops, inK, stepF, frsF, frF, itemF, codeF, condF, opsF, opsW, opF, callO, wtS, gdst, gdl, sopF, pv, bltF, callF, calleeS, p_move, p_assign, p_pick, p_binOp, p_fieldAddr, p_indexAddr, p_len, l_load, SY.get, SY.put, SY.ev, SY.mk, SY.nth, dr, at1, rdC, ar, bopInt, bop, pickAV, AV.scal, exq_go, exq_t, exq_f, ↓reduceIte, Nat.reduceLT, Nat.reduceEqDiff, Nat.reduceAdd, Nat.reduceSub, Bool.and_true, Bool.true_and, Bool.not_true, reduceCtorEq, true_and, List.map_cons, List.map_nil, Bool.and_self, List.nil_append, List.append_nil, Nat.zero_add, Int.toNat_natCast, Int.reduceLE, decide_true, decide_false, ktOf, conK, alive, lndL, lnd, lvB, tB_tt, okBls, shB, ren, ti3, ti22, ti24, ti29, regAt, body25, Try.f25, ↓exq_cd cd_c25_10, ↓exq_cd cd_c25_11, ↓exq_cd cd_c25_13, ↓exq_cd cd_c25_14, ↓exq_cd cd_c25_12, ↓exq_cd cd_c25_16, ↓exq_cd cd_c25_18, ↓exq_cd cd_c25_19, ↓exq_cd cd_c25_20, ↓exq_cd cd_c25_17, r25_13, r25_19, r25_17]
      repeat (refine And.intro (a := (_ = true)) (by first | (simp; done) | (simp; omega)) ?_)
      refine Rch.fit1 hC [0] (bl' := [some (.num .i64 (idsR pAlive (rs.take (i + 1))))]) (tm' := tU t rs c (idsR pAlive (rs.take (i + 1))).length (i + 1)) rfl (by decide) rfl ⟨by rw [hs]; exact rfl, rfl, congrArg (fun x => AV.imr t 3 x c) (hf.ren _).symm, trivial⟩ (tU_lv hf ..) ⟨⟨by rw [hs]; exact rfl, rfl⟩, trivial⟩ ?_
      exact ih ⟨i + 1, by omega⟩ (by simp only; omega)
  · obtain rfl : i = rs.length := by omega
    refine ExQ_ok [] 2000 plsOk kR1_ok ?_
    (try rw [exh]); simp (maxSteps := 4000000) only [kR1, h, stops, stepF, frsF, frF, itemF, codeF, condF, opsF, opsW, opF, stepS, wtS, gdst, gdl, sopF, pv, bltF, callF, p_move, p_assign, p_pick, p_binOp, p_len, SY.get, SY.put, SY.ev, SY.mk, bopInt, bop, pickAV, leaveS, retS, exitS, killL, isDefs, resS, resAll, tup1, exq_go, exq_f, ↓reduceIte, Nat.reduceLT, Nat.reduceEqDiff, Nat.reduceAdd, Nat.reduceSub, Bool.not_true, reduceCtorEq, true_and, decide_false, ktOf, ti3, ti22, regAt, fi25, body25, Try.f25, ↓exq_cd cd_c25_10, ↓exq_cd cd_c25_11, ↓exq_cd cd_c25_13, ↓exq_cd cd_c25_14, ↓exq_cd cd_c25_6, ↓exq_cd cd_c25_23, r25_13, r25_23]
    repeat (refine And.intro (a := (_ = true)) (by first | (simp; done) | (simp; omega)) ?_)
    rw [List.take_of_length_le (Nat.le_refl _)]
    refine ⟨[0], by simp, rfl, rfl, fun l c h => ?_⟩
    match l with
    | 0 => simp at h; subst h; rfl
    | l + 1 => simp at h
theorem rRAlive_ok : SpecOk Try.prog (plOf pls) 25 sRAlive := by
  refine ⟨_, fi25, fun args r bl1 h => ?_⟩
  unfold sRAlive at h
  split at h
  · simp only [Option.some.injEq, Prod.mk.injEq, Bool.and_eq_true, decide_eq_true_eq] at h
    obtain ⟨⟨h1, h2⟩, rfl, rfl⟩ := h
    exact ⟨by simp, fun C hC _ => rRAlive_run C hC _ _ _ h1 h2⟩
  · cases h
end Go.Proofs.Ytdanhpemheldlaa
