/- Views: Get, Live, Alive. -/
import Derived.Test.YtdanhpemheldlaaVL2
set_option linter.unusedSimpArgs false
set_option linter.unusedVariables false
-- FUNCTIONS 15 45 22 46 19 20
namespace Go.Proofs.Ytdanhpemheldlaa
open Go Go.SY
def kV : KT := ktOf [(13, sV), (34, sSearch)]
theorem kV_ok : KOk Try.prog (plOf pls) kV := ktOf_ok plsOk fun x hx => by
  simp only [List.mem_cons, List.not_mem_nil, or_false] at hx
  rcases hx with rfl | rfl
  · exact vchk_ok
  · exact search_ok
theorem tk1 {α : Type} (x : α) : List.take 1 [x] = [x] := rfl
def gotB (rs : List (List AV)) (k : Int) : Bool := vOk rs 0 && fndR rs k
def getE (rs : List (List AV)) (k : Int) : Int := if vOk rs 0 = true then (if fndR rs k = true then 0 else 6) else 2
def getR (rs : List (List AV)) (k : Int) : AV := .tup [.agg [.v (.int .i64 (if gotB rs k = true then idR (rowA rs (posR rs k)) else 0)), .v (.int .i64 (if gotB rs k = true then stR (rowA rs (posR rs k)) else 0)), .v (.int .i64 (if gotB rs k = true then icR (rowA rs (posR rs k)) else 0))], .v (.int .i64 (getE rs k))]
def sGet : List AV → Option (Bool × AV × Bls)
  | [.imr _ 3 rs _, .v (.int .i64 k)] => some (rs.all isM && decide (rs.length < 4611686018427387904), getR rs k, [])
  | _ => none
set_option maxRecDepth 100000 in
set_option maxHeartbeats 4000000 in
theorem get_run (C : Ctx) (hC : C.β.b = []) (t : Bool) (rs : List (List AV)) (c : Option Nat) (k : Int) (hm : rs.all isM = true) (hx : rs.length < 4611686018427387904) : Rch Try.prog (plOf pls) C (conf0 15 ⟨28, [.cell 4 29, .tmp 5], code15⟩ [.imr t 3 rs c, .v (.int .i64 k)] []) (Res (getR rs k) []) := by
  have hf := isM_flat hm
  by_cases hv : vOk rs 0 = true
  case neg =>
    have e : vchk rs = 2 := if_neg hv
    have g : gotB rs k = false := by rw [gotB, Bool.eq_false_iff.2 hv]; rfl
    have gE : getE rs k = 2 := if_neg hv
    refine ExQ_ok [] 2000 plsOk kV_ok ?_
    simp only [conf0]
    (try rw [exh]); simp (maxSteps := 4000000) only [kV, sV, hf.lv, e, hm, stops, inK, stepF, frsF, frF, itemF, codeF, condF, opsF, opsW, opF, callO, stepS, wtS, sopF, pv, evq, callF, calleeS, quiet, p_move, p_assign, p_binOp, p_build, e_store, e_alloc, SY.get, SY.put, SY.ev, SY.mk, SY.lvl, SY.setl, SY.ini, wid, wids, dr, tk, flat, pack, rdC, rdCt, wrC, wrCt, bopInt, bop, fillA, nz, isArr, ctOf, leaveS, retS, killL, isDefs, resS, resAll, tup1, exq_go, exq_t, ↓reduceIte, Nat.reduceLT, Nat.reduceEqDiff, Nat.reduceAdd, Nat.reduceSub, Bool.and_true, Bool.true_and, reduceCtorEq, true_and, List.map_cons, List.map_nil, Bool.and_self, List.length_nil, List.nil_append, List.append_nil, Nat.zero_add, Nat.add_zero, Nat.zero_mul, Int.reduceEq, Int.reduceLE, decide_true, ktOf, conK, alive, lndL, lnd, lvB, tB_tt, okBls, shB, ren, not_false_eq_true, ti24, ti29, regAt, fi15, body15, Try.f15, ↓exq_cd cd_code15, ↓exq_cd cd_c15_1, ↓exq_cd cd_c15_2, ↓exq_cd cd_c15_3, ↓exq_cd cd_c15_5, ↓exq_cd cd_c15_6, ↓exq_cd cd_c15_7, ↓exq_cd cd_c15_8, ↓exq_cd cd_c15_9, ↓exq_cd cd_c15_11, r15_1, r15_5, r15_7, r15_11]
    repeat (refine And.intro (a := (_ = true)) (by first | (simp; done) | (simp; omega)) ?_)
    rw [getR, g, gE]
    exact ⟨[], List.nodup_nil, rfl, rfl, fun l c h => by simp at h⟩
  have e0 : vchk rs = 0 := if_pos hv
  by_cases hfd : fndR rs k = true
  · have g : gotB rs k = true := by rw [gotB, hv, hfd]; rfl
    have gE : getE rs k = 0 := by rw [getE, if_pos hv, if_pos hfd]
    have hp := (of_decide_eq_true hfd).1
    have e := isM_row hm hp
    refine ExQ_ok [] 2000 plsOk kV_ok ?_
    simp only [conf0]
    (try rw [exh]); simp (maxSteps := 4000000) only [kV, sV, sSearch, hf.lv, e0, hm, hv, hfd, e, Int.toNat_natCast, stops, inK, stepF, frsF, frF, itemF, codeF, condF, opsF, opsW, opF, callO, stepS, wtS, sopF, pv, evq, callF, calleeS, quiet, p_move, p_assign, p_binOp, p_unOp, p_indexAddr, p_extract, l_load, e_store, e_alloc, SY.get, SY.put, SY.ev, SY.mk, SY.nth, SY.lvl, SY.setl, SY.ini, wid, wids, dr, tk, flat, pack, rdC, rdCt, wrC, wrCt, bopInt, bop, isArr, ctOf, leaveS, retS, killL, isDefs, resS, resAll, tup1, exq_go, exq_f, ↓reduceIte, Nat.reduceLT, Nat.reduceEqDiff, Nat.reduceAdd, Nat.reduceSub, Bool.and_true, Bool.true_and, Bool.not_true, reduceCtorEq, true_and, List.map_cons, List.map_nil, Bool.and_self, List.length_nil, List.nil_append, List.append_nil, Nat.zero_add, Nat.add_zero, Nat.zero_mul, Int.toNat_natCast, Int.reduceLE, decide_true, decide_false, ktOf, conK, alive, lndL, lnd, lvB, lvL, tB_tt, okBls, shB, ren, renL, not_true_eq_false, ti22, ti24, ti29, regAt, fi15, body15, Try.f15, ↓exq_cd cd_code15, ↓exq_cd cd_c15_1, ↓exq_cd cd_c15_2, ↓exq_cd cd_c15_3, ↓exq_cd cd_c15_5, ↓exq_cd cd_c15_6, ↓exq_cd cd_c15_7, ↓exq_cd cd_c15_8, ↓exq_cd cd_c15_4, ↓exq_cd cd_c15_12, ↓exq_cd cd_c15_13, ↓exq_cd cd_c15_14, ↓exq_cd cd_c15_16, ↓exq_cd cd_c15_17, ↓exq_cd cd_c15_15, ↓exq_cd cd_c15_21, r15_1, r15_5, r15_7, r15_12, r15_16, r15_21]
    repeat (refine And.intro (a := (_ = true)) (by first | (simp; done) | (simp; omega)) ?_)
    rw [getR, g, gE]
    exact ⟨[], List.nodup_nil, rfl, rfl, fun l c h => by simp at h⟩
  · have hfd' : fndR rs k = false := Bool.eq_false_iff.2 hfd
    have g : gotB rs k = false := by rw [gotB, hv, hfd']; rfl
    have gE : getE rs k = 6 := by rw [getE, if_pos hv, if_neg hfd]
    refine ExQ_ok [] 2000 plsOk kV_ok ?_
    simp only [conf0]
    (try rw [exh]); simp (maxSteps := 4000000) only [kV, sV, sSearch, hf.lv, e0, hm, hv, hfd', stops, inK, stepF, frsF, frF, itemF, codeF, condF, opsF, opsW, opF, callO, stepS, wtS, sopF, pv, evq, callF, calleeS, quiet, p_move, p_assign, p_binOp, p_unOp, p_extract, p_build, e_store, e_alloc, SY.get, SY.put, SY.ev, SY.mk, SY.nth, SY.lvl, SY.setl, SY.ini, wid, wids, dr, tk, flat, pack, rdC, rdCt, wrC, wrCt, bopInt, bop, fillA, nz, isArr, ctOf, leaveS, retS, killL, isDefs, resS, resAll, tup1, exq_go, exq_t, exq_f, ↓reduceIte, Nat.reduceLT, Nat.reduceEqDiff, Nat.reduceAdd, Nat.reduceSub, Bool.and_true, Bool.true_and, Bool.not_false, reduceCtorEq, true_and, List.map_cons, List.map_nil, Bool.and_self, List.length_nil, List.nil_append, List.append_nil, Nat.zero_add, Nat.add_zero, Nat.zero_mul, Int.reduceLE, decide_true, decide_false, ktOf, conK, alive, lndL, lnd, lvB, lvL, tB_tt, okBls, shB, ren, renL, not_true_eq_false, ti24, ti29, regAt, fi15, body15, Try.f15, ↓exq_cd cd_code15, ↓exq_cd cd_c15_1, ↓exq_cd cd_c15_2, ↓exq_cd cd_c15_3, ↓exq_cd cd_c15_5, ↓exq_cd cd_c15_6, ↓exq_cd cd_c15_7, ↓exq_cd cd_c15_8, ↓exq_cd cd_c15_4, ↓exq_cd cd_c15_12, ↓exq_cd cd_c15_13, ↓exq_cd cd_c15_14, ↓exq_cd cd_c15_16, ↓exq_cd cd_c15_17, ↓exq_cd cd_c15_18, ↓exq_cd cd_c15_20, r15_1, r15_5, r15_7, r15_12, r15_16, r15_20]
    repeat (refine And.intro (a := (_ = true)) (by first | (simp; done) | (simp; omega)) ?_)
    rw [getR, g, gE]
    exact ⟨[], List.nodup_nil, rfl, rfl, fun l c h => by simp at h⟩
theorem get_ok : SpecOk Try.prog (plOf pls) 15 sGet := by
  refine ⟨_, fi15, fun args r bl1 h => ?_⟩
  unfold sGet at h
  split at h
  · simp only [Option.some.injEq, Prod.mk.injEq, Bool.and_eq_true, decide_eq_true_eq] at h
    obtain ⟨⟨h1, h2⟩, rfl, rfl⟩ := h
    exact ⟨by simp, fun C hC _ => get_run C hC _ _ _ _ h1 h2⟩
  · cases h
def pLive (z : Int) : Bool := decide (z = 1) || decide (z = 2)
def pAlive (z : Int) : Bool := decide (z = 1)
def idsR (p : Int → Bool) (rs : List (List AV)) : List Int := (rs.filter fun r => p (stR r)).map idR
theorem idsR_le {p : Int → Bool} {rs : List (List AV)} : (idsR p rs).length ≤ rs.length := by
  unfold idsR
  rw [List.length_map]
  exact List.length_filter_le ..
theorem idsR_succ {p : Int → Bool} {rs : List (List AV)} {i : Nat} (h : i < rs.length) : idsR p (rs.take (i + 1)) = idsR p (rs.take i) ++ if p (stR (rowA rs i)) = true then [idR (rowA rs i)] else [] := by
  have e : rowA rs i = rs[i] := by unfold rowA; rw [List.getElem?_eq_getElem h]; rfl
  rw [List.take_add_one, List.getElem?_eq_getElem h, e]
  unfold idsR
  simp only [Option.toList, List.filter_append, List.map_append]
  congr 1
  by_cases hp : p (stR rs[i]) = true
  · simp [hp]
  · simp [hp]
def thoR (p : Int → Bool) (rs : List (List AV)) : AV := if vOk rs 0 = true then .sl 0 0 1 (idsR p rs).length none else .nil
def thoB (p : Int → Bool) (rs : List (List AV)) : Bls := if vOk rs 0 = true then [some (.num .i64 (idsR p rs))] else []
def tT (t : Bool) (rs : List (List AV)) (c : Option Nat) (f m i : Nat) : TM := [(5, .sl 0 0 1 m none), (14, .v (.int .i64 i)), (13, .v (.int .i64 rs.length)), (1, .fn f [] []), (12, .imr t 3 rs c)]
theorem tT_lv {rs : List (List AV)} (hf : FlatR rs) (t : Bool) (c : Option Nat) (f m i N : Nat) : lvT (N + 1) true (tT t rs c f m i) = true := by
  cases t <;> simp [tT, lvT, lvB, lvL, tB, hf.lv]

set_option maxRecDepth 100000 in
set_option maxHeartbeats 4000000 in
theorem live_run (C : Ctx) (hC : C.β.b = []) (t : Bool) (rs : List (List AV)) (c : Option Nat) (hm : rs.all isM = true) (hx : rs.length < 1000000) : Rch Try.prog (plOf pls) C (conf0 45 ⟨28, [.tmp 4], code45⟩ [.imr t 3 rs c, .fn 22 [] []] []) (Res (thoR pLive rs) (thoB pLive rs)) := by
  have hf := isM_flat hm
  by_cases hv : vOk rs 0 = true
  case neg =>
    have e : vchk rs = 2 := if_neg hv
    refine ExQ_ok [] 2000 plsOk kV_ok ?_
    simp only [conf0]
    (try rw [exh]); simp (maxSteps := 4000000) only [kV, sV, hf.lv, e, hm, stops, inK, stepF, frsF, frF, itemF, codeF, condF, opsF, opsW, opF, callO, stepS, wtS, sopF, pv, callF, calleeS, p_move, p_assign, p_binOp, SY.get, SY.put, SY.ev, SY.mk, SY.ini, bopInt, bop, leaveS, retS, killL, isDefs, resS, resAll, tup1, exq_go, exq_t, ↓reduceIte, Nat.reduceLT, Nat.reduceEqDiff, Nat.reduceAdd, Bool.and_true, Bool.true_and, reduceCtorEq, true_and, List.map_cons, List.map_nil, Bool.and_self, List.nil_append, List.append_nil, Nat.zero_add, Int.reduceEq, Int.reduceLE, decide_true, ktOf, conK, alive, lndL, lnd, lvB, tB_tt, okBls, shB, ren, not_false_eq_true, ti24, regAt, fi45, body45, Try.f45, ↓exq_cd cd_code45, ↓exq_cd cd_c45_1, ↓exq_cd cd_c45_2, ↓exq_cd cd_c45_3, ↓exq_cd cd_c45_4, ↓exq_cd cd_c45_5, ↓exq_cd cd_c45_7, ↓exq_cd cd_c45_8, ↓exq_cd cd_c45_9, ↓exq_cd cd_c45_11, r45_1, r45_3, r45_7, r45_11]
    repeat (refine And.intro (a := (_ = true)) (by first | (simp; done) | (simp; omega)) ?_)
    rw [thoR, if_neg hv, thoB, if_neg hv]
    exact ⟨[], List.nodup_nil, rfl, rfl, fun l c h => by simp at h⟩
  have e0 : vchk rs = 0 := if_pos hv
  rw [thoR, if_pos hv, thoB, if_pos hv]
  refine ExQ_ok [] 2000 plsOk kV_ok ?_
  simp only [conf0]
  (try rw [exh]); simp (maxSteps := 4000000) only [kV, sV, hf.lv, e0, hm, stops, inK, stepF, frsF, frF, itemF, codeF, condF, opsF, opsW, opF, callO, wtS, sopF, pv, bltF, callF, calleeS, p_move, p_assign, p_binOp, p_len, SY.get, SY.put, SY.ev, SY.mk, SY.ini, bopInt, bop, exq_go, exq_f, ↓reduceIte, Nat.reduceLT, Nat.reduceAdd, Bool.and_true, Bool.true_and, reduceCtorEq, true_and, List.map_cons, List.map_nil, Bool.and_self, List.nil_append, List.append_nil, Nat.zero_add, Int.reduceLE, decide_true, decide_false, ktOf, conK, alive, lndL, lnd, lvB, tB_tt, okBls, shB, ren, not_true_eq_false, ti22, ti24, regAt, body45, Try.f45, ↓exq_cd cd_code45, ↓exq_cd cd_c45_1, ↓exq_cd cd_c45_2, ↓exq_cd cd_c45_3, ↓exq_cd cd_c45_4, ↓exq_cd cd_c45_5, ↓exq_cd cd_c45_7, ↓exq_cd cd_c45_8, ↓exq_cd cd_c45_6, ↓exq_cd cd_c45_12, ↓exq_cd cd_c45_14, ↓exq_cd cd_c45_15, ↓exq_cd cd_c45_16, r45_1, r45_3, r45_7, r45_14]
  repeat (refine And.intro (a := (_ = true)) (by first | (simp; done) | (simp; omega)) ?_)
  refine Rch.nilsl 5 0 1 .i64 rfl rfl ?_
  refine Rch.loop plsOk ?_
  refine Rch.fit1 hC [0] (bl' := [some (.num .i64 (idsR pLive (rs.take 0)))]) (tm' := tT t rs c 22 0 0) rfl (by decide) rfl ⟨rfl, rfl, rfl, rfl, congrArg (fun x => AV.imr t 3 x c) (hf.ren _).symm, trivial⟩ (tT_lv hf ..) ⟨⟨rfl, rfl⟩, trivial⟩ ?_
  refine loop_ind plsOk (α := {i : Nat // i ≤ rs.length}) (fun a => rs.length - a.1) (fun a => tT t rs c 22 (idsR pLive (rs.take a.1)).length a.1) (fun a => [some (.num .i64 (idsR pLive (rs.take a.1)))]) (fun _ => Res (.sl 0 0 1 (idsR pLive rs).length none) [some (.num .i64 (idsR pLive rs))]) ?_ ⟨0, Nat.zero_le _⟩
  rintro ⟨i, hi⟩ ih
  simp only [tT] at hi ih ⊢
  by_cases h : (i : Int) < rs.length
  · have hi' : i < rs.length := by omega
    have e := isM_row hm hi'
    have hs := idsR_succ (p := pLive) hi'
    have hle := idsR_le (p := pLive) (rs := rs.take i)
    have hle2 : (rs.take i).length ≤ rs.length := by simp; omega
    have htk : (idsR pLive (rs.take i)).take (idsR pLive (rs.take i)).length = idsR pLive (rs.take i) := List.take_of_length_le (Nat.le_refl _)
    by_cases h1 : stR (rowA rs i) = 1
    · have hp : pLive (stR (rowA rs i)) = true := by simp [pLive, h1]
      rw [if_pos hp] at hs
      have hs' := hs.symm
      have hle3 := idsR_le (p := pLive) (rs := rs.take (i + 1))
      have hle4 : (rs.take (i + 1)).length ≤ rs.length := by simp; omega
      refine ExQ_ok [] 2000 plsOk kV_ok ?_
      (try rw [exh]); simp (maxSteps := 4000000) only [kV, h, e, h1, htk, tk1, hs', stops, inK, stepF, frsF, frF, itemF, codeF, condF, opsF, opsW, opF, callO, stepS, wtS, gdst, gdl, sopF, pv, evq, bltF, callF, calleeS, quiet, p_move, p_assign, p_pick, p_binOp, p_fieldAddr, p_indexAddr, l_load, roomN, appNN, srcN, dstN, e_store, e_alloc, e_box, e_buildSlice, e_append, SY.get, SY.put, SY.ev, SY.mk, SY.nth, SY.lvl, SY.setl, SY.ini, wid, wids, dr, tk, flat, at1, pack, rdC, rdCt, wrC, wrCt, ar, bopInt, bop, pickAV, fillA, numsAt, isArr, ctOf, numsAV, rep, elCt, killO, srcN, dstN, enterS, leaveS, retS, finishS, killL, isDefs, resS, resAll, tup1, AV.scal, exq_go, exq_t, ↓reduceIte, Nat.reduceLT, Nat.reduceLeDiff, Nat.reduceEqDiff, Nat.reduceAdd, Nat.reduceSub, Bool.and_true, Bool.true_and, Bool.not_false, List.contains_nil, reduceCtorEq, true_and, List.map_cons, List.map_nil, Bool.and_self, List.drop_zero, List.length_cons, List.length_nil, List.cons_append, List.nil_append, List.append_nil, Nat.zero_add, Nat.add_zero, Nat.zero_mul, Nat.mul_one, Int.toNat_natCast, Int.reduceLE, decide_true, ktOf, ti3, ti22, ti29, ti37, ti62, regAt, body45, Try.f45, fi22, body22, Try.f22, ↓exq_cd cd_code22, ↓exq_cd cd_c22_1, ↓exq_cd cd_c22_2, ↓exq_cd cd_c22_3, ↓exq_cd cd_c45_17, ↓exq_cd cd_c45_18, ↓exq_cd cd_c45_19, ↓exq_cd cd_c45_20, ↓exq_cd cd_c45_21, ↓exq_cd cd_c45_23, ↓exq_cd cd_c45_25, ↓exq_cd cd_c45_26, ↓exq_cd cd_c45_27, ↓exq_cd cd_c45_28, ↓exq_cd cd_c45_29, ↓exq_cd cd_c45_30, ↓exq_cd cd_c45_24, r22_1, r22_3, r45_18, r45_26, r45_28, r45_30, r45_24]
      repeat (refine And.intro (a := (_ = true)) (by first | (simp; done) | (simp; omega)) ?_)
      refine Rch.fit1 hC [4] (bl' := [some (.num .i64 (idsR pLive (rs.take (i + 1))))]) (tm' := tT t rs c 22 (idsR pLive (rs.take (i + 1))).length (i + 1)) rfl (by decide) rfl ⟨rfl, rfl, rfl, rfl, congrArg (fun x => AV.imr t 3 x c) (hf.ren _).symm, trivial⟩ (tT_lv hf ..) ⟨⟨rfl, rfl⟩, trivial⟩ ?_
      exact ih ⟨i + 1, by omega⟩ (by simp only; omega)
    by_cases h2 : stR (rowA rs i) = 2
    · have hp : pLive (stR (rowA rs i)) = true := by simp [pLive, h2]
      rw [if_pos hp] at hs
      have hs' := hs.symm
      have hle3 := idsR_le (p := pLive) (rs := rs.take (i + 1))
      have hle4 : (rs.take (i + 1)).length ≤ rs.length := by simp; omega
      refine ExQ_ok [] 2000 plsOk kV_ok ?_
      (try rw [exh]); simp (maxSteps := 4000000) only [kV, h, e, h2, htk, tk1, hs', stops, inK, stepF, frsF, frF, itemF, codeF, condF, opsF, opsW, opF, callO, stepS, wtS, gdst, gdl, sopF, pv, evq, bltF, callF, calleeS, quiet, p_move, p_assign, p_pick, p_binOp, p_fieldAddr, p_indexAddr, l_load, roomN, appNN, srcN, dstN, e_store, e_alloc, e_box, e_buildSlice, e_append, SY.get, SY.put, SY.ev, SY.mk, SY.nth, SY.lvl, SY.setl, SY.ini, wid, wids, dr, tk, flat, at1, pack, rdC, rdCt, wrC, wrCt, ar, bopInt, bop, pickAV, fillA, numsAt, isArr, ctOf, numsAV, rep, elCt, killO, srcN, dstN, enterS, leaveS, retS, finishS, killL, isDefs, resS, resAll, tup1, AV.scal, exq_go, exq_t, exq_f, ↓reduceIte, Nat.reduceLT, Nat.reduceLeDiff, Nat.reduceEqDiff, Nat.reduceAdd, Nat.reduceSub, Bool.and_true, Bool.true_and, Bool.not_false, List.contains_nil, reduceCtorEq, true_and, List.map_cons, List.map_nil, Bool.and_self, List.drop_zero, List.length_cons, List.length_nil, List.cons_append, List.nil_append, List.append_nil, Nat.zero_add, Nat.add_zero, Nat.zero_mul, Nat.mul_one, Int.toNat_natCast, Int.reduceEq, Int.reduceLE, decide_true, decide_false, ktOf, ti3, ti22, ti29, ti37, ti62, regAt, body45, Try.f45, fi22, body22, Try.f22, ↓exq_cd cd_code22, ↓exq_cd cd_c22_1, ↓exq_cd cd_c22_2, ↓exq_cd cd_c22_3, ↓exq_cd cd_c45_17, ↓exq_cd cd_c45_18, ↓exq_cd cd_c45_19, ↓exq_cd cd_c45_20, ↓exq_cd cd_c45_21, ↓exq_cd cd_c45_23, ↓exq_cd cd_c45_25, ↓exq_cd cd_c45_26, ↓exq_cd cd_c45_27, ↓exq_cd cd_c45_28, ↓exq_cd cd_c45_29, ↓exq_cd cd_c45_30, ↓exq_cd cd_c45_24, r22_1, r22_3, r45_18, r45_26, r45_28, r45_30, r45_24]
      repeat (refine And.intro (a := (_ = true)) (by first | (simp; done) | (simp; omega)) ?_)
      refine Rch.fit1 hC [4] (bl' := [some (.num .i64 (idsR pLive (rs.take (i + 1))))]) (tm' := tT t rs c 22 (idsR pLive (rs.take (i + 1))).length (i + 1)) rfl (by decide) rfl ⟨rfl, rfl, rfl, rfl, congrArg (fun x => AV.imr t 3 x c) (hf.ren _).symm, trivial⟩ (tT_lv hf ..) ⟨⟨rfl, rfl⟩, trivial⟩ ?_
      exact ih ⟨i + 1, by omega⟩ (by simp only; omega)
    · have hp : ¬ pLive (stR (rowA rs i)) = true := by simp [pLive, h1, h2]
      rw [if_neg hp, List.append_nil] at hs
      refine ExQ_ok [] 2000 plsOk kV_ok ?_
      (try rw [exh]); simp (maxSteps := 4000000) only [kV, h, e, h1, h2, stops, inK, stepF, frsF, frF, itemF, codeF, condF, opsF, opsW, opF, callO, stepS, wtS, gdst, gdl, sopF, pv, evq, callF, calleeS, quiet, p_move, p_assign, p_pick, p_binOp, p_fieldAddr, p_indexAddr, l_load, e_store, e_alloc, e_box, SY.get, SY.put, SY.ev, SY.mk, SY.nth, SY.lvl, SY.setl, SY.ini, wid, wids, dr, tk, flat, at1, pack, rdC, rdCt, wrC, wrCt, ar, bopInt, bop, pickAV, isArr, ctOf, enterS, leaveS, retS, finishS, killL, isDefs, resS, resAll, tup1, AV.scal, exq_go, exq_t, exq_f, ↓reduceIte, Nat.reduceLT, Nat.reduceLeDiff, Nat.reduceEqDiff, Nat.reduceAdd, Nat.reduceSub, Bool.and_true, Bool.not_false, List.contains_nil, reduceCtorEq, true_and, List.map_cons, List.map_nil, Bool.and_self, List.length_cons, List.length_nil, List.cons_append, List.nil_append, List.append_nil, Nat.zero_add, Nat.add_zero, Nat.zero_mul, Int.toNat_natCast, Int.reduceLE, decide_true, decide_false, ktOf, ti3, ti22, ti29, ti62, regAt, body45, Try.f45, fi22, body22, Try.f22, ↓exq_cd cd_code22, ↓exq_cd cd_c22_1, ↓exq_cd cd_c22_2, ↓exq_cd cd_c22_3, ↓exq_cd cd_c45_17, ↓exq_cd cd_c45_18, ↓exq_cd cd_c45_19, ↓exq_cd cd_c45_20, ↓exq_cd cd_c45_21, ↓exq_cd cd_c45_23, ↓exq_cd cd_c45_25, ↓exq_cd cd_c45_26, ↓exq_cd cd_c45_27, ↓exq_cd cd_c45_28, ↓exq_cd cd_c45_29, ↓exq_cd cd_c45_24, r22_1, r22_3, r45_18, r45_26, r45_28, r45_24]
      repeat (refine And.intro (a := (_ = true)) (by first | (simp; done) | (simp; omega)) ?_)
      refine Rch.fit1 hC [0] (bl' := [some (.num .i64 (idsR pLive (rs.take (i + 1))))]) (tm' := tT t rs c 22 (idsR pLive (rs.take (i + 1))).length (i + 1)) rfl (by decide) rfl ⟨by rw [hs]; exact rfl, rfl, rfl, rfl, congrArg (fun x => AV.imr t 3 x c) (hf.ren _).symm, trivial⟩ (tT_lv hf ..) ⟨⟨by rw [hs]; exact rfl, rfl⟩, trivial⟩ ?_
      exact ih ⟨i + 1, by omega⟩ (by simp only; omega)
  · obtain rfl : i = rs.length := by omega
    refine ExQ_ok [] 2000 plsOk kV_ok ?_
    (try rw [exh]); simp (maxSteps := 4000000) only [kV, h, stops, stepF, frsF, frF, itemF, codeF, condF, opsF, opsW, opF, stepS, wtS, sopF, pv, p_move, p_assign, p_binOp, SY.get, SY.put, SY.ev, bopInt, bop, leaveS, retS, exitS, killL, isDefs, resS, resAll, tup1, exq_go, exq_f, ↓reduceIte, Nat.reduceLT, Nat.reduceEqDiff, Nat.reduceAdd, true_and, decide_false, ktOf, ti3, regAt, fi45, body45, Try.f45, ↓exq_cd cd_c45_17, ↓exq_cd cd_c45_18, ↓exq_cd cd_c45_19, ↓exq_cd cd_c45_20, ↓exq_cd cd_c45_13, ↓exq_cd cd_c45_32, r45_18, r45_32]
    repeat (refine And.intro (a := (_ = true)) (by first | (simp; done) | (simp; omega)) ?_)
    rw [List.take_of_length_le (Nat.le_refl _)]
    refine ⟨[0], by simp, rfl, rfl, fun l c h => ?_⟩
    match l with
    | 0 => simp at h; subst h; rfl
    | l + 1 => simp at h

set_option maxRecDepth 100000 in
set_option maxHeartbeats 4000000 in
theorem alive_run (C : Ctx) (hC : C.β.b = []) (t : Bool) (rs : List (List AV)) (c : Option Nat) (hm : rs.all isM = true) (hx : rs.length < 1000000) : Rch Try.prog (plOf pls) C (conf0 45 ⟨28, [.tmp 4], code45⟩ [.imr t 3 rs c, .fn 46 [] []] []) (Res (thoR pAlive rs) (thoB pAlive rs)) := by
  have hf := isM_flat hm
  by_cases hv : vOk rs 0 = true
  case neg =>
    have e : vchk rs = 2 := if_neg hv
    refine ExQ_ok [] 2000 plsOk kV_ok ?_
    simp only [conf0]
    (try rw [exh]); simp (maxSteps := 4000000) only [kV, sV, hf.lv, e, hm, stops, inK, stepF, frsF, frF, itemF, codeF, condF, opsF, opsW, opF, callO, stepS, wtS, sopF, pv, callF, calleeS, p_move, p_assign, p_binOp, SY.get, SY.put, SY.ev, SY.mk, SY.ini, bopInt, bop, leaveS, retS, killL, isDefs, resS, resAll, tup1, exq_go, exq_t, ↓reduceIte, Nat.reduceLT, Nat.reduceEqDiff, Nat.reduceAdd, Bool.and_true, Bool.true_and, reduceCtorEq, true_and, List.map_cons, List.map_nil, Bool.and_self, List.nil_append, List.append_nil, Nat.zero_add, Int.reduceEq, Int.reduceLE, decide_true, ktOf, conK, alive, lndL, lnd, lvB, tB_tt, okBls, shB, ren, not_false_eq_true, ti24, regAt, fi45, body45, Try.f45, ↓exq_cd cd_code45, ↓exq_cd cd_c45_1, ↓exq_cd cd_c45_2, ↓exq_cd cd_c45_3, ↓exq_cd cd_c45_4, ↓exq_cd cd_c45_5, ↓exq_cd cd_c45_7, ↓exq_cd cd_c45_8, ↓exq_cd cd_c45_9, ↓exq_cd cd_c45_11, r45_1, r45_3, r45_7, r45_11]
    repeat (refine And.intro (a := (_ = true)) (by first | (simp; done) | (simp; omega)) ?_)
    rw [thoR, if_neg hv, thoB, if_neg hv]
    exact ⟨[], List.nodup_nil, rfl, rfl, fun l c h => by simp at h⟩
  have e0 : vchk rs = 0 := if_pos hv
  rw [thoR, if_pos hv, thoB, if_pos hv]
  refine ExQ_ok [] 2000 plsOk kV_ok ?_
  simp only [conf0]
  (try rw [exh]); simp (maxSteps := 4000000) only [kV, sV, hf.lv, e0, hm, stops, inK, stepF, frsF, frF, itemF, codeF, condF, opsF, opsW, opF, callO, wtS, sopF, pv, bltF, callF, calleeS, p_move, p_assign, p_binOp, p_len, SY.get, SY.put, SY.ev, SY.mk, SY.ini, bopInt, bop, exq_go, exq_f, ↓reduceIte, Nat.reduceLT, Nat.reduceAdd, Bool.and_true, Bool.true_and, reduceCtorEq, true_and, List.map_cons, List.map_nil, Bool.and_self, List.nil_append, List.append_nil, Nat.zero_add, Int.reduceLE, decide_true, decide_false, ktOf, conK, alive, lndL, lnd, lvB, tB_tt, okBls, shB, ren, not_true_eq_false, ti22, ti24, regAt, body45, Try.f45, ↓exq_cd cd_code45, ↓exq_cd cd_c45_1, ↓exq_cd cd_c45_2, ↓exq_cd cd_c45_3, ↓exq_cd cd_c45_4, ↓exq_cd cd_c45_5, ↓exq_cd cd_c45_7, ↓exq_cd cd_c45_8, ↓exq_cd cd_c45_6, ↓exq_cd cd_c45_12, ↓exq_cd cd_c45_14, ↓exq_cd cd_c45_15, ↓exq_cd cd_c45_16, r45_1, r45_3, r45_7, r45_14]
  repeat (refine And.intro (a := (_ = true)) (by first | (simp; done) | (simp; omega)) ?_)
  refine Rch.nilsl 5 0 1 .i64 rfl rfl ?_
  refine Rch.loop plsOk ?_
  refine Rch.fit1 hC [0] (bl' := [some (.num .i64 (idsR pAlive (rs.take 0)))]) (tm' := tT t rs c 46 0 0) rfl (by decide) rfl ⟨rfl, rfl, rfl, rfl, congrArg (fun x => AV.imr t 3 x c) (hf.ren _).symm, trivial⟩ (tT_lv hf ..) ⟨⟨rfl, rfl⟩, trivial⟩ ?_
  refine loop_ind plsOk (α := {i : Nat // i ≤ rs.length}) (fun a => rs.length - a.1) (fun a => tT t rs c 46 (idsR pAlive (rs.take a.1)).length a.1) (fun a => [some (.num .i64 (idsR pAlive (rs.take a.1)))]) (fun _ => Res (.sl 0 0 1 (idsR pAlive rs).length none) [some (.num .i64 (idsR pAlive rs))]) ?_ ⟨0, Nat.zero_le _⟩
  rintro ⟨i, hi⟩ ih
  simp only [tT] at hi ih ⊢
  by_cases h : (i : Int) < rs.length
  · have hi' : i < rs.length := by omega
    have e := isM_row hm hi'
    have hs := idsR_succ (p := pAlive) hi'
    have hle := idsR_le (p := pAlive) (rs := rs.take i)
    have hle2 : (rs.take i).length ≤ rs.length := by simp; omega
    have htk : (idsR pAlive (rs.take i)).take (idsR pAlive (rs.take i)).length = idsR pAlive (rs.take i) := List.take_of_length_le (Nat.le_refl _)
    by_cases h1 : stR (rowA rs i) = 1
    · have hp : pAlive (stR (rowA rs i)) = true := by simp [pAlive, h1]
      rw [if_pos hp] at hs
      have hs' := hs.symm
      have hle3 := idsR_le (p := pAlive) (rs := rs.take (i + 1))
      have hle4 : (rs.take (i + 1)).length ≤ rs.length := by simp; omega
      refine ExQ_ok [] 2000 plsOk kV_ok ?_
      (try rw [exh]); simp (maxSteps := 4000000) only [kV, h, e, h1, htk, tk1, hs', stops, inK, stepF, frsF, frF, itemF, codeF, condF, opsF, opsW, opF, callO, stepS, wtS, sopF, pv, evq, bltF, callF, calleeS, quiet, p_move, p_assign, p_binOp, p_fieldAddr, p_indexAddr, l_load, roomN, appNN, srcN, dstN, e_store, e_alloc, e_box, e_buildSlice, e_append, SY.get, SY.put, SY.ev, SY.mk, SY.nth, SY.lvl, SY.setl, SY.ini, wid, wids, dr, tk, flat, at1, pack, rdC, rdCt, wrC, wrCt, ar, bopInt, bop, fillA, numsAt, isArr, ctOf, numsAV, rep, elCt, killO, srcN, dstN, enterS, leaveS, retS, finishS, killL, isDefs, resS, resAll, tup1, AV.scal, exq_go, exq_t, ↓reduceIte, Nat.reduceLT, Nat.reduceLeDiff, Nat.reduceEqDiff, Nat.reduceAdd, Nat.reduceSub, Bool.and_true, Bool.true_and, List.contains_nil, reduceCtorEq, true_and, List.map_cons, List.map_nil, Bool.and_self, List.drop_zero, List.length_cons, List.length_nil, List.cons_append, List.nil_append, List.append_nil, Nat.zero_add, Nat.add_zero, Nat.zero_mul, Nat.mul_one, Int.toNat_natCast, Int.reduceLE, decide_true, ktOf, ti3, ti22, ti29, ti37, regAt, body45, Try.f45, fi46, body46, Try.f46, ↓exq_cd cd_c45_17, ↓exq_cd cd_c45_18, ↓exq_cd cd_c45_19, ↓exq_cd cd_c45_20, ↓exq_cd cd_c45_21, ↓exq_cd cd_c45_23, ↓exq_cd cd_c45_25, ↓exq_cd cd_c45_26, ↓exq_cd cd_c45_27, ↓exq_cd cd_c45_28, ↓exq_cd cd_c45_29, ↓exq_cd cd_c45_30, ↓exq_cd cd_c45_24, ↓exq_cd cd_code46, ↓exq_cd cd_c46_1, ↓exq_cd cd_c46_2, ↓exq_cd cd_c46_3, r45_18, r45_26, r45_28, r45_30, r45_24, r46_1, r46_3]
      repeat (refine And.intro (a := (_ = true)) (by first | (simp; done) | (simp; omega)) ?_)
      refine Rch.fit1 hC [4] (bl' := [some (.num .i64 (idsR pAlive (rs.take (i + 1))))]) (tm' := tT t rs c 46 (idsR pAlive (rs.take (i + 1))).length (i + 1)) rfl (by decide) rfl ⟨rfl, rfl, rfl, rfl, congrArg (fun x => AV.imr t 3 x c) (hf.ren _).symm, trivial⟩ (tT_lv hf ..) ⟨⟨rfl, rfl⟩, trivial⟩ ?_
      exact ih ⟨i + 1, by omega⟩ (by simp only; omega)
    · have hp : ¬ pAlive (stR (rowA rs i)) = true := by simp [pAlive, h1]
      rw [if_neg hp, List.append_nil] at hs
      refine ExQ_ok [] 2000 plsOk kV_ok ?_
      (try rw [exh]); simp (maxSteps := 4000000) only [kV, h, e, h1, stops, inK, stepF, frsF, frF, itemF, codeF, condF, opsF, opsW, opF, callO, stepS, wtS, sopF, pv, evq, callF, calleeS, quiet, p_move, p_assign, p_binOp, p_fieldAddr, p_indexAddr, l_load, e_store, e_alloc, e_box, SY.get, SY.put, SY.ev, SY.mk, SY.nth, SY.lvl, SY.setl, SY.ini, wid, wids, dr, tk, flat, at1, pack, rdC, rdCt, wrC, wrCt, ar, bopInt, bop, isArr, ctOf, enterS, leaveS, retS, finishS, killL, isDefs, resS, resAll, tup1, AV.scal, exq_go, exq_t, exq_f, ↓reduceIte, Nat.reduceLT, Nat.reduceLeDiff, Nat.reduceEqDiff, Nat.reduceAdd, Nat.reduceSub, Bool.and_true, List.contains_nil, reduceCtorEq, true_and, List.map_cons, List.map_nil, Bool.and_self, List.length_cons, List.length_nil, List.cons_append, List.nil_append, List.append_nil, Nat.zero_add, Nat.add_zero, Nat.zero_mul, Int.toNat_natCast, Int.reduceLE, decide_true, decide_false, ktOf, ti3, ti22, ti29, regAt, body45, Try.f45, fi46, body46, Try.f46, ↓exq_cd cd_c45_17, ↓exq_cd cd_c45_18, ↓exq_cd cd_c45_19, ↓exq_cd cd_c45_20, ↓exq_cd cd_c45_21, ↓exq_cd cd_c45_23, ↓exq_cd cd_c45_25, ↓exq_cd cd_c45_26, ↓exq_cd cd_c45_27, ↓exq_cd cd_c45_28, ↓exq_cd cd_c45_29, ↓exq_cd cd_c45_24, ↓exq_cd cd_code46, ↓exq_cd cd_c46_1, ↓exq_cd cd_c46_2, ↓exq_cd cd_c46_3, r45_18, r45_26, r45_28, r45_24, r46_1, r46_3]
      repeat (refine And.intro (a := (_ = true)) (by first | (simp; done) | (simp; omega)) ?_)
      refine Rch.fit1 hC [0] (bl' := [some (.num .i64 (idsR pAlive (rs.take (i + 1))))]) (tm' := tT t rs c 46 (idsR pAlive (rs.take (i + 1))).length (i + 1)) rfl (by decide) rfl ⟨by rw [hs]; exact rfl, rfl, rfl, rfl, congrArg (fun x => AV.imr t 3 x c) (hf.ren _).symm, trivial⟩ (tT_lv hf ..) ⟨⟨by rw [hs]; exact rfl, rfl⟩, trivial⟩ ?_
      exact ih ⟨i + 1, by omega⟩ (by simp only; omega)
  · obtain rfl : i = rs.length := by omega
    refine ExQ_ok [] 2000 plsOk kV_ok ?_
    (try rw [exh]); simp (maxSteps := 4000000) only [kV, h, stops, stepF, frsF, frF, itemF, codeF, condF, opsF, opsW, opF, stepS, wtS, sopF, pv, p_move, p_assign, p_binOp, SY.get, SY.put, SY.ev, bopInt, bop, leaveS, retS, exitS, killL, isDefs, resS, resAll, tup1, exq_go, exq_f, ↓reduceIte, Nat.reduceLT, Nat.reduceEqDiff, Nat.reduceAdd, true_and, decide_false, ktOf, ti3, regAt, fi45, body45, Try.f45, ↓exq_cd cd_c45_17, ↓exq_cd cd_c45_18, ↓exq_cd cd_c45_19, ↓exq_cd cd_c45_20, ↓exq_cd cd_c45_13, ↓exq_cd cd_c45_32, r45_18, r45_32]
    repeat (refine And.intro (a := (_ = true)) (by first | (simp; done) | (simp; omega)) ?_)
    rw [List.take_of_length_le (Nat.le_refl _)]
    refine ⟨[0], by simp, rfl, rfl, fun l c h => ?_⟩
    match l with
    | 0 => simp at h; subst h; rfl
    | l + 1 => simp at h
def sThose : List AV → Option (Bool × AV × Bls)
  | [.imr _ 3 rs _, .fn f [] []] => if f = 22 then some (rs.all isM && decide (rs.length < 1000000), thoR pLive rs, thoB pLive rs)
      else if f = 46 then some (rs.all isM && decide (rs.length < 1000000), thoR pAlive rs, thoB pAlive rs) else none
  | _ => none
theorem those_ok : SpecOk Try.prog (plOf pls) 45 sThose := by
  refine ⟨_, fi45, fun args r bl1 h => ?_⟩
  unfold sThose at h
  split at h
  · split at h
    · rename_i hfn
      subst hfn
      simp only [Option.some.injEq, Prod.mk.injEq, Bool.and_eq_true, decide_eq_true_eq] at h
      obtain ⟨⟨h1, h2⟩, rfl, rfl⟩ := h
      exact ⟨by simp, fun C hC _ => live_run C hC _ _ _ h1 h2⟩
    · split at h
      · rename_i hfn
        subst hfn
        simp only [Option.some.injEq, Prod.mk.injEq, Bool.and_eq_true, decide_eq_true_eq] at h
        obtain ⟨⟨h1, h2⟩, rfl, rfl⟩ := h
        exact ⟨by simp, fun C hC _ => alive_run C hC _ _ _ h1 h2⟩
      · cases h
  · cases h
end Go.Proofs.Ytdanhpemheldlaa
