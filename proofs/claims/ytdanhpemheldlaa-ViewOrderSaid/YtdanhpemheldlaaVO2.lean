/- ViewOrder: its run. -/
import Derived.Test.YtdanhpemheldlaaVO1
import Derived.Test.YtdanhpemheldlaaV1
import Derived.Test.YtdanhpemheldlaaCe
set_option linter.unusedSimpArgs false
set_option linter.unusedVariables false
-- FUNCTIONS 8 27 21
namespace Go.Proofs.Ytdanhpemheldlaa
open Go Go.SY
def kpick (x n : Int) : Int := if n < 1 then 0 else if x.tmod n < 0 then x.tmod n + n else x.tmod n
def sPick : List AV → Option (Bool × AV × Bls)
  | [.v (.int .i64 x), .v (.int .i64 n)] => some (decide (n ≤ 9223372036854775807), .v (.int .i64 (kpick x n)), [])
  | _ => none
set_option maxRecDepth 100000 in
set_option maxHeartbeats 4000000 in
theorem pick_run (C : Ctx) (x n : Int) (hn : n ≤ 9223372036854775807) : Rch Try.prog (plOf pls) C (conf0 21 ⟨16, [.tmp 4], code21⟩ [.v (.int .i64 x), .v (.int .i64 n)] []) (Res (.v (.int .i64 (kpick x n))) []) := by
  refine ExQ_ok [] 2000 plsOk noK ?_
  simp only [conf0]
  (try rw [exh]); simp (maxSteps := 4000000) only [stops, inK, stepF, frsF, frF, itemF, codeF, condF, opsF, opsW, opF, wtS, sopF, pv, p_move, p_assign, p_binOp, SY.get, SY.put, SY.ev, SY.mk, SY.ini, bopInt, bop, exq_go, exq_d, ↓reduceIte, Nat.reduceLT, Nat.reduceEqDiff, Nat.reduceAdd, reduceCtorEq, true_and, Bool.and_self, Nat.zero_add, Int.reduceLE, decide_true, ti3, regAt, body21, Try.f21, ↓exq_cd cd_code21, ↓exq_cd cd_c21_1, ↓exq_cd cd_c21_2, ↓exq_cd cd_c21_3, ↓exq_cd cd_c21_5, ↓exq_cd cd_c21_6, r21_1, r21_5]
  refine ⟨fun h => ?_, fun h => ?_⟩
  · have h := of_decide_eq_true h
    (try rw [exh]); simp (maxSteps := 4000000) only [stops, inK, stepF, frsF, frF, itemF, codeF, opsF, opsW, opF, stepS, wtS, sopF, pv, p_assign, SY.get, SY.put, SY.ev, SY.mk, leaveS, retS, killL, isDefs, resS, resAll, tup1, exq_go, ↓reduceIte, Nat.reduceLT, Nat.reduceAdd, true_and, Bool.and_self, Int.reduceLE, decide_true, regAt, fi21, body21, Try.f21, ↓exq_cd cd_c21_7, ↓exq_cd cd_c21_9, r21_9]
    have e : kpick x n = 0 := by simp [kpick, h]
    rw [e]
    exact Res.val _ _
  · have h := of_decide_eq_false h
    have g1 := Int.lt_tmod_of_pos x (b := n) (by omega)
    have g2 := Int.tmod_lt_of_pos x (b := n) (by omega)
    (try rw [exh]); simp (maxSteps := 4000000) only [stops, inK, stepF, frsF, frF, itemF, codeF, condF, opsF, opsW, opF, wtS, sopF, pv, p_move, p_assign, p_binOp, SY.get, SY.put, SY.ev, SY.mk, bopInt, bop, exq_go, exq_d, ↓reduceIte, Nat.reduceLT, Nat.reduceEqDiff, Nat.reduceAdd, reduceCtorEq, true_and, Bool.and_self, Int.reduceLE, decide_true, ne_eq, ti3, regAt, body21, Try.f21, ↓exq_cd cd_c21_4, ↓exq_cd cd_c21_10, ↓exq_cd cd_c21_11, ↓exq_cd cd_c21_12, ↓exq_cd cd_c21_14, ↓exq_cd cd_c21_15, r21_10, r21_14]
    refine ⟨by simp; omega, fun h2 => ?_, fun h2 => ?_⟩
    · have h2 := of_decide_eq_true h2
      (try rw [exh]); simp (maxSteps := 4000000) only [stops, inK, stepF, frsF, frF, itemF, codeF, opsF, opsW, opF, stepS, wtS, sopF, pv, p_move, p_assign, p_binOp, SY.get, SY.put, SY.ev, ar, bopInt, bop, leaveS, retS, killL, isDefs, resS, resAll, tup1, exq_go, ↓reduceIte, Nat.reduceLT, Nat.reduceEqDiff, Nat.reduceAdd, reduceCtorEq, true_and, ti3, regAt, fi21, body21, Try.f21, ↓exq_cd cd_c21_16, ↓exq_cd cd_c21_13, ↓exq_cd cd_c21_18, r21_16, r21_18]
      refine ⟨by simp; omega, ?_⟩
      have e : kpick x n = x.tmod n + n := by simp [kpick, h, h2]
      rw [e]
      exact Res.val _ _
    · have h2 := of_decide_eq_false h2
      (try rw [exh]); simp (maxSteps := 4000000) only [stops, stepF, frsF, frF, itemF, codeF, opsF, opsW, opF, stepS, wtS, sopF, pv, p_move, p_assign, SY.get, SY.put, SY.ev, leaveS, retS, killL, isDefs, resS, resAll, tup1, exq_go, ↓reduceIte, Nat.reduceLT, Nat.reduceAdd, reduceCtorEq, true_and, regAt, fi21, body21, Try.f21, ↓exq_cd cd_c21_13, ↓exq_cd cd_c21_18, r21_18]
      have e : kpick x n = x.tmod n := by simp [kpick, h, h2]
      rw [e]
      exact Res.val _ _
theorem pick_ok : SpecOk Try.prog (plOf pls) 21 sPick := by
  refine ⟨_, fi21, fun args r bl1 h => ?_⟩
  unfold sPick at h
  split at h
  · simp only [Option.some.injEq, Prod.mk.injEq, decide_eq_true_eq] at h
    obtain ⟨h1, rfl, rfl⟩ := h
    exact ⟨by simp, fun C _ _ => pick_run C _ _ h1⟩
  · cases h
theorem kpick_nat (z : Int) (n : Nat) : ∃ M : Nat, kpick z ((n : Int) + 1) = M ∧ M ≤ n := by
  have g1 := Int.lt_tmod_of_pos z (b := (n : Int) + 1) (by omega)
  have g2 := Int.tmod_lt_of_pos z (b := (n : Int) + 1) (by omega)
  refine ⟨(kpick z ((n : Int) + 1)).toNat, ?_, ?_⟩ <;>
  · unfold kpick
    rw [if_neg (by omega)]
    split <;> omega
def kY : KT := ktOf [(13, sV), (10, sMrgN), (14, sFine), (5, specT), (48, sSameO), (21, sPick)]
theorem kY_ok : KOk Try.prog (plOf pls) kY := ktOf_ok plsOk fun x hx => by
  simp only [List.mem_cons, List.not_mem_nil, or_false] at hx
  rcases hx with rfl | rfl | rfl | rfl | rfl | rfl
  · exact vchk_ok
  · exact mrgn_ok
  · exact fine_ok
  · exact spec_true plsOk kAwake_ok known_run
  · exact equalO_ok
  · exact pick_ok
def IsT (r : AV) (_ : Bls) : Prop := r = .v (.bool true)
def tY (ws : List (List AV)) (c : Option Nat) (os : List Int) (d : Option Nat) (cut : Int) (a n i : Nat) : TM := [(12, .v (.int .i64 i)), (11, .sl 1 0 3 n none), (10, .v (.int .i64 0)), (8, .sl 0 0 3 a none), (7, .v (.bool true)), (2, .v (.int .i64 cut)), (1, .imn false .i64 os d), (0, .imr false 3 ws c)]
theorem tY_lv {ws : List (List AV)} (hf : FlatR ws) (c : Option Nat) (os : List Int) (d : Option Nat) (cut : Int) (a n i N : Nat) : lvT (N + 2) true (tY ws c os d cut a n i) = true := by
  simp [tY, lvT, lvB, tB, hf.lv]
theorem mrgB_of {vs ws : List (List AV)} (hv : vOk vs 0 = true) (hw : ∀ r ∈ ws, MemR r ∧ isM r = true) : mrgB vs ws = true := by
  rw [mrgB, hv, Bool.true_and]
  exact List.all_eq_true.2 fun r hr => decide_eq_true (hw r hr).1
set_option maxRecDepth 100000 in
set_option maxHeartbeats 4000000 in
theorem ord_end (C : Ctx) (hC : C.β.b = []) (ws T A : List (List AV)) (os : List Int) (cut : Int) (i : Nat) (c0 d0 : Option Nat) (hwm : ws.all isM = true) (hlen : ws.length ≤ 40) (hw : ∀ r ∈ ws, MemR r ∧ isM r = true) (tA : Tops A ws) (hT : T.Perm ws) :
    Rch Try.prog (plOf pls) C ⟨[⟨8, 182, tY ws c0 os d0 cut A.length ws.length i, [.code c8_17], none, [], []⟩], [some (.rows 3 A), some (.rows 3 T)]⟩ IsT := by
  have hg := isM_flat hwm
  have hTl : T.length = ws.length := hT.length_eq
  have hTw : ∀ r ∈ T, MemR r ∧ isM r = true := fun r hr => hw r (hT.mem_iff.1 hr)
  obtain ⟨K, hK1, hK2⟩ := kpick_nat cut ws.length
  have hP1 : ∀ r ∈ T.take K, MemR r ∧ isM r = true := fun r hr => hTw r (List.mem_of_mem_take hr)
  have hP2 : ∀ r ∈ T.drop K, MemR r ∧ isM r = true := fun r hr => hTw r (List.mem_of_mem_drop hr)
  have m1 : (T.take K).all isM = true := List.all_eq_true.2 fun r hr => (hP1 r hr).2
  have m2 : (T.drop K).all isM = true := List.all_eq_true.2 fun r hr => (hP2 r hr).2
  have t1 := tops_of hP1
  have t2 := tops_of hP2
  have hxy : ∀ x, x ∈ ws ↔ x ∈ T.take K ∨ x ∈ T.drop K := fun x => by
    rw [← hT.mem_iff, ← List.mem_append, List.take_append_drop]
  have hyx : ∀ x, x ∈ ws ↔ x ∈ T.drop K ∨ x ∈ T.take K := fun x => by rw [hxy x, Or.comm]
  have e3 := tops_eq (tops_two t1 t2 hxy) tA
  have e4 := tops_eq (tops_two t2 t1 hyx) tA
  have e5 := tops_eq (tops_more tA hw) tA
  have q1 : mrgV [] (T.take K) = _ := if_pos (mrgB_of rfl hP1)
  have q1' : mrgL [] (T.take K) = _ := if_pos (mrgB_of rfl hP1)
  have q2 : mrgV [] (T.drop K) = _ := if_pos (mrgB_of rfl hP2)
  have q2' : mrgL [] (T.drop K) = _ := if_pos (mrgB_of rfl hP2)
  have q3 : mrgV (mrgR [] (T.take K)) (mrgR [] (T.drop K)) = _ := if_pos (mrgB_of t1.ok (view_mem t2.ok t2.all))
  have q3' : mrgL (mrgR [] (T.take K)) (mrgR [] (T.drop K)) = _ := if_pos (mrgB_of t1.ok (view_mem t2.ok t2.all))
  have q4 : mrgV (mrgR [] (T.drop K)) (mrgR [] (T.take K)) = _ := if_pos (mrgB_of t2.ok (view_mem t1.ok t1.all))
  have q4' : mrgL (mrgR [] (T.drop K)) (mrgR [] (T.take K)) = _ := if_pos (mrgB_of t2.ok (view_mem t1.ok t1.all))
  have q5 : mrgV A ws = _ := if_pos (mrgB_of tA.ok hw)
  have q5' : mrgL A ws = _ := if_pos (mrgB_of tA.ok hw)
  rw [e3] at q3 q3'
  rw [e4] at q4 q4'
  rw [e5, frsh_self tA.ok] at q5 q5'
  have l1 := mrgR_len (vs := []) (T.take K)
  have l2 := mrgR_len (vs := []) (T.drop K)
  have l5 := mrgR_len (vs := A) ws
  rw [List.length_take, List.length_nil] at l1
  rw [List.length_drop, List.length_nil] at l2
  have lA : A.length ≤ 80 := by
    have h1 := mrgR_len (vs := mrgR [] (T.take K)) (mrgR [] (T.drop K))
    rw [e3] at h1
    omega
  generalize mrgR [] (T.take K) = F at *
  generalize mrgR [] (T.drop K) = G at *
  have f1 := frsh_all (rs := []) t1.all
  have f2 := frsh_all (rs := []) t2.all
  have f3 := frsh_all (rs := F) tA.all
  have f4 := frsh_all (rs := G) tA.all
  generalize frsh [] F = g1 at *
  generalize frsh [] G = g2 at *
  generalize frsh F A = g3 at *
  generalize frsh G A = g4 at *
  have hhA := isM_flat tA.all
  have hhF := isM_flat t1.all
  have hhG := isM_flat t2.all
  have hh1 := isM_flat m1
  have hh2 := isM_flat m2
  have hg1 := isM_flat f1
  have hg2 := isM_flat f2
  have hg3 := isM_flat f3
  have hg4 := isM_flat f4
  have hTm : T.all isM = true := List.all_eq_true.2 fun r hr => (hTw r hr).2
  have hhT := isM_flat hTm
  have hF0 : F.take F.length = F := List.take_of_length_le (Nat.le_refl _)
  have hG0 : G.take G.length = G := List.take_of_length_le (Nat.le_refl _)
  have hA0 : A.take A.length = A := List.take_of_length_le (Nat.le_refl _)
  have hD0 : (T.drop K).take (ws.length - K) = T.drop K := List.take_of_length_le (by rw [List.length_drop]; omega)
  have vA : vchk A = 0 := if_pos tA.ok
  have sA := sameO_refl A
  have hFm := t1.all
  have hGm := t2.all
  have hAm := tA.all
  simp only [tY]
  refine ExQ_ok [] 2000 plsOk kY_ok ?_
  (try rw [exh]); simp (maxSteps := 4000000) only [kY, sV, sMrgN, sSameO, sPick, hK1, q1, q1', q2, q2', q3, q3', q4, q4', q5, q5', hhA.lv, hhF.lv, hhG.lv, hhT.lv, hg.lv, hhA.ren, hhF.ren, hhG.ren, hg1.ren, hg2.ren, hg3.ren, hg4.ren, hg1.lv, hg2.lv, hg3.lv, hg4.lv, hF0, hG0, hA0, hD0, vA, sA, hwm, m1, m2, hFm, hGm, hAm, List.drop_zero, Int.toNat_natCast, stops, inK, stepF, frsF, frF, itemF, codeF, condF, opsF, opsW, opF, callO, stepS, wtS, gdst, gdl, sopF, pv, orl, bltF, callF, calleeS, p_move, p_assign, p_pick, p_binOp, p_slice, p_extract, p_len, SY.get, SY.put, SY.ev, SY.mk, SY.nth, SY.lvl, SY.ini, ar, bopInt, bop, pickAV, bnd, subO, cutOf, okMx, enterS, leaveS, retS, finishS, killL, isDefs, resS, resAll, tup1, Ct.cell, exq_go, lvCt, exq_t, exq_f, ↓reduceIte, Nat.reduceLT, Nat.reduceLeDiff, Nat.reduceEqDiff, Nat.reduceAdd, Nat.reduceSub, Bool.and_true, Bool.true_and, Bool.not_false, Bool.not_true, List.contains_nil, reduceCtorEq, true_and, List.map_cons, List.map_nil, Bool.and_self, List.drop_zero, List.length_cons, List.length_nil, List.cons_append, List.nil_append, Option.map_some, Option.map_none, List.append_nil, Nat.zero_add, Nat.add_zero, Nat.sub_zero, Int.toNat_natCast, Int.reduceLE, Int.cast_ofNat_Int, decide_true, decide_false, Option.getD_none, ktOf, conK, alive, lndL, lnd, lvB, lvL, lvR, tB_tt, okBls, shB, ren, renL, renR, renCt, not_true_eq_false, ti3, ti22, ti24, regAt, fi8, body8, Try.f8, fi27, body27, Try.f27, ↓exq_cd cd_c8_17, ↓exq_cd cd_c8_36, ↓exq_cd cd_c8_37, ↓exq_cd cd_c8_38, ↓exq_cd cd_c8_39, ↓exq_cd cd_c8_40, ↓exq_cd cd_c8_41, ↓exq_cd cd_c8_42, ↓exq_cd cd_c8_43, ↓exq_cd cd_c8_44, ↓exq_cd cd_c8_45, ↓exq_cd cd_c8_46, ↓exq_cd cd_c8_47, ↓exq_cd cd_c8_48, ↓exq_cd cd_c8_50, ↓exq_cd cd_c8_51, ↓exq_cd cd_c8_49, ↓exq_cd cd_c8_55, ↓exq_cd cd_code27, ↓exq_cd cd_c27_1, ↓exq_cd cd_c27_2, ↓exq_cd cd_c27_3, r8_36, r8_38, r8_40, r8_42, r8_44, r8_46, r8_50, r8_55, r27_1, r27_3]
  repeat (refine And.intro (a := (_ = true)) (by first | (simp; done) | (simp; omega)) ?_)
  exact rfl
set_option maxRecDepth 100000 in
set_option maxHeartbeats 4000000 in
theorem ord_law (C : Ctx) (hC : C.β.b = []) (ws : List (List AV)) (os : List Int) (cut : Int) (hwm : ws.all isM = true) (c0 d0 : Option Nat) (hl : ws.length < 4611686018427387904) (hl2 : os.length < 4611686018427387904) :
    Rch Try.prog (plOf pls) C (conf0 8 ⟨182, [.tmp 6], code8⟩ [.imr false 3 ws c0, .imn false .i64 os d0, .v (.int .i64 cut)] []) IsT := by
  have hg := isM_flat hwm
  by_cases hlen : (40 : Int) < ws.length
  · refine ExQ_ok [] 2000 plsOk kY_ok ?_
    simp only [conf0]
    (try rw [exh]); simp (maxSteps := 4000000) only [kY, specT, hlen, stops, inK, stepF, frsF, frF, itemF, codeF, condF, opsF, opsW, opF, callO, stepS, wtS, gdst, gdl, sopF, pv, bltF, callF, calleeS, p_move, p_assign, p_pick, p_binOp, p_len, SY.get, SY.put, SY.ev, SY.mk, SY.ini, bopInt, bop, pickAV, leaveS, retS, killL, isDefs, resS, resAll, tup1, exq_go, exq_t, ↓reduceIte, Nat.reduceLT, Nat.reduceEqDiff, Nat.reduceAdd, Nat.reduceSub, Bool.not_false, reduceCtorEq, true_and, List.map_nil, Bool.and_self, List.append_nil, Nat.zero_add, Int.reduceLE, decide_true, ktOf, conK, alive, lndL, lvB, okBls, shB, ren, ti3, ti22, regAt, fi8, body8, Try.f8, ↓exq_cd cd_code8, ↓exq_cd cd_c8_1, ↓exq_cd cd_c8_2, ↓exq_cd cd_c8_3, ↓exq_cd cd_c8_4, ↓exq_cd cd_c8_5, ↓exq_cd cd_c8_7, ↓exq_cd cd_c8_8, ↓exq_cd cd_c8_9, ↓exq_cd cd_c8_11, r8_1, r8_3, r8_7, r8_11]
    repeat (refine And.intro (a := (_ = true)) (by first | (simp; done) | (simp; omega)) ?_)
    exact rfl
  by_cases hlen2 : (40 : Int) < os.length
  · refine ExQ_ok [] 2000 plsOk kY_ok ?_
    simp only [conf0]
    (try rw [exh]); simp (maxSteps := 4000000) only [kY, specT, hlen, hlen2, stops, inK, stepF, frsF, frF, itemF, codeF, condF, opsF, opsW, opF, callO, stepS, wtS, gdst, gdl, sopF, pv, bltF, callF, calleeS, p_move, p_assign, p_pick, p_binOp, p_len, SY.get, SY.put, SY.ev, SY.mk, SY.ini, bopInt, bop, pickAV, leaveS, retS, killL, isDefs, resS, resAll, tup1, exq_go, exq_t, exq_f, ↓reduceIte, Nat.reduceLT, Nat.reduceEqDiff, Nat.reduceAdd, Nat.reduceSub, Bool.not_false, reduceCtorEq, true_and, List.map_nil, Bool.and_self, List.append_nil, Nat.zero_add, Int.reduceLE, decide_true, decide_false, ktOf, conK, alive, lndL, lvB, okBls, shB, ren, ti3, ti22, ti37, regAt, fi8, body8, Try.f8, ↓exq_cd cd_code8, ↓exq_cd cd_c8_1, ↓exq_cd cd_c8_2, ↓exq_cd cd_c8_3, ↓exq_cd cd_c8_4, ↓exq_cd cd_c8_5, ↓exq_cd cd_c8_7, ↓exq_cd cd_c8_8, ↓exq_cd cd_c8_9, ↓exq_cd cd_c8_11, r8_1, r8_3, r8_7, r8_11]
    repeat (refine And.intro (a := (_ = true)) (by first | (simp; done) | (simp; omega)) ?_)
    exact rfl
  cases hfw : ws.all fun r => decide (MemR r) with
  | false =>
    refine ExQ_ok [] 2000 plsOk kY_ok ?_
    simp only [conf0]
    (try rw [exh]); simp (maxSteps := 4000000) only [kY, sFine, specT, hg.lv, hwm, hlen, hlen2, hfw, stops, inK, stepF, frsF, frF, itemF, codeF, condF, opsF, opsW, opF, callO, stepS, wtS, gdst, gdl, sopF, pv, bltF, callF, calleeS, p_move, p_assign, p_pick, p_binOp, p_unOp, p_len, SY.get, SY.put, SY.ev, SY.mk, SY.ini, bopInt, bop, pickAV, leaveS, retS, killL, isDefs, resS, resAll, tup1, exq_go, exq_t, exq_f, ↓reduceIte, Nat.reduceLT, Nat.reduceEqDiff, Nat.reduceAdd, Nat.reduceSub, Bool.and_true, Bool.true_and, Bool.not_false, reduceCtorEq, true_and, List.map_cons, List.map_nil, Bool.and_self, List.nil_append, List.append_nil, Nat.zero_add, Int.reduceLE, decide_true, decide_false, ktOf, conK, alive, lndL, lnd, lvB, tB_tt, okBls, shB, ren, ti3, ti22, ti37, regAt, fi8, body8, Try.f8, ↓exq_cd cd_code8, ↓exq_cd cd_c8_1, ↓exq_cd cd_c8_2, ↓exq_cd cd_c8_3, ↓exq_cd cd_c8_4, ↓exq_cd cd_c8_5, ↓exq_cd cd_c8_7, ↓exq_cd cd_c8_8, ↓exq_cd cd_c8_9, ↓exq_cd cd_c8_11, r8_1, r8_3, r8_7, r8_11]
    repeat (refine And.intro (a := (_ = true)) (by first | (simp; done) | (simp; omega)) ?_)
    exact rfl
  | true =>
    have hb : mrgB [] ws = true := by rw [mrgB, hfw]; rfl
    have r1 : mrgV [] ws = .tup [.sl 0 0 3 (mrgR [] ws).length none, .sl 1 0 3 (frsh [] (mrgR [] ws)).length none, .v (.int .i64 0)] := if_pos hb
    have b1 : mrgL [] ws = [some (.rows 3 (mrgR [] ws)), some (.rows 3 (frsh [] (mrgR [] ws)))] := if_pos hb
    have hw : ∀ r ∈ ws, MemR r ∧ isM r = true := fun r hr => ⟨of_decide_eq_true (List.all_eq_true.1 hfw r hr), List.all_eq_true.1 hwm r hr⟩
    have tA := tops_of hw
    have hfa := frsh_all (rs := []) tA.all
    have hnl := mrgR_len (vs := []) ws
    generalize hA : mrgR [] ws = A at *
    generalize hfA : frsh [] A = fA at *
    have hhA := isM_flat tA.all
    have hhf := isM_flat hfa
    have hwt : ws.take ws.length = ws := List.take_of_length_le (Nat.le_refl _)
    refine ExQ_ok [] 2000 plsOk kY_ok ?_
    simp only [conf0]
    (try rw [exh]); simp (maxSteps := 4000000) only [kY, sMrgN, sFine, specT, hg.lv, hhA.lv, hhf.lv, hhA.ren, hhf.ren, hwm, hlen, hlen2, hfw, r1, b1, List.nil_append, stops, inK, stepF, frsF, frF, itemF, codeF, condF, opsF, opsW, opF, callO, wtS, gdst, gdl, sopF, pv, evq, bltF, callF, calleeS, quiet, p_move, p_assign, p_pick, p_binOp, p_unOp, p_extract, p_len, zerR, roomR, appRR, srcR, dstR, e_buildSlice, e_append, SY.get, SY.put, SY.ev, SY.mk, SY.nth, SY.lvl, SY.ini, wid, wids, bopInt, bop, pickAV, fillA, immL, rowsOf, rep, elCt, dstR, srcR, Ct.cell, exq_go, lvCt, exq_f, ↓reduceIte, Nat.reduceLT, Nat.reduceLeDiff, Nat.reduceEqDiff, Nat.reduceAdd, Nat.reduceSub, Bool.and_true, Bool.true_and, Bool.not_false, Bool.not_true, Option.isSome_none, reduceCtorEq, true_and, Bool.false_eq_true, List.map_cons, List.map_nil, Bool.and_self, List.length_cons, List.length_nil, List.cons_append, List.nil_append, List.append_nil, Nat.zero_add, Nat.add_zero, Nat.zero_mul, Int.reduceLE, decide_true, decide_false, ktOf, conK, alive, lndL, lnd, lvB, lvL, tB_tt, okBls, shB, ren, renL, renCt, and_false, ti3, ti22, ti29, ti37, regAt, body8, Try.f8, ↓exq_cd cd_code8, ↓exq_cd cd_c8_1, ↓exq_cd cd_c8_2, ↓exq_cd cd_c8_3, ↓exq_cd cd_c8_4, ↓exq_cd cd_c8_5, ↓exq_cd cd_c8_7, ↓exq_cd cd_c8_8, ↓exq_cd cd_c8_6, ↓exq_cd cd_c8_12, ↓exq_cd cd_c8_13, ↓exq_cd cd_c8_14, ↓exq_cd cd_c8_15, ↓exq_cd cd_c8_16, ↓exq_cd cd_c8_18, ↓exq_cd cd_c8_19, ↓exq_cd cd_c8_20, r8_1, r8_3, r8_7, r8_12, r8_14, r8_18]
    repeat (refine And.intro (a := (_ = true)) (by first | (simp; done) | (simp; omega)) ?_)
    refine Rch.loop plsOk ?_
    refine Rch.fit1 hC [0, 3] (tm' := tY ws c0 os d0 cut A.length ws.length 0) (bl' := [some (.rows 3 A), some (.rows 3 ws)]) rfl (by decide) rfl ⟨rfl, rfl, rfl, rfl, rfl, rfl, rfl, congrArg (fun x => AV.imr false 3 x c0) (hg.ren _).symm, trivial⟩ (tY_lv hg ..) ⟨⟨by rw [renRows hhA]; exact rfl, lvRows hhA ..⟩, ⟨by rw [renRows hg]; exact rfl, lvRows hg ..⟩, trivial⟩ ?_
    refine loop_ind plsOk (α := {a : Nat × List (List AV) // a.1 ≤ os.length ∧ a.2.Perm ws}) (fun a => os.length - a.1.1) (fun a => tY ws c0 os d0 cut A.length ws.length a.1.1) (fun a => [some (.rows 3 A), some (.rows 3 a.1.2)]) (fun _ => IsT) ?_ ⟨(0, ws), Nat.zero_le _, List.Perm.refl _⟩
    rintro ⟨⟨i, T⟩, hi, hT⟩ ih
    simp only [tY] at hi hT ih ⊢
    have hTl : T.length = ws.length := hT.length_eq
    have hTm : T.all isM = true := List.all_eq_true.2 fun r hr => List.all_eq_true.1 hwm r (hT.mem_iff.1 hr)
    have hhT := isM_flat hTm
    by_cases h : (i : Int) < os.length
    case neg =>
      refine ExQ_ok [] 22 plsOk kY_ok ?_
      (try rw [exh]); simp (maxSteps := 4000000) only [kY, h, stops, stepF, frsF, frF, itemF, codeF, condF, opsF, opsW, opF, stepS, wtS, gdst, gdl, sopF, pv, bltF, callF, p_move, p_pick, p_binOp, p_len, SY.get, SY.put, SY.ev, SY.mk, bopInt, bop, pickAV, exitS, exq_zero, exq_go, exq_f, ↓reduceIte, Nat.reduceLT, Nat.reduceEqDiff, Nat.reduceAdd, Nat.reduceSub, Bool.not_true, reduceCtorEq, true_and, decide_false, ktOf, ti3, ti37, regAt, body8, Try.f8, ↓exq_cd cd_c8_21, ↓exq_cd cd_c8_22, ↓exq_cd cd_c8_24, ↓exq_cd cd_c8_25, r8_24]
      repeat (refine And.intro (a := (_ = true)) (by first | (simp; done) | (simp; omega)) ?_)
      refine Rch.fit1 hC [0, 1] (tm' := tY ws c0 os d0 cut A.length ws.length i) (bl' := [some (.rows 3 A), some (.rows 3 T)]) rfl (by decide) rfl ⟨rfl, rfl, rfl, rfl, rfl, rfl, rfl, congrArg (fun x => AV.imr false 3 x c0) (hg.ren _).symm, trivial⟩ (tY_lv hg ..) ⟨⟨by rw [renRows hhA]; exact rfl, lvRows hhA ..⟩, ⟨by rw [renRows hhT]; exact rfl, lvRows hhT ..⟩, trivial⟩ ?_
      exact ord_end C hC ws T A os cut i c0 d0 hwm (by omega) hw tA hT
    by_cases h0 : (0 : Int) < ws.length
    case neg =>
      refine ExQ_ok [] 22 plsOk kY_ok ?_
      (try rw [exh]); simp (maxSteps := 4000000) only [kY, h, h0, stops, inK, stepF, frsF, frF, itemF, codeF, condF, opsF, opsW, opF, stepS, wtS, gdst, gdl, sopF, pv, bltF, callF, p_move, p_pick, p_binOp, p_len, SY.get, SY.put, SY.ev, SY.mk, bopInt, bop, pickAV, exitS, exq_zero, exq_go, exq_t, exq_f, ↓reduceIte, Nat.reduceLT, Nat.reduceEqDiff, Nat.reduceAdd, Nat.reduceSub, Bool.not_true, reduceCtorEq, true_and, Bool.and_self, Int.reduceLE, decide_true, decide_false, ktOf, ti3, ti22, ti37, regAt, body8, Try.f8, ↓exq_cd cd_c8_21, ↓exq_cd cd_c8_22, ↓exq_cd cd_c8_24, ↓exq_cd cd_c8_25, r8_24]
      repeat (refine And.intro (a := (_ = true)) (by first | (simp; done) | (simp; omega)) ?_)
      refine Rch.fit1 hC [0, 1] (tm' := tY ws c0 os d0 cut A.length ws.length i) (bl' := [some (.rows 3 A), some (.rows 3 T)]) rfl (by decide) rfl ⟨rfl, rfl, rfl, rfl, rfl, rfl, rfl, congrArg (fun x => AV.imr false 3 x c0) (hg.ren _).symm, trivial⟩ (tY_lv hg ..) ⟨⟨by rw [renRows hhA]; exact rfl, lvRows hhA ..⟩, ⟨by rw [renRows hhT]; exact rfl, lvRows hhT ..⟩, trivial⟩ ?_
      exact ord_end C hC ws T A os cut i c0 d0 hwm (by omega) hw tA hT
    obtain ⟨b, hb1, hb2⟩ : ∃ b : Nat, kpick (os[i]?.getD 0) (ws.length : Int) = b ∧ b < ws.length := by
      obtain ⟨m, hm⟩ : ∃ m, ws.length = m + 1 := ⟨ws.length - 1, by omega⟩
      obtain ⟨b, g1, g2⟩ := kpick_nat (os[i]?.getD 0) m
      have : ((m + 1 : Nat) : Int) = (m : Int) + 1 := by omega
      exact ⟨b, by rw [hm, this]; exact g1, by omega⟩
    obtain ⟨a, ha1, ha2⟩ : ∃ a : Nat, (i : Int).tmod ws.length = a ∧ a < ws.length := ⟨i % ws.length, by rw [← Int.ofNat_tmod], Nat.mod_lt _ (by omega)⟩
    have z1 : ¬ (ws.length : Int) = 0 := by omega
    have ea := isM_row hTm (i := a) (by omega)
    have eb := isM_row hTm (i := b) (by omega)
    refine ExQ_ok [] 2000 plsOk kY_ok ?_
    (try rw [exh]); simp (maxSteps := 4000000) only [kY, sPick, h, h0, hb1, ha1, z1, ea, eb, hTl, Int.toNat_natCast, stops, inK, stepF, frsF, frF, itemF, codeF, condF, opsF, opsW, opF, callO, drF, drO, drW, drC, wtS, gdst, gdl, sopF, pv, evq, bltF, callF, calleeS, popF, lopF, bltP, callP, cls, lvA, rdl, quiet, p_move, p_assign, p_pick, p_binOp, p_indexAddr, p_len, l_load, e_store, e_alloc, SY.get, SY.put, SY.ev, SY.mk, SY.nth, SY.lvl, SY.setl, wid, wids, dr, tk, flat, at1, pack, rdC, rdCt, wrC, wrCt, ar, bopInt, bop, pickAV, hd1, hdL, isArr, ctOf, wrRow, AV.scal, plk, exq_go, exq_t, ↓reduceIte, Nat.reduceLT, Nat.reduceEqDiff, Nat.reduceAdd, Nat.reduceSub, Bool.and_true, Bool.true_and, Bool.not_true, List.contains_nil, reduceCtorEq, true_and, Bool.false_eq_true, List.map_cons, List.map_nil, Bool.and_self, List.length_cons, List.length_nil, List.cons_append, List.nil_append, List.append_nil, Nat.zero_add, Nat.add_zero, Nat.zero_mul, Int.toNat_natCast, Int.reduceLE, decide_true, ktOf, conK, alive, lndL, lnd, lvB, okBls, shB, ren, ne_eq, not_false_eq_true, and_self, ti3, ti22, ti29, ti37, regAt, body8, Try.f8, ↓exq_cd cd_c8_21, ↓exq_cd cd_c8_22, ↓exq_cd cd_c8_24, ↓exq_cd cd_c8_25, ↓exq_cd cd_c8_23, ↓exq_cd cd_c8_27, ↓exq_cd cd_c8_29, ↓exq_cd cd_c8_30, ↓exq_cd cd_c8_31, ↓exq_cd cd_c8_32, ↓exq_cd cd_c8_33, ↓exq_cd cd_c8_34, ↓exq_cd cd_c8_35, ↓exq_cd cd_c8_28, r8_24, r8_30, r8_32, r8_34, r8_35, r8_28, plA8, pl8]
    repeat (refine And.intro (a := (_ = true)) (by first | (simp; done) | (simp; omega)) ?_)
    have hsw := swapR_perm (o := T) (a := a) (b := b) (by omega) (by omega)
    have hsp := hsw.trans hT
    have hs2 := isM_flat (rs := (T.set a (rowA T b)).set b (rowA T a)) (List.all_eq_true.2 fun r hr => List.all_eq_true.1 hwm r (hsp.mem_iff.1 hr))
    have ra := isM_eq (all_row hTm (i := a) (by omega))
    have rb := isM_eq (all_row hTm (i := b) (by omega))
    refine Rch.fit1 hC [0, 1] (tm' := tY ws c0 os d0 cut A.length ws.length (i + 1)) (bl' := [some (.rows 3 A), some (.rows 3 ((T.set a (rowA T b)).set b (rowA T a)))]) rfl (by decide) rfl ⟨rfl, rfl, rfl, rfl, rfl, rfl, rfl, congrArg (fun x => AV.imr false 3 x c0) (hg.ren _).symm, trivial⟩ (tY_lv hg ..) ⟨⟨by rw [renRows hhA]; exact rfl, lvRows hhA ..⟩, ⟨by rw [renRows hs2]; exact congrArg (fun x => some (Ct.rows 3 x)) (by rw [← ra, ← rb]), lvRows hs2 ..⟩, trivial⟩ ?_
    exact ih ⟨(i + 1, _), by simp only; omega, hsp⟩ (by simp only; omega)
def mrow (r : Int × Int × Int) : List AV := [.v (.int .i64 r.1), .v (.int .i64 r.2.1), .v (.int .i64 r.2.2)]
theorem rows_all (ms : List (Int × Int × Int)) : (ms.map mrow).all isM = true := by
  rw [List.all_map]
  exact List.all_eq_true.2 fun r _ => rfl
end Go.Proofs.Ytdanhpemheldlaa
