/- ViewForward: its run. -/
import Derived.Test.YtdanhpemheldlaaVF1
set_option linter.unusedSimpArgs false
set_option linter.unusedVariables false
-- FUNCTIONS 4
namespace Go.Proofs.Ytdanhpemheldlaa
open Go Go.SY
def kW : KT := ktOf [(13, sV), (15, sGet), (10, sMrg), (14, sFine), (9, specT), (16, sOver)]
theorem kW_ok : KOk Try.prog (plOf pls) kW := ktOf_ok plsOk fun x hx => by
  simp only [List.mem_cons, List.not_mem_nil, or_false] at hx
  rcases hx with rfl | rfl | rfl | rfl | rfl | rfl
  · exact vchk_ok
  · exact get_ok
  · exact mrg_ok
  · exact fine_ok
  · exact spec_true plsOk kIns_ok awake_run
  · exact over_ok
theorem btf : (true == false) = false := rfl
theorem bft : (false == true) = false := rfl
/-- What Get tells of the view, for a row of the later one. -/
theorem get_vs {vs : List (List AV)} (hv : vOk vs 0 = true) (r : List AV) : ∃ w1 w2 w3 E1 : Int, getR vs (idR r) = .tup [.agg [.v (.int .i64 w1), .v (.int .i64 w2), .v (.int .i64 w3)], .v (.int .i64 E1)] ∧
    (keepB vs r = false → E1 = 0 ∧ w1 = idR r ∧ w2 = stR r ∧ w3 = icR r) ∧ (keepB vs r = true → ¬ E1 = 0 ∨ (E1 = 0 ∧ w1 = idR r ∧ (¬ w2 = stR r ∨ (w2 = stR r ∧ ¬ w3 = icR r)))) := by
  refine ⟨_, _, _, _, rfl, fun hk => ?_, fun hk => ?_⟩
  · have hfd : fndR vs (idR r) = true ∧ tr3 (rowA vs (posR vs (idR r))) = tr3 r := by
      rw [keepB, Bool.not_eq_false', Bool.and_eq_true, decide_eq_true_eq] at hk
      exact hk
    obtain ⟨f1, f2⟩ := hfd
    have gB : gotB vs (idR r) = true := by rw [gotB, hv, f1]; rfl
    rw [getE, if_pos hv, if_pos f1, if_pos gB, if_pos gB, if_pos gB]
    simp only [tr3, Prod.mk.injEq] at f2
    exact ⟨rfl, f2.1, f2.2.1, f2.2.2⟩
  · cases f1 : fndR vs (idR r) with
    | false => left; rw [getE, if_pos hv, if_neg (by rw [f1]; decide)]; decide
    | true =>
      right
      have gB : gotB vs (idR r) = true := by rw [gotB, hv, f1]; rfl
      rw [getE, if_pos hv, if_pos f1, if_pos gB, if_pos gB, if_pos gB]
      have hid := (of_decide_eq_true f1).2
      refine ⟨rfl, hid, ?_⟩
      rw [keepB, f1, Bool.true_and, Bool.not_eq_true', decide_eq_false_iff_not] at hk
      by_cases h2 : stR (rowA vs (posR vs (idR r))) = stR r
      · exact .inr ⟨h2, fun h3 => hk (by simp only [tr3, hid, h2, h3])⟩
      · exact .inl h2
theorem get_fr {vs fr ws : List (List AV)} {r : List AV} (hfo : vOk fr 0 = true) (hrow : (keepB vs r = true → fndR fr (idR r) = true ∧ rowA fr (posR fr (idR r)) = r ∧ ∃ k, k < ws.length ∧ tr3 (rowA ws k) = tr3 r) ∧ (keepB vs r = false → fndR fr (idR r) = false)) : ∃ x1 x2 x3 E2 : Int, getR fr (idR r) = .tup [.agg [.v (.int .i64 x1), .v (.int .i64 x2), .v (.int .i64 x3)], .v (.int .i64 E2)] ∧
    (keepB vs r = true → E2 = 0 ∧ x1 = idR r ∧ x2 = stR r ∧ x3 = icR r) ∧ (keepB vs r = false → ¬ E2 = 0) := by
  refine ⟨_, _, _, _, rfl, fun hk => ?_, fun hk => ?_⟩
  · obtain ⟨f1, f2, -⟩ := hrow.1 hk
    have gB : gotB fr (idR r) = true := by rw [gotB, hfo, f1]; rfl
    rw [getE, if_pos hfo, if_pos f1, if_pos gB, if_pos gB, if_pos gB, f2]
    exact ⟨rfl, rfl, rfl, rfl⟩
  · rw [getE, if_pos hfo, if_neg (by rw [hrow.2 hk]; decide)]; decide
def tL1 (vs ws : List (List AV)) (c d : Option Nat) (n f m i : Nat) : TM := [(10, .v (.int .i64 i)), (9, .sl 2 0 3 m none), (7, .sl 1 0 3 f none), (6, .sl 0 0 3 n none), (5, .v (.bool true)), (0, .imr false 3 vs c), (1, .imr false 3 ws d)]
theorem tL1_lv {vs ws : List (List AV)} (hf : FlatR vs) (hg : FlatR ws) (c d : Option Nat) (n f m i N : Nat) : lvT (N + 3) true (tL1 vs ws c d n f m i) = true := by
  simp [tL1, lvT, lvB, tB, hf.lv, hg.lv]
def tL2 (vs ws : List (List AV)) (c d : Option Nat) (n f i : Nat) : TM := [(13, .v (.int .i64 i)), (7, .sl 1 0 3 f none), (6, .sl 0 0 3 n none), (5, .v (.bool true)), (0, .imr false 3 vs c), (1, .imr false 3 ws d)]
theorem tL2_lv {vs ws : List (List AV)} (hf : FlatR vs) (hg : FlatR ws) (c d : Option Nat) (n f i N : Nat) : lvT (N + 2) true (tL2 vs ws c d n f i) = true := by
  simp [tL2, lvT, lvB, tB, hf.lv, hg.lv]
def tL3 (vs ws : List (List AV)) (c d : Option Nat) (n f i : Nat) (E1 E2 : Int) (b : Bool) (k : Nat) : TM := [(19, .v (.int .i64 k)), (18, .v (.bool b)), (17, .v (.int .i64 E2)), (16, .ptr 3 0 3 0), (15, .v (.int .i64 E1)), (14, .ptr 2 0 3 0), (13, .v (.int .i64 i)), (7, .sl 1 0 3 f none), (6, .sl 0 0 3 n none), (5, .v (.bool true)), (0, .imr false 3 vs c), (1, .imr false 3 ws d)]
theorem tL3_lv {vs ws : List (List AV)} (hf : FlatR vs) (hg : FlatR ws) (c d : Option Nat) (n f i : Nat) (E1 E2 : Int) (b : Bool) (k N : Nat) : lvT (N + 4) true (tL3 vs ws c d n f i E1 E2 b k) = true := by
  simp [tL3, lvT, lvB, tB, hf.lv, hg.lv]
def bL3 (ns fr : List (List AV)) (w1 w2 w3 x1 x2 x3 : Int) : Bls := [some (.rows 3 ns), some (.rows 3 fr), some (.lit [.v (.int .i64 w1), .v (.int .i64 w2), .v (.int .i64 w3)]), some (.lit [.v (.int .i64 x1), .v (.int .i64 x2), .v (.int .i64 x3)])]
def IsT (r : AV) (_ : Bls) : Prop := r = .v (.bool true)
set_option maxRecDepth 100000 in
set_option maxHeartbeats 4000000 in
theorem fwd_law (C : Ctx) (hC : C.β.b = []) (vs ws : List (List AV)) (hvm : vs.all isM = true) (hwm : ws.all isM = true) (c0 d0 : Option Nat) (hl : vs.length < 4611686018427387904) (hl2 : ws.length < 4611686018427387904) :
    Rch Try.prog (plOf pls) C (conf0 4 ⟨173, [.tmp 4], code4⟩ [.imr false 3 vs c0, .imr false 3 ws d0] []) IsT := by
  have hf := isM_flat hvm
  have hg := isM_flat hwm
  by_cases hlen : (60 : Int) < vs.length
  · refine ExQ_ok [] 2000 plsOk kW_ok ?_
    simp only [conf0]
    (try rw [exh]); simp (maxSteps := 4000000) only [kW, specT, hlen, stops, inK, stepF, frsF, frF, itemF, codeF, condF, opsF, opsW, opF, callO, stepS, wtS, gdst, gdl, sopF, pv, bltF, callF, calleeS, p_move, p_assign, p_pick, p_binOp, p_len, SY.get, SY.put, SY.ev, SY.mk, SY.ini, bopInt, bop, pickAV, leaveS, retS, killL, isDefs, resS, resAll, tup1, exq_go, exq_t, ↓reduceIte, Nat.reduceLT, Nat.reduceEqDiff, Nat.reduceAdd, Nat.reduceSub, Bool.not_false, reduceCtorEq, true_and, List.map_nil, Bool.and_self, List.append_nil, Nat.zero_add, Int.reduceLE, decide_true, ktOf, conK, alive, lndL, lvB, okBls, shB, ren, ti3, ti22, regAt, fi4, body4, Try.f4, ↓exq_cd cd_code4, ↓exq_cd cd_c4_1, ↓exq_cd cd_c4_2, ↓exq_cd cd_c4_3, ↓exq_cd cd_c4_4, ↓exq_cd cd_c4_5, ↓exq_cd cd_c4_7, ↓exq_cd cd_c4_8, ↓exq_cd cd_c4_9, ↓exq_cd cd_c4_11, r4_1, r4_3, r4_7, r4_11]
    repeat (refine And.intro (a := (_ = true)) (by first | (simp; done) | (simp; omega)) ?_)
    exact rfl
  by_cases hlen2 : (60 : Int) < ws.length
  · refine ExQ_ok [] 2000 plsOk kW_ok ?_
    simp only [conf0]
    (try rw [exh]); simp (maxSteps := 4000000) only [kW, specT, hlen, hlen2, stops, inK, stepF, frsF, frF, itemF, codeF, condF, opsF, opsW, opF, callO, stepS, wtS, gdst, gdl, sopF, pv, bltF, callF, calleeS, p_move, p_assign, p_pick, p_binOp, p_len, SY.get, SY.put, SY.ev, SY.mk, SY.ini, bopInt, bop, pickAV, leaveS, retS, killL, isDefs, resS, resAll, tup1, exq_go, exq_t, exq_f, ↓reduceIte, Nat.reduceLT, Nat.reduceEqDiff, Nat.reduceAdd, Nat.reduceSub, Bool.not_false, reduceCtorEq, true_and, List.map_nil, Bool.and_self, List.append_nil, Nat.zero_add, Int.reduceLE, decide_true, decide_false, ktOf, conK, alive, lndL, lvB, okBls, shB, ren, ti3, ti22, regAt, fi4, body4, Try.f4, ↓exq_cd cd_code4, ↓exq_cd cd_c4_1, ↓exq_cd cd_c4_2, ↓exq_cd cd_c4_3, ↓exq_cd cd_c4_4, ↓exq_cd cd_c4_5, ↓exq_cd cd_c4_7, ↓exq_cd cd_c4_8, ↓exq_cd cd_c4_9, ↓exq_cd cd_c4_11, r4_1, r4_3, r4_7, r4_11]
    repeat (refine And.intro (a := (_ = true)) (by first | (simp; done) | (simp; omega)) ?_)
    exact rfl
  by_cases hv : vOk vs 0 = true
  case neg =>
    have e : vchk vs = 2 := if_neg hv
    refine ExQ_ok [] 2000 plsOk kW_ok ?_
    simp only [conf0]
    (try rw [exh]); simp (maxSteps := 4000000) only [kW, sV, specT, hf.lv, hvm, hlen, hlen2, e, stops, inK, stepF, frsF, frF, itemF, codeF, condF, opsF, opsW, opF, callO, stepS, wtS, gdst, gdl, sopF, pv, bltF, callF, calleeS, p_move, p_assign, p_pick, p_binOp, p_len, SY.get, SY.put, SY.ev, SY.mk, SY.ini, bopInt, bop, pickAV, leaveS, retS, killL, isDefs, resS, resAll, tup1, exq_go, exq_t, exq_f, ↓reduceIte, Nat.reduceLT, Nat.reduceEqDiff, Nat.reduceAdd, Nat.reduceSub, Bool.and_true, Bool.true_and, Bool.not_false, reduceCtorEq, true_and, List.map_cons, List.map_nil, Bool.and_self, List.nil_append, List.append_nil, Nat.zero_add, Int.reduceEq, Int.reduceLE, decide_true, decide_false, ktOf, conK, alive, lndL, lnd, lvB, tB_tt, okBls, shB, ren, not_false_eq_true, ti3, ti22, ti24, regAt, fi4, body4, Try.f4, ↓exq_cd cd_code4, ↓exq_cd cd_c4_1, ↓exq_cd cd_c4_2, ↓exq_cd cd_c4_3, ↓exq_cd cd_c4_4, ↓exq_cd cd_c4_5, ↓exq_cd cd_c4_7, ↓exq_cd cd_c4_8, ↓exq_cd cd_c4_9, ↓exq_cd cd_c4_11, r4_1, r4_3, r4_7, r4_11]
    repeat (refine And.intro (a := (_ = true)) (by first | (simp; done) | (simp; omega)) ?_)
    exact rfl
  have e0 : vchk vs = 0 := if_pos hv
  cases hfw : ws.all fun r => decide (MemR r) with
  | false =>
    refine ExQ_ok [] 2000 plsOk kW_ok ?_
    simp only [conf0]
    (try rw [exh]); simp (maxSteps := 4000000) only [kW, sV, sFine, specT, hf.lv, hg.lv, hvm, hwm, hlen, hlen2, e0, hfw, stops, inK, stepF, frsF, frF, itemF, codeF, condF, opsF, opsW, opF, callO, stepS, wtS, gdst, gdl, sopF, pv, bltF, callF, calleeS, p_move, p_assign, p_pick, p_binOp, p_unOp, p_len, SY.get, SY.put, SY.ev, SY.mk, SY.ini, bopInt, bop, pickAV, leaveS, retS, killL, isDefs, resS, resAll, tup1, exq_go, exq_t, exq_f, ↓reduceIte, Nat.reduceLT, Nat.reduceEqDiff, Nat.reduceAdd, Nat.reduceSub, Bool.and_true, Bool.true_and, Bool.not_false, reduceCtorEq, true_and, List.map_cons, List.map_nil, Bool.and_self, List.nil_append, List.append_nil, Nat.zero_add, Int.reduceLE, decide_true, decide_false, ktOf, conK, alive, lndL, lnd, lvB, tB_tt, okBls, shB, ren, not_true_eq_false, ti3, ti22, ti24, regAt, fi4, body4, Try.f4, ↓exq_cd cd_code4, ↓exq_cd cd_c4_1, ↓exq_cd cd_c4_2, ↓exq_cd cd_c4_3, ↓exq_cd cd_c4_4, ↓exq_cd cd_c4_5, ↓exq_cd cd_c4_7, ↓exq_cd cd_c4_8, ↓exq_cd cd_c4_9, ↓exq_cd cd_c4_11, r4_1, r4_3, r4_7, r4_11]
    repeat (refine And.intro (a := (_ = true)) (by first | (simp; done) | (simp; omega)) ?_)
    exact rfl
  | true =>
    have hb : mrgB vs ws = true := by rw [mrgB, hv, hfw]; rfl
    have r1 : mrgV vs ws = .tup [.sl 0 0 3 (mrgR vs ws).length none, .sl 1 0 3 (frsh vs (mrgR vs ws)).length none, .v (.int .i64 0)] := if_pos hb
    have b1 : mrgL vs ws = [some (.rows 3 (mrgR vs ws)), some (.rows 3 (frsh vs (mrgR vs ws)))] := if_pos hb
    have hw : ∀ r ∈ ws, MemR r ∧ isM r = true := fun r hr => ⟨of_decide_eq_true (List.all_eq_true.1 hfw r hr), List.all_eq_true.1 hwm r hr⟩
    obtain ⟨ho1, ho2⟩ := mrgR_ok hv hvm ws hw
    have hfo : vOk (frsh vs (mrgR vs ws)) 0 = true := vOk_filter ho1
    have hfa := frsh_all (rs := vs) ho2
    have hho := isM_flat ho2
    have hhf := isM_flat hfa
    have hnl := mrgR_len (vs := vs) ws
    have hfl := frsh_le (rs := vs) (ns := mrgR vs ws)
    have hrow := fun i hi => fwd_row (i := i) hv hvm hw hi
    have hcov : ∀ r ∈ vs ++ ws, Cov (mrgR vs ws) r := fun r hr => by
      rcases List.mem_append.1 hr with h | h
      · exact cov_mrg.1 r (cov_self h)
      · exact cov_mrg.2 r h
    generalize hns : mrgR vs ws = ns at *
    generalize hfr : frsh vs ns = fr at *
    have e1 : vchk ns = 0 := if_pos ho1
    have e2 : vchk fr = 0 := if_pos hfo
    have hnt : ns.take ns.length = ns := List.take_of_length_le (Nat.le_refl _)
    have hft : fr.take fr.length = fr := List.take_of_length_le (Nat.le_refl _)
    have hvt : vs.take vs.length = vs := List.take_of_length_le (Nat.le_refl _)
    have hwt : ws.take ws.length = ws := List.take_of_length_le (Nat.le_refl _)
    refine ExQ_ok [] 2000 plsOk kW_ok ?_
    simp only [conf0]
    (try rw [exh]); simp (maxSteps := 4000000) only [kW, sV, sMrg, sFine, specT, hf.lv, hg.lv, hho.lv, hhf.lv, hho.ren, hhf.ren, hvm, hwm, ho2, hfa, hlen, hlen2, e0, hfw, r1, b1, e1, e2, hnt, hft, hvt, List.drop_zero, List.nil_append, stops, inK, stepF, frsF, frF, itemF, codeF, condF, opsF, opsW, opF, callO, wtS, gdst, gdl, sopF, pv, evq, bltF, callF, calleeS, quiet, p_move, p_assign, p_pick, p_binOp, p_unOp, p_extract, p_len, zerR, roomR, appRR, srcR, dstR, e_buildSlice, e_append, SY.get, SY.put, SY.ev, SY.mk, SY.nth, SY.lvl, SY.setl, SY.ini, wid, wids, bopInt, bop, pickAV, fillA, immL, rowsOf, rep, elCt, killO, dstR, srcR, Ct.cell, exq_go, lvCt, exq_f, ↓reduceIte, Nat.reduceLT, Nat.reduceLeDiff, Nat.reduceEqDiff, Nat.reduceAdd, Nat.reduceSub, Bool.and_true, Bool.true_and, Bool.not_false, Bool.not_true, Option.isSome_none, reduceCtorEq, true_and, Bool.false_eq_true, List.map_cons, List.map_nil, Bool.and_self, List.drop_zero, List.length_cons, List.length_nil, List.cons_append, List.nil_append, List.append_nil, Nat.zero_add, Nat.add_zero, Nat.zero_mul, Int.reduceLE, decide_true, decide_false, ktOf, conK, alive, lndL, lnd, lvB, lvL, tB_tt, okBls, shB, ren, renL, renCt, not_true_eq_false, and_false, ti3, ti22, ti24, ti29, regAt, body4, Try.f4, ↓exq_cd cd_code4, ↓exq_cd cd_c4_1, ↓exq_cd cd_c4_2, ↓exq_cd cd_c4_3, ↓exq_cd cd_c4_4, ↓exq_cd cd_c4_5, ↓exq_cd cd_c4_7, ↓exq_cd cd_c4_8, ↓exq_cd cd_c4_6, ↓exq_cd cd_c4_12, ↓exq_cd cd_c4_13, ↓exq_cd cd_c4_14, ↓exq_cd cd_c4_16, ↓exq_cd cd_c4_17, ↓exq_cd cd_c4_15, ↓exq_cd cd_c4_21, ↓exq_cd cd_c4_22, ↓exq_cd cd_c4_23, ↓exq_cd cd_c4_25, ↓exq_cd cd_c4_26, ↓exq_cd cd_c4_27, r4_1, r4_3, r4_7, r4_12, r4_16, r4_21, r4_25]
    repeat (refine And.intro (a := (_ = true)) (by first | (simp; done) | (simp; omega)) ?_)
    have hsa : (vs ++ ws).all isM = true := by rw [List.all_append, hvm, hwm]; rfl
    have hsm : ∀ r ∈ vs ++ ws, MemR r := fun r hr => by
      rcases List.mem_append.1 hr with h | h
      · obtain ⟨j, hj, rfl⟩ := List.mem_iff_getElem.1 h
        rw [← rowA_get hj]
        exact ((vOk_from hv).1 j hj).1
      · exact (hw r h).1
    have hsl : (vs ++ ws).length ≤ 120 := by rw [List.length_append]; omega
    generalize vs ++ ws = sd at *
    have hhs := isM_flat hsa
    refine Rch.loop plsOk ?_
    refine Rch.fit1 hC [0, 1, 4] (tm' := tL1 vs ws c0 d0 ns.length fr.length sd.length (0)) (bl' := [some (.rows 3 ns), some (.rows 3 fr), some (.rows 3 sd)]) rfl (by decide) rfl ⟨rfl, rfl, rfl, rfl, rfl, congrArg (fun x => AV.imr false 3 x c0) (hf.ren _).symm, congrArg (fun x => AV.imr false 3 x d0) (hg.ren _).symm, trivial⟩ (tL1_lv hf hg ..) ⟨⟨by rw [renRows hho]; exact rfl, lvRows hho ..⟩, ⟨by rw [renRows hhf]; exact rfl, lvRows hhf ..⟩, ⟨by rw [renRows hhs]; exact rfl, lvRows hhs ..⟩, trivial⟩ ?_
    refine loop_ind plsOk (α := {i : Nat // i ≤ sd.length}) (fun a => sd.length - a.1) (fun a => tL1 vs ws c0 d0 ns.length fr.length sd.length a.1) (fun _ => [some (.rows 3 ns), some (.rows 3 fr), some (.rows 3 sd)]) (fun _ => IsT) ?_ ⟨0, Nat.zero_le _⟩
    rintro ⟨i, hi⟩ ih
    simp only [tL1] at hi ih ⊢
    by_cases h : (i : Int) < sd.length
    · have hi' : i < sd.length := by omega
      have e := isM_row hsa hi'
      have hrm : rowA sd i ∈ sd := by rw [rowA_get hi']; exact List.getElem_mem hi'
      obtain ⟨j, hj, hge⟩ := hcov _ hrm
      obtain ⟨f1, f2⟩ := fnd_at ho1 hj hge.1
      have hmm : MemR (rowA sd i) := hsm _ hrm
      have hmj : MemR (rowA ns j) := ((vOk_from ho1).1 j hj).1
      have gB : gotB ns (idR (rowA sd i)) = true := by rw [gotB, ho1, f1]; rfl
      have gR : getR ns (idR (rowA sd i)) = .tup [.agg [.v (.int .i64 (idR (rowA sd i))), .v (.int .i64 (stR (rowA ns j))), .v (.int .i64 (icR (rowA ns j)))], .v (.int .i64 0)] := by
        rw [getR, getE, if_pos ho1, if_pos f1, if_pos gB, if_pos gB, if_pos gB, f2, hge.1]
      have hov : ¬ (stR (rowA ns j) = stR (rowA sd i) ∧ icR (rowA ns j) = icR (rowA sd i)) → decide (Over (idR (rowA sd i)) (stR (rowA ns j)) (icR (rowA ns j)) (idR (rowA sd i)) (stR (rowA sd i)) (icR (rowA sd i))) = true := fun hne => decide_eq_true ⟨by unfold MemR at hmj; rw [hge.1] at hmj; exact hmj, hmm, rfl, by have := hge.2; omega⟩
      by_cases h2 : stR (rowA ns j) = stR (rowA sd i)
      case neg =>
        have ho := hov (fun h => h2 h.1)
        refine ExQ_ok [] 2000 plsOk kW_ok ?_
        (try rw [exh]); simp (maxSteps := 4000000) only [kW, sGet, sOver, hho.lv, ho2, hnt, List.drop_zero, h, e, gR, h2, ho, Bool.false_and, Bool.and_false, Bool.not_false, Bool.not_true, decide_true, stops, inK, stepF, frsF, frF, itemF, codeF, condF, opsF, opsW, opF, callO, drF, drO, drW, drC, wtS, gdst, gdl, sopF, pv, evq, bltF, callF, calleeS, popF, lopF, cls, lvA, rdl, quiet, p_move, p_assign, p_pick, p_binOp, p_unOp, p_fieldAddr, p_indexAddr, p_extract, p_len, l_load, e_store, e_alloc, SY.get, SY.put, SY.ev, SY.mk, SY.nth, SY.lvl, SY.setl, wid, wids, dr, tk, flat, at1, pack, parts, rdC, rdCt, wrC, wrCt, ar, bopInt, bopEq, eqPs, bop, pickAV, isArr, ctOf, AV.scal, plk, exq_go, exq_t, exq_f, ↓reduceIte, Nat.reduceLT, Nat.reduceEqDiff, Nat.reduceAdd, Nat.reduceSub, Bool.and_true, Bool.true_and, Bool.not_false, Bool.not_true, List.contains_nil, reduceCtorEq, true_and, Bool.false_eq_true, List.map_cons, List.map_nil, Bool.and_self, List.drop_zero, List.length_cons, List.length_nil, List.cons_append, List.nil_append, List.append_nil, Nat.zero_add, Nat.add_zero, Nat.zero_mul, Int.toNat_natCast, Int.reduceLE, decide_true, decide_false, ktOf, conK, alive, lndL, lnd, lvB, lvL, okBls, shB, ren, renL, not_true_eq_false, ti3, ti22, ti24, ti29, regAt, body4, Try.f4, ↓exq_cd cd_c4_28, ↓exq_cd cd_c4_29, ↓exq_cd cd_c4_31, ↓exq_cd cd_c4_32, ↓exq_cd cd_c4_30, ↓exq_cd cd_c4_34, ↓exq_cd cd_c4_36, ↓exq_cd cd_c4_37, ↓exq_cd cd_c4_38, ↓exq_cd cd_c4_39, ↓exq_cd cd_c4_40, ↓exq_cd cd_c4_35, r4_31, r4_37, r4_39, r4_35, plA4, pl4]
        repeat (refine And.intro (a := (_ = true)) (by first | (simp; done) | (simp; omega)) ?_)
        refine Rch.fit1 hC [0, 1, 2] (tm' := tL1 vs ws c0 d0 ns.length fr.length sd.length (i + 1)) (bl' := [some (.rows 3 ns), some (.rows 3 fr), some (.rows 3 sd)]) rfl (by decide) rfl ⟨rfl, rfl, rfl, rfl, rfl, congrArg (fun x => AV.imr false 3 x c0) (hf.ren _).symm, congrArg (fun x => AV.imr false 3 x d0) (hg.ren _).symm, trivial⟩ (tL1_lv hf hg ..) ⟨⟨by rw [renRows hho]; exact rfl, lvRows hho ..⟩, ⟨by rw [renRows hhf]; exact rfl, lvRows hhf ..⟩, ⟨by rw [renRows hhs]; exact rfl, lvRows hhs ..⟩, trivial⟩ ?_
        exact ih ⟨i + 1, by omega⟩ (by simp only; omega)
      by_cases h3 : icR (rowA ns j) = icR (rowA sd i)
      case neg =>
        have ho := hov (fun h => h3 h.2)
        rw [h2] at ho
        refine ExQ_ok [] 2000 plsOk kW_ok ?_
        (try rw [exh]); simp (maxSteps := 4000000) only [kW, sGet, sOver, hho.lv, ho2, hnt, List.drop_zero, h, e, gR, h2, h3, ho, Bool.and_false, Bool.not_false, Bool.not_true, decide_true, stops, inK, stepF, frsF, frF, itemF, codeF, condF, opsF, opsW, opF, callO, drF, drO, drW, drC, wtS, gdst, gdl, sopF, pv, evq, bltF, callF, calleeS, popF, lopF, cls, lvA, rdl, quiet, p_move, p_assign, p_pick, p_binOp, p_unOp, p_fieldAddr, p_indexAddr, p_extract, p_len, l_load, e_store, e_alloc, SY.get, SY.put, SY.ev, SY.mk, SY.nth, SY.lvl, SY.setl, wid, wids, dr, tk, flat, at1, pack, parts, rdC, rdCt, wrC, wrCt, ar, bopInt, bopEq, eqPs, bop, pickAV, isArr, ctOf, AV.scal, plk, exq_go, exq_t, exq_f, ↓reduceIte, Nat.reduceLT, Nat.reduceEqDiff, Nat.reduceAdd, Nat.reduceSub, Bool.and_true, Bool.true_and, Bool.not_false, Bool.not_true, List.contains_nil, reduceCtorEq, true_and, Bool.false_eq_true, List.map_cons, List.map_nil, Bool.and_self, List.drop_zero, List.length_cons, List.length_nil, List.cons_append, List.nil_append, List.append_nil, Nat.zero_add, Nat.add_zero, Nat.zero_mul, Int.toNat_natCast, Int.reduceLE, decide_true, decide_false, ktOf, conK, alive, lndL, lnd, lvB, lvL, okBls, shB, ren, renL, not_true_eq_false, ti3, ti22, ti24, ti29, regAt, body4, Try.f4, ↓exq_cd cd_c4_28, ↓exq_cd cd_c4_29, ↓exq_cd cd_c4_31, ↓exq_cd cd_c4_32, ↓exq_cd cd_c4_30, ↓exq_cd cd_c4_34, ↓exq_cd cd_c4_36, ↓exq_cd cd_c4_37, ↓exq_cd cd_c4_38, ↓exq_cd cd_c4_39, ↓exq_cd cd_c4_40, ↓exq_cd cd_c4_35, r4_31, r4_37, r4_39, r4_35, plA4, pl4]
        repeat (refine And.intro (a := (_ = true)) (by first | (simp; done) | (simp; omega)) ?_)
        refine Rch.fit1 hC [0, 1, 2] (tm' := tL1 vs ws c0 d0 ns.length fr.length sd.length (i + 1)) (bl' := [some (.rows 3 ns), some (.rows 3 fr), some (.rows 3 sd)]) rfl (by decide) rfl ⟨rfl, rfl, rfl, rfl, rfl, congrArg (fun x => AV.imr false 3 x c0) (hf.ren _).symm, congrArg (fun x => AV.imr false 3 x d0) (hg.ren _).symm, trivial⟩ (tL1_lv hf hg ..) ⟨⟨by rw [renRows hho]; exact rfl, lvRows hho ..⟩, ⟨by rw [renRows hhf]; exact rfl, lvRows hhf ..⟩, ⟨by rw [renRows hhs]; exact rfl, lvRows hhs ..⟩, trivial⟩ ?_
        exact ih ⟨i + 1, by omega⟩ (by simp only; omega)
      refine ExQ_ok [] 2000 plsOk kW_ok ?_
      (try rw [exh]); simp (maxSteps := 4000000) only [kW, sGet, hho.lv, ho2, hnt, List.drop_zero, h, e, gR, h2, h3, Bool.and_self, Bool.not_true, decide_true, stops, inK, stepF, frsF, frF, itemF, codeF, condF, opsF, opsW, opF, callO, drF, drO, drW, drC, wtS, gdst, gdl, sopF, pv, evq, bltF, callF, calleeS, popF, lopF, cls, rdl, quiet, p_move, p_assign, p_pick, p_binOp, p_fieldAddr, p_indexAddr, p_extract, p_len, l_load, e_store, e_alloc, SY.get, SY.put, SY.ev, SY.mk, SY.nth, SY.lvl, SY.setl, wid, wids, dr, tk, flat, at1, pack, parts, rdC, rdCt, wrC, wrCt, ar, bopInt, bopEq, eqPs, bop, pickAV, isArr, ctOf, AV.scal, plk, exq_go, exq_t, exq_f, ↓reduceIte, Nat.reduceLT, Nat.reduceEqDiff, Nat.reduceAdd, Nat.reduceSub, Bool.and_true, Bool.true_and, Bool.not_false, Bool.not_true, reduceCtorEq, true_and, List.map_cons, List.map_nil, Bool.and_self, List.drop_zero, List.length_cons, List.length_nil, List.cons_append, List.nil_append, List.append_nil, Nat.zero_add, Nat.add_zero, Nat.zero_mul, Int.toNat_natCast, Int.reduceLE, decide_true, decide_false, ktOf, conK, alive, lndL, lnd, lvB, lvL, okBls, shB, ren, renL, not_true_eq_false, ti3, ti22, ti24, ti29, regAt, body4, Try.f4, ↓exq_cd cd_c4_28, ↓exq_cd cd_c4_29, ↓exq_cd cd_c4_31, ↓exq_cd cd_c4_32, ↓exq_cd cd_c4_30, ↓exq_cd cd_c4_34, ↓exq_cd cd_c4_36, ↓exq_cd cd_c4_37, ↓exq_cd cd_c4_38, ↓exq_cd cd_c4_39, ↓exq_cd cd_c4_40, ↓exq_cd cd_c4_35, r4_31, r4_37, r4_39, r4_35, plA4, pl4]
      repeat (refine And.intro (a := (_ = true)) (by first | (simp; done) | (simp; omega)) ?_)
      refine Rch.fit1 hC [0, 1, 2] (tm' := tL1 vs ws c0 d0 ns.length fr.length sd.length (i + 1)) (bl' := [some (.rows 3 ns), some (.rows 3 fr), some (.rows 3 sd)]) rfl (by decide) rfl ⟨rfl, rfl, rfl, rfl, rfl, congrArg (fun x => AV.imr false 3 x c0) (hf.ren _).symm, congrArg (fun x => AV.imr false 3 x d0) (hg.ren _).symm, trivial⟩ (tL1_lv hf hg ..) ⟨⟨by rw [renRows hho]; exact rfl, lvRows hho ..⟩, ⟨by rw [renRows hhf]; exact rfl, lvRows hhf ..⟩, ⟨by rw [renRows hhs]; exact rfl, lvRows hhs ..⟩, trivial⟩ ?_
      exact ih ⟨i + 1, by omega⟩ (by simp only; omega)
    · clear ih
      refine ExQ_ok [] 2000 plsOk kW_ok ?_
      (try rw [exh]); simp (maxSteps := 4000000) only [kW, h, stops, inK, stepF, frsF, frF, itemF, codeF, condF, opsF, opsW, opF, stepS, wtS, sopF, pv, bltF, callF, p_move, p_assign, p_binOp, p_len, SY.get, SY.put, SY.ev, SY.mk, bopInt, bop, exitS, exq_go, exq_f, ↓reduceIte, Nat.reduceLT, Nat.reduceEqDiff, Nat.reduceAdd, true_and, Bool.and_self, Int.reduceLE, decide_true, decide_false, ktOf, ti3, ti22, regAt, body4, Try.f4, ↓exq_cd cd_c4_28, ↓exq_cd cd_c4_29, ↓exq_cd cd_c4_31, ↓exq_cd cd_c4_32, ↓exq_cd cd_c4_24, ↓exq_cd cd_c4_44, ↓exq_cd cd_c4_46, ↓exq_cd cd_c4_47, ↓exq_cd cd_c4_48, r4_31, r4_46]
      repeat (refine And.intro (a := (_ = true)) (by first | (simp; done) | (simp; omega)) ?_)
      refine Rch.loop plsOk ?_
      refine Rch.fit1 hC [0, 1] (tm' := tL2 vs ws c0 d0 ns.length fr.length (0)) (bl' := [some (.rows 3 ns), some (.rows 3 fr)]) rfl (by decide) rfl ⟨rfl, rfl, rfl, rfl, congrArg (fun x => AV.imr false 3 x c0) (hf.ren _).symm, congrArg (fun x => AV.imr false 3 x d0) (hg.ren _).symm, trivial⟩ (tL2_lv hf hg ..) ⟨⟨by rw [renRows hho]; exact rfl, lvRows hho ..⟩, ⟨by rw [renRows hhf]; exact rfl, lvRows hhf ..⟩, trivial⟩ ?_
      clear h hi hcov
      clear i
      refine loop_ind plsOk (α := {i : Nat // i ≤ ns.length}) (fun a => ns.length - a.1) (fun a => tL2 vs ws c0 d0 ns.length fr.length a.1) (fun _ => [some (.rows 3 ns), some (.rows 3 fr)]) (fun _ => IsT) ?_ ⟨0, Nat.zero_le _⟩
      rintro ⟨i, hi⟩ ih
      simp only [tL2] at hi ih ⊢
      by_cases h : (i : Int) < ns.length
      case neg =>
        refine ExQ_ok [] 2000 plsOk kW_ok ?_
        (try rw [exh]); simp (maxSteps := 4000000) only [kW, h, stops, stepF, frsF, frF, itemF, codeF, condF, opsF, opsW, opF, stepS, wtS, sopF, pv, bltF, callF, p_move, p_assign, p_binOp, p_len, SY.get, SY.put, SY.ev, bopInt, bop, leaveS, retS, exitS, killL, isDefs, resS, resAll, tup1, exq_go, exq_f, ↓reduceIte, Nat.reduceLT, Nat.reduceEqDiff, Nat.reduceAdd, true_and, decide_false, ktOf, ti3, ti22, regAt, fi4, body4, Try.f4, ↓exq_cd cd_c4_49, ↓exq_cd cd_c4_50, ↓exq_cd cd_c4_52, ↓exq_cd cd_c4_53, ↓exq_cd cd_c4_45, ↓exq_cd cd_c4_83, r4_52, r4_83]
        repeat (refine And.intro (a := (_ = true)) (by first | (simp; done) | (simp; omega)) ?_)
        exact rfl
      have hi' : i < ns.length := by omega
      have e := isM_row ho2 hi'
      obtain ⟨w1, w2, w3, E1, gR1, hP1, hP2⟩ := get_vs (vs := vs) hv (rowA ns i)
      obtain ⟨x1, x2, x3, E2, gR2, hQ1, hQ2⟩ := get_fr (vs := vs) (fr := fr) hfo (hrow i hi')
      have hsd : keepB vs (rowA ns i) = true → ∃ k, k < ws.length ∧ tr3 (rowA ws k) = tr3 (rowA ns i) := fun hk => ((hrow i hi').1 hk).2.2
      refine ExQ_ok [] 2000 plsOk kW_ok ?_
      (try rw [exh]); simp (maxSteps := 4000000) only [kW, sGet, hf.lv, hhf.lv, hvm, hfa, hft, List.drop_zero, h, e, gR1, gR2, stops, inK, stepF, frsF, frF, itemF, codeF, condF, opsF, opsW, opF, callO, wtS, sopF, pv, evq, bltF, callF, calleeS, quiet, p_move, p_assign, p_binOp, p_fieldAddr, p_indexAddr, p_extract, p_len, l_load, e_store, e_alloc, SY.get, SY.put, SY.ev, SY.mk, SY.nth, SY.lvl, SY.setl, wid, wids, dr, flat, at1, rdC, rdCt, wrC, wrCt, bopInt, bop, isArr, ctOf, AV.scal, exq_go, exq_t, ↓reduceIte, Nat.reduceLT, Nat.reduceEqDiff, Nat.reduceAdd, Nat.reduceSub, Bool.and_true, Bool.true_and, reduceCtorEq, true_and, List.map_cons, List.map_nil, Bool.and_self, List.drop_zero, List.length_cons, List.length_nil, List.cons_append, List.nil_append, List.append_nil, Nat.zero_add, Nat.add_zero, Nat.zero_mul, Int.toNat_natCast, Int.reduceLE, decide_true, decide_false, ktOf, conK, alive, lndL, lnd, lvB, lvL, tB_tt, okBls, shB, ren, renL, ti3, ti22, ti29, regAt, body4, Try.f4, ↓exq_cd cd_c4_49, ↓exq_cd cd_c4_50, ↓exq_cd cd_c4_52, ↓exq_cd cd_c4_53, ↓exq_cd cd_c4_51, ↓exq_cd cd_c4_55, ↓exq_cd cd_c4_57, ↓exq_cd cd_c4_58, ↓exq_cd cd_c4_59, ↓exq_cd cd_c4_60, ↓exq_cd cd_c4_61, ↓exq_cd cd_c4_62, ↓exq_cd cd_c4_63, ↓exq_cd cd_c4_64, ↓exq_cd cd_c4_66, ↓exq_cd cd_c4_67, ↓exq_cd cd_c4_68, r4_52, r4_58, r4_60, r4_62, r4_66]
      repeat (refine And.intro (a := (_ = true)) (by first | (simp; done) | (simp; omega)) ?_)
      refine Rch.loop plsOk ?_
      refine Rch.fit1 hC [0, 1, 2, 3] (tm' := tL3 vs ws c0 d0 ns.length fr.length i E1 E2 false (0)) (bl' := bL3 ns fr w1 w2 w3 x1 x2 x3) rfl (by decide) rfl ⟨rfl, rfl, rfl, rfl, rfl, rfl, rfl, rfl, rfl, rfl, congrArg (fun x => AV.imr false 3 x c0) (hf.ren _).symm, congrArg (fun x => AV.imr false 3 x d0) (hg.ren _).symm, trivial⟩ (tL3_lv hf hg ..) ⟨⟨by rw [renRows hho]; exact rfl, lvRows hho ..⟩, ⟨by rw [renRows hhf]; exact rfl, lvRows hhf ..⟩, ⟨rfl, rfl⟩, ⟨rfl, rfl⟩, trivial⟩ ?_
      refine loop_ind plsOk (α := {a : Nat × Bool // a.1 ≤ ws.length ∧ ((∃ k, k < a.1 ∧ tr3 (rowA ws k) = tr3 (rowA ns i)) → a.2 = true)}) (fun a => ws.length - a.1.1) (fun a => tL3 vs ws c0 d0 ns.length fr.length i E1 E2 a.1.2 a.1.1) (fun _ => bL3 ns fr w1 w2 w3 x1 x2 x3) (fun _ => IsT) ?_ ⟨(0, false), Nat.zero_le _, fun ⟨k, hk, _⟩ => absurd hk (Nat.not_lt_zero _)⟩
      rintro ⟨⟨k, b⟩, hk, hb⟩ ih2
      simp only [tL3, bL3] at hk hb ih2 ⊢
      by_cases h4 : (k : Int) < ws.length
      · have e4 := isM_row hwm (i := k) (by omega)
        cases b with
        | true =>
          refine ExQ_ok [] 2000 plsOk kW_ok ?_
          (try rw [exh]); simp (maxSteps := 4000000) only [kW, h4, stops, inK, stepF, frsF, frF, itemF, codeF, condF, opsF, opsW, opF, drF, drO, drW, drC, wtS, gdst, gdl, sopF, pv, bltF, callF, popF, cls, p_move, p_assign, p_pick, p_binOp, p_len, SY.get, SY.put, SY.ev, SY.mk, SY.nth, ar, bopInt, bop, pickAV, plk, exq_go, exq_t, ↓reduceIte, Nat.reduceLT, Nat.reduceEqDiff, Nat.reduceAdd, Nat.reduceSub, Bool.not_false, reduceCtorEq, true_and, Bool.and_self, Int.reduceLE, decide_true, ktOf, ti3, ti22, regAt, body4, Try.f4, ↓exq_cd cd_c4_69, ↓exq_cd cd_c4_70, ↓exq_cd cd_c4_72, ↓exq_cd cd_c4_73, ↓exq_cd cd_c4_71, ↓exq_cd cd_c4_75, ↓exq_cd cd_c4_77, ↓exq_cd cd_c4_76, r4_72, r4_77, r4_76, plA4, pl4]
          repeat (refine And.intro (a := (_ = true)) (by first | (simp; done) | (simp; omega)) ?_)
          refine Rch.fit1 hC [0, 1, 2, 3] (tm' := tL3 vs ws c0 d0 ns.length fr.length i E1 E2 true (k + 1)) (bl' := bL3 ns fr w1 w2 w3 x1 x2 x3) rfl (by decide) rfl ⟨rfl, rfl, rfl, rfl, rfl, rfl, rfl, rfl, rfl, rfl, congrArg (fun x => AV.imr false 3 x c0) (hf.ren _).symm, congrArg (fun x => AV.imr false 3 x d0) (hg.ren _).symm, trivial⟩ (tL3_lv hf hg ..) ⟨⟨by rw [renRows hho]; exact rfl, lvRows hho ..⟩, ⟨by rw [renRows hhf]; exact rfl, lvRows hhf ..⟩, ⟨rfl, rfl⟩, ⟨rfl, rfl⟩, trivial⟩ ?_
          exact ih2 ⟨(k + 1, true), by simp only; omega, fun _ => rfl⟩ (by simp only; omega)
        | false =>
          have hlt : (k : Int) < ws.length := h4
          have nx : tr3 (rowA ws k) ≠ tr3 (rowA ns i) → ((∃ k', k' < k + 1 ∧ tr3 (rowA ws k') = tr3 (rowA ns i)) → false = true) := fun hne ⟨k', hk', he'⟩ => by
            rcases Nat.lt_or_ge k' k with h5 | h5
            · exact hb ⟨k', h5, he'⟩
            · exact absurd (by rw [show k = k' by omega]; exact he') hne
          by_cases a1 : idR (rowA ws k) = idR (rowA ns i)
          case neg =>
            refine ExQ_ok [] 2000 plsOk kW_ok ?_
            (try rw [exh]); simp (maxSteps := 4000000) only [kW, h4, h, e, e4, a1, Bool.false_and, stops, inK, stepF, frsF, frF, itemF, codeF, condF, opsF, opsW, opF, drF, drO, drW, drC, wtS, gdst, gdl, sopF, pv, bltF, callF, popF, lopF, cls, rdl, p_move, p_assign, p_pick, p_binOp, p_indexAddr, p_len, l_load, SY.get, SY.put, SY.ev, SY.mk, SY.nth, SY.lvl, dr, tk, pack, parts, rdC, rdCt, ar, bopInt, bopEq, eqPs, bop, pickAV, plk, exq_go, exq_t, exq_f, ↓reduceIte, Nat.reduceLT, Nat.reduceEqDiff, Nat.reduceAdd, Nat.reduceSub, Bool.and_true, Bool.not_false, reduceCtorEq, true_and, Bool.and_self, Nat.zero_add, Int.toNat_natCast, Int.reduceLE, decide_true, decide_false, ktOf, ti3, ti22, ti29, regAt, body4, Try.f4, ↓exq_cd cd_c4_69, ↓exq_cd cd_c4_70, ↓exq_cd cd_c4_72, ↓exq_cd cd_c4_73, ↓exq_cd cd_c4_71, ↓exq_cd cd_c4_75, ↓exq_cd cd_c4_77, ↓exq_cd cd_c4_76, r4_72, r4_77, r4_76, plA4, pl4]
            repeat (refine And.intro (a := (_ = true)) (by first | (simp; done) | (simp; omega)) ?_)
            refine Rch.fit1 hC [0, 1, 2, 3] (tm' := tL3 vs ws c0 d0 ns.length fr.length i E1 E2 false (k + 1)) (bl' := bL3 ns fr w1 w2 w3 x1 x2 x3) rfl (by decide) rfl ⟨rfl, rfl, rfl, rfl, rfl, rfl, rfl, rfl, rfl, rfl, congrArg (fun x => AV.imr false 3 x c0) (hf.ren _).symm, congrArg (fun x => AV.imr false 3 x d0) (hg.ren _).symm, trivial⟩ (tL3_lv hf hg ..) ⟨⟨by rw [renRows hho]; exact rfl, lvRows hho ..⟩, ⟨by rw [renRows hhf]; exact rfl, lvRows hhf ..⟩, ⟨rfl, rfl⟩, ⟨rfl, rfl⟩, trivial⟩ ?_
            exact ih2 ⟨(k + 1, false), by simp only; omega, nx fun h => a1 (congrArg Prod.fst h)⟩ (by simp only; omega)
          by_cases a2 : stR (rowA ws k) = stR (rowA ns i)
          case neg =>
            refine ExQ_ok [] 2000 plsOk kW_ok ?_
            (try rw [exh]); simp (maxSteps := 4000000) only [kW, h4, h, e, e4, a1, a2, Bool.false_and, Bool.and_false, stops, inK, stepF, frsF, frF, itemF, codeF, condF, opsF, opsW, opF, drF, drO, drW, drC, wtS, gdst, gdl, sopF, pv, bltF, callF, popF, lopF, cls, rdl, p_move, p_assign, p_pick, p_binOp, p_indexAddr, p_len, l_load, SY.get, SY.put, SY.ev, SY.mk, SY.nth, SY.lvl, dr, tk, pack, parts, rdC, rdCt, ar, bopInt, bopEq, eqPs, bop, pickAV, plk, exq_go, exq_t, exq_f, ↓reduceIte, Nat.reduceLT, Nat.reduceEqDiff, Nat.reduceAdd, Nat.reduceSub, Bool.and_true, Bool.not_false, reduceCtorEq, true_and, Bool.and_self, Nat.zero_add, Int.toNat_natCast, Int.reduceLE, decide_true, decide_false, ktOf, ti3, ti22, ti29, regAt, body4, Try.f4, ↓exq_cd cd_c4_69, ↓exq_cd cd_c4_70, ↓exq_cd cd_c4_72, ↓exq_cd cd_c4_73, ↓exq_cd cd_c4_71, ↓exq_cd cd_c4_75, ↓exq_cd cd_c4_77, ↓exq_cd cd_c4_76, r4_72, r4_77, r4_76, plA4, pl4]
            repeat (refine And.intro (a := (_ = true)) (by first | (simp; done) | (simp; omega)) ?_)
            refine Rch.fit1 hC [0, 1, 2, 3] (tm' := tL3 vs ws c0 d0 ns.length fr.length i E1 E2 false (k + 1)) (bl' := bL3 ns fr w1 w2 w3 x1 x2 x3) rfl (by decide) rfl ⟨rfl, rfl, rfl, rfl, rfl, rfl, rfl, rfl, rfl, rfl, congrArg (fun x => AV.imr false 3 x c0) (hf.ren _).symm, congrArg (fun x => AV.imr false 3 x d0) (hg.ren _).symm, trivial⟩ (tL3_lv hf hg ..) ⟨⟨by rw [renRows hho]; exact rfl, lvRows hho ..⟩, ⟨by rw [renRows hhf]; exact rfl, lvRows hhf ..⟩, ⟨rfl, rfl⟩, ⟨rfl, rfl⟩, trivial⟩ ?_
            exact ih2 ⟨(k + 1, false), by simp only; omega, nx fun h => a2 (congrArg (fun x => x.2.1) h)⟩ (by simp only; omega)
          by_cases a3 : icR (rowA ws k) = icR (rowA ns i)
          case neg =>
            refine ExQ_ok [] 2000 plsOk kW_ok ?_
            (try rw [exh]); simp (maxSteps := 4000000) only [kW, h4, h, e, e4, a1, a2, a3, Bool.and_false, stops, inK, stepF, frsF, frF, itemF, codeF, condF, opsF, opsW, opF, drF, drO, drW, drC, wtS, gdst, gdl, sopF, pv, bltF, callF, popF, lopF, cls, rdl, p_move, p_assign, p_pick, p_binOp, p_indexAddr, p_len, l_load, SY.get, SY.put, SY.ev, SY.mk, SY.nth, SY.lvl, dr, tk, pack, parts, rdC, rdCt, ar, bopInt, bopEq, eqPs, bop, pickAV, plk, exq_go, exq_t, exq_f, ↓reduceIte, Nat.reduceLT, Nat.reduceEqDiff, Nat.reduceAdd, Nat.reduceSub, Bool.and_true, Bool.not_false, reduceCtorEq, true_and, Bool.and_self, Nat.zero_add, Int.toNat_natCast, Int.reduceLE, decide_true, decide_false, ktOf, ti3, ti22, ti29, regAt, body4, Try.f4, ↓exq_cd cd_c4_69, ↓exq_cd cd_c4_70, ↓exq_cd cd_c4_72, ↓exq_cd cd_c4_73, ↓exq_cd cd_c4_71, ↓exq_cd cd_c4_75, ↓exq_cd cd_c4_77, ↓exq_cd cd_c4_76, r4_72, r4_77, r4_76, plA4, pl4]
            repeat (refine And.intro (a := (_ = true)) (by first | (simp; done) | (simp; omega)) ?_)
            refine Rch.fit1 hC [0, 1, 2, 3] (tm' := tL3 vs ws c0 d0 ns.length fr.length i E1 E2 false (k + 1)) (bl' := bL3 ns fr w1 w2 w3 x1 x2 x3) rfl (by decide) rfl ⟨rfl, rfl, rfl, rfl, rfl, rfl, rfl, rfl, rfl, rfl, congrArg (fun x => AV.imr false 3 x c0) (hf.ren _).symm, congrArg (fun x => AV.imr false 3 x d0) (hg.ren _).symm, trivial⟩ (tL3_lv hf hg ..) ⟨⟨by rw [renRows hho]; exact rfl, lvRows hho ..⟩, ⟨by rw [renRows hhf]; exact rfl, lvRows hhf ..⟩, ⟨rfl, rfl⟩, ⟨rfl, rfl⟩, trivial⟩ ?_
            exact ih2 ⟨(k + 1, false), by simp only; omega, nx fun h => a3 (congrArg (fun x => x.2.2) h)⟩ (by simp only; omega)
          refine ExQ_ok [] 2000 plsOk kW_ok ?_
          (try rw [exh]); simp (maxSteps := 4000000) only [kW, h4, h, e, e4, a1, a2, a3, Bool.and_self, stops, inK, stepF, frsF, frF, itemF, codeF, condF, opsF, opsW, opF, drF, drO, drW, drC, wtS, gdst, gdl, sopF, pv, bltF, callF, popF, lopF, cls, rdl, p_move, p_assign, p_pick, p_binOp, p_indexAddr, p_len, l_load, SY.get, SY.put, SY.ev, SY.mk, SY.nth, SY.lvl, dr, tk, pack, parts, rdC, rdCt, ar, bopInt, bopEq, eqPs, bop, pickAV, plk, exq_go, exq_t, exq_f, ↓reduceIte, Nat.reduceLT, Nat.reduceEqDiff, Nat.reduceAdd, Nat.reduceSub, Bool.and_true, Bool.not_false, reduceCtorEq, true_and, Bool.and_self, Nat.zero_add, Int.toNat_natCast, Int.reduceLE, decide_true, ktOf, ti3, ti22, ti29, regAt, body4, Try.f4, ↓exq_cd cd_c4_69, ↓exq_cd cd_c4_70, ↓exq_cd cd_c4_72, ↓exq_cd cd_c4_73, ↓exq_cd cd_c4_71, ↓exq_cd cd_c4_75, ↓exq_cd cd_c4_77, ↓exq_cd cd_c4_76, r4_72, r4_77, r4_76, plA4, pl4]
          repeat (refine And.intro (a := (_ = true)) (by first | (simp; done) | (simp; omega)) ?_)
          refine Rch.fit1 hC [0, 1, 2, 3] (tm' := tL3 vs ws c0 d0 ns.length fr.length i E1 E2 true (k + 1)) (bl' := bL3 ns fr w1 w2 w3 x1 x2 x3) rfl (by decide) rfl ⟨rfl, rfl, rfl, rfl, rfl, rfl, rfl, rfl, rfl, rfl, congrArg (fun x => AV.imr false 3 x c0) (hf.ren _).symm, congrArg (fun x => AV.imr false 3 x d0) (hg.ren _).symm, trivial⟩ (tL3_lv hf hg ..) ⟨⟨by rw [renRows hho]; exact rfl, lvRows hho ..⟩, ⟨by rw [renRows hhf]; exact rfl, lvRows hhf ..⟩, ⟨rfl, rfl⟩, ⟨rfl, rfl⟩, trivial⟩ ?_
          exact ih2 ⟨(k + 1, true), by simp only; omega, fun _ => rfl⟩ (by simp only; omega)
      · clear ih2
        have hlast : ∀ Q : Prop, (i + 1 ≤ ns.length → Q) → Q := fun Q hq => hq (by omega)
        cases hkp : keepB vs (rowA ns i) with
        | false =>
          obtain ⟨rfl, rfl, rfl, rfl⟩ := hP1 hkp
          have hE2 := hQ2 hkp
          refine ExQ_ok [] 2000 plsOk kW_ok ?_
          (try rw [exh]); simp (maxSteps := 4000000) only [kW, h4, h, e, hE2, Bool.and_self, decide_true, btf, stops, inK, stepF, frsF, frF, itemF, codeF, condF, opsF, opsW, opF, drF, drO, drW, drC, stepS, wtS, gdst, gdl, sopF, pv, bltF, callF, popF, lopF, cls, rdl, p_move, p_assign, p_pick, p_binOp, p_indexAddr, p_len, l_load, SY.get, SY.put, SY.ev, SY.mk, SY.nth, SY.lvl, dr, tk, pack, parts, rdC, rdCt, ar, bopInt, bopEq, isBl, eqPs, bop, pickAV, exitS, plk, exq_go, exq_t, exq_f, ↓reduceIte, Nat.reduceLT, Nat.reduceEqDiff, Nat.reduceAdd, Nat.reduceSub, Bool.and_true, Bool.not_false, Bool.not_true, reduceCtorEq, true_and, Bool.and_self, Nat.zero_add, Nat.add_zero, Nat.zero_mul, Int.toNat_natCast, Int.reduceLE, decide_true, decide_false, ktOf, ti3, ti4, ti22, ti24, ti29, regAt, body4, Try.f4, ↓exq_cd cd_c4_69, ↓exq_cd cd_c4_70, ↓exq_cd cd_c4_72, ↓exq_cd cd_c4_73, ↓exq_cd cd_c4_65, ↓exq_cd cd_c4_78, ↓exq_cd cd_c4_79, ↓exq_cd cd_c4_56, r4_72, r4_78, r4_56, plA4, pl4]
          repeat (refine And.intro (a := (_ = true)) (by first | (simp; done) | (simp; omega)) ?_)
          refine Rch.fit1 hC [0, 1] (tm' := tL2 vs ws c0 d0 ns.length fr.length (i + 1)) (bl' := [some (.rows 3 ns), some (.rows 3 fr)]) rfl (by decide) rfl ⟨rfl, rfl, rfl, rfl, congrArg (fun x => AV.imr false 3 x c0) (hf.ren _).symm, congrArg (fun x => AV.imr false 3 x d0) (hg.ren _).symm, trivial⟩ (tL2_lv hf hg ..) ⟨⟨by rw [renRows hho]; exact rfl, lvRows hho ..⟩, ⟨by rw [renRows hhf]; exact rfl, lvRows hhf ..⟩, trivial⟩ ?_
          exact ih ⟨i + 1, by omega⟩ (by simp only; omega)
        | true =>
          obtain ⟨rfl, rfl, rfl, rfl⟩ := hQ1 hkp
          obtain ⟨k', hk', he'⟩ := hsd hkp
          obtain rfl := hb ⟨k', by omega, he'⟩
          rcases hP2 hkp with hE1 | ⟨rfl, rfl, hw2 | ⟨rfl, hw3⟩⟩
          · refine ExQ_ok [] 2000 plsOk kW_ok ?_
            (try rw [exh]); simp (maxSteps := 4000000) only [kW, h4, h, e, hE1, Bool.and_self, decide_true, bft, Bool.not_true, stops, inK, stepF, frsF, frF, itemF, codeF, condF, opsF, opsW, opF, drF, drO, drW, drC, stepS, wtS, gdst, gdl, sopF, pv, bltF, callF, popF, lopF, cls, rdl, p_move, p_assign, p_pick, p_binOp, p_unOp, p_indexAddr, p_len, l_load, SY.get, SY.put, SY.ev, SY.mk, SY.nth, SY.lvl, dr, tk, pack, parts, rdC, rdCt, ar, bopInt, bopEq, isBl, eqPs, bop, pickAV, exitS, plk, exq_go, exq_t, exq_f, ↓reduceIte, Nat.reduceLT, Nat.reduceEqDiff, Nat.reduceAdd, Nat.reduceSub, Bool.and_true, Bool.not_false, Bool.not_true, reduceCtorEq, true_and, Bool.and_self, Nat.zero_add, Nat.add_zero, Nat.zero_mul, Int.toNat_natCast, Int.reduceLE, decide_true, decide_false, ktOf, ti3, ti4, ti22, ti24, ti29, regAt, body4, Try.f4, ↓exq_cd cd_c4_69, ↓exq_cd cd_c4_70, ↓exq_cd cd_c4_72, ↓exq_cd cd_c4_73, ↓exq_cd cd_c4_65, ↓exq_cd cd_c4_78, ↓exq_cd cd_c4_79, ↓exq_cd cd_c4_56, r4_72, r4_78, r4_56, plA4, pl4]
            repeat (refine And.intro (a := (_ = true)) (by first | (simp; done) | (simp; omega)) ?_)
            refine Rch.fit1 hC [0, 1] (tm' := tL2 vs ws c0 d0 ns.length fr.length (i + 1)) (bl' := [some (.rows 3 ns), some (.rows 3 fr)]) rfl (by decide) rfl ⟨rfl, rfl, rfl, rfl, congrArg (fun x => AV.imr false 3 x c0) (hf.ren _).symm, congrArg (fun x => AV.imr false 3 x d0) (hg.ren _).symm, trivial⟩ (tL2_lv hf hg ..) ⟨⟨by rw [renRows hho]; exact rfl, lvRows hho ..⟩, ⟨by rw [renRows hhf]; exact rfl, lvRows hhf ..⟩, trivial⟩ ?_
            exact ih ⟨i + 1, by omega⟩ (by simp only; omega)
          · refine ExQ_ok [] 2000 plsOk kW_ok ?_
            (try rw [exh]); simp (maxSteps := 4000000) only [kW, h4, h, e, hw2, Bool.and_self, Bool.false_and, Bool.and_false, decide_true, bft, Bool.not_true, stops, inK, stepF, frsF, frF, itemF, codeF, condF, opsF, opsW, opF, drF, drO, drW, drC, stepS, wtS, gdst, gdl, sopF, pv, bltF, callF, popF, lopF, cls, rdl, p_move, p_assign, p_pick, p_binOp, p_unOp, p_indexAddr, p_len, l_load, SY.get, SY.put, SY.ev, SY.mk, SY.nth, SY.lvl, dr, tk, pack, parts, rdC, rdCt, ar, bopInt, bopEq, isBl, eqPs, bop, pickAV, exitS, plk, exq_go, exq_t, exq_f, ↓reduceIte, Nat.reduceLT, Nat.reduceEqDiff, Nat.reduceAdd, Nat.reduceSub, Bool.and_true, Bool.not_false, Bool.not_true, reduceCtorEq, true_and, Bool.and_self, Nat.zero_add, Nat.add_zero, Nat.zero_mul, Int.toNat_natCast, Int.reduceLE, decide_true, decide_false, ktOf, ti3, ti4, ti22, ti24, ti29, regAt, body4, Try.f4, ↓exq_cd cd_c4_69, ↓exq_cd cd_c4_70, ↓exq_cd cd_c4_72, ↓exq_cd cd_c4_73, ↓exq_cd cd_c4_65, ↓exq_cd cd_c4_78, ↓exq_cd cd_c4_79, ↓exq_cd cd_c4_56, r4_72, r4_78, r4_56, plA4, pl4]
            repeat (refine And.intro (a := (_ = true)) (by first | (simp; done) | (simp; omega)) ?_)
            refine Rch.fit1 hC [0, 1] (tm' := tL2 vs ws c0 d0 ns.length fr.length (i + 1)) (bl' := [some (.rows 3 ns), some (.rows 3 fr)]) rfl (by decide) rfl ⟨rfl, rfl, rfl, rfl, congrArg (fun x => AV.imr false 3 x c0) (hf.ren _).symm, congrArg (fun x => AV.imr false 3 x d0) (hg.ren _).symm, trivial⟩ (tL2_lv hf hg ..) ⟨⟨by rw [renRows hho]; exact rfl, lvRows hho ..⟩, ⟨by rw [renRows hhf]; exact rfl, lvRows hhf ..⟩, trivial⟩ ?_
            exact ih ⟨i + 1, by omega⟩ (by simp only; omega)
          · refine ExQ_ok [] 2000 plsOk kW_ok ?_
            (try rw [exh]); simp (maxSteps := 4000000) only [kW, h4, h, e, hw3, Bool.and_self, Bool.and_false, decide_true, bft, Bool.not_true, stops, inK, stepF, frsF, frF, itemF, codeF, condF, opsF, opsW, opF, drF, drO, drW, drC, stepS, wtS, gdst, gdl, sopF, pv, bltF, callF, popF, lopF, cls, rdl, p_move, p_assign, p_pick, p_binOp, p_unOp, p_indexAddr, p_len, l_load, SY.get, SY.put, SY.ev, SY.mk, SY.nth, SY.lvl, dr, tk, pack, parts, rdC, rdCt, ar, bopInt, bopEq, isBl, eqPs, bop, pickAV, exitS, plk, exq_go, exq_t, exq_f, ↓reduceIte, Nat.reduceLT, Nat.reduceEqDiff, Nat.reduceAdd, Nat.reduceSub, Bool.and_true, Bool.not_false, Bool.not_true, reduceCtorEq, true_and, Bool.and_self, Nat.zero_add, Nat.add_zero, Nat.zero_mul, Int.toNat_natCast, Int.reduceLE, decide_true, decide_false, ktOf, ti3, ti4, ti22, ti24, ti29, regAt, body4, Try.f4, ↓exq_cd cd_c4_69, ↓exq_cd cd_c4_70, ↓exq_cd cd_c4_72, ↓exq_cd cd_c4_73, ↓exq_cd cd_c4_65, ↓exq_cd cd_c4_78, ↓exq_cd cd_c4_79, ↓exq_cd cd_c4_56, r4_72, r4_78, r4_56, plA4, pl4]
            repeat (refine And.intro (a := (_ = true)) (by first | (simp; done) | (simp; omega)) ?_)
            refine Rch.fit1 hC [0, 1] (tm' := tL2 vs ws c0 d0 ns.length fr.length (i + 1)) (bl' := [some (.rows 3 ns), some (.rows 3 fr)]) rfl (by decide) rfl ⟨rfl, rfl, rfl, rfl, congrArg (fun x => AV.imr false 3 x c0) (hf.ren _).symm, congrArg (fun x => AV.imr false 3 x d0) (hg.ren _).symm, trivial⟩ (tL2_lv hf hg ..) ⟨⟨by rw [renRows hho]; exact rfl, lvRows hho ..⟩, ⟨by rw [renRows hhf]; exact rfl, lvRows hhf ..⟩, trivial⟩ ?_
            exact ih ⟨i + 1, by omega⟩ (by simp only; omega)
def mrow (r : Int × Int × Int) : List AV := [.v (.int .i64 r.1), .v (.int .i64 r.2.1), .v (.int .i64 r.2.2)]
theorem rows_all (ms : List (Int × Int × Int)) : (ms.map mrow).all isM = true := by
  rw [List.all_map]
  exact List.all_eq_true.2 fun r _ => rfl
end Go.Proofs.Ytdanhpemheldlaa
