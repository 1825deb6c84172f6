/- ViewMerges: its run. -/
import Derived.Test.YtdanhpemheldlaaVR4
import Derived.Test.YtdanhpemheldlaaVTa
set_option linter.unusedSimpArgs false
set_option linter.unusedVariables false
-- FUNCTIONS 3 12
namespace Go.Proofs.Ytdanhpemheldlaa
open Go Go.SY
theorem btt : (true == true) = true := rfl
theorem bff : (false == false) = true := rfl
def tMg (vs ws : List (List AV)) (c d : Option Nat) (n f i : Nat) : TM := [(14, .v (.int .i64 i)), (13, .v (.bool true)), (7, .sl 2 0 3 n none), (8, .sl 3 0 3 f none), (5, .sl 0 0 3 vs.length none), (6, .sl 1 0 3 ws.length none), (0, .imr false 3 vs c), (1, .imr false 3 ws d)]
theorem tMg_lv {vs ws : List (List AV)} (hf : FlatR vs) (hg : FlatR ws) (c d : Option Nat) (n f i N : Nat) : lvT (N + 4) true (tMg vs ws c d n f i) = true := by
  simp [tMg, lvT, lvB, tB, hf.lv, hg.lv]
def tMh (vs ws : List (List AV)) (c d : Option Nat) (f i : Nat) : TM := [(15, .v (.int .i64 i)), (13, .v (.bool true)), (8, .sl 2 0 3 f none), (5, .sl 0 0 3 vs.length none), (6, .sl 1 0 3 ws.length none), (0, .imr false 3 vs c), (1, .imr false 3 ws d)]
theorem tMh_lv {vs ws : List (List AV)} (hf : FlatR vs) (hg : FlatR ws) (c d : Option Nat) (f i N : Nat) : lvT (N + 3) true (tMh vs ws c d f i) = true := by
  simp [tMh, lvT, lvB, tB, hf.lv, hg.lv]
theorem isM_set {os : List (List AV)} (h : os.all isM = true) (i : Nat) {r : List AV} (hr : isM r = true) : (os.set i r).all isM = true := List.all_eq_true.2 fun x hx => by
  rcases List.mem_or_eq_of_mem_set hx with h1 | rfl
  · exact List.all_eq_true.1 h x h1
  · exact hr
def sSam2 : List AV → Option (Bool × AV × Bls)
  | [.nil, .nil] => some (true, .v (.bool true), [])
  | [.imr t 3 rs c, .imr u 3 qs d] => sSame [.imr t 3 rs c, .imr u 3 qs d]
  | _ => none
set_option maxRecDepth 100000 in
set_option maxHeartbeats 4000000 in
theorem mnil_run (C : Ctx) : Rch Try.prog (plOf pls) C (conf0 12 ⟨26, [.tmp 4], code12⟩ [.nil, .nil] []) (Res (.v (.bool true)) []) := by
  refine ExQ_ok [] 2000 plsOk kS_ok ?_
  simp only [conf0]
  (try rw [exh]); simp (maxSteps := 4000000) only [stops, inK, stepF, frsF, frF, itemF, codeF, condF, opsF, opsW, opF, wtS, sopF, pv, bltF, callF, p_move, p_assign, p_binOp, p_len, SY.get, SY.put, SY.ev, SY.mk, SY.ini, bopInt, bop, exq_go, exq_f, ↓reduceIte, Nat.reduceLT, Nat.reduceEqDiff, Nat.reduceAdd, reduceCtorEq, true_and, Bool.and_self, Nat.zero_add, Int.reduceLE, decide_true, decide_false, not_true_eq_false, ti3, ti22, regAt, body12, Try.f12, ↓exq_cd cd_code12, ↓exq_cd cd_c12_1, ↓exq_cd cd_c12_2, ↓exq_cd cd_c12_3, ↓exq_cd cd_c12_5, ↓exq_cd cd_c12_6, ↓exq_cd cd_c12_4, ↓exq_cd cd_c12_10, ↓exq_cd cd_c12_12, ↓exq_cd cd_c12_13, ↓exq_cd cd_c12_14, r12_1, r12_5, r12_12]
  repeat (refine And.intro (a := (_ = true)) (by first | (simp; done) | (simp; omega)) ?_)
  refine Rch.loop plsOk ?_
  refine ExQ_ok [] 2000 plsOk kS_ok ?_
  (try rw [exh]); simp (maxSteps := 4000000) only [stops, stepF, frsF, frF, itemF, codeF, condF, opsF, opsW, opF, stepS, wtS, sopF, pv, bltF, callF, p_move, p_assign, p_binOp, p_len, SY.get, SY.put, SY.ev, SY.mk, bopInt, bop, leaveS, retS, exitS, killL, isDefs, resS, resAll, tup1, exq_go, exq_f, ↓reduceIte, Nat.reduceLT, Nat.reduceEqDiff, Nat.reduceAdd, reduceCtorEq, true_and, Int.reduceLT, decide_false, ti3, ti22, regAt, fi12, body12, Try.f12, ↓exq_cd cd_c12_15, ↓exq_cd cd_c12_16, ↓exq_cd cd_c12_18, ↓exq_cd cd_c12_19, ↓exq_cd cd_c12_11, ↓exq_cd cd_c12_29, r12_18, r12_29]
  repeat (refine And.intro (a := (_ = true)) (by first | (simp; done) | (simp; omega)) ?_)
  exact Res.val _ _
theorem members2_ok : SpecOk Try.prog (plOf pls) 12 sSam2 := by
  obtain ⟨F, hF, h2⟩ := members_ok
  refine ⟨F, hF, fun args r bl1 h => ?_⟩
  unfold sSam2 at h
  split at h
  · simp only [Option.some.injEq, Prod.mk.injEq, true_and] at h
    obtain ⟨rfl, rfl⟩ := h
    have : F = _ := Option.some.inj (hF.symm.trans fi12)
    subst this
    exact ⟨by simp, fun C _ _ => mnil_run C⟩
  · exact h2 _ r bl1 h
  · cases h
def kMg : KT := ktOf [(10, sMrg), (11, sMrgR), (12, sSam2), (9, specT)]
theorem kMg_ok : KOk Try.prog (plOf pls) kMg := ktOf_ok plsOk fun x hx => by
  simp only [List.mem_cons, List.not_mem_nil, or_false] at hx
  rcases hx with rfl | rfl | rfl | rfl
  · exact mrg_ok
  · exact rm_ok
  · exact members2_ok
  · exact spec_true plsOk kIns_ok awake_run
def IsT (r : AV) (_ : Bls) : Prop := r = .v (.bool true)
set_option maxRecDepth 100000 in
set_option maxHeartbeats 4000000 in
theorem merges_law (C : Ctx) (hC : C.β.b = []) (vs ws : List (List AV)) (hvm : vs.all isM = true) (hwm : ws.all isM = true) (c0 d0 : Option Nat) (hl : vs.length < 4611686018427387904) (hl2 : ws.length < 4611686018427387904) :
    Rch Try.prog (plOf pls) C (conf0 3 ⟨92, [.tmp 4], code3⟩ [.imr false 3 vs c0, .imr false 3 ws d0] []) IsT := by
  have hf := isM_flat hvm
  have hg := isM_flat hwm
  by_cases hlen : (80 : Int) < vs.length
  · refine ExQ_ok [] 2000 plsOk kMg_ok ?_
    simp only [conf0]
    (try rw [exh]); simp (maxSteps := 4000000) only [kMg, specT, hlen, stops, inK, stepF, frsF, frF, itemF, codeF, condF, opsF, opsW, opF, callO, stepS, wtS, gdst, gdl, sopF, pv, bltF, callF, calleeS, p_move, p_assign, p_pick, p_binOp, p_len, SY.get, SY.put, SY.ev, SY.mk, SY.ini, bopInt, bop, pickAV, leaveS, retS, killL, isDefs, resS, resAll, tup1, exq_go, exq_t, ↓reduceIte, Nat.reduceLT, Nat.reduceEqDiff, Nat.reduceAdd, Nat.reduceSub, Bool.not_false, reduceCtorEq, true_and, List.map_nil, Bool.and_self, List.append_nil, Nat.zero_add, Int.reduceLE, decide_true, ktOf, conK, alive, lndL, lvB, okBls, shB, ren, ti3, ti22, regAt, fi3, body3, Try.f3, ↓exq_cd cd_code3, ↓exq_cd cd_c3_1, ↓exq_cd cd_c3_2, ↓exq_cd cd_c3_3, ↓exq_cd cd_c3_5, ↓exq_cd cd_c3_6, ↓exq_cd cd_c3_7, ↓exq_cd cd_c3_9, r3_1, r3_5, r3_9]
    repeat (refine And.intro (a := (_ = true)) (by first | (simp; done) | (simp; omega)) ?_)
    exact rfl
  by_cases hlen2 : (80 : Int) < ws.length
  · refine ExQ_ok [] 2000 plsOk kMg_ok ?_
    simp only [conf0]
    (try rw [exh]); simp (maxSteps := 4000000) only [kMg, specT, hlen, hlen2, stops, inK, stepF, frsF, frF, itemF, codeF, condF, opsF, opsW, opF, callO, stepS, wtS, gdst, gdl, sopF, pv, bltF, callF, calleeS, p_move, p_assign, p_pick, p_binOp, p_len, SY.get, SY.put, SY.ev, SY.mk, SY.ini, bopInt, bop, pickAV, leaveS, retS, killL, isDefs, resS, resAll, tup1, exq_go, exq_t, exq_f, ↓reduceIte, Nat.reduceLT, Nat.reduceEqDiff, Nat.reduceAdd, Nat.reduceSub, Bool.not_false, reduceCtorEq, true_and, List.map_nil, Bool.and_self, List.append_nil, Nat.zero_add, Int.reduceLE, decide_true, decide_false, ktOf, conK, alive, lndL, lvB, okBls, shB, ren, ti3, ti22, regAt, fi3, body3, Try.f3, ↓exq_cd cd_code3, ↓exq_cd cd_c3_1, ↓exq_cd cd_c3_2, ↓exq_cd cd_c3_3, ↓exq_cd cd_c3_5, ↓exq_cd cd_c3_6, ↓exq_cd cd_c3_7, ↓exq_cd cd_c3_9, r3_1, r3_5, r3_9]
    repeat (refine And.intro (a := (_ = true)) (by first | (simp; done) | (simp; omega)) ?_)
    exact rfl
  have hvt : vs.take vs.length = vs := List.take_of_length_le (Nat.le_refl _)
  have hwt : ws.take ws.length = ws := List.take_of_length_le (Nat.le_refl _)
  have hsv := same_refl vs
  have hsw := same_refl ws
  by_cases hb : mrgB vs ws = true
  case neg =>
    have r1 : mrgV vs ws = _ := if_neg hb
    have b1 : mrgL vs ws = _ := if_neg hb
    refine ExQ_ok [] 2000 plsOk kMg_ok ?_
    simp only [conf0]
    (try rw [exh]); simp (maxSteps := 4000000) only [kMg, sMrg, sMrgR, sSam2, hf.lv, hg.lv, hvm, hwm, hlen, hlen2, r1, b1, hvt, hwt, List.drop_zero, List.nil_append, decide_true, Bool.and_self, stops, inK, stepF, frsF, frF, itemF, codeF, condF, opsF, opsW, opF, callO, wtS, gdst, gdl, sopF, pv, evq, bltF, callF, calleeS, quiet, p_move, p_assign, p_pick, p_binOp, p_extract, p_len, zerR, roomR, appRR, srcR, dstR, e_buildSlice, e_append, SY.get, SY.put, SY.ev, SY.mk, SY.nth, SY.lvl, SY.ini, wid, wids, bopInt, bop, pickAV, fillA, immL, rowsOf, rep, elCt, dstR, srcR, exq_go, exq_t, exq_f, ↓reduceIte, Nat.reduceLT, Nat.reduceLeDiff, Nat.reduceEqDiff, Nat.reduceAdd, Nat.reduceSub, Bool.and_true, Bool.true_and, Bool.not_false, Bool.not_true, Option.isSome_none, reduceCtorEq, true_and, Bool.false_eq_true, List.map_cons, List.map_nil, Bool.and_self, List.drop_zero, List.length_cons, List.length_nil, List.cons_append, List.nil_append, List.append_nil, Nat.zero_add, Nat.add_zero, Nat.zero_mul, Int.reduceLE, decide_true, decide_false, ktOf, conK, alive, lndL, lnd, lvB, lvL, tB_tt, okBls, shB, ren, renL, and_false, ti3, ti22, ti24, ti29, regAt, body3, Try.f3, ↓exq_cd cd_code3, ↓exq_cd cd_c3_1, ↓exq_cd cd_c3_2, ↓exq_cd cd_c3_3, ↓exq_cd cd_c3_5, ↓exq_cd cd_c3_6, ↓exq_cd cd_c3_4, ↓exq_cd cd_c3_10, ↓exq_cd cd_c3_11, ↓exq_cd cd_c3_12, ↓exq_cd cd_c3_13, ↓exq_cd cd_c3_14, ↓exq_cd cd_c3_15, ↓exq_cd cd_c3_16, ↓exq_cd cd_c3_17, ↓exq_cd cd_c3_18, ↓exq_cd cd_c3_20, ↓exq_cd cd_c3_21, ↓exq_cd cd_c3_22, r3_1, r3_5, r3_10, r3_12, r3_14, r3_16, r3_20]
    repeat (refine And.intro (a := (_ = true)) (by first | (simp; done) | (simp; omega)) ?_)
    iterate 2 (refine Rch.loop plsOk ?_; refine ExQ_ok [] 2000 plsOk kMg_ok ?_; (try rw [exh]); simp (maxSteps := 4000000) only [kMg, sSam2, sSame, specT, hf.lv, hg.lv, hvm, hwm, hvt, hwt, hsv, hsw, List.drop_zero, List.nil_append, decide_true, Bool.and_self, stops, inK, stepF, frsF, frF, itemF, codeF, condF, opsF, opsW, opF, callO, stepS, wtS, gdst, gdl, sopF, pv, bltF, callF, calleeS, p_move, p_assign, p_pick, p_binOp, p_len, SY.get, SY.put, SY.ev, SY.mk, SY.lvl, bopInt, bop, pickAV, leaveS, retS, exitS, killL, isDefs, resS, resAll, tup1, exq_go, exq_t, exq_f, ↓reduceIte, Nat.reduceLT, Nat.reduceEqDiff, Nat.reduceAdd, Nat.reduceSub, Bool.and_true, Bool.true_and, Bool.not_true, reduceCtorEq, true_and, List.map_cons, List.map_nil, Bool.and_self, List.drop_zero, List.nil_append, List.append_nil, Nat.zero_add, Int.reduceLT, Int.reduceLE, decide_true, decide_false, ktOf, conK, alive, lndL, lnd, lvB, tB_tt, okBls, shB, ren, ti3, ti22, regAt, fi3, body3, Try.f3, ↓exq_cd cd_c3_23, ↓exq_cd cd_c3_24, ↓exq_cd cd_c3_26, ↓exq_cd cd_c3_27, ↓exq_cd cd_c3_19, ↓exq_cd cd_c3_32, ↓exq_cd cd_c3_34, ↓exq_cd cd_c3_35, ↓exq_cd cd_c3_36, ↓exq_cd cd_c3_37, ↓exq_cd cd_c3_38, ↓exq_cd cd_c3_40, ↓exq_cd cd_c3_41, ↓exq_cd cd_c3_33, ↓exq_cd cd_c3_46, r3_26, r3_34, r3_40, r3_46]; repeat (refine And.intro (a := (_ = true)) (by first | (simp; done) | (simp; omega)) ?_))
    exact rfl
  have r1 : mrgV vs ws = .tup [.sl 0 0 3 (mrgR vs ws).length none, .sl 1 0 3 (frsh vs (mrgR vs ws)).length none, .v (.int .i64 0)] := if_pos hb
  have b1 : mrgL vs ws = [some (.rows 3 (mrgR vs ws)), some (.rows 3 (frsh vs (mrgR vs ws)))] := if_pos hb
  have hb' := hb
  rw [mrgB, Bool.and_eq_true] at hb'
  obtain ⟨hv, hfw⟩ := hb'
  have hw : ∀ r ∈ ws, MemR r ∧ isM r = true := fun r hr => ⟨of_decide_eq_true (List.all_eq_true.1 hfw r hr), List.all_eq_true.1 hwm r hr⟩
  obtain ⟨ho1, ho2⟩ := mrgR_ok hv hvm ws hw
  have hfa := frsh_all (rs := vs) ho2
  have hho := isM_flat ho2
  have hhf := isM_flat hfa
  have hnl := mrgR_len (vs := vs) ws
  have hfl := frsh_le (rs := vs) (ns := mrgR vs ws)
  generalize hns : mrgR vs ws = ns at *
  generalize hfr : frsh vs ns = fr at *
  have hnt : ns.take ns.length = ns := List.take_of_length_le (Nat.le_refl _)
  have hft : fr.take fr.length = fr := List.take_of_length_le (Nat.le_refl _)
  have hsn := same_refl ns
  have hsf := same_refl fr
  refine ExQ_ok [] 2000 plsOk kMg_ok ?_
  simp only [conf0]
  (try rw [exh]); simp (maxSteps := 4000000) only [kMg, sMrg, sMrgR, sSam2, sSame, hf.lv, hg.lv, hho.lv, hhf.lv, hho.ren, hhf.ren, hvm, hwm, ho2, hfa, hlen, hlen2, r1, b1, hvt, hwt, hnt, hft, hsn, hsf, List.drop_zero, List.nil_append, decide_true, Bool.and_self, stops, inK, stepF, frsF, frF, itemF, codeF, condF, opsF, opsW, opF, callO, wtS, gdst, gdl, sopF, pv, evq, bltF, callF, calleeS, quiet, p_move, p_assign, p_pick, p_binOp, p_extract, p_len, zerR, roomR, appRR, srcR, dstR, e_buildSlice, e_append, SY.get, SY.put, SY.ev, SY.mk, SY.nth, SY.lvl, SY.ini, wid, wids, bopInt, bop, pickAV, fillA, immL, rowsOf, rep, elCt, dstR, srcR, Ct.cell, exq_go, lvCt, exq_t, exq_f, ↓reduceIte, Nat.reduceLT, Nat.reduceLeDiff, Nat.reduceEqDiff, Nat.reduceAdd, Nat.reduceSub, Bool.and_true, Bool.true_and, Bool.not_false, Bool.not_true, Option.isSome_none, reduceCtorEq, true_and, Bool.false_eq_true, List.map_cons, List.map_nil, Bool.and_self, List.drop_zero, List.length_cons, List.length_nil, List.cons_append, List.nil_append, List.append_nil, Nat.zero_add, Nat.add_zero, Nat.zero_mul, Int.reduceLE, decide_true, decide_false, ktOf, conK, alive, lndL, lnd, lvB, lvL, tB_tt, okBls, shB, ren, renL, renCt, and_false, ti3, ti22, ti24, ti29, regAt, body3, Try.f3, ↓exq_cd cd_code3, ↓exq_cd cd_c3_1, ↓exq_cd cd_c3_2, ↓exq_cd cd_c3_3, ↓exq_cd cd_c3_5, ↓exq_cd cd_c3_6, ↓exq_cd cd_c3_4, ↓exq_cd cd_c3_10, ↓exq_cd cd_c3_11, ↓exq_cd cd_c3_12, ↓exq_cd cd_c3_13, ↓exq_cd cd_c3_14, ↓exq_cd cd_c3_15, ↓exq_cd cd_c3_16, ↓exq_cd cd_c3_17, ↓exq_cd cd_c3_18, ↓exq_cd cd_c3_20, ↓exq_cd cd_c3_21, ↓exq_cd cd_c3_22, r3_1, r3_5, r3_10, r3_12, r3_14, r3_16, r3_20]
  repeat (refine And.intro (a := (_ = true)) (by first | (simp; done) | (simp; omega)) ?_)
  refine Rch.loop plsOk ?_
  refine Rch.fit1 hC [1, 3, 4, 5] (tm' := tMg vs ws c0 d0 ns.length fr.length (0)) (bl' := [some (.rows 3 vs), some (.rows 3 ws), some (.rows 3 ns), some (.rows 3 fr)]) rfl (by decide) rfl ⟨rfl, rfl, rfl, rfl, rfl, rfl, congrArg (fun x => AV.imr false 3 x c0) (hf.ren _).symm, congrArg (fun x => AV.imr false 3 x d0) (hg.ren _).symm, trivial⟩ (tMg_lv hf hg ..) ⟨⟨by rw [renRows hf]; exact rfl, lvRows hf ..⟩, ⟨by rw [renRows hg]; exact rfl, lvRows hg ..⟩, ⟨by rw [renRows hho]; exact rfl, lvRows hho ..⟩, ⟨by rw [renRows hhf]; exact rfl, lvRows hhf ..⟩, trivial⟩ ?_
  refine loop_ind plsOk (α := {a : Nat × List (List AV) // a.1 ≤ ns.length ∧ a.2.length = ns.length ∧ a.2.all isM = true}) (fun a => ns.length - a.1.1) (fun a => tMg vs ws c0 d0 ns.length fr.length a.1.1) (fun a => [some (.rows 3 vs), some (.rows 3 ws), some (.rows 3 a.1.2), some (.rows 3 fr)]) (fun _ => IsT) ?_ ⟨(0, ns), Nat.zero_le _, rfl, ho2⟩
  clear hho
  rintro ⟨⟨i, os⟩, hi, ho, hoa⟩ ih
  simp only [tMg] at hi ho hoa ih ⊢
  have hho := isM_flat hoa
  by_cases h : (i : Int) < ns.length
  · refine ExQ_ok [] 2000 plsOk kMg_ok ?_
    (try rw [exh]); simp (maxSteps := 4000000) only [kMg, ho, h, stops, inK, stepF, frsF, frF, itemF, codeF, condF, opsF, opsW, opF, wtS, sopF, pv, evq, bltF, callF, quiet, p_move, p_assign, p_binOp, p_indexAddr, p_build, p_len, e_store, SY.get, SY.put, SY.ev, SY.mk, SY.nth, SY.lvl, SY.setl, wid, wids, dr, flat, pack, wrC, ar, bopInt, bop, fillA, plFs, nz, hd1, hdL, wrRow, exq_go, exq_t, ↓reduceIte, Nat.reduceLT, Nat.reduceEqDiff, Nat.reduceAdd, Nat.reduceSub, Bool.and_true, Bool.true_and, reduceCtorEq, true_and, List.map_cons, List.map_nil, Bool.and_self, List.cons_append, List.nil_append, Nat.zero_add, Nat.add_zero, Int.toNat_natCast, Int.reduceLE, decide_true, ktOf, and_self, ti3, ti22, ti29, regAt, body3, Try.f3, ↓exq_cd cd_c3_23, ↓exq_cd cd_c3_24, ↓exq_cd cd_c3_26, ↓exq_cd cd_c3_27, ↓exq_cd cd_c3_25, ↓exq_cd cd_c3_29, ↓exq_cd cd_c3_31, ↓exq_cd cd_c3_30, r3_26, r3_31, r3_30]
    repeat (refine And.intro (a := (_ = true)) (by first | (simp; done) | (simp; omega)) ?_)
    refine Rch.fit1 hC [0, 1, 2, 3] (tm' := tMg vs ws c0 d0 ns.length fr.length (i + 1)) (bl' := [some (.rows 3 vs), some (.rows 3 ws), some (.rows 3 (os.set i [.v (.int .i64 77), .v (.int .i64 0), .v (.int .i64 0)])), some (.rows 3 fr)]) rfl (by decide) rfl ⟨rfl, rfl, rfl, rfl, rfl, rfl, congrArg (fun x => AV.imr false 3 x c0) (hf.ren _).symm, congrArg (fun x => AV.imr false 3 x d0) (hg.ren _).symm, trivial⟩ (tMg_lv hf hg ..) ⟨⟨by rw [renRows hf]; exact rfl, lvRows hf ..⟩, ⟨by rw [renRows hg]; exact rfl, lvRows hg ..⟩, ⟨by rw [renRows (isM_flat (isM_set hoa i rfl))]; exact rfl, lvRows (isM_flat (isM_set hoa i rfl)) ..⟩, ⟨by rw [renRows hhf]; exact rfl, lvRows hhf ..⟩, trivial⟩ ?_
    exact ih ⟨(i + 1, _), by simp only; omega, by simp only [List.length_set]; exact ho, isM_set hoa i rfl⟩ (by simp only; omega)
  · clear ih
    refine ExQ_ok [] 2000 plsOk kMg_ok ?_
    (try rw [exh]); simp (maxSteps := 4000000) only [kMg, h, stops, inK, stepF, frsF, frF, itemF, codeF, condF, opsF, opsW, opF, stepS, wtS, sopF, pv, bltF, callF, p_move, p_assign, p_binOp, p_len, SY.get, SY.put, SY.ev, SY.mk, bopInt, bop, exitS, exq_go, exq_f, ↓reduceIte, Nat.reduceLT, Nat.reduceEqDiff, Nat.reduceAdd, true_and, Bool.and_self, Int.reduceLE, decide_true, decide_false, ktOf, ti3, ti22, regAt, body3, Try.f3, ↓exq_cd cd_c3_23, ↓exq_cd cd_c3_24, ↓exq_cd cd_c3_26, ↓exq_cd cd_c3_27, ↓exq_cd cd_c3_19, ↓exq_cd cd_c3_32, ↓exq_cd cd_c3_34, ↓exq_cd cd_c3_35, ↓exq_cd cd_c3_36, r3_26, r3_34]
    repeat (refine And.intro (a := (_ = true)) (by first | (simp; done) | (simp; omega)) ?_)
    refine Rch.loop plsOk ?_
    refine Rch.fit1 hC [0, 1, 3] (tm' := tMh vs ws c0 d0 fr.length (0)) (bl' := [some (.rows 3 vs), some (.rows 3 ws), some (.rows 3 fr)]) rfl (by decide) rfl ⟨rfl, rfl, rfl, rfl, rfl, congrArg (fun x => AV.imr false 3 x c0) (hf.ren _).symm, congrArg (fun x => AV.imr false 3 x d0) (hg.ren _).symm, trivial⟩ (tMh_lv hf hg ..) ⟨⟨by rw [renRows hf]; exact rfl, lvRows hf ..⟩, ⟨by rw [renRows hg]; exact rfl, lvRows hg ..⟩, ⟨by rw [renRows hhf]; exact rfl, lvRows hhf ..⟩, trivial⟩ ?_
    clear hho hoa ho h hi
    clear os i
    refine loop_ind plsOk (α := {a : Nat × List (List AV) // a.1 ≤ fr.length ∧ a.2.length = fr.length ∧ a.2.all isM = true}) (fun a => fr.length - a.1.1) (fun a => tMh vs ws c0 d0 fr.length a.1.1) (fun a => [some (.rows 3 vs), some (.rows 3 ws), some (.rows 3 a.1.2)]) (fun _ => IsT) ?_ ⟨(0, fr), Nat.zero_le _, rfl, hfa⟩
    rintro ⟨⟨i, os⟩, hi, ho, hoa⟩ ih
    simp only [tMh] at hi ho hoa ih ⊢
    have hho := isM_flat hoa
    by_cases h : (i : Int) < fr.length
    · refine ExQ_ok [] 2000 plsOk kMg_ok ?_
      (try rw [exh]); simp (maxSteps := 4000000) only [kMg, ho, h, stops, inK, stepF, frsF, frF, itemF, codeF, condF, opsF, opsW, opF, wtS, sopF, pv, evq, bltF, callF, quiet, p_move, p_assign, p_binOp, p_indexAddr, p_build, p_len, e_store, SY.get, SY.put, SY.ev, SY.mk, SY.nth, SY.lvl, SY.setl, wid, wids, dr, flat, pack, wrC, ar, bopInt, bop, fillA, plFs, nz, hd1, hdL, wrRow, exq_go, exq_t, ↓reduceIte, Nat.reduceLT, Nat.reduceEqDiff, Nat.reduceAdd, Nat.reduceSub, Bool.and_true, Bool.true_and, reduceCtorEq, true_and, List.map_cons, List.map_nil, Bool.and_self, List.cons_append, List.nil_append, Nat.zero_add, Nat.add_zero, Int.toNat_natCast, Int.reduceLE, decide_true, ktOf, and_self, ti3, ti22, ti29, regAt, body3, Try.f3, ↓exq_cd cd_c3_37, ↓exq_cd cd_c3_38, ↓exq_cd cd_c3_40, ↓exq_cd cd_c3_41, ↓exq_cd cd_c3_39, ↓exq_cd cd_c3_43, ↓exq_cd cd_c3_45, ↓exq_cd cd_c3_44, r3_40, r3_45, r3_44]
      repeat (refine And.intro (a := (_ = true)) (by first | (simp; done) | (simp; omega)) ?_)
      refine Rch.fit1 hC [0, 1, 2] (tm' := tMh vs ws c0 d0 fr.length (i + 1)) (bl' := [some (.rows 3 vs), some (.rows 3 ws), some (.rows 3 (os.set i [.v (.int .i64 78), .v (.int .i64 0), .v (.int .i64 0)]))]) rfl (by decide) rfl ⟨rfl, rfl, rfl, rfl, rfl, congrArg (fun x => AV.imr false 3 x c0) (hf.ren _).symm, congrArg (fun x => AV.imr false 3 x d0) (hg.ren _).symm, trivial⟩ (tMh_lv hf hg ..) ⟨⟨by rw [renRows hf]; exact rfl, lvRows hf ..⟩, ⟨by rw [renRows hg]; exact rfl, lvRows hg ..⟩, ⟨by rw [renRows (isM_flat (isM_set hoa i rfl))]; exact rfl, lvRows (isM_flat (isM_set hoa i rfl)) ..⟩, trivial⟩ ?_
      exact ih ⟨(i + 1, _), by simp only; omega, by simp only [List.length_set]; exact ho, isM_set hoa i rfl⟩ (by simp only; omega)
    · clear ih
      refine ExQ_ok [] 2000 plsOk kMg_ok ?_
      (try rw [exh]); simp (maxSteps := 4000000) only [kMg, sSam2, sSame, specT, hf.lv, hg.lv, h, hvm, hwm, hvt, hwt, hsv, hsw, List.drop_zero, List.nil_append, Bool.and_self, stops, stepF, frsF, frF, itemF, codeF, condF, opsF, opsW, opF, callO, stepS, wtS, gdst, gdl, sopF, pv, bltF, callF, calleeS, p_move, p_assign, p_pick, p_binOp, p_len, SY.get, SY.put, SY.ev, SY.lvl, bopInt, bop, pickAV, leaveS, retS, exitS, killL, isDefs, resS, resAll, tup1, exq_go, exq_t, exq_f, ↓reduceIte, Nat.reduceLT, Nat.reduceEqDiff, Nat.reduceAdd, Nat.reduceSub, Bool.and_true, Bool.true_and, Bool.not_true, reduceCtorEq, true_and, List.map_cons, List.map_nil, Bool.and_self, List.drop_zero, List.nil_append, List.append_nil, Nat.zero_add, decide_false, ktOf, conK, alive, lndL, lnd, lvB, tB_tt, okBls, shB, ren, ti3, ti22, regAt, fi3, body3, Try.f3, ↓exq_cd cd_c3_37, ↓exq_cd cd_c3_38, ↓exq_cd cd_c3_40, ↓exq_cd cd_c3_41, ↓exq_cd cd_c3_33, ↓exq_cd cd_c3_46, r3_40, r3_46]
      repeat (refine And.intro (a := (_ = true)) (by first | (simp; done) | (simp; omega)) ?_)
      exact rfl
def mrow (r : Int × Int × Int) : List AV := [.v (.int .i64 r.1), .v (.int .i64 r.2.1), .v (.int .i64 r.2.2)]
theorem rows_all (ms : List (Int × Int × Int)) : (ms.map mrow).all isM = true := by
  rw [List.all_map]
  exact List.all_eq_true.2 fun r _ => rfl
end Go.Proofs.Ytdanhpemheldlaa
