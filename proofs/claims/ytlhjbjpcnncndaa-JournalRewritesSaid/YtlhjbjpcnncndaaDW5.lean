/- Disks: the words of Fuse, Crash, Firm. -/
import Derived.Test.YtlhjbjpcnncndaaDW2
set_option linter.unusedSimpArgs false
set_option linter.unusedVariables false
namespace Go.Proofs.Ytlhjbjpcnncndaa
open Go Go.SY
namespace DW
attribute [local go_sem] Ex stops inK stepF frsF frF itemF codeF condF opsF opsW opF callO drF drO drW drC stepS wtS gdst gdl sopF pv evq orl bltF callF calleeS popF lopF bltP callP cls lvA rdl quiet p_move p_assign p_pick p_nilCheck
attribute [local go_sem] p_binOp p_unOp p_convert p_fieldAddr p_indexAddr p_index p_slice p_makeFunc p_extract p_field p_build p_len p_cap p_min p_max l_load l_convert l_slice zerR roomR appRR roomN appNN cpSrcN clN cpSrc cpR clR e_clear srcR dstR srcN dstN e_store e_alloc e_box e_buildSlice e_makeSlice e_append e_copy
attribute [local go_sem] e_convert SY.get SY.put SY.ev SY.mk SY.nth SY.lvl SY.setl SY.ini wid wids dr tk flat at1 pack parts rdC rdCt wrC wrCt ar bits2 bopInt bopStr bopEq isPtr isSl isBl eqPs eqLf bop pickAV bnd subO cutOf okMx fillA plFs nz
attribute [local go_sem] minI numsAt aOf hd1 hdL immL isArr ctOf rowsOf numsAV rep elCt wrRow killO chR enterS leaveS retS endS exitS gotoS finishS killL isDefs setPs roundS resS resAll tup1 conf0 AV.scal plk spz Ct.cell exq_zero exq_go exq_d exq_n lvCt lvE
attribute [local go_sem] exq_t exq_f exq_t0 exq_f0 List.toList_toArray Bool.and_true Bool.true_and Bool.not_false Bool.not_true List.contains_nil List.contains_cons Bool.or_false Bool.false_or Option.isSome_some Option.isSome_none Option.isNone_none Option.isNone_some true_and and_true Option.some.injEq Bool.false_eq_true List.map_cons List.map_nil List.all_cons List.all_nil Bool.and_self List.drop_succ_cons List.drop_zero List.length_cons List.length_nil List.cons_append List.nil_append Option.map_some Option.map_none List.append_nil Nat.zero_add Nat.add_zero Nat.sub_zero Nat.zero_mul Nat.mul_one
attribute [local go_sem] Int.toNat_natCast Int.toNat_zero Int.toNat_one Int.add_zero Int.sub_zero Int.cast_ofNat_Int decide_true decide_false Option.getD_some Option.getD_none ktB ktX ktOf conK extK ovlK rwz alive alive0 mks noMk lndL lnd lvB lvL lvR lvT tB_tt tB_ft tB_ff okBls shB ren renL renR renCt ne_eq not_false_eq_true not_true_eq_false and_false
attribute [local go_sem] false_and and_self ti0 ti1 ti2 ti3 ti4 ti5 ti6 ti7 ti8 ti9 ti10 ti11 ti12 ti13 ti14 ti15 ti16 ti17 ti18 ti19 ti20 ti21 ti22 ti23 ti24 ti25 ti26 ti27 ti28 ti29 ti30 ti31 ti32 ti33 ti34 ti35 ti36 ti37
attribute [local go_sem] ti38 ti39 ti40 ti41 ti42 ti43 ti44 ti45 ti46 ti47 ti48 ti49 ti50 ti51 ti52 ti53 ti54 ti55 ti56 ti57 ti58 ti59 ti60 ti61 ti62 ti63 ti64 ti65 ti66 ti67 ti68 ti69 ti70 ti71 ti72 ti73 ti74 ti75 ti76 ti77
attribute [local go_sem] ti78 ti79 ti80 ti81 ti82 ti83 ti84 ti85 ti86 ti87 ti88 ti89 ti90 ti91 ti92 ti93 ti94 ti95 ti96 ti97 ti98 ti99 ti100 ti101 ti102 ti103 ti104 regAt fi40 body40 Try.f40 fi41 body41 Try.f41 fi18 body18 Try.f18 fi22 body22 Try.f22
attribute [local go_sem] fi35 body35 Try.f35 r18_1 r18_6 r18_11 r18_12 r18_16 r18_17 r18_19 r22_1 r22_6 r22_11 r22_12 r22_16 r22_17 r22_19 r22_21 r22_23 r22_25 r35_1 r35_5 r35_9 r35_10 r40_1 r40_3 r41 plA8 pl8 plA10 pl10 plA11 pl11 plA17 pl17 plA22 pl22 plA25 pl25 plA31
attribute [local go_sem] pl31 plA37 pl37 plA45 pl45 plA53 pl53 plA55 pl55
set_option maxRecDepth 100000 in
set_option maxHeartbeats 4000000 in
theorem fuse_word (s : DS) (k : Int) (hs : numOk s = true) : Word Try.prog (plOf pls) 18 [.ptr 0 0 9 0, .v (.int .i64 k)] (layD s) (ObQ 1 (.v (.int .i64 (dFuse s k).1)) (layD (dFuse s k).2)) := by
  obtain ⟨l, f, x, xf, room, n, u, out⟩ := s
  simp only [numOk, Bool.and_eq_true, decide_eq_true_eq] at hs
  obtain ⟨hn0, hn1, hlx, hf0, hf1, hu⟩ := hs
  refine ⟨_, fi18, by simp, fun C hC hl => ?_⟩
  by_cases h1 : k < 0
  · have e : dFuse ⟨l, f, x, xf, room, n, u, out⟩ k = (2, ⟨l, f, x, xf, room, n, u, out⟩) := by simp [dFuse, h1]
    rw [e]
    cases u with
    | none =>
      refine ExQ_ok [] 2000 plsOk noK ?_
      simp only [conf0, layD, fuP, fuL]
      (try rw [exh]); simp (maxSteps := 4000000) only [h1, go_sem, ↓bsplit_true, ↓bsplit_false, ↓reduceIte, Nat.reduceLT, Nat.reduceLeDiff, Nat.reduceEqDiff, Nat.reduceAdd, Nat.reduceSub, Nat.reduceMul, Nat.reduceBEq, Nat.reduceBNe, reduceCtorEq, Int.reduceEq, Int.reduceLT, Int.reduceLE, Int.reduceAdd, Int.reduceSub, Int.reduceMul, Int.reduceToNat, ↓xs18, ↓xs22, ↓xs35, ↓xs40, ↓xs41]
      repeat (refine And.intro (a := (_ = true)) (by first | (simp; done) | (simp; omega)) ?_)
      exact ObQ.mk [0, 1, 2] (by decide) rfl rfl rfl ⟨rfl, rfl, rfl, trivial⟩
    | some k2 =>
      refine ExQ_ok [] 2000 plsOk noK ?_
      simp only [conf0, layD, fuP, fuL]
      (try rw [exh]); simp (maxSteps := 4000000) only [h1, go_sem, ↓bsplit_true, ↓bsplit_false, ↓reduceIte, Nat.reduceLT, Nat.reduceLeDiff, Nat.reduceEqDiff, Nat.reduceAdd, Nat.reduceSub, Nat.reduceMul, Nat.reduceBEq, Nat.reduceBNe, reduceCtorEq, Int.reduceEq, Int.reduceLT, Int.reduceLE, Int.reduceAdd, Int.reduceSub, Int.reduceMul, Int.reduceToNat, ↓xs18, ↓xs22, ↓xs35, ↓xs40, ↓xs41]
      repeat (refine And.intro (a := (_ = true)) (by first | (simp; done) | (simp; omega)) ?_)
      exact ObQ.mk [0, 1, 2, 3] (by decide) rfl rfl rfl ⟨rfl, rfl, rfl, rfl, trivial⟩
  have e : dFuse ⟨l, f, x, xf, room, n, u, out⟩ k = (0, ⟨l, f, x, xf, room, n, some k, out⟩) := by simp [dFuse, h1]
  rw [e]
  cases u with
  | none =>
    refine ExQ_ok [] 2000 plsOk noK ?_
    simp only [conf0, layD, fuP, fuL]
    (try rw [exh]); simp (maxSteps := 4000000) only [h1, go_sem, ↓bsplit_true, ↓bsplit_false, ↓reduceIte, Nat.reduceLT, Nat.reduceLeDiff, Nat.reduceEqDiff, Nat.reduceAdd, Nat.reduceSub, Nat.reduceMul, Nat.reduceBEq, Nat.reduceBNe, reduceCtorEq, Int.reduceEq, Int.reduceLT, Int.reduceLE, Int.reduceAdd, Int.reduceSub, Int.reduceMul, Int.reduceToNat, ↓xs18, ↓xs22, ↓xs35, ↓xs40, ↓xs41]
    repeat (refine And.intro (a := (_ = true)) (by first | (simp; done) | (simp; omega)) ?_)
    exact ObQ.mk [0, 1, 2, 3] (by decide) rfl rfl rfl ⟨rfl, rfl, rfl, rfl, trivial⟩
  | some k2 =>
    refine ExQ_ok [] 2000 plsOk noK ?_
    simp only [conf0, layD, fuP, fuL]
    (try rw [exh]); simp (maxSteps := 4000000) only [h1, go_sem, ↓bsplit_true, ↓bsplit_false, ↓reduceIte, Nat.reduceLT, Nat.reduceLeDiff, Nat.reduceEqDiff, Nat.reduceAdd, Nat.reduceSub, Nat.reduceMul, Nat.reduceBEq, Nat.reduceBNe, reduceCtorEq, Int.reduceEq, Int.reduceLT, Int.reduceLE, Int.reduceAdd, Int.reduceSub, Int.reduceMul, Int.reduceToNat, ↓xs18, ↓xs22, ↓xs35, ↓xs40, ↓xs41]
    repeat (refine And.intro (a := (_ = true)) (by first | (simp; done) | (simp; omega)) ?_)
    exact ObQ.mk [0, 1, 2, 4] (by decide) rfl rfl rfl ⟨rfl, rfl, rfl, rfl, trivial⟩
set_option maxRecDepth 100000 in
set_option maxHeartbeats 4000000 in
theorem crash_word (s : DS) (k : Int) (hs : numOk s = true) (hk2 : k ≤ 9223372036854775807) : Word Try.prog (plOf pls) 22 [.ptr 0 0 9 0, .v (.int .i64 k)] (layD s) (ObQ 1 (.v (.int .i64 (dCrash s k).1)) (layD (dCrash s k).2)) := by
  obtain ⟨l, f, x, xf, room, n, u, out⟩ := s
  simp only [numOk, Bool.and_eq_true, decide_eq_true_eq] at hs
  obtain ⟨hn0, hn1, hlx, hf0, hf1, hu⟩ := hs
  refine ⟨_, fi22, by simp, fun C hC hl => ?_⟩
  by_cases h1 : k < 0
  · have e : dCrash ⟨l, f, x, xf, room, n, u, out⟩ k = (2, ⟨l, f, x, xf, room, n, u, out⟩) := by simp [dCrash, h1]
    rw [e]
    cases u with
    | none =>
      refine ExQ_ok [] 2000 plsOk noK ?_
      simp only [conf0, layD, fuP, fuL]
      (try rw [exh]); simp (maxSteps := 4000000) only [h1, go_sem, ↓bsplit_true, ↓bsplit_false, ↓reduceIte, Nat.reduceLT, Nat.reduceLeDiff, Nat.reduceEqDiff, Nat.reduceAdd, Nat.reduceSub, Nat.reduceMul, Nat.reduceBEq, Nat.reduceBNe, reduceCtorEq, Int.reduceEq, Int.reduceLT, Int.reduceLE, Int.reduceAdd, Int.reduceSub, Int.reduceMul, Int.reduceToNat, ↓xs18, ↓xs22, ↓xs35, ↓xs40, ↓xs41]
      repeat (refine And.intro (a := (_ = true)) (by first | (simp; done) | (simp; omega)) ?_)
      exact ObQ.mk [0, 1, 2] (by decide) rfl rfl rfl ⟨rfl, rfl, rfl, trivial⟩
    | some k2 =>
      refine ExQ_ok [] 2000 plsOk noK ?_
      simp only [conf0, layD, fuP, fuL]
      (try rw [exh]); simp (maxSteps := 4000000) only [h1, go_sem, ↓bsplit_true, ↓bsplit_false, ↓reduceIte, Nat.reduceLT, Nat.reduceLeDiff, Nat.reduceEqDiff, Nat.reduceAdd, Nat.reduceSub, Nat.reduceMul, Nat.reduceBEq, Nat.reduceBNe, reduceCtorEq, Int.reduceEq, Int.reduceLT, Int.reduceLE, Int.reduceAdd, Int.reduceSub, Int.reduceMul, Int.reduceToNat, ↓xs18, ↓xs22, ↓xs35, ↓xs40, ↓xs41]
      repeat (refine And.intro (a := (_ = true)) (by first | (simp; done) | (simp; omega)) ?_)
      exact ObQ.mk [0, 1, 2, 3] (by decide) rfl rfl rfl ⟨rfl, rfl, rfl, rfl, trivial⟩
  obtain ⟨M, hM, hMl⟩ : ∃ M : Nat, f + min k (l.length - f) = M ∧ M ≤ l.length := ⟨(f + min k (l.length - f)).toNat, by omega, by omega⟩
  have hc : crN ⟨l, f, x, xf, room, n, u, out⟩ k = M := by simp only [crN, hM]; exact Int.toNat_natCast M
  have e : dCrash ⟨l, f, x, xf, room, n, u, out⟩ k = (0, ⟨l.take M, M, [], 0, room, n, none, false⟩) := by simp only [dCrash, h1, if_false, hc]
  rw [e]
  have hm1 : f + min k ((l.length : Int) - f) = M := hM
  have htl : (l.take M).length = M := by rw [List.length_take]; omega
  cases u with
  | none =>
    refine ExQ_ok [] 2000 plsOk noK ?_
    simp only [conf0, layD, fuP, fuL, htl]
    (try rw [exh]); simp (maxSteps := 4000000) only [h1, hm1, Int.toNat_natCast, go_sem, ↓bsplit_true, ↓bsplit_false, ↓reduceIte, Nat.reduceLT, Nat.reduceLeDiff, Nat.reduceEqDiff, Nat.reduceAdd, Nat.reduceSub, Nat.reduceMul, Nat.reduceBEq, Nat.reduceBNe, reduceCtorEq, Int.reduceEq, Int.reduceLT, Int.reduceLE, Int.reduceAdd, Int.reduceSub, Int.reduceMul, Int.reduceToNat, ↓xs18, ↓xs22, ↓xs35, ↓xs40, ↓xs41]
    repeat (refine And.intro (a := (_ = true)) (by first | (simp; done) | (simp; omega)) ?_)
    refine ObQ.wk (Wk.nilcell (l := 0) (pre := [_, _]) .u8 rfl 0 1) ?_; refine ObQ.wk (Wk.cut (l := 1) (n := M) rfl) ?_; exact ObQ.mk [0, 1, 3] (by decide) rfl rfl rfl ⟨rfl, rfl, rfl, trivial⟩
  | some k2 =>
    refine ExQ_ok [] 2000 plsOk noK ?_
    simp only [conf0, layD, fuP, fuL, htl]
    (try rw [exh]); simp (maxSteps := 4000000) only [h1, hm1, Int.toNat_natCast, go_sem, ↓bsplit_true, ↓bsplit_false, ↓reduceIte, Nat.reduceLT, Nat.reduceLeDiff, Nat.reduceEqDiff, Nat.reduceAdd, Nat.reduceSub, Nat.reduceMul, Nat.reduceBEq, Nat.reduceBNe, reduceCtorEq, Int.reduceEq, Int.reduceLT, Int.reduceLE, Int.reduceAdd, Int.reduceSub, Int.reduceMul, Int.reduceToNat, ↓xs18, ↓xs22, ↓xs35, ↓xs40, ↓xs41]
    repeat (refine And.intro (a := (_ = true)) (by first | (simp; done) | (simp; omega)) ?_)
    refine ObQ.wk (Wk.nilcell (l := 0) (pre := [_, _]) .u8 rfl 0 1) ?_; refine ObQ.wk (Wk.cut (l := 1) (n := M) rfl) ?_; exact ObQ.mk [0, 1, 4] (by decide) rfl rfl rfl ⟨rfl, rfl, rfl, trivial⟩
set_option maxRecDepth 100000 in
set_option maxHeartbeats 4000000 in
theorem firm_word (s : DS) (hs : numOk s = true) : Word Try.prog (plOf pls) 35 [.ptr 0 0 9 0] (layD s) (ObQ (layD s).length (.v (.int .i64 s.f)) (layD s ++ [])) := by
  obtain ⟨l, f, x, xf, room, n, u, out⟩ := s
  simp only [numOk, Bool.and_eq_true, decide_eq_true_eq] at hs
  obtain ⟨hn0, hn1, hlx, hf0, hf1, hu⟩ := hs
  refine ⟨_, fi35, by simp, fun C hC hl => ?_⟩
  cases u with
  | none =>
    refine ExQ_ok [] 2000 plsOk noK ?_
    simp only [conf0, layD, fuP, fuL]
    (try rw [exh]); simp (maxSteps := 4000000) only [go_sem, ↓bsplit_true, ↓bsplit_false, ↓reduceIte, Nat.reduceLT, Nat.reduceLeDiff, Nat.reduceEqDiff, Nat.reduceAdd, Nat.reduceSub, Nat.reduceMul, Nat.reduceBEq, Nat.reduceBNe, reduceCtorEq, Int.reduceEq, Int.reduceLT, Int.reduceLE, Int.reduceAdd, Int.reduceSub, Int.reduceMul, Int.reduceToNat, ↓xs18, ↓xs22, ↓xs35, ↓xs40, ↓xs41]
    repeat (refine And.intro (a := (_ = true)) (by first | (simp; done) | (simp; omega)) ?_)
    exact ObQ.mk [0, 1, 2] (by decide) rfl rfl rfl ⟨rfl, rfl, rfl, trivial⟩
  | some k =>
    refine ExQ_ok [] 2000 plsOk noK ?_
    simp only [conf0, layD, fuP, fuL]
    (try rw [exh]); simp (maxSteps := 4000000) only [go_sem, ↓bsplit_true, ↓bsplit_false, ↓reduceIte, Nat.reduceLT, Nat.reduceLeDiff, Nat.reduceEqDiff, Nat.reduceAdd, Nat.reduceSub, Nat.reduceMul, Nat.reduceBEq, Nat.reduceBNe, reduceCtorEq, Int.reduceEq, Int.reduceLT, Int.reduceLE, Int.reduceAdd, Int.reduceSub, Int.reduceMul, Int.reduceToNat, ↓xs18, ↓xs22, ↓xs35, ↓xs40, ↓xs41]
    repeat (refine And.intro (a := (_ = true)) (by first | (simp; done) | (simp; omega)) ?_)
    exact ObQ.mk [0, 1, 2, 3] (by decide) rfl rfl rfl ⟨rfl, rfl, rfl, rfl, trivial⟩
end DW
end Go.Proofs.Ytlhjbjpcnncndaa
