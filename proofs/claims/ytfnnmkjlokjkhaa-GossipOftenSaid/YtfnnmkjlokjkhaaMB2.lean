/- Members: the word of member.Over. -/
import Derived.Test.YtfnnmkjlokjkhaaMB1
set_option linter.unusedSimpArgs false
set_option linter.unusedVariables false
namespace Go.Proofs.Ytfnnmkjlokjkhaa
open Go Go.SY
attribute [local go_sem] Ex stops inK stepF frsF frF itemF codeF condF opsF opsW opF callO drF drO drW drC stepS wtS gdst gdl sopF pv evq orl bltF callF calleeS popF lopF bltP callP cls lvA rdl quiet p_move p_assign p_pick p_nilCheck
attribute [local go_sem] p_binOp p_unOp p_convert p_fieldAddr p_indexAddr p_index p_slice p_makeFunc p_extract p_field p_build p_len p_cap p_min p_max l_load l_convert l_slice zerR roomR appRR roomN appNN cpSrcN clN cpSrc cpR clR e_clear srcR dstR srcN dstN e_store e_alloc e_box e_buildSlice e_makeSlice e_append e_copy
attribute [local go_sem] e_convert SY.get SY.put SY.ev SY.mk SY.nth SY.lvl SY.setl SY.ini wid wids dr tk flat at1 pack parts rdC rdCt wrC wrCt ar bits2 bopInt bopStr bopEq isPtr isSl isBl eqPs eqLf bop pickAV bnd subO cutOf okMx fillA plFs nz
attribute [local go_sem] minI numsAt aOf hd1 hdL immL isArr ctOf rowsOf numsAV rep elCt wrRow killO chR enterS leaveS retS endS exitS gotoS finishS killL isDefs setPs roundS resS resAll tup1 conf0 AV.scal plk spz Ct.cell exq_zero exq_go exq_d exq_n lvCt lvE
attribute [local go_sem] exq_t exq_f exq_t0 exq_f0 List.toList_toArray Bool.and_true Bool.true_and Bool.not_false Bool.not_true List.contains_nil List.contains_cons Bool.or_false Bool.false_or Option.isSome_some Option.isSome_none Option.isNone_none Option.isNone_some true_and and_true Option.some.injEq Bool.false_eq_true List.map_cons List.map_nil List.all_cons List.all_nil Bool.and_self List.drop_succ_cons List.drop_zero List.length_cons List.length_nil List.cons_append List.nil_append Option.map_some Option.map_none List.append_nil Nat.zero_add Nat.add_zero Nat.sub_zero Nat.zero_mul Nat.mul_one
attribute [local go_sem] Int.toNat_natCast Int.toNat_zero Int.toNat_one Int.add_zero Int.sub_zero Int.cast_ofNat_Int decide_true decide_false Option.getD_some Option.getD_none ktB ktX ktOf conK extK ovlK rwz alive alive0 mks noMk lndL lnd lvB lvL lvR lvT tB_tt tB_ft tB_ff okBls shB ren renL renR renCt ne_eq not_false_eq_true not_true_eq_false and_false
attribute [local go_sem] false_and and_self ti0 ti1 ti2 ti3 ti4 ti5 ti6 ti7 ti8 ti9 ti10 ti11 ti12 ti13 ti14 ti15 ti16 ti17 ti18 ti19 ti20 ti21 ti22 ti23 ti24 ti25 ti26 ti27 ti28 ti29 ti30 ti31 ti32 ti33 ti34 ti35 ti36 ti37
attribute [local go_sem] ti38 ti39 ti40 ti41 ti42 ti43 ti44 ti45 ti46 ti47 ti48 ti49 ti50 ti51 ti52 ti53 ti54 ti55 ti56 ti57 ti58 ti59 ti60 ti61 ti62 ti63 ti64 ti65 ti66 ti67 ti68 ti69 ti70 ti71 ti72 ti73 ti74 ti75 ti76 ti77
attribute [local go_sem] ti78 ti79 ti80 ti81 ti82 ti83 ti84 ti85 ti86 ti87 ti88 ti89 ti90 ti91 ti92 ti93 ti94 ti95 ti96 ti97 ti98 ti99 ti100 ti101 ti102 regAt fi39 body39 Try.f39 fi40 body40 Try.f40 fi46 body46 Try.f46 fi26 body26 Try.f26 r26_1 r26_3
attribute [local go_sem] r39_1 r39_3 r40_1 r40_3 r46_1 r46_3 r46_7 r46_11 r46_19 r46_21 r46_25 r46_17 r46_26 plA3 pl3 plA4 pl4 plA6 pl6 plA11 pl11 plA12 pl12 plA13 pl13 plA14 pl14 plA15 pl15 plA24 pl24 plA30 pl30 plA31 pl31 plA32 pl32 plA33 pl33 plA40
attribute [local go_sem] pl40 plA41 pl41 plA42 pl42 plA52 pl52
def Over (a b c a' b' c' : Int) : Prop := MemOk a b c ∧ MemOk a' b' c' ∧ a = a' ∧ (c' < c ∨ c = c' ∧ b' < b)
instance (a b c a' b' c' : Int) : Decidable (Over a b c a' b' c') := by unfold Over; infer_instance
def sOver : List AV → Option (Bool × AV × Bls)
  | [.agg [.v (.int .i64 a), .v (.int .i64 b), .v (.int .i64 c)], .agg [.v (.int .i64 a'), .v (.int .i64 b'), .v (.int .i64 c')]] => some (true, .v (.bool (decide (Over a b c a' b' c'))), [])
  | _ => none
attribute [local go_sem] kM0 sCmp sChk
set_option maxRecDepth 100000 in
set_option maxHeartbeats 4000000 in
theorem over_run (C : Ctx) (a b c a' b' c' : Int) : Rch Try.prog (plOf pls) C (conf0 26 ⟨14, [.tmp 4], code26⟩ [.agg [.v (.int .i64 a), .v (.int .i64 b), .v (.int .i64 c)], .agg [.v (.int .i64 a'), .v (.int .i64 b'), .v (.int .i64 c')]] []) (Res (.v (.bool (decide (Over a b c a' b' c')))) []) := by
  refine ExQ_ok [] 2000 MB.plsOk kM0_ok ?_
  simp only [conf0]
  by_cases h1 : MemOk a b c
  case neg =>
    (try rw [exh]); simp (maxSteps := 4000000) only [chk_neg h1, go_sem, ↓bsplit_true, ↓bsplit_false, ↓reduceIte, Nat.reduceLT, Nat.reduceLeDiff, Nat.reduceEqDiff, Nat.reduceAdd, Nat.reduceSub, Nat.reduceMul, Nat.reduceBEq, Nat.reduceBNe, reduceCtorEq, Int.reduceEq, Int.reduceLT, Int.reduceLE, Int.reduceAdd, Int.reduceSub, Int.reduceMul, Int.reduceToNat, ↓xs26, ↓xs39, ↓xs40, ↓xs46]
    rw [decide_eq_false (fun h => h1 h.1)]
    exact Res.val _ _
  by_cases h2 : MemOk a' b' c'
  case neg =>
    (try rw [exh]); simp (maxSteps := 4000000) only [chk_pos h1, chk_neg h2, go_sem, ↓bsplit_true, ↓bsplit_false, ↓reduceIte, Nat.reduceLT, Nat.reduceLeDiff, Nat.reduceEqDiff, Nat.reduceAdd, Nat.reduceSub, Nat.reduceMul, Nat.reduceBEq, Nat.reduceBNe, reduceCtorEq, Int.reduceEq, Int.reduceLT, Int.reduceLE, Int.reduceAdd, Int.reduceSub, Int.reduceMul, Int.reduceToNat, ↓xs26, ↓xs39, ↓xs40, ↓xs46]
    rw [decide_eq_false (fun h => h2 h.2.1)]
    exact Res.val _ _
  by_cases h3 : a = a'
  case neg =>
    (try rw [exh]); simp (maxSteps := 4000000) only [chk_pos h1, chk_pos h2, h3, go_sem, ↓bsplit_true, ↓bsplit_false, ↓reduceIte, Nat.reduceLT, Nat.reduceLeDiff, Nat.reduceEqDiff, Nat.reduceAdd, Nat.reduceSub, Nat.reduceMul, Nat.reduceBEq, Nat.reduceBNe, reduceCtorEq, Int.reduceEq, Int.reduceLT, Int.reduceLE, Int.reduceAdd, Int.reduceSub, Int.reduceMul, Int.reduceToNat, ↓xs26, ↓xs39, ↓xs40, ↓xs46]
    rw [decide_eq_false (fun h => h3 h.2.2.1)]
    exact Res.val _ _
  subst h3
  rcases Int.lt_trichotomy c c' with h4 | rfl | h4
  · have hx : cmpI c c' = -1 := by rw [cmpI, if_pos h4]
    (try rw [exh]); simp (maxSteps := 4000000) only [chk_pos h1, chk_pos h2, two0, two1, hx, go_sem, ↓bsplit_true, ↓bsplit_false, ↓reduceIte, Nat.reduceLT, Nat.reduceLeDiff, Nat.reduceEqDiff, Nat.reduceAdd, Nat.reduceSub, Nat.reduceMul, Nat.reduceBEq, Nat.reduceBNe, reduceCtorEq, Int.reduceEq, Int.reduceLT, Int.reduceLE, Int.reduceAdd, Int.reduceSub, Int.reduceMul, Int.reduceToNat, ↓xs26, ↓xs39, ↓xs40, ↓xs46]
    refine Rch.loop MB.plsOk ?_
    refine ExQ_ok [] 2000 MB.plsOk kM0_ok ?_
    (try rw [exh]); simp (maxSteps := 4000000) only [chk_pos h1, chk_pos h2, two0, two1, hx, go_sem, ↓bsplit_true, ↓bsplit_false, ↓reduceIte, Nat.reduceLT, Nat.reduceLeDiff, Nat.reduceEqDiff, Nat.reduceAdd, Nat.reduceSub, Nat.reduceMul, Nat.reduceBEq, Nat.reduceBNe, reduceCtorEq, Int.reduceEq, Int.reduceLT, Int.reduceLE, Int.reduceAdd, Int.reduceSub, Int.reduceMul, Int.reduceToNat, ↓xs26, ↓xs39, ↓xs40, ↓xs46]
    rw [decide_eq_false (fun h => by have := h.2.2.2; omega)]
    exact Res.val _ _
  · have hx : cmpI c c = 0 := by rw [cmpI, if_neg (by omega), if_neg (by omega)]
    rcases Int.lt_trichotomy b b' with h5 | rfl | h5
    · have hy : cmpI b b' = -1 := by rw [cmpI, if_pos h5]
      (try rw [exh]); simp (maxSteps := 4000000) only [chk_pos h1, chk_pos h2, two0, two1, hx, hy, go_sem, ↓bsplit_true, ↓bsplit_false, ↓reduceIte, Nat.reduceLT, Nat.reduceLeDiff, Nat.reduceEqDiff, Nat.reduceAdd, Nat.reduceSub, Nat.reduceMul, Nat.reduceBEq, Nat.reduceBNe, reduceCtorEq, Int.reduceEq, Int.reduceLT, Int.reduceLE, Int.reduceAdd, Int.reduceSub, Int.reduceMul, Int.reduceToNat, ↓xs26, ↓xs39, ↓xs40, ↓xs46]
      refine Rch.loop MB.plsOk ?_
      refine ExQ_ok [] 2000 MB.plsOk kM0_ok ?_
      (try rw [exh]); simp (maxSteps := 4000000) only [chk_pos h1, chk_pos h2, two0, two1, hx, hy, go_sem, ↓bsplit_true, ↓bsplit_false, ↓reduceIte, Nat.reduceLT, Nat.reduceLeDiff, Nat.reduceEqDiff, Nat.reduceAdd, Nat.reduceSub, Nat.reduceMul, Nat.reduceBEq, Nat.reduceBNe, reduceCtorEq, Int.reduceEq, Int.reduceLT, Int.reduceLE, Int.reduceAdd, Int.reduceSub, Int.reduceMul, Int.reduceToNat, ↓xs26, ↓xs39, ↓xs40, ↓xs46]
      refine Rch.round MB.plsOk ?_
      refine ExQ_ok [] 2000 MB.plsOk kM0_ok ?_
      (try rw [exh]); simp (maxSteps := 4000000) only [chk_pos h1, chk_pos h2, two0, two1, hx, hy, go_sem, ↓bsplit_true, ↓bsplit_false, ↓reduceIte, Nat.reduceLT, Nat.reduceLeDiff, Nat.reduceEqDiff, Nat.reduceAdd, Nat.reduceSub, Nat.reduceMul, Nat.reduceBEq, Nat.reduceBNe, reduceCtorEq, Int.reduceEq, Int.reduceLT, Int.reduceLE, Int.reduceAdd, Int.reduceSub, Int.reduceMul, Int.reduceToNat, ↓xs26, ↓xs39, ↓xs40, ↓xs46]
      rw [decide_eq_false (fun h => by have := h.2.2.2; omega)]
      exact Res.val _ _
    · have hy : cmpI b b = 0 := by rw [cmpI, if_neg (by omega), if_neg (by omega)]
      (try rw [exh]); simp (maxSteps := 4000000) only [chk_pos h1, chk_pos h2, two0, two1, hx, hy, go_sem, ↓bsplit_true, ↓bsplit_false, ↓reduceIte, Nat.reduceLT, Nat.reduceLeDiff, Nat.reduceEqDiff, Nat.reduceAdd, Nat.reduceSub, Nat.reduceMul, Nat.reduceBEq, Nat.reduceBNe, reduceCtorEq, Int.reduceEq, Int.reduceLT, Int.reduceLE, Int.reduceAdd, Int.reduceSub, Int.reduceMul, Int.reduceToNat, ↓xs26, ↓xs39, ↓xs40, ↓xs46]
      refine Rch.loop MB.plsOk ?_
      refine ExQ_ok [] 2000 MB.plsOk kM0_ok ?_
      (try rw [exh]); simp (maxSteps := 4000000) only [chk_pos h1, chk_pos h2, two0, two1, hx, hy, go_sem, ↓bsplit_true, ↓bsplit_false, ↓reduceIte, Nat.reduceLT, Nat.reduceLeDiff, Nat.reduceEqDiff, Nat.reduceAdd, Nat.reduceSub, Nat.reduceMul, Nat.reduceBEq, Nat.reduceBNe, reduceCtorEq, Int.reduceEq, Int.reduceLT, Int.reduceLE, Int.reduceAdd, Int.reduceSub, Int.reduceMul, Int.reduceToNat, ↓xs26, ↓xs39, ↓xs40, ↓xs46]
      refine Rch.round MB.plsOk ?_
      refine ExQ_ok [] 2000 MB.plsOk kM0_ok ?_
      (try rw [exh]); simp (maxSteps := 4000000) only [chk_pos h1, chk_pos h2, two0, two1, hx, hy, go_sem, ↓bsplit_true, ↓bsplit_false, ↓reduceIte, Nat.reduceLT, Nat.reduceLeDiff, Nat.reduceEqDiff, Nat.reduceAdd, Nat.reduceSub, Nat.reduceMul, Nat.reduceBEq, Nat.reduceBNe, reduceCtorEq, Int.reduceEq, Int.reduceLT, Int.reduceLE, Int.reduceAdd, Int.reduceSub, Int.reduceMul, Int.reduceToNat, ↓xs26, ↓xs39, ↓xs40, ↓xs46]
      refine Rch.round MB.plsOk ?_
      refine ExQ_ok [] 2000 MB.plsOk kM0_ok ?_
      (try rw [exh]); simp (maxSteps := 4000000) only [chk_pos h1, chk_pos h2, two0, two1, hx, hy, go_sem, ↓bsplit_true, ↓bsplit_false, ↓reduceIte, Nat.reduceLT, Nat.reduceLeDiff, Nat.reduceEqDiff, Nat.reduceAdd, Nat.reduceSub, Nat.reduceMul, Nat.reduceBEq, Nat.reduceBNe, reduceCtorEq, Int.reduceEq, Int.reduceLT, Int.reduceLE, Int.reduceAdd, Int.reduceSub, Int.reduceMul, Int.reduceToNat, ↓xs26, ↓xs39, ↓xs40, ↓xs46]
      rw [decide_eq_false (fun h => by have := h.2.2.2; omega)]
      exact Res.val _ _
    · have hy : cmpI b b' = 1 := by rw [cmpI, if_neg (by omega), if_pos h5]
      (try rw [exh]); simp (maxSteps := 4000000) only [chk_pos h1, chk_pos h2, two0, two1, hx, hy, go_sem, ↓bsplit_true, ↓bsplit_false, ↓reduceIte, Nat.reduceLT, Nat.reduceLeDiff, Nat.reduceEqDiff, Nat.reduceAdd, Nat.reduceSub, Nat.reduceMul, Nat.reduceBEq, Nat.reduceBNe, reduceCtorEq, Int.reduceEq, Int.reduceLT, Int.reduceLE, Int.reduceAdd, Int.reduceSub, Int.reduceMul, Int.reduceToNat, ↓xs26, ↓xs39, ↓xs40, ↓xs46]
      refine Rch.loop MB.plsOk ?_
      refine ExQ_ok [] 2000 MB.plsOk kM0_ok ?_
      (try rw [exh]); simp (maxSteps := 4000000) only [chk_pos h1, chk_pos h2, two0, two1, hx, hy, go_sem, ↓bsplit_true, ↓bsplit_false, ↓reduceIte, Nat.reduceLT, Nat.reduceLeDiff, Nat.reduceEqDiff, Nat.reduceAdd, Nat.reduceSub, Nat.reduceMul, Nat.reduceBEq, Nat.reduceBNe, reduceCtorEq, Int.reduceEq, Int.reduceLT, Int.reduceLE, Int.reduceAdd, Int.reduceSub, Int.reduceMul, Int.reduceToNat, ↓xs26, ↓xs39, ↓xs40, ↓xs46]
      refine Rch.round MB.plsOk ?_
      refine ExQ_ok [] 2000 MB.plsOk kM0_ok ?_
      (try rw [exh]); simp (maxSteps := 4000000) only [chk_pos h1, chk_pos h2, two0, two1, hx, hy, go_sem, ↓bsplit_true, ↓bsplit_false, ↓reduceIte, Nat.reduceLT, Nat.reduceLeDiff, Nat.reduceEqDiff, Nat.reduceAdd, Nat.reduceSub, Nat.reduceMul, Nat.reduceBEq, Nat.reduceBNe, reduceCtorEq, Int.reduceEq, Int.reduceLT, Int.reduceLE, Int.reduceAdd, Int.reduceSub, Int.reduceMul, Int.reduceToNat, ↓xs26, ↓xs39, ↓xs40, ↓xs46]
      rw [decide_eq_true (show Over a b c a b' c from ⟨h1, h2, rfl, by omega⟩)]
      exact Res.val _ _
  · have hx : cmpI c c' = 1 := by rw [cmpI, if_neg (by omega), if_pos h4]
    (try rw [exh]); simp (maxSteps := 4000000) only [chk_pos h1, chk_pos h2, two0, two1, hx, go_sem, ↓bsplit_true, ↓bsplit_false, ↓reduceIte, Nat.reduceLT, Nat.reduceLeDiff, Nat.reduceEqDiff, Nat.reduceAdd, Nat.reduceSub, Nat.reduceMul, Nat.reduceBEq, Nat.reduceBNe, reduceCtorEq, Int.reduceEq, Int.reduceLT, Int.reduceLE, Int.reduceAdd, Int.reduceSub, Int.reduceMul, Int.reduceToNat, ↓xs26, ↓xs39, ↓xs40, ↓xs46]
    refine Rch.loop MB.plsOk ?_
    refine ExQ_ok [] 2000 MB.plsOk kM0_ok ?_
    (try rw [exh]); simp (maxSteps := 4000000) only [chk_pos h1, chk_pos h2, two0, two1, hx, go_sem, ↓bsplit_true, ↓bsplit_false, ↓reduceIte, Nat.reduceLT, Nat.reduceLeDiff, Nat.reduceEqDiff, Nat.reduceAdd, Nat.reduceSub, Nat.reduceMul, Nat.reduceBEq, Nat.reduceBNe, reduceCtorEq, Int.reduceEq, Int.reduceLT, Int.reduceLE, Int.reduceAdd, Int.reduceSub, Int.reduceMul, Int.reduceToNat, ↓xs26, ↓xs39, ↓xs40, ↓xs46]
    rw [decide_eq_true (show Over a b c a b' c' from ⟨h1, h2, rfl, by omega⟩)]
    exact Res.val _ _
theorem over_ok : SpecOk Try.prog (plOf pls) 26 sOver := by
  refine ⟨_, fi26, fun args r bl1 h => ?_⟩
  unfold sOver at h
  split at h
  · simp only [Option.some.injEq, Prod.mk.injEq, true_and] at h
    obtain ⟨rfl, rfl⟩ := h
    exact ⟨by simp, fun C _ _ => over_run C _ _ _ _ _ _⟩
  · cases h
end Go.Proofs.Ytfnnmkjlokjkhaa
