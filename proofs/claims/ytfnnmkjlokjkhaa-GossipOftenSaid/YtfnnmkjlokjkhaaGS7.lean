/- Gossip, the document's: the words of Check, Over, without; contracts. -/
import Derived.Test.YtfnnmkjlokjkhaaGS6
set_option linter.unusedSimpArgs false
set_option linter.unusedVariables false
namespace Go.Proofs.Ytfnnmkjlokjkhaa
open Go Go.SY
namespace GS
attribute [local go_sem] Ex stops inK stepF frsF frF itemF codeF condF opsF opsW opF callO drF drO drW drC stepS wtS gdst gdl sopF pv evq orl bltF callF calleeS popF lopF bltP callP cls lvA rdl quiet p_move p_assign p_pick p_nilCheck
attribute [local go_sem] p_binOp p_unOp p_convert p_fieldAddr p_indexAddr p_index p_slice p_makeFunc p_extract p_field p_build p_len p_cap p_min p_max l_load l_convert l_slice zerR roomR appRR roomN appNN cpSrcN clN cpSrc cpR clR e_clear srcR dstR srcN dstN e_store e_alloc e_box e_buildSlice e_makeSlice e_append e_copy
attribute [local go_sem] e_convert SY.get SY.put SY.ev SY.mk SY.nth SY.lvl SY.setl SY.ini wid wids dr tk flat at1 pack parts rdC rdCt wrC wrCt ar bits2 bopInt bopStr bopEq isPtr isSl isBl eqPs eqLf bop pickAV bnd subO cutOf okMx fillA plFs nz
attribute [local go_sem] minI numsAt aOf hd1 hdL immL isArr ctOf rowsOf numsAV rep elCt wrRow killO chR enterS leaveS retS endS exitS gotoS finishS killL isDefs setPs roundS resS resAll tup1 conf0 AV.scal plk spz Ct.cell exq_zero exq_go exq_d exq_n lvCt lvE
attribute [local go_sem] exq_t exq_f exq_t0 exq_f0 List.toList_toArray Bool.and_true Bool.true_and Bool.not_false Bool.not_true List.contains_nil List.contains_cons Bool.or_false Bool.false_or Option.isSome_some Option.isSome_none Option.isNone_none Option.isNone_some true_and and_true Option.some.injEq Bool.false_eq_true List.map_cons List.map_nil List.all_cons List.all_nil Bool.and_self List.drop_succ_cons List.drop_zero List.length_cons List.length_nil List.cons_append List.nil_append Option.map_some Option.map_none List.append_nil Nat.zero_add Nat.add_zero Nat.sub_zero Nat.zero_mul Nat.mul_one
attribute [local go_sem] Int.toNat_natCast Int.toNat_zero Int.toNat_one Int.add_zero Int.sub_zero Int.cast_ofNat_Int decide_true decide_false Option.getD_some Option.getD_none ktB ktX ktOf conK extK ovlK rwz alive alive0 mks noMk lndL lnd lvB lvL lvR lvT tB_tt tB_ft tB_ff okBls shB ren renL renR renCt ne_eq not_false_eq_true not_true_eq_false and_false
attribute [local go_sem] false_and and_self ti0 ti1 ti2 ti3 ti4 ti5 ti6 ti7 ti8 ti9 ti10 ti11 ti12 ti13 ti14 ti15 ti16 ti17 ti18 ti19 ti20 ti21 ti22 ti23 ti24 ti25 ti26 ti27 ti28 ti29 ti30 ti31 ti32 ti33 ti34 ti35 ti36 ti37
attribute [local go_sem] ti38 ti39 ti40 ti41 ti42 ti43 ti44 ti45 ti46 ti47 ti48 ti49 ti50 ti51 ti52 ti53 ti54 ti55 ti56 ti57 ti58 ti59 ti60 ti61 ti62 ti63 ti64 ti65 ti66 ti67 ti68 ti69 ti70 ti71 ti72 ti73 ti74 ti75 ti76 ti77
attribute [local go_sem] ti78 ti79 ti80 ti81 ti82 ti83 ti84 ti85 ti86 ti87 ti88 ti89 ti90 ti91 ti92 ti93 ti94 ti95 ti96 ti97 ti98 ti99 ti100 ti101 ti102 regAt fi33 body33 Try.f33 fi36 body36 Try.f36 fi37 body37 Try.f37 fi43 body43 Try.f43 r33_1 r33_2
attribute [local go_sem] r36_1 r36_5 r36_9 r36_10 r37_1 r37_3 r43_1 r43_3 plA3 pl3 plA4 pl4 plA6 pl6 plA11 pl11 plA12 pl12 plA13 pl13 plA14 pl14 plA15 pl15 plA24 pl24 plA30 pl30 plA31 pl31 plA32 pl32 plA33 pl33 plA40 pl40 plA41 pl41 plA42 pl42
attribute [local go_sem] plA52 pl52
set_option maxRecDepth 100000 in
set_option maxHeartbeats 4000000 in
theorem rchk_run (C : Ctx) (a b c : Int) : Rch Try.prog (plOf pls) C (conf0 36 ⟨31, [.tmp 2], code36⟩ [.agg [.v (.int .i64 a), .v (.int .i64 b), .v (.int .i64 c)]] []) (Res (.v (.int .i64 (chk a b c))) []) := by
  refine ExQ_ok [] 2000 plsOk noK ?_
  simp only [conf0]
  by_cases h1 : a < 1
  · (try rw [exh]); simp (maxSteps := 4000000) only [h1, go_sem, ↓bsplit_true, ↓bsplit_false, ↓reduceIte, Nat.reduceLT, Nat.reduceLeDiff, Nat.reduceEqDiff, Nat.reduceAdd, Nat.reduceSub, Nat.reduceMul, Nat.reduceBEq, Nat.reduceBNe, reduceCtorEq, Int.reduceEq, Int.reduceLT, Int.reduceLE, Int.reduceAdd, Int.reduceSub, Int.reduceMul, Int.reduceToNat, ↓xs33, ↓xs36, ↓xs37, ↓xs43]
    rw [chk_neg (fun h => by have := h.1; omega)]
    exact Res.val _ _
  by_cases h2 : 64 < a
  · (try rw [exh]); simp (maxSteps := 4000000) only [h1, h2, go_sem, ↓bsplit_true, ↓bsplit_false, ↓reduceIte, Nat.reduceLT, Nat.reduceLeDiff, Nat.reduceEqDiff, Nat.reduceAdd, Nat.reduceSub, Nat.reduceMul, Nat.reduceBEq, Nat.reduceBNe, reduceCtorEq, Int.reduceEq, Int.reduceLT, Int.reduceLE, Int.reduceAdd, Int.reduceSub, Int.reduceMul, Int.reduceToNat, ↓xs33, ↓xs36, ↓xs37, ↓xs43]
    rw [chk_neg (fun h => by have := h.2.1; omega)]
    exact Res.val _ _
  by_cases h3 : b < 1
  · (try rw [exh]); simp (maxSteps := 4000000) only [h1, h2, h3, go_sem, ↓bsplit_true, ↓bsplit_false, ↓reduceIte, Nat.reduceLT, Nat.reduceLeDiff, Nat.reduceEqDiff, Nat.reduceAdd, Nat.reduceSub, Nat.reduceMul, Nat.reduceBEq, Nat.reduceBNe, reduceCtorEq, Int.reduceEq, Int.reduceLT, Int.reduceLE, Int.reduceAdd, Int.reduceSub, Int.reduceMul, Int.reduceToNat, ↓xs33, ↓xs36, ↓xs37, ↓xs43]
    rw [chk_neg (fun h => by have := h.2.2.1; omega)]
    exact Res.val _ _
  by_cases h4 : 4 < b
  · (try rw [exh]); simp (maxSteps := 4000000) only [h1, h2, h3, h4, go_sem, ↓bsplit_true, ↓bsplit_false, ↓reduceIte, Nat.reduceLT, Nat.reduceLeDiff, Nat.reduceEqDiff, Nat.reduceAdd, Nat.reduceSub, Nat.reduceMul, Nat.reduceBEq, Nat.reduceBNe, reduceCtorEq, Int.reduceEq, Int.reduceLT, Int.reduceLE, Int.reduceAdd, Int.reduceSub, Int.reduceMul, Int.reduceToNat, ↓xs33, ↓xs36, ↓xs37, ↓xs43]
    rw [chk_neg (fun h => by have := h.2.2.2.1; omega)]
    exact Res.val _ _
  by_cases h5 : c < 0
  · (try rw [exh]); simp (maxSteps := 4000000) only [h1, h2, h3, h4, h5, go_sem, ↓bsplit_true, ↓bsplit_false, ↓reduceIte, Nat.reduceLT, Nat.reduceLeDiff, Nat.reduceEqDiff, Nat.reduceAdd, Nat.reduceSub, Nat.reduceMul, Nat.reduceBEq, Nat.reduceBNe, reduceCtorEq, Int.reduceEq, Int.reduceLT, Int.reduceLE, Int.reduceAdd, Int.reduceSub, Int.reduceMul, Int.reduceToNat, ↓xs33, ↓xs36, ↓xs37, ↓xs43]
    rw [chk_neg (fun h => by have := h.2.2.2.2.1; omega)]
    exact Res.val _ _
  by_cases h6 : 2147483647 < c
  · (try rw [exh]); simp (maxSteps := 4000000) only [h1, h2, h3, h4, h5, h6, go_sem, ↓bsplit_true, ↓bsplit_false, ↓reduceIte, Nat.reduceLT, Nat.reduceLeDiff, Nat.reduceEqDiff, Nat.reduceAdd, Nat.reduceSub, Nat.reduceMul, Nat.reduceBEq, Nat.reduceBNe, reduceCtorEq, Int.reduceEq, Int.reduceLT, Int.reduceLE, Int.reduceAdd, Int.reduceSub, Int.reduceMul, Int.reduceToNat, ↓xs33, ↓xs36, ↓xs37, ↓xs43]
    rw [chk_neg (fun h => by have := h.2.2.2.2.2; omega)]
    exact Res.val _ _
  (try rw [exh]); simp (maxSteps := 4000000) only [h1, h2, h3, h4, h5, h6, go_sem, ↓bsplit_true, ↓bsplit_false, ↓reduceIte, Nat.reduceLT, Nat.reduceLeDiff, Nat.reduceEqDiff, Nat.reduceAdd, Nat.reduceSub, Nat.reduceMul, Nat.reduceBEq, Nat.reduceBNe, reduceCtorEq, Int.reduceEq, Int.reduceLT, Int.reduceLE, Int.reduceAdd, Int.reduceSub, Int.reduceMul, Int.reduceToNat, ↓xs33, ↓xs36, ↓xs37, ↓xs43]
  rw [chk_pos ⟨by omega, by omega, by omega, by omega, by omega, by omega⟩]
  exact Res.val _ _
theorem rchk_ok : SpecOk Try.prog (plOf pls) 36 sChk := by
  refine ⟨_, fi36, fun args r bl1 h => ?_⟩
  unfold sChk at h
  split at h
  · simp only [Option.some.injEq, Prod.mk.injEq, true_and] at h
    obtain ⟨rfl, rfl⟩ := h
    exact ⟨by simp, fun C _ _ => rchk_run C _ _ _⟩
  · cases h
def kR0 : KT := ktOf [(36, sChk)]
theorem kR0_ok : KOk Try.prog (plOf pls) kR0 := ktOf_ok plsOk fun x hx => by
  simp only [List.mem_cons, List.not_mem_nil, or_false] at hx
  subst hx
  exact rchk_ok
set_option maxRecDepth 100000 in
set_option maxHeartbeats 4000000 in
theorem rover_run (C : Ctx) (a b c a' b' c' : Int) : Rch Try.prog (plOf pls) C (conf0 37 ⟨29, [.tmp 4], code37⟩ [.agg [.v (.int .i64 a), .v (.int .i64 b), .v (.int .i64 c)], .agg [.v (.int .i64 a'), .v (.int .i64 b'), .v (.int .i64 c')]] []) (Res (.v (.bool (decide (Over a b c a' b' c')))) []) := by
  refine ExQ_ok [] 2000 plsOk kR0_ok ?_
  simp only [conf0]
  by_cases h1 : MemOk a b c
  case neg =>
    (try rw [exh]); simp (maxSteps := 4000000) only [kR0, ktOf, conK, sChk, chk_neg h1, go_sem, ↓bsplit_true, ↓bsplit_false, ↓reduceIte, Nat.reduceLT, Nat.reduceLeDiff, Nat.reduceEqDiff, Nat.reduceAdd, Nat.reduceSub, Nat.reduceMul, Nat.reduceBEq, Nat.reduceBNe, reduceCtorEq, Int.reduceEq, Int.reduceLT, Int.reduceLE, Int.reduceAdd, Int.reduceSub, Int.reduceMul, Int.reduceToNat, ↓xs33, ↓xs36, ↓xs37, ↓xs43]
    rw [decide_eq_false (fun h => h1 h.1)]
    exact Res.val _ _
  by_cases h2 : MemOk a' b' c'
  case neg =>
    (try rw [exh]); simp (maxSteps := 4000000) only [kR0, ktOf, conK, sChk, chk_pos h1, chk_neg h2, go_sem, ↓bsplit_true, ↓bsplit_false, ↓reduceIte, Nat.reduceLT, Nat.reduceLeDiff, Nat.reduceEqDiff, Nat.reduceAdd, Nat.reduceSub, Nat.reduceMul, Nat.reduceBEq, Nat.reduceBNe, reduceCtorEq, Int.reduceEq, Int.reduceLT, Int.reduceLE, Int.reduceAdd, Int.reduceSub, Int.reduceMul, Int.reduceToNat, ↓xs33, ↓xs36, ↓xs37, ↓xs43]
    rw [decide_eq_false (fun h => h2 h.2.1)]
    exact Res.val _ _
  by_cases h3 : a = a'
  case neg =>
    have g3 : decide (a = a') = false := decide_eq_false h3
    (try rw [exh]); simp (maxSteps := 4000000) only [kR0, ktOf, conK, sChk, chk_pos h1, chk_pos h2, g3, go_sem, ↓bsplit_true, ↓bsplit_false, ↓reduceIte, Nat.reduceLT, Nat.reduceLeDiff, Nat.reduceEqDiff, Nat.reduceAdd, Nat.reduceSub, Nat.reduceMul, Nat.reduceBEq, Nat.reduceBNe, reduceCtorEq, Int.reduceEq, Int.reduceLT, Int.reduceLE, Int.reduceAdd, Int.reduceSub, Int.reduceMul, Int.reduceToNat, ↓xs33, ↓xs36, ↓xs37, ↓xs43]
    rw [decide_eq_false (fun h => h3 h.2.2.1)]
    exact Res.val _ _
  have g3 : decide (a = a') = true := decide_eq_true h3
  by_cases h4 : c' < c
  · (try rw [exh]); simp (maxSteps := 4000000) only [kR0, ktOf, conK, sChk, chk_pos h1, chk_pos h2, g3, h4, go_sem, ↓bsplit_true, ↓bsplit_false, ↓reduceIte, Nat.reduceLT, Nat.reduceLeDiff, Nat.reduceEqDiff, Nat.reduceAdd, Nat.reduceSub, Nat.reduceMul, Nat.reduceBEq, Nat.reduceBNe, reduceCtorEq, Int.reduceEq, Int.reduceLT, Int.reduceLE, Int.reduceAdd, Int.reduceSub, Int.reduceMul, Int.reduceToNat, ↓xs33, ↓xs36, ↓xs37, ↓xs43]
    rw [decide_eq_true (show Over a b c a' b' c' from ⟨h1, h2, h3, by omega⟩)]
    exact Res.val _ _
  by_cases h5 : c = c'
  · have g5 : decide (c = c') = true := decide_eq_true h5
    by_cases h6 : b' < b
    · (try rw [exh]); simp (maxSteps := 4000000) only [kR0, ktOf, conK, sChk, chk_pos h1, chk_pos h2, g3, h4, g5, h6, go_sem, ↓bsplit_true, ↓bsplit_false, ↓reduceIte, Nat.reduceLT, Nat.reduceLeDiff, Nat.reduceEqDiff, Nat.reduceAdd, Nat.reduceSub, Nat.reduceMul, Nat.reduceBEq, Nat.reduceBNe, reduceCtorEq, Int.reduceEq, Int.reduceLT, Int.reduceLE, Int.reduceAdd, Int.reduceSub, Int.reduceMul, Int.reduceToNat, ↓xs33, ↓xs36, ↓xs37, ↓xs43]
      rw [decide_eq_true (show Over a b c a' b' c' from ⟨h1, h2, h3, by omega⟩)]
      exact Res.val _ _
    · (try rw [exh]); simp (maxSteps := 4000000) only [kR0, ktOf, conK, sChk, chk_pos h1, chk_pos h2, g3, h4, g5, h6, go_sem, ↓bsplit_true, ↓bsplit_false, ↓reduceIte, Nat.reduceLT, Nat.reduceLeDiff, Nat.reduceEqDiff, Nat.reduceAdd, Nat.reduceSub, Nat.reduceMul, Nat.reduceBEq, Nat.reduceBNe, reduceCtorEq, Int.reduceEq, Int.reduceLT, Int.reduceLE, Int.reduceAdd, Int.reduceSub, Int.reduceMul, Int.reduceToNat, ↓xs33, ↓xs36, ↓xs37, ↓xs43]
      rw [decide_eq_false (fun h => by have := h.2.2.2; omega)]
      exact Res.val _ _
  · have g5 : decide (c = c') = false := decide_eq_false h5
    (try rw [exh]); simp (maxSteps := 4000000) only [kR0, ktOf, conK, sChk, chk_pos h1, chk_pos h2, g3, h4, g5, go_sem, ↓bsplit_true, ↓bsplit_false, ↓reduceIte, Nat.reduceLT, Nat.reduceLeDiff, Nat.reduceEqDiff, Nat.reduceAdd, Nat.reduceSub, Nat.reduceMul, Nat.reduceBEq, Nat.reduceBNe, reduceCtorEq, Int.reduceEq, Int.reduceLT, Int.reduceLE, Int.reduceAdd, Int.reduceSub, Int.reduceMul, Int.reduceToNat, ↓xs33, ↓xs36, ↓xs37, ↓xs43]
    rw [decide_eq_false (fun h => by have := h.2.2.2; omega)]
    exact Res.val _ _
theorem rover_ok : SpecOk Try.prog (plOf pls) 37 sOver := by
  refine ⟨_, fi37, fun args r bl1 h => ?_⟩
  unfold sOver at h
  split at h
  · simp only [Option.some.injEq, Prod.mk.injEq, true_and] at h
    obtain ⟨rfl, rfl⟩ := h
    exact ⟨by simp, fun C _ _ => rover_run C _ _ _ _ _ _⟩
  · cases h
theorem eraM {P : List Tl} {i : Nat} : (P.map rowM).take i ++ (P.map rowM).drop (i + 1) = (P.eraseIdx i).map rowM := by
  rw [List.eraseIdx_eq_take_drop_succ, List.map_append, List.map_take, List.map_drop]
theorem eraN {P : List Tl} {i : Nat} : (P.map (·.told)).take i ++ (P.map (·.told)).drop (i + 1) = (P.eraseIdx i).map (·.told) := by
  rw [List.eraseIdx_eq_take_drop_succ, List.map_append, List.map_take, List.map_drop]
set_option maxRecDepth 100000 in
set_option maxHeartbeats 4000000 in
theorem wo_word (n : Int) (P : List Tl) (i : Nat) (hi : i < P.length) (hp : P.length < 100000) : Word Try.prog (plOf pls) 33 [.ptr 0 0 3 0, .v (.int .i64 i)] (layR n P) (ObQ 1 (.tup []) (layR n (P.eraseIdx i))) := by
  refine ⟨_, fi33, by simp, fun C hb hC => ?_⟩
  have hC : C.β.b.length = 3 := hC
  have hf := flatM P
  have hlt : (P.map (·.told)).length = P.length := List.length_map _
  have hlp : (P.map rowM).length = P.length := List.length_map _
  have hi1 : ((i : Int) + 1).toNat = i + 1 := by omega
  have d1 : ((P.map rowM).drop (i + 1)).take (P.length - (i + 1)) = (P.map rowM).drop (i + 1) := List.take_of_length_le (by rw [List.length_drop, hlp]; exact Nat.le_refl _)
  have d2 : ((P.map (·.told)).drop (i + 1)).take (P.length - (i + 1)) = (P.map (·.told)).drop (i + 1) := List.take_of_length_le (by rw [List.length_drop, hlt]; exact Nat.le_refl _)
  have e1 := eraM (P := P) (i := i)
  have e2 := eraN (P := P) (i := i)
  have hg := flatM (P.eraseIdx i)
  have l1 : ((P.eraseIdx i).map rowM).length = (P.eraseIdx i).length := List.length_map _
  have l2 : ((P.eraseIdx i).map (·.told)).length = (P.eraseIdx i).length := List.length_map _
  have hel : (P.eraseIdx i).length ≤ P.length := List.length_eraseIdx_le ..
  generalize P.eraseIdx i = P' at *
  refine ExQ_ok [] 2000 plsOk noK ?_
  simp only [conf0, layR]
  (try rw [exh]); simp (maxSteps := 4000000) only [hlt, hlp, hi1, List.take_length, d1, d2, e1, e2, l1, l2, go_sem, ↓bsplit_true, ↓bsplit_false, ↓reduceIte, Nat.reduceLT, Nat.reduceLeDiff, Nat.reduceEqDiff, Nat.reduceAdd, Nat.reduceSub, Nat.reduceMul, Nat.reduceBEq, Nat.reduceBNe, reduceCtorEq, Int.reduceEq, Int.reduceLT, Int.reduceLE, Int.reduceAdd, Int.reduceSub, Int.reduceMul, Int.reduceToNat, ↓xs33, ↓xs36, ↓xs37, ↓xs43]
  repeat (refine And.intro (a := (_ = true)) (by first | (simp; done) | (simp; omega)) ?_)
  exact ObQ.mk [0, 5, 8] (by decide) rfl rfl rfl ⟨rfl, by simp only [renCt, hg.ren]; exact rfl, rfl, trivial⟩
end GS
end Go.Proofs.Ytfnnmkjlokjkhaa
