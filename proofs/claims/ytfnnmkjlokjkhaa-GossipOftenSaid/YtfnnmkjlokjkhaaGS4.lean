/- Gossip: the word of Add. -/
import Derived.Test.YtfnnmkjlokjkhaaGS3
set_option linter.unusedSimpArgs false
set_option linter.unusedVariables false
namespace Go.Proofs.Ytfnnmkjlokjkhaa
open Go Go.SY
namespace GS
attribute [local go_sem] Ex stops inK stepF frsF frF itemF codeF condF opsF opsW opF callO drF drO drW drC stepS wtS gdst gdl sopF pv evq orl bltF callF calleeS popF lopF bltP callP cls lvA rdl quiet p_move p_assign p_pick p_nilCheck
attribute [local go_sem] p_binOp p_unOp p_convert p_fieldAddr p_indexAddr p_index p_slice p_makeFunc p_extract p_field p_build p_len p_cap p_min p_max l_load l_convert l_slice zerR roomR appRR roomN appNN cpSrcN clN cpSrc cpR clR e_clear srcR dstR srcN dstN e_store e_alloc e_box e_buildSlice e_makeSlice e_append e_copy
attribute [local go_sem] e_convert SY.get SY.put SY.ev SY.mk SY.nth SY.lvl SY.setl SY.ini wid wids dr tk flat at1 pack parts rdC rdCt wrC wrCt ar bits2 bopInt bopStr bopEq isPtr isSl isBl eqPs eqLf bop pickAV bnd subO cutOf okMx fillA plFs nz
attribute [local go_sem] minI numsAt aOf hd1 hdL immL isArr ctOf rowsOf numsAV rep elCt wrRow killO chR enterS leaveS retS endS exitS gotoS finishS killL isDefs setPs roundS resS resAll tup1 conf0 AV.scal plk spz Ct.cell exq_zero exq_go exq_d exq_n lvCt lvE
attribute [local go_sem] exq_t exq_f exq_t0 exq_f0 List.toList_toArray Bool.and_true Bool.true_and Bool.not_false Bool.not_true List.contains_nil List.contains_cons Bool.or_false Bool.false_or Option.isSome_some Option.isSome_none Option.isNone_none Option.isNone_some true_and and_true Option.some.injEq Bool.false_eq_true List.map_cons List.map_nil List.all_cons List.all_nil Bool.and_self List.drop_succ_cons List.drop_zero List.length_cons List.length_nil List.cons_append List.nil_append Option.map_some Option.map_none List.append_nil Nat.zero_add Nat.add_zero Nat.sub_zero Nat.zero_mul Nat.mul_one
attribute [local go_sem] Int.toNat_natCast Int.toNat_zero Int.toNat_one Int.add_zero Int.sub_zero Int.cast_ofNat_Int decide_true decide_false Option.getD_some Option.getD_none ktB ktX ktOf conK extK ovlK rwz alive alive0 mks noMk lndL lnd lvB lvL lvR lvT tB_tt tB_ft tB_ff okBls shB ren renL renR renCt ne_eq not_false_eq_true not_true_eq_false and_false
attribute [local go_sem] false_and and_self ti0 ti1 ti2 ti3 ti4 ti5 ti6 ti7 ti8 ti9 ti10 ti11 ti12 ti13 ti14 ti15 ti16 ti17 ti18 ti19 ti20 ti21 ti22 ti23 ti24 ti25 ti26 ti27 ti28 ti29 ti30 ti31 ti32 ti33 ti34 ti35 ti36 ti37
attribute [local go_sem] ti38 ti39 ti40 ti41 ti42 ti43 ti44 ti45 ti46 ti47 ti48 ti49 ti50 ti51 ti52 ti53 ti54 ti55 ti56 ti57 ti58 ti59 ti60 ti61 ti62 ti63 ti64 ti65 ti66 ti67 ti68 ti69 ti70 ti71 ti72 ti73 ti74 ti75 ti76 ti77
attribute [local go_sem] ti78 ti79 ti80 ti81 ti82 ti83 ti84 ti85 ti86 ti87 ti88 ti89 ti90 ti91 ti92 ti93 ti94 ti95 ti96 ti97 ti98 ti99 ti100 ti101 ti102 regAt fi28 body28 Try.f28 fi14 body14 Try.f14 r14_1 r14_6 r14_11 r14_12 r14_16 r14_17 r14_21 r14_23
attribute [local go_sem] r14_29 r14_33 r14_28 r14_34 r14_36 r28_1 r28_3 plA3 pl3 plA4 pl4 plA6 pl6 plA11 pl11 plA12 pl12 plA13 pl13 plA14 pl14 plA15 pl15 plA24 pl24 plA30 pl30 plA31 pl31 plA32 pl32 plA33 pl33 plA40 pl40 plA41 pl41 plA42 pl42 plA52
attribute [local go_sem] pl52
def ov (w y : Tl) : Bool := decide (Over w.id w.st w.inc y.id y.st y.inc)
def mayB (n a b c : Int) : Bool := decide (MemOk a b c) && decide (a ≤ n)
def addV (n a b c : Int) (q : List Tl) : AV := if mayB n a b c = true then .tup [.v (.bool (addQ ov ⟨a, b, c, 0⟩ q).1), .v (.int .i64 0)] else .tup [.v (.bool false), .v (.int .i64 2)]
def addL (n a b c : Int) (q : List Tl) : List Tl := if mayB n a b c = true then (addQ ov ⟨a, b, c, 0⟩ q).2 else q
theorem era_rows {q : List Tl} {k : Nat} : (q.map rowT).take k ++ (q.map rowT).drop (k + 1) = (q.eraseIdx k).map rowT := by
  rw [List.eraseIdx_eq_take_drop_succ, List.map_append, List.map_take, List.map_drop]
attribute [local go_sem] kG0 ktO ktW kN0 ktOf conK sChk sOver specT sLen readK osIx osPut findG layG sClT delK objK objB updT mapB rhoN nm mrk List.append_nil List.nodup_cons List.mem_cons List.not_mem_nil List.take_succ_cons List.take_zero List.getD_cons_zero List.getD_cons_succ btt bff not_true_eq_false not_false_eq_true List.drop_zero
set_option maxRecDepth 100000 in
set_option maxHeartbeats 4000000 in
theorem add_word (n : Int) (q : List Tl) (a b c : Int) (hn : 1 ≤ n) (hq : q.length < 50000) : Word Try.prog (plOf pls) 14 [.ptr 0 0 3 0, .agg [.v (.int .i64 a), .v (.int .i64 b), .v (.int .i64 c)]] (layG n q) (ObQ 1 (addV n a b c q) (layG n (addL n a b c q))) := by
  refine ⟨_, fi14, by simp, fun C hb hC => ?_⟩
  have hf := flatT q
  have hlr : (q.map rowT).length = q.length := List.length_map _
  have tm := telMap q
  have ta := isT_all q
  have n0 : ¬ n = 0 := by omega
  by_cases h1 : MemOk a b c
  case neg =>
    have e : mayB n a b c = false := by simp [mayB, h1]
    have e1 : addV n a b c q = .tup [.v (.bool false), .v (.int .i64 2)] := by rw [addV, e]; rfl
    have e2 : addL n a b c q = q := by rw [addL, e]; rfl
    rw [e1, e2]
    refine ExQ_ok [] 2000 plsOk kG0_ok ?_
    simp only [conf0, layG]
    (try rw [exh]); simp (maxSteps := 4000000) only [n0, tm, ta, hlr, chk_neg h1, go_sem, ↓bsplit_true, ↓bsplit_false, ↓reduceIte, Nat.reduceLT, Nat.reduceLeDiff, Nat.reduceEqDiff, Nat.reduceAdd, Nat.reduceSub, Nat.reduceMul, Nat.reduceBEq, Nat.reduceBNe, reduceCtorEq, Int.reduceEq, Int.reduceLT, Int.reduceLE, Int.reduceAdd, Int.reduceSub, Int.reduceMul, Int.reduceToNat, ↓xs14, ↓xs28]
    repeat (refine And.intro (a := (_ = true)) (by first | (simp; done) | (simp; omega)) ?_)
    exact ObQ.mk [0, 1] (by decide) rfl rfl rfl ⟨rfl, by simp only [renCt, hf.ren]; exact rfl, trivial⟩
  by_cases h2 : n < a
  · have e : mayB n a b c = false := by simp [mayB]; omega
    have e1 : addV n a b c q = .tup [.v (.bool false), .v (.int .i64 2)] := by rw [addV, e]; rfl
    have e2 : addL n a b c q = q := by rw [addL, e]; rfl
    rw [e1, e2]
    refine ExQ_ok [] 2000 plsOk kG0_ok ?_
    simp only [conf0, layG]
    (try rw [exh]); simp (maxSteps := 4000000) only [n0, tm, ta, hlr, chk_pos h1, h2, go_sem, ↓bsplit_true, ↓bsplit_false, ↓reduceIte, Nat.reduceLT, Nat.reduceLeDiff, Nat.reduceEqDiff, Nat.reduceAdd, Nat.reduceSub, Nat.reduceMul, Nat.reduceBEq, Nat.reduceBNe, reduceCtorEq, Int.reduceEq, Int.reduceLT, Int.reduceLE, Int.reduceAdd, Int.reduceSub, Int.reduceMul, Int.reduceToNat, ↓xs14, ↓xs28]
    repeat (refine And.intro (a := (_ = true)) (by first | (simp; done) | (simp; omega)) ?_)
    exact ObQ.mk [0, 1] (by decide) rfl rfl rfl ⟨rfl, by simp only [renCt, hf.ren]; exact rfl, trivial⟩
  have e : mayB n a b c = true := by simp [mayB, h1]; omega
  rw [show addV n a b c q = .tup [.v (.bool (addQ ov ⟨a, b, c, 0⟩ q).1), .v (.int .i64 0)] by rw [addV, e]; rfl, show addL n a b c q = (addQ ov ⟨a, b, c, 0⟩ q).2 by rw [addL, e]; rfl]
  obtain ⟨i1, i2⟩ := id_at (a := a) (q := q) (i := 0)
  by_cases h3 : idI a q 0 < 0
  · have e3 : addQ ov ⟨a, b, c, 0⟩ q = (true, putQ ⟨a, b, c, 0⟩ q) := by rw [addQ]; exact if_pos h3
    have hp := flatT (putQ ⟨a, b, c, 0⟩ q)
    have h3' : ¬ 0 ≤ idI a q 0 := by omega
    rw [e3]
    have hpl := put_len ⟨a, b, c, 0⟩ q
    refine ExQ_ok [] 2000 plsOk kG0_ok ?_
    simp only [conf0, layG]
    (try rw [exh]); simp (maxSteps := 4000000) only [n0, tm, ta, hlr, chk_pos h1, h2, h3', hp.ren, hp.lv, go_sem, ↓bsplit_true, ↓bsplit_false, ↓reduceIte, Nat.reduceLT, Nat.reduceLeDiff, Nat.reduceEqDiff, Nat.reduceAdd, Nat.reduceSub, Nat.reduceMul, Nat.reduceBEq, Nat.reduceBNe, reduceCtorEq, Int.reduceEq, Int.reduceLT, Int.reduceLE, Int.reduceAdd, Int.reduceSub, Int.reduceMul, Int.reduceToNat, ↓xs14, ↓xs28]
    repeat (refine And.intro (a := (_ = true)) (by first | (simp; done) | (simp; omega)) ?_)
    exact ObQ.mk [0, 3] (by decide) rfl rfl rfl ⟨rfl, by simp only [renCt, hp.ren]; exact rfl, trivial⟩
  obtain ⟨k, y, k1, k2, k3⟩ := i2 (by omega)
  rw [Nat.zero_add] at k1
  obtain ⟨kl, k4⟩ := List.getElem?_eq_some_iff.1 k2
  have hk0 : (0 : Int) ≤ k := by omega
  have hkl : (k : Int) < q.length := by omega
  have he : (q.map rowT)[k]?.getD [] = rowT y := by rw [rowT_at kl, k4]
  have hov : ov ⟨a, b, c, 0⟩ y = decide (Over a b c y.id y.st y.inc) := rfl
  have e4 : addQ ov ⟨a, b, c, 0⟩ q = if ov ⟨a, b, c, 0⟩ y = true then (true, putQ ⟨a, b, c, 0⟩ (q.eraseIdx k)) else (false, q) := by
    rw [addQ, if_neg (show ¬ idI (Tl.mk a b c 0).id q 0 < 0 from h3)]
    rw [show idI (Tl.mk a b c 0).id q 0 = (k : Int) from k1, Int.toNat_natCast, k2]
  rw [e4, hov]
  obtain ⟨y1, y2, y3, y4⟩ := y
  simp only [rowT] at he ⊢
  have hk1 : ((k : Int) + 1).toNat = k + 1 := by omega
  by_cases h5 : Over a b c y1 y2 y3
  · have h6 : decide (Over a b c y1 y2 y3) = true := decide_eq_true h5
    simp only [h6, if_true]
    have hr := era_rows (q := q) (k := k)
    have tm2 := telMap (q.eraseIdx k)
    have ta2 := isT_all (q.eraseIdx k)
    have hlr2 : ((q.eraseIdx k).map rowT).length = (q.eraseIdx k).length := List.length_map _
    have hel : (q.eraseIdx k).length = q.length - 1 := List.length_eraseIdx_of_lt kl
    have hp := flatT (putQ ⟨a, b, c, 0⟩ (q.eraseIdx k))
    refine ExQ_ok [] 2000 plsOk kG0_ok ?_
    simp only [conf0, layG]
    (try rw [exh]); simp (maxSteps := 4000000) only [n0, tm, ta, hlr, chk_pos h1, h2, k1, hk0, hkl, he, h6, hk1, hr, tm2, ta2, hlr2, hf.lv, hp.ren, hp.lv, go_sem, ↓bsplit_true, ↓bsplit_false, ↓reduceIte, Nat.reduceLT, Nat.reduceLeDiff, Nat.reduceEqDiff, Nat.reduceAdd, Nat.reduceSub, Nat.reduceMul, Nat.reduceBEq, Nat.reduceBNe, reduceCtorEq, Int.reduceEq, Int.reduceLT, Int.reduceLE, Int.reduceAdd, Int.reduceSub, Int.reduceMul, Int.reduceToNat, ↓xs14, ↓xs28]
    repeat (refine And.intro (a := (_ = true)) (by first | (simp; done) | (simp; omega)) ?_)
    exact ObQ.mk [0, 4] (by decide) rfl rfl rfl ⟨rfl, by simp only [renCt, hp.ren]; exact rfl, trivial⟩
  · have h6 : decide (Over a b c y1 y2 y3) = false := decide_eq_false h5
    simp only [h6, Bool.false_eq_true, if_false]
    refine ExQ_ok [] 2000 plsOk kG0_ok ?_
    simp only [conf0, layG]
    (try rw [exh]); simp (maxSteps := 4000000) only [n0, tm, ta, hlr, chk_pos h1, h2, k1, hk0, hkl, he, h6, go_sem, ↓bsplit_true, ↓bsplit_false, ↓reduceIte, Nat.reduceLT, Nat.reduceLeDiff, Nat.reduceEqDiff, Nat.reduceAdd, Nat.reduceSub, Nat.reduceMul, Nat.reduceBEq, Nat.reduceBNe, reduceCtorEq, Int.reduceEq, Int.reduceLT, Int.reduceLE, Int.reduceAdd, Int.reduceSub, Int.reduceMul, Int.reduceToNat, ↓xs14, ↓xs28]
    repeat (refine And.intro (a := (_ = true)) (by first | (simp; done) | (simp; omega)) ?_)
    exact ObQ.mk [0, 1] (by decide) rfl rfl rfl ⟨rfl, by simp only [renCt, hf.ren]; exact rfl, trivial⟩
end GS
end Go.Proofs.Ytfnnmkjlokjkhaa
