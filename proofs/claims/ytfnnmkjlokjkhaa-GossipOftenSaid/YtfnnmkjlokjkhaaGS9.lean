/- Gossip, the document's: the word of Add. -/
import Derived.Test.YtfnnmkjlokjkhaaGS8
set_option linter.unusedSimpArgs false
set_option linter.unusedVariables false
namespace Go.Proofs.Ytfnnmkjlokjkhaa
open Go Go.SY
namespace GS
attribute [local go_sem] Ex stops inK stepF frsF frF itemF codeF condF opsF opsW opF callO drF drO drW drC stepS wtS gdst gdl sopF pv evq orl bltF callF calleeS popF lopF bltP callP cls lvA rdl quiet p_move p_assign p_pick p_nilCheck
attribute [local go_sem] p_binOp p_unOp p_convert p_fieldAddr p_indexAddr p_index p_slice p_makeFunc p_extract p_field p_build p_len p_cap p_min p_max l_load l_convert l_slice zerR roomR appRR roomN appNN cpSrcN clN cpSrc cpR clR e_clear srcR dstR srcN dstN e_store e_alloc e_box e_buildSlice e_makeSlice e_append e_copy
attribute [local go_sem] e_convert SY.get SY.put SY.ev SY.mk SY.nth SY.lvl SY.setl SY.ini wid wids dr tk flat at1 pack parts rdC rdCt wrC wrCt ar bits2 bopInt bopStr bopEq isPtr isSl isBl eqPs eqLf bop pickAV bnd subO cutOf okMx fillA plFs nz
attribute [local go_sem] minI numsAt aOf hd1 hdL immL isArr ctOf rowsOf numsAV rep elCt wrRow killO chR enterS leaveS retS endS exitS gotoS finishS killL isDefs setPs roundS resS resAll tup1 conf0 AV.scal plk spz Ct.cell exq_zero exq_go exq_d exq_n lvCt lvE
attribute [local go_sem] exq_t exq_f exq_t0 exq_f0 List.toList_toArray Bool.and_true Bool.true_and Bool.not_false Bool.not_true List.contains_nil List.contains_cons Bool.or_false Bool.false_or Option.isSome_some Option.isSome_none Option.isNone_none Option.isNone_some true_and and_true Option.some.injEq Bool.false_eq_true List.map_cons List.map_nil List.all_cons List.all_nil Bool.and_self List.drop_succ_cons List.drop_zero List.length_cons List.length_nil List.cons_append List.nil_append Option.map_some Option.map_none List.append_nil Nat.zero_add Nat.add_zero Nat.sub_zero Nat.zero_mul Nat.mul_one
attribute [local go_sem] Int.toNat_natCast Int.toNat_zero Int.toNat_one Int.add_zero Int.sub_zero Int.cast_ofNat_Int decide_true decide_false Option.getD_some Option.getD_none ktB ktX ktOf conK extK ovlK rwz alive alive0 mks noMk lndL lnd lvB lvL lvR lvT tB_tt tB_ft tB_ff okBls shB ren renL renR renCt ne_eq not_false_eq_true not_true_eq_false and_false
attribute [local go_sem] false_and and_self ti0 ti1 ti2 ti3 ti4 ti5 ti6 ti7 ti8 ti9 ti10 ti11 ti12 ti13 ti14 ti15 ti16 ti17 ti18 ti19 ti20 ti21 ti22 ti23 ti24 ti25 ti26 ti27 ti28 ti29 ti30 ti31 ti32 ti33 ti34 ti35 ti36 ti37
attribute [local go_sem] ti38 ti39 ti40 ti41 ti42 ti43 ti44 ti45 ti46 ti47 ti48 ti49 ti50 ti51 ti52 ti53 ti54 ti55 ti56 ti57 ti58 ti59 ti60 ti61 ti62 ti63 ti64 ti65 ti66 ti67 ti68 ti69 ti70 ti71 ti72 ti73 ti74 ti75 ti76 ti77
attribute [local go_sem] ti78 ti79 ti80 ti81 ti82 ti83 ti84 ti85 ti86 ti87 ti88 ti89 ti90 ti91 ti92 ti93 ti94 ti95 ti96 ti97 ti98 ti99 ti100 ti101 ti102 regAt fi15 body15 Try.f15 r15_1 r15_5 r15_9 r15_12 r15_18 r15_24 r15_30 r15_34 r15_35 r15_22 r15_36
attribute [local go_sem] r15_38 r15_40 plA3 pl3 plA4 pl4 plA6 pl6 plA11 pl11 plA12 pl12 plA13 pl13 plA14 pl14 plA15 pl15 plA24 pl24 plA30 pl30 plA31 pl31 plA32 pl32 plA33 pl33 plA40 pl40 plA41 pl41 plA42 pl42 plA52 pl52
def raV (n a b c : Int) (P : List Tl) : AV := if mayB n a b c = true then .tup [.v (.bool (addR ov ⟨a, b, c, 0⟩ P).1), .v (.int .i64 0)] else .tup [.v (.bool false), .v (.int .i64 2)]
def raL (n a b c : Int) (P : List Tl) : List Tl := if mayB n a b c = true then (addR ov ⟨a, b, c, 0⟩ P).2 else P
def tA (i : Nat) : TM := [(6, .v (.int .i64 i)), (3, .ptr 3 0 3 0), (0, .ptr 0 0 3 0)]
def bA (n : Int) (P : List Tl) (a b c : Int) : Bls := layR n P ++ [some (.lit [.v (.int .i64 a), .v (.int .i64 b), .v (.int .i64 c)])]
theorem appM (P : List Tl) (a b c : Int) : P.map rowM ++ [[.v (.int .i64 a), .v (.int .i64 b), .v (.int .i64 c)]] = (P ++ [(⟨a, b, c, 0⟩ : Tl)]).map rowM := by
  rw [List.map_append]; rfl
theorem appN (P : List Tl) (a b c : Int) : P.map (·.told) ++ [0] = (P ++ [(⟨a, b, c, 0⟩ : Tl)]).map (·.told) := by
  rw [List.map_append]; rfl
attribute [local go_sem] kR1 kG0 ktO ktW kN0 ktOf conK sChk sOver specT sLen readK osWo osFirst osLim findR layR objK objB updT mapB rhoN nm mrk List.append_nil List.nodup_cons List.mem_cons List.not_mem_nil List.take_succ_cons List.take_zero List.getD_cons_zero List.getD_cons_succ btt bff not_true_eq_false not_false_eq_true List.drop_zero
set_option maxRecDepth 100000 in
set_option maxHeartbeats 4000000 in
theorem radd_word (n : Int) (P : List Tl) (a b c : Int) (hp : P.length < 50000) : Word Try.prog (plOf pls) 15 [.ptr 0 0 3 0, .agg [.v (.int .i64 a), .v (.int .i64 b), .v (.int .i64 c)]] (layR n P) (ObQ 1 (raV n a b c P) (layR n (raL n a b c P))) := by
  refine ⟨_, fi15, by simp, fun C hb hC => ?_⟩
  have hC : C.β.b.length = 3 := hC
  have hf := flatM P
  have hlp : (P.map rowM).length = P.length := List.length_map _
  have hlt : (P.map (·.told)).length = P.length := List.length_map _
  by_cases h1 : MemOk a b c
  case neg =>
    have e : mayB n a b c = false := by simp [mayB, h1]
    have e1 : raV n a b c P = .tup [.v (.bool false), .v (.int .i64 2)] := by rw [raV, e]; rfl
    have e2 : raL n a b c P = P := by rw [raL, e]; rfl
    rw [e1, e2]
    refine ExQ_ok [] 2000 plsOk kR1_ok ?_
    simp only [conf0, layR]
    (try rw [exh]); simp (maxSteps := 4000000) only [chk_neg h1, go_sem, ↓bsplit_true, ↓bsplit_false, ↓reduceIte, Nat.reduceLT, Nat.reduceLeDiff, Nat.reduceEqDiff, Nat.reduceAdd, Nat.reduceSub, Nat.reduceMul, Nat.reduceBEq, Nat.reduceBNe, reduceCtorEq, Int.reduceEq, Int.reduceLT, Int.reduceLE, Int.reduceAdd, Int.reduceSub, Int.reduceMul, Int.reduceToNat, ↓xs15]
    repeat (refine And.intro (a := (_ = true)) (by first | (simp; done) | (simp; omega)) ?_)
    exact ObQ.mk [0, 1, 2] (by decide) rfl rfl rfl ⟨rfl, by simp only [renCt, hf.ren]; exact rfl, rfl, trivial⟩
  by_cases h2 : n < a
  · have e : mayB n a b c = false := by simp [mayB]; omega
    have e1 : raV n a b c P = .tup [.v (.bool false), .v (.int .i64 2)] := by rw [raV, e]; rfl
    have e2 : raL n a b c P = P := by rw [raL, e]; rfl
    rw [e1, e2]
    refine ExQ_ok [] 2000 plsOk kR1_ok ?_
    simp only [conf0, layR]
    (try rw [exh]); simp (maxSteps := 4000000) only [chk_pos h1, h2, go_sem, ↓bsplit_true, ↓bsplit_false, ↓reduceIte, Nat.reduceLT, Nat.reduceLeDiff, Nat.reduceEqDiff, Nat.reduceAdd, Nat.reduceSub, Nat.reduceMul, Nat.reduceBEq, Nat.reduceBNe, reduceCtorEq, Int.reduceEq, Int.reduceLT, Int.reduceLE, Int.reduceAdd, Int.reduceSub, Int.reduceMul, Int.reduceToNat, ↓xs15]
    repeat (refine And.intro (a := (_ = true)) (by first | (simp; done) | (simp; omega)) ?_)
    exact ObQ.mk [0, 1, 2] (by decide) rfl rfl rfl ⟨rfl, by simp only [renCt, hf.ren]; exact rfl, rfl, trivial⟩
  have e : mayB n a b c = true := by simp [mayB, h1]; omega
  rw [show raV n a b c P = .tup [.v (.bool (addR ov ⟨a, b, c, 0⟩ P).1), .v (.int .i64 0)] by rw [raV, e]; rfl, show raL n a b c P = (addR ov ⟨a, b, c, 0⟩ P).2 by rw [raL, e]; rfl]
  refine ExQ_ok [] 2000 plsOk kR1_ok ?_
  simp only [conf0, layR]
  (try rw [exh]); simp (maxSteps := 4000000) only [chk_pos h1, h2, go_sem, ↓bsplit_true, ↓bsplit_false, ↓reduceIte, Nat.reduceLT, Nat.reduceLeDiff, Nat.reduceEqDiff, Nat.reduceAdd, Nat.reduceSub, Nat.reduceMul, Nat.reduceBEq, Nat.reduceBNe, reduceCtorEq, Int.reduceEq, Int.reduceLT, Int.reduceLE, Int.reduceAdd, Int.reduceSub, Int.reduceMul, Int.reduceToNat, ↓xs15]
  repeat (refine And.intro (a := (_ = true)) (by first | (simp; done) | (simp; omega)) ?_)
  refine Rch.loop plsOk ?_
  refine Rch.fit1K hC [0, 1, 2, 3] rfl (tm' := tA 0) (bl' := bA n P a b c) rfl (by decide) rfl ⟨rfl, rfl, rfl, trivial⟩ rfl ⟨⟨rfl, rfl⟩, ⟨by simp only [renCt, hf.ren]; exact rfl, by simp only [lvCt, hf.lv]⟩, ⟨rfl, rfl⟩, ⟨rfl, rfl⟩, trivial⟩ ?_
  refine loop_ind plsOk (α := {i : Nat // i ≤ P.length ∧ idI a (P.drop i) i = idI a P 0}) (fun i => P.length - i.1) (fun i => tA i.1) (fun _ => bA n P a b c) (fun _ => _) ?_ ⟨0, Nat.zero_le _, by rw [List.drop_zero]⟩
  rintro ⟨i, hi, hid⟩ ih
  simp only [tA, bA, layR, List.cons_append, List.nil_append] at hi ih ⊢
  have ti : (P.map rowM).take P.length = P.map rowM := List.take_of_length_le (by omega)
  have tj : (P.map (·.told)).take P.length = P.map (·.told) := List.take_of_length_le (by omega)
  by_cases h : (i : Int) < P.length
  case neg =>
    have h3 : idI (Tl.mk a b c 0).id P 0 < 0 := by
      rw [show idI (Tl.mk a b c 0).id P 0 = idI a (P.drop i) i from hid.symm, List.drop_eq_nil_of_le (by omega)]
      simp [idI]
    have e3 : addR ov ⟨a, b, c, 0⟩ P = (true, P ++ [⟨a, b, c, 0⟩]) := by rw [addR]; exact if_pos h3
    rw [e3]
    have e4 := appM P a b c
    have e5 := appN P a b c
    have hpl : (P ++ [(⟨a, b, c, 0⟩ : Tl)]).length = P.length + 1 := by simp
    have hg := flatM (P ++ [(⟨a, b, c, 0⟩ : Tl)])
    have hgl : ((P ++ [(⟨a, b, c, 0⟩ : Tl)]).map rowM).length = (P ++ [(⟨a, b, c, 0⟩ : Tl)]).length := List.length_map _
    have hgt : ((P ++ [(⟨a, b, c, 0⟩ : Tl)]).map (·.told)).length = (P ++ [(⟨a, b, c, 0⟩ : Tl)]).length := List.length_map _
    generalize P ++ [(⟨a, b, c, 0⟩ : Tl)] = P' at *
    refine ExQ_ok [] 2000 plsOk kR1_ok ?_
    (try rw [exh]); simp (maxSteps := 4000000) only [h, hlp, hlt, ti, tj, e4, e5, hgl, hgt, go_sem, ↓bsplit_true, ↓bsplit_false, ↓reduceIte, Nat.reduceLT, Nat.reduceLeDiff, Nat.reduceEqDiff, Nat.reduceAdd, Nat.reduceSub, Nat.reduceMul, Nat.reduceBEq, Nat.reduceBNe, reduceCtorEq, Int.reduceEq, Int.reduceLT, Int.reduceLE, Int.reduceAdd, Int.reduceSub, Int.reduceMul, Int.reduceToNat, ↓xs15]
    repeat (refine And.intro (a := (_ = true)) (by first | (simp; done) | (simp; omega)) ?_)
    exact ObQ.mk [0, 5, 7] (by decide) rfl rfl rfl ⟨rfl, by simp only [renCt, hg.ren]; exact rfl, rfl, trivial⟩
  have hi2 : i < P.length := by omega
  have he := rowM_at hi2
  rw [idI_step hi2] at hid
  have hy : P[i]? = some P[i] := List.getElem?_eq_getElem hi2
  have hi0 : (0 : Int) ≤ i := by omega
  by_cases h3 : P[i].id = a
  case neg =>
    rw [if_neg h3] at hid
    have ih' := ih ⟨i + 1, by omega, hid⟩ (by simp only; omega)
    simp only at ih'
    clear ih hid
    generalize P[i] = y at *
    have g3 : decide (y.id = a) = false := decide_eq_false h3
    simp only [rowM] at he
    refine ExQ_ok [] 2000 plsOk kR1_ok ?_
    (try rw [exh]); simp (maxSteps := 4000000) only [h, hlp, hlt, he, g3, go_sem, ↓bsplit_true, ↓bsplit_false, ↓reduceIte, Nat.reduceLT, Nat.reduceLeDiff, Nat.reduceEqDiff, Nat.reduceAdd, Nat.reduceSub, Nat.reduceMul, Nat.reduceBEq, Nat.reduceBNe, reduceCtorEq, Int.reduceEq, Int.reduceLT, Int.reduceLE, Int.reduceAdd, Int.reduceSub, Int.reduceMul, Int.reduceToNat, ↓xs15]
    repeat (refine And.intro (a := (_ = true)) (by first | (simp; done) | (simp; omega)) ?_)
    refine Rch.fit1K hC [0, 1, 2, 3] rfl (tm' := tA (i + 1)) (bl' := bA n P a b c) rfl (by decide) rfl ⟨rfl, rfl, rfl, trivial⟩ rfl ⟨⟨rfl, rfl⟩, ⟨by simp only [renCt, hf.ren]; exact rfl, by simp only [lvCt, hf.lv]⟩, ⟨rfl, rfl⟩, ⟨rfl, rfl⟩, trivial⟩ ?_
    exact ih'
  rw [if_pos h3] at hid
  clear ih
  have e4 : addR ov ⟨a, b, c, 0⟩ P = if ov ⟨a, b, c, 0⟩ P[i] = true then (true, P.eraseIdx i ++ [⟨a, b, c, 0⟩]) else (false, P) := by
    rw [addR, if_neg (show ¬ idI (Tl.mk a b c 0).id P 0 < 0 by rw [show idI (Tl.mk a b c 0).id P 0 = i from hid.symm]; omega)]
    rw [show idI (Tl.mk a b c 0).id P 0 = (i : Int) from hid.symm, Int.toNat_natCast, hy]
  have hov : ov ⟨a, b, c, 0⟩ P[i] = decide (Over a b c P[i].id P[i].st P[i].inc) := rfl
  rw [e4, hov]
  clear e4 hov hid hy
  generalize P[i] = y at *
  have g3 : decide (y.id = a) = true := decide_eq_true h3
  simp only [rowM] at he
  by_cases h5 : Over a b c y.id y.st y.inc
  · have h6 : decide (Over a b c y.id y.st y.inc) = true := decide_eq_true h5
    simp only [h6, if_true]
    have zz := zip_map P
    have za := isM_all P
    have hel : (P.eraseIdx i).length ≤ P.length := List.length_eraseIdx_le ..
    obtain ⟨Q, hQ⟩ : ∃ Q, P.eraseIdx i = Q := ⟨_, rfl⟩
    rw [hQ] at hel ⊢
    have e4 := appM Q a b c
    have e5 := appN Q a b c
    have hpl : (Q ++ [(⟨a, b, c, 0⟩ : Tl)]).length = Q.length + 1 := by simp
    have hg := flatM (Q ++ [(⟨a, b, c, 0⟩ : Tl)])
    have hq := flatM Q
    have hgl : ((Q ++ [(⟨a, b, c, 0⟩ : Tl)]).map rowM).length = (Q ++ [(⟨a, b, c, 0⟩ : Tl)]).length := List.length_map _
    have hgt : ((Q ++ [(⟨a, b, c, 0⟩ : Tl)]).map (·.told)).length = (Q ++ [(⟨a, b, c, 0⟩ : Tl)]).length := List.length_map _
    have ti : (Q.map rowM).take Q.length = Q.map rowM := List.take_of_length_le (by rw [List.length_map]; exact Nat.le_refl _)
    have tj : (Q.map (·.told)).take Q.length = Q.map (·.told) := List.take_of_length_le (by rw [List.length_map]; exact Nat.le_refl _)
    have hql : (Q.map rowM).length = Q.length := List.length_map _
    have hqt : (Q.map (·.told)).length = Q.length := List.length_map _
    generalize Q ++ [(⟨a, b, c, 0⟩ : Tl)] = P' at *
    refine ExQ_ok [] 2000 plsOk kR1_ok ?_
    (try rw [exh]); simp (maxSteps := 4000000) only [h, hlp, hlt, he, g3, h6, zz, za, hi0, hQ, hq.ren, hq.lv, hql, hqt, ti, tj, e4, e5, hgl, hgt, go_sem, ↓bsplit_true, ↓bsplit_false, ↓reduceIte, Nat.reduceLT, Nat.reduceLeDiff, Nat.reduceEqDiff, Nat.reduceAdd, Nat.reduceSub, Nat.reduceMul, Nat.reduceBEq, Nat.reduceBNe, reduceCtorEq, Int.reduceEq, Int.reduceLT, Int.reduceLE, Int.reduceAdd, Int.reduceSub, Int.reduceMul, Int.reduceToNat, ↓xs15]
    repeat (refine And.intro (a := (_ = true)) (by first | (simp; done) | (simp; omega)) ?_)
    exact ObQ.mk [0, 8, 10] (by decide) rfl rfl rfl ⟨rfl, by simp only [renCt, hg.ren]; exact rfl, rfl, trivial⟩
  · have h6 : decide (Over a b c y.id y.st y.inc) = false := decide_eq_false h5
    simp only [h6, Bool.false_eq_true, if_false]
    refine ExQ_ok [] 2000 plsOk kR1_ok ?_
    (try rw [exh]); simp (maxSteps := 4000000) only [h, hlp, hlt, he, g3, h6, go_sem, ↓bsplit_true, ↓bsplit_false, ↓reduceIte, Nat.reduceLT, Nat.reduceLeDiff, Nat.reduceEqDiff, Nat.reduceAdd, Nat.reduceSub, Nat.reduceMul, Nat.reduceBEq, Nat.reduceBNe, reduceCtorEq, Int.reduceEq, Int.reduceLT, Int.reduceLE, Int.reduceAdd, Int.reduceSub, Int.reduceMul, Int.reduceToNat, ↓xs15]
    repeat (refine And.intro (a := (_ = true)) (by first | (simp; done) | (simp; omega)) ?_)
    exact ObQ.mk [0, 1, 2] (by decide) rfl rfl rfl ⟨rfl, by simp only [renCt, hf.ren]; exact rfl, rfl, trivial⟩
end GS
end Go.Proofs.Ytfnnmkjlokjkhaa
