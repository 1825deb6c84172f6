/- JournalCrash: its walk. -/
import Derived.Test.YtlhjbjpcnncndaaJC
set_option linter.unusedSimpArgs false
set_option linter.unusedVariables false
namespace Go.Proofs.Ytlhjbjpcnncndaa
open Go Go.SY
namespace JC
open DW JW JL
attribute [local go_sem] Ex stops inK stepF frsF frF itemF codeF condF opsF opsW opF callO drF drO drW drC stepS wtS gdst gdl sopF pv evq orl bltF callF calleeS popF lopF bltP callP cls lvA rdl quiet p_move p_assign p_pick p_nilCheck
attribute [local go_sem] p_binOp p_unOp p_convert p_fieldAddr p_indexAddr p_index p_slice p_makeFunc p_extract p_field p_build p_len p_cap p_min p_max l_load l_convert l_slice zerR roomR appRR roomN appNN cpSrcN clN cpSrc cpR clR e_clear srcR dstR srcN dstN e_store e_alloc e_box e_buildSlice e_makeSlice e_append e_copy
attribute [local go_sem] e_convert SY.get SY.put SY.ev SY.mk SY.nth SY.lvl SY.setl SY.ini wid wids dr tk flat at1 pack parts rdC rdCt wrC wrCt ar bits2 bopInt bopStr bopEq isPtr isSl isBl eqPs eqLf bop pickAV bnd subO cutOf okMx fillA plFs nz
attribute [local go_sem] minI numsAt aOf hd1 hdL immL isArr ctOf rowsOf numsAV rep elCt wrRow killO chR enterS leaveS retS endS exitS gotoS finishS killL isDefs setPs roundS resS resAll tup1 conf0 AV.scal plk spz Ct.cell exq_zero exq_go exq_d exq_n lvCt lvE
attribute [local go_sem] exq_t exq_f exq_t0 exq_f0 List.toList_toArray Bool.and_true Bool.true_and Bool.not_false Bool.not_true List.contains_nil List.contains_cons Bool.or_false Bool.false_or Option.isSome_some Option.isSome_none Option.isNone_none Option.isNone_some true_and and_true Option.some.injEq Bool.false_eq_true List.map_cons List.map_nil List.all_cons List.all_nil Bool.and_self List.drop_succ_cons List.drop_zero List.length_cons List.length_nil List.cons_append List.nil_append Option.map_some Option.map_none List.append_nil Nat.zero_add Nat.add_zero Nat.sub_zero Nat.zero_mul Nat.mul_one
attribute [local go_sem] Int.toNat_natCast Int.toNat_zero Int.toNat_one Int.add_zero Int.sub_zero Int.cast_ofNat_Int decide_true decide_false Option.getD_some Option.getD_none ktB ktX ktOf conK extK ovlK rwz alive alive0 mks noMk lndL lnd lvB lvL lvR lvT tB_tt tB_ft tB_ff okBls shB ren renL renR renCt ne_eq not_false_eq_true not_true_eq_false and_false
attribute [local go_sem] false_and and_self ti0 ti1 ti2 ti3 ti4 ti5 ti6 ti7 ti8 ti9 ti10 ti11 ti12 ti13 ti14 ti15 ti16 ti17 ti18 ti19 ti20 ti21 ti22 ti23 ti24 ti25 ti26 ti27 ti28 ti29 ti30 ti31 ti32 ti33 ti34 ti35 ti36 ti37
attribute [local go_sem] ti38 ti39 ti40 ti41 ti42 ti43 ti44 ti45 ti46 ti47 ti48 ti49 ti50 ti51 ti52 ti53 ti54 ti55 ti56 ti57 ti58 ti59 ti60 ti61 ti62 ti63 ti64 ti65 ti66 ti67 ti68 ti69 ti70 ti71 ti72 ti73 ti74 ti75 ti76 ti77
attribute [local go_sem] ti78 ti79 ti80 ti81 ti82 ti83 ti84 ti85 ti86 ti87 ti88 ti89 ti90 ti91 ti92 ti93 ti94 ti95 ti96 ti97 ti98 ti99 ti100 ti101 ti102 ti103 ti104 regAt fi5 body5 Try.f5 fi23 body23 Try.f23 r5_1 r5_3 r5_7 r5_11 r5_12 r5_14
attribute [local go_sem] r5_18 r5_22 r5_23 r5_27 r5_31 r5_32 r5_36 r5_40 r5_41 r5_43 r23_1 r23_3 plA8 pl8 plA10 pl10 plA11 pl11 plA17 pl17 plA22 pl22 plA25 pl25 plA31 pl31 plA37 pl37 plA45 pl45 plA53 pl53 plA55 pl55
attribute [local go_sem] kJC kC0 kAll kJ specT sFin0 sSam sSam0 KB.sPick sLaid kDj ktOf ktO ktW conK objK objB updT mapB rhoN nm mrk readK sCln sPut sJoin sSplit sSize mapI DW.osB DW.osI DW.osK DW.osR findD mApp mNext mSync mSwitch mFirm mCrash
attribute [local go_sem] mFuse rdV rdX sNew nilN nilR List.append_nil List.nodup_cons List.take_succ_cons List.take_zero List.getD_cons_zero List.getD_cons_succ KB.btt KB.bff not_true_eq_false not_false_eq_true List.drop_zero List.length_replicate osJa osJs osJw osJr osOp findJ layJ layD layO fuL fuP fu5 jLen jFirm jAll jAllX decide_true Bool.not_false
set_option maxRecDepth 100000 in
set_option maxHeartbeats 16000000 in
theorem crash_law (C : Ctx) (hC : C.β.b = []) (rs : List (List AV)) (hm : rs.all isB = true) (hok : ∀ x ∈ bys rs, okN .u8 x) (c0 : Option Nat) (firm kept : Int) :
    Rch Try.prog (plOf pls) C (conf0 5 ⟨125, [.tmp 6], code5⟩ [.imr false 1 rs c0, .v (.int .i64 firm), .v (.int .i64 kept)] []) IsT := by
  have hf := isB_flat hm
  by_cases hb : finB rs = true
  case neg =>
    have hb0 : finB rs = false := Bool.eq_false_iff.2 hb
    refine ExQ_ok [] 4000 plsOk kJC_ok ?_
    simp only [conf0]
    (try rw [exh]); simp (maxSteps := 4000000) only [List.mem_cons, List.not_mem_nil, hf.lv, hf.ren, hm, hb0, go_sem, ↓bsplit_true, ↓bsplit_false, ↓reduceIte, Nat.reduceLT, Nat.reduceLeDiff, Nat.reduceEqDiff, Nat.reduceAdd, Nat.reduceSub, Nat.reduceMul, Nat.reduceBEq, Nat.reduceBNe, reduceCtorEq, Int.reduceEq, Int.reduceLT, Int.reduceLE, Int.reduceAdd, Int.reduceSub, Int.reduceMul, Int.reduceToNat, ↓xs5, ↓xs23]
    repeat (refine And.intro (a := (_ = true)) (by first | (simp; done) | (simp; omega)) ?_)
    exact rfl
  have hb' := hb
  simp only [finB, Bool.and_eq_true, List.all_eq_true, decide_eq_true_eq] at hb'
  obtain ⟨hb1, hb2⟩ := hb'
  have hft : ∀ x ∈ bys rs, Fit x := fun x hx => ⟨hok x hx, (hb2 x hx).1, by have := (hb2 x hx).2; omega⟩
  have hbl : (bys rs).length = rs.length := bys_len
  have bys0 : bys [] = [] := rfl
  have hjs : (jn (bys rs)).length ≤ 4160 := by
    have h2 := jn_small (ls := bys rs) fun y hy => (hb2 y hy).2
    rw [bys_len] at h2
    omega
  obtain ⟨k, hk0, hk1⟩ := KB.pick_lt firm (n := rs.length + 1) (by omega)
  have hk : KB.kpick firm ((rs.length : Int) + 1) = (k : Int) := hk1
  obtain ⟨kk, hkk0, hkk1⟩ := KB.pick_lt kept (n := 5000) (by omega)
  have hkk : KB.kpick kept 5000 = (kk : Int) := hkk1
  have hff : (jn ((bys rs).take k)).length ≤ (jn (bys rs)).length := jn_take_le k
  have hkl : k ≤ (bys rs).length := by rw [bys_len]; omega
  have hfm : fmN ((jn ((bys rs).take k)).length : Nat) 0 (bys rs) = k := by have := fm_take (q := 0) hft hkl; rwa [Int.zero_add] at this
  -- the crash
  obtain ⟨M, hM1, hM2, hMe⟩ : ∃ M : Nat, (jn ((bys rs).take k)).length ≤ M ∧ M ≤ (jn (bys rs)).length ∧ ((jn ((bys rs).take k)).length : Int) + min (kk : Int) ((jn (bys rs)).length - (jn ((bys rs).take k)).length) = M := ⟨(((jn ((bys rs).take k)).length : Int) + min (kk : Int) ((jn (bys rs)).length - (jn ((bys rs).take k)).length)).toNat, by omega, by omega, by omega⟩
  have hL : laidS (bys rs) k = ⟨jn (bys rs), ((jn ((bys rs).take k)).length : Nat), [], 0, 1000000, (rs.length : Int) + 1, none, false⟩ := by rw [laidS, bys_len]
  have hCr : dCrash ⟨jn (bys rs), ((jn ((bys rs).take k)).length : Nat), [], 0, 1000000, (rs.length : Int) + 1, none, false⟩ (kk : Int) = (0, ⟨(jn (bys rs)).take M, (M : Nat), [], 0, 1000000, (rs.length : Int) + 1, none, false⟩) := by
    have hc : crN ⟨jn (bys rs), ((jn ((bys rs).take k)).length : Nat), [], 0, 1000000, (rs.length : Int) + 1, none, false⟩ (kk : Int) = M := by simp only [crN, hMe]; exact Int.toNat_natCast M
    simp only [dCrash, hc]
    rw [if_neg (by omega)]
  obtain ⟨i, m1, hki, hin, hm1, hm2, hop⟩ := op_crash hft (by omega) hkl hM1 hM2 ((rs.length : Int) + 1)
  obtain ⟨eV, eL⟩ := opV_ok rfl hop
  have hLf : ∀ x ∈ (bys rs).take i, Fit x := fun x hx => hft x (List.mem_of_mem_take hx)
  have hmf : Fit ([109, 111, 114, 101] : List Int) := ⟨by intro x hx; simp only [List.mem_cons, List.not_mem_nil, or_false] at hx; rcases hx with rfl | rfl | rfl | rfl <;> decide, by decide, by decide⟩
  have hLj : (jn ((bys rs).take i)).length ≤ 4160 := by have := jn_take_le (ls := bys rs) i; omega
  have hLl : ((bys rs).take i).length = i := by rw [List.length_take]; omega
  have hap := app_one (L := (bys rs).take i) hmf (by omega) (by decide) m1 ((jn ((bys rs).take i)).length : Nat)
  have hL2f : ∀ x ∈ (bys rs).take i ++ [([109, 111, 114, 101] : List Int)], Fit x := fun x hx => by
    rcases List.mem_append.1 hx with h | h
    · exact hLf x h
    · rw [List.mem_singleton.1 h]; exact hmf
  have hop2 := op_whole hL2f ((jn ((bys rs).take i)).length : Nat) (m1 + 1)
  obtain ⟨eV2, eL2⟩ := opV_ok rfl hop2
  have hfm2 := fm_all hLf
  rw [hLl] at hfm2
  -- numbers
  have q1 : numJ ⟨jn (bys rs), ((jn ((bys rs).take k)).length : Nat), [], 0, 1000000, (rs.length : Int) + 1, none, false⟩ ((bys rs).map rwN) = true := by
    simp only [numJ, numOk, fuOk, Bool.and_eq_true, decide_eq_true_eq, List.all_eq_true, bys_rwN, List.length_nil, List.length_map, bys_len]
    exact ⟨⟨by omega, by omega, by omega, by omega, by omega, trivial⟩, by omega, by omega, by omega, fun y hy => by have := hb2 y hy; omega⟩
  have q0 : numOk ⟨jn (bys rs), ((jn ((bys rs).take k)).length : Nat), [], 0, 1000000, (rs.length : Int) + 1, none, false⟩ = true := (numJ_at q1).1
  have q2 : numJ ⟨(jn (bys rs)).take M, (M : Nat), [], 0, 1000000, (rs.length : Int) + 1, none, false⟩ [] = true := by
    simp only [numJ, numOk, fuOk, Bool.and_eq_true, decide_eq_true_eq, List.all_eq_true, List.length_nil, List.length_take, bys0]
    exact ⟨⟨by omega, by omega, by omega, by omega, by omega, trivial⟩, by omega, by omega, by omega, fun y hy => by cases hy⟩
  have q3 : numJ ⟨jn ((bys rs).take i), ((jn ((bys rs).take i)).length : Nat), [], 0, 1000000, m1, none, false⟩ (((bys rs).take i).map rwN) = true := by
    simp only [numJ, numOk, fuOk, Bool.and_eq_true, decide_eq_true_eq, List.all_eq_true, bys_rwN, List.length_nil, List.length_map, hLl]
    exact ⟨⟨by omega, by omega, by omega, by omega, by omega, trivial⟩, by omega, by omega, by omega, fun y hy => by have := hb2 y (List.mem_of_mem_take hy); omega⟩
  have hL2j : (jn ((bys rs).take i ++ [([109, 111, 114, 101] : List Int)])).length ≤ 4200 := by
    rw [jn_app, List.length_append]
    have : jn [([109, 111, 114, 101] : List Int)] = frm ([109, 111, 114, 101] : List Int) := List.append_nil _
    rw [this, frm_len]
    have : ([109, 111, 114, 101] : List Int).length = 4 := rfl
    omega
  have hL2g : (jn ((bys rs).take i)).length ≤ (jn ((bys rs).take i ++ [([109, 111, 114, 101] : List Int)])).length := by rw [jn_app, List.length_append]; omega
  have q4 : numJ ⟨jn ((bys rs).take i ++ [([109, 111, 114, 101] : List Int)]), ((jn ((bys rs).take i)).length : Nat), [], 0, 1000000, m1 + 1, none, false⟩ (((bys rs).take i ++ [([109, 111, 114, 101] : List Int)]).map rwN) = true := by
    simp only [numJ, numOk, fuOk, Bool.and_eq_true, decide_eq_true_eq, List.all_eq_true, bys_rwN, List.length_nil, List.length_map, List.length_append, hLl]
    exact ⟨⟨by omega, by omega, by omega, by omega, by omega, trivial⟩, by omega, by omega, by simp; omega, fun y hy => by
      rcases List.mem_append.1 hy with h | h
      · have := hb2 y (List.mem_of_mem_take h); omega
      · rw [List.mem_singleton.1 h]; decide⟩
  have q5 : numJ ⟨jn ((bys rs).take i ++ [([109, 111, 114, 101] : List Int)]), ((jn ((bys rs).take i)).length : Nat), [], 0, 1000000, m1 + 1, none, false⟩ [] = true := by
    simp only [numJ, Bool.and_eq_true, decide_eq_true_eq, List.all_eq_true] at q4 ⊢
    exact ⟨q4.1, q4.2.1, q4.2.2.1, by simp, fun y hy => by cases hy⟩
  -- rows
  have g1 := rwN_all (bys rs)
  have g2 := rwN_all ((bys rs).take i)
  have g3 := rwN_all ((bys rs).take i ++ [([109, 111, 114, 101] : List Int)])
  have b1 := bys_rwN (bys rs)
  have b2 := bys_rwN ((bys rs).take i)
  have b3 := bys_rwN ((bys rs).take i ++ [([109, 111, 114, 101] : List Int)])
  have n1 : ((bys rs).map rwN).length = rs.length := by rw [List.length_map, bys_len]
  have n2 : (((bys rs).take i).map rwN).length = i := by rw [List.length_map, hLl]
  have n3 : (((bys rs).take i ++ [([109, 111, 114, 101] : List Int)]).map rwN).length = i + 1 := by rw [List.length_map, List.length_append, hLl]; rfl
  have w1 : (((bys rs).take i ++ [([109, 111, 114, 101] : List Int)]).map rwN).take i = ((bys rs).take i).map rwN := by rw [List.map_append, List.take_left' n2]
  have t1 : ((bys rs).map rwN).take rs.length = (bys rs).map rwN := List.take_of_length_le (by omega)
  have t2 : (((bys rs).take i).map rwN).take i = ((bys rs).take i).map rwN := List.take_of_length_le (by omega)
  have t3 : (((bys rs).take i ++ [([109, 111, 114, 101] : List Int)]).map rwN).take (i + 1) = ((bys rs).take i ++ [([109, 111, 114, 101] : List Int)]).map rwN := List.take_of_length_le (by omega)
  have b4 : bys (rs.take i) = (bys rs).take i := bys_take i
  have g4 : (rs.take i).all isB = true := List.all_eq_true.2 fun r hr => List.all_eq_true.1 hm r (List.mem_of_mem_take hr)
  simp only [okS] at eV eL
  have z1 : ¬ (i : Int) < (k : Nat) := by omega
  have z2 : (i : Int) ≤ rs.length := by omega
  have hci : ((i + 1 : Nat) : Int) = (i : Int) + 1 := rfl
  have hct : ((i : Int) + 1).toNat = i + 1 := by omega
  have z3 : (i : Int) ≤ (i : Int) + 1 := by omega
  have f1 := isB_flat g1
  have f2 := isB_flat g2
  have f3 := isB_flat g3
  have f4 := isB_flat g4
  clear hop hop2 hft hLf hL2f hmf hok hb2
  generalize (jn ((bys rs).take k)).length = ff at *
  generalize hL0 : (bys rs).take i = L at *
  generalize L ++ [[109, 111, 114, 101]] = L2 at *
  generalize hys : (bys rs).map rwN = ys at *
  generalize hus : L.map rwN = us at *
  generalize hvs : L2.map rwN = vs at *
  generalize jn L2 = lg2 at *
  generalize jn L = lgi at *
  generalize (jn (bys rs)).take M = lgc at *
  generalize jn (bys rs) = lg at *
  refine ExQ_ok [] 6000 plsOk kJC_ok ?_
  simp only [conf0]
  (try rw [exh]); simp (maxSteps := 4000000) only [List.mem_cons, List.not_mem_nil, hf.lv, hf.ren, hm, hb, hk, hkk, hfm, hL, hCr, eV, eL, hap, eV2, eL2, hfm2, q0, q1, q2, q3, q4, q5, g1, g2, g3, g4, b1, b2, b3, b4, hL0, hys, hus, hvs, n1, n2, n3, w1, t1, t2, t3, z1, z2, z3, hci, hct, Int.le_refl, f1.lv, f1.ren, f2.lv, f2.ren, f3.lv, f3.ren, f4.lv, f4.ren, Int.toNat_natCast, decide_false, Bool.not_true, go_sem, ↓bsplit_true, ↓bsplit_false, ↓reduceIte, Nat.reduceLT, Nat.reduceLeDiff, Nat.reduceEqDiff, Nat.reduceAdd, Nat.reduceSub, Nat.reduceMul, Nat.reduceBEq, Nat.reduceBNe, reduceCtorEq, Int.reduceEq, Int.reduceLT, Int.reduceLE, Int.reduceAdd, Int.reduceSub, Int.reduceMul, Int.reduceToNat, ↓xs5, ↓xs23]
  repeat (refine And.intro (a := (_ = true)) (by first | (simp; done) | (simp; omega)) ?_)
  exact rfl
end JC
end Go.Proofs.Ytlhjbjpcnncndaa
