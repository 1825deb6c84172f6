/- Journals: what one is in memory; the words of Sync, Append. -/
import Derived.Test.YtlhjbjpcnncndaaDW4
import Derived.Test.YtlhjbjpcnncndaaFR7
set_option linter.unusedSimpArgs false
set_option linter.unusedVariables false
namespace Go.Proofs.Ytlhjbjpcnncndaa
open Go Go.SY
namespace JW
open DW
attribute [local go_sem] Ex stops inK stepF frsF frF itemF codeF condF opsF opsW opF callO drF drO drW drC stepS wtS gdst gdl sopF pv evq orl bltF callF calleeS popF lopF bltP callP cls lvA rdl quiet p_move p_assign p_pick p_nilCheck
attribute [local go_sem] p_binOp p_unOp p_convert p_fieldAddr p_indexAddr p_index p_slice p_makeFunc p_extract p_field p_build p_len p_cap p_min p_max l_load l_convert l_slice zerR roomR appRR roomN appNN cpSrcN clN cpSrc cpR clR e_clear srcR dstR srcN dstN e_store e_alloc e_box e_buildSlice e_makeSlice e_append e_copy
attribute [local go_sem] e_convert SY.get SY.put SY.ev SY.mk SY.nth SY.lvl SY.setl SY.ini wid wids dr tk flat at1 pack parts rdC rdCt wrC wrCt ar bits2 bopInt bopStr bopEq isPtr isSl isBl eqPs eqLf bop pickAV bnd subO cutOf okMx fillA plFs nz
attribute [local go_sem] minI numsAt aOf hd1 hdL immL isArr ctOf rowsOf numsAV rep elCt wrRow killO chR enterS leaveS retS endS exitS gotoS finishS killL isDefs setPs roundS resS resAll tup1 conf0 AV.scal plk spz Ct.cell exq_zero exq_go exq_d exq_n lvCt lvE
attribute [local go_sem] exq_t exq_f exq_t0 exq_f0 List.toList_toArray Bool.and_true Bool.true_and Bool.not_false Bool.not_true List.contains_nil List.contains_cons Bool.or_false Bool.false_or Option.isSome_some Option.isSome_none Option.isNone_none Option.isNone_some true_and and_true Option.some.injEq Bool.false_eq_true List.map_cons List.map_nil List.all_cons List.all_nil Bool.and_self List.drop_succ_cons List.drop_zero List.length_cons List.length_nil List.cons_append List.nil_append Option.map_some Option.map_none List.append_nil Nat.zero_add Nat.add_zero Nat.sub_zero Nat.zero_mul Nat.mul_one
attribute [local go_sem] Int.toNat_natCast Int.toNat_zero Int.toNat_one Int.add_zero Int.sub_zero Int.cast_ofNat_Int decide_true decide_false Option.getD_some Option.getD_none ktB ktX ktOf conK extK ovlK rwz alive alive0 mks noMk lndL lnd lvB lvL lvR lvT tB_tt tB_ft tB_ff okBls shB ren renL renR renCt ne_eq not_false_eq_true not_true_eq_false and_false
attribute [local go_sem] false_and and_self ti0 ti1 ti2 ti3 ti4 ti5 ti6 ti7 ti8 ti9 ti10 ti11 ti12 ti13 ti14 ti15 ti16 ti17 ti18 ti19 ti20 ti21 ti22 ti23 ti24 ti25 ti26 ti27 ti28 ti29 ti30 ti31 ti32 ti33 ti34 ti35 ti36 ti37
attribute [local go_sem] ti38 ti39 ti40 ti41 ti42 ti43 ti44 ti45 ti46 ti47 ti48 ti49 ti50 ti51 ti52 ti53 ti54 ti55 ti56 ti57 ti58 ti59 ti60 ti61 ti62 ti63 ti64 ti65 ti66 ti67 ti68 ti69 ti70 ti71 ti72 ti73 ti74 ti75 ti76 ti77
attribute [local go_sem] ti78 ti79 ti80 ti81 ti82 ti83 ti84 ti85 ti86 ti87 ti88 ti89 ti90 ti91 ti92 ti93 ti94 ti95 ti96 ti97 ti98 ti99 ti100 ti101 ti102 ti103 ti104 regAt fi24 body24 Try.f24 fi8 body8 Try.f8 fi9 body9 Try.f9 r8_1 r8_5 r8_9
attribute [local go_sem] r8_10 r8_14 r8_16 r8_20 r8_22 r8_24 r9_1 r9_5 r9_9 r9_10 r24_1 r24_3 plA8 pl8 plA10 pl10 plA11 pl11 plA17 pl17 plA22 pl22 plA25 pl25 plA31 pl31 plA37 pl37 plA45 pl45 plA53 pl53 plA55 pl55
theorem plsOk : PlOk Try.prog (plOf pls) := KB.plsOk
theorem noK : KOk Try.prog (plOf pls) (fun _ => none) := KB.noK
def kF : KT := ktOf [(25, sPut), (29, sJoin), (37, sSplit), (49, sSize)]
theorem kF_ok : KOk Try.prog (plOf pls) kF := ktOf_ok plsOk fun x hx => by
  simp only [List.mem_cons, List.not_mem_nil, or_false] at hx
  rcases hx with rfl | rfl | rfl | rfl
  · exact put_ok
  · exact join_ok
  · exact split_ok
  · exact size_ok
def kJ0 : KT := kDj (ktW 27 (conK sCln) kF)
theorem kJ0_ok : KOk Try.prog (plOf pls) kJ0 := kDj_ok (ktW_ok kF_ok (specW_ok plsOk cln_ok))
def fu5 : Option Int → AV
  | none => .v (.pointer none)
  | some _ => .ptr 5 0 1 0
def layJ (s : DS) (rs : List (List AV)) : Bls := some (.lit [.ptr 1 0 9 0, .sl 2 0 1 rs.length none]) ::
  some (.lit [.sl 3 0 1 s.l.length none, .v (.int .i64 s.f), .sl 4 0 1 s.x.length none, .v (.int .i64 s.xf), .v (.int .i64 s.room), .v (.int .i64 s.n), fu5 s.u, .v (.bool s.out), .v (.bool true)]) ::
  some (.rows 1 rs) :: some (.num .u8 s.l) :: some (.num .u8 s.x) :: fuL s.u
attribute [local go_sem] kJ0 kDj kF ktOf ktO ktW conK objK objB updT mapB rhoN nm mrk readK sCln sPut sJoin sSplit sSize mapI DW.osB DW.osI DW.osK DW.osR findD mApp mNext mSync mSwitch mFirm mCrash mFuse rdV rdX sNew layD fuP fuL nilN
attribute [local go_sem] nilR List.append_nil List.nodup_cons List.mem_cons List.not_mem_nil List.take_succ_cons List.take_zero List.getD_cons_zero List.getD_cons_succ KB.btt KB.bff not_true_eq_false not_false_eq_true List.drop_zero List.length_replicate
set_option maxRecDepth 100000 in
set_option maxHeartbeats 8000000 in
theorem jsync_word (s : DS) (rs : List (List AV)) (hs : numOk s = true) (hr : rs.all isB = true) : Word Try.prog (plOf pls) 9 [.ptr 0 0 2 0] (layJ s rs) (ObQ 2 (.v (.int .i64 (dSync s).1)) (layJ (dSync s).2 rs)) := by
  obtain ⟨l, f, x, xf, room, m, u, out⟩ := s
  have hf := isB_flat hr
  refine ⟨_, fi9, by simp, fun C hC hl => ?_⟩
  cases u with
  | none =>
    generalize hd : dSync ⟨l, f, x, xf, room, m, none, out⟩ = r
    obtain ⟨e, l', f', x', xf', room', m', u', out'⟩ := r
    cases u' with
    | none =>
      refine ExQ_ok [] 4000 plsOk kJ0_ok ?_
      simp only [conf0, layJ, fu5, fuL]
      (try rw [exh]); simp (maxSteps := 4000000) only [hs, hd, go_sem, ↓bsplit_true, ↓bsplit_false, ↓reduceIte, Nat.reduceLT, Nat.reduceLeDiff, Nat.reduceEqDiff, Nat.reduceAdd, Nat.reduceSub, Nat.reduceMul, Nat.reduceBEq, Nat.reduceBNe, reduceCtorEq, Int.reduceEq, Int.reduceLT, Int.reduceLE, Int.reduceAdd, Int.reduceSub, Int.reduceMul, Int.reduceToNat, ↓xs8, ↓xs9, ↓xs24]
      repeat (refine And.intro (a := (_ = true)) (by first | (simp; done) | (simp; omega)) ?_)
      exact ObQ.mk [0, 1, 2, 5, 6] (by decide) rfl rfl rfl ⟨rfl, rfl, by simp only [renCt, hf.ren]; exact rfl, rfl, rfl, trivial⟩
    | some w' =>
      refine ExQ_ok [] 4000 plsOk kJ0_ok ?_
      simp only [conf0, layJ, fu5, fuL]
      (try rw [exh]); simp (maxSteps := 4000000) only [hs, hd, go_sem, ↓bsplit_true, ↓bsplit_false, ↓reduceIte, Nat.reduceLT, Nat.reduceLeDiff, Nat.reduceEqDiff, Nat.reduceAdd, Nat.reduceSub, Nat.reduceMul, Nat.reduceBEq, Nat.reduceBNe, reduceCtorEq, Int.reduceEq, Int.reduceLT, Int.reduceLE, Int.reduceAdd, Int.reduceSub, Int.reduceMul, Int.reduceToNat, ↓xs8, ↓xs9, ↓xs24]
      repeat (refine And.intro (a := (_ = true)) (by first | (simp; done) | (simp; omega)) ?_)
      exact ObQ.mk [0, 1, 2, 5, 6, 7] (by decide) rfl rfl rfl ⟨rfl, rfl, by simp only [renCt, hf.ren]; exact rfl, rfl, rfl, rfl, trivial⟩
  | some w =>
    generalize hd : dSync ⟨l, f, x, xf, room, m, some w, out⟩ = r
    obtain ⟨e, l', f', x', xf', room', m', u', out'⟩ := r
    cases u' with
    | none =>
      refine ExQ_ok [] 4000 plsOk kJ0_ok ?_
      simp only [conf0, layJ, fu5, fuL]
      (try rw [exh]); simp (maxSteps := 4000000) only [hs, hd, go_sem, ↓bsplit_true, ↓bsplit_false, ↓reduceIte, Nat.reduceLT, Nat.reduceLeDiff, Nat.reduceEqDiff, Nat.reduceAdd, Nat.reduceSub, Nat.reduceMul, Nat.reduceBEq, Nat.reduceBNe, reduceCtorEq, Int.reduceEq, Int.reduceLT, Int.reduceLE, Int.reduceAdd, Int.reduceSub, Int.reduceMul, Int.reduceToNat, ↓xs8, ↓xs9, ↓xs24]
      repeat (refine And.intro (a := (_ = true)) (by first | (simp; done) | (simp; omega)) ?_)
      exact ObQ.mk [0, 1, 2, 6, 7] (by decide) rfl rfl rfl ⟨rfl, rfl, by simp only [renCt, hf.ren]; exact rfl, rfl, rfl, trivial⟩
    | some w' =>
      refine ExQ_ok [] 4000 plsOk kJ0_ok ?_
      simp only [conf0, layJ, fu5, fuL]
      (try rw [exh]); simp (maxSteps := 4000000) only [hs, hd, go_sem, ↓bsplit_true, ↓bsplit_false, ↓reduceIte, Nat.reduceLT, Nat.reduceLeDiff, Nat.reduceEqDiff, Nat.reduceAdd, Nat.reduceSub, Nat.reduceMul, Nat.reduceBEq, Nat.reduceBNe, reduceCtorEq, Int.reduceEq, Int.reduceLT, Int.reduceLE, Int.reduceAdd, Int.reduceSub, Int.reduceMul, Int.reduceToNat, ↓xs8, ↓xs9, ↓xs24]
      repeat (refine And.intro (a := (_ = true)) (by first | (simp; done) | (simp; omega)) ?_)
      exact ObQ.mk [0, 1, 2, 6, 7, 8] (by decide) rfl rfl rfl ⟨rfl, rfl, by simp only [renCt, hf.ren]; exact rfl, rfl, rfl, rfl, trivial⟩
def jApp (s : DS) (rs : List (List AV)) (b : List Int) : Int × DS × List (List AV) :=
  if b.length = 0 then (2, s, rs) else if b.length ≤ 4000 then ((dLay false s (frm b)).1, (dLay false s (frm b)).2, if (dLay false s (frm b)).1 = 0 then rs ++ [rwN b] else rs) else (3, s, rs)
set_option maxRecDepth 100000 in
set_option maxHeartbeats 8000000 in
theorem japp_word (s : DS) (rs : List (List AV)) (t : Bool) (b : List Int) (c : Option Nat) (hs : numOk s = true) (hr : rs.all isB = true) (hrn : rs.length ≤ 1000000000) : Word Try.prog (plOf pls) 8 [.ptr 0 0 2 0, .imn t .u8 b c] (layJ s rs) (ObQ 2 (.v (.int .i64 (jApp s rs b).1)) (layJ (jApp s rs b).2.1 (jApp s rs b).2.2)) := by
  obtain ⟨l, f, x, xf, room, m, u, out⟩ := s
  have hf := isB_flat hr
  refine ⟨_, fi8, by simp, fun C hC hl => ?_⟩
  have tb : b.take b.length = b := List.take_of_length_le (Nat.le_refl _)
  by_cases h0 : b.length = 0
  · have e0 : ∀ s, jApp s rs b = (2, s, rs) := fun s => by rw [jApp, if_pos h0]
    rw [e0]
    have p1 : putV b = .tup [.nil, .v (.int .i64 2)] := by rw [putV, if_pos h0]
    have p2 : putL b = [] := by rw [putL, if_pos h0]
    cases u with
    | none =>
      refine ExQ_ok [] 4000 plsOk kJ0_ok ?_
      simp only [conf0, layJ, fu5, fuL]
      (try rw [exh]); simp (maxSteps := 4000000) only [hs, p1, p2, go_sem, ↓bsplit_true, ↓bsplit_false, ↓reduceIte, Nat.reduceLT, Nat.reduceLeDiff, Nat.reduceEqDiff, Nat.reduceAdd, Nat.reduceSub, Nat.reduceMul, Nat.reduceBEq, Nat.reduceBNe, reduceCtorEq, Int.reduceEq, Int.reduceLT, Int.reduceLE, Int.reduceAdd, Int.reduceSub, Int.reduceMul, Int.reduceToNat, ↓xs8, ↓xs9, ↓xs24]
      repeat (refine And.intro (a := (_ = true)) (by first | (simp; done) | (simp; omega)) ?_)
      exact ObQ.mk [0, 1, 2, 3, 4] (by decide) rfl rfl rfl ⟨rfl, rfl, by simp only [renCt, hf.ren]; exact rfl, rfl, rfl, trivial⟩
    | some w =>
      refine ExQ_ok [] 4000 plsOk kJ0_ok ?_
      simp only [conf0, layJ, fu5, fuL]
      (try rw [exh]); simp (maxSteps := 4000000) only [hs, p1, p2, go_sem, ↓bsplit_true, ↓bsplit_false, ↓reduceIte, Nat.reduceLT, Nat.reduceLeDiff, Nat.reduceEqDiff, Nat.reduceAdd, Nat.reduceSub, Nat.reduceMul, Nat.reduceBEq, Nat.reduceBNe, reduceCtorEq, Int.reduceEq, Int.reduceLT, Int.reduceLE, Int.reduceAdd, Int.reduceSub, Int.reduceMul, Int.reduceToNat, ↓xs8, ↓xs9, ↓xs24]
      repeat (refine And.intro (a := (_ = true)) (by first | (simp; done) | (simp; omega)) ?_)
      exact ObQ.mk [0, 1, 2, 3, 4, 5] (by decide) rfl rfl rfl ⟨rfl, rfl, by simp only [renCt, hf.ren]; exact rfl, rfl, rfl, rfl, trivial⟩
  by_cases h4 : b.length ≤ 4000
  · have p1 : putV b = .tup [.sl 0 0 1 (frm b).length none, .v (.int .i64 0)] := by rw [putV, if_neg h0, if_pos h4]
    have p2 : putL b = [some (.num .u8 (frm b))] := by rw [putL, if_neg h0, if_pos h4]
    have e0 : ∀ s, jApp s rs b = ((dLay false s (frm b)).1, (dLay false s (frm b)).2, if (dLay false s (frm b)).1 = 0 then rs ++ [rwN b] else rs) := fun s => by rw [jApp, if_neg h0, if_pos h4]
    have hfl : (frm b).length ≤ 4008 := by rw [frm_len]; omega
    rw [e0]
    have tf : (frm b).take (frm b).length = frm b := List.take_of_length_le (Nat.le_refl _)
    have trs : rs.take rs.length = rs := List.take_of_length_le (Nat.le_refl _)
    obtain ⟨ys, hys⟩ : ∃ ys, rs ++ [[AV.imn false .u8 b none]] = ys := ⟨_, rfl⟩
    have hyl : ys.length = rs.length + 1 := by rw [← hys, List.length_append]; rfl
    have hyb : ys.all isB = true := by rw [← hys, List.all_append, hr]; rfl
    have hyf := isB_flat hyb
    generalize hfr : frm b = fr at *
    cases u with
    | none =>
      generalize hd : dLay false ⟨l, f, x, xf, room, m, none, out⟩ fr = r
      obtain ⟨e, l', f', x', xf', room', m', u', out'⟩ := r
      by_cases he : e = 0
      · subst he
        simp only [if_true, rwN, hys]
        cases u' with
        | none =>
          refine ExQ_ok [] 4000 plsOk kJ0_ok ?_
          simp only [conf0, layJ, fu5, fuL]
          (try rw [exh]); simp (maxSteps := 4000000) only [hs, p1, p2, tf, trs, tb, hd, hys, hyl, List.nil_append, List.take_nil, go_sem, ↓bsplit_true, ↓bsplit_false, ↓reduceIte, Nat.reduceLT, Nat.reduceLeDiff, Nat.reduceEqDiff, Nat.reduceAdd, Nat.reduceSub, Nat.reduceMul, Nat.reduceBEq, Nat.reduceBNe, reduceCtorEq, Int.reduceEq, Int.reduceLT, Int.reduceLE, Int.reduceAdd, Int.reduceSub, Int.reduceMul, Int.reduceToNat, ↓xs8, ↓xs9, ↓xs24]
          repeat (refine And.intro (a := (_ = true)) (by first | (simp; done) | (simp; omega)) ?_)
          exact ObQ.mk [0, 1, 11, 6, 7] (by decide) rfl rfl rfl ⟨rfl, rfl, by simp only [renCt, hyf.ren]; exact rfl, rfl, rfl, trivial⟩
        | some w' =>
          refine ExQ_ok [] 4000 plsOk kJ0_ok ?_
          simp only [conf0, layJ, fu5, fuL]
          (try rw [exh]); simp (maxSteps := 4000000) only [hs, p1, p2, tf, trs, tb, hd, hys, hyl, List.nil_append, List.take_nil, go_sem, ↓bsplit_true, ↓bsplit_false, ↓reduceIte, Nat.reduceLT, Nat.reduceLeDiff, Nat.reduceEqDiff, Nat.reduceAdd, Nat.reduceSub, Nat.reduceMul, Nat.reduceBEq, Nat.reduceBNe, reduceCtorEq, Int.reduceEq, Int.reduceLT, Int.reduceLE, Int.reduceAdd, Int.reduceSub, Int.reduceMul, Int.reduceToNat, ↓xs8, ↓xs9, ↓xs24]
          repeat (refine And.intro (a := (_ = true)) (by first | (simp; done) | (simp; omega)) ?_)
          exact ObQ.mk [0, 1, 12, 6, 7, 8] (by decide) rfl rfl rfl ⟨rfl, rfl, by simp only [renCt, hyf.ren]; exact rfl, rfl, rfl, rfl, trivial⟩
      · have e1 : (if e = 0 then rs ++ [rwN b] else rs) = rs := if_neg he
        simp only [e1]
        cases u' with
        | none =>
          refine ExQ_ok [] 4000 plsOk kJ0_ok ?_
          simp only [conf0, layJ, fu5, fuL]
          (try rw [exh]); simp (maxSteps := 4000000) only [hs, p1, p2, tf, trs, tb, hd, hys, hyl, he, List.nil_append, List.take_nil, go_sem, ↓bsplit_true, ↓bsplit_false, ↓reduceIte, Nat.reduceLT, Nat.reduceLeDiff, Nat.reduceEqDiff, Nat.reduceAdd, Nat.reduceSub, Nat.reduceMul, Nat.reduceBEq, Nat.reduceBNe, reduceCtorEq, Int.reduceEq, Int.reduceLT, Int.reduceLE, Int.reduceAdd, Int.reduceSub, Int.reduceMul, Int.reduceToNat, ↓xs8, ↓xs9, ↓xs24]
          repeat (refine And.intro (a := (_ = true)) (by first | (simp; done) | (simp; omega)) ?_)
          exact ObQ.mk [0, 1, 2, 6, 7] (by decide) rfl rfl rfl ⟨rfl, rfl, by simp only [renCt, hf.ren]; exact rfl, rfl, rfl, trivial⟩
        | some w' =>
          refine ExQ_ok [] 4000 plsOk kJ0_ok ?_
          simp only [conf0, layJ, fu5, fuL]
          (try rw [exh]); simp (maxSteps := 4000000) only [hs, p1, p2, tf, trs, tb, hd, hys, hyl, he, List.nil_append, List.take_nil, go_sem, ↓bsplit_true, ↓bsplit_false, ↓reduceIte, Nat.reduceLT, Nat.reduceLeDiff, Nat.reduceEqDiff, Nat.reduceAdd, Nat.reduceSub, Nat.reduceMul, Nat.reduceBEq, Nat.reduceBNe, reduceCtorEq, Int.reduceEq, Int.reduceLT, Int.reduceLE, Int.reduceAdd, Int.reduceSub, Int.reduceMul, Int.reduceToNat, ↓xs8, ↓xs9, ↓xs24]
          repeat (refine And.intro (a := (_ = true)) (by first | (simp; done) | (simp; omega)) ?_)
          exact ObQ.mk [0, 1, 2, 6, 7, 8] (by decide) rfl rfl rfl ⟨rfl, rfl, by simp only [renCt, hf.ren]; exact rfl, rfl, rfl, rfl, trivial⟩
    | some w =>
      generalize hd : dLay false ⟨l, f, x, xf, room, m, some w, out⟩ fr = r
      obtain ⟨e, l', f', x', xf', room', m', u', out'⟩ := r
      by_cases he : e = 0
      · subst he
        simp only [if_true, rwN, hys]
        cases u' with
        | none =>
          refine ExQ_ok [] 4000 plsOk kJ0_ok ?_
          simp only [conf0, layJ, fu5, fuL]
          (try rw [exh]); simp (maxSteps := 4000000) only [hs, p1, p2, tf, trs, tb, hd, hys, hyl, List.nil_append, List.take_nil, go_sem, ↓bsplit_true, ↓bsplit_false, ↓reduceIte, Nat.reduceLT, Nat.reduceLeDiff, Nat.reduceEqDiff, Nat.reduceAdd, Nat.reduceSub, Nat.reduceMul, Nat.reduceBEq, Nat.reduceBNe, reduceCtorEq, Int.reduceEq, Int.reduceLT, Int.reduceLE, Int.reduceAdd, Int.reduceSub, Int.reduceMul, Int.reduceToNat, ↓xs8, ↓xs9, ↓xs24]
          repeat (refine And.intro (a := (_ = true)) (by first | (simp; done) | (simp; omega)) ?_)
          exact ObQ.mk [0, 1, 12, 7, 8] (by decide) rfl rfl rfl ⟨rfl, rfl, by simp only [renCt, hyf.ren]; exact rfl, rfl, rfl, trivial⟩
        | some w' =>
          refine ExQ_ok [] 4000 plsOk kJ0_ok ?_
          simp only [conf0, layJ, fu5, fuL]
          (try rw [exh]); simp (maxSteps := 4000000) only [hs, p1, p2, tf, trs, tb, hd, hys, hyl, List.nil_append, List.take_nil, go_sem, ↓bsplit_true, ↓bsplit_false, ↓reduceIte, Nat.reduceLT, Nat.reduceLeDiff, Nat.reduceEqDiff, Nat.reduceAdd, Nat.reduceSub, Nat.reduceMul, Nat.reduceBEq, Nat.reduceBNe, reduceCtorEq, Int.reduceEq, Int.reduceLT, Int.reduceLE, Int.reduceAdd, Int.reduceSub, Int.reduceMul, Int.reduceToNat, ↓xs8, ↓xs9, ↓xs24]
          repeat (refine And.intro (a := (_ = true)) (by first | (simp; done) | (simp; omega)) ?_)
          exact ObQ.mk [0, 1, 13, 7, 8, 9] (by decide) rfl rfl rfl ⟨rfl, rfl, by simp only [renCt, hyf.ren]; exact rfl, rfl, rfl, rfl, trivial⟩
      · have e1 : (if e = 0 then rs ++ [rwN b] else rs) = rs := if_neg he
        simp only [e1]
        cases u' with
        | none =>
          refine ExQ_ok [] 4000 plsOk kJ0_ok ?_
          simp only [conf0, layJ, fu5, fuL]
          (try rw [exh]); simp (maxSteps := 4000000) only [hs, p1, p2, tf, trs, tb, hd, hys, hyl, he, List.nil_append, List.take_nil, go_sem, ↓bsplit_true, ↓bsplit_false, ↓reduceIte, Nat.reduceLT, Nat.reduceLeDiff, Nat.reduceEqDiff, Nat.reduceAdd, Nat.reduceSub, Nat.reduceMul, Nat.reduceBEq, Nat.reduceBNe, reduceCtorEq, Int.reduceEq, Int.reduceLT, Int.reduceLE, Int.reduceAdd, Int.reduceSub, Int.reduceMul, Int.reduceToNat, ↓xs8, ↓xs9, ↓xs24]
          repeat (refine And.intro (a := (_ = true)) (by first | (simp; done) | (simp; omega)) ?_)
          exact ObQ.mk [0, 1, 2, 7, 8] (by decide) rfl rfl rfl ⟨rfl, rfl, by simp only [renCt, hf.ren]; exact rfl, rfl, rfl, trivial⟩
        | some w' =>
          refine ExQ_ok [] 4000 plsOk kJ0_ok ?_
          simp only [conf0, layJ, fu5, fuL]
          (try rw [exh]); simp (maxSteps := 4000000) only [hs, p1, p2, tf, trs, tb, hd, hys, hyl, he, List.nil_append, List.take_nil, go_sem, ↓bsplit_true, ↓bsplit_false, ↓reduceIte, Nat.reduceLT, Nat.reduceLeDiff, Nat.reduceEqDiff, Nat.reduceAdd, Nat.reduceSub, Nat.reduceMul, Nat.reduceBEq, Nat.reduceBNe, reduceCtorEq, Int.reduceEq, Int.reduceLT, Int.reduceLE, Int.reduceAdd, Int.reduceSub, Int.reduceMul, Int.reduceToNat, ↓xs8, ↓xs9, ↓xs24]
          repeat (refine And.intro (a := (_ = true)) (by first | (simp; done) | (simp; omega)) ?_)
          exact ObQ.mk [0, 1, 2, 7, 8, 9] (by decide) rfl rfl rfl ⟨rfl, rfl, by simp only [renCt, hf.ren]; exact rfl, rfl, rfl, rfl, trivial⟩
  have e0 : ∀ s, jApp s rs b = (3, s, rs) := fun s => by rw [jApp, if_neg h0, if_neg h4]
  rw [e0]
  have p1 : putV b = .tup [.nil, .v (.int .i64 3)] := by rw [putV, if_neg h0, if_neg h4]
  have p2 : putL b = [] := by rw [putL, if_neg h0, if_neg h4]
  cases u with
  | none =>
    refine ExQ_ok [] 4000 plsOk kJ0_ok ?_
    simp only [conf0, layJ, fu5, fuL]
    (try rw [exh]); simp (maxSteps := 4000000) only [hs, p1, p2, go_sem, ↓bsplit_true, ↓bsplit_false, ↓reduceIte, Nat.reduceLT, Nat.reduceLeDiff, Nat.reduceEqDiff, Nat.reduceAdd, Nat.reduceSub, Nat.reduceMul, Nat.reduceBEq, Nat.reduceBNe, reduceCtorEq, Int.reduceEq, Int.reduceLT, Int.reduceLE, Int.reduceAdd, Int.reduceSub, Int.reduceMul, Int.reduceToNat, ↓xs8, ↓xs9, ↓xs24]
    repeat (refine And.intro (a := (_ = true)) (by first | (simp; done) | (simp; omega)) ?_)
    exact ObQ.mk [0, 1, 2, 3, 4] (by decide) rfl rfl rfl ⟨rfl, rfl, by simp only [renCt, hf.ren]; exact rfl, rfl, rfl, trivial⟩
  | some w =>
    refine ExQ_ok [] 4000 plsOk kJ0_ok ?_
    simp only [conf0, layJ, fu5, fuL]
    (try rw [exh]); simp (maxSteps := 4000000) only [hs, p1, p2, go_sem, ↓bsplit_true, ↓bsplit_false, ↓reduceIte, Nat.reduceLT, Nat.reduceLeDiff, Nat.reduceEqDiff, Nat.reduceAdd, Nat.reduceSub, Nat.reduceMul, Nat.reduceBEq, Nat.reduceBNe, reduceCtorEq, Int.reduceEq, Int.reduceLT, Int.reduceLE, Int.reduceAdd, Int.reduceSub, Int.reduceMul, Int.reduceToNat, ↓xs8, ↓xs9, ↓xs24]
    repeat (refine And.intro (a := (_ = true)) (by first | (simp; done) | (simp; omega)) ?_)
    exact ObQ.mk [0, 1, 2, 3, 4, 5] (by decide) rfl rfl rfl ⟨rfl, rfl, by simp only [renCt, hf.ren]; exact rfl, rfl, rfl, rfl, trivial⟩
end JW
end Go.Proofs.Ytlhjbjpcnncndaa
