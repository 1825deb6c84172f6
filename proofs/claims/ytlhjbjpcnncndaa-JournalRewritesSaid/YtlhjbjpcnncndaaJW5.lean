/- Journals: the word of Open. -/
import Derived.Test.YtlhjbjpcnncndaaJW4
set_option linter.unusedSimpArgs false
set_option linter.unusedVariables false
namespace Go.Proofs.Ytlhjbjpcnncndaa
open Go Go.SY
namespace JW
open DW
attribute [local go_sem] Ex stops inK stepF frsF frF itemF codeF condF opsF opsW opF callO drF drO drW drC stepS wtS gdst gdl sopF pv evq orl bltF callF calleeS popF lopF bltP callP cls lvA rdl quiet p_move p_assign p_pick p_nilCheck
attribute [local go_sem] p_binOp p_unOp p_convert p_fieldAddr p_indexAddr p_index p_slice p_makeFunc p_extract p_field p_build p_len p_cap p_min p_max l_load l_convert l_slice zerR roomR appRR roomN appNN cpSrcN clN cpSrc cpR clR e_clear srcR dstR srcN dstN e_store e_alloc e_box e_buildSlice e_makeSlice e_append e_copy
attribute [local go_sem] e_convert SY.get SY.put SY.ev SY.mk SY.nth SY.lvl SY.setl SY.ini wid wids dr tk flat at1 pack parts rdC rdCt wrC wrCt ar bits2 bopInt bopStr bopEq isPtr isSl isBl eqPs eqLf bop pickAV bnd subO cutOf okMx fillA plFs nz
attribute [local go_sem] minI numsAt aOf hd1 hdL immL isArr ctOf rowsOf numsAV rep elCt wrRow killO chR enterS leaveS retS endS exitS gotoS finishS killL isDefs setPs roundS resS resAll tup1 conf0 AV.scal plk spz Ct.cell exq_zero exq_go exq_d exq_n lvCt lvE
attribute [local go_sem] exq_t exq_f exq_t0 exq_f0 List.toList_toArray Bool.and_true Bool.true_and Bool.not_false Bool.not_true List.contains_nil List.contains_cons Bool.or_false Bool.false_or Option.isSome_some Option.isSome_none Option.isNone_none Option.isNone_some true_and and_true Option.some.injEq Bool.false_eq_true List.map_cons List.map_nil List.all_cons List.all_nil Bool.and_self List.drop_succ_cons List.drop_zero List.length_cons List.length_nil List.cons_append List.nil_append Option.map_some Option.map_none List.append_nil Nat.zero_add Nat.add_zero Nat.sub_zero Nat.zero_mul Nat.mul_one
attribute [local go_sem] Int.toNat_natCast Int.toNat_zero Int.toNat_one Int.add_zero Int.sub_zero Int.cast_ofNat_Int decide_true decide_false Option.getD_some Option.getD_none ktB ktX ktOf conK extK ovlK rwz alive alive0 mks noMk lndL lnd lvB lvL lvR lvT tB_tt tB_ft tB_ff okBls shB ren renL renR renCt ne_eq not_false_eq_true not_true_eq_false and_false
attribute [local go_sem] false_and and_self ti0 ti1 ti2 ti3 ti4 ti5 ti6 ti7 ti8 ti9 ti10 ti11 ti12 ti13 ti14 ti15 ti16 ti17 ti18 ti19 ti20 ti21 ti22 ti23 ti24 ti25 ti26 ti27 ti28 ti29 ti30 ti31 ti32 ti33 ti34 ti35 ti36 ti37
attribute [local go_sem] ti38 ti39 ti40 ti41 ti42 ti43 ti44 ti45 ti46 ti47 ti48 ti49 ti50 ti51 ti52 ti53 ti54 ti55 ti56 ti57 ti58 ti59 ti60 ti61 ti62 ti63 ti64 ti65 ti66 ti67 ti68 ti69 ti70 ti71 ti72 ti73 ti74 ti75 ti76 ti77
attribute [local go_sem] ti78 ti79 ti80 ti81 ti82 ti83 ti84 ti85 ti86 ti87 ti88 ti89 ti90 ti91 ti92 ti93 ti94 ti95 ti96 ti97 ti98 ti99 ti100 ti101 ti102 ti103 ti104 regAt fi14 body14 Try.f14 r14_1 r14_3 r14_7 r14_11 r14_12 r14_14 r14_18 r14_22 r14_24
attribute [local go_sem] r14_28 r14_29 plA8 pl8 plA10 pl10 plA11 pl11 plA17 pl17 plA22 pl22 plA25 pl25 plA31 pl31 plA37 pl37 plA45 pl45 plA53 pl53 plA55 pl55
theorem spl_bound : ∀ (m : Nat) (b : List Int), b.length ≤ m → (∀ x ∈ (splF b).1, 1 ≤ x.length ∧ x.length ≤ 4000) ∧ (jn (splF b).1).length ≤ b.length ∧ (splF b).2 ≤ b.length
  | m, b, hm => by
    by_cases hs : stB b = true
    · obtain ⟨h1, h2, h3, h4, -⟩ := stB_iff.1 hs
      rw [splF_go hs]
      match m, hm with
      | 0, hm => omega
      | m + 1, hm =>
        obtain ⟨g1, g2, g3⟩ := spl_bound m (b.drop (8 + getN b)) (by rw [List.length_drop]; omega)
        have hl : (recB b).length = getN b := by rw [recB, List.length_take, List.length_drop]; omega
        have e : jn (recB b :: (splF (b.drop (8 + getN b))).1) = frm (recB b) ++ jn (splF (b.drop (8 + getN b))).1 := rfl
        rw [List.length_drop] at g2 g3
        refine ⟨fun x hx => ?_, ?_, ?_⟩
        · rcases List.mem_cons.1 hx with rfl | hx
          · omega
          · exact g1 x hx
        · simp only [e]
          rw [List.length_append, frm_len, hl]
          omega
        · simp only
          omega
    · rw [splF_stop hs]
      exact ⟨fun x hx => (by cases hx), Nat.zero_le _, Nat.zero_le _⟩
theorem spl_err (b : List Int) : jErr (splF b).1 = 0 := jErr_iff.2 fun x hx => putE_iff.2 ((spl_bound _ b (Nat.le_refl _)).1 x hx)
def layO (s : DS) (rs : List (List AV)) : Bls := some (.lit [.sl 1 0 1 s.l.length none, .v (.int .i64 s.f), .sl 2 0 1 s.x.length none, .v (.int .i64 s.xf), .v (.int .i64 s.room), .v (.int .i64 s.n), fu5 s.u, .v (.bool s.out), .v (.bool true)]) ::
  some (.num .u8 s.l) :: some (.num .u8 s.x) :: some (.lit [.ptr 0 0 9 0, .sl 4 0 1 rs.length none]) :: some (.rows 1 rs) :: fuL s.u
def opR (s : DS) : Int × DS × List (List AV) := if (splF s.l).2 < s.l.length then jRw s ((splF s.l).1.map rwN) ((splF s.l).1.map rwN) else (0, s, (splF s.l).1.map rwN)
def opV (s : DS) : AV := if s.out = true then .tup [.v (.pointer none), .v (.int .i64 11)] else if (opR s).1 = 0 then .tup [.ptr 3 0 2 0, .v (.int .i64 0)] else .tup [.v (.pointer none), .v (.int .i64 (opR s).1)]
def opL (s : DS) : Bls := if s.out = true then layD s else if (opR s).1 = 0 then layO (opR s).2.1 (opR s).2.2 else layD (opR s).2.1
theorem jRw_none {s : DS} {rs ls : List (List AV)} (h : s.u = none) : (jRw s rs ls).2.1.u = none := by
  unfold jRw
  split
  · split
    · split
      · exact dSwi_none (dLay_none h)
      · exact dSwi_none (dLay_none h)
    · exact dLay_none h
  · exact h
theorem jRw_some {s : DS} {rs ls : List (List AV)} {w : Int} (h : s.u = some w) : ∃ w', (jRw s rs ls).2.1.u = some w' := by
  obtain ⟨w1, h1⟩ := dLay_some (nx := true) (b := jn (bys ls)) h
  unfold jRw
  split
  · split
    · split
      · exact dSwi_some h1
      · exact dSwi_some h1
    · exact ⟨w1, h1⟩
  · exact ⟨w, h⟩
def kOA : KT := ktO 10 2 osJw kJ0
theorem kOA_ok : KOk Try.prog (plOf pls) kOA := ktO_ok plsOk kJ0_ok ⟨_, fi10⟩ osJw_ok
def kOB : KT := kJo kJ0
theorem kOB_ok : KOk Try.prog (plOf pls) kOB := kJo_ok kJ0_ok
attribute [local go_sem] kJ0 kDj kF ktOf ktO ktW conK objK objB updT mapB rhoN nm mrk readK sCln sPut sJoin sSplit sSize mapI DW.osB DW.osI DW.osK DW.osR findD mApp mNext mSync mSwitch mFirm mCrash mFuse rdV rdX sNew nilN nilR List.append_nil List.nodup_cons
attribute [local go_sem] List.mem_cons List.not_mem_nil List.take_succ_cons List.take_zero List.getD_cons_zero List.getD_cons_succ KB.btt KB.bff not_true_eq_false not_false_eq_true List.drop_zero List.length_replicate kOA kOB kJo osJw osJo findJ layJ layD fuL fuP fu5 sSplit0
set_option maxRecDepth 100000 in
set_option maxHeartbeats 8000000 in
theorem jopen_n (l : List Int) (f : Int) (x : List Int) (xf room m : Int) (out : Bool) (hs : numJ ⟨l, f, x, xf, room, m, none, out⟩ [] = true) : Word Try.prog (plOf pls) 14 [.ptr 0 0 9 0] (layD ⟨l, f, x, xf, room, m, none, out⟩) (ObQ 1 (opV ⟨l, f, x, xf, room, m, none, out⟩) (opL ⟨l, f, x, xf, room, m, none, out⟩)) := by
  obtain ⟨h1, h2, h3, -, -⟩ := numJ_at hs
  simp only at h2 h3
  have trl : l.take l.length = l := List.take_of_length_le (Nat.le_refl _)
  have fnil := (isB_flat (rs := []) rfl).lv
  have rdt : (true = true) = True := by simp
  have rdf : (false = true) = False := by simp
  refine ⟨_, fi14, by simp, fun C hC hl => ?_⟩
  cases out with
  | true =>
    have e1 : opV ⟨l, f, x, xf, room, m, none, true⟩ = .tup [.v (.pointer none), .v (.int .i64 11)] := if_pos rfl
    have e2 : opL ⟨l, f, x, xf, room, m, none, true⟩ = layD ⟨l, f, x, xf, room, m, none, true⟩ := if_pos rfl
    rw [e1, e2]
    refine ExQ_ok [] 4000 plsOk kOA_ok ?_
    simp only [conf0]
    (try rw [exh]); simp (maxSteps := 4000000) only [h1, fnil, trl, rdt, go_sem, ↓bsplit_true, ↓bsplit_false, ↓reduceIte, Nat.reduceLT, Nat.reduceLeDiff, Nat.reduceEqDiff, Nat.reduceAdd, Nat.reduceSub, Nat.reduceMul, Nat.reduceBEq, Nat.reduceBNe, reduceCtorEq, Int.reduceEq, Int.reduceLT, Int.reduceLE, Int.reduceAdd, Int.reduceSub, Int.reduceMul, Int.reduceToNat, ↓xs14]
    repeat (refine And.intro (a := (_ = true)) (by first | (simp; done) | (simp; omega)) ?_)
    exact ObQ.mk [0, 1, 2] (by decide) rfl rfl rfl ⟨rfl, rfl, rfl, trivial⟩
  | false =>
    have e1 : opV ⟨l, f, x, xf, room, m, none, false⟩ = if (opR ⟨l, f, x, xf, room, m, none, false⟩).1 = 0 then .tup [.ptr 3 0 2 0, .v (.int .i64 0)] else .tup [.v (.pointer none), .v (.int .i64 (opR ⟨l, f, x, xf, room, m, none, false⟩).1)] := if_neg (by simp)
    have e2 : opL ⟨l, f, x, xf, room, m, none, false⟩ = if (opR ⟨l, f, x, xf, room, m, none, false⟩).1 = 0 then layO (opR ⟨l, f, x, xf, room, m, none, false⟩).2.1 (opR ⟨l, f, x, xf, room, m, none, false⟩).2.2 else layD (opR ⟨l, f, x, xf, room, m, none, false⟩).2.1 := if_neg (by simp)
    rw [e1, e2]
    clear e1 e2
    obtain ⟨b1, b2, b3⟩ := spl_bound _ l (Nat.le_refl _)
    have b4 := spl_err l
    have b5 := jn_ge (ls := (splF l).1)
    obtain ⟨rc, hrc⟩ : ∃ rc, (splF l).1 = rc := ⟨_, rfl⟩
    obtain ⟨q, hq⟩ : ∃ q, (splF l).2 = q := ⟨_, rfl⟩
    have e3 : opR ⟨l, f, x, xf, room, m, none, false⟩ = if q < l.length then jRw ⟨l, f, x, xf, room, m, none, false⟩ (rc.map rwN) (rc.map rwN) else (0, ⟨l, f, x, xf, room, m, none, false⟩, rc.map rwN) := by rw [opR, hrc, hq]
    by_cases hn : rc = []
    · have hq0 : q = 0 := by
        rw [← hq]
        by_cases hst : stB l = true
        · rw [splF_go hst] at hrc; rw [hn] at hrc; cases hrc
        · rw [splF_stop hst]
      have p1 : splV l = .tup [.nil, .v (.int .i64 0)] := by rw [splV, hrc, if_pos hn]
      have p2 : splL l = [] := by rw [splL, hrc, if_pos hn]
      subst hn
      subst hq0
      by_cases ht : (0 : Int) < l.length
      · rw [if_pos (by omega)] at e3
        rw [e3]
        clear e3
        simp only [List.map_nil]
        generalize hd : jRw ⟨l, f, x, xf, room, m, none, false⟩ [] [] = r
        obtain ⟨e, ⟨l', f', x', xf', room', m', u', out'⟩, rs'⟩ := r
        have hy : rs'.all isB = true := by have := jRw_isB (s := ⟨l, f, x, xf, room, m, none, false⟩) (rs := []) (ls := []) rfl; rw [hd] at this; exact this
        have hy := isB_flat hy
        have hu : u' = none := by have := jRw_none (s := ⟨l, f, x, xf, room, m, none, false⟩) (rs := []) (ls := []) rfl; rw [hd] at this; exact this
        subst hu
        refine ExQ_ok [] 4000 plsOk kOA_ok ?_
        simp only [conf0]
        (try rw [exh]); simp (maxSteps := 4000000) only [h1, fnil, trl, rdt, rdf, p1, p2, ht, go_sem, ↓bsplit_true, ↓bsplit_false, ↓reduceIte, Nat.reduceLT, Nat.reduceLeDiff, Nat.reduceEqDiff, Nat.reduceAdd, Nat.reduceSub, Nat.reduceMul, Nat.reduceBEq, Nat.reduceBNe, reduceCtorEq, Int.reduceEq, Int.reduceLT, Int.reduceLE, Int.reduceAdd, Int.reduceSub, Int.reduceMul, Int.reduceToNat, ↓xs14]
        repeat (refine And.intro (a := (_ = true)) (by first | (simp; done) | (simp; omega)) ?_)
        refine Rch.wk rfl (nilrow (l := 4) (pre := [.ptr 0 0 9 0]) 1 rfl 0 1) ?_
        have hb0 : bys [] = [] := rfl
        have hj0 : jErr [] = 0 := rfl
        have hjn : jn [] = [] := rfl
        by_cases he : e = 0
        · subst he
          simp only [if_true]
          refine ExQ_ok [] 4000 plsOk kOA_ok ?_
          (try rw [exh]); simp (maxSteps := 4000000) only [h1, fnil, trl, rdt, rdf, p1, p2, ht, hs, hd, hb0, hj0, hjn, List.cons_append, List.length_cons, List.length_nil, go_sem, ↓bsplit_true, ↓bsplit_false, ↓reduceIte, Nat.reduceLT, Nat.reduceLeDiff, Nat.reduceEqDiff, Nat.reduceAdd, Nat.reduceSub, Nat.reduceMul, Nat.reduceBEq, Nat.reduceBNe, reduceCtorEq, Int.reduceEq, Int.reduceLT, Int.reduceLE, Int.reduceAdd, Int.reduceSub, Int.reduceMul, Int.reduceToNat, ↓xs14]
          repeat (refine And.intro (a := (_ = true)) (by first | (simp; done) | (simp; omega)) ?_)
          simp only [layO, fu5, fuL]
          exact ObQ.mk [0, 7, 8, 4, 6] (by decide) rfl rfl rfl ⟨rfl, rfl, rfl, rfl, by simp only [renCt, hy.ren]; exact rfl, trivial⟩
        · simp only [if_neg he]
          refine ExQ_ok [] 4000 plsOk kOA_ok ?_
          (try rw [exh]); simp (maxSteps := 4000000) only [h1, fnil, trl, rdt, rdf, p1, p2, ht, hs, hd, he, hb0, hj0, hjn, List.cons_append, List.length_cons, List.length_nil, go_sem, ↓bsplit_true, ↓bsplit_false, ↓reduceIte, Nat.reduceLT, Nat.reduceLeDiff, Nat.reduceEqDiff, Nat.reduceAdd, Nat.reduceSub, Nat.reduceMul, Nat.reduceBEq, Nat.reduceBNe, reduceCtorEq, Int.reduceEq, Int.reduceLT, Int.reduceLE, Int.reduceAdd, Int.reduceSub, Int.reduceMul, Int.reduceToNat, ↓xs14]
          repeat (refine And.intro (a := (_ = true)) (by first | (simp; done) | (simp; omega)) ?_)
          exact ObQ.mk [0, 7, 8] (by decide) rfl rfl rfl ⟨rfl, rfl, rfl, trivial⟩
      · rw [if_neg (by omega)] at e3
        rw [e3]
        simp only [if_true]
        refine ExQ_ok [] 4000 plsOk kOA_ok ?_
        simp only [conf0]
        (try rw [exh]); simp (maxSteps := 4000000) only [h1, fnil, trl, rdt, rdf, p1, p2, ht, go_sem, ↓bsplit_true, ↓bsplit_false, ↓reduceIte, Nat.reduceLT, Nat.reduceLeDiff, Nat.reduceEqDiff, Nat.reduceAdd, Nat.reduceSub, Nat.reduceMul, Nat.reduceBEq, Nat.reduceBNe, reduceCtorEq, Int.reduceEq, Int.reduceLT, Int.reduceLE, Int.reduceAdd, Int.reduceSub, Int.reduceMul, Int.reduceToNat, ↓xs14]
        repeat (refine And.intro (a := (_ = true)) (by first | (simp; done) | (simp; omega)) ?_)
        simp only [layO, fu5, fuL]
        refine ObQ.wk (nilrow (l := 4) (pre := [.ptr 0 0 9 0]) 1 rfl 0 1) ?_
        exact ObQ.mk [0, 1, 2, 4, 5] (by decide) rfl rfl rfl ⟨rfl, rfl, rfl, rfl, rfl, trivial⟩
    · have p1 : splV l = .tup [.sl 0 0 1 rc.length none, .v (.int .i64 (q : Nat))] := by rw [splV, hrc, if_neg hn, hq]
      have p2 : splL l = [some (.rows 1 (rc.map rwN))] := by rw [splL, hrc, if_neg hn]
      rw [hrc] at b1 b2 b4 b5
      have hgb := rwN_all rc
      have hby := bys_rwN rc
      have hgl : (rc.map rwN).length = rc.length := List.length_map ..
      generalize rc.map rwN = gs at *
      have hg := isB_flat hgb
      have hglv := hg.lv
      have hnj : numJ ⟨l, f, x, xf, room, m, none, false⟩ gs = true := by
        simp only [numJ, Bool.and_eq_true, decide_eq_true_eq, List.all_eq_true]
        exact ⟨h1, h2, h3, by omega, fun y hy => by rw [hby] at hy; have := b1 y hy; omega⟩
      by_cases ht : (q : Int) < l.length
      · rw [if_pos (by omega)] at e3
        rw [e3]
        clear e3
        generalize hd : jRw ⟨l, f, x, xf, room, m, none, false⟩ gs gs = r
        obtain ⟨e, ⟨l', f', x', xf', room', m', u', out'⟩, rs'⟩ := r
        have hy : rs'.all isB = true := by have := jRw_isB (s := ⟨l, f, x, xf, room, m, none, false⟩) (rs := gs) (ls := gs) hgb; rw [hd] at this; exact this
        have hy := isB_flat hy
        have hu : u' = none := by have := jRw_none (s := ⟨l, f, x, xf, room, m, none, false⟩) (rs := gs) (ls := gs) rfl; rw [hd] at this; exact this
        subst hu
        by_cases he : e = 0
        · subst he
          simp only [if_true]
          refine ExQ_ok [] 4000 plsOk kOB_ok ?_
          simp only [conf0]
          (try rw [exh]); simp (maxSteps := 4000000) only [h1, fnil, trl, rdt, rdf, p1, p2, ht, hnj, hd, hglv, hg.ren, hgb, hby, hgl, b4, go_sem, ↓bsplit_true, ↓bsplit_false, ↓reduceIte, Nat.reduceLT, Nat.reduceLeDiff, Nat.reduceEqDiff, Nat.reduceAdd, Nat.reduceSub, Nat.reduceMul, Nat.reduceBEq, Nat.reduceBNe, reduceCtorEq, Int.reduceEq, Int.reduceLT, Int.reduceLE, Int.reduceAdd, Int.reduceSub, Int.reduceMul, Int.reduceToNat, ↓xs14]
          repeat (refine And.intro (a := (_ = true)) (by first | (simp; done) | (simp; omega)) ?_)
          simp only [layO, fu5, fuL]
          exact ObQ.mk [0, 7, 8, 5, 6] (by decide) rfl rfl rfl ⟨rfl, rfl, rfl, rfl, by simp only [renCt, hy.ren]; exact rfl, trivial⟩
        · simp only [if_neg he]
          refine ExQ_ok [] 4000 plsOk kOB_ok ?_
          simp only [conf0]
          (try rw [exh]); simp (maxSteps := 4000000) only [h1, fnil, trl, rdt, rdf, p1, p2, ht, hnj, hd, hglv, hg.ren, hgb, hby, hgl, b4, he, go_sem, ↓bsplit_true, ↓bsplit_false, ↓reduceIte, Nat.reduceLT, Nat.reduceLeDiff, Nat.reduceEqDiff, Nat.reduceAdd, Nat.reduceSub, Nat.reduceMul, Nat.reduceBEq, Nat.reduceBNe, reduceCtorEq, Int.reduceEq, Int.reduceLT, Int.reduceLE, Int.reduceAdd, Int.reduceSub, Int.reduceMul, Int.reduceToNat, ↓xs14]
          repeat (refine And.intro (a := (_ = true)) (by first | (simp; done) | (simp; omega)) ?_)
          exact ObQ.mk [0, 7, 8] (by decide) rfl rfl rfl ⟨rfl, rfl, rfl, trivial⟩
      · rw [if_neg (by omega)] at e3
        rw [e3]
        simp only [if_true]
        refine ExQ_ok [] 4000 plsOk kOB_ok ?_
        simp only [conf0]
        (try rw [exh]); simp (maxSteps := 4000000) only [h1, fnil, trl, rdt, rdf, p1, p2, ht, hglv, hg.ren, hgb, go_sem, ↓bsplit_true, ↓bsplit_false, ↓reduceIte, Nat.reduceLT, Nat.reduceLeDiff, Nat.reduceEqDiff, Nat.reduceAdd, Nat.reduceSub, Nat.reduceMul, Nat.reduceBEq, Nat.reduceBNe, reduceCtorEq, Int.reduceEq, Int.reduceLT, Int.reduceLE, Int.reduceAdd, Int.reduceSub, Int.reduceMul, Int.reduceToNat, ↓xs14]
        repeat (refine And.intro (a := (_ = true)) (by first | (simp; done) | (simp; omega)) ?_)
        simp only [layO, fu5, fuL, hgl]
        exact ObQ.mk [0, 1, 2, 5, 4] (by decide) rfl rfl rfl ⟨rfl, rfl, rfl, rfl, by simp only [renCt, hg.ren]; exact rfl, trivial⟩
set_option maxRecDepth 100000 in
set_option maxHeartbeats 8000000 in
theorem jopen_s (l : List Int) (f : Int) (x : List Int) (xf room m : Int) (w : Int) (out : Bool) (hs : numJ ⟨l, f, x, xf, room, m, some w, out⟩ [] = true) : Word Try.prog (plOf pls) 14 [.ptr 0 0 9 0] (layD ⟨l, f, x, xf, room, m, some w, out⟩) (ObQ 1 (opV ⟨l, f, x, xf, room, m, some w, out⟩) (opL ⟨l, f, x, xf, room, m, some w, out⟩)) := by
  obtain ⟨h1, h2, h3, -, -⟩ := numJ_at hs
  simp only at h2 h3
  have trl : l.take l.length = l := List.take_of_length_le (Nat.le_refl _)
  have fnil := (isB_flat (rs := []) rfl).lv
  have rdt : (true = true) = True := by simp
  have rdf : (false = true) = False := by simp
  refine ⟨_, fi14, by simp, fun C hC hl => ?_⟩
  cases out with
  | true =>
    have e1 : opV ⟨l, f, x, xf, room, m, some w, true⟩ = .tup [.v (.pointer none), .v (.int .i64 11)] := if_pos rfl
    have e2 : opL ⟨l, f, x, xf, room, m, some w, true⟩ = layD ⟨l, f, x, xf, room, m, some w, true⟩ := if_pos rfl
    rw [e1, e2]
    refine ExQ_ok [] 4000 plsOk kOA_ok ?_
    simp only [conf0]
    (try rw [exh]); simp (maxSteps := 4000000) only [h1, fnil, trl, rdt, go_sem, ↓bsplit_true, ↓bsplit_false, ↓reduceIte, Nat.reduceLT, Nat.reduceLeDiff, Nat.reduceEqDiff, Nat.reduceAdd, Nat.reduceSub, Nat.reduceMul, Nat.reduceBEq, Nat.reduceBNe, reduceCtorEq, Int.reduceEq, Int.reduceLT, Int.reduceLE, Int.reduceAdd, Int.reduceSub, Int.reduceMul, Int.reduceToNat, ↓xs14]
    repeat (refine And.intro (a := (_ = true)) (by first | (simp; done) | (simp; omega)) ?_)
    exact ObQ.mk [0, 1, 2, 3] (by decide) rfl rfl rfl ⟨rfl, rfl, rfl, rfl, trivial⟩
  | false =>
    have e1 : opV ⟨l, f, x, xf, room, m, some w, false⟩ = if (opR ⟨l, f, x, xf, room, m, some w, false⟩).1 = 0 then .tup [.ptr 3 0 2 0, .v (.int .i64 0)] else .tup [.v (.pointer none), .v (.int .i64 (opR ⟨l, f, x, xf, room, m, some w, false⟩).1)] := if_neg (by simp)
    have e2 : opL ⟨l, f, x, xf, room, m, some w, false⟩ = if (opR ⟨l, f, x, xf, room, m, some w, false⟩).1 = 0 then layO (opR ⟨l, f, x, xf, room, m, some w, false⟩).2.1 (opR ⟨l, f, x, xf, room, m, some w, false⟩).2.2 else layD (opR ⟨l, f, x, xf, room, m, some w, false⟩).2.1 := if_neg (by simp)
    rw [e1, e2]
    clear e1 e2
    obtain ⟨b1, b2, b3⟩ := spl_bound _ l (Nat.le_refl _)
    have b4 := spl_err l
    have b5 := jn_ge (ls := (splF l).1)
    obtain ⟨rc, hrc⟩ : ∃ rc, (splF l).1 = rc := ⟨_, rfl⟩
    obtain ⟨q, hq⟩ : ∃ q, (splF l).2 = q := ⟨_, rfl⟩
    have e3 : opR ⟨l, f, x, xf, room, m, some w, false⟩ = if q < l.length then jRw ⟨l, f, x, xf, room, m, some w, false⟩ (rc.map rwN) (rc.map rwN) else (0, ⟨l, f, x, xf, room, m, some w, false⟩, rc.map rwN) := by rw [opR, hrc, hq]
    by_cases hn : rc = []
    · have hq0 : q = 0 := by
        rw [← hq]
        by_cases hst : stB l = true
        · rw [splF_go hst] at hrc; rw [hn] at hrc; cases hrc
        · rw [splF_stop hst]
      have p1 : splV l = .tup [.nil, .v (.int .i64 0)] := by rw [splV, hrc, if_pos hn]
      have p2 : splL l = [] := by rw [splL, hrc, if_pos hn]
      subst hn
      subst hq0
      by_cases ht : (0 : Int) < l.length
      · rw [if_pos (by omega)] at e3
        rw [e3]
        clear e3
        simp only [List.map_nil]
        generalize hd : jRw ⟨l, f, x, xf, room, m, some w, false⟩ [] [] = r
        obtain ⟨e, ⟨l', f', x', xf', room', m', u', out'⟩, rs'⟩ := r
        have hy : rs'.all isB = true := by have := jRw_isB (s := ⟨l, f, x, xf, room, m, some w, false⟩) (rs := []) (ls := []) rfl; rw [hd] at this; exact this
        have hy := isB_flat hy
        obtain ⟨w', hu⟩ : ∃ w', u' = some w' := by have := jRw_some (s := ⟨l, f, x, xf, room, m, some w, false⟩) (w := w) (rs := []) (ls := []) rfl; rw [hd] at this; exact this
        subst hu
        refine ExQ_ok [] 4000 plsOk kOA_ok ?_
        simp only [conf0]
        (try rw [exh]); simp (maxSteps := 4000000) only [h1, fnil, trl, rdt, rdf, p1, p2, ht, go_sem, ↓bsplit_true, ↓bsplit_false, ↓reduceIte, Nat.reduceLT, Nat.reduceLeDiff, Nat.reduceEqDiff, Nat.reduceAdd, Nat.reduceSub, Nat.reduceMul, Nat.reduceBEq, Nat.reduceBNe, reduceCtorEq, Int.reduceEq, Int.reduceLT, Int.reduceLE, Int.reduceAdd, Int.reduceSub, Int.reduceMul, Int.reduceToNat, ↓xs14]
        repeat (refine And.intro (a := (_ = true)) (by first | (simp; done) | (simp; omega)) ?_)
        refine Rch.wk rfl (nilrow (l := 5) (pre := [.ptr 0 0 9 0]) 1 rfl 0 1) ?_
        have hb0 : bys [] = [] := rfl
        have hj0 : jErr [] = 0 := rfl
        have hjn : jn [] = [] := rfl
        by_cases he : e = 0
        · subst he
          simp only [if_true]
          refine ExQ_ok [] 4000 plsOk kOA_ok ?_
          (try rw [exh]); simp (maxSteps := 4000000) only [h1, fnil, trl, rdt, rdf, p1, p2, ht, hs, hd, hb0, hj0, hjn, List.cons_append, List.length_cons, List.length_nil, go_sem, ↓bsplit_true, ↓bsplit_false, ↓reduceIte, Nat.reduceLT, Nat.reduceLeDiff, Nat.reduceEqDiff, Nat.reduceAdd, Nat.reduceSub, Nat.reduceMul, Nat.reduceBEq, Nat.reduceBNe, reduceCtorEq, Int.reduceEq, Int.reduceLT, Int.reduceLE, Int.reduceAdd, Int.reduceSub, Int.reduceMul, Int.reduceToNat, ↓xs14]
          repeat (refine And.intro (a := (_ = true)) (by first | (simp; done) | (simp; omega)) ?_)
          simp only [layO, fu5, fuL]
          exact ObQ.mk [0, 8, 9, 5, 7, 10] (by decide) rfl rfl rfl ⟨rfl, rfl, rfl, rfl, by simp only [renCt, hy.ren]; exact rfl, rfl, trivial⟩
        · simp only [if_neg he]
          refine ExQ_ok [] 4000 plsOk kOA_ok ?_
          (try rw [exh]); simp (maxSteps := 4000000) only [h1, fnil, trl, rdt, rdf, p1, p2, ht, hs, hd, he, hb0, hj0, hjn, List.cons_append, List.length_cons, List.length_nil, go_sem, ↓bsplit_true, ↓bsplit_false, ↓reduceIte, Nat.reduceLT, Nat.reduceLeDiff, Nat.reduceEqDiff, Nat.reduceAdd, Nat.reduceSub, Nat.reduceMul, Nat.reduceBEq, Nat.reduceBNe, reduceCtorEq, Int.reduceEq, Int.reduceLT, Int.reduceLE, Int.reduceAdd, Int.reduceSub, Int.reduceMul, Int.reduceToNat, ↓xs14]
          repeat (refine And.intro (a := (_ = true)) (by first | (simp; done) | (simp; omega)) ?_)
          exact ObQ.mk [0, 8, 9, 10] (by decide) rfl rfl rfl ⟨rfl, rfl, rfl, rfl, trivial⟩
      · rw [if_neg (by omega)] at e3
        rw [e3]
        simp only [if_true]
        refine ExQ_ok [] 4000 plsOk kOA_ok ?_
        simp only [conf0]
        (try rw [exh]); simp (maxSteps := 4000000) only [h1, fnil, trl, rdt, rdf, p1, p2, ht, go_sem, ↓bsplit_true, ↓bsplit_false, ↓reduceIte, Nat.reduceLT, Nat.reduceLeDiff, Nat.reduceEqDiff, Nat.reduceAdd, Nat.reduceSub, Nat.reduceMul, Nat.reduceBEq, Nat.reduceBNe, reduceCtorEq, Int.reduceEq, Int.reduceLT, Int.reduceLE, Int.reduceAdd, Int.reduceSub, Int.reduceMul, Int.reduceToNat, ↓xs14]
        repeat (refine And.intro (a := (_ = true)) (by first | (simp; done) | (simp; omega)) ?_)
        simp only [layO, fu5, fuL]
        refine ObQ.wk (nilrow (l := 5) (pre := [.ptr 0 0 9 0]) 1 rfl 0 1) ?_
        exact ObQ.mk [0, 1, 2, 5, 6, 3] (by decide) rfl rfl rfl ⟨rfl, rfl, rfl, rfl, rfl, rfl, trivial⟩
    · have p1 : splV l = .tup [.sl 0 0 1 rc.length none, .v (.int .i64 (q : Nat))] := by rw [splV, hrc, if_neg hn, hq]
      have p2 : splL l = [some (.rows 1 (rc.map rwN))] := by rw [splL, hrc, if_neg hn]
      rw [hrc] at b1 b2 b4 b5
      have hgb := rwN_all rc
      have hby := bys_rwN rc
      have hgl : (rc.map rwN).length = rc.length := List.length_map ..
      generalize rc.map rwN = gs at *
      have hg := isB_flat hgb
      have hglv := hg.lv
      have hnj : numJ ⟨l, f, x, xf, room, m, some w, false⟩ gs = true := by
        simp only [numJ, Bool.and_eq_true, decide_eq_true_eq, List.all_eq_true]
        exact ⟨h1, h2, h3, by omega, fun y hy => by rw [hby] at hy; have := b1 y hy; omega⟩
      by_cases ht : (q : Int) < l.length
      · rw [if_pos (by omega)] at e3
        rw [e3]
        clear e3
        generalize hd : jRw ⟨l, f, x, xf, room, m, some w, false⟩ gs gs = r
        obtain ⟨e, ⟨l', f', x', xf', room', m', u', out'⟩, rs'⟩ := r
        have hy : rs'.all isB = true := by have := jRw_isB (s := ⟨l, f, x, xf, room, m, some w, false⟩) (rs := gs) (ls := gs) hgb; rw [hd] at this; exact this
        have hy := isB_flat hy
        obtain ⟨w', hu⟩ : ∃ w', u' = some w' := by have := jRw_some (s := ⟨l, f, x, xf, room, m, some w, false⟩) (w := w) (rs := gs) (ls := gs) rfl; rw [hd] at this; exact this
        subst hu
        by_cases he : e = 0
        · subst he
          simp only [if_true]
          refine ExQ_ok [] 4000 plsOk kOB_ok ?_
          simp only [conf0]
          (try rw [exh]); simp (maxSteps := 4000000) only [h1, fnil, trl, rdt, rdf, p1, p2, ht, hnj, hd, hglv, hg.ren, hgb, hby, hgl, b4, go_sem, ↓bsplit_true, ↓bsplit_false, ↓reduceIte, Nat.reduceLT, Nat.reduceLeDiff, Nat.reduceEqDiff, Nat.reduceAdd, Nat.reduceSub, Nat.reduceMul, Nat.reduceBEq, Nat.reduceBNe, reduceCtorEq, Int.reduceEq, Int.reduceLT, Int.reduceLE, Int.reduceAdd, Int.reduceSub, Int.reduceMul, Int.reduceToNat, ↓xs14]
          repeat (refine And.intro (a := (_ = true)) (by first | (simp; done) | (simp; omega)) ?_)
          simp only [layO, fu5, fuL]
          exact ObQ.mk [0, 8, 9, 6, 7, 10] (by decide) rfl rfl rfl ⟨rfl, rfl, rfl, rfl, by simp only [renCt, hy.ren]; exact rfl, rfl, trivial⟩
        · simp only [if_neg he]
          refine ExQ_ok [] 4000 plsOk kOB_ok ?_
          simp only [conf0]
          (try rw [exh]); simp (maxSteps := 4000000) only [h1, fnil, trl, rdt, rdf, p1, p2, ht, hnj, hd, hglv, hg.ren, hgb, hby, hgl, b4, he, go_sem, ↓bsplit_true, ↓bsplit_false, ↓reduceIte, Nat.reduceLT, Nat.reduceLeDiff, Nat.reduceEqDiff, Nat.reduceAdd, Nat.reduceSub, Nat.reduceMul, Nat.reduceBEq, Nat.reduceBNe, reduceCtorEq, Int.reduceEq, Int.reduceLT, Int.reduceLE, Int.reduceAdd, Int.reduceSub, Int.reduceMul, Int.reduceToNat, ↓xs14]
          repeat (refine And.intro (a := (_ = true)) (by first | (simp; done) | (simp; omega)) ?_)
          exact ObQ.mk [0, 8, 9, 10] (by decide) rfl rfl rfl ⟨rfl, rfl, rfl, rfl, trivial⟩
      · rw [if_neg (by omega)] at e3
        rw [e3]
        simp only [if_true]
        refine ExQ_ok [] 4000 plsOk kOB_ok ?_
        simp only [conf0]
        (try rw [exh]); simp (maxSteps := 4000000) only [h1, fnil, trl, rdt, rdf, p1, p2, ht, hglv, hg.ren, hgb, go_sem, ↓bsplit_true, ↓bsplit_false, ↓reduceIte, Nat.reduceLT, Nat.reduceLeDiff, Nat.reduceEqDiff, Nat.reduceAdd, Nat.reduceSub, Nat.reduceMul, Nat.reduceBEq, Nat.reduceBNe, reduceCtorEq, Int.reduceEq, Int.reduceLT, Int.reduceLE, Int.reduceAdd, Int.reduceSub, Int.reduceMul, Int.reduceToNat, ↓xs14]
        repeat (refine And.intro (a := (_ = true)) (by first | (simp; done) | (simp; omega)) ?_)
        simp only [layO, fu5, fuL, hgl]
        exact ObQ.mk [0, 1, 2, 6, 5, 3] (by decide) rfl rfl rfl ⟨rfl, rfl, rfl, rfl, by simp only [renCt, hg.ren]; exact rfl, rfl, trivial⟩
end JW
end Go.Proofs.Ytlhjbjpcnncndaa
