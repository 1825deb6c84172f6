/- Disks: the words of Sync, Switch, Room, Fuse, Crash, Wipe, Len, Firm, Up, Steps. -/
import Derived.Test.YtlhjbjpcnncndaaDW1
set_option linter.unusedSimpArgs false
set_option linter.unusedVariables false
namespace Go.Proofs.Ytlhjbjpcnncndaa
open Go Go.SY
namespace DW
attribute [local go_sem] Ex stops inK stepF frsF frF itemF codeF condF opsF opsW opF callO drF drO drW drC stepS wtS gdst gdl sopF pv evq orl bltF callF calleeS popF lopF bltP callP cls lvA rdl quiet p_move p_assign p_pick p_nilCheck
attribute [local go_sem] p_binOp p_unOp p_convert p_fieldAddr p_indexAddr p_index p_slice p_makeFunc p_extract p_field p_build p_len p_cap p_min p_max l_load l_convert l_slice zerR roomR appRR roomN appNN cpSrcN clN cpSrc cpR clR e_clear srcR dstR srcN dstN e_store e_alloc e_box e_buildSlice e_makeSlice e_append e_copy
attribute [local go_sem] e_convert SY.get SY.put SY.ev SY.mk SY.nth SY.lvl SY.setl SY.ini wid wids dr tk flat at1 pack parts rdC rdCt wrC wrCt ar bits2 bopInt bopStr bopEq isPtr isSl isBl eqPs eqLf bop pickAV bnd subO cutOf okMx fillA plFs nz
attribute [local go_sem] minI numsAt aOf hd1 hdL immL isArr ctOf rowsOf numsAV rep elCt wrRow killO chR enterS leaveS retS endS exitS gotoS finishS killL isDefs setPs roundS resS resAll tup1 conf0 AV.scal plk spz Ct.cell exq_zero exq_go exq_d exq_n lvCt lvE
attribute [local go_sem] exq_t exq_f exq_t0 exq_f0 List.toList_toArray Bool.and_true Bool.true_and Bool.not_false Bool.not_true List.contains_nil List.contains_cons Bool.or_false Bool.false_or Option.isSome_some Option.isSome_none Option.isNone_none Option.isNone_some true_and and_true Option.some.injEq Bool.false_eq_true List.map_cons List.map_nil List.all_cons List.all_nil Bool.and_self List.drop_succ_cons List.drop_zero List.length_cons List.length_nil List.cons_append List.nil_append Option.map_some Option.map_none List.append_nil Nat.zero_add Nat.add_zero Nat.sub_zero Nat.zero_mul Nat.mul_one
attribute [local go_sem] Int.toNat_natCast Int.toNat_zero Int.toNat_one Int.add_zero Int.sub_zero Int.cast_ofNat_Int decide_true decide_false Option.getD_some Option.getD_none ktB ktX ktOf conK extK ovlK rwz alive alive0 mks noMk lndL lnd lvB lvL lvR lvT tB_tt tB_ft tB_ff okBls shB ren renL renR renCt ne_eq not_false_eq_true not_true_eq_false and_false
attribute [local go_sem] false_and and_self ti0 ti1 ti2 ti3 ti4 ti5 ti6 ti7 ti8 ti9 ti10 ti11 ti12 ti13 ti14 ti15 ti16 ti17 ti18 ti19 ti20 ti21 ti22 ti23 ti24 ti25 ti26 ti27 ti28 ti29 ti30 ti31 ti32 ti33 ti34 ti35 ti36 ti37
attribute [local go_sem] ti38 ti39 ti40 ti41 ti42 ti43 ti44 ti45 ti46 ti47 ti48 ti49 ti50 ti51 ti52 ti53 ti54 ti55 ti56 ti57 ti58 ti59 ti60 ti61 ti62 ti63 ti64 ti65 ti66 ti67 ti68 ti69 ti70 ti71 ti72 ti73 ti74 ti75 ti76 ti77
attribute [local go_sem] ti78 ti79 ti80 ti81 ti82 ti83 ti84 ti85 ti86 ti87 ti88 ti89 ti90 ti91 ti92 ti93 ti94 ti95 ti96 ti97 ti98 ti99 ti100 ti101 ti102 ti103 ti104 regAt fi28 body28 Try.f28 fi33 body33 Try.f33 fi46 body46 Try.f46 fi41 body41 Try.f41
attribute [local go_sem] fi47 body47 Try.f47 fi40 body40 Try.f40 fi52 body52 Try.f52 fi54 code54 Try.f54 r28_1 r28_3 r33_1 r33_3 r40_1 r40_3 r41 r46_1 r46_6 r46_11 r46_12 r46_16 r46_17 r47_1 r47_2 r52_1 r52_3 r52_5 r52_7 r52_11 r52_15 r52_17 r52_18 r52_22 r52_24 r52_26 plA8 pl8
attribute [local go_sem] plA10 pl10 plA11 pl11 plA17 pl17 plA22 pl22 plA25 pl25 plA31 pl31 plA37 pl37 plA45 pl45 plA53 pl53 plA55 pl55
def dSync (s : DS) : Int × DS := if s.out = true then (11, s) else match s.u with
  | none => (0, ⟨s.l, s.l.length, s.x, s.xf, s.room, s.n + 1, none, false⟩)
  | some k => if k = 0 then (11, ⟨s.l, s.f, s.x, s.xf, s.room, s.n + 1, some 0, true⟩) else (0, ⟨s.l, s.l.length, s.x, s.xf, s.room, s.n + 1, some (k - 1), false⟩)
def dSwitch (s : DS) : Int × DS := if s.out = true then (11, s) else match s.u with
  | none => (0, ⟨s.x, s.x.length, [], 0, s.room, s.n + 1, none, false⟩)
  | some k => if k = 0 then (11, ⟨s.l, s.f, s.x, s.xf, s.room, s.n + 1, some 0, true⟩) else (0, ⟨s.x, s.x.length, [], 0, s.room, s.n + 1, some (k - 1), false⟩)
def dFuse (s : DS) (k : Int) : Int × DS := if k < 0 then (2, s) else (0, ⟨s.l, s.f, s.x, s.xf, s.room, s.n, some k, s.out⟩)
def crN (s : DS) (k : Int) : Nat := (s.f + min k (s.l.length - s.f)).toNat
def dCrash (s : DS) (k : Int) : Int × DS := if k < 0 then (2, s) else (0, ⟨s.l.take (crN s k), crN s k, [], 0, s.room, s.n, none, false⟩)
set_option maxRecDepth 100000 in
set_option maxHeartbeats 4000000 in
theorem sync_word (s : DS) (hs : numOk s = true) : Word Try.prog (plOf pls) 28 [.ptr 0 0 9 0] (layD s) (ObQ 1 (.v (.int .i64 (dSync s).1)) (layD (dSync s).2)) := by
  obtain ⟨l, f, x, xf, room, n, u, out⟩ := s
  simp only [numOk, Bool.and_eq_true, decide_eq_true_eq] at hs
  obtain ⟨hn0, hn1, hlx, hf0, hf1, hu⟩ := hs
  refine ⟨_, fi28, by simp, fun C hC hl => ?_⟩
  cases out with
  | true =>
    have e : dSync ⟨l, f, x, xf, room, n, u, true⟩ = (11, ⟨l, f, x, xf, room, n, u, true⟩) := by simp [dSync]
    rw [e]
    cases u with
    | none =>
      refine ExQ_ok [] 2000 plsOk noK ?_
      simp only [conf0, layD, fuP, fuL]
      (try rw [exh]); simp (maxSteps := 4000000) only [go_sem, ↓bsplit_true, ↓bsplit_false, ↓reduceIte, Nat.reduceLT, Nat.reduceLeDiff, Nat.reduceEqDiff, Nat.reduceAdd, Nat.reduceSub, Nat.reduceMul, Nat.reduceBEq, Nat.reduceBNe, reduceCtorEq, Int.reduceEq, Int.reduceLT, Int.reduceLE, Int.reduceAdd, Int.reduceSub, Int.reduceMul, Int.reduceToNat, ↓xs28, ↓xs33, ↓xs40, ↓xs41, ↓xs46, ↓xs47, ↓xs52]
      repeat (refine And.intro (a := (_ = true)) (by first | (simp; done) | (simp; omega)) ?_)
      exact ObQ.mk [0, 1, 2] (by decide) rfl rfl rfl ⟨rfl, rfl, rfl, trivial⟩
    | some k =>
      refine ExQ_ok [] 2000 plsOk noK ?_
      simp only [conf0, layD, fuP, fuL]
      (try rw [exh]); simp (maxSteps := 4000000) only [go_sem, ↓bsplit_true, ↓bsplit_false, ↓reduceIte, Nat.reduceLT, Nat.reduceLeDiff, Nat.reduceEqDiff, Nat.reduceAdd, Nat.reduceSub, Nat.reduceMul, Nat.reduceBEq, Nat.reduceBNe, reduceCtorEq, Int.reduceEq, Int.reduceLT, Int.reduceLE, Int.reduceAdd, Int.reduceSub, Int.reduceMul, Int.reduceToNat, ↓xs28, ↓xs33, ↓xs40, ↓xs41, ↓xs46, ↓xs47, ↓xs52]
      repeat (refine And.intro (a := (_ = true)) (by first | (simp; done) | (simp; omega)) ?_)
      exact ObQ.mk [0, 1, 2, 3] (by decide) rfl rfl rfl ⟨rfl, rfl, rfl, rfl, trivial⟩
  | false =>
    cases u with
    | none =>
      have e : dSync ⟨l, f, x, xf, room, n, none, false⟩ = (0, ⟨l, l.length, x, xf, room, n + 1, none, false⟩) := by simp [dSync]
      rw [e]
      refine ExQ_ok [] 2000 plsOk noK ?_
      simp only [conf0, layD, fuP, fuL]
      (try rw [exh]); simp (maxSteps := 4000000) only [go_sem, ↓bsplit_true, ↓bsplit_false, ↓reduceIte, Nat.reduceLT, Nat.reduceLeDiff, Nat.reduceEqDiff, Nat.reduceAdd, Nat.reduceSub, Nat.reduceMul, Nat.reduceBEq, Nat.reduceBNe, reduceCtorEq, Int.reduceEq, Int.reduceLT, Int.reduceLE, Int.reduceAdd, Int.reduceSub, Int.reduceMul, Int.reduceToNat, ↓xs28, ↓xs33, ↓xs40, ↓xs41, ↓xs46, ↓xs47, ↓xs52]
      repeat (refine And.intro (a := (_ = true)) (by first | (simp; done) | (simp; omega)) ?_)
      exact ObQ.mk [0, 1, 2] (by decide) rfl rfl rfl ⟨rfl, rfl, rfl, trivial⟩
    | some k =>
      simp only [fuOk, Bool.and_eq_true, decide_eq_true_eq] at hu
      by_cases hk : k = 0
      · subst hk
        have e : dSync ⟨l, f, x, xf, room, n, some 0, false⟩ = (11, ⟨l, f, x, xf, room, n + 1, some 0, true⟩) := by simp [dSync]
        rw [e]
        refine ExQ_ok [] 2000 plsOk noK ?_
        simp only [conf0, layD, fuP, fuL]
        (try rw [exh]); simp (maxSteps := 4000000) only [go_sem, ↓bsplit_true, ↓bsplit_false, ↓reduceIte, Nat.reduceLT, Nat.reduceLeDiff, Nat.reduceEqDiff, Nat.reduceAdd, Nat.reduceSub, Nat.reduceMul, Nat.reduceBEq, Nat.reduceBNe, reduceCtorEq, Int.reduceEq, Int.reduceLT, Int.reduceLE, Int.reduceAdd, Int.reduceSub, Int.reduceMul, Int.reduceToNat, ↓xs28, ↓xs33, ↓xs40, ↓xs41, ↓xs46, ↓xs47, ↓xs52]
        repeat (refine And.intro (a := (_ = true)) (by first | (simp; done) | (simp; omega)) ?_)
        exact ObQ.mk [0, 1, 2, 3] (by decide) rfl rfl rfl ⟨rfl, rfl, rfl, rfl, trivial⟩
      · have e : dSync ⟨l, f, x, xf, room, n, some k, false⟩ = (0, ⟨l, l.length, x, xf, room, n + 1, some (k - 1), false⟩) := by simp [dSync, hk]
        rw [e]
        refine ExQ_ok [] 2000 plsOk noK ?_
        simp only [conf0, layD, fuP, fuL]
        (try rw [exh]); simp (maxSteps := 4000000) only [hk, go_sem, ↓bsplit_true, ↓bsplit_false, ↓reduceIte, Nat.reduceLT, Nat.reduceLeDiff, Nat.reduceEqDiff, Nat.reduceAdd, Nat.reduceSub, Nat.reduceMul, Nat.reduceBEq, Nat.reduceBNe, reduceCtorEq, Int.reduceEq, Int.reduceLT, Int.reduceLE, Int.reduceAdd, Int.reduceSub, Int.reduceMul, Int.reduceToNat, ↓xs28, ↓xs33, ↓xs40, ↓xs41, ↓xs46, ↓xs47, ↓xs52]
        repeat (refine And.intro (a := (_ = true)) (by first | (simp; done) | (simp; omega)) ?_)
        exact ObQ.mk [0, 1, 2, 3] (by decide) rfl rfl rfl ⟨rfl, rfl, rfl, rfl, trivial⟩
set_option maxRecDepth 100000 in
set_option maxHeartbeats 4000000 in
theorem switch_word (s : DS) (hs : numOk s = true) : Word Try.prog (plOf pls) 33 [.ptr 0 0 9 0] (layD s) (ObQ 1 (.v (.int .i64 (dSwitch s).1)) (layD (dSwitch s).2)) := by
  obtain ⟨l, f, x, xf, room, n, u, out⟩ := s
  simp only [numOk, Bool.and_eq_true, decide_eq_true_eq] at hs
  obtain ⟨hn0, hn1, hlx, hf0, hf1, hu⟩ := hs
  refine ⟨_, fi33, by simp, fun C hC hl => ?_⟩
  cases out with
  | true =>
    have e : dSwitch ⟨l, f, x, xf, room, n, u, true⟩ = (11, ⟨l, f, x, xf, room, n, u, true⟩) := by simp [dSwitch]
    rw [e]
    cases u with
    | none =>
      refine ExQ_ok [] 2000 plsOk noK ?_
      simp only [conf0, layD, fuP, fuL]
      (try rw [exh]); simp (maxSteps := 4000000) only [go_sem, ↓bsplit_true, ↓bsplit_false, ↓reduceIte, Nat.reduceLT, Nat.reduceLeDiff, Nat.reduceEqDiff, Nat.reduceAdd, Nat.reduceSub, Nat.reduceMul, Nat.reduceBEq, Nat.reduceBNe, reduceCtorEq, Int.reduceEq, Int.reduceLT, Int.reduceLE, Int.reduceAdd, Int.reduceSub, Int.reduceMul, Int.reduceToNat, ↓xs28, ↓xs33, ↓xs40, ↓xs41, ↓xs46, ↓xs47, ↓xs52]
      repeat (refine And.intro (a := (_ = true)) (by first | (simp; done) | (simp; omega)) ?_)
      exact ObQ.mk [0, 1, 2] (by decide) rfl rfl rfl ⟨rfl, rfl, rfl, trivial⟩
    | some k =>
      refine ExQ_ok [] 2000 plsOk noK ?_
      simp only [conf0, layD, fuP, fuL]
      (try rw [exh]); simp (maxSteps := 4000000) only [go_sem, ↓bsplit_true, ↓bsplit_false, ↓reduceIte, Nat.reduceLT, Nat.reduceLeDiff, Nat.reduceEqDiff, Nat.reduceAdd, Nat.reduceSub, Nat.reduceMul, Nat.reduceBEq, Nat.reduceBNe, reduceCtorEq, Int.reduceEq, Int.reduceLT, Int.reduceLE, Int.reduceAdd, Int.reduceSub, Int.reduceMul, Int.reduceToNat, ↓xs28, ↓xs33, ↓xs40, ↓xs41, ↓xs46, ↓xs47, ↓xs52]
      repeat (refine And.intro (a := (_ = true)) (by first | (simp; done) | (simp; omega)) ?_)
      exact ObQ.mk [0, 1, 2, 3] (by decide) rfl rfl rfl ⟨rfl, rfl, rfl, rfl, trivial⟩
  | false =>
    cases u with
    | none =>
      have e : dSwitch ⟨l, f, x, xf, room, n, none, false⟩ = (0, ⟨x, x.length, [], 0, room, n + 1, none, false⟩) := by simp [dSwitch]
      rw [e]
      refine ExQ_ok [] 2000 plsOk noK ?_
      simp only [conf0, layD, fuP, fuL]
      (try rw [exh]); simp (maxSteps := 4000000) only [go_sem, ↓bsplit_true, ↓bsplit_false, ↓reduceIte, Nat.reduceLT, Nat.reduceLeDiff, Nat.reduceEqDiff, Nat.reduceAdd, Nat.reduceSub, Nat.reduceMul, Nat.reduceBEq, Nat.reduceBNe, reduceCtorEq, Int.reduceEq, Int.reduceLT, Int.reduceLE, Int.reduceAdd, Int.reduceSub, Int.reduceMul, Int.reduceToNat, ↓xs28, ↓xs33, ↓xs40, ↓xs41, ↓xs46, ↓xs47, ↓xs52]
      repeat (refine And.intro (a := (_ = true)) (by first | (simp; done) | (simp; omega)) ?_)
      refine ObQ.wk (Wk.nilcell (l := 0) (pre := [_, _]) .u8 rfl 0 1) ?_; exact ObQ.mk [0, 2, 3] (by decide) rfl rfl rfl ⟨rfl, rfl, rfl, trivial⟩
    | some k =>
      simp only [fuOk, Bool.and_eq_true, decide_eq_true_eq] at hu
      by_cases hk : k = 0
      · subst hk
        have e : dSwitch ⟨l, f, x, xf, room, n, some 0, false⟩ = (11, ⟨l, f, x, xf, room, n + 1, some 0, true⟩) := by simp [dSwitch]
        rw [e]
        refine ExQ_ok [] 2000 plsOk noK ?_
        simp only [conf0, layD, fuP, fuL]
        (try rw [exh]); simp (maxSteps := 4000000) only [go_sem, ↓bsplit_true, ↓bsplit_false, ↓reduceIte, Nat.reduceLT, Nat.reduceLeDiff, Nat.reduceEqDiff, Nat.reduceAdd, Nat.reduceSub, Nat.reduceMul, Nat.reduceBEq, Nat.reduceBNe, reduceCtorEq, Int.reduceEq, Int.reduceLT, Int.reduceLE, Int.reduceAdd, Int.reduceSub, Int.reduceMul, Int.reduceToNat, ↓xs28, ↓xs33, ↓xs40, ↓xs41, ↓xs46, ↓xs47, ↓xs52]
        repeat (refine And.intro (a := (_ = true)) (by first | (simp; done) | (simp; omega)) ?_)
        exact ObQ.mk [0, 1, 2, 3] (by decide) rfl rfl rfl ⟨rfl, rfl, rfl, rfl, trivial⟩
      · have e : dSwitch ⟨l, f, x, xf, room, n, some k, false⟩ = (0, ⟨x, x.length, [], 0, room, n + 1, some (k - 1), false⟩) := by simp [dSwitch, hk]
        rw [e]
        refine ExQ_ok [] 2000 plsOk noK ?_
        simp only [conf0, layD, fuP, fuL]
        (try rw [exh]); simp (maxSteps := 4000000) only [hk, go_sem, ↓bsplit_true, ↓bsplit_false, ↓reduceIte, Nat.reduceLT, Nat.reduceLeDiff, Nat.reduceEqDiff, Nat.reduceAdd, Nat.reduceSub, Nat.reduceMul, Nat.reduceBEq, Nat.reduceBNe, reduceCtorEq, Int.reduceEq, Int.reduceLT, Int.reduceLE, Int.reduceAdd, Int.reduceSub, Int.reduceMul, Int.reduceToNat, ↓xs28, ↓xs33, ↓xs40, ↓xs41, ↓xs46, ↓xs47, ↓xs52]
        repeat (refine And.intro (a := (_ = true)) (by first | (simp; done) | (simp; omega)) ?_)
        refine ObQ.wk (Wk.nilcell (l := 0) (pre := [_, _]) .u8 rfl 0 1) ?_; exact ObQ.mk [0, 2, 4, 3] (by decide) rfl rfl rfl ⟨rfl, rfl, rfl, rfl, trivial⟩
end DW
end Go.Proofs.Ytlhjbjpcnncndaa
