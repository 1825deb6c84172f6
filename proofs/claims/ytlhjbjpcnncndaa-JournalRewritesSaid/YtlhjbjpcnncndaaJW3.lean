/- Journals: the word of Rewrite. -/
import Derived.Test.YtlhjbjpcnncndaaJW2
set_option linter.unusedSimpArgs false
set_option linter.unusedVariables false
namespace Go.Proofs.Ytlhjbjpcnncndaa
open Go Go.SY
namespace JW
open DW
attribute [local go_sem] Ex stops inK stepF frsF frF itemF codeF condF opsF opsW opF callO drF drO drW drC stepS wtS gdst gdl sopF pv evq orl bltF callF calleeS popF lopF bltP callP cls lvA rdl quiet p_move p_assign p_pick p_nilCheck
attribute [local go_sem] p_binOp p_unOp p_convert p_fieldAddr p_indexAddr p_index p_slice p_makeFunc p_extract p_field p_build p_len p_cap p_min p_max l_load l_convert l_slice zerR roomR appRR roomN appNN cpSrcN clN cpSrc cpR clR e_clear srcR dstR srcN dstN e_store e_alloc e_box e_buildSlice e_makeSlice e_append e_copy
attribute [local go_sem] e_convert SY.get SY.put SY.ev SY.mk SY.nth SY.lvl SY.setl SY.ini wid wids dr tk flat at1 pack parts rdC rdCt wrC wrCt ar bits2 bopInt bopStr bopEq isPtr isSl isBl eqPs eqLf bop pickAV bnd subO cutOf okMx fillA plFs nz
attribute [local go_sem] minI numsAt aOf hd1 hdL immL isArr ctOf rowsOf numsAV rep elCt wrRow killO chR enterS leaveS retS endS exitS gotoS finishS killL isDefs setPs roundS resS resAll tup1 conf0 AV.scal plk spz Ct.cell exq_zero exq_go exq_d exq_n lvCt lvE
attribute [local go_sem] exq_t exq_f exq_t0 exq_f0 List.toList_toArray Bool.and_true Bool.true_and Bool.not_false Bool.not_true List.contains_nil List.contains_cons Bool.or_false Bool.false_or Option.isSome_some Option.isSome_none Option.isNone_none Option.isNone_some true_and and_true Option.some.injEq Bool.false_eq_true List.map_cons List.map_nil List.all_cons List.all_nil Bool.and_self List.drop_succ_cons List.drop_zero List.length_cons List.length_nil List.cons_append List.nil_append Option.map_some Option.map_none List.append_nil Nat.zero_add Nat.add_zero Nat.sub_zero Nat.zero_mul Nat.mul_one
attribute [local go_sem] Int.toNat_natCast Int.toNat_zero Int.toNat_one Int.add_zero Int.sub_zero Int.cast_ofNat_Int decide_true decide_false Option.getD_some Option.getD_none ktB ktX ktOf conK extK ovlK rwz alive alive0 mks noMk lndL lnd lvB lvL lvR lvT tB_tt tB_ft tB_ff okBls shB ren renL renR renCt ne_eq not_false_eq_true not_true_eq_false and_false
attribute [local go_sem] false_and and_self ti0 ti1 ti2 ti3 ti4 ti5 ti6 ti7 ti8 ti9 ti10 ti11 ti12 ti13 ti14 ti15 ti16 ti17 ti18 ti19 ti20 ti21 ti22 ti23 ti24 ti25 ti26 ti27 ti28 ti29 ti30 ti31 ti32 ti33 ti34 ti35 ti36 ti37
attribute [local go_sem] ti38 ti39 ti40 ti41 ti42 ti43 ti44 ti45 ti46 ti47 ti48 ti49 ti50 ti51 ti52 ti53 ti54 ti55 ti56 ti57 ti58 ti59 ti60 ti61 ti62 ti63 ti64 ti65 ti66 ti67 ti68 ti69 ti70 ti71 ti72 ti73 ti74 ti75 ti76 ti77
attribute [local go_sem] ti78 ti79 ti80 ti81 ti82 ti83 ti84 ti85 ti86 ti87 ti88 ti89 ti90 ti91 ti92 ti93 ti94 ti95 ti96 ti97 ti98 ti99 ti100 ti101 ti102 ti103 ti104 regAt fi24 body24 Try.f24 fi10 body10 Try.f10 fi31 body31 Try.f31 fi30 body30 Try.f30
attribute [local go_sem] r10_1 r10_5 r10_9 r10_10 r10_14 r10_18 r10_19 r10_23 r10_27 r10_28 r10_32 r10_36 r10_44 r10_45 r10_42 r10_46 r24_1 r24_3 r30_1 r30_5 r30_9 r30_17 r30_19 r30_21 r30_25 r30_15 r30_26 r31_1 r31_3 plA8 pl8 plA10 pl10 plA11 pl11 plA17 pl17 plA22 pl22 plA25
attribute [local go_sem] pl25 plA31 pl31 plA37 pl37 plA45 pl45 plA53 pl53 plA55 pl55
def jRw (s : DS) (rs ls : List (List AV)) : Int × DS × List (List AV) :=
  if jErr (bys ls) = 0 then
    if (dLay true s (jn (bys ls))).1 = 0 then
      if (dSwitch (dLay true s (jn (bys ls))).2).1 = 0 then (0, (dSwitch (dLay true s (jn (bys ls))).2).2, (bys ls).map rwN)
      else ((dSwitch (dLay true s (jn (bys ls))).2).1, (dSwitch (dLay true s (jn (bys ls))).2).2, rs)
    else ((dLay true s (jn (bys ls))).1, (dLay true s (jn (bys ls))).2, rs)
  else (jErr (bys ls), s, rs)
theorem dLay_none {nx : Bool} {s : DS} {b : List Int} (h : s.u = none) : (dLay nx s b).2.u = none := by
  obtain ⟨l, f, x, xf, room, m, u, out⟩ := s
  simp only at h
  subst h
  unfold dLay
  simp only
  split
  · rfl
  · split <;> rfl
theorem dLay_some {nx : Bool} {s : DS} {b : List Int} {w : Int} (h : s.u = some w) : ∃ w', (dLay nx s b).2.u = some w' := by
  obtain ⟨l, f, x, xf, room, m, u, out⟩ := s
  simp only at h
  subst h
  unfold dLay
  simp only
  split
  · exact ⟨_, rfl⟩
  · split
    · exact ⟨_, rfl⟩
    · split <;> exact ⟨_, rfl⟩
theorem dSwi_none {s : DS} (h : s.u = none) : (dSwitch s).2.u = none := by
  obtain ⟨l, f, x, xf, room, m, u, out⟩ := s
  simp only at h
  subst h
  unfold dSwitch
  simp only
  split <;> rfl
theorem dSwi_some {s : DS} {w : Int} (h : s.u = some w) : ∃ w', (dSwitch s).2.u = some w' := by
  obtain ⟨l, f, x, xf, room, m, u, out⟩ := s
  simp only at h
  subst h
  unfold dSwitch
  simp only
  split
  · exact ⟨_, rfl⟩
  · split <;> exact ⟨_, rfl⟩
theorem dLay_num {nx : Bool} {s : DS} {b : List Int} (h : numOk s = true) (h2 : s.n < 4611686018427387900) (h3 : s.l.length + s.x.length ≤ 1000000000) (hb : b.length ≤ 1000000000) : numOk (dLay nx s b).2 = true := by
  obtain ⟨l, f, x, xf, room, m, u, out⟩ := s
  simp only at h2 h3
  simp only [numOk, fuOk, Bool.and_eq_true, decide_eq_true_eq] at h
  obtain ⟨a1, a2, a3, a4, a5, a6⟩ := h
  unfold dLay
  simp only
  split
  · simp only [numOk, fuOk, Bool.and_eq_true, decide_eq_true_eq]
    exact ⟨a1, a2, a3, a4, a5, a6⟩
  · split
    · simp only [numOk, fuOk, Bool.and_eq_true, decide_eq_true_eq]
      exact ⟨a1, a2, a3, a4, a5, a6⟩
    · split
      · cases nx <;> simp [numOk, fuOk] <;> omega
      · simp only [fuOk, Bool.and_eq_true, decide_eq_true_eq] at a6
        split
        · cases nx <;> simp [numOk, fuOk] <;> omega
        · cases nx <;> simp [numOk, fuOk] <;> omega
attribute [local go_sem] kJ0 kDj kF ktOf ktO ktW conK objK objB updT mapB rhoN nm mrk readK sCln sPut sJoin sSplit sSize mapI DW.osB DW.osI DW.osK DW.osR findD mApp mNext mSync mSwitch mFirm mCrash mFuse rdV rdX sNew layD fuP fuL nilN
attribute [local go_sem] nilR List.append_nil List.nodup_cons List.mem_cons List.not_mem_nil List.take_succ_cons List.take_zero List.getD_cons_zero List.getD_cons_succ KB.btt KB.bff not_true_eq_false not_false_eq_true List.drop_zero List.length_replicate
set_option maxRecDepth 100000 in
set_option maxHeartbeats 8000000 in
theorem jrw_go_An (l' : List Int) (f' : Int) (x' : List Int) (xf' room' m' : Int) (out' : Bool) (rs : List (List AV)) (hr : rs.all isB = true) (t : Bool) (ls : List (List AV)) (c : Option Nat) (hm : ls.all isB = true) (hln : ls.length ≤ 1000000000) (hlb : ∀ y ∈ bys ls, y.length ≤ 1000000) (C : Ctx) (hC : C.β.b.length = 5) (i : Nat) (hi : i ≤ ls.length)
   (ih : i < ls.length → Rch Try.prog (plOf pls) C ⟨[⟨10, 51, [(35, .v (.int .i64 ((i + 1 : Nat) : Int))), (34, .v (.int .i64 ls.length)), (33, .imr t 1 ls c), (2, .ptr 5 0 1 0)], [.lp c10_35, .blk 0, .code c10_31], none, [], []⟩], [some (.lit [.ptr 1 0 9 0, .sl 8 0 1 (i + 1) none]), some (.lit [.sl 6 0 1 l'.length none, .v (.int .i64 f'), .sl 7 0 1 x'.length none, .v (.int .i64 xf'), .v (.int .i64 room'), .v (.int .i64 m'), .v (.pointer none), .v (.bool out'), .v (.bool true)]), none, none, none, some (.lit [.ptr 0 0 2 0]), some (.num .u8 l'), some (.num .u8 x'), some (.rows 1 (((bys ls).take (i + 1)).map rwN))]⟩ (ObQ 2 (.v (.int .i64 0)) (layJ ⟨l', f', x', xf', room', m', none, out'⟩ ((bys ls).map rwN)))) :
   Rch Try.prog (plOf pls) C ⟨[⟨10, 51, [(35, .v (.int .i64 i)), (34, .v (.int .i64 ls.length)), (33, .imr t 1 ls c), (2, .ptr 5 0 1 0)], [.code c10_35, .lp c10_35, .blk 0, .code c10_31], none, [], []⟩], [some (.lit [.ptr 1 0 9 0, .sl 8 0 1 i none]), some (.lit [.sl 6 0 1 l'.length none, .v (.int .i64 f'), .sl 7 0 1 x'.length none, .v (.int .i64 xf'), .v (.int .i64 room'), .v (.int .i64 m'), .v (.pointer none), .v (.bool out'), .v (.bool true)]), none, none, none, some (.lit [.ptr 0 0 2 0]), some (.num .u8 l'), some (.num .u8 x'), some (.rows 1 (((bys ls).take i).map rwN))]⟩ (ObQ 2 (.v (.int .i64 0)) (layJ ⟨l', f', x', xf', room', m', none, out'⟩ ((bys ls).map rwN))) := by
  have hf := isB_flat hr
  have hfl := isB_flat hm
  by_cases h : (i : Int) < ls.length
  · have hi' : i < ls.length := by omega
    have e := isB_row hm hi'
    have h5 : (((bys ls).take (i + 1)).map rwN) = ((bys ls).take i).map rwN ++ [[AV.imn false .u8 (byA ls i) none]] := by rw [bys_succ hi', List.map_append]; rfl
    have hfn2 := isB_flat (rwN_all ((bys ls).take (i + 1)))
    have hrl : (((bys ls).take i).map rwN).length = i := by rw [List.length_map, List.length_take, bys_len]; omega
    have hrl2 : (((bys ls).take (i + 1)).map rwN).length = i + 1 := by rw [List.length_map, List.length_take, bys_len]; omega
    have htx : List.take i (((bys ls).take i).map rwN) = ((bys ls).take i).map rwN := List.take_of_length_le (by omega)
    have hty : List.take (byA ls i).length (byA ls i) = byA ls i := List.take_of_length_le (Nat.le_refl _)
    have hlx := hlb (byA ls i) (List.mem_of_getElem? (bys_get hi'))
    have hnx := ih hi'
    have hsy := h5.symm
    generalize ((bys ls).take i).map rwN = xs at *
    generalize ((bys ls).take (i + 1)).map rwN = ys at *
    refine ExQ_ok [] 4000 plsOk kJ0_ok ?_
    (try rw [exh]); simp (maxSteps := 4000000) only [h, e, htx, hty, hsy, hrl, hrl2, List.nil_append, List.take_nil, go_sem, ↓bsplit_true, ↓bsplit_false, ↓reduceIte, Nat.reduceLT, Nat.reduceLeDiff, Nat.reduceEqDiff, Nat.reduceAdd, Nat.reduceSub, Nat.reduceMul, Nat.reduceBEq, Nat.reduceBNe, reduceCtorEq, Int.reduceEq, Int.reduceLT, Int.reduceLE, Int.reduceAdd, Int.reduceSub, Int.reduceMul, Int.reduceToNat, ↓xs10, ↓xs24, ↓xs30, ↓xs31]
    repeat (refine And.intro (a := (_ = true)) (by first | (simp; done) | (simp; omega)) ?_)
    refine Rch.fit2K hC [0, 1, 2, 3, 4, 5, 6, 7, 11] rfl (c' := ⟨[⟨10, 51, [(35, .v (.int .i64 ((i + 1 : Nat) : Int))), (34, .v (.int .i64 ls.length)), (33, .imr t 1 ls c), (2, .ptr 5 0 1 0)], [.lp c10_35, .blk 0, .code c10_31], none, [], []⟩], [some (.lit [.ptr 1 0 9 0, .sl 8 0 1 (i + 1) none]), some (.lit [.sl 6 0 1 l'.length none, .v (.int .i64 f'), .sl 7 0 1 x'.length none, .v (.int .i64 xf'), .v (.int .i64 room'), .v (.int .i64 m'), .v (.pointer none), .v (.bool out'), .v (.bool true)]), none, none, none, some (.lit [.ptr 0 0 2 0]), some (.num .u8 l'), some (.num .u8 x'), some (.rows 1 ys)]⟩) ⟨by decide, rfl, ⟨_, _, rfl, .mk' ⟨rfl, rfl, congrArg (fun y => AV.imr t 1 y c) (hfl.ren _).symm, rfl, trivial⟩ (by cases t <;> simp [lvT, lvB, tB, hfl.lv]) rfl rfl rfl (fun l h => by cases h) rfl rfl, rfl⟩, ⟨⟨rfl, rfl⟩, ⟨rfl, rfl⟩, ⟨rfl, rfl⟩, ⟨rfl, rfl⟩, ⟨rfl, rfl⟩, ⟨by simp only [renCt, hfn2.ren]; exact rfl, by simp only [lvCt, hfn2.lv]⟩, trivial⟩⟩ ?_
    exact hnx
  · clear ih
    obtain rfl : i = ls.length := by omega
    have ht : (bys ls).take ls.length = bys ls := List.take_of_length_le (by rw [bys_len]; exact Nat.le_refl _)
    rw [ht]
    have hfy := isB_flat (rwN_all (bys ls))
    have hyl : ((bys ls).map rwN).length = ls.length := by rw [List.length_map, bys_len]
    generalize (bys ls).map rwN = ys at *
    refine ExQ_ok [] 4000 plsOk kJ0_ok ?_
    (try rw [exh]); simp (maxSteps := 4000000) only [h, go_sem, ↓bsplit_true, ↓bsplit_false, ↓reduceIte, Nat.reduceLT, Nat.reduceLeDiff, Nat.reduceEqDiff, Nat.reduceAdd, Nat.reduceSub, Nat.reduceMul, Nat.reduceBEq, Nat.reduceBNe, reduceCtorEq, Int.reduceEq, Int.reduceLT, Int.reduceLE, Int.reduceAdd, Int.reduceSub, Int.reduceMul, Int.reduceToNat, ↓xs10, ↓xs24, ↓xs30, ↓xs31]
    repeat (refine And.intro (a := (_ = true)) (by first | (simp; done) | (simp; omega)) ?_)
    simp only [layJ, fu5, fuL, hyl]
    exact ObQ.mk [0, 1, 8, 6, 7] (by decide) rfl rfl rfl ⟨rfl, rfl, by simp only [renCt, hfy.ren]; exact rfl, rfl, rfl, trivial⟩
set_option maxRecDepth 100000 in
set_option maxHeartbeats 8000000 in
theorem jrw_An (l : List Int) (f : Int) (x : List Int) (xf room m : Int) (out : Bool) (rs : List (List AV)) (t : Bool) (ls : List (List AV)) (c : Option Nat) (hs : numOk ⟨l, f, x, xf, room, m, none, out⟩ = true) (hm2 : m < 4611686018427387900) (hl2 : l.length + x.length ≤ 1000000000) (hr : rs.all isB = true) (hrn : rs.length ≤ 1000000000) (hm : ls.all isB = true) (hln : ls.length ≤ 1000000000) (hlb : ∀ y ∈ bys ls, y.length ≤ 1000000) (hjl : (jn (bys ls)).length ≤ 1000000000) : Word Try.prog (plOf pls) 10 [.ptr 0 0 2 0, .imr t 1 ls c] (layJ ⟨l, f, x, xf, room, m, none, out⟩ rs) (ObQ 2 (.v (.int .i64 (jRw ⟨l, f, x, xf, room, m, none, out⟩ rs ls).1)) (layJ (jRw ⟨l, f, x, xf, room, m, none, out⟩ rs ls).2.1 (jRw ⟨l, f, x, xf, room, m, none, out⟩ rs ls).2.2)) := by
  have hf := isB_flat hr
  have hfl := isB_flat hm
  have trs : rs.take rs.length = rs := List.take_of_length_le (Nat.le_refl _)
  refine ⟨_, fi10, by simp, fun C hC hl => ?_⟩
  have hC' : C.β.b.length = 5 := hl
  by_cases hj : jErr (bys ls) = 0
  case neg =>
    have e0 : ∀ s, jRw s rs ls = (jErr (bys ls), s, rs) := fun s => by rw [jRw, if_neg hj]
    rw [e0]
    obtain ⟨fr, hfr⟩ : ∃ fr, jn (bys ls) = fr := ⟨_, rfl⟩
    have p1 : joinV (bys ls) = .tup [.nil, .v (.int .i64 (jErr (bys ls)))] := by rw [joinV, if_neg hj]
    have p2 : joinL (bys ls) = [] := by rw [joinL, if_neg hj]
    have tf : fr.take fr.length = fr := List.take_of_length_le (Nat.le_refl _)
    rw [hfr] at hjl
    refine ExQ_ok [] 4000 plsOk kJ0_ok ?_
    simp only [conf0, layJ, fu5, fuL]
    (try rw [exh]); simp (maxSteps := 4000000) only [hs, hfr, p1, p2, tf, trs, hm, hf.lv, hf.ren, hfl.lv, hfl.ren, sJoin0, hj, go_sem, ↓bsplit_true, ↓bsplit_false, ↓reduceIte, Nat.reduceLT, Nat.reduceLeDiff, Nat.reduceEqDiff, Nat.reduceAdd, Nat.reduceSub, Nat.reduceMul, Nat.reduceBEq, Nat.reduceBNe, reduceCtorEq, Int.reduceEq, Int.reduceLT, Int.reduceLE, Int.reduceAdd, Int.reduceSub, Int.reduceMul, Int.reduceToNat, ↓xs10, ↓xs24, ↓xs30, ↓xs31]
    repeat (refine And.intro (a := (_ = true)) (by first | (simp; done) | (simp; omega)) ?_)
    exact ObQ.mk [0, 1, 2, 3, 4] (by decide) rfl rfl rfl ⟨rfl, rfl, by simp only [renCt, hf.ren]; exact rfl, rfl, rfl, trivial⟩
  obtain ⟨fr, hfr⟩ : ∃ fr, jn (bys ls) = fr := ⟨_, rfl⟩
  have p1 : joinV (bys ls) = .tup [.sl 0 0 1 fr.length none, .v (.int .i64 0)] := by rw [joinV, if_pos hj, hfr]
  have p2 : joinL (bys ls) = [some (.num .u8 fr)] := by rw [joinL, if_pos hj, hfr]
  have e0 : jRw ⟨l, f, x, xf, room, m, none, out⟩ rs ls = if (dLay true ⟨l, f, x, xf, room, m, none, out⟩ fr).1 = 0 then
      if (dSwitch (dLay true ⟨l, f, x, xf, room, m, none, out⟩ fr).2).1 = 0 then (0, (dSwitch (dLay true ⟨l, f, x, xf, room, m, none, out⟩ fr).2).2, (bys ls).map rwN)
      else ((dSwitch (dLay true ⟨l, f, x, xf, room, m, none, out⟩ fr).2).1, (dSwitch (dLay true ⟨l, f, x, xf, room, m, none, out⟩ fr).2).2, rs)
    else ((dLay true ⟨l, f, x, xf, room, m, none, out⟩ fr).1, (dLay true ⟨l, f, x, xf, room, m, none, out⟩ fr).2, rs) := by rw [jRw, if_pos hj, hfr]
  rw [e0]
  rw [hfr] at hjl
  have hn1 := dLay_num (nx := true) hs hm2 hl2 hjl
  clear e0
  generalize hd : dLay true ⟨l, f, x, xf, room, m, none, out⟩ fr = r at *
  obtain ⟨e, l1, f1, x1, xf1, room1, m1, u1, out1⟩ := r
  have tf : fr.take fr.length = fr := List.take_of_length_le (Nat.le_refl _)
  have tf2 : fr.drop 0 = fr := rfl
  simp only at hn1
  have hu1 : u1 = none := by have := dLay_none (nx := true) (s := ⟨l, f, x, xf, room, m, none, out⟩) (b := fr) rfl; rw [hd] at this; exact this
  subst hu1
  refine ExQ_ok [] 4000 plsOk kJ0_ok ?_
  simp only [conf0]
  (try rw [exh]); simp (maxSteps := 4000000) only [hs, hfr, p1, p2, tf, trs, hm, hf.lv, hf.ren, hfl.lv, hfl.ren, sJoin0, layJ, fu5, go_sem, ↓bsplit_true, ↓bsplit_false, ↓reduceIte, Nat.reduceLT, Nat.reduceLeDiff, Nat.reduceEqDiff, Nat.reduceAdd, Nat.reduceSub, Nat.reduceMul, Nat.reduceBEq, Nat.reduceBNe, reduceCtorEq, Int.reduceEq, Int.reduceLT, Int.reduceLE, Int.reduceAdd, Int.reduceSub, Int.reduceMul, Int.reduceToNat, ↓xs10, ↓xs24, ↓xs30, ↓xs31]
  repeat (refine And.intro (a := (_ = true)) (by first | (simp; done) | (simp; omega)) ?_)
  refine Rch.loop plsOk ?_
  by_cases he : e = 0
  case neg =>
    rw [if_neg he]
    refine ExQ_ok [] 4000 plsOk kJ0_ok ?_
    (try rw [exh]); simp (maxSteps := 4000000) only [hs, hfr, p1, p2, tf, trs, hm, hf.lv, hf.ren, hfl.lv, hfl.ren, sJoin0, tf2, hd, he, go_sem, ↓bsplit_true, ↓bsplit_false, ↓reduceIte, Nat.reduceLT, Nat.reduceLeDiff, Nat.reduceEqDiff, Nat.reduceAdd, Nat.reduceSub, Nat.reduceMul, Nat.reduceBEq, Nat.reduceBNe, reduceCtorEq, Int.reduceEq, Int.reduceLT, Int.reduceLE, Int.reduceAdd, Int.reduceSub, Int.reduceMul, Int.reduceToNat, ↓xs10, ↓xs24, ↓xs30, ↓xs31]
    repeat (refine And.intro (a := (_ = true)) (by first | (simp; done) | (simp; omega)) ?_)
    exact ObQ.mk [0, 1, 2, 9, 10] (by decide) rfl rfl rfl ⟨rfl, rfl, by simp only [renCt, hf.ren]; exact rfl, rfl, rfl, trivial⟩
  case pos =>
    subst he
    simp only [if_true]
    generalize hd2 : dSwitch ⟨l1, f1, x1, xf1, room1, m1, none, out1⟩ = r2 at *
    obtain ⟨e2, l', f', x', xf', room', m', u', out'⟩ := r2
    have hu2 : u' = none := by have := dSwi_none (s := ⟨l1, f1, x1, xf1, room1, m1, none, out1⟩) rfl; rw [hd2] at this; exact this
    subst hu2
    refine ExQ_ok [] 4000 plsOk kJ0_ok ?_
    (try rw [exh]); simp (maxSteps := 4000000) only [hs, hfr, p1, p2, tf, trs, hm, hf.lv, hf.ren, hfl.lv, hfl.ren, sJoin0, tf2, hd, go_sem, ↓bsplit_true, ↓bsplit_false, ↓reduceIte, Nat.reduceLT, Nat.reduceLeDiff, Nat.reduceEqDiff, Nat.reduceAdd, Nat.reduceSub, Nat.reduceMul, Nat.reduceBEq, Nat.reduceBNe, reduceCtorEq, Int.reduceEq, Int.reduceLT, Int.reduceLE, Int.reduceAdd, Int.reduceSub, Int.reduceMul, Int.reduceToNat, ↓xs10, ↓xs24, ↓xs30, ↓xs31]
    repeat (refine And.intro (a := (_ = true)) (by first | (simp; done) | (simp; omega)) ?_)
    refine Rch.round plsOk ?_
    by_cases he2 : e2 = 0
    case neg =>
      rw [if_neg he2]
      refine ExQ_ok [] 4000 plsOk kJ0_ok ?_
      (try rw [exh]); simp (maxSteps := 4000000) only [hs, hfr, p1, p2, tf, trs, hm, hf.lv, hf.ren, hfl.lv, hfl.ren, sJoin0, tf2, hd, hd2, hn1, he2, go_sem, ↓bsplit_true, ↓bsplit_false, ↓reduceIte, Nat.reduceLT, Nat.reduceLeDiff, Nat.reduceEqDiff, Nat.reduceAdd, Nat.reduceSub, Nat.reduceMul, Nat.reduceBEq, Nat.reduceBNe, reduceCtorEq, Int.reduceEq, Int.reduceLT, Int.reduceLE, Int.reduceAdd, Int.reduceSub, Int.reduceMul, Int.reduceToNat, ↓xs10, ↓xs24, ↓xs30, ↓xs31]
      repeat (refine And.intro (a := (_ = true)) (by first | (simp; done) | (simp; omega)) ?_)
      exact ObQ.mk [0, 1, 2, 12, 13] (by decide) rfl rfl rfl ⟨rfl, rfl, by simp only [renCt, hf.ren]; exact rfl, rfl, rfl, trivial⟩
    case pos =>
      subst he2
      simp only [if_true]
      refine ExQ_ok [] 4000 plsOk kJ0_ok ?_
      (try rw [exh]); simp (maxSteps := 4000000) only [hs, hfr, p1, p2, tf, trs, hm, hf.lv, hf.ren, hfl.lv, hfl.ren, sJoin0, tf2, hd, hd2, hn1, go_sem, ↓bsplit_true, ↓bsplit_false, ↓reduceIte, Nat.reduceLT, Nat.reduceLeDiff, Nat.reduceEqDiff, Nat.reduceAdd, Nat.reduceSub, Nat.reduceMul, Nat.reduceBEq, Nat.reduceBNe, reduceCtorEq, Int.reduceEq, Int.reduceLT, Int.reduceLE, Int.reduceAdd, Int.reduceSub, Int.reduceMul, Int.reduceToNat, ↓xs10, ↓xs24, ↓xs30, ↓xs31]
      repeat (refine And.intro (a := (_ = true)) (by first | (simp; done) | (simp; omega)) ?_)
      refine Rch.round plsOk ?_
      refine ExQ_ok [] 4000 plsOk kJ0_ok ?_
      (try rw [exh]); simp (maxSteps := 4000000) only [hs, hfr, p1, p2, tf, trs, hm, hf.lv, hf.ren, hfl.lv, hfl.ren, sJoin0, tf2, hd, hd2, hn1, go_sem, ↓bsplit_true, ↓bsplit_false, ↓reduceIte, Nat.reduceLT, Nat.reduceLeDiff, Nat.reduceEqDiff, Nat.reduceAdd, Nat.reduceSub, Nat.reduceMul, Nat.reduceBEq, Nat.reduceBNe, reduceCtorEq, Int.reduceEq, Int.reduceLT, Int.reduceLE, Int.reduceAdd, Int.reduceSub, Int.reduceMul, Int.reduceToNat, ↓xs10, ↓xs24, ↓xs30, ↓xs31]
      repeat (refine And.intro (a := (_ = true)) (by first | (simp; done) | (simp; omega)) ?_)
      refine Rch.loop plsOk ?_
      refine Rch.wk rfl (nilrow (l := 0) (pre := [.ptr 1 0 9 0]) 1 rfl 0 1) ?_
      refine Rch.fit2K hC' [0, 1, 2, 3, 4, 5, 12, 13, 15] rfl (c' := ⟨[⟨10, 51, [(35, .v (.int .i64 ((0 : Nat) : Int))), (34, .v (.int .i64 ls.length)), (33, .imr t 1 ls c), (2, .ptr 5 0 1 0)], [.code c10_35, .lp c10_35, .blk 0, .code c10_31], none, [], []⟩], [some (.lit [.ptr 1 0 9 0, .sl 8 0 1 0 none]), some (.lit [.sl 6 0 1 l'.length none, .v (.int .i64 f'), .sl 7 0 1 x'.length none, .v (.int .i64 xf'), .v (.int .i64 room'), .v (.int .i64 m'), .v (.pointer none), .v (.bool out'), .v (.bool true)]), none, none, none, some (.lit [.ptr 0 0 2 0]), some (.num .u8 l'), some (.num .u8 x'), some (.rows 1 (((bys ls).take 0).map rwN))]⟩) ⟨by decide, rfl, ⟨_, _, rfl, .mk' ⟨rfl, rfl, congrArg (fun y => AV.imr t 1 y c) (hfl.ren _).symm, rfl, trivial⟩ (by cases t <;> simp [lvT, lvB, tB, hfl.lv]) rfl rfl rfl (fun l h => by cases h) rfl rfl, rfl⟩, ⟨⟨rfl, rfl⟩, ⟨rfl, rfl⟩, ⟨rfl, rfl⟩, ⟨rfl, rfl⟩, ⟨rfl, rfl⟩, ⟨rfl, rfl⟩, trivial⟩⟩ ?_
      have hgo := jrw_go_An l' f' x' xf' room' m' out' rs hr t ls c hm hln hlb C hC'
      suffices H : ∀ (d i : Nat), ls.length - i ≤ d → i ≤ ls.length → Rch Try.prog (plOf pls) C ⟨[⟨10, 51, [(35, .v (.int .i64 i)), (34, .v (.int .i64 ls.length)), (33, .imr t 1 ls c), (2, .ptr 5 0 1 0)], [.code c10_35, .lp c10_35, .blk 0, .code c10_31], none, [], []⟩], [some (.lit [.ptr 1 0 9 0, .sl 8 0 1 i none]), some (.lit [.sl 6 0 1 l'.length none, .v (.int .i64 f'), .sl 7 0 1 x'.length none, .v (.int .i64 xf'), .v (.int .i64 room'), .v (.int .i64 m'), .v (.pointer none), .v (.bool out'), .v (.bool true)]), none, none, none, some (.lit [.ptr 0 0 2 0]), some (.num .u8 l'), some (.num .u8 x'), some (.rows 1 (((bys ls).take i).map rwN))]⟩ (ObQ 2 (.v (.int .i64 0)) (layJ ⟨l', f', x', xf', room', m', none, out'⟩ ((bys ls).map rwN))) from H ls.length 0 (by omega) (Nat.zero_le _)
      intro d
      induction d with
      | zero =>
        intro i hd hi
        exact hgo i hi fun hlt => by omega
      | succ d ihd =>
        intro i hd hi
        exact hgo i hi fun hlt => Rch.round plsOk (ihd (i + 1) (by omega) (by omega))
set_option maxRecDepth 100000 in
set_option maxHeartbeats 8000000 in
theorem jrw_go_As (l' : List Int) (f' : Int) (x' : List Int) (xf' room' m' : Int) (w' : Int) (out' : Bool) (rs : List (List AV)) (hr : rs.all isB = true) (t : Bool) (ls : List (List AV)) (c : Option Nat) (hm : ls.all isB = true) (hln : ls.length ≤ 1000000000) (hlb : ∀ y ∈ bys ls, y.length ≤ 1000000) (C : Ctx) (hC : C.β.b.length = 6) (i : Nat) (hi : i ≤ ls.length)
   (ih : i < ls.length → Rch Try.prog (plOf pls) C ⟨[⟨10, 51, [(35, .v (.int .i64 ((i + 1 : Nat) : Int))), (34, .v (.int .i64 ls.length)), (33, .imr t 1 ls c), (2, .ptr 6 0 1 0)], [.lp c10_35, .blk 0, .code c10_31], none, [], []⟩], [some (.lit [.ptr 1 0 9 0, .sl 10 0 1 (i + 1) none]), some (.lit [.sl 7 0 1 l'.length none, .v (.int .i64 f'), .sl 8 0 1 x'.length none, .v (.int .i64 xf'), .v (.int .i64 room'), .v (.int .i64 m'), .ptr 9 0 1 0, .v (.bool out'), .v (.bool true)]), none, none, none, none, some (.lit [.ptr 0 0 2 0]), some (.num .u8 l'), some (.num .u8 x'), some (.lit [.v (.int .i64 w')]), some (.rows 1 (((bys ls).take (i + 1)).map rwN))]⟩ (ObQ 2 (.v (.int .i64 0)) (layJ ⟨l', f', x', xf', room', m', some w', out'⟩ ((bys ls).map rwN)))) :
   Rch Try.prog (plOf pls) C ⟨[⟨10, 51, [(35, .v (.int .i64 i)), (34, .v (.int .i64 ls.length)), (33, .imr t 1 ls c), (2, .ptr 6 0 1 0)], [.code c10_35, .lp c10_35, .blk 0, .code c10_31], none, [], []⟩], [some (.lit [.ptr 1 0 9 0, .sl 10 0 1 i none]), some (.lit [.sl 7 0 1 l'.length none, .v (.int .i64 f'), .sl 8 0 1 x'.length none, .v (.int .i64 xf'), .v (.int .i64 room'), .v (.int .i64 m'), .ptr 9 0 1 0, .v (.bool out'), .v (.bool true)]), none, none, none, none, some (.lit [.ptr 0 0 2 0]), some (.num .u8 l'), some (.num .u8 x'), some (.lit [.v (.int .i64 w')]), some (.rows 1 (((bys ls).take i).map rwN))]⟩ (ObQ 2 (.v (.int .i64 0)) (layJ ⟨l', f', x', xf', room', m', some w', out'⟩ ((bys ls).map rwN))) := by
  have hf := isB_flat hr
  have hfl := isB_flat hm
  by_cases h : (i : Int) < ls.length
  · have hi' : i < ls.length := by omega
    have e := isB_row hm hi'
    have h5 : (((bys ls).take (i + 1)).map rwN) = ((bys ls).take i).map rwN ++ [[AV.imn false .u8 (byA ls i) none]] := by rw [bys_succ hi', List.map_append]; rfl
    have hfn2 := isB_flat (rwN_all ((bys ls).take (i + 1)))
    have hrl : (((bys ls).take i).map rwN).length = i := by rw [List.length_map, List.length_take, bys_len]; omega
    have hrl2 : (((bys ls).take (i + 1)).map rwN).length = i + 1 := by rw [List.length_map, List.length_take, bys_len]; omega
    have htx : List.take i (((bys ls).take i).map rwN) = ((bys ls).take i).map rwN := List.take_of_length_le (by omega)
    have hty : List.take (byA ls i).length (byA ls i) = byA ls i := List.take_of_length_le (Nat.le_refl _)
    have hlx := hlb (byA ls i) (List.mem_of_getElem? (bys_get hi'))
    have hnx := ih hi'
    have hsy := h5.symm
    generalize ((bys ls).take i).map rwN = xs at *
    generalize ((bys ls).take (i + 1)).map rwN = ys at *
    refine ExQ_ok [] 4000 plsOk kJ0_ok ?_
    (try rw [exh]); simp (maxSteps := 4000000) only [h, e, htx, hty, hsy, hrl, hrl2, List.nil_append, List.take_nil, go_sem, ↓bsplit_true, ↓bsplit_false, ↓reduceIte, Nat.reduceLT, Nat.reduceLeDiff, Nat.reduceEqDiff, Nat.reduceAdd, Nat.reduceSub, Nat.reduceMul, Nat.reduceBEq, Nat.reduceBNe, reduceCtorEq, Int.reduceEq, Int.reduceLT, Int.reduceLE, Int.reduceAdd, Int.reduceSub, Int.reduceMul, Int.reduceToNat, ↓xs10, ↓xs24, ↓xs30, ↓xs31]
    repeat (refine And.intro (a := (_ = true)) (by first | (simp; done) | (simp; omega)) ?_)
    refine Rch.fit2K hC [0, 1, 2, 3, 4, 5, 6, 7, 8, 9, 13] rfl (c' := ⟨[⟨10, 51, [(35, .v (.int .i64 ((i + 1 : Nat) : Int))), (34, .v (.int .i64 ls.length)), (33, .imr t 1 ls c), (2, .ptr 6 0 1 0)], [.lp c10_35, .blk 0, .code c10_31], none, [], []⟩], [some (.lit [.ptr 1 0 9 0, .sl 10 0 1 (i + 1) none]), some (.lit [.sl 7 0 1 l'.length none, .v (.int .i64 f'), .sl 8 0 1 x'.length none, .v (.int .i64 xf'), .v (.int .i64 room'), .v (.int .i64 m'), .ptr 9 0 1 0, .v (.bool out'), .v (.bool true)]), none, none, none, none, some (.lit [.ptr 0 0 2 0]), some (.num .u8 l'), some (.num .u8 x'), some (.lit [.v (.int .i64 w')]), some (.rows 1 ys)]⟩) ⟨by decide, rfl, ⟨_, _, rfl, .mk' ⟨rfl, rfl, congrArg (fun y => AV.imr t 1 y c) (hfl.ren _).symm, rfl, trivial⟩ (by cases t <;> simp [lvT, lvB, tB, hfl.lv]) rfl rfl rfl (fun l h => by cases h) rfl rfl, rfl⟩, ⟨⟨rfl, rfl⟩, ⟨rfl, rfl⟩, ⟨rfl, rfl⟩, ⟨rfl, rfl⟩, ⟨rfl, rfl⟩, ⟨rfl, rfl⟩, ⟨by simp only [renCt, hfn2.ren]; exact rfl, by simp only [lvCt, hfn2.lv]⟩, trivial⟩⟩ ?_
    exact hnx
  · clear ih
    obtain rfl : i = ls.length := by omega
    have ht : (bys ls).take ls.length = bys ls := List.take_of_length_le (by rw [bys_len]; exact Nat.le_refl _)
    rw [ht]
    have hfy := isB_flat (rwN_all (bys ls))
    have hyl : ((bys ls).map rwN).length = ls.length := by rw [List.length_map, bys_len]
    generalize (bys ls).map rwN = ys at *
    refine ExQ_ok [] 4000 plsOk kJ0_ok ?_
    (try rw [exh]); simp (maxSteps := 4000000) only [h, go_sem, ↓bsplit_true, ↓bsplit_false, ↓reduceIte, Nat.reduceLT, Nat.reduceLeDiff, Nat.reduceEqDiff, Nat.reduceAdd, Nat.reduceSub, Nat.reduceMul, Nat.reduceBEq, Nat.reduceBNe, reduceCtorEq, Int.reduceEq, Int.reduceLT, Int.reduceLE, Int.reduceAdd, Int.reduceSub, Int.reduceMul, Int.reduceToNat, ↓xs10, ↓xs24, ↓xs30, ↓xs31]
    repeat (refine And.intro (a := (_ = true)) (by first | (simp; done) | (simp; omega)) ?_)
    simp only [layJ, fu5, fuL, hyl]
    exact ObQ.mk [0, 1, 10, 7, 8, 9] (by decide) rfl rfl rfl ⟨rfl, rfl, by simp only [renCt, hfy.ren]; exact rfl, rfl, rfl, rfl, trivial⟩
set_option maxRecDepth 100000 in
set_option maxHeartbeats 8000000 in
theorem jrw_As (l : List Int) (f : Int) (x : List Int) (xf room m : Int) (w : Int) (out : Bool) (rs : List (List AV)) (t : Bool) (ls : List (List AV)) (c : Option Nat) (hs : numOk ⟨l, f, x, xf, room, m, some w, out⟩ = true) (hm2 : m < 4611686018427387900) (hl2 : l.length + x.length ≤ 1000000000) (hr : rs.all isB = true) (hrn : rs.length ≤ 1000000000) (hm : ls.all isB = true) (hln : ls.length ≤ 1000000000) (hlb : ∀ y ∈ bys ls, y.length ≤ 1000000) (hjl : (jn (bys ls)).length ≤ 1000000000) : Word Try.prog (plOf pls) 10 [.ptr 0 0 2 0, .imr t 1 ls c] (layJ ⟨l, f, x, xf, room, m, some w, out⟩ rs) (ObQ 2 (.v (.int .i64 (jRw ⟨l, f, x, xf, room, m, some w, out⟩ rs ls).1)) (layJ (jRw ⟨l, f, x, xf, room, m, some w, out⟩ rs ls).2.1 (jRw ⟨l, f, x, xf, room, m, some w, out⟩ rs ls).2.2)) := by
  have hf := isB_flat hr
  have hfl := isB_flat hm
  have trs : rs.take rs.length = rs := List.take_of_length_le (Nat.le_refl _)
  refine ⟨_, fi10, by simp, fun C hC hl => ?_⟩
  have hC' : C.β.b.length = 6 := hl
  by_cases hj : jErr (bys ls) = 0
  case neg =>
    have e0 : ∀ s, jRw s rs ls = (jErr (bys ls), s, rs) := fun s => by rw [jRw, if_neg hj]
    rw [e0]
    obtain ⟨fr, hfr⟩ : ∃ fr, jn (bys ls) = fr := ⟨_, rfl⟩
    have p1 : joinV (bys ls) = .tup [.nil, .v (.int .i64 (jErr (bys ls)))] := by rw [joinV, if_neg hj]
    have p2 : joinL (bys ls) = [] := by rw [joinL, if_neg hj]
    have tf : fr.take fr.length = fr := List.take_of_length_le (Nat.le_refl _)
    rw [hfr] at hjl
    refine ExQ_ok [] 4000 plsOk kJ0_ok ?_
    simp only [conf0, layJ, fu5, fuL]
    (try rw [exh]); simp (maxSteps := 4000000) only [hs, hfr, p1, p2, tf, trs, hm, hf.lv, hf.ren, hfl.lv, hfl.ren, sJoin0, hj, go_sem, ↓bsplit_true, ↓bsplit_false, ↓reduceIte, Nat.reduceLT, Nat.reduceLeDiff, Nat.reduceEqDiff, Nat.reduceAdd, Nat.reduceSub, Nat.reduceMul, Nat.reduceBEq, Nat.reduceBNe, reduceCtorEq, Int.reduceEq, Int.reduceLT, Int.reduceLE, Int.reduceAdd, Int.reduceSub, Int.reduceMul, Int.reduceToNat, ↓xs10, ↓xs24, ↓xs30, ↓xs31]
    repeat (refine And.intro (a := (_ = true)) (by first | (simp; done) | (simp; omega)) ?_)
    exact ObQ.mk [0, 1, 2, 3, 4, 5] (by decide) rfl rfl rfl ⟨rfl, rfl, by simp only [renCt, hf.ren]; exact rfl, rfl, rfl, rfl, trivial⟩
  obtain ⟨fr, hfr⟩ : ∃ fr, jn (bys ls) = fr := ⟨_, rfl⟩
  have p1 : joinV (bys ls) = .tup [.sl 0 0 1 fr.length none, .v (.int .i64 0)] := by rw [joinV, if_pos hj, hfr]
  have p2 : joinL (bys ls) = [some (.num .u8 fr)] := by rw [joinL, if_pos hj, hfr]
  have e0 : jRw ⟨l, f, x, xf, room, m, some w, out⟩ rs ls = if (dLay true ⟨l, f, x, xf, room, m, some w, out⟩ fr).1 = 0 then
      if (dSwitch (dLay true ⟨l, f, x, xf, room, m, some w, out⟩ fr).2).1 = 0 then (0, (dSwitch (dLay true ⟨l, f, x, xf, room, m, some w, out⟩ fr).2).2, (bys ls).map rwN)
      else ((dSwitch (dLay true ⟨l, f, x, xf, room, m, some w, out⟩ fr).2).1, (dSwitch (dLay true ⟨l, f, x, xf, room, m, some w, out⟩ fr).2).2, rs)
    else ((dLay true ⟨l, f, x, xf, room, m, some w, out⟩ fr).1, (dLay true ⟨l, f, x, xf, room, m, some w, out⟩ fr).2, rs) := by rw [jRw, if_pos hj, hfr]
  rw [e0]
  rw [hfr] at hjl
  have hn1 := dLay_num (nx := true) hs hm2 hl2 hjl
  clear e0
  generalize hd : dLay true ⟨l, f, x, xf, room, m, some w, out⟩ fr = r at *
  obtain ⟨e, l1, f1, x1, xf1, room1, m1, u1, out1⟩ := r
  have tf : fr.take fr.length = fr := List.take_of_length_le (Nat.le_refl _)
  have tf2 : fr.drop 0 = fr := rfl
  simp only at hn1
  obtain ⟨w1, hu1⟩ : ∃ w1, u1 = some w1 := by have := dLay_some (nx := true) (s := ⟨l, f, x, xf, room, m, some w, out⟩) (b := fr) (w := w) rfl; rw [hd] at this; exact this
  subst hu1
  refine ExQ_ok [] 4000 plsOk kJ0_ok ?_
  simp only [conf0]
  (try rw [exh]); simp (maxSteps := 4000000) only [hs, hfr, p1, p2, tf, trs, hm, hf.lv, hf.ren, hfl.lv, hfl.ren, sJoin0, layJ, fu5, go_sem, ↓bsplit_true, ↓bsplit_false, ↓reduceIte, Nat.reduceLT, Nat.reduceLeDiff, Nat.reduceEqDiff, Nat.reduceAdd, Nat.reduceSub, Nat.reduceMul, Nat.reduceBEq, Nat.reduceBNe, reduceCtorEq, Int.reduceEq, Int.reduceLT, Int.reduceLE, Int.reduceAdd, Int.reduceSub, Int.reduceMul, Int.reduceToNat, ↓xs10, ↓xs24, ↓xs30, ↓xs31]
  repeat (refine And.intro (a := (_ = true)) (by first | (simp; done) | (simp; omega)) ?_)
  refine Rch.loop plsOk ?_
  by_cases he : e = 0
  case neg =>
    rw [if_neg he]
    refine ExQ_ok [] 4000 plsOk kJ0_ok ?_
    (try rw [exh]); simp (maxSteps := 4000000) only [hs, hfr, p1, p2, tf, trs, hm, hf.lv, hf.ren, hfl.lv, hfl.ren, sJoin0, tf2, hd, he, go_sem, ↓bsplit_true, ↓bsplit_false, ↓reduceIte, Nat.reduceLT, Nat.reduceLeDiff, Nat.reduceEqDiff, Nat.reduceAdd, Nat.reduceSub, Nat.reduceMul, Nat.reduceBEq, Nat.reduceBNe, reduceCtorEq, Int.reduceEq, Int.reduceLT, Int.reduceLE, Int.reduceAdd, Int.reduceSub, Int.reduceMul, Int.reduceToNat, ↓xs10, ↓xs24, ↓xs30, ↓xs31]
    repeat (refine And.intro (a := (_ = true)) (by first | (simp; done) | (simp; omega)) ?_)
    exact ObQ.mk [0, 1, 2, 10, 11, 12] (by decide) rfl rfl rfl ⟨rfl, rfl, by simp only [renCt, hf.ren]; exact rfl, rfl, rfl, rfl, trivial⟩
  case pos =>
    subst he
    simp only [if_true]
    generalize hd2 : dSwitch ⟨l1, f1, x1, xf1, room1, m1, some w1, out1⟩ = r2 at *
    obtain ⟨e2, l', f', x', xf', room', m', u', out'⟩ := r2
    obtain ⟨w', hu2⟩ : ∃ w', u' = some w' := by have := dSwi_some (s := ⟨l1, f1, x1, xf1, room1, m1, some w1, out1⟩) (w := w1) rfl; rw [hd2] at this; exact this
    subst hu2
    refine ExQ_ok [] 4000 plsOk kJ0_ok ?_
    (try rw [exh]); simp (maxSteps := 4000000) only [hs, hfr, p1, p2, tf, trs, hm, hf.lv, hf.ren, hfl.lv, hfl.ren, sJoin0, tf2, hd, go_sem, ↓bsplit_true, ↓bsplit_false, ↓reduceIte, Nat.reduceLT, Nat.reduceLeDiff, Nat.reduceEqDiff, Nat.reduceAdd, Nat.reduceSub, Nat.reduceMul, Nat.reduceBEq, Nat.reduceBNe, reduceCtorEq, Int.reduceEq, Int.reduceLT, Int.reduceLE, Int.reduceAdd, Int.reduceSub, Int.reduceMul, Int.reduceToNat, ↓xs10, ↓xs24, ↓xs30, ↓xs31]
    repeat (refine And.intro (a := (_ = true)) (by first | (simp; done) | (simp; omega)) ?_)
    refine Rch.round plsOk ?_
    by_cases he2 : e2 = 0
    case neg =>
      rw [if_neg he2]
      refine ExQ_ok [] 4000 plsOk kJ0_ok ?_
      (try rw [exh]); simp (maxSteps := 4000000) only [hs, hfr, p1, p2, tf, trs, hm, hf.lv, hf.ren, hfl.lv, hfl.ren, sJoin0, tf2, hd, hd2, hn1, he2, go_sem, ↓bsplit_true, ↓bsplit_false, ↓reduceIte, Nat.reduceLT, Nat.reduceLeDiff, Nat.reduceEqDiff, Nat.reduceAdd, Nat.reduceSub, Nat.reduceMul, Nat.reduceBEq, Nat.reduceBNe, reduceCtorEq, Int.reduceEq, Int.reduceLT, Int.reduceLE, Int.reduceAdd, Int.reduceSub, Int.reduceMul, Int.reduceToNat, ↓xs10, ↓xs24, ↓xs30, ↓xs31]
      repeat (refine And.intro (a := (_ = true)) (by first | (simp; done) | (simp; omega)) ?_)
      exact ObQ.mk [0, 1, 2, 14, 15, 16] (by decide) rfl rfl rfl ⟨rfl, rfl, by simp only [renCt, hf.ren]; exact rfl, rfl, rfl, rfl, trivial⟩
    case pos =>
      subst he2
      simp only [if_true]
      refine ExQ_ok [] 4000 plsOk kJ0_ok ?_
      (try rw [exh]); simp (maxSteps := 4000000) only [hs, hfr, p1, p2, tf, trs, hm, hf.lv, hf.ren, hfl.lv, hfl.ren, sJoin0, tf2, hd, hd2, hn1, go_sem, ↓bsplit_true, ↓bsplit_false, ↓reduceIte, Nat.reduceLT, Nat.reduceLeDiff, Nat.reduceEqDiff, Nat.reduceAdd, Nat.reduceSub, Nat.reduceMul, Nat.reduceBEq, Nat.reduceBNe, reduceCtorEq, Int.reduceEq, Int.reduceLT, Int.reduceLE, Int.reduceAdd, Int.reduceSub, Int.reduceMul, Int.reduceToNat, ↓xs10, ↓xs24, ↓xs30, ↓xs31]
      repeat (refine And.intro (a := (_ = true)) (by first | (simp; done) | (simp; omega)) ?_)
      refine Rch.round plsOk ?_
      refine ExQ_ok [] 4000 plsOk kJ0_ok ?_
      (try rw [exh]); simp (maxSteps := 4000000) only [hs, hfr, p1, p2, tf, trs, hm, hf.lv, hf.ren, hfl.lv, hfl.ren, sJoin0, tf2, hd, hd2, hn1, go_sem, ↓bsplit_true, ↓bsplit_false, ↓reduceIte, Nat.reduceLT, Nat.reduceLeDiff, Nat.reduceEqDiff, Nat.reduceAdd, Nat.reduceSub, Nat.reduceMul, Nat.reduceBEq, Nat.reduceBNe, reduceCtorEq, Int.reduceEq, Int.reduceLT, Int.reduceLE, Int.reduceAdd, Int.reduceSub, Int.reduceMul, Int.reduceToNat, ↓xs10, ↓xs24, ↓xs30, ↓xs31]
      repeat (refine And.intro (a := (_ = true)) (by first | (simp; done) | (simp; omega)) ?_)
      refine Rch.loop plsOk ?_
      refine Rch.wk rfl (nilrow (l := 0) (pre := [.ptr 1 0 9 0]) 1 rfl 0 1) ?_
      refine Rch.fit2K hC' [0, 1, 2, 3, 4, 5, 6, 14, 15, 16, 18] rfl (c' := ⟨[⟨10, 51, [(35, .v (.int .i64 ((0 : Nat) : Int))), (34, .v (.int .i64 ls.length)), (33, .imr t 1 ls c), (2, .ptr 6 0 1 0)], [.code c10_35, .lp c10_35, .blk 0, .code c10_31], none, [], []⟩], [some (.lit [.ptr 1 0 9 0, .sl 10 0 1 0 none]), some (.lit [.sl 7 0 1 l'.length none, .v (.int .i64 f'), .sl 8 0 1 x'.length none, .v (.int .i64 xf'), .v (.int .i64 room'), .v (.int .i64 m'), .ptr 9 0 1 0, .v (.bool out'), .v (.bool true)]), none, none, none, none, some (.lit [.ptr 0 0 2 0]), some (.num .u8 l'), some (.num .u8 x'), some (.lit [.v (.int .i64 w')]), some (.rows 1 (((bys ls).take 0).map rwN))]⟩) ⟨by decide, rfl, ⟨_, _, rfl, .mk' ⟨rfl, rfl, congrArg (fun y => AV.imr t 1 y c) (hfl.ren _).symm, rfl, trivial⟩ (by cases t <;> simp [lvT, lvB, tB, hfl.lv]) rfl rfl rfl (fun l h => by cases h) rfl rfl, rfl⟩, ⟨⟨rfl, rfl⟩, ⟨rfl, rfl⟩, ⟨rfl, rfl⟩, ⟨rfl, rfl⟩, ⟨rfl, rfl⟩, ⟨rfl, rfl⟩, ⟨rfl, rfl⟩, trivial⟩⟩ ?_
      have hgo := jrw_go_As l' f' x' xf' room' m' w' out' rs hr t ls c hm hln hlb C hC'
      suffices H : ∀ (d i : Nat), ls.length - i ≤ d → i ≤ ls.length → Rch Try.prog (plOf pls) C ⟨[⟨10, 51, [(35, .v (.int .i64 i)), (34, .v (.int .i64 ls.length)), (33, .imr t 1 ls c), (2, .ptr 6 0 1 0)], [.code c10_35, .lp c10_35, .blk 0, .code c10_31], none, [], []⟩], [some (.lit [.ptr 1 0 9 0, .sl 10 0 1 i none]), some (.lit [.sl 7 0 1 l'.length none, .v (.int .i64 f'), .sl 8 0 1 x'.length none, .v (.int .i64 xf'), .v (.int .i64 room'), .v (.int .i64 m'), .ptr 9 0 1 0, .v (.bool out'), .v (.bool true)]), none, none, none, none, some (.lit [.ptr 0 0 2 0]), some (.num .u8 l'), some (.num .u8 x'), some (.lit [.v (.int .i64 w')]), some (.rows 1 (((bys ls).take i).map rwN))]⟩ (ObQ 2 (.v (.int .i64 0)) (layJ ⟨l', f', x', xf', room', m', some w', out'⟩ ((bys ls).map rwN))) from H ls.length 0 (by omega) (Nat.zero_le _)
      intro d
      induction d with
      | zero =>
        intro i hd hi
        exact hgo i hi fun hlt => by omega
      | succ d ihd =>
        intro i hd hi
        exact hgo i hi fun hlt => Rch.round plsOk (ihd (i + 1) (by omega) (by omega))
set_option maxRecDepth 100000 in
set_option maxHeartbeats 8000000 in
theorem jrw_go_Bn (l' : List Int) (f' : Int) (x' : List Int) (xf' room' m' : Int) (out' : Bool) (rs : List (List AV)) (hr : rs.all isB = true) (hln : rs.length ≤ 1000000000) (hlb : ∀ y ∈ bys rs, y.length ≤ 1000000) (C : Ctx) (hC : C.β.b.length = 5) (i : Nat) (hi : i ≤ rs.length)
   (ih : i < rs.length → Rch Try.prog (plOf pls) C ⟨[⟨10, 51, [(35, .v (.int .i64 ((i + 1 : Nat) : Int))), (34, .v (.int .i64 rs.length)), (33, .sl 2 0 1 rs.length none), (2, .ptr 5 0 1 0)], [.lp c10_35, .blk 0, .code c10_31], none, [], []⟩], [some (.lit [.ptr 1 0 9 0, .sl 8 0 1 (i + 1) none]), some (.lit [.sl 6 0 1 l'.length none, .v (.int .i64 f'), .sl 7 0 1 x'.length none, .v (.int .i64 xf'), .v (.int .i64 room'), .v (.int .i64 m'), .v (.pointer none), .v (.bool out'), .v (.bool true)]), some (.rows 1 rs), none, none, some (.lit [.ptr 0 0 2 0]), some (.num .u8 l'), some (.num .u8 x'), some (.rows 1 (((bys rs).take (i + 1)).map rwN))]⟩ (ObQ 2 (.v (.int .i64 0)) (layJ ⟨l', f', x', xf', room', m', none, out'⟩ ((bys rs).map rwN)))) :
   Rch Try.prog (plOf pls) C ⟨[⟨10, 51, [(35, .v (.int .i64 i)), (34, .v (.int .i64 rs.length)), (33, .sl 2 0 1 rs.length none), (2, .ptr 5 0 1 0)], [.code c10_35, .lp c10_35, .blk 0, .code c10_31], none, [], []⟩], [some (.lit [.ptr 1 0 9 0, .sl 8 0 1 i none]), some (.lit [.sl 6 0 1 l'.length none, .v (.int .i64 f'), .sl 7 0 1 x'.length none, .v (.int .i64 xf'), .v (.int .i64 room'), .v (.int .i64 m'), .v (.pointer none), .v (.bool out'), .v (.bool true)]), some (.rows 1 rs), none, none, some (.lit [.ptr 0 0 2 0]), some (.num .u8 l'), some (.num .u8 x'), some (.rows 1 (((bys rs).take i).map rwN))]⟩ (ObQ 2 (.v (.int .i64 0)) (layJ ⟨l', f', x', xf', room', m', none, out'⟩ ((bys rs).map rwN))) := by
  have hf := isB_flat hr
  have hfl := isB_flat hr
  by_cases h : (i : Int) < rs.length
  · have hi' : i < rs.length := by omega
    have e := isB_row hr hi'
    have h5 : (((bys rs).take (i + 1)).map rwN) = ((bys rs).take i).map rwN ++ [[AV.imn false .u8 (byA rs i) none]] := by rw [bys_succ hi', List.map_append]; rfl
    have hfn2 := isB_flat (rwN_all ((bys rs).take (i + 1)))
    have hrl : (((bys rs).take i).map rwN).length = i := by rw [List.length_map, List.length_take, bys_len]; omega
    have hrl2 : (((bys rs).take (i + 1)).map rwN).length = i + 1 := by rw [List.length_map, List.length_take, bys_len]; omega
    have htx : List.take i (((bys rs).take i).map rwN) = ((bys rs).take i).map rwN := List.take_of_length_le (by omega)
    have hty : List.take (byA rs i).length (byA rs i) = byA rs i := List.take_of_length_le (Nat.le_refl _)
    have hlx := hlb (byA rs i) (List.mem_of_getElem? (bys_get hi'))
    have hnx := ih hi'
    have hsy := h5.symm
    generalize ((bys rs).take i).map rwN = xs at *
    generalize ((bys rs).take (i + 1)).map rwN = ys at *
    refine ExQ_ok [] 4000 plsOk kJ0_ok ?_
    (try rw [exh]); simp (maxSteps := 4000000) only [h, e, htx, hty, hsy, hrl, hrl2, List.nil_append, List.take_nil, go_sem, ↓bsplit_true, ↓bsplit_false, ↓reduceIte, Nat.reduceLT, Nat.reduceLeDiff, Nat.reduceEqDiff, Nat.reduceAdd, Nat.reduceSub, Nat.reduceMul, Nat.reduceBEq, Nat.reduceBNe, reduceCtorEq, Int.reduceEq, Int.reduceLT, Int.reduceLE, Int.reduceAdd, Int.reduceSub, Int.reduceMul, Int.reduceToNat, ↓xs10, ↓xs24, ↓xs30, ↓xs31]
    repeat (refine And.intro (a := (_ = true)) (by first | (simp; done) | (simp; omega)) ?_)
    refine Rch.fit2K hC [0, 1, 2, 3, 4, 5, 6, 7, 11] rfl (c' := ⟨[⟨10, 51, [(35, .v (.int .i64 ((i + 1 : Nat) : Int))), (34, .v (.int .i64 rs.length)), (33, .sl 2 0 1 rs.length none), (2, .ptr 5 0 1 0)], [.lp c10_35, .blk 0, .code c10_31], none, [], []⟩], [some (.lit [.ptr 1 0 9 0, .sl 8 0 1 (i + 1) none]), some (.lit [.sl 6 0 1 l'.length none, .v (.int .i64 f'), .sl 7 0 1 x'.length none, .v (.int .i64 xf'), .v (.int .i64 room'), .v (.int .i64 m'), .v (.pointer none), .v (.bool out'), .v (.bool true)]), some (.rows 1 rs), none, none, some (.lit [.ptr 0 0 2 0]), some (.num .u8 l'), some (.num .u8 x'), some (.rows 1 ys)]⟩) ⟨by decide, rfl, ⟨_, _, rfl, .mk' ⟨rfl, rfl, rfl, rfl, trivial⟩ rfl rfl rfl rfl (fun l h => by cases h) rfl rfl, rfl⟩, ⟨⟨rfl, rfl⟩, ⟨rfl, rfl⟩, ⟨by simp only [renCt, hf.ren]; exact rfl, by simp only [lvCt, hf.lv]⟩, ⟨rfl, rfl⟩, ⟨rfl, rfl⟩, ⟨rfl, rfl⟩, ⟨by simp only [renCt, hfn2.ren]; exact rfl, by simp only [lvCt, hfn2.lv]⟩, trivial⟩⟩ ?_
    exact hnx
  · clear ih
    obtain rfl : i = rs.length := by omega
    have ht : (bys rs).take rs.length = bys rs := List.take_of_length_le (by rw [bys_len]; exact Nat.le_refl _)
    rw [ht]
    have hfy := isB_flat (rwN_all (bys rs))
    have hyl : ((bys rs).map rwN).length = rs.length := by rw [List.length_map, bys_len]
    generalize (bys rs).map rwN = ys at *
    refine ExQ_ok [] 4000 plsOk kJ0_ok ?_
    (try rw [exh]); simp (maxSteps := 4000000) only [h, go_sem, ↓bsplit_true, ↓bsplit_false, ↓reduceIte, Nat.reduceLT, Nat.reduceLeDiff, Nat.reduceEqDiff, Nat.reduceAdd, Nat.reduceSub, Nat.reduceMul, Nat.reduceBEq, Nat.reduceBNe, reduceCtorEq, Int.reduceEq, Int.reduceLT, Int.reduceLE, Int.reduceAdd, Int.reduceSub, Int.reduceMul, Int.reduceToNat, ↓xs10, ↓xs24, ↓xs30, ↓xs31]
    repeat (refine And.intro (a := (_ = true)) (by first | (simp; done) | (simp; omega)) ?_)
    simp only [layJ, fu5, fuL, hyl]
    exact ObQ.mk [0, 1, 8, 6, 7] (by decide) rfl rfl rfl ⟨rfl, rfl, by simp only [renCt, hfy.ren]; exact rfl, rfl, rfl, trivial⟩
set_option maxRecDepth 100000 in
set_option maxHeartbeats 8000000 in
theorem jrw_Bn (l : List Int) (f : Int) (x : List Int) (xf room m : Int) (out : Bool) (rs : List (List AV)) (hs : numOk ⟨l, f, x, xf, room, m, none, out⟩ = true) (hm2 : m < 4611686018427387900) (hl2 : l.length + x.length ≤ 1000000000) (hr : rs.all isB = true) (hrn : rs.length ≤ 1000000000) (hlb : ∀ y ∈ bys rs, y.length ≤ 1000000) (hjl : (jn (bys rs)).length ≤ 1000000000) (hj : jErr (bys rs) = 0) : Word Try.prog (plOf pls) 10 [.ptr 0 0 2 0, .sl 2 0 1 rs.length none] (layJ ⟨l, f, x, xf, room, m, none, out⟩ rs) (ObQ 2 (.v (.int .i64 (jRw ⟨l, f, x, xf, room, m, none, out⟩ rs rs).1)) (layJ (jRw ⟨l, f, x, xf, room, m, none, out⟩ rs rs).2.1 (jRw ⟨l, f, x, xf, room, m, none, out⟩ rs rs).2.2)) := by
  have hf := isB_flat hr
  have hfl := isB_flat hr
  have trs : rs.take rs.length = rs := List.take_of_length_le (Nat.le_refl _)
  refine ⟨_, fi10, by simp, fun C hC hl => ?_⟩
  have hC' : C.β.b.length = 5 := hl
  obtain ⟨fr, hfr⟩ : ∃ fr, jn (bys rs) = fr := ⟨_, rfl⟩
  have p1 : joinV (bys rs) = .tup [.sl 0 0 1 fr.length none, .v (.int .i64 0)] := by rw [joinV, if_pos hj, hfr]
  have p2 : joinL (bys rs) = [some (.num .u8 fr)] := by rw [joinL, if_pos hj, hfr]
  have e0 : jRw ⟨l, f, x, xf, room, m, none, out⟩ rs rs = if (dLay true ⟨l, f, x, xf, room, m, none, out⟩ fr).1 = 0 then
      if (dSwitch (dLay true ⟨l, f, x, xf, room, m, none, out⟩ fr).2).1 = 0 then (0, (dSwitch (dLay true ⟨l, f, x, xf, room, m, none, out⟩ fr).2).2, (bys rs).map rwN)
      else ((dSwitch (dLay true ⟨l, f, x, xf, room, m, none, out⟩ fr).2).1, (dSwitch (dLay true ⟨l, f, x, xf, room, m, none, out⟩ fr).2).2, rs)
    else ((dLay true ⟨l, f, x, xf, room, m, none, out⟩ fr).1, (dLay true ⟨l, f, x, xf, room, m, none, out⟩ fr).2, rs) := by rw [jRw, if_pos hj, hfr]
  rw [e0]
  rw [hfr] at hjl
  have hn1 := dLay_num (nx := true) hs hm2 hl2 hjl
  clear e0
  generalize hd : dLay true ⟨l, f, x, xf, room, m, none, out⟩ fr = r at *
  obtain ⟨e, l1, f1, x1, xf1, room1, m1, u1, out1⟩ := r
  have tf : fr.take fr.length = fr := List.take_of_length_le (Nat.le_refl _)
  have tf2 : fr.drop 0 = fr := rfl
  simp only at hn1
  have hu1 : u1 = none := by have := dLay_none (nx := true) (s := ⟨l, f, x, xf, room, m, none, out⟩) (b := fr) rfl; rw [hd] at this; exact this
  subst hu1
  refine ExQ_ok [] 4000 plsOk kJ0_ok ?_
  simp only [conf0]
  (try rw [exh]); simp (maxSteps := 4000000) only [hs, hfr, p1, p2, tf, trs, hr, hf.lv, hf.ren, sJoin0, layJ, fu5, go_sem, ↓bsplit_true, ↓bsplit_false, ↓reduceIte, Nat.reduceLT, Nat.reduceLeDiff, Nat.reduceEqDiff, Nat.reduceAdd, Nat.reduceSub, Nat.reduceMul, Nat.reduceBEq, Nat.reduceBNe, reduceCtorEq, Int.reduceEq, Int.reduceLT, Int.reduceLE, Int.reduceAdd, Int.reduceSub, Int.reduceMul, Int.reduceToNat, ↓xs10, ↓xs24, ↓xs30, ↓xs31]
  repeat (refine And.intro (a := (_ = true)) (by first | (simp; done) | (simp; omega)) ?_)
  refine Rch.loop plsOk ?_
  by_cases he : e = 0
  case neg =>
    rw [if_neg he]
    refine ExQ_ok [] 4000 plsOk kJ0_ok ?_
    (try rw [exh]); simp (maxSteps := 4000000) only [hs, hfr, p1, p2, tf, trs, hr, hf.lv, hf.ren, sJoin0, tf2, hd, he, go_sem, ↓bsplit_true, ↓bsplit_false, ↓reduceIte, Nat.reduceLT, Nat.reduceLeDiff, Nat.reduceEqDiff, Nat.reduceAdd, Nat.reduceSub, Nat.reduceMul, Nat.reduceBEq, Nat.reduceBNe, reduceCtorEq, Int.reduceEq, Int.reduceLT, Int.reduceLE, Int.reduceAdd, Int.reduceSub, Int.reduceMul, Int.reduceToNat, ↓xs10, ↓xs24, ↓xs30, ↓xs31]
    repeat (refine And.intro (a := (_ = true)) (by first | (simp; done) | (simp; omega)) ?_)
    exact ObQ.mk [0, 1, 2, 9, 10] (by decide) rfl rfl rfl ⟨rfl, rfl, by simp only [renCt, hf.ren]; exact rfl, rfl, rfl, trivial⟩
  case pos =>
    subst he
    simp only [if_true]
    generalize hd2 : dSwitch ⟨l1, f1, x1, xf1, room1, m1, none, out1⟩ = r2 at *
    obtain ⟨e2, l', f', x', xf', room', m', u', out'⟩ := r2
    have hu2 : u' = none := by have := dSwi_none (s := ⟨l1, f1, x1, xf1, room1, m1, none, out1⟩) rfl; rw [hd2] at this; exact this
    subst hu2
    refine ExQ_ok [] 4000 plsOk kJ0_ok ?_
    (try rw [exh]); simp (maxSteps := 4000000) only [hs, hfr, p1, p2, tf, trs, hr, hf.lv, hf.ren, sJoin0, tf2, hd, go_sem, ↓bsplit_true, ↓bsplit_false, ↓reduceIte, Nat.reduceLT, Nat.reduceLeDiff, Nat.reduceEqDiff, Nat.reduceAdd, Nat.reduceSub, Nat.reduceMul, Nat.reduceBEq, Nat.reduceBNe, reduceCtorEq, Int.reduceEq, Int.reduceLT, Int.reduceLE, Int.reduceAdd, Int.reduceSub, Int.reduceMul, Int.reduceToNat, ↓xs10, ↓xs24, ↓xs30, ↓xs31]
    repeat (refine And.intro (a := (_ = true)) (by first | (simp; done) | (simp; omega)) ?_)
    refine Rch.round plsOk ?_
    by_cases he2 : e2 = 0
    case neg =>
      rw [if_neg he2]
      refine ExQ_ok [] 4000 plsOk kJ0_ok ?_
      (try rw [exh]); simp (maxSteps := 4000000) only [hs, hfr, p1, p2, tf, trs, hr, hf.lv, hf.ren, sJoin0, tf2, hd, hd2, hn1, he2, go_sem, ↓bsplit_true, ↓bsplit_false, ↓reduceIte, Nat.reduceLT, Nat.reduceLeDiff, Nat.reduceEqDiff, Nat.reduceAdd, Nat.reduceSub, Nat.reduceMul, Nat.reduceBEq, Nat.reduceBNe, reduceCtorEq, Int.reduceEq, Int.reduceLT, Int.reduceLE, Int.reduceAdd, Int.reduceSub, Int.reduceMul, Int.reduceToNat, ↓xs10, ↓xs24, ↓xs30, ↓xs31]
      repeat (refine And.intro (a := (_ = true)) (by first | (simp; done) | (simp; omega)) ?_)
      exact ObQ.mk [0, 1, 2, 12, 13] (by decide) rfl rfl rfl ⟨rfl, rfl, by simp only [renCt, hf.ren]; exact rfl, rfl, rfl, trivial⟩
    case pos =>
      subst he2
      simp only [if_true]
      refine ExQ_ok [] 4000 plsOk kJ0_ok ?_
      (try rw [exh]); simp (maxSteps := 4000000) only [hs, hfr, p1, p2, tf, trs, hr, hf.lv, hf.ren, sJoin0, tf2, hd, hd2, hn1, go_sem, ↓bsplit_true, ↓bsplit_false, ↓reduceIte, Nat.reduceLT, Nat.reduceLeDiff, Nat.reduceEqDiff, Nat.reduceAdd, Nat.reduceSub, Nat.reduceMul, Nat.reduceBEq, Nat.reduceBNe, reduceCtorEq, Int.reduceEq, Int.reduceLT, Int.reduceLE, Int.reduceAdd, Int.reduceSub, Int.reduceMul, Int.reduceToNat, ↓xs10, ↓xs24, ↓xs30, ↓xs31]
      repeat (refine And.intro (a := (_ = true)) (by first | (simp; done) | (simp; omega)) ?_)
      refine Rch.round plsOk ?_
      refine ExQ_ok [] 4000 plsOk kJ0_ok ?_
      (try rw [exh]); simp (maxSteps := 4000000) only [hs, hfr, p1, p2, tf, trs, hr, hf.lv, hf.ren, sJoin0, tf2, hd, hd2, hn1, go_sem, ↓bsplit_true, ↓bsplit_false, ↓reduceIte, Nat.reduceLT, Nat.reduceLeDiff, Nat.reduceEqDiff, Nat.reduceAdd, Nat.reduceSub, Nat.reduceMul, Nat.reduceBEq, Nat.reduceBNe, reduceCtorEq, Int.reduceEq, Int.reduceLT, Int.reduceLE, Int.reduceAdd, Int.reduceSub, Int.reduceMul, Int.reduceToNat, ↓xs10, ↓xs24, ↓xs30, ↓xs31]
      repeat (refine And.intro (a := (_ = true)) (by first | (simp; done) | (simp; omega)) ?_)
      refine Rch.loop plsOk ?_
      refine Rch.wk rfl (nilrow (l := 0) (pre := [.ptr 1 0 9 0]) 1 rfl 0 1) ?_
      refine Rch.fit2K hC' [0, 1, 2, 3, 4, 5, 12, 13, 15] rfl (c' := ⟨[⟨10, 51, [(35, .v (.int .i64 ((0 : Nat) : Int))), (34, .v (.int .i64 rs.length)), (33, .sl 2 0 1 rs.length none), (2, .ptr 5 0 1 0)], [.code c10_35, .lp c10_35, .blk 0, .code c10_31], none, [], []⟩], [some (.lit [.ptr 1 0 9 0, .sl 8 0 1 0 none]), some (.lit [.sl 6 0 1 l'.length none, .v (.int .i64 f'), .sl 7 0 1 x'.length none, .v (.int .i64 xf'), .v (.int .i64 room'), .v (.int .i64 m'), .v (.pointer none), .v (.bool out'), .v (.bool true)]), some (.rows 1 rs), none, none, some (.lit [.ptr 0 0 2 0]), some (.num .u8 l'), some (.num .u8 x'), some (.rows 1 (((bys rs).take 0).map rwN))]⟩) ⟨by decide, rfl, ⟨_, _, rfl, .mk' ⟨rfl, rfl, rfl, rfl, trivial⟩ rfl rfl rfl rfl (fun l h => by cases h) rfl rfl, rfl⟩, ⟨⟨rfl, rfl⟩, ⟨rfl, rfl⟩, ⟨by simp only [renCt, hf.ren]; exact rfl, by simp only [lvCt, hf.lv]⟩, ⟨rfl, rfl⟩, ⟨rfl, rfl⟩, ⟨rfl, rfl⟩, ⟨rfl, rfl⟩, trivial⟩⟩ ?_
      have hgo := jrw_go_Bn l' f' x' xf' room' m' out' rs hr hrn hlb C hC'
      suffices H : ∀ (d i : Nat), rs.length - i ≤ d → i ≤ rs.length → Rch Try.prog (plOf pls) C ⟨[⟨10, 51, [(35, .v (.int .i64 i)), (34, .v (.int .i64 rs.length)), (33, .sl 2 0 1 rs.length none), (2, .ptr 5 0 1 0)], [.code c10_35, .lp c10_35, .blk 0, .code c10_31], none, [], []⟩], [some (.lit [.ptr 1 0 9 0, .sl 8 0 1 i none]), some (.lit [.sl 6 0 1 l'.length none, .v (.int .i64 f'), .sl 7 0 1 x'.length none, .v (.int .i64 xf'), .v (.int .i64 room'), .v (.int .i64 m'), .v (.pointer none), .v (.bool out'), .v (.bool true)]), some (.rows 1 rs), none, none, some (.lit [.ptr 0 0 2 0]), some (.num .u8 l'), some (.num .u8 x'), some (.rows 1 (((bys rs).take i).map rwN))]⟩ (ObQ 2 (.v (.int .i64 0)) (layJ ⟨l', f', x', xf', room', m', none, out'⟩ ((bys rs).map rwN))) from H rs.length 0 (by omega) (Nat.zero_le _)
      intro d
      induction d with
      | zero =>
        intro i hd hi
        exact hgo i hi fun hlt => by omega
      | succ d ihd =>
        intro i hd hi
        exact hgo i hi fun hlt => Rch.round plsOk (ihd (i + 1) (by omega) (by omega))
set_option maxRecDepth 100000 in
set_option maxHeartbeats 8000000 in
theorem jrw_go_Bs (l' : List Int) (f' : Int) (x' : List Int) (xf' room' m' : Int) (w' : Int) (out' : Bool) (rs : List (List AV)) (hr : rs.all isB = true) (hln : rs.length ≤ 1000000000) (hlb : ∀ y ∈ bys rs, y.length ≤ 1000000) (C : Ctx) (hC : C.β.b.length = 6) (i : Nat) (hi : i ≤ rs.length)
   (ih : i < rs.length → Rch Try.prog (plOf pls) C ⟨[⟨10, 51, [(35, .v (.int .i64 ((i + 1 : Nat) : Int))), (34, .v (.int .i64 rs.length)), (33, .sl 2 0 1 rs.length none), (2, .ptr 6 0 1 0)], [.lp c10_35, .blk 0, .code c10_31], none, [], []⟩], [some (.lit [.ptr 1 0 9 0, .sl 10 0 1 (i + 1) none]), some (.lit [.sl 7 0 1 l'.length none, .v (.int .i64 f'), .sl 8 0 1 x'.length none, .v (.int .i64 xf'), .v (.int .i64 room'), .v (.int .i64 m'), .ptr 9 0 1 0, .v (.bool out'), .v (.bool true)]), some (.rows 1 rs), none, none, none, some (.lit [.ptr 0 0 2 0]), some (.num .u8 l'), some (.num .u8 x'), some (.lit [.v (.int .i64 w')]), some (.rows 1 (((bys rs).take (i + 1)).map rwN))]⟩ (ObQ 2 (.v (.int .i64 0)) (layJ ⟨l', f', x', xf', room', m', some w', out'⟩ ((bys rs).map rwN)))) :
   Rch Try.prog (plOf pls) C ⟨[⟨10, 51, [(35, .v (.int .i64 i)), (34, .v (.int .i64 rs.length)), (33, .sl 2 0 1 rs.length none), (2, .ptr 6 0 1 0)], [.code c10_35, .lp c10_35, .blk 0, .code c10_31], none, [], []⟩], [some (.lit [.ptr 1 0 9 0, .sl 10 0 1 i none]), some (.lit [.sl 7 0 1 l'.length none, .v (.int .i64 f'), .sl 8 0 1 x'.length none, .v (.int .i64 xf'), .v (.int .i64 room'), .v (.int .i64 m'), .ptr 9 0 1 0, .v (.bool out'), .v (.bool true)]), some (.rows 1 rs), none, none, none, some (.lit [.ptr 0 0 2 0]), some (.num .u8 l'), some (.num .u8 x'), some (.lit [.v (.int .i64 w')]), some (.rows 1 (((bys rs).take i).map rwN))]⟩ (ObQ 2 (.v (.int .i64 0)) (layJ ⟨l', f', x', xf', room', m', some w', out'⟩ ((bys rs).map rwN))) := by
  have hf := isB_flat hr
  have hfl := isB_flat hr
  by_cases h : (i : Int) < rs.length
  · have hi' : i < rs.length := by omega
    have e := isB_row hr hi'
    have h5 : (((bys rs).take (i + 1)).map rwN) = ((bys rs).take i).map rwN ++ [[AV.imn false .u8 (byA rs i) none]] := by rw [bys_succ hi', List.map_append]; rfl
    have hfn2 := isB_flat (rwN_all ((bys rs).take (i + 1)))
    have hrl : (((bys rs).take i).map rwN).length = i := by rw [List.length_map, List.length_take, bys_len]; omega
    have hrl2 : (((bys rs).take (i + 1)).map rwN).length = i + 1 := by rw [List.length_map, List.length_take, bys_len]; omega
    have htx : List.take i (((bys rs).take i).map rwN) = ((bys rs).take i).map rwN := List.take_of_length_le (by omega)
    have hty : List.take (byA rs i).length (byA rs i) = byA rs i := List.take_of_length_le (Nat.le_refl _)
    have hlx := hlb (byA rs i) (List.mem_of_getElem? (bys_get hi'))
    have hnx := ih hi'
    have hsy := h5.symm
    generalize ((bys rs).take i).map rwN = xs at *
    generalize ((bys rs).take (i + 1)).map rwN = ys at *
    refine ExQ_ok [] 4000 plsOk kJ0_ok ?_
    (try rw [exh]); simp (maxSteps := 4000000) only [h, e, htx, hty, hsy, hrl, hrl2, List.nil_append, List.take_nil, go_sem, ↓bsplit_true, ↓bsplit_false, ↓reduceIte, Nat.reduceLT, Nat.reduceLeDiff, Nat.reduceEqDiff, Nat.reduceAdd, Nat.reduceSub, Nat.reduceMul, Nat.reduceBEq, Nat.reduceBNe, reduceCtorEq, Int.reduceEq, Int.reduceLT, Int.reduceLE, Int.reduceAdd, Int.reduceSub, Int.reduceMul, Int.reduceToNat, ↓xs10, ↓xs24, ↓xs30, ↓xs31]
    repeat (refine And.intro (a := (_ = true)) (by first | (simp; done) | (simp; omega)) ?_)
    refine Rch.fit2K hC [0, 1, 2, 3, 4, 5, 6, 7, 8, 9, 13] rfl (c' := ⟨[⟨10, 51, [(35, .v (.int .i64 ((i + 1 : Nat) : Int))), (34, .v (.int .i64 rs.length)), (33, .sl 2 0 1 rs.length none), (2, .ptr 6 0 1 0)], [.lp c10_35, .blk 0, .code c10_31], none, [], []⟩], [some (.lit [.ptr 1 0 9 0, .sl 10 0 1 (i + 1) none]), some (.lit [.sl 7 0 1 l'.length none, .v (.int .i64 f'), .sl 8 0 1 x'.length none, .v (.int .i64 xf'), .v (.int .i64 room'), .v (.int .i64 m'), .ptr 9 0 1 0, .v (.bool out'), .v (.bool true)]), some (.rows 1 rs), none, none, none, some (.lit [.ptr 0 0 2 0]), some (.num .u8 l'), some (.num .u8 x'), some (.lit [.v (.int .i64 w')]), some (.rows 1 ys)]⟩) ⟨by decide, rfl, ⟨_, _, rfl, .mk' ⟨rfl, rfl, rfl, rfl, trivial⟩ rfl rfl rfl rfl (fun l h => by cases h) rfl rfl, rfl⟩, ⟨⟨rfl, rfl⟩, ⟨rfl, rfl⟩, ⟨by simp only [renCt, hf.ren]; exact rfl, by simp only [lvCt, hf.lv]⟩, ⟨rfl, rfl⟩, ⟨rfl, rfl⟩, ⟨rfl, rfl⟩, ⟨rfl, rfl⟩, ⟨by simp only [renCt, hfn2.ren]; exact rfl, by simp only [lvCt, hfn2.lv]⟩, trivial⟩⟩ ?_
    exact hnx
  · clear ih
    obtain rfl : i = rs.length := by omega
    have ht : (bys rs).take rs.length = bys rs := List.take_of_length_le (by rw [bys_len]; exact Nat.le_refl _)
    rw [ht]
    have hfy := isB_flat (rwN_all (bys rs))
    have hyl : ((bys rs).map rwN).length = rs.length := by rw [List.length_map, bys_len]
    generalize (bys rs).map rwN = ys at *
    refine ExQ_ok [] 4000 plsOk kJ0_ok ?_
    (try rw [exh]); simp (maxSteps := 4000000) only [h, go_sem, ↓bsplit_true, ↓bsplit_false, ↓reduceIte, Nat.reduceLT, Nat.reduceLeDiff, Nat.reduceEqDiff, Nat.reduceAdd, Nat.reduceSub, Nat.reduceMul, Nat.reduceBEq, Nat.reduceBNe, reduceCtorEq, Int.reduceEq, Int.reduceLT, Int.reduceLE, Int.reduceAdd, Int.reduceSub, Int.reduceMul, Int.reduceToNat, ↓xs10, ↓xs24, ↓xs30, ↓xs31]
    repeat (refine And.intro (a := (_ = true)) (by first | (simp; done) | (simp; omega)) ?_)
    simp only [layJ, fu5, fuL, hyl]
    exact ObQ.mk [0, 1, 10, 7, 8, 9] (by decide) rfl rfl rfl ⟨rfl, rfl, by simp only [renCt, hfy.ren]; exact rfl, rfl, rfl, rfl, trivial⟩
set_option maxRecDepth 100000 in
set_option maxHeartbeats 8000000 in
theorem jrw_Bs (l : List Int) (f : Int) (x : List Int) (xf room m : Int) (w : Int) (out : Bool) (rs : List (List AV)) (hs : numOk ⟨l, f, x, xf, room, m, some w, out⟩ = true) (hm2 : m < 4611686018427387900) (hl2 : l.length + x.length ≤ 1000000000) (hr : rs.all isB = true) (hrn : rs.length ≤ 1000000000) (hlb : ∀ y ∈ bys rs, y.length ≤ 1000000) (hjl : (jn (bys rs)).length ≤ 1000000000) (hj : jErr (bys rs) = 0) : Word Try.prog (plOf pls) 10 [.ptr 0 0 2 0, .sl 2 0 1 rs.length none] (layJ ⟨l, f, x, xf, room, m, some w, out⟩ rs) (ObQ 2 (.v (.int .i64 (jRw ⟨l, f, x, xf, room, m, some w, out⟩ rs rs).1)) (layJ (jRw ⟨l, f, x, xf, room, m, some w, out⟩ rs rs).2.1 (jRw ⟨l, f, x, xf, room, m, some w, out⟩ rs rs).2.2)) := by
  have hf := isB_flat hr
  have hfl := isB_flat hr
  have trs : rs.take rs.length = rs := List.take_of_length_le (Nat.le_refl _)
  refine ⟨_, fi10, by simp, fun C hC hl => ?_⟩
  have hC' : C.β.b.length = 6 := hl
  obtain ⟨fr, hfr⟩ : ∃ fr, jn (bys rs) = fr := ⟨_, rfl⟩
  have p1 : joinV (bys rs) = .tup [.sl 0 0 1 fr.length none, .v (.int .i64 0)] := by rw [joinV, if_pos hj, hfr]
  have p2 : joinL (bys rs) = [some (.num .u8 fr)] := by rw [joinL, if_pos hj, hfr]
  have e0 : jRw ⟨l, f, x, xf, room, m, some w, out⟩ rs rs = if (dLay true ⟨l, f, x, xf, room, m, some w, out⟩ fr).1 = 0 then
      if (dSwitch (dLay true ⟨l, f, x, xf, room, m, some w, out⟩ fr).2).1 = 0 then (0, (dSwitch (dLay true ⟨l, f, x, xf, room, m, some w, out⟩ fr).2).2, (bys rs).map rwN)
      else ((dSwitch (dLay true ⟨l, f, x, xf, room, m, some w, out⟩ fr).2).1, (dSwitch (dLay true ⟨l, f, x, xf, room, m, some w, out⟩ fr).2).2, rs)
    else ((dLay true ⟨l, f, x, xf, room, m, some w, out⟩ fr).1, (dLay true ⟨l, f, x, xf, room, m, some w, out⟩ fr).2, rs) := by rw [jRw, if_pos hj, hfr]
  rw [e0]
  rw [hfr] at hjl
  have hn1 := dLay_num (nx := true) hs hm2 hl2 hjl
  clear e0
  generalize hd : dLay true ⟨l, f, x, xf, room, m, some w, out⟩ fr = r at *
  obtain ⟨e, l1, f1, x1, xf1, room1, m1, u1, out1⟩ := r
  have tf : fr.take fr.length = fr := List.take_of_length_le (Nat.le_refl _)
  have tf2 : fr.drop 0 = fr := rfl
  simp only at hn1
  obtain ⟨w1, hu1⟩ : ∃ w1, u1 = some w1 := by have := dLay_some (nx := true) (s := ⟨l, f, x, xf, room, m, some w, out⟩) (b := fr) (w := w) rfl; rw [hd] at this; exact this
  subst hu1
  refine ExQ_ok [] 4000 plsOk kJ0_ok ?_
  simp only [conf0]
  (try rw [exh]); simp (maxSteps := 4000000) only [hs, hfr, p1, p2, tf, trs, hr, hf.lv, hf.ren, sJoin0, layJ, fu5, go_sem, ↓bsplit_true, ↓bsplit_false, ↓reduceIte, Nat.reduceLT, Nat.reduceLeDiff, Nat.reduceEqDiff, Nat.reduceAdd, Nat.reduceSub, Nat.reduceMul, Nat.reduceBEq, Nat.reduceBNe, reduceCtorEq, Int.reduceEq, Int.reduceLT, Int.reduceLE, Int.reduceAdd, Int.reduceSub, Int.reduceMul, Int.reduceToNat, ↓xs10, ↓xs24, ↓xs30, ↓xs31]
  repeat (refine And.intro (a := (_ = true)) (by first | (simp; done) | (simp; omega)) ?_)
  refine Rch.loop plsOk ?_
  by_cases he : e = 0
  case neg =>
    rw [if_neg he]
    refine ExQ_ok [] 4000 plsOk kJ0_ok ?_
    (try rw [exh]); simp (maxSteps := 4000000) only [hs, hfr, p1, p2, tf, trs, hr, hf.lv, hf.ren, sJoin0, tf2, hd, he, go_sem, ↓bsplit_true, ↓bsplit_false, ↓reduceIte, Nat.reduceLT, Nat.reduceLeDiff, Nat.reduceEqDiff, Nat.reduceAdd, Nat.reduceSub, Nat.reduceMul, Nat.reduceBEq, Nat.reduceBNe, reduceCtorEq, Int.reduceEq, Int.reduceLT, Int.reduceLE, Int.reduceAdd, Int.reduceSub, Int.reduceMul, Int.reduceToNat, ↓xs10, ↓xs24, ↓xs30, ↓xs31]
    repeat (refine And.intro (a := (_ = true)) (by first | (simp; done) | (simp; omega)) ?_)
    exact ObQ.mk [0, 1, 2, 10, 11, 12] (by decide) rfl rfl rfl ⟨rfl, rfl, by simp only [renCt, hf.ren]; exact rfl, rfl, rfl, rfl, trivial⟩
  case pos =>
    subst he
    simp only [if_true]
    generalize hd2 : dSwitch ⟨l1, f1, x1, xf1, room1, m1, some w1, out1⟩ = r2 at *
    obtain ⟨e2, l', f', x', xf', room', m', u', out'⟩ := r2
    obtain ⟨w', hu2⟩ : ∃ w', u' = some w' := by have := dSwi_some (s := ⟨l1, f1, x1, xf1, room1, m1, some w1, out1⟩) (w := w1) rfl; rw [hd2] at this; exact this
    subst hu2
    refine ExQ_ok [] 4000 plsOk kJ0_ok ?_
    (try rw [exh]); simp (maxSteps := 4000000) only [hs, hfr, p1, p2, tf, trs, hr, hf.lv, hf.ren, sJoin0, tf2, hd, go_sem, ↓bsplit_true, ↓bsplit_false, ↓reduceIte, Nat.reduceLT, Nat.reduceLeDiff, Nat.reduceEqDiff, Nat.reduceAdd, Nat.reduceSub, Nat.reduceMul, Nat.reduceBEq, Nat.reduceBNe, reduceCtorEq, Int.reduceEq, Int.reduceLT, Int.reduceLE, Int.reduceAdd, Int.reduceSub, Int.reduceMul, Int.reduceToNat, ↓xs10, ↓xs24, ↓xs30, ↓xs31]
    repeat (refine And.intro (a := (_ = true)) (by first | (simp; done) | (simp; omega)) ?_)
    refine Rch.round plsOk ?_
    by_cases he2 : e2 = 0
    case neg =>
      rw [if_neg he2]
      refine ExQ_ok [] 4000 plsOk kJ0_ok ?_
      (try rw [exh]); simp (maxSteps := 4000000) only [hs, hfr, p1, p2, tf, trs, hr, hf.lv, hf.ren, sJoin0, tf2, hd, hd2, hn1, he2, go_sem, ↓bsplit_true, ↓bsplit_false, ↓reduceIte, Nat.reduceLT, Nat.reduceLeDiff, Nat.reduceEqDiff, Nat.reduceAdd, Nat.reduceSub, Nat.reduceMul, Nat.reduceBEq, Nat.reduceBNe, reduceCtorEq, Int.reduceEq, Int.reduceLT, Int.reduceLE, Int.reduceAdd, Int.reduceSub, Int.reduceMul, Int.reduceToNat, ↓xs10, ↓xs24, ↓xs30, ↓xs31]
      repeat (refine And.intro (a := (_ = true)) (by first | (simp; done) | (simp; omega)) ?_)
      exact ObQ.mk [0, 1, 2, 14, 15, 16] (by decide) rfl rfl rfl ⟨rfl, rfl, by simp only [renCt, hf.ren]; exact rfl, rfl, rfl, rfl, trivial⟩
    case pos =>
      subst he2
      simp only [if_true]
      refine ExQ_ok [] 4000 plsOk kJ0_ok ?_
      (try rw [exh]); simp (maxSteps := 4000000) only [hs, hfr, p1, p2, tf, trs, hr, hf.lv, hf.ren, sJoin0, tf2, hd, hd2, hn1, go_sem, ↓bsplit_true, ↓bsplit_false, ↓reduceIte, Nat.reduceLT, Nat.reduceLeDiff, Nat.reduceEqDiff, Nat.reduceAdd, Nat.reduceSub, Nat.reduceMul, Nat.reduceBEq, Nat.reduceBNe, reduceCtorEq, Int.reduceEq, Int.reduceLT, Int.reduceLE, Int.reduceAdd, Int.reduceSub, Int.reduceMul, Int.reduceToNat, ↓xs10, ↓xs24, ↓xs30, ↓xs31]
      repeat (refine And.intro (a := (_ = true)) (by first | (simp; done) | (simp; omega)) ?_)
      refine Rch.round plsOk ?_
      refine ExQ_ok [] 4000 plsOk kJ0_ok ?_
      (try rw [exh]); simp (maxSteps := 4000000) only [hs, hfr, p1, p2, tf, trs, hr, hf.lv, hf.ren, sJoin0, tf2, hd, hd2, hn1, go_sem, ↓bsplit_true, ↓bsplit_false, ↓reduceIte, Nat.reduceLT, Nat.reduceLeDiff, Nat.reduceEqDiff, Nat.reduceAdd, Nat.reduceSub, Nat.reduceMul, Nat.reduceBEq, Nat.reduceBNe, reduceCtorEq, Int.reduceEq, Int.reduceLT, Int.reduceLE, Int.reduceAdd, Int.reduceSub, Int.reduceMul, Int.reduceToNat, ↓xs10, ↓xs24, ↓xs30, ↓xs31]
      repeat (refine And.intro (a := (_ = true)) (by first | (simp; done) | (simp; omega)) ?_)
      refine Rch.loop plsOk ?_
      refine Rch.wk rfl (nilrow (l := 0) (pre := [.ptr 1 0 9 0]) 1 rfl 0 1) ?_
      refine Rch.fit2K hC' [0, 1, 2, 3, 4, 5, 6, 14, 15, 16, 18] rfl (c' := ⟨[⟨10, 51, [(35, .v (.int .i64 ((0 : Nat) : Int))), (34, .v (.int .i64 rs.length)), (33, .sl 2 0 1 rs.length none), (2, .ptr 6 0 1 0)], [.code c10_35, .lp c10_35, .blk 0, .code c10_31], none, [], []⟩], [some (.lit [.ptr 1 0 9 0, .sl 10 0 1 0 none]), some (.lit [.sl 7 0 1 l'.length none, .v (.int .i64 f'), .sl 8 0 1 x'.length none, .v (.int .i64 xf'), .v (.int .i64 room'), .v (.int .i64 m'), .ptr 9 0 1 0, .v (.bool out'), .v (.bool true)]), some (.rows 1 rs), none, none, none, some (.lit [.ptr 0 0 2 0]), some (.num .u8 l'), some (.num .u8 x'), some (.lit [.v (.int .i64 w')]), some (.rows 1 (((bys rs).take 0).map rwN))]⟩) ⟨by decide, rfl, ⟨_, _, rfl, .mk' ⟨rfl, rfl, rfl, rfl, trivial⟩ rfl rfl rfl rfl (fun l h => by cases h) rfl rfl, rfl⟩, ⟨⟨rfl, rfl⟩, ⟨rfl, rfl⟩, ⟨by simp only [renCt, hf.ren]; exact rfl, by simp only [lvCt, hf.lv]⟩, ⟨rfl, rfl⟩, ⟨rfl, rfl⟩, ⟨rfl, rfl⟩, ⟨rfl, rfl⟩, ⟨rfl, rfl⟩, trivial⟩⟩ ?_
      have hgo := jrw_go_Bs l' f' x' xf' room' m' w' out' rs hr hrn hlb C hC'
      suffices H : ∀ (d i : Nat), rs.length - i ≤ d → i ≤ rs.length → Rch Try.prog (plOf pls) C ⟨[⟨10, 51, [(35, .v (.int .i64 i)), (34, .v (.int .i64 rs.length)), (33, .sl 2 0 1 rs.length none), (2, .ptr 6 0 1 0)], [.code c10_35, .lp c10_35, .blk 0, .code c10_31], none, [], []⟩], [some (.lit [.ptr 1 0 9 0, .sl 10 0 1 i none]), some (.lit [.sl 7 0 1 l'.length none, .v (.int .i64 f'), .sl 8 0 1 x'.length none, .v (.int .i64 xf'), .v (.int .i64 room'), .v (.int .i64 m'), .ptr 9 0 1 0, .v (.bool out'), .v (.bool true)]), some (.rows 1 rs), none, none, none, some (.lit [.ptr 0 0 2 0]), some (.num .u8 l'), some (.num .u8 x'), some (.lit [.v (.int .i64 w')]), some (.rows 1 (((bys rs).take i).map rwN))]⟩ (ObQ 2 (.v (.int .i64 0)) (layJ ⟨l', f', x', xf', room', m', some w', out'⟩ ((bys rs).map rwN))) from H rs.length 0 (by omega) (Nat.zero_le _)
      intro d
      induction d with
      | zero =>
        intro i hd hi
        exact hgo i hi fun hlt => by omega
      | succ d ihd =>
        intro i hd hi
        exact hgo i hi fun hlt => Rch.round plsOk (ihd (i + 1) (by omega) (by omega))
end JW
end Go.Proofs.Ytlhjbjpcnncndaa
