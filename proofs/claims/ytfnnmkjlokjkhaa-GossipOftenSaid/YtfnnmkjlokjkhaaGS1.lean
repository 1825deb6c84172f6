/- Gossip: what a buffer is in memory; the words of IndexFunc (with the buffer's order), put. -/
import Derived.Test.YtfnnmkjlokjkhaaG3
import Derived.Test.YtfnnmkjlokjkhaaMB2
import Derived.Test.YtfnnmkjlokjkhaaGL
set_option linter.unusedSimpArgs false
set_option linter.unusedVariables false
namespace Go.Proofs.Ytfnnmkjlokjkhaa
open Go Go.SY
namespace GS
attribute [local go_sem] Ex stops inK stepF frsF frF itemF codeF condF opsF opsW opF callO drF drO drW drC stepS wtS gdst gdl sopF pv evq orl bltF callF calleeS popF lopF bltP callP cls lvA rdl quiet p_move p_assign p_pick p_nilCheck
attribute [local go_sem] p_binOp p_unOp p_convert p_fieldAddr p_indexAddr p_index p_slice p_makeFunc p_extract p_field p_build p_len p_cap p_min p_max l_load l_convert l_slice zerR roomR appRR roomN appNN cpSrcN clN cpSrc cpR clR e_clear srcR dstR srcN dstN e_store e_alloc e_box e_buildSlice e_makeSlice e_append e_copy
attribute [local go_sem] e_convert SY.get SY.put SY.ev SY.mk SY.nth SY.lvl SY.setl SY.ini wid wids dr tk flat at1 pack parts rdC rdCt wrC wrCt ar bits2 bopInt bopStr bopEq isPtr isSl isBl eqPs eqLf bop pickAV bnd subO cutOf okMx fillA plFs nz
attribute [local go_sem] minI numsAt aOf hd1 hdL immL isArr ctOf rowsOf numsAV rep elCt wrRow killO chR enterS leaveS retS endS exitS gotoS finishS killL isDefs setPs roundS resS resAll tup1 conf0 AV.scal plk spz Ct.cell exq_zero exq_go exq_d exq_n lvCt lvE
attribute [local go_sem] exq_t exq_f exq_t0 exq_f0 List.toList_toArray Bool.and_true Bool.true_and Bool.not_false Bool.not_true List.contains_nil List.contains_cons Bool.or_false Bool.false_or Option.isSome_some Option.isSome_none Option.isNone_none Option.isNone_some true_and and_true Option.some.injEq Bool.false_eq_true List.map_cons List.map_nil List.all_cons List.all_nil Bool.and_self List.drop_succ_cons List.drop_zero List.length_cons List.length_nil List.cons_append List.nil_append Option.map_some Option.map_none List.append_nil Nat.zero_add Nat.add_zero Nat.sub_zero Nat.zero_mul Nat.mul_one
attribute [local go_sem] Int.toNat_natCast Int.toNat_zero Int.toNat_one Int.add_zero Int.sub_zero Int.cast_ofNat_Int decide_true decide_false Option.getD_some Option.getD_none ktB ktX ktOf conK extK ovlK rwz alive alive0 mks noMk lndL lnd lvB lvL lvR lvT tB_tt tB_ft tB_ff okBls shB ren renL renR renCt ne_eq not_false_eq_true not_true_eq_false and_false
attribute [local go_sem] false_and and_self ti0 ti1 ti2 ti3 ti4 ti5 ti6 ti7 ti8 ti9 ti10 ti11 ti12 ti13 ti14 ti15 ti16 ti17 ti18 ti19 ti20 ti21 ti22 ti23 ti24 ti25 ti26 ti27 ti28 ti29 ti30 ti31 ti32 ti33 ti34 ti35 ti36 ti37
attribute [local go_sem] ti38 ti39 ti40 ti41 ti42 ti43 ti44 ti45 ti46 ti47 ti48 ti49 ti50 ti51 ti52 ti53 ti54 ti55 ti56 ti57 ti58 ti59 ti60 ti61 ti62 ti63 ti64 ti65 ti66 ti67 ti68 ti69 ti70 ti71 ti72 ti73 ti74 ti75 ti76 ti77
attribute [local go_sem] ti78 ti79 ti80 ti81 ti82 ti83 ti84 ti85 ti86 ti87 ti88 ti89 ti90 ti91 ti92 ti93 ti94 ti95 ti96 ti97 ti98 ti99 ti100 ti101 ti102 regAt fi34 body34 Try.f34 fi31 body31 Try.f31 fi41 body41 Try.f41 fi27 body27 Try.f27 fi35 body35
attribute [local go_sem] Try.f35 r27_1 r27_3 r31_1 r31_3 r31_7 r31_9 r31_6 r34_1 r34_5 r34_9 r34_17 r34_19 r34_23 r34_15 r34_24 r35_1 r35_3 r41_1 r41_3 plA3 pl3 plA4 pl4 plA6 pl6 plA11 pl11 plA12 pl12 plA13 pl13 plA14 pl14 plA15 pl15 plA24 pl24 plA30 pl30
attribute [local go_sem] plA31 pl31 plA32 pl32 plA33 pl33 plA40 pl40 plA41 pl41 plA42 pl42 plA52 pl52
def rowT (t : Tl) : List AV := [.v (.int .i64 t.id), .v (.int .i64 t.st), .v (.int .i64 t.inc), .v (.int .i64 t.told)]
theorem flatT (q : List Tl) : FlatR (q.map rowT) := FlatR.of fun r hr => by
  obtain ⟨t, -, rfl⟩ := List.mem_map.1 hr
  rfl
theorem rowT_at {q : List Tl} {i : Nat} (h : i < q.length) : (q.map rowT)[i]?.getD [] = rowT q[i] := by
  rw [List.getElem?_map, List.getElem?_eq_getElem h]
  rfl
def layG (n : Int) (q : List Tl) : Bls := [some (.lit [.v (.int .i64 n), .sl 1 0 4 q.length none, .fn 27 [] []]), some (.rows 4 (q.map rowT))]
def bI (n : Int) (q : List Tl) (x : Tl) : Bls := layG n q ++ [some (.lit [.ptr 0 0 3 1]), some (.lit (rowT x))]
def tI (q : List Tl) (i : Nat) : TM := [(8, .v (.int .i64 i)), (7, .v (.int .i64 q.length)), (0, .sl 1 0 4 q.length none), (1, .fn 41 [] [.ptr 2 0 1 0, .ptr 3 0 4 0])]
theorem putI_step {x : Tl} {q : List Tl} {i : Nat} (h : i < q.length) : putI x (q.drop i) i = if LessT x q[i] then (i : Int) else putI x (q.drop (i + 1)) (i + 1) := by
  rw [List.drop_eq_getElem_cons h]
  rfl
set_option maxRecDepth 100000 in
set_option maxHeartbeats 4000000 in
theorem idx_word (n : Int) (q : List Tl) (x : Tl) (hq : q.length < 100000) : Word Try.prog (plOf pls) 34 [.sl 1 0 4 q.length none, .fn 41 [] [.ptr 2 0 1 0, .ptr 3 0 4 0]] (bI n q x) (ObQ 4 (.v (.int .i64 (putI x q 0))) (bI n q x)) := by
  refine ⟨_, fi34, by simp, fun C hb hC => ?_⟩
  have hf := flatT q
  have hC : C.β.b.length = 4 := hC
  refine ExQ_ok [] 2000 plsOk noK ?_
  simp only [conf0, bI, layG, List.cons_append, List.nil_append]
  (try rw [exh]); simp (maxSteps := 4000000) only [go_sem, ↓bsplit_true, ↓bsplit_false, ↓reduceIte, Nat.reduceLT, Nat.reduceLeDiff, Nat.reduceEqDiff, Nat.reduceAdd, Nat.reduceSub, Nat.reduceMul, Nat.reduceBEq, Nat.reduceBNe, reduceCtorEq, Int.reduceEq, Int.reduceLT, Int.reduceLE, Int.reduceAdd, Int.reduceSub, Int.reduceMul, Int.reduceToNat, ↓xs27, ↓xs31, ↓xs34, ↓xs35, ↓xs41]
  repeat (refine And.intro (a := (_ = true)) (by first | (simp; done) | (simp; omega)) ?_)
  refine Rch.loop plsOk ?_
  refine Rch.fit1K hC [0, 1, 2, 3] rfl (tm' := tI q 0) (bl' := bI n q x) rfl (by decide) rfl ⟨rfl, rfl, rfl, rfl, trivial⟩ rfl ⟨⟨rfl, rfl⟩, ⟨by simp only [renCt, hf.ren]; exact rfl, by simp only [lvCt, hf.lv]⟩, ⟨rfl, rfl⟩, ⟨rfl, rfl⟩, trivial⟩ ?_
  refine loop_ind plsOk (α := {a : Nat // a ≤ q.length}) (fun a => q.length - a.1) (fun a => tI q a.1) (fun _ => bI n q x) (fun a => ObQ 4 (.v (.int .i64 (putI x (q.drop a.1) a.1))) (bI n q x)) ?_ ⟨0, Nat.zero_le _⟩
  rintro ⟨i, hi⟩ ih
  simp only [tI, bI, layG, List.cons_append, List.nil_append] at hi ih ⊢
  by_cases h : (i : Int) < q.length
  · have e := rowT_at (q := q) (i := i) (by omega)
    rw [putI_step (by omega)]
    generalize q[i]'(by omega) = y at e ⊢
    simp only [rowT] at e ih ⊢
    by_cases h1 : x.told < y.told
    · rw [if_pos (show LessT x y from .inl h1)]
      refine ExQ_ok [] 2000 plsOk noK ?_
      (try rw [exh]); simp (maxSteps := 4000000) only [h, e, h1, go_sem, ↓bsplit_true, ↓bsplit_false, ↓reduceIte, Nat.reduceLT, Nat.reduceLeDiff, Nat.reduceEqDiff, Nat.reduceAdd, Nat.reduceSub, Nat.reduceMul, Nat.reduceBEq, Nat.reduceBNe, reduceCtorEq, Int.reduceEq, Int.reduceLT, Int.reduceLE, Int.reduceAdd, Int.reduceSub, Int.reduceMul, Int.reduceToNat, ↓xs27, ↓xs31, ↓xs34, ↓xs35, ↓xs41]
      repeat (refine And.intro (a := (_ = true)) (by first | (simp; done) | (simp; omega)) ?_)
      exact ObQ.mk [0, 1, 2, 3] (by decide) rfl rfl rfl ⟨rfl, by simp only [renCt, hf.ren]; exact rfl, rfl, rfl, trivial⟩
    · by_cases h2 : x.told = y.told
      · have g2 : decide (x.told = y.told) = true := decide_eq_true h2
        by_cases h3 : x.id < y.id
        · rw [if_pos (show LessT x y from .inr ⟨h2, h3⟩)]
          refine ExQ_ok [] 2000 plsOk noK ?_
          (try rw [exh]); simp (maxSteps := 4000000) only [h, e, h1, g2, h3, go_sem, ↓bsplit_true, ↓bsplit_false, ↓reduceIte, Nat.reduceLT, Nat.reduceLeDiff, Nat.reduceEqDiff, Nat.reduceAdd, Nat.reduceSub, Nat.reduceMul, Nat.reduceBEq, Nat.reduceBNe, reduceCtorEq, Int.reduceEq, Int.reduceLT, Int.reduceLE, Int.reduceAdd, Int.reduceSub, Int.reduceMul, Int.reduceToNat, ↓xs27, ↓xs31, ↓xs34, ↓xs35, ↓xs41]
          repeat (refine And.intro (a := (_ = true)) (by first | (simp; done) | (simp; omega)) ?_)
          exact ObQ.mk [0, 1, 2, 3] (by decide) rfl rfl rfl ⟨rfl, by simp only [renCt, hf.ren]; exact rfl, rfl, rfl, trivial⟩
        · rw [if_neg (show ¬ LessT x y from fun k => by unfold LessT at k; omega)]
          refine ExQ_ok [] 2000 plsOk noK ?_
          (try rw [exh]); simp (maxSteps := 4000000) only [h, e, h1, g2, h3, go_sem, ↓bsplit_true, ↓bsplit_false, ↓reduceIte, Nat.reduceLT, Nat.reduceLeDiff, Nat.reduceEqDiff, Nat.reduceAdd, Nat.reduceSub, Nat.reduceMul, Nat.reduceBEq, Nat.reduceBNe, reduceCtorEq, Int.reduceEq, Int.reduceLT, Int.reduceLE, Int.reduceAdd, Int.reduceSub, Int.reduceMul, Int.reduceToNat, ↓xs27, ↓xs31, ↓xs34, ↓xs35, ↓xs41]
          repeat (refine And.intro (a := (_ = true)) (by first | (simp; done) | (simp; omega)) ?_)
          refine Rch.fit1K hC [0, 1, 2, 3] rfl (tm' := tI q (i + 1)) (bl' := bI n q x) rfl (by decide) rfl ⟨rfl, rfl, rfl, rfl, trivial⟩ rfl ⟨⟨rfl, rfl⟩, ⟨by simp only [renCt, hf.ren]; exact rfl, by simp only [lvCt, hf.lv]⟩, ⟨rfl, rfl⟩, ⟨rfl, rfl⟩, trivial⟩ ?_
          exact ih ⟨i + 1, by omega⟩ (by simp only; omega)
      · have g2 : decide (x.told = y.told) = false := decide_eq_false h2
        rw [if_neg (show ¬ LessT x y from fun k => by unfold LessT at k; omega)]
        refine ExQ_ok [] 2000 plsOk noK ?_
        (try rw [exh]); simp (maxSteps := 4000000) only [h, e, h1, g2, go_sem, ↓bsplit_true, ↓bsplit_false, ↓reduceIte, Nat.reduceLT, Nat.reduceLeDiff, Nat.reduceEqDiff, Nat.reduceAdd, Nat.reduceSub, Nat.reduceMul, Nat.reduceBEq, Nat.reduceBNe, reduceCtorEq, Int.reduceEq, Int.reduceLT, Int.reduceLE, Int.reduceAdd, Int.reduceSub, Int.reduceMul, Int.reduceToNat, ↓xs27, ↓xs31, ↓xs34, ↓xs35, ↓xs41]
        repeat (refine And.intro (a := (_ = true)) (by first | (simp; done) | (simp; omega)) ?_)
        refine Rch.fit1K hC [0, 1, 2, 3] rfl (tm' := tI q (i + 1)) (bl' := bI n q x) rfl (by decide) rfl ⟨rfl, rfl, rfl, rfl, trivial⟩ rfl ⟨⟨rfl, rfl⟩, ⟨by simp only [renCt, hf.ren]; exact rfl, by simp only [lvCt, hf.lv]⟩, ⟨rfl, rfl⟩, ⟨rfl, rfl⟩, trivial⟩ ?_
        exact ih ⟨i + 1, by omega⟩ (by simp only; omega)
  · rw [show putI x (q.drop i) i = -1 by rw [List.drop_eq_nil_of_le (by omega)]; rfl]
    refine ExQ_ok [] 2000 plsOk noK ?_
    (try rw [exh]); simp (maxSteps := 4000000) only [h, go_sem, ↓bsplit_true, ↓bsplit_false, ↓reduceIte, Nat.reduceLT, Nat.reduceLeDiff, Nat.reduceEqDiff, Nat.reduceAdd, Nat.reduceSub, Nat.reduceMul, Nat.reduceBEq, Nat.reduceBNe, reduceCtorEq, Int.reduceEq, Int.reduceLT, Int.reduceLE, Int.reduceAdd, Int.reduceSub, Int.reduceMul, Int.reduceToNat, ↓xs27, ↓xs31, ↓xs34, ↓xs35, ↓xs41]
    repeat (refine And.intro (a := (_ = true)) (by first | (simp; done) | (simp; omega)) ?_)
    exact ObQ.mk [0, 1, 2, 3] (by decide) rfl rfl rfl ⟨rfl, by simp only [renCt, hf.ren]; exact rfl, rfl, rfl, trivial⟩
def bJ (q : List Tl) (w : Tl) : Bls := [some (.rows 4 (q.map rowT)), some (.lit [.v (.int .i64 w.id), .v (.int .i64 w.st), .v (.int .i64 w.inc)])]
def tJ (q : List Tl) (i : Nat) : TM := [(8, .v (.int .i64 i)), (7, .v (.int .i64 q.length)), (0, .sl 0 0 4 q.length none), (1, .fn 35 [] [.ptr 1 0 3 0])]
theorem idI_step {a : Int} {q : List Tl} {i : Nat} (h : i < q.length) : idI a (q.drop i) i = if q[i].id = a then (i : Int) else idI a (q.drop (i + 1)) (i + 1) := by
  rw [List.drop_eq_getElem_cons h]
  rfl
set_option maxRecDepth 100000 in
set_option maxHeartbeats 4000000 in
theorem idx2_word (q : List Tl) (x : Tl) (hq : q.length < 100000) : Word Try.prog (plOf pls) 34 [.sl 0 0 4 q.length none, .fn 35 [] [.ptr 1 0 3 0]] (bJ q x) (ObQ 2 (.v (.int .i64 (idI x.id q 0))) (bJ q x)) := by
  refine ⟨_, fi34, by simp, fun C hb hC => ?_⟩
  have hf := flatT q
  have hC : C.β.b.length = 2 := hC
  refine ExQ_ok [] 2000 plsOk noK ?_
  simp only [conf0, bJ]
  (try rw [exh]); simp (maxSteps := 4000000) only [go_sem, ↓bsplit_true, ↓bsplit_false, ↓reduceIte, Nat.reduceLT, Nat.reduceLeDiff, Nat.reduceEqDiff, Nat.reduceAdd, Nat.reduceSub, Nat.reduceMul, Nat.reduceBEq, Nat.reduceBNe, reduceCtorEq, Int.reduceEq, Int.reduceLT, Int.reduceLE, Int.reduceAdd, Int.reduceSub, Int.reduceMul, Int.reduceToNat, ↓xs27, ↓xs31, ↓xs34, ↓xs35, ↓xs41]
  repeat (refine And.intro (a := (_ = true)) (by first | (simp; done) | (simp; omega)) ?_)
  refine Rch.loop plsOk ?_
  refine Rch.fit1K hC [0, 1] rfl (tm' := tJ q 0) (bl' := bJ q x) rfl (by decide) rfl ⟨rfl, rfl, rfl, rfl, trivial⟩ rfl ⟨⟨by simp only [renCt, hf.ren]; exact rfl, by simp only [lvCt, hf.lv]⟩, ⟨rfl, rfl⟩, trivial⟩ ?_
  refine loop_ind plsOk (α := {a : Nat // a ≤ q.length}) (fun a => q.length - a.1) (fun a => tJ q a.1) (fun _ => bJ q x) (fun a => ObQ 2 (.v (.int .i64 (idI x.id (q.drop a.1) a.1))) (bJ q x)) ?_ ⟨0, Nat.zero_le _⟩
  rintro ⟨i, hi⟩ ih
  simp only [tJ, bJ] at hi ih ⊢
  by_cases h : (i : Int) < q.length
  · have e := rowT_at (q := q) (i := i) (by omega)
    rw [idI_step (by omega)]
    generalize q[i]'(by omega) = y at e ⊢
    simp only [rowT] at e
    by_cases h1 : y.id = x.id
    · have g1 : decide (y.id = x.id) = true := decide_eq_true h1
      rw [if_pos h1]
      refine ExQ_ok [] 2000 plsOk noK ?_
      (try rw [exh]); simp (maxSteps := 4000000) only [h, e, g1, go_sem, ↓bsplit_true, ↓bsplit_false, ↓reduceIte, Nat.reduceLT, Nat.reduceLeDiff, Nat.reduceEqDiff, Nat.reduceAdd, Nat.reduceSub, Nat.reduceMul, Nat.reduceBEq, Nat.reduceBNe, reduceCtorEq, Int.reduceEq, Int.reduceLT, Int.reduceLE, Int.reduceAdd, Int.reduceSub, Int.reduceMul, Int.reduceToNat, ↓xs27, ↓xs31, ↓xs34, ↓xs35, ↓xs41]
      repeat (refine And.intro (a := (_ = true)) (by first | (simp; done) | (simp; omega)) ?_)
      exact ObQ.mk [0, 1] (by decide) rfl rfl rfl ⟨by simp only [renCt, hf.ren]; exact rfl, rfl, trivial⟩
    · have g1 : decide (y.id = x.id) = false := decide_eq_false h1
      rw [if_neg h1]
      refine ExQ_ok [] 2000 plsOk noK ?_
      (try rw [exh]); simp (maxSteps := 4000000) only [h, e, g1, go_sem, ↓bsplit_true, ↓bsplit_false, ↓reduceIte, Nat.reduceLT, Nat.reduceLeDiff, Nat.reduceEqDiff, Nat.reduceAdd, Nat.reduceSub, Nat.reduceMul, Nat.reduceBEq, Nat.reduceBNe, reduceCtorEq, Int.reduceEq, Int.reduceLT, Int.reduceLE, Int.reduceAdd, Int.reduceSub, Int.reduceMul, Int.reduceToNat, ↓xs27, ↓xs31, ↓xs34, ↓xs35, ↓xs41]
      repeat (refine And.intro (a := (_ = true)) (by first | (simp; done) | (simp; omega)) ?_)
      refine Rch.fit1K hC [0, 1] rfl (tm' := tJ q (i + 1)) (bl' := bJ q x) rfl (by decide) rfl ⟨rfl, rfl, rfl, rfl, trivial⟩ rfl ⟨⟨by simp only [renCt, hf.ren]; exact rfl, by simp only [lvCt, hf.lv]⟩, ⟨rfl, rfl⟩, trivial⟩ ?_
      exact ih ⟨i + 1, by omega⟩ (by simp only; omega)
  · rw [show idI x.id (q.drop i) i = -1 by rw [List.drop_eq_nil_of_le (by omega)]; rfl]
    refine ExQ_ok [] 2000 plsOk noK ?_
    (try rw [exh]); simp (maxSteps := 4000000) only [h, go_sem, ↓bsplit_true, ↓bsplit_false, ↓reduceIte, Nat.reduceLT, Nat.reduceLeDiff, Nat.reduceEqDiff, Nat.reduceAdd, Nat.reduceSub, Nat.reduceMul, Nat.reduceBEq, Nat.reduceBNe, reduceCtorEq, Int.reduceEq, Int.reduceLT, Int.reduceLE, Int.reduceAdd, Int.reduceSub, Int.reduceMul, Int.reduceToNat, ↓xs27, ↓xs31, ↓xs34, ↓xs35, ↓xs41]
    repeat (refine And.intro (a := (_ = true)) (by first | (simp; done) | (simp; omega)) ?_)
    exact ObQ.mk [0, 1] (by decide) rfl rfl rfl ⟨by simp only [renCt, hf.ren]; exact rfl, rfl, trivial⟩
def telOf : List AV → Tl
  | [.v (.int .i64 a), .v (.int .i64 b), .v (.int .i64 c), .v (.int .i64 d)] => ⟨a, b, c, d⟩
  | _ => ⟨0, 0, 0, 0⟩
def isT : List AV → Bool
  | [.v (.int .i64 _), .v (.int .i64 _), .v (.int .i64 _), .v (.int .i64 _)] => true
  | _ => false
theorem telOf_rowT (t : Tl) : telOf (rowT t) = t := rfl
theorem telMap (q : List Tl) : (q.map rowT).map telOf = q := by
  rw [List.map_map]
  exact (List.map_congr_left (g := id) fun t _ => telOf_rowT t).trans (List.map_id _)
theorem isT_all (q : List Tl) : (q.map rowT).all isT = true := by
  rw [List.all_map]
  exact List.all_eq_true.2 fun t _ => rfl
theorem rowT_of {r : List AV} (h : isT r = true) : rowT (telOf r) = r := by
  unfold isT at h
  split at h
  · rfl
  · cases h
theorem rowMap {rs : List (List AV)} (h : rs.all isT = true) : (rs.map telOf).map rowT = rs := by
  rw [List.map_map]
  exact (List.map_congr_left (g := id) fun r hr => rowT_of (List.all_eq_true.1 h r hr)).trans (List.map_id _)
theorem lvl_lt {bl : Bls} {l : Nat} {c : Ct} (h : lvl bl l = some c) : l < bl.length := (List.getElem?_eq_some_iff.1 (lvl_get h)).1
def osIx : OSpec := fun args bl => match args with
  | [.sl l 0 4 n none, .fn f [] [.ptr a 0 1 0, .ptr b 0 4 0]] => (match lvl bl a with
    | some (.lit [.ptr g 0 3 1]) => (match lvl bl g with
      | some (.lit [.v (.int .i64 nn), .sl l2 0 4 n2 none, .fn f2 [] []]) => (match lvl bl l with
        | some (.rows 4 rs) => (match lvl bl b with
          | some (.lit [.v (.int .i64 x1), .v (.int .i64 x2), .v (.int .i64 x3), .v (.int .i64 x4)]) => some (decide (f = 41) && (decide (f2 = 27) && (decide (l2 = l) && (decide (n2 = n) && (decide (rs.length = n) && (decide (n < 100000) && (rs.all isT && decide [g, l, a, b].Nodup)))))), [g, l, a, b],
              [.sl 1 0 4 (rs.map telOf).length none, .fn 41 [] [.ptr 2 0 1 0, .ptr 3 0 4 0]], bI nn (rs.map telOf) ⟨x1, x2, x3, x4⟩, .v (.int .i64 (putI ⟨x1, x2, x3, x4⟩ (rs.map telOf) 0)), [])
          | _ => none)
        | _ => none)
      | _ => none)
    | _ => none)
  | [.sl l 0 4 n none, .fn f [] [.ptr b 0 3 0]] => (match lvl bl l with
    | some (.rows 4 rs) => (match lvl bl b with
      | some (.lit [.v (.int .i64 x1), .v (.int .i64 x2), .v (.int .i64 x3)]) => some (decide (f = 35) && (decide (rs.length = n) && (decide (n < 100000) && (rs.all isT && decide [l, b].Nodup))), [l, b],
          [.sl 0 0 4 (rs.map telOf).length none, .fn 35 [] [.ptr 1 0 3 0]], bJ (rs.map telOf) ⟨x1, x2, x3, 0⟩, .v (.int .i64 (idI x1 (rs.map telOf) 0)), [])
      | _ => none)
    | _ => none)
  | _ => none
theorem osIx_ok : ReadOk Try.prog (plOf pls) 34 osIx := by
  intro args bl σ args0 bl0 r1 bl1 hs
  unfold osIx at hs
  split at hs
  · rename_i l n f a b
    split at hs
    · rename_i g e0
      split at hs
      · rename_i nn l2 n2 f2 e1
        split at hs
        · rename_i rs e2
          split at hs
          · rename_i x1 x2 x3 x4 e3
            simp only [Option.some.injEq, Prod.mk.injEq, Bool.and_eq_true, decide_eq_true_eq] at hs
            obtain ⟨⟨rfl, rfl, rfl, rfl, rfl, h1, h2, h3⟩, rfl, rfl, rfl, rfl, rfl⟩ := hs
            have hf := flatT (rs.map telOf)
            have hm := rowMap h2
            have hl : (rs.map telOf).length = rs.length := List.length_map _
            have := lvl_lt e0; have := lvl_lt e1; have := lvl_lt e2; have := lvl_lt e3
            refine ⟨idx_word nn _ _ (by rw [hl]; exact h1), ⟨_, ⟨_, _, rfl, .inl ⟨by rw [hl]; rfl, rfl⟩, _, _, rfl, .inl ⟨rfl, rfl⟩, rfl⟩, fun _ _ h => h⟩, h3, ?_, rfl, ⟨⟨by rw [hl]; exact e1, rfl⟩, ⟨by simp only [renCt, hf.ren]; rw [hm]; exact e2, by simp only [lvCt, hf.lv]⟩, ⟨e0, rfl⟩, ⟨e3, rfl⟩, trivial⟩, ?_, ?_, rfl, ?_⟩
            · simp only [List.all_cons, List.all_nil, Bool.and_true, Bool.and_eq_true, decide_eq_true_eq]
              exact ⟨by assumption, by assumption, by assumption, by assumption⟩
            · intro l x hx
              simp only [bI, layG, List.cons_append, List.nil_append] at hx
              match l with
              | 0 => cases hx; simp
              | 1 => cases hx; simp
              | 2 => cases hx; simp
              | 3 => cases hx; simp
              | l + 4 => simp at hx
            · simp [-List.map_map, bI, layG, okBls, lvCt, lvB, lvL, hf.lv, lvE, rowT]
              and_intros <;> rfl
            · simp [-List.map_map, bI, layG, okBls, lvCt, lvB, lvL, hf.lv, lvE, rowT]
              and_intros <;> rfl
          · cases hs
        · cases hs
      · cases hs
    · cases hs
  · rename_i l n f b
    split at hs
    · rename_i rs e2
      split at hs
      · rename_i x1 x2 x3 e3
        simp only [Option.some.injEq, Prod.mk.injEq, Bool.and_eq_true, decide_eq_true_eq] at hs
        obtain ⟨⟨rfl, rfl, h1, h2, h3⟩, rfl, rfl, rfl, rfl, rfl⟩ := hs
        have hf := flatT (rs.map telOf)
        have hm := rowMap h2
        have hl : (rs.map telOf).length = rs.length := List.length_map _
        have := lvl_lt e2; have := lvl_lt e3
        refine ⟨idx2_word _ ⟨x1, x2, x3, 0⟩ (by rw [hl]; exact h1), ⟨_, ⟨_, _, rfl, .inl ⟨by rw [hl]; rfl, rfl⟩, _, _, rfl, .inl ⟨rfl, rfl⟩, rfl⟩, fun _ _ h => h⟩, h3, ?_, rfl, ⟨⟨by simp only [renCt, hf.ren]; rw [hm]; exact e2, by simp only [lvCt, hf.lv]⟩, ⟨e3, rfl⟩, trivial⟩, ?_, ?_, rfl, ?_⟩
        · simp only [List.all_cons, List.all_nil, Bool.and_true, Bool.and_eq_true, decide_eq_true_eq]
          exact ⟨by assumption, by assumption⟩
        · intro l x hx
          simp only [bJ] at hx
          match l with
          | 0 => cases hx; simp
          | 1 => cases hx; simp
          | l + 2 => simp at hx
        · simp [-List.map_map, bJ, okBls, lvCt, lvB, lvL, hf.lv, lvE]
          try (and_intros <;> rfl)
        · simp [-List.map_map, bJ, okBls, lvCt, lvB, lvL, hf.lv, lvE]
          try (and_intros <;> rfl)
      · cases hs
    · cases hs
  · cases hs
end GS
end Go.Proofs.Ytfnnmkjlokjkhaa
