/- Gossip: contracts of put, Clone; the word of Add. -/
import Derived.Test.YtfnnmkjlokjkhaaGS2
import Derived.Test.YtfnnmkjlokjkhaaGN1
set_option linter.unusedSimpArgs false
set_option linter.unusedVariables false
namespace Go.Proofs.Ytfnnmkjlokjkhaa
open Go Go.SY
namespace GS
attribute [local go_sem] Ex stops inK stepF frsF frF itemF codeF condF opsF opsW opF callO drF drO drW drC stepS wtS gdst gdl sopF pv evq orl bltF callF calleeS popF lopF bltP callP cls lvA rdl quiet p_move p_assign p_pick p_nilCheck
attribute [local go_sem] p_binOp p_unOp p_convert p_fieldAddr p_indexAddr p_index p_slice p_makeFunc p_extract p_field p_build p_len p_cap p_min p_max l_load l_convert l_slice zerR roomR appRR roomN appNN cpSrcN clN cpSrc cpR clR e_clear srcR dstR srcN dstN e_store e_alloc e_box e_buildSlice e_makeSlice e_append e_copy
attribute [local go_sem] e_convert SY.get SY.put SY.ev SY.mk SY.nth SY.lvl SY.setl SY.ini wid wids dr tk flat at1 pack parts rdC rdCt wrC wrCt ar bits2 bopInt bopStr bopEq isPtr isSl isBl eqPs eqLf bop pickAV bnd subO cutOf okMx fillA plFs nz
attribute [local go_sem] minI numsAt aOf hd1 hdL immL isArr ctOf rowsOf numsAV rep elCt wrRow killO chR enterS leaveS retS endS exitS gotoS finishS killL isDefs setPs roundS resS resAll tup1 conf0 AV.scal plk spz Ct.cell exq_zero exq_go exq_d exq_n lvCt lvE
attribute [local go_sem] exq_t exq_f exq_t0 exq_f0 List.toList_toArray Bool.and_true Bool.true_and Bool.not_false Bool.not_true List.contains_nil List.contains_cons Bool.or_false Bool.false_or Option.isSome_some Option.isSome_none Option.isNone_none Option.isNone_some true_and and_true Option.some.injEq Bool.false_eq_true List.map_cons List.map_nil List.all_cons List.all_nil Bool.and_self List.drop_succ_cons List.drop_zero List.length_cons List.length_nil List.cons_append List.nil_append Option.map_some Option.map_none List.append_nil Nat.zero_add Nat.add_zero Nat.sub_zero Nat.zero_mul Nat.mul_one
attribute [local go_sem] Int.toNat_natCast Int.toNat_zero Int.toNat_one Int.add_zero Int.sub_zero Int.cast_ofNat_Int decide_true decide_false Option.getD_some Option.getD_none ktB ktX ktOf conK extK ovlK rwz alive alive0 mks noMk lndL lnd lvB lvL lvR lvT tB_tt tB_ft tB_ff okBls shB ren renL renR renCt ne_eq not_false_eq_true not_true_eq_false and_false
attribute [local go_sem] false_and and_self ti0 ti1 ti2 ti3 ti4 ti5 ti6 ti7 ti8 ti9 ti10 ti11 ti12 ti13 ti14 ti15 ti16 ti17 ti18 ti19 ti20 ti21 ti22 ti23 ti24 ti25 ti26 ti27 ti28 ti29 ti30 ti31 ti32 ti33 ti34 ti35 ti36 ti37
attribute [local go_sem] ti38 ti39 ti40 ti41 ti42 ti43 ti44 ti45 ti46 ti47 ti48 ti49 ti50 ti51 ti52 ti53 ti54 ti55 ti56 ti57 ti58 ti59 ti60 ti61 ti62 ti63 ti64 ti65 ti66 ti67 ti68 ti69 ti70 ti71 ti72 ti73 ti74 ti75 ti76 ti77
attribute [local go_sem] ti78 ti79 ti80 ti81 ti82 ti83 ti84 ti85 ti86 ti87 ti88 ti89 ti90 ti91 ti92 ti93 ti94 ti95 ti96 ti97 ti98 ti99 ti100 ti101 ti102 regAt fi29 body29 Try.f29 fi28 body28 Try.f28 fi14 body14 Try.f14 r14_1 r14_6 r14_11 r14_12 r14_16
attribute [local go_sem] r14_17 r14_21 r14_23 r14_29 r14_33 r14_28 r14_34 r14_36 r28_1 r28_3 r29_1 r29_5 r29_9 r29_10 plA3 pl3 plA4 pl4 plA6 pl6 plA11 pl11 plA12 pl12 plA13 pl13 plA14 pl14 plA15 pl15 plA24 pl24 plA30 pl30 plA31 pl31 plA32 pl32 plA33 pl33
attribute [local go_sem] plA40 pl40 plA41 pl41 plA42 pl42 plA52 pl52
def sClT : List AV → Option (Bool × AV × Bls)
  | [.imr _ 4 rs _] => some (decide (rs.length ≤ 1000000) && rs.all isT, .sl 0 0 4 rs.length none, [some (.rows 4 rs)])
  | _ => none
theorem isT_flat {rs : List (List AV)} (h : rs.all isT = true) : FlatR rs := by
  rw [← rowMap h]
  exact flatT _
set_option maxRecDepth 100000 in
set_option maxHeartbeats 4000000 in
theorem clT_run (C : Ctx) (hC : C.β.b = []) (t : Bool) (rs : List (List AV)) (c : Option Nat) (hl : rs.length ≤ 1000000) (ha : rs.all isT = true) : Rch Try.prog (plOf pls) C (conf0 29 ⟨8, [.tmp 2], code29⟩ [.imr t 4 rs c] []) (ObQ 0 (.sl 0 0 4 rs.length none) [some (.rows 4 rs)]) := by
  have hf := isT_flat ha
  by_cases h0 : rs = []
  · subst h0
    refine ExQ_ok [] 8 plsOk noK ?_
    simp only [conf0]
    (try rw [exh]); simp (maxSteps := 4000000) only [go_sem, ↓bsplit_true, ↓bsplit_false, ↓reduceIte, Nat.reduceLT, Nat.reduceLeDiff, Nat.reduceEqDiff, Nat.reduceAdd, Nat.reduceSub, Nat.reduceMul, Nat.reduceBEq, Nat.reduceBNe, reduceCtorEq, Int.reduceEq, Int.reduceLT, Int.reduceLE, Int.reduceAdd, Int.reduceSub, Int.reduceMul, Int.reduceToNat, ↓xs14, ↓xs28, ↓xs29]
    repeat (refine And.intro (a := (_ = true)) (by first | (simp; done) | (simp; omega)) ?_)
    refine Rch.eqnilR rfl rfl ti42 rfl rfl fun b => ?_
    cases b with
    | true =>
      refine ExQ_ok [] 2000 plsOk noK ?_
      (try rw [exh]); simp (maxSteps := 4000000) only [go_sem, ↓bsplit_true, ↓bsplit_false, ↓reduceIte, Nat.reduceLT, Nat.reduceLeDiff, Nat.reduceEqDiff, Nat.reduceAdd, Nat.reduceSub, Nat.reduceMul, Nat.reduceBEq, Nat.reduceBNe, reduceCtorEq, Int.reduceEq, Int.reduceLT, Int.reduceLE, Int.reduceAdd, Int.reduceSub, Int.reduceMul, Int.reduceToNat, ↓xs14, ↓xs28, ↓xs29]
      repeat (refine And.intro (a := (_ = true)) (by first | (simp; done) | (simp; omega)) ?_)
      exact .wk (Wk.noneR _ 4) (.den (r2 := .sl 0 0 4 0 none) (fun _ _ h => den_nilsl h) (ObQ.mk [0] (by decide) rfl rfl rfl ⟨rfl, trivial⟩))
    | false =>
      refine ExQ_ok [] 2000 plsOk noK ?_
      (try rw [exh]); simp (maxSteps := 4000000) only [List.nil_append, List.take_nil, go_sem, ↓bsplit_true, ↓bsplit_false, ↓reduceIte, Nat.reduceLT, Nat.reduceLeDiff, Nat.reduceEqDiff, Nat.reduceAdd, Nat.reduceSub, Nat.reduceMul, Nat.reduceBEq, Nat.reduceBNe, reduceCtorEq, Int.reduceEq, Int.reduceLT, Int.reduceLE, Int.reduceAdd, Int.reduceSub, Int.reduceMul, Int.reduceToNat, ↓xs14, ↓xs28, ↓xs29]
      repeat (refine And.intro (a := (_ = true)) (by first | (simp; done) | (simp; omega)) ?_)
      exact ObQ.mk [1] (by decide) rfl rfl rfl ⟨rfl, trivial⟩
  · have h1 : 0 < rs.length := List.length_pos_iff.2 h0
    refine ExQ_ok [] 2000 plsOk noK ?_
    simp only [conf0]
    (try rw [exh]); simp (maxSteps := 4000000) only [List.nil_append, List.take_nil, hf.lv, go_sem, ↓bsplit_true, ↓bsplit_false, ↓reduceIte, Nat.reduceLT, Nat.reduceLeDiff, Nat.reduceEqDiff, Nat.reduceAdd, Nat.reduceSub, Nat.reduceMul, Nat.reduceBEq, Nat.reduceBNe, reduceCtorEq, Int.reduceEq, Int.reduceLT, Int.reduceLE, Int.reduceAdd, Int.reduceSub, Int.reduceMul, Int.reduceToNat, ↓xs14, ↓xs28, ↓xs29]
    repeat (refine And.intro (a := (_ = true)) (by first | (simp; done) | (simp; omega)) ?_)
    exact ObQ.mk [1] (by decide) rfl rfl rfl ⟨by simp only [renCt, hf.ren]; exact rfl, trivial⟩
theorem clT_ok : SpecW Try.prog (plOf pls) 29 sClT := by
  refine ⟨_, fi29, fun args r bl1 h => ?_⟩
  unfold sClT at h
  split at h
  · simp only [Option.some.injEq, Prod.mk.injEq, Bool.and_eq_true, decide_eq_true_eq] at h
    obtain ⟨⟨h1, h2⟩, rfl, rfl⟩ := h
    exact ⟨by simp, fun C hC _ => clT_run C hC _ _ _ h1 h2⟩
  · cases h
theorem layG_ok (n : Int) (q : List Tl) : okBls (layG n q).length (layG n q) = true := by
  have hf := flatT q
  simp [layG, okBls, lvCt, lvB, lvL, hf.lv, lvE]
  and_intros <;> rfl
def findG (bl : Bls) (l : Nat) : Option (Bool × List Nat × Int × List Tl) := match lvl bl l with
  | some (.lit [.v (.int .i64 n), .sl l1 0 4 n1 none, .fn f [] []]) => (match lvl bl l1 with
    | some (.rows 4 rs) => some (decide (f = 27) && (decide (rs.length = n1) && (rs.all isT && decide [l, l1].Nodup)), [l, l1], n, rs.map telOf)
    | _ => none)
  | _ => none
theorem findG_ok {bl : Bls} {l : Nat} {σ : List Nat} {n : Int} {q : List Tl} (h : findG bl l = some (true, σ, n, q)) : σ.Nodup ∧ (σ.all fun l => decide (l < bl.length)) = true ∧ σ.length = (layG n q).length ∧ FitB (nm σ) σ.length bl 0 (layG n q) ∧ 1 ≤ σ.length ∧ nm σ 0 = l := by
  unfold findG at h
  split at h
  · rename_i n l1 n1 f e0
    split at h
    · rename_i rs e1
      simp only [Option.some.injEq, Prod.mk.injEq, Bool.and_eq_true, decide_eq_true_eq] at h
      obtain ⟨⟨rfl, rfl, h2, h3⟩, rfl, rfl, rfl⟩ := h
      have hf := flatT (rs.map telOf)
      have hm := rowMap h2
      have hl : (rs.map telOf).length = rs.length := List.length_map _
      refine ⟨h3, ?_, rfl, ⟨⟨by rw [hl]; exact e0, rfl⟩, ⟨by simp only [renCt, hf.ren]; rw [hm]; exact e1, by simp only [lvCt, hf.lv]⟩, trivial⟩, by simp, rfl⟩
      have := lvl_lt e0; have := lvl_lt e1
      simp only [List.all_cons, List.all_nil, Bool.and_true, Bool.and_eq_true, decide_eq_true_eq]
      exact ⟨by assumption, by assumption⟩
    · cases h
  · cases h
def osPut : OSpec := fun args bl => match args with
  | [.ptr l 0 3 1, .agg [.v (.int .i64 a), .v (.int .i64 b), .v (.int .i64 c), .v (.int .i64 d)]] => (match findG bl l with
    | some (v1, σ, n, q) => some (v1 && decide (q.length < 50000), σ, [.ptr 0 0 3 1, .agg (rowT ⟨a, b, c, d⟩)], layG n q, .tup [], layG n (putQ ⟨a, b, c, d⟩ q))
    | none => none)
  | _ => none
theorem osPut_ok : ObjOk Try.prog (plOf pls) 31 1 osPut := by
  intro args bl σ args0 bl0 r1 bl1 hs
  unfold osPut at hs
  split at hs
  · rename_i l a b c d
    split at hs
    · rename_i v1 σ' n q e
      simp only [Option.some.injEq, Prod.mk.injEq, Bool.and_eq_true, decide_eq_true_eq] at hs
      obtain ⟨⟨rfl, h1⟩, rfl, rfl, rfl, rfl, rfl⟩ := hs
      obtain ⟨a1, a2, a3, a4, a5, a6⟩ := findG_ok e
      exact ⟨put_word n q ⟨a, b, c, d⟩ h1, ⟨_, ⟨_, _, rfl, .inl ⟨by simp [ren, a6], by simp [lvB]; omega⟩, _, _, rfl, .inl ⟨rfl, rfl⟩, rfl⟩, fun _ _ h => h⟩, a1, a2, a3, a4, a5, by simp [layG], rfl, layG_ok _ _⟩
    · cases hs
  · cases hs
def kG0 : KT := ktO 31 1 osPut (ktW 29 (conK sClT) (ktW 34 (readK osIx) (ktW 30 (delK 4) kN0)))
theorem kG0_ok : KOk Try.prog (plOf pls) kG0 := ktO_ok plsOk (ktW_ok (ktW_ok (ktW_ok kN0_ok (delK_ok plsOk del_ok ⟨_, fi30⟩)) (readK_ok plsOk ⟨_, fi34⟩ osIx_ok)) (specW_ok plsOk clT_ok)) ⟨_, fi31⟩ osPut_ok
end GS
end Go.Proofs.Ytfnnmkjlokjkhaa
