/- Journals' laws: the word of fine. -/
import Derived.Test.YtlhjbjpcnncndaaJW6
set_option linter.unusedSimpArgs false
set_option linter.unusedVariables false
namespace Go.Proofs.Ytlhjbjpcnncndaa
open Go Go.SY
namespace JL
open DW JW
attribute [local go_sem] Ex stops inK stepF frsF frF itemF codeF condF opsF opsW opF callO drF drO drW drC stepS wtS gdst gdl sopF pv evq orl bltF callF calleeS popF lopF bltP callP cls lvA rdl quiet p_move p_assign p_pick p_nilCheck
attribute [local go_sem] p_binOp p_unOp p_convert p_fieldAddr p_indexAddr p_index p_slice p_makeFunc p_extract p_field p_build p_len p_cap p_min p_max l_load l_convert l_slice zerR roomR appRR roomN appNN cpSrcN clN cpSrc cpR clR e_clear srcR dstR srcN dstN e_store e_alloc e_box e_buildSlice e_makeSlice e_append e_copy
attribute [local go_sem] e_convert SY.get SY.put SY.ev SY.mk SY.nth SY.lvl SY.setl SY.ini wid wids dr tk flat at1 pack parts rdC rdCt wrC wrCt ar bits2 bopInt bopStr bopEq isPtr isSl isBl eqPs eqLf bop pickAV bnd subO cutOf okMx fillA plFs nz
attribute [local go_sem] minI numsAt aOf hd1 hdL immL isArr ctOf rowsOf numsAV rep elCt wrRow killO chR enterS leaveS retS endS exitS gotoS finishS killL isDefs setPs roundS resS resAll tup1 conf0 AV.scal plk spz Ct.cell exq_zero exq_go exq_d exq_n lvCt lvE
attribute [local go_sem] exq_t exq_f exq_t0 exq_f0 List.toList_toArray Bool.and_true Bool.true_and Bool.not_false Bool.not_true List.contains_nil List.contains_cons Bool.or_false Bool.false_or Option.isSome_some Option.isSome_none Option.isNone_none Option.isNone_some true_and and_true Option.some.injEq Bool.false_eq_true List.map_cons List.map_nil List.all_cons List.all_nil Bool.and_self List.drop_succ_cons List.drop_zero List.length_cons List.length_nil List.cons_append List.nil_append Option.map_some Option.map_none List.append_nil Nat.zero_add Nat.add_zero Nat.sub_zero Nat.zero_mul Nat.mul_one
attribute [local go_sem] Int.toNat_natCast Int.toNat_zero Int.toNat_one Int.add_zero Int.sub_zero Int.cast_ofNat_Int decide_true decide_false Option.getD_some Option.getD_none ktB ktX ktOf conK extK ovlK rwz alive alive0 mks noMk lndL lnd lvB lvL lvR lvT tB_tt tB_ft tB_ff okBls shB ren renL renR renCt ne_eq not_false_eq_true not_true_eq_false and_false
attribute [local go_sem] false_and and_self ti0 ti1 ti2 ti3 ti4 ti5 ti6 ti7 ti8 ti9 ti10 ti11 ti12 ti13 ti14 ti15 ti16 ti17 ti18 ti19 ti20 ti21 ti22 ti23 ti24 ti25 ti26 ti27 ti28 ti29 ti30 ti31 ti32 ti33 ti34 ti35 ti36 ti37
attribute [local go_sem] ti38 ti39 ti40 ti41 ti42 ti43 ti44 ti45 ti46 ti47 ti48 ti49 ti50 ti51 ti52 ti53 ti54 ti55 ti56 ti57 ti58 ti59 ti60 ti61 ti62 ti63 ti64 ti65 ti66 ti67 ti68 ti69 ti70 ti71 ti72 ti73 ti74 ti75 ti76 ti77
attribute [local go_sem] ti78 ti79 ti80 ti81 ti82 ti83 ti84 ti85 ti86 ti87 ti88 ti89 ti90 ti91 ti92 ti93 ti94 ti95 ti96 ti97 ti98 ti99 ti100 ti101 ti102 ti103 ti104 regAt fi19 body19 Try.f19 r19_1 r19_5 r19_11 r19_17 r19_21 r19_15 r19_22 plA8 pl8
attribute [local go_sem] plA10 pl10 plA11 pl11 plA17 pl17 plA22 pl22 plA25 pl25 plA31 pl31 plA37 pl37 plA45 pl45 plA53 pl53 plA55 pl55
theorem plsOk : PlOk Try.prog (plOf pls) := KB.plsOk
theorem noK : KOk Try.prog (plOf pls) (fun _ => none) := KB.noK
def finB (rs : List (List AV)) : Bool := decide (rs.length ≤ 20) && (bys rs).all fun y => decide (1 ≤ y.length ∧ y.length ≤ 200)
theorem fin_bad {rs : List (List AV)} {i : Nat} (hi : i < rs.length) (h : ¬ (1 ≤ (byA rs i).length ∧ (byA rs i).length ≤ 200)) : finB rs = false := by
  refine Bool.eq_false_iff.2 fun e => h ?_
  simp only [finB, Bool.and_eq_true, List.all_eq_true, decide_eq_true_eq] at e
  exact e.2 _ (List.mem_of_getElem? (bys_get hi))
theorem fin_long {rs : List (List AV)} (h : ¬ rs.length ≤ 20) : finB rs = false := by
  rw [finB, decide_eq_false h]; rfl
theorem fin_end {rs : List (List AV)} (hl : rs.length ≤ 20) (h : ∀ i, i < rs.length → 1 ≤ (byA rs i).length ∧ (byA rs i).length ≤ 200) : finB rs = true := by
  simp only [finB, Bool.and_eq_true, List.all_eq_true, decide_eq_true_eq]
  refine ⟨hl, fun y hy => ?_⟩
  obtain ⟨i, hi, rfl⟩ := List.mem_iff_getElem.1 hy
  rw [bys_len] at hi
  have e := bys_get hi
  rw [List.getElem?_eq_getElem (by rw [bys_len]; exact hi), Option.some.injEq] at e
  rw [e]
  exact h i hi
def tFi (t : Bool) (rs : List (List AV)) (c : Option Nat) (i : Nat) : TM := [(3, .v (.int .i64 i)), (0, .imr t 1 rs c)]
theorem tFi_lv {rs : List (List AV)} (hf : FlatR rs) (t : Bool) (c : Option Nat) (i N : Nat) : lvT N true (tFi t rs c i) = true := by
  cases t <;> simp [tFi, lvT, lvB, tB, hf.lv]
set_option maxRecDepth 100000 in
set_option maxHeartbeats 4000000 in
theorem fine_run (C : Ctx) (hC : C.β.b = []) (t : Bool) (rs : List (List AV)) (c : Option Nat) (hm : rs.all isB = true) : Rch Try.prog (plOf pls) C (conf0 19 ⟨31, [.tmp 2], code19⟩ [.imr t 1 rs c] []) (Res (.v (.bool (finB rs))) []) := by
  have hf := isB_flat hm
  refine ExQ_ok [] 2000 plsOk noK ?_
  simp only [conf0]
  (try rw [exh]); simp (maxSteps := 4000000) only [go_sem, ↓bsplit_true, ↓bsplit_false, ↓reduceIte, Nat.reduceLT, Nat.reduceLeDiff, Nat.reduceEqDiff, Nat.reduceAdd, Nat.reduceSub, Nat.reduceMul, Nat.reduceBEq, Nat.reduceBNe, reduceCtorEq, Int.reduceEq, Int.reduceLT, Int.reduceLE, Int.reduceAdd, Int.reduceSub, Int.reduceMul, Int.reduceToNat, ↓xs19]
  repeat (refine And.intro (a := (_ = true)) (by first | (simp; done) | (simp; omega)) ?_)
  refine Rch.loop plsOk ?_
  refine Rch.fit1 hC [] (bl' := []) (tm' := tFi t rs c (0)) rfl List.nodup_nil rfl ⟨rfl, congrArg (fun x => AV.imr t 1 x c) (hf.ren _).symm, trivial⟩ (tFi_lv hf ..) trivial ?_
  refine loop_ind plsOk (α := {i : Nat // i ≤ rs.length ∧ i ≤ 21 ∧ ∀ j, j < i → 1 ≤ (byA rs j).length ∧ (byA rs j).length ≤ 200}) (fun a => rs.length - a.1) (fun a => tFi t rs c a.1) (fun _ => []) (fun _ => Res (.v (.bool (finB rs))) []) ?_ ⟨0, Nat.zero_le _, by decide, fun j hj => absurd hj (Nat.not_lt_zero _)⟩
  rintro ⟨i, hi, hi2, hj⟩ ih
  simp only [tFi] at hi hj ih ⊢
  by_cases h : (i : Int) < rs.length
  · by_cases h2 : (i : Int) < 21
    · have e := isB_row hm (i := i) (by omega)
      by_cases h0 : (((byA rs i).length : Nat) : Int) = 0
      · rw [fin_bad (i := i) (by omega) (by omega)]
        refine ExQ_ok [] 2000 plsOk noK ?_
        (try rw [exh]); simp (maxSteps := 4000000) only [h, h2, h0, e, go_sem, ↓bsplit_true, ↓bsplit_false, ↓reduceIte, Nat.reduceLT, Nat.reduceLeDiff, Nat.reduceEqDiff, Nat.reduceAdd, Nat.reduceSub, Nat.reduceMul, Nat.reduceBEq, Nat.reduceBNe, reduceCtorEq, Int.reduceEq, Int.reduceLT, Int.reduceLE, Int.reduceAdd, Int.reduceSub, Int.reduceMul, Int.reduceToNat, ↓xs19]
        repeat (refine And.intro (a := (_ = true)) (by first | (simp; done) | (simp; omega)) ?_)
        exact Res.val _ _
      · by_cases h3 : (200 : Int) < (byA rs i).length
        · rw [fin_bad (i := i) (by omega) (by omega)]
          refine ExQ_ok [] 2000 plsOk noK ?_
          (try rw [exh]); simp (maxSteps := 4000000) only [h, h2, h0, h3, e, go_sem, ↓bsplit_true, ↓bsplit_false, ↓reduceIte, Nat.reduceLT, Nat.reduceLeDiff, Nat.reduceEqDiff, Nat.reduceAdd, Nat.reduceSub, Nat.reduceMul, Nat.reduceBEq, Nat.reduceBNe, reduceCtorEq, Int.reduceEq, Int.reduceLT, Int.reduceLE, Int.reduceAdd, Int.reduceSub, Int.reduceMul, Int.reduceToNat, ↓xs19]
          repeat (refine And.intro (a := (_ = true)) (by first | (simp; done) | (simp; omega)) ?_)
          exact Res.val _ _
        · refine ExQ_ok [] 2000 plsOk noK ?_
          (try rw [exh]); simp (maxSteps := 4000000) only [h, h2, h0, h3, e, go_sem, ↓bsplit_true, ↓bsplit_false, ↓reduceIte, Nat.reduceLT, Nat.reduceLeDiff, Nat.reduceEqDiff, Nat.reduceAdd, Nat.reduceSub, Nat.reduceMul, Nat.reduceBEq, Nat.reduceBNe, reduceCtorEq, Int.reduceEq, Int.reduceLT, Int.reduceLE, Int.reduceAdd, Int.reduceSub, Int.reduceMul, Int.reduceToNat, ↓xs19]
          repeat (refine And.intro (a := (_ = true)) (by first | (simp; done) | (simp; omega)) ?_)
          refine Rch.fit1 hC [] (bl' := []) (tm' := tFi t rs c (i + 1)) rfl List.nodup_nil rfl ⟨rfl, congrArg (fun x => AV.imr t 1 x c) (hf.ren _).symm, trivial⟩ (tFi_lv hf ..) trivial ?_
          exact ih ⟨i + 1, by omega, by omega, fun j hj' => by
            rcases Nat.lt_or_ge j i with h4 | h4
            · exact hj j h4
            · rw [show j = i by omega]; omega⟩ (by simp only; omega)
    · have h4 : ¬ (rs.length : Int) ≤ 20 := by omega
      rw [fin_long (by omega)]
      refine ExQ_ok [] 2000 plsOk noK ?_
      (try rw [exh]); simp (maxSteps := 4000000) only [h, h2, h4, decide_false, go_sem, ↓bsplit_true, ↓bsplit_false, ↓reduceIte, Nat.reduceLT, Nat.reduceLeDiff, Nat.reduceEqDiff, Nat.reduceAdd, Nat.reduceSub, Nat.reduceMul, Nat.reduceBEq, Nat.reduceBNe, reduceCtorEq, Int.reduceEq, Int.reduceLT, Int.reduceLE, Int.reduceAdd, Int.reduceSub, Int.reduceMul, Int.reduceToNat, ↓xs19]
      repeat (refine And.intro (a := (_ = true)) (by first | (simp; done) | (simp; omega)) ?_)
      exact Res.val _ _
  · by_cases h4 : (rs.length : Int) ≤ 20
    · rw [fin_end (by omega) fun j hj' => hj j (by omega)]
      refine ExQ_ok [] 2000 plsOk noK ?_
      (try rw [exh]); simp (maxSteps := 4000000) only [h, h4, decide_true, go_sem, ↓bsplit_true, ↓bsplit_false, ↓reduceIte, Nat.reduceLT, Nat.reduceLeDiff, Nat.reduceEqDiff, Nat.reduceAdd, Nat.reduceSub, Nat.reduceMul, Nat.reduceBEq, Nat.reduceBNe, reduceCtorEq, Int.reduceEq, Int.reduceLT, Int.reduceLE, Int.reduceAdd, Int.reduceSub, Int.reduceMul, Int.reduceToNat, ↓xs19]
      repeat (refine And.intro (a := (_ = true)) (by first | (simp; done) | (simp; omega)) ?_)
      exact Res.val _ _
    · rw [fin_long (by omega)]
      refine ExQ_ok [] 2000 plsOk noK ?_
      (try rw [exh]); simp (maxSteps := 4000000) only [h, h4, decide_false, go_sem, ↓bsplit_true, ↓bsplit_false, ↓reduceIte, Nat.reduceLT, Nat.reduceLeDiff, Nat.reduceEqDiff, Nat.reduceAdd, Nat.reduceSub, Nat.reduceMul, Nat.reduceBEq, Nat.reduceBNe, reduceCtorEq, Int.reduceEq, Int.reduceLT, Int.reduceLE, Int.reduceAdd, Int.reduceSub, Int.reduceMul, Int.reduceToNat, ↓xs19]
      repeat (refine And.intro (a := (_ = true)) (by first | (simp; done) | (simp; omega)) ?_)
      exact Res.val _ _
def sFin0 : List AV → Option (Bool × AV × Bls)
  | [.imr _ 1 rs _] => some (rs.all isB, .v (.bool (finB rs)), [])
  | _ => none
theorem fine_ok : SpecOk Try.prog (plOf pls) 19 sFin0 := by
  refine ⟨_, fi19, fun args r bl1 h => ?_⟩
  unfold sFin0 at h
  split at h
  · simp only [Option.some.injEq, Prod.mk.injEq] at h
    obtain ⟨h1, rfl, rfl⟩ := h
    exact ⟨by simp, fun C hC _ => fine_run C hC _ _ _ h1⟩
  · cases h
end JL
end Go.Proofs.Ytlhjbjpcnncndaa
