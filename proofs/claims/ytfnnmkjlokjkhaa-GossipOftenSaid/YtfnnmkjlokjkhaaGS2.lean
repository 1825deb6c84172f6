/- Gossip: the word of put. -/
import Derived.Test.YtfnnmkjlokjkhaaGS1
set_option linter.unusedSimpArgs false
set_option linter.unusedVariables false
namespace Go.Proofs.Ytfnnmkjlokjkhaa
open Go Go.SY
namespace GS
attribute [local go_sem] Ex stops inK stepF frsF frF itemF codeF condF opsF opsW opF callO drF drO drW drC stepS wtS gdst gdl sopF pv evq orl bltF callF calleeS popF lopF bltP callP cls lvA rdl quiet p_move p_assign p_pick p_nilCheck
attribute [local go_sem] p_binOp p_unOp p_convert p_fieldAddr p_indexAddr p_index p_slice p_makeFunc p_extract p_field p_build p_len p_cap p_min p_max l_load l_convert l_slice zerR roomR appRR roomN appNN cpSrcN clN cpSrc cpR clR e_clear srcR dstR srcN dstN e_store e_alloc e_box e_buildSlice e_makeSlice e_append e_copy
attribute [local go_sem] e_convert SY.get SY.put SY.ev SY.mk SY.nth SY.lvl SY.setl SY.ini wid wids dr tk flat at1 pack parts rdC rdCt wrC wrCt ar bits2 bopInt bopStr bopEq isPtr isSl isBl eqPs eqLf bop pickAV bnd subO cutOf okMx fillA plFs nz
attribute [local go_sem] minI numsAt aOf hd1 hdL immL isArr ctOf rowsOf numsAV rep elCt wrRow killO chR enterS leaveS retS endS exitS gotoS finishS killL isDefs setPs roundS resS resAll tup1 conf0 AV.scal plk spz Ct.cell exq_zero exq_go exq_d exq_n lvCt lvE
attribute [local go_sem] exq_t exq_f exq_t0 exq_f0 List.toList_toArray Bool.and_true Bool.true_and Bool.not_false Bool.not_true List.contains_nil List.contains_cons Bool.or_false Bool.false_or Option.isSome_some Option.isSome_none Option.isNone_none Option.isNone_some true_and and_true Option.some.injEq Bool.false_eq_true List.map_cons List.map_nil List.all_cons List.all_nil Bool.and_self List.drop_succ_cons List.drop_zero List.length_cons List.length_nil List.cons_append List.nil_append Option.map_some Option.map_none List.append_nil Nat.zero_add Nat.add_zero Nat.sub_zero Nat.zero_mul Nat.mul_one
attribute [local go_sem] Int.toNat_natCast Int.toNat_zero Int.toNat_one Int.add_zero Int.sub_zero Int.cast_ofNat_Int decide_true decide_false Option.getD_some Option.getD_none ktB ktX ktOf conK extK ovlK rwz alive alive0 mks noMk lndL lnd lvB lvL lvR lvT tB_tt tB_ft tB_ff okBls shB ren renL renR renCt ne_eq not_false_eq_true not_true_eq_false and_false
attribute [local go_sem] false_and and_self ti0 ti1 ti2 ti3 ti4 ti5 ti6 ti7 ti8 ti9 ti10 ti11 ti12 ti13 ti14 ti15 ti16 ti17 ti18 ti19 ti20 ti21 ti22 ti23 ti24 ti25 ti26 ti27 ti28 ti29 ti30 ti31 ti32 ti33 ti34 ti35 ti36 ti37
attribute [local go_sem] ti38 ti39 ti40 ti41 ti42 ti43 ti44 ti45 ti46 ti47 ti48 ti49 ti50 ti51 ti52 ti53 ti54 ti55 ti56 ti57 ti58 ti59 ti60 ti61 ti62 ti63 ti64 ti65 ti66 ti67 ti68 ti69 ti70 ti71 ti72 ti73 ti74 ti75 ti76 ti77
attribute [local go_sem] ti78 ti79 ti80 ti81 ti82 ti83 ti84 ti85 ti86 ti87 ti88 ti89 ti90 ti91 ti92 ti93 ti94 ti95 ti96 ti97 ti98 ti99 ti100 ti101 ti102 regAt fi31 body31 Try.f31 r31_1 r31_3 r31_7 r31_9 r31_6 plA3 pl3 plA4 pl4 plA6 pl6
attribute [local go_sem] plA11 pl11 plA12 pl12 plA13 pl13 plA14 pl14 plA15 pl15 plA24 pl24 plA30 pl30 plA31 pl31 plA32 pl32 plA33 pl33 plA40 pl40 plA41 pl41 plA42 pl42 plA52 pl52
theorem tk1 {α : Type} (x : α) : List.take 1 [x] = [x] := rfl
def kPut0 : KT := ktW 42 (insK 4) (ktW 34 (readK osIx) (fun _ => none))
theorem kPut0_ok : KOk Try.prog (plOf pls) kPut0 := ktW_ok (ktW_ok noK (readK_ok plsOk ⟨_, fi34⟩ osIx_ok)) (insK_ok plsOk ins_ok ⟨_, fi42⟩)
theorem put_len (x : Tl) (q : List Tl) : (putQ x q).length = q.length + 1 := (put_perm x q).length_eq
theorem put_rows {x : Tl} {q : List Tl} {k : Nat} (hk : putQ x q = q.take k ++ x :: q.drop k) : (q.map rowT).take k ++ (rowT x :: (q.map rowT).drop k) = (putQ x q).map rowT := by
  rw [hk, List.map_append, List.map_cons, List.map_take, List.map_drop]
attribute [local go_sem] kPut0 ktW readK osIx insK lnd rhoN nm mapB List.append_nil tk1
set_option maxRecDepth 100000 in
set_option maxHeartbeats 4000000 in
theorem put_word (n : Int) (q : List Tl) (x : Tl) (hq : q.length < 50000) : Word Try.prog (plOf pls) 31 [.ptr 0 0 3 1, .agg (rowT x)] (layG n q) (ObQ 1 (.tup []) (layG n (putQ x q))) := by
  refine ⟨_, fi31, by simp, fun C hb hC => ?_⟩
  have hf := flatT q
  have hg := flatT (putQ x q)
  have hl := put_len x q
  have hlr : (q.map rowT).length = q.length := List.length_map _
  obtain ⟨a1, a2⟩ := put_at (x := x) (q := q) (i := 0)
  have tm := telMap q
  have ta := isT_all q
  obtain ⟨x1, x2, x3, x4⟩ := x
  by_cases h : putI ⟨x1, x2, x3, x4⟩ q 0 < 0
  · have hr := put_rows (k := q.length) (x := ⟨x1, x2, x3, x4⟩) (q := q) (by rw [a1 h, List.take_length, List.drop_length])
    simp only [rowT] at hr
    generalize putQ ⟨x1, x2, x3, x4⟩ q = q' at *
    refine ExQ_ok [] 2000 plsOk kPut0_ok ?_
    simp only [conf0, layG, rowT]
    (try rw [exh]); simp (maxSteps := 4000000) only [hf.lv, tm, ta, hlr, h, hr, go_sem, ↓bsplit_true, ↓bsplit_false, ↓reduceIte, Nat.reduceLT, Nat.reduceLeDiff, Nat.reduceEqDiff, Nat.reduceAdd, Nat.reduceSub, Nat.reduceMul, Nat.reduceBEq, Nat.reduceBNe, reduceCtorEq, Int.reduceEq, Int.reduceLT, Int.reduceLE, Int.reduceAdd, Int.reduceSub, Int.reduceMul, Int.reduceToNat, ↓xs31]
    repeat (refine And.intro (a := (_ = true)) (by first | (simp; done) | (simp; omega)) ?_)
    exact ObQ.mk [0, 5] (by decide) rfl rfl rfl ⟨by rw [hl]; rfl, by simp only [renCt, hg.ren]; exact rfl, trivial⟩
  · obtain ⟨k, e1, e2, e3⟩ := a2 (by omega)
    rw [Nat.zero_add] at e1
    have hr := put_rows (k := k) (x := ⟨x1, x2, x3, x4⟩) (q := q) e3
    simp only [rowT] at hr
    have h0 : ¬ (k : Int) < 0 := by omega
    generalize putQ ⟨x1, x2, x3, x4⟩ q = q' at *
    refine ExQ_ok [] 2000 plsOk kPut0_ok ?_
    simp only [conf0, layG, rowT]
    (try rw [exh]); simp (maxSteps := 4000000) only [hf.lv, tm, ta, hlr, e1, h0, hr, go_sem, ↓bsplit_true, ↓bsplit_false, ↓reduceIte, Nat.reduceLT, Nat.reduceLeDiff, Nat.reduceEqDiff, Nat.reduceAdd, Nat.reduceSub, Nat.reduceMul, Nat.reduceBEq, Nat.reduceBNe, reduceCtorEq, Int.reduceEq, Int.reduceLT, Int.reduceLE, Int.reduceAdd, Int.reduceSub, Int.reduceMul, Int.reduceToNat, ↓xs31]
    repeat (refine And.intro (a := (_ = true)) (by first | (simp; done) | (simp; omega)) ?_)
    exact ObQ.mk [0, 5] (by decide) rfl rfl rfl ⟨by rw [hl]; rfl, by simp only [renCt, hg.ren]; exact rfl, trivial⟩
end GS
end Go.Proofs.Ytfnnmkjlokjkhaa
