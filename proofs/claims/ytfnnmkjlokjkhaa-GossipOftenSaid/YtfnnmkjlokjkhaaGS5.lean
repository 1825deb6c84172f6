/- Gossip: the word of Take. -/
import Derived.Test.YtfnnmkjlokjkhaaGS4
set_option linter.unusedSimpArgs false
set_option linter.unusedVariables false
namespace Go.Proofs.Ytfnnmkjlokjkhaa
open Go Go.SY
namespace GS
attribute [local go_sem] Ex stops inK stepF frsF frF itemF codeF condF opsF opsW opF callO drF drO drW drC stepS wtS gdst gdl sopF pv evq orl bltF callF calleeS popF lopF bltP callP cls lvA rdl quiet p_move p_assign p_pick p_nilCheck
attribute [local go_sem] p_binOp p_unOp p_convert p_fieldAddr p_indexAddr p_index p_slice p_makeFunc p_extract p_field p_build p_len p_cap p_min p_max l_load l_convert l_slice zerR roomR appRR roomN appNN cpSrcN clN cpSrc cpR clR e_clear srcR dstR srcN dstN e_store e_alloc e_box e_buildSlice e_makeSlice e_append e_copy
attribute [local go_sem] e_convert SY.get SY.put SY.ev SY.mk SY.nth SY.lvl SY.setl SY.ini wid wids dr tk flat at1 pack parts rdC rdCt wrC wrCt ar bits2 bopInt bopStr bopEq isPtr isSl isBl eqPs eqLf bop pickAV bnd subO cutOf okMx fillA plFs nz
attribute [local go_sem] minI numsAt aOf hd1 hdL immL isArr ctOf rowsOf numsAV rep elCt wrRow killO chR enterS leaveS retS endS exitS gotoS finishS killL isDefs setPs roundS resS resAll tup1 conf0 AV.scal plk spz Ct.cell exq_zero exq_go exq_d exq_n lvCt lvE
attribute [local go_sem] exq_t exq_f exq_t0 exq_f0 List.toList_toArray Bool.and_true Bool.true_and Bool.not_false Bool.not_true List.contains_nil List.contains_cons Bool.or_false Bool.false_or Option.isSome_some Option.isSome_none Option.isNone_none Option.isNone_some true_and and_true Option.some.injEq Bool.false_eq_true List.map_cons List.map_nil List.all_cons List.all_nil Bool.and_self List.drop_succ_cons List.drop_zero List.length_cons List.length_nil List.cons_append List.nil_append Option.map_some Option.map_none List.append_nil Nat.zero_add Nat.add_zero Nat.sub_zero Nat.zero_mul Nat.mul_one
attribute [local go_sem] Int.toNat_natCast Int.toNat_zero Int.toNat_one Int.add_zero Int.sub_zero Int.cast_ofNat_Int decide_true decide_false Option.getD_some Option.getD_none ktB ktX ktOf conK extK ovlK rwz alive alive0 mks noMk lndL lnd lvB lvL lvR lvT tB_tt tB_ft tB_ff okBls shB ren renL renR renCt ne_eq not_false_eq_true not_true_eq_false and_false
attribute [local go_sem] false_and and_self ti0 ti1 ti2 ti3 ti4 ti5 ti6 ti7 ti8 ti9 ti10 ti11 ti12 ti13 ti14 ti15 ti16 ti17 ti18 ti19 ti20 ti21 ti22 ti23 ti24 ti25 ti26 ti27 ti28 ti29 ti30 ti31 ti32 ti33 ti34 ti35 ti36 ti37
attribute [local go_sem] ti38 ti39 ti40 ti41 ti42 ti43 ti44 ti45 ti46 ti47 ti48 ti49 ti50 ti51 ti52 ti53 ti54 ti55 ti56 ti57 ti58 ti59 ti60 ti61 ti62 ti63 ti64 ti65 ti66 ti67 ti68 ti69 ti70 ti71 ti72 ti73 ti74 ti75 ti76 ti77
attribute [local go_sem] ti78 ti79 ti80 ti81 ti82 ti83 ti84 ti85 ti86 ti87 ti88 ti89 ti90 ti91 ti92 ti93 ti94 ti95 ti96 ti97 ti98 ti99 ti100 ti101 ti102 regAt fi28 body28 Try.f28 fi11 body11 Try.f11 fi18 body18 Try.f18 r11_1 r11_5 r11_9 r11_10 r11_12
attribute [local go_sem] r11_14 r11_16 r11_20 r11_24 r11_32 r11_34 r11_36 r11_38 r11_40 r11_30 r11_42 r18_1 r18_5 r18_9 r18_10 r28_1 r28_3 plA3 pl3 plA4 pl4 plA6 pl6 plA11 pl11 plA12 pl12 plA13 pl13 plA14 pl14 plA15 pl15 plA24 pl24 plA30 pl30 plA31 pl31 plA32
attribute [local go_sem] pl32 plA33 pl33 plA40 pl40 plA41 pl41 plA42 pl42 plA52 pl52
def rowM (t : Tl) : List AV := [.v (.int .i64 t.id), .v (.int .i64 t.st), .v (.int .i64 t.inc)]
theorem flatM (q : List Tl) : FlatR (q.map rowM) := FlatR.of fun r hr => by
  obtain ⟨t, -, rfl⟩ := List.mem_map.1 hr
  rfl
def tkN (z : Int) (q : List Tl) : Nat := if z < 1 then 0 else (min (min z 16) (q.length : Int)).toNat
def tT (m i : Nat) : TM := [(44, .v (.int .i64 i)), (43, .v (.int .i64 m)), (42, .sl 3 0 4 m none), (6, .sl 4 0 3 i none), (0, .ptr 0 0 3 0)]
def bT (n : Int) (acc fs outs : List Tl) : Bls := [some (.lit [.v (.int .i64 n), .sl 2 0 4 acc.length none, .fn 27 [] []]), none, some (.rows 4 (acc.map rowT)), some (.rows 4 (fs.map rowT)), some (.rows 3 (outs.map rowM))]
theorem bitN_lt (n : Int) : 1 ≤ bitN n ∧ bitN n ≤ 7 := by
  unfold bitN
  repeat' split
  all_goals omega
theorem back_len {lim : Int} : ∀ (l acc : List Tl), (l.foldl (backQ lim) acc).length ≤ l.length + acc.length
  | [], _ => by simp
  | t :: r, acc => by
    rw [List.foldl_cons]
    refine Nat.le_trans (back_len r _) ?_
    rw [backQ]
    split
    · rw [put_len, List.length_cons]; omega
    · rw [List.length_cons]; omega
attribute [local go_sem] kG0 ktO ktW kN0 ktOf conK sChk sOver specT sLen readK osIx osPut findG layG sClT delK objK objB updT mapB rhoN nm mrk List.append_nil List.nodup_cons List.mem_cons List.not_mem_nil List.take_succ_cons List.take_zero List.getD_cons_zero List.getD_cons_succ btt bff not_true_eq_false not_false_eq_true List.drop_zero
set_option maxRecDepth 100000 in
set_option maxHeartbeats 4000000 in
theorem take_word (n : Int) (q : List Tl) (z : Int) (hn : 1 ≤ n) (hn2 : n ≤ 64) (hq : q.length < 20000) (ht : ∀ t ∈ q, 0 ≤ t.told ∧ t.told < 1000) :
    Word Try.prog (plOf pls) 11 [.ptr 0 0 3 0, .v (.int .i64 z)] (layG n q) (ObQ 1 (.sl 2 0 3 (tkN z q) none) (layG n (takeQ (3 * bitN n) (tkN z q) q).2 ++ [some (.rows 3 ((takeQ (3 * bitN n) (tkN z q) q).1.map rowM))])) := by
  refine ⟨_, fi11, by simp, fun C hb hC => ?_⟩
  have hf := flatT q
  have n0 : ¬ n = 0 := by omega
  by_cases h1 : z < 1
  · have e : tkN z q = 0 := if_pos h1
    rw [e]
    simp only [takeQ, List.take_zero, List.foldl_nil, List.drop_zero, List.map_nil]
    refine ExQ_ok [] 2000 plsOk kG0_ok ?_
    simp only [conf0, layG]
    (try rw [exh]); simp (maxSteps := 4000000) only [n0, h1, go_sem, ↓bsplit_true, ↓bsplit_false, ↓reduceIte, Nat.reduceLT, Nat.reduceLeDiff, Nat.reduceEqDiff, Nat.reduceAdd, Nat.reduceSub, Nat.reduceMul, Nat.reduceBEq, Nat.reduceBNe, reduceCtorEq, Int.reduceEq, Int.reduceLT, Int.reduceLE, Int.reduceAdd, Int.reduceSub, Int.reduceMul, Int.reduceToNat, ↓xs11, ↓xs18, ↓xs28]
    repeat (refine And.intro (a := (_ = true)) (by first | (simp; done) | (simp; omega)) ?_)
    exact .wk (Wk.noneR _ 3) (.den (r2 := .sl 2 0 3 0 none) (fun _ _ h => den_nilsl h) (ObQ.mk [0, 1, 2] (by decide) rfl rfl rfl ⟨rfl, by simp only [renCt, hf.ren]; exact rfl, rfl, trivial⟩))
  have hC : C.β.b.length = 2 := hC
  obtain ⟨m, hm⟩ : ∃ m, tkN z q = m := ⟨_, rfl⟩
  have hm2 : min (min z 16) (q.length : Int) = (m : Int) := by rw [← hm, tkN, if_neg h1]; omega
  have hml : m ≤ q.length := by omega
  have hm0 : (0 : Int) ≤ m := by omega
  have hm1 : (m : Int) ≤ q.length := by omega
  rw [hm]
  have tm := telMap q
  have ta := isT_all q
  have hlr : (q.map rowT).length = q.length := List.length_map _
  have g1 : (q.map rowT).take m = (q.take m).map rowT := List.map_take.symm
  have g2 : (q.map rowT).drop m = (q.drop m).map rowT := List.map_drop.symm
  have g3 : ((q.take m).map rowT).length = m := by rw [List.length_map, List.length_take]; omega
  have g4 : ((q.drop m).map rowT).length = (q.drop m).length := List.length_map _
  have ta1 := isT_all (q.take m)
  have hf1 := flatT (q.take m)
  have hf2 := flatT (q.drop m)
  have hdl : (q.drop m).length = q.length - m := List.length_drop
  refine ExQ_ok [] 2000 plsOk kG0_ok ?_
  simp only [conf0, layG]
  (try rw [exh]); simp (maxSteps := 4000000) only [n0, h1, hm2, hm0, hm1, tm, ta, hlr, g1, g2, g3, g4, ta1, hf.lv, hf1.lv, hf1.ren, hf2.lv, go_sem, ↓bsplit_true, ↓bsplit_false, ↓reduceIte, Nat.reduceLT, Nat.reduceLeDiff, Nat.reduceEqDiff, Nat.reduceAdd, Nat.reduceSub, Nat.reduceMul, Nat.reduceBEq, Nat.reduceBNe, reduceCtorEq, Int.reduceEq, Int.reduceLT, Int.reduceLE, Int.reduceAdd, Int.reduceSub, Int.reduceMul, Int.reduceToNat, ↓xs11, ↓xs18, ↓xs28]
  repeat (refine And.intro (a := (_ = true)) (by first | (simp; done) | (simp; omega)) ?_)
  refine Rch.nilslR 6 0 3 3 rfl rfl ?_
  refine Rch.loop plsOk ?_
  have hM0 := flatM (q.take 0)
  refine Rch.fit1K hC [0, 1, 3, 2, 4] rfl (tm' := tT m 0) (bl' := bT n (q.drop m) (q.take m) (q.take 0)) rfl (by decide) rfl ⟨rfl, rfl, rfl, rfl, rfl, trivial⟩ rfl ⟨⟨rfl, rfl⟩, ⟨by simp only [renCt, hf2.ren]; exact rfl, by simp only [lvCt, hf2.lv]⟩, ⟨by simp only [renCt, hf1.ren]; exact rfl, by simp only [lvCt, hf1.lv]⟩, ⟨rfl, rfl⟩, trivial⟩ ?_
  obtain ⟨lim, hlim⟩ : ∃ lim, 3 * bitN n = lim := ⟨_, rfl⟩
  rw [hlim]
  refine loop_ind plsOk (α := {a : Nat // a ≤ m}) (fun a => m - a.1) (fun a => tT m a.1) (fun a => bT n ((q.take a.1).foldl (backQ lim) (q.drop m)) (q.take m) (q.take a.1)) (fun _ => ObQ 1 (.sl 2 0 3 m none) (layG n (takeQ lim m q).2 ++ [some (.rows 3 ((takeQ lim m q).1.map rowM))])) ?_ ⟨0, Nat.zero_le _⟩
  clear g2 g4 hf2 hM0
  rintro ⟨i, hi⟩ ih
  simp only [tT, bT] at hi ih ⊢
  have hbl := back_len (lim := lim) (q.take i) (q.drop m)
  rw [List.length_take] at hbl
  by_cases h : (i : Int) < m
  · have hi2 : i < q.length := by omega
    have he : ((q.take m).map rowT)[i]?.getD [] = rowT q[i] := by
      rw [rowT_at (by rw [List.length_take]; omega), List.getElem_take]
    have hte := ht q[i] (List.getElem_mem _)
    have htk : q.take (i + 1) = q.take i ++ [q[i]] := List.take_succ_eq_append_getElem hi2
    have hfo : (q.take (i + 1)).foldl (backQ lim) (q.drop m) = backQ lim ((q.take i).foldl (backQ lim) (q.drop m)) q[i] := by rw [htk, List.foldl_append]; rfl
    have hro : (q.take (i + 1)).map rowM = (q.take i).map rowM ++ [rowM q[i]] := by rw [htk, List.map_append]; rfl
    have ih := ih ⟨i + 1, by omega⟩ (by simp only; omega)
    simp only at ih
    have hol : ((q.take i).map rowM).length = i := by rw [List.length_map, List.length_take]; omega
    have hol2 : ((q.take (i + 1)).map rowM).length = i + 1 := by rw [List.length_map, List.length_take]; omega
    have hoT : ((q.take i).map rowM).take i = (q.take i).map rowM := List.take_of_length_le (by omega)
    have hfo2 := flatM (q.take i)
    have hfo3 := flatM (q.take (i + 1))
    rw [hfo] at ih
    generalize (q.take i).foldl (backQ lim) (q.drop m) = acc at *
    generalize hqi : q[i] = t at *
    obtain ⟨x1, x2, x3, x4⟩ := t
    simp only [rowT, rowM] at he hro
    simp only at hte
    have hfa := flatT acc
    have tm2 := telMap acc
    have ta2 := isT_all acc
    have hla : (acc.map rowT).length = acc.length := List.length_map _
    have hb2 := bitN_lt n
    have hw : IntKind.u64.wrap n = n := by simp [IntKind.wrap, IntKind.signed, IntKind.bits]; omega
    by_cases h2 : x4 + 1 < lim
    · rw [backQ, if_pos h2] at ih
      simp only [Tl.bump] at ih
      have hfp := flatT (putQ ⟨x1, x2, x3, x4 + 1⟩ acc)
      refine ExQ_ok [] 2000 plsOk kG0_ok ?_
      (try rw [exh]); simp (maxSteps := 4000000) only [n0, h, he, hol, hoT, hla, tm2, ta2, hw, hlim, h2, hfa.lv, hfa.ren, hfp.lv, hfp.ren, hf1.lv, hf1.ren, hfo2.lv, hfo2.ren, hro.symm, hol2, go_sem, ↓bsplit_true, ↓bsplit_false, ↓reduceIte, Nat.reduceLT, Nat.reduceLeDiff, Nat.reduceEqDiff, Nat.reduceAdd, Nat.reduceSub, Nat.reduceMul, Nat.reduceBEq, Nat.reduceBNe, reduceCtorEq, Int.reduceEq, Int.reduceLT, Int.reduceLE, Int.reduceAdd, Int.reduceSub, Int.reduceMul, Int.reduceToNat, ↓xs11, ↓xs18, ↓xs28]
      repeat (refine And.intro (a := (_ = true)) (by first | (simp; done) | (simp; omega)) ?_)
      refine Rch.fit1K hC [0, 1, 8, 3, 7] rfl (tm' := tT m (i + 1)) (bl' := bT n (putQ ⟨x1, x2, x3, x4 + 1⟩ acc) (q.take m) (q.take (i + 1))) rfl (by decide) rfl ⟨rfl, rfl, rfl, rfl, rfl, trivial⟩ rfl ⟨⟨rfl, rfl⟩, ⟨by simp only [renCt, hfp.ren]; exact rfl, by simp only [lvCt, hfp.lv]⟩, ⟨by simp only [renCt, hf1.ren]; exact rfl, by simp only [lvCt, hf1.lv]⟩, ⟨by simp only [renCt, hfo3.ren]; exact rfl, by simp only [lvCt, hfo3.lv]⟩, trivial⟩ ?_
      exact ih
    · rw [backQ, if_neg h2] at ih
      refine ExQ_ok [] 2000 plsOk kG0_ok ?_
      (try rw [exh]); simp (maxSteps := 4000000) only [n0, h, he, hol, hoT, hla, tm2, ta2, hw, hlim, h2, hfa.lv, hfa.ren, hf1.lv, hf1.ren, hfo2.lv, hfo2.ren, hro.symm, hol2, go_sem, ↓bsplit_true, ↓bsplit_false, ↓reduceIte, Nat.reduceLT, Nat.reduceLeDiff, Nat.reduceEqDiff, Nat.reduceAdd, Nat.reduceSub, Nat.reduceMul, Nat.reduceBEq, Nat.reduceBNe, reduceCtorEq, Int.reduceEq, Int.reduceLT, Int.reduceLE, Int.reduceAdd, Int.reduceSub, Int.reduceMul, Int.reduceToNat, ↓xs11, ↓xs18, ↓xs28]
      repeat (refine And.intro (a := (_ = true)) (by first | (simp; done) | (simp; omega)) ?_)
      refine Rch.fit1K hC [0, 1, 2, 3, 7] rfl (tm' := tT m (i + 1)) (bl' := bT n (acc) (q.take m) (q.take (i + 1))) rfl (by decide) rfl ⟨rfl, rfl, rfl, rfl, rfl, trivial⟩ rfl ⟨⟨rfl, rfl⟩, ⟨by simp only [renCt, hfa.ren]; exact rfl, by simp only [lvCt, hfa.lv]⟩, ⟨by simp only [renCt, hf1.ren]; exact rfl, by simp only [lvCt, hf1.lv]⟩, ⟨by simp only [renCt, hfo3.ren]; exact rfl, by simp only [lvCt, hfo3.lv]⟩, trivial⟩ ?_
      exact ih
  · obtain rfl : i = m := by omega
    refine ExQ_ok [] 2000 plsOk kG0_ok ?_
    (try rw [exh]); simp (maxSteps := 4000000) only [n0, h, go_sem, ↓bsplit_true, ↓bsplit_false, ↓reduceIte, Nat.reduceLT, Nat.reduceLeDiff, Nat.reduceEqDiff, Nat.reduceAdd, Nat.reduceSub, Nat.reduceMul, Nat.reduceBEq, Nat.reduceBNe, reduceCtorEq, Int.reduceEq, Int.reduceLT, Int.reduceLE, Int.reduceAdd, Int.reduceSub, Int.reduceMul, Int.reduceToNat, ↓xs11, ↓xs18, ↓xs28]
    repeat (refine And.intro (a := (_ = true)) (by first | (simp; done) | (simp; omega)) ?_)
    have hx := flatT ((q.take i).foldl (backQ lim) (q.drop i))
    have hy := flatM (q.take i)
    exact ObQ.mk [0, 2, 4] (by decide) rfl rfl rfl ⟨rfl, by simp only [takeQ, renCt, hx.ren]; exact rfl, by simp only [takeQ, renCt, hy.ren]; exact rfl, trivial⟩
end GS
end Go.Proofs.Ytfnnmkjlokjkhaa
