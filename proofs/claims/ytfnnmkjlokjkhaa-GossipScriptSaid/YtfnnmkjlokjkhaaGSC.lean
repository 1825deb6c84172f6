/- GossipScript: its walk. -/
import Derived.Test.YtfnnmkjlokjkhaaGSB
set_option linter.unusedSimpArgs false
set_option linter.unusedVariables false
namespace Go.Proofs.Ytfnnmkjlokjkhaa
open Go Go.SY
namespace GS
attribute [local go_sem] Ex stops inK stepF frsF frF itemF codeF condF opsF opsW opF callO drF drO drW drC stepS wtS gdst gdl sopF pv evq orl bltF callF calleeS popF lopF bltP callP cls lvA rdl quiet p_move p_assign p_pick p_nilCheck
attribute [local go_sem] p_binOp p_unOp p_convert p_fieldAddr p_indexAddr p_index p_slice p_makeFunc p_extract p_field p_build p_len p_cap p_min p_max l_load l_convert l_slice zerR roomR appRR roomN appNN cpSrcN clN cpSrc cpR clR e_clear srcR dstR srcN dstN e_store e_alloc e_box e_buildSlice e_makeSlice e_append e_copy
attribute [local go_sem] e_convert SY.get SY.put SY.ev SY.mk SY.nth SY.lvl SY.setl SY.ini wid wids dr tk flat at1 pack parts rdC rdCt wrC wrCt ar bits2 bopInt bopStr bopEq isPtr isSl isBl eqPs eqLf bop pickAV bnd subO cutOf okMx fillA plFs nz
attribute [local go_sem] minI numsAt aOf hd1 hdL immL isArr ctOf rowsOf numsAV rep elCt wrRow killO chR enterS leaveS retS endS exitS gotoS finishS killL isDefs setPs roundS resS resAll tup1 conf0 AV.scal plk spz Ct.cell exq_zero exq_go exq_d exq_n lvCt lvE
attribute [local go_sem] exq_t exq_f exq_t0 exq_f0 List.toList_toArray Bool.and_true Bool.true_and Bool.not_false Bool.not_true List.contains_nil List.contains_cons Bool.or_false Bool.false_or Option.isSome_some Option.isSome_none Option.isNone_none Option.isNone_some true_and and_true Option.some.injEq Bool.false_eq_true List.map_cons List.map_nil List.all_cons List.all_nil Bool.and_self List.drop_succ_cons List.drop_zero List.length_cons List.length_nil List.cons_append List.nil_append Option.map_some Option.map_none List.append_nil Nat.zero_add Nat.add_zero Nat.sub_zero Nat.zero_mul Nat.mul_one
attribute [local go_sem] Int.toNat_natCast Int.toNat_zero Int.toNat_one Int.add_zero Int.sub_zero Int.cast_ofNat_Int decide_true decide_false Option.getD_some Option.getD_none ktB ktX ktOf conK extK ovlK rwz alive alive0 mks noMk lndL lnd lvB lvL lvR lvT tB_tt tB_ft tB_ff okBls shB ren renL renR renCt ne_eq not_false_eq_true not_true_eq_false and_false
attribute [local go_sem] false_and and_self ti0 ti1 ti2 ti3 ti4 ti5 ti6 ti7 ti8 ti9 ti10 ti11 ti12 ti13 ti14 ti15 ti16 ti17 ti18 ti19 ti20 ti21 ti22 ti23 ti24 ti25 ti26 ti27 ti28 ti29 ti30 ti31 ti32 ti33 ti34 ti35 ti36 ti37
attribute [local go_sem] ti38 ti39 ti40 ti41 ti42 ti43 ti44 ti45 ti46 ti47 ti48 ti49 ti50 ti51 ti52 ti53 ti54 ti55 ti56 ti57 ti58 ti59 ti60 ti61 ti62 ti63 ti64 ti65 ti66 ti67 ti68 ti69 ti70 ti71 ti72 ti73 ti74 ti75 ti76 ti77
attribute [local go_sem] ti78 ti79 ti80 ti81 ti82 ti83 ti84 ti85 ti86 ti87 ti88 ti89 ti90 ti91 ti92 ti93 ti94 ti95 ti96 ti97 ti98 ti99 ti100 ti101 ti102 regAt fi3 body3 Try.f3 fi8 body8 Try.f8 fi9 body9 Try.f9 fi28 body28 Try.f28 fi16 body16
attribute [local go_sem] Try.f16 fi18 body18 Try.f18 fi17 body17 Try.f17 r3_1 r3_3 r3_5 r3_9 r3_13 r3_16 r3_20 r3_23 r3_29 r3_37 r3_42 r3_46 r3_50 r3_51 r3_57 r3_62 r3_61 r3_63 r3_65 r3_67 r3_71 r3_72 r3_76 r3_33 r3_77 r8_1 r8_5 r8_9 r8_10 r8_12 r9_1 r9_5 r9_9
attribute [local go_sem] r9_10 r16_1 r16_5 r16_9 r16_10 r17_1 r17_3 r18_1 r18_5 r18_9 r18_10 r28_1 r28_3 plA3 pl3 plA4 pl4 plA6 pl6 plA11 pl11 plA12 pl12 plA13 pl13 plA14 pl14 plA15 pl15 plA24 pl24 plA30 pl30 plA31 pl31 plA32 pl32 plA33 pl33 plA40
attribute [local go_sem] pl40 plA41 pl41 plA42 pl42 plA52 pl52
theorem told_put {x : Tl} {q : List Tl} (h : toldOk q = true) (hx : 0 ≤ x.told ∧ x.told < 1000) : toldOk (putQ x q) = true := by
  refine List.all_eq_true.2 fun t ht => ?_
  rcases List.mem_cons.1 ((put_perm x q).mem_iff.1 ht) with rfl | ht
  · simpa using hx
  · exact List.all_eq_true.1 h t ht
theorem told_sub {q r : List Tl} (h : toldOk q = true) (hs : ∀ t ∈ r, t ∈ q) : toldOk r = true := List.all_eq_true.2 fun t ht => List.all_eq_true.1 h t (hs t ht)
theorem told_add {w : Tl} {q : List Tl} (h : toldOk q = true) (hw : w.told = 0) : toldOk (addQ ov w q).2 = true := by
  unfold addQ
  split
  · exact told_put h (by omega)
  · split
    · split
      · exact told_put (told_sub h fun t ht => List.mem_of_mem_eraseIdx ht) (by omega)
      · exact h
    · exact h
theorem told_back {lim : Int} (hl : lim ≤ 1000) : ∀ {l acc : List Tl}, toldOk l = true → toldOk acc = true → toldOk (l.foldl (backQ lim) acc) = true
  | [], _, _, h => h
  | t :: l, acc, hl2, h => by
    rw [List.foldl_cons]
    have h1 := toldOk_at hl2 t List.mem_cons_self
    refine told_back hl (told_sub hl2 fun t ht => List.mem_cons_of_mem _ ht) ?_
    unfold backQ
    split
    · exact told_put h (by simp only [Tl.bump]; omega)
    · exact h
theorem add_len {w : Tl} {q : List Tl} : (addQ ov w q).2.length ≤ q.length + 1 := by
  unfold addQ
  split
  · rw [put_len]; exact Nat.le_refl _
  · split
    · split
      · rw [put_len]
        have := List.length_eraseIdx_le (i := (idI w.id q 0).toNat) (l := q)
        omega
      · simp
    · simp
theorem take_same {lim z : Int} {q : List Tl} : takeQ lim (tkN z q) q = takeQ lim (tkR z) q := by
  have : ∀ a b : Nat, min a q.length = min b q.length → takeQ lim a q = takeQ lim b q := fun a b h => by
    have e1 : q.take a = q.take b := by rw [← List.take_length (l := q), List.take_take, List.take_take, h]
    have e2 : q.drop a = q.drop b := by
      rcases Nat.lt_or_ge a q.length with h1 | h1
      · have : a = b := by omega
        rw [this]
      · rw [List.drop_eq_nil_of_le h1, List.drop_eq_nil_of_le (by omega)]
    rw [takeQ, takeQ, e1, e2]
  apply this
  unfold tkN tkR
  split <;> omega
theorem tkN_len {lim z : Int} {q : List Tl} : (takeQ lim (tkN z q) q).1.length = tkN z q := by
  rw [takeQ]
  simp only [List.length_take]
  unfold tkN
  split <;> omega
theorem Wk.nilcellR {bl : Bls} {l : Nat} {pre post : List AV} (w2 : Nat) (hl : lvl bl l = some (.lit (pre ++ .nil :: post))) (i w : Nat) : Wk bl (setl bl l (some (.lit (pre ++ .sl bl.length i w 0 Option.none :: post))) ++ [some (.rows w2 [])]) :=
  (Wk.lit hl fun _ _ h => denC_cell rfl rfl (fun _ _ h => den_nilsl h) h).trans (Wk.noneR _ w2)
def bS (n : Int) (q P : List Tl) : Bls := [some (.lit [.v (.int .i64 n), .sl 2 0 4 q.length none, .fn 27 [] []]), some (.lit [.v (.int .i64 n), .sl 3 0 3 P.length none, .sl 4 0 1 P.length none]), some (.rows 4 (q.map rowT)), some (.rows 3 (P.map rowM)), some (.num .i64 (P.map (·.told)))]
def bS2 (n : Int) (q P : List Tl) (R : List (List AV)) : Bls := [some (.lit [.v (.int .i64 n), .sl 2 0 4 q.length none, .fn 27 [] []]), some (.lit [.v (.int .i64 n), .sl 3 0 3 P.length none, .sl 4 0 1 P.length none]), some (.rows 4 (q.map rowT)), some (.rows 3 (P.map rowM)), some (.num .i64 (P.map (·.told))), some (.rows 3 R)]
def tS (rs : List (List AV)) (c0 : Option Nat) (i : Nat) : TM := [(9, .v (.int .i64 i)), (7, .ptr 1 0 3 0), (5, .ptr 0 0 3 0), (1, .imr false 4 rs c0)]
def tS2 (rs : List (List AV)) (c0 : Option Nat) (i m k : Nat) : TM := [(12, .v (.int .i64 k)), (10, .sl 5 0 3 m none), (9, .v (.int .i64 i)), (7, .ptr 1 0 3 0), (5, .ptr 0 0 3 0), (1, .imr false 4 rs c0)]
theorem lvS {rs : List (List AV)} (hf : FlatR rs) (c0 : Option Nat) (i m k N : Nat) : lvT (N + 6) true (tS2 rs c0 i m k) = true ∧ lvT (N + 5) true (tS rs c0 i) = true := by
  simp [tS, tS2, lvT, lvB, tB, hf.lv]
attribute [local go_sem] kS kR1 kG0 ktO ktW kN0 ktOf conK sChk sOver specT sLen sWs readK osAdd osTake osRAdd osRTake osLim findG findR layG layR objK objB updT mapB rhoN nm mrk nilR List.append_nil List.cons_append List.nil_append List.nodup_cons List.mem_cons List.not_mem_nil List.take_succ_cons List.take_zero List.getD_cons_zero
attribute [local go_sem] List.getD_cons_succ btt bff not_true_eq_false not_false_eq_true List.drop_zero killL eq_self decide_true
set_option maxRecDepth 100000 in
set_option maxHeartbeats 8000000 in
theorem script_walk (C : Ctx) (hC : C.β.b = []) (n : Int) (rs : List (List AV)) (hr : ∀ i, i < rs.length → ∃ a b c d : Int, rs[i]?.getD [] = [.v (.int .i64 a), .v (.int .i64 b), .v (.int .i64 c), .v (.int .i64 d)] ∧ -9223372036854775808 ≤ d ∧ d ≤ 9223372036854775807) (hf : FlatR rs) (c0 : Option Nat) :
    Rch Try.prog (plOf pls) C (conf0 3 ⟨128, [.tmp 4], code3⟩ [.v (.int .i64 n), .imr false 4 rs c0] []) IsT := by
  by_cases h1 : n < 1
  · refine ExQ_ok [] 2000 plsOk kS_ok ?_
    simp only [conf0]
    (try rw [exh]); simp (maxSteps := 4000000) only [h1, go_sem, ↓bsplit_true, ↓bsplit_false, ↓reduceIte, Nat.reduceLT, Nat.reduceLeDiff, Nat.reduceEqDiff, Nat.reduceAdd, Nat.reduceSub, Nat.reduceMul, Nat.reduceBEq, Nat.reduceBNe, reduceCtorEq, Int.reduceEq, Int.reduceLT, Int.reduceLE, Int.reduceAdd, Int.reduceSub, Int.reduceMul, Int.reduceToNat, ↓xs3, ↓xs8, ↓xs9, ↓xs16, ↓xs17, ↓xs18, ↓xs28]
    repeat (refine And.intro (a := (_ = true)) (by first | (simp; done) | (simp; omega)) ?_)
    exact rfl
  by_cases h2 : 64 < n
  · refine ExQ_ok [] 2000 plsOk kS_ok ?_
    simp only [conf0]
    (try rw [exh]); simp (maxSteps := 4000000) only [h1, h2, go_sem, ↓bsplit_true, ↓bsplit_false, ↓reduceIte, Nat.reduceLT, Nat.reduceLeDiff, Nat.reduceEqDiff, Nat.reduceAdd, Nat.reduceSub, Nat.reduceMul, Nat.reduceBEq, Nat.reduceBNe, reduceCtorEq, Int.reduceEq, Int.reduceLT, Int.reduceLE, Int.reduceAdd, Int.reduceSub, Int.reduceMul, Int.reduceToNat, ↓xs3, ↓xs8, ↓xs9, ↓xs16, ↓xs17, ↓xs18, ↓xs28]
    repeat (refine And.intro (a := (_ = true)) (by first | (simp; done) | (simp; omega)) ?_)
    exact rfl
  by_cases h3 : (100 : Int) < rs.length
  · refine ExQ_ok [] 2000 plsOk kS_ok ?_
    simp only [conf0]
    (try rw [exh]); simp (maxSteps := 4000000) only [h1, h2, h3, go_sem, ↓bsplit_true, ↓bsplit_false, ↓reduceIte, Nat.reduceLT, Nat.reduceLeDiff, Nat.reduceEqDiff, Nat.reduceAdd, Nat.reduceSub, Nat.reduceMul, Nat.reduceBEq, Nat.reduceBNe, reduceCtorEq, Int.reduceEq, Int.reduceLT, Int.reduceLE, Int.reduceAdd, Int.reduceSub, Int.reduceMul, Int.reduceToNat, ↓xs3, ↓xs8, ↓xs9, ↓xs16, ↓xs17, ↓xs18, ↓xs28]
    repeat (refine And.intro (a := (_ = true)) (by first | (simp; done) | (simp; omega)) ?_)
    exact rfl
  refine ExQ_ok [] 2000 plsOk kS_ok ?_
  simp only [conf0]
  (try rw [exh]); simp (maxSteps := 4000000) only [h1, h2, h3, go_sem, ↓bsplit_true, ↓bsplit_false, ↓reduceIte, Nat.reduceLT, Nat.reduceLeDiff, Nat.reduceEqDiff, Nat.reduceAdd, Nat.reduceSub, Nat.reduceMul, Nat.reduceBEq, Nat.reduceBNe, reduceCtorEq, Int.reduceEq, Int.reduceLT, Int.reduceLE, Int.reduceAdd, Int.reduceSub, Int.reduceMul, Int.reduceToNat, ↓xs3, ↓xs8, ↓xs9, ↓xs16, ↓xs17, ↓xs18, ↓xs28]
  repeat (refine And.intro (a := (_ = true)) (by first | (simp; done) | (simp; omega)) ?_)
  refine Rch.wk rfl (Wk.nilcellR (l := 0) (pre := [.v (.int .i64 n)]) (post := [.fn 27 [] []]) 4 rfl 0 4) ?_
  refine Rch.wk rfl (Wk.nilcellR (l := 1) (pre := [.v (.int .i64 n)]) (post := [.nil]) 3 rfl 0 3) ?_
  refine Rch.wk rfl (Wk.nilcell (l := 1) (pre := [.v (.int .i64 n), .sl 3 0 3 0 none]) (post := []) .i64 rfl 0 1) ?_
  refine Rch.loop plsOk ?_
  have e0 := flatT []
  have e1 := flatM []
  refine Rch.fit1 hC [0, 1, 2, 3, 4] (tm' := tS rs c0 (0)) (bl' := bS n ([]) ([])) rfl (by decide) rfl ⟨rfl, rfl, rfl, congrArg (fun x => AV.imr false 4 x c0) (hf.ren _).symm, trivial⟩ (lvS hf c0 0 0 0 _).2 ⟨⟨rfl, rfl⟩, ⟨rfl, rfl⟩, ⟨by simp only [renCt, e0.ren]; exact rfl, by simp only [lvCt, e0.lv]⟩, ⟨by simp only [renCt, e1.ren]; exact rfl, by simp only [lvCt, e1.lv]⟩, ⟨rfl, rfl⟩, trivial⟩ ?_
  clear e0 e1
  obtain ⟨lim, hlim⟩ : ∃ lim, 3 * bitN n = lim := ⟨_, rfl⟩
  have hb2 := bitN_lt n
  refine loop_ind plsOk (α := {a : Nat × List Tl × List Tl // a.1 ≤ rs.length ∧ RelQ a.2.1 a.2.2 ∧ toldOk a.2.1 = true ∧ a.2.1.length ≤ a.1}) (fun a => rs.length - a.1.1) (fun a => tS rs c0 a.1.1) (fun a => bS n a.1.2.1 a.1.2.2) (fun _ => IsT) ?_ ⟨(0, [], []), Nat.zero_le _, ⟨List.Pairwise.nil, .refl _, List.nodup_nil⟩, rfl, Nat.zero_le _⟩
  rintro ⟨⟨i, q, P⟩, hi, hrel, htq, hql⟩ ih
  simp only [tS, bS] at hi hrel htq hql ih ⊢
  by_cases h : (i : Int) < rs.length
  case neg =>
    refine ExQ_ok [] 2000 plsOk kS_ok ?_
    (try rw [exh]); simp (maxSteps := 4000000) only [h, go_sem, ↓bsplit_true, ↓bsplit_false, ↓reduceIte, Nat.reduceLT, Nat.reduceLeDiff, Nat.reduceEqDiff, Nat.reduceAdd, Nat.reduceSub, Nat.reduceMul, Nat.reduceBEq, Nat.reduceBNe, reduceCtorEq, Int.reduceEq, Int.reduceLT, Int.reduceLE, Int.reduceAdd, Int.reduceSub, Int.reduceMul, Int.reduceToNat, ↓xs3, ↓xs8, ↓xs9, ↓xs16, ↓xs17, ↓xs18, ↓xs28]
    repeat (refine And.intro (a := (_ = true)) (by first | (simp; done) | (simp; omega)) ?_)
    exact rfl
  obtain ⟨a, b, c, d, e, hd, hd2⟩ := hr i (by omega)
  have hlr : (q.map rowT).length = q.length := List.length_map _
  have hlp : (P.map rowM).length = P.length := List.length_map _
  have hlt : (P.map (·.told)).length = P.length := List.length_map _
  have tm := telMap q
  have ta := isT_all q
  have zm := zip_map P
  have za := isM_all P
  have hpl : P.length = q.length := hrel.perm.length_eq.symm
  have htp : toldOk P = true := told_sub htq fun t ht => hrel.perm.mem_iff.2 ht
  have n1 : (1 : Int) ≤ n := by omega
  have n2 : n ≤ 64 := by omega
  have n0 : ¬ n = 0 := by omega
  have hw : IntKind.u64.wrap n = n := by simp [IntKind.wrap, IntKind.signed, IntKind.bits]; omega
  by_cases hN : 0 < d
  · obtain ⟨k, hk⟩ : ∃ k, tkN (d - 1) q = k := ⟨_, rfl⟩
    obtain ⟨k2, hk2⟩ : ∃ k2, tkR (d - 1) = k2 := ⟨_, rfl⟩
    have htr := take_rel (lim := lim) hrel k2
    rw [← hk2, ← take_same, hk] at htr
    have hO := tkN_len (lim := lim) (z := d - 1) (q := q)
    rw [hk] at hO
    obtain ⟨O, q2, eq⟩ : ∃ O q2, takeQ lim k q = (O, q2) := ⟨_, _, rfl⟩
    obtain ⟨O2, P2, eP⟩ : ∃ O2 P2, takeR lim (tkR (d - 1)) P [] = (O2, P2) := ⟨_, _, rfl⟩
    have hq2 : q2.length ≤ q.length ∧ toldOk q2 = true := by
      have e1 : q2 = (q.take k).foldl (backQ lim) (q.drop k) := by rw [takeQ] at eq; exact (Prod.mk.inj eq).2.symm
      rw [e1]
      refine ⟨Nat.le_trans (back_len _ _) ?_, told_back (by omega) (told_sub htq fun t h => List.mem_of_mem_take h) (told_sub htq fun t h => List.mem_of_mem_drop h)⟩
      rw [List.length_take, List.length_drop]; omega
    rw [eq, eP] at htr
    rw [eq] at hO
    simp only at htr hO
    obtain ⟨rfl, hrel2⟩ := htr
    rw [hk2] at eP
    have hfq := flatT q2
    have hfp := flatM P2
    have hfo := flatM O2
    have hpl2 : P2.length = q2.length := hrel2.perm.length_eq.symm
    have hOl : (O2.map rowM).length = k := by rw [List.length_map]; exact hO
    have hOt : (O2.map rowM).take k = O2.map rowM := List.take_of_length_le (by omega)
    have hOa := isM_all O2
    have hkq : k ≤ 100 := by rw [← hk]; unfold tkN; split <;> omega
    refine ExQ_ok [] 2000 plsOk kS_ok ?_
    (try rw [exh]); simp (maxSteps := 4000000) only [h, e, hN, hlr, hlp, hlt, tm, ta, zm, za, hpl, htq, htp, hpl2, n0, n1, n2, hw, hlim, hk, hk2, eq, eP, hO, hOl, hOt, hOa, hfq.ren, hfq.lv, hfp.ren, hfp.lv, hfo.ren, hfo.lv, go_sem, ↓bsplit_true, ↓bsplit_false, ↓reduceIte, Nat.reduceLT, Nat.reduceLeDiff, Nat.reduceEqDiff, Nat.reduceAdd, Nat.reduceSub, Nat.reduceMul, Nat.reduceBEq, Nat.reduceBNe, reduceCtorEq, Int.reduceEq, Int.reduceLT, Int.reduceLE, Int.reduceAdd, Int.reduceSub, Int.reduceMul, Int.reduceToNat, ↓xs3, ↓xs8, ↓xs9, ↓xs16, ↓xs17, ↓xs18, ↓xs28]
    repeat (refine And.intro (a := (_ = true)) (by first | (simp; done) | (simp; omega)) ?_)
    refine Rch.loop plsOk ?_
    refine Rch.fit1 hC [0, 1, 5, 8, 9, 6] (tm' := tS2 rs c0 i k 0) (bl' := bS2 n q2 P2 (O2.map rowM)) rfl (by decide) rfl ⟨rfl, rfl, rfl, rfl, rfl, congrArg (fun x => AV.imr false 4 x c0) (hf.ren _).symm, trivial⟩ (lvS hf c0 i k 0 0).1 ⟨⟨rfl, rfl⟩, ⟨by rw [hpl2]; rfl, rfl⟩, ⟨by simp only [renCt, hfq.ren]; exact rfl, by simp only [lvCt, hfq.lv]⟩, ⟨by simp only [renCt, hfp.ren]; exact rfl, by simp only [lvCt, hfp.lv]⟩, ⟨rfl, rfl⟩, ⟨by simp only [renCt, hfo.ren]; exact rfl, by simp only [lvCt, hfo.lv]⟩, trivial⟩ ?_
    have ih' := ih ⟨(i + 1, q2, P2), by simp only; omega, hrel2, hq2.2, by simp only; omega⟩ (by simp only; omega)
    simp only at ih'
    clear ih e hk hk2 eq eP hlr hlp hlt tm ta zm za
    have hlp2 : (P2.map rowM).length = P2.length := List.length_map _
    have hlt2 : (P2.map (·.told)).length = P2.length := List.length_map _
    have zm2 := zip_map P2
    have za2 := isM_all P2
    refine loop_ind plsOk (α := {a : Nat × List (List AV) // a.1 ≤ k ∧ a.2.length = k ∧ a.2.all isM = true}) (fun a => k - a.1.1) (fun a => tS2 rs c0 i k a.1.1) (fun a => bS2 n q2 P2 a.1.2) (fun _ => IsT) ?_ ⟨(0, O2.map rowM), Nat.zero_le _, hOl, hOa⟩
    clear hOl hOt hOa hfo
    rintro ⟨⟨j, R⟩, hj, hRl, hRa⟩ ih2
    simp only [tS2, bS2] at hj hRl hRa ih2 ⊢
    have hfR := isM_flat hRa
    by_cases h2k : (j : Int) < k
    · obtain ⟨x, y, z, eR⟩ := isM_at hRa (show j < R.length by omega)
      have hRs : (R.set j [.v (.int .i64 x), .v (.int .i64 y), .v (.int .i64 (-1))]).all isM = true := List.all_eq_true.2 fun r hr => by
        rcases List.mem_or_eq_of_mem_set hr with h | rfl
        · exact List.all_eq_true.1 hRa r h
        · rfl
      have hfS := isM_flat hRs
      refine ExQ_ok [] 2000 plsOk kS_ok ?_
      (try rw [exh]); simp (maxSteps := 4000000) only [h2k, eR, go_sem, ↓bsplit_true, ↓bsplit_false, ↓reduceIte, Nat.reduceLT, Nat.reduceLeDiff, Nat.reduceEqDiff, Nat.reduceAdd, Nat.reduceSub, Nat.reduceMul, Nat.reduceBEq, Nat.reduceBNe, reduceCtorEq, Int.reduceEq, Int.reduceLT, Int.reduceLE, Int.reduceAdd, Int.reduceSub, Int.reduceMul, Int.reduceToNat, ↓xs3, ↓xs8, ↓xs9, ↓xs16, ↓xs17, ↓xs18, ↓xs28]
      repeat (refine And.intro (a := (_ = true)) (by first | (simp; done) | (simp; omega)) ?_)
      refine Rch.fit1 hC [0, 1, 2, 3, 4, 5] (tm' := tS2 rs c0 i k (j + 1)) (bl' := bS2 n q2 P2 (R.set j [.v (.int .i64 x), .v (.int .i64 y), .v (.int .i64 (-1))])) rfl (by decide) rfl ⟨rfl, rfl, rfl, rfl, rfl, congrArg (fun x => AV.imr false 4 x c0) (hf.ren _).symm, trivial⟩ (lvS hf c0 i k (j + 1) 0).1 ⟨⟨rfl, rfl⟩, ⟨rfl, rfl⟩, ⟨by simp only [renCt, hfq.ren]; exact rfl, by simp only [lvCt, hfq.lv]⟩, ⟨by simp only [renCt, hfp.ren]; exact rfl, by simp only [lvCt, hfp.lv]⟩, ⟨rfl, rfl⟩, ⟨by simp only [renCt, hfS.ren]; exact rfl, by simp only [lvCt, hfS.lv]⟩, trivial⟩ ?_
      exact ih2 ⟨(j + 1, _), by simp only; omega, by rw [List.length_set]; exact hRl, hRs⟩ (by simp only; omega)
    · refine ExQ_ok [] 2000 plsOk kS_ok ?_
      (try rw [exh]); simp (maxSteps := 4000000) only [h2k, hlp2, hlt2, zm2, za2, hpl2, n0, n1, n2, hw, hlim, go_sem, ↓bsplit_true, ↓bsplit_false, ↓reduceIte, Nat.reduceLT, Nat.reduceLeDiff, Nat.reduceEqDiff, Nat.reduceAdd, Nat.reduceSub, Nat.reduceMul, Nat.reduceBEq, Nat.reduceBNe, reduceCtorEq, Int.reduceEq, Int.reduceLT, Int.reduceLE, Int.reduceAdd, Int.reduceSub, Int.reduceMul, Int.reduceToNat, ↓xs3, ↓xs8, ↓xs9, ↓xs16, ↓xs17, ↓xs18, ↓xs28]
      repeat (refine And.intro (a := (_ = true)) (by first | (simp; done) | (simp; omega)) ?_)
      refine Rch.fit1 hC [0, 1, 2, 3, 4] (tm' := tS rs c0 (i + 1)) (bl' := bS n q2 P2) rfl (by decide) rfl ⟨rfl, rfl, rfl, congrArg (fun x => AV.imr false 4 x c0) (hf.ren _).symm, trivial⟩ (lvS hf c0 0 0 0 _).2 ⟨⟨rfl, rfl⟩, ⟨by rw [hpl2]; rfl, rfl⟩, ⟨by simp only [renCt, hfq.ren]; exact rfl, by simp only [lvCt, hfq.lv]⟩, ⟨by simp only [renCt, hfp.ren]; exact rfl, by simp only [lvCt, hfp.lv]⟩, ⟨rfl, rfl⟩, trivial⟩ ?_
      exact ih'
  · have hra := add_rel (ov := ov) (w := ⟨a, b, c, 0⟩) hrel
    have hta := told_add (w := ⟨a, b, c, 0⟩) htq rfl
    have hal := add_len (w := ⟨a, b, c, 0⟩) (q := q)
    obtain ⟨b1, q2, eq⟩ : ∃ b1 q2, addQ ov ⟨a, b, c, 0⟩ q = (b1, q2) := ⟨_, _, rfl⟩
    obtain ⟨b2, P2, eP⟩ : ∃ b2 P2, addR ov ⟨a, b, c, 0⟩ P = (b2, P2) := ⟨_, _, rfl⟩
    rw [eq, eP] at hra
    rw [eq] at hta hal
    simp only at hra hta hal
    obtain ⟨rfl, hrel2⟩ := hra
    cases hm : mayB n a b c with
    | false =>
      have e1 : addV n a b c q = .tup [.v (.bool false), .v (.int .i64 2)] := by rw [addV, hm]; rfl
      have e2 : addL n a b c q = q := by rw [addL, hm]; rfl
      have e3 : raV n a b c P = .tup [.v (.bool false), .v (.int .i64 2)] := by rw [raV, hm]; rfl
      have e4 : raL n a b c P = P := by rw [raL, hm]; rfl
      have hfq := flatT q
      have hfp := flatM P
      refine ExQ_ok [] 2000 plsOk kS_ok ?_
      (try rw [exh]); simp (maxSteps := 4000000) only [h, e, hN, hlr, hlp, hlt, tm, ta, zm, za, hpl, n0, n1, n2, hw, e1, e2, e3, e4, hfq.ren, hfq.lv, hfp.ren, hfp.lv, hlim, go_sem, ↓bsplit_true, ↓bsplit_false, ↓reduceIte, Nat.reduceLT, Nat.reduceLeDiff, Nat.reduceEqDiff, Nat.reduceAdd, Nat.reduceSub, Nat.reduceMul, Nat.reduceBEq, Nat.reduceBNe, reduceCtorEq, Int.reduceEq, Int.reduceLT, Int.reduceLE, Int.reduceAdd, Int.reduceSub, Int.reduceMul, Int.reduceToNat, ↓xs3, ↓xs8, ↓xs9, ↓xs16, ↓xs17, ↓xs18, ↓xs28]
      repeat (refine And.intro (a := (_ = true)) (by first | (simp; done) | (simp; omega)) ?_)
      refine Rch.fit1 hC [0, 1, 5, 7, 8] (tm' := tS rs c0 (i + 1)) (bl' := bS n (q) (P)) rfl (by decide) rfl ⟨rfl, rfl, rfl, congrArg (fun x => AV.imr false 4 x c0) (hf.ren _).symm, trivial⟩ (lvS hf c0 0 0 0 _).2 ⟨⟨rfl, rfl⟩, ⟨by rw [hpl]; rfl, rfl⟩, ⟨by simp only [renCt, hfq.ren]; exact rfl, by simp only [lvCt, hfq.lv]⟩, ⟨by simp only [renCt, hfp.ren]; exact rfl, by simp only [lvCt, hfp.lv]⟩, ⟨rfl, rfl⟩, trivial⟩ ?_
      exact ih ⟨(i + 1, q, P), by simp only; omega, hrel, htq, by simp only; omega⟩ (by simp only; omega)
    | true =>
      have hlp2 : (P2.map rowM).length = P2.length := List.length_map _
      have hlt2 : (P2.map (·.told)).length = P2.length := List.length_map _
      have zm2 := zip_map P2
      have za2 := isM_all P2
      have bb : (b2 == b2) = true := by cases b2 <;> rfl
      have e1 : addV n a b c q = .tup [.v (.bool b2), .v (.int .i64 0)] := by rw [addV, hm, eq]; rfl
      have e2 : addL n a b c q = q2 := by rw [addL, hm, eq]; rfl
      have e3 : raV n a b c P = .tup [.v (.bool b2), .v (.int .i64 0)] := by rw [raV, hm, eP]; rfl
      have e4 : raL n a b c P = P2 := by rw [raL, hm, eP]; rfl
      have hfq := flatT q2
      have hfp := flatM P2
      have hpl2 : P2.length = q2.length := hrel2.perm.length_eq.symm
      refine ExQ_ok [] 2000 plsOk kS_ok ?_
      (try rw [exh]); simp (maxSteps := 4000000) only [h, e, hN, hlr, hlp, hlt, tm, ta, zm, za, hpl, hpl2, n0, n1, n2, hw, bb, hlp2, hlt2, zm2, za2, e1, e2, e3, e4, hfq.ren, hfq.lv, hfp.ren, hfp.lv, hlim, go_sem, ↓bsplit_true, ↓bsplit_false, ↓reduceIte, Nat.reduceLT, Nat.reduceLeDiff, Nat.reduceEqDiff, Nat.reduceAdd, Nat.reduceSub, Nat.reduceMul, Nat.reduceBEq, Nat.reduceBNe, reduceCtorEq, Int.reduceEq, Int.reduceLT, Int.reduceLE, Int.reduceAdd, Int.reduceSub, Int.reduceMul, Int.reduceToNat, ↓xs3, ↓xs8, ↓xs9, ↓xs16, ↓xs17, ↓xs18, ↓xs28]
      repeat (refine And.intro (a := (_ = true)) (by first | (simp; done) | (simp; omega)) ?_)
      refine Rch.fit1 hC [0, 1, 5, 7, 8] (tm' := tS rs c0 (i + 1)) (bl' := bS n (q2) (P2)) rfl (by decide) rfl ⟨rfl, rfl, rfl, congrArg (fun x => AV.imr false 4 x c0) (hf.ren _).symm, trivial⟩ (lvS hf c0 0 0 0 _).2 ⟨⟨rfl, rfl⟩, ⟨by rw [hpl2]; rfl, rfl⟩, ⟨by simp only [renCt, hfq.ren]; exact rfl, by simp only [lvCt, hfq.lv]⟩, ⟨by simp only [renCt, hfp.ren]; exact rfl, by simp only [lvCt, hfp.lv]⟩, ⟨rfl, rfl⟩, trivial⟩ ?_
      exact ih ⟨(i + 1, q2, P2), by simp only; omega, hrel2, hta, by simp only; omega⟩ (by simp only; omega)
end GS
end Go.Proofs.Ytfnnmkjlokjkhaa
