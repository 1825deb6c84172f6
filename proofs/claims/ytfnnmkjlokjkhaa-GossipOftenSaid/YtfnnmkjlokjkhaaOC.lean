/- GossipOften: its walk. -/
import Derived.Test.YtfnnmkjlokjkhaaGSC
import Derived.Test.YtfnnmkjlokjkhaaOW
set_option linter.unusedSimpArgs false
set_option linter.unusedVariables false
namespace Go.Proofs.Ytfnnmkjlokjkhaa
open Go Go.SY
namespace GS
attribute [local go_sem] Ex stops inK stepF frsF frF itemF codeF condF opsF opsW opF callO drF drO drW drC stepS wtS gdst gdl sopF pv evq orl bltF callF calleeS popF lopF bltP callP cls lvA rdl quiet p_move p_assign p_pick p_nilCheck
attribute [local go_sem] p_binOp p_unOp p_convert p_fieldAddr p_indexAddr p_index p_slice p_makeFunc p_extract p_field p_build p_len p_cap p_min p_max l_load l_convert l_slice zerR roomR appRR roomN appNN cpSrcN clN cpSrc cpR clR e_clear srcR dstR srcN dstN e_store e_alloc e_box e_buildSlice e_makeSlice e_append e_copy
attribute [local go_sem] e_convert SY.get SY.put SY.ev SY.mk SY.nth SY.lvl SY.setl SY.ini wid wids dr tk flat at1 pack parts rdC rdCt wrC wrCt ar bits2 bopInt bopStr bopEq isPtr isSl isBl eqPs eqLf bop pickAV bnd subO cutOf okMx fillA plFs nz
attribute [local go_sem] minI numsAt aOf hd1 hdL immL isArr ctOf rowsOf numsAV rep elCt wrRow killO chR enterS leaveS retS endS exitS gotoS finishS killL isDefs setPs roundS resS resAll tup1 conf0 AV.scal plk spz Ct.cell exq_zero exq_go exq_d exq_n lvCt lvE
attribute [local go_sem] exq_t exq_f exq_t0 exq_f0 List.toList_toArray Bool.and_true Bool.true_and Bool.not_false Bool.not_true List.contains_nil List.contains_cons Bool.or_false Bool.false_or Option.isSome_some Option.isSome_none Option.isNone_none Option.isNone_some true_and and_true Option.some.injEq Bool.false_eq_true List.map_cons List.map_nil List.all_cons List.all_nil Bool.and_self List.drop_succ_cons List.drop_zero List.length_cons List.length_nil List.cons_append List.nil_append Option.map_some Option.map_none List.append_nil Nat.zero_add Nat.add_zero Nat.sub_zero Nat.zero_mul Nat.mul_one
attribute [local go_sem] Int.toNat_natCast Int.toNat_zero Int.toNat_one Int.add_zero Int.sub_zero Int.cast_ofNat_Int decide_true decide_false Option.getD_some Option.getD_none ktB ktX ktOf conK extK ovlK rwz alive alive0 mks noMk lndL lnd lvB lvL lvR lvT tB_tt tB_ft tB_ff okBls shB ren renL renR renCt ne_eq not_false_eq_true not_true_eq_false and_false
attribute [local go_sem] false_and and_self ti0 ti1 ti2 ti3 ti4 ti5 ti6 ti7 ti8 ti9 ti10 ti11 ti12 ti13 ti14 ti15 ti16 ti17 ti18 ti19 ti20 ti21 ti22 ti23 ti24 ti25 ti26 ti27 ti28 ti29 ti30 ti31 ti32 ti33 ti34 ti35 ti36 ti37
attribute [local go_sem] ti38 ti39 ti40 ti41 ti42 ti43 ti44 ti45 ti46 ti47 ti48 ti49 ti50 ti51 ti52 ti53 ti54 ti55 ti56 ti57 ti58 ti59 ti60 ti61 ti62 ti63 ti64 ti65 ti66 ti67 ti68 ti69 ti70 ti71 ti72 ti73 ti74 ti75 ti76 ti77
attribute [local go_sem] ti78 ti79 ti80 ti81 ti82 ti83 ti84 ti85 ti86 ti87 ti88 ti89 ti90 ti91 ti92 ti93 ti94 ti95 ti96 ti97 ti98 ti99 ti100 ti101 ti102 regAt fi6 body6 Try.f6 fi8 body8 Try.f8 fi28 body28 Try.f28 fi16 body16 Try.f16 fi18 body18
attribute [local go_sem] Try.f18 fi23 body23 Try.f23 fi21 body21 Try.f21 r6_1 r6_3 r6_5 r6_7 r6_11 r6_15 r6_18 r6_22 r6_23 r6_25 r6_29 r6_35 r6_41 r6_45 r6_49 r6_52 r6_54 r6_51 r6_39 r6_56 r6_60 r6_66 r6_72 r6_76 r6_78 r6_80 r6_84 r6_88 r6_91 r6_97 r6_105 r6_109 r6_110
attribute [local go_sem] r6_111 r6_101 r6_112 r6_116 r6_70 r6_119 r6_125 r6_131 r6_135 r6_129 r6_136 r8_1 r8_5 r8_9 r8_10 r8_12 r16_1 r16_5 r16_9 r16_10 r18_1 r18_5 r18_9 r18_10 r21_1 r21_3 r23_1 r23_3 r23_5 r28_1 r28_3 plA3 pl3 plA4 pl4 plA6 pl6 plA11 pl11 plA12
attribute [local go_sem] pl12 plA13 pl13 plA14 pl14 plA15 pl15 plA24 pl24 plA30 pl30 plA31 pl31 plA32 pl32 plA33 pl33 plA40 pl40 plA41 pl41 plA42 pl42 plA52 pl52
def bW (n : Int) (q : List Tl) (th : List Bool) (T : List Int) : Bls := [some (.lit [.v (.int .i64 n), .sl 1 0 4 q.length none, .fn 27 [] []]), some (.rows 4 (q.map rowT)), some (.rows 1 (th.map rowB)), some (.num .i64 T)]
def tW1 (n : Int) (L : Nat) (who por : List Int) (c1 c2 : Option Nat) (i m : Nat) : TM := [(13, .v (.int .i64 i)), (12, .v (.int .i64 m)), (11, .sl 3 0 1 L (some L)), (10, .sl 2 0 1 L (some L)), (8, .ptr 0 0 3 0), (7, .v (.bool true)), (2, .imn false .i64 por c2), (1, .imn false .i64 who c1), (0, .v (.int .i64 n))]
def tW2 (n : Int) (L : Nat) (por : List Int) (c2 : Option Nat) (i : Nat) (left : Int) : TM := [(16, .v (.int .i64 i)), (15, .v (.int .i64 left)), (11, .sl 3 0 1 L (some L)), (10, .sl 2 0 1 L (some L)), (8, .ptr 0 0 3 0), (7, .v (.bool true)), (2, .imn false .i64 por c2), (0, .v (.int .i64 n))]
def tW3 (n : Int) (L : Nat) (por : List Int) (c2 : Option Nat) (i k j : Nat) (left : Int) : TM := [(19, .v (.int .i64 j)), (18, .sl 4 0 3 k none), (16, .v (.int .i64 i)), (15, .v (.int .i64 left)), (11, .sl 3 0 1 L (some L)), (10, .sl 2 0 1 L (some L)), (8, .ptr 0 0 3 0), (7, .v (.bool true)), (2, .imn false .i64 por c2), (0, .v (.int .i64 n))]
def tW4 (n : Int) (L : Nat) (i : Nat) : TM := [(20, .v (.int .i64 i)), (15, .v (.int .i64 0)), (11, .sl 3 0 1 L (some L)), (10, .sl 2 0 1 L (some L)), (8, .ptr 0 0 3 0), (7, .v (.bool true)), (0, .v (.int .i64 n))]
def tW0 (n : Int) (who por : List Int) (c1 c2 : Option Nat) : TM := [(8, .ptr 0 0 3 0), (7, .v (.bool true)), (2, .imn false .i64 por c2), (1, .imn false .i64 who c1), (0, .v (.int .i64 n))]
def ptO : PT := .br 2 5 (.leaf [(0, []), (1, []), (3, []), (4, []), (2, []), (6, []), (5, []), (7, [])]) (.leaf [(0, []), (1, []), (3, []), (4, []), (5, []), (2, []), (6, []), (7, [])])
def bW2 (n : Int) (q : List Tl) (th : List Bool) (T : List Int) (R : List (List AV)) : Bls := [some (.lit [.v (.int .i64 n), .sl 1 0 4 q.length none, .fn 27 [] []]), some (.rows 4 (q.map rowT)), some (.rows 1 (th.map rowB)), some (.num .i64 T), some (.rows 3 R)]
attribute [local go_sem] kO kS kR1 kG0 ktO ktW kN0 ktOf conK sChk sOver specT sLen sWs sPick sEven readK osAdd osTake findG layG objK objB updT mapB rhoN nm mrk nilR List.append_nil List.cons_append List.nil_append List.nodup_cons List.mem_cons List.not_mem_nil List.take_succ_cons List.take_zero List.getD_cons_zero List.getD_cons_succ btt
attribute [local go_sem] bff not_true_eq_false not_false_eq_true List.drop_zero killL eq_self decide_true
set_option maxRecDepth 100000 in
set_option maxHeartbeats 8000000 in
theorem often_inner (C : Ctx) (hC : C.β.b = []) (n : Int) (por : List Int) (c2 : Option Nat) (L : Nat) (hL : (L : Int) = n + 1) (n1 : 1 ≤ n) (n2 : n ≤ 64) (h2 : por.length ≤ 300) (lim : Int) (hlim : 3 * bitN n = lim) (th : List Bool) (T : List Int) (q : List Tl) (left : Int) (hinv : Inv lim th T q left) (hthL : th.length = L) (i k : Nat) (hk : k ≤ q.length) (q2 : List Tl) (hib : i ≤ 2000) (hle : left ≤ 1000) (hql : q.length ≤ 20)
    (next : ∀ left2, left2 = left - k → Rch Try.prog (plOf pls) C ⟨[⟨6, 203, tW2 n L por c2 (i + 1) left2, [.lp c6_63, .blk 2, .code c6_59], none, [], []⟩], bW n q2 th (bumpT T (q.take k))⟩ IsT) :
    Rch Try.prog (plOf pls) C ⟨[⟨6, 203, tW3 n L por c2 i k 0 left, [.code c6_94, .lp c6_94, .blk 4, .code c6_90, .blk 3, .code c6_70, .lp c6_63, .blk 2, .code c6_59], none, [], []⟩], bW2 n q2 th T ((q.take k).map rowM)⟩ IsT := by
  have n0 : ¬ n = 0 := by omega
  have hft := flatB th
  have hlth : (th.map rowB).length = L := by rw [List.length_map]; exact hthL
  have hbm := bo_map th
  have hba := bo_all th
  have hfq := flatT q2
  have hfo := flatM (q.take k)
  have hTL : T.length = L := by rw [hinv.len]; exact hthL
  have hkl : (q.take k).length = k := by rw [List.length_take]; omega
  have hn : (q.map (·.id.toNat)).Nodup := ids_nat hinv.ids fun t ht => (hinv.mem t ht).1
  have hev : evB th (bumpT T (q.take k)) = true := by
    have hi2 := hinv.take hk
    have hlen := hi2.len
    have hb2 := bitN_lt n
    simp only [evB, Bool.and_eq_true, decide_eq_true_eq, List.all_eq_true, List.mem_range]
    refine ⟨hlen.symm, by omega, fun x hx => ?_, fun a ha b hb => ?_⟩
    · have := hi2.rng x hx
      omega
    · simp only [Bool.or_eq_true, Bool.not_eq_true', decide_eq_true_eq]
      by_cases g1 : th[a]?.getD false = true
      · by_cases g2 : th[b]?.getD false = true
        · refine .inr (.inr ?_)
          have e1 : th[a]? = some true := by
            cases e : th[a]? with
            | none => rw [e] at g1; cases g1
            | some y => rw [e] at g1; simp at g1; rw [g1]
          have e2 : th[b]? = some true := by
            cases e : th[b]? with
            | none => rw [e] at g2; cases g2
            | some y => rw [e] at g2; simp at g2; rw [g2]
          have := hi2.even a b e1 e2 _ _ (List.getElem?_eq_getElem ha) (List.getElem?_eq_getElem hb)
          rw [List.getElem?_eq_getElem ha, List.getElem?_eq_getElem hb]
          exact this
        · exact .inr (.inl (Bool.eq_false_iff.2 g2))
      · exact .inl (Bool.eq_false_iff.2 g1)
  have hs0 := (sum_pos fun t ht => (hinv.told t ht).2).1
  rw [← hinv.sum] at hs0
  have e00 : left - ((0 : Nat) : Int) = left := by omega
  rw [← e00]
  refine loop_ind plsOk (α := {j : Nat // j ≤ k}) (fun j => k - j.1) (fun j => tW3 n L por c2 i k j.1 (left - j.1)) (fun j => bW2 n q2 th (bumpT T (q.take j.1)) ((q.take k).map rowM)) (fun _ => IsT) ?_ ⟨0, Nat.zero_le _⟩
  rintro ⟨j, hj⟩ ih
  simp only [tW3, bW2] at hj ih ⊢
  have hBl := bump_len (q.take j) T
  have hOl : ((q.take k).map rowM).length = k := by rw [List.length_map]; exact hkl
  by_cases h : (j : Int) < k
  · have hjq : j < q.length := by omega
    have he : ((q.take k).map rowM)[j]?.getD [] = rowM q[j] := by rw [rowM_at (by omega), List.getElem_take]
    have htk : q.take (j + 1) = q.take j ++ [q[j]] := List.take_succ_eq_append_getElem hjq
    have hmem := hinv.mem q[j] (List.getElem_mem _)
    have htold := hinv.told q[j] (List.getElem_mem _)
    have hb2 := bitN_lt n
    have hget : (bumpT T (q.take j))[q[j].id.toNat]? = some q[j].told := by
      rw [bump_out fun u hu e => ?_]
      · exact hmem.2.2
      · have : (q.take (j + 1)).map (·.id.toNat) = (q.take j).map (·.id.toNat) ++ [q[j].id.toNat] := by rw [htk, List.map_append]; rfl
        have hn2 := hn.sublist ((List.take_sublist (j + 1) q).map (·.id.toNat))
        rw [this, List.nodup_append] at hn2
        exact hn2.2.2 _ (List.mem_map.2 ⟨u, hu, e⟩) _ (List.mem_singleton.2 rfl) rfl
    have hbs : bumpT T (q.take (j + 1)) = (bumpT T (q.take j)).set q[j].id.toNat (q[j].told + 1) := by
      rw [htk, bump_app]
      show (bumpT T (q.take j)).set q[j].id.toNat ((bumpT T (q.take j))[q[j].id.toNat]?.getD 0 + 1) = _
      rw [hget]
      rfl
    have hgd : (bumpT T (q.take j))[q[j].id.toNat]?.getD 0 = q[j].told := by rw [hget]; rfl
    have ih' := ih ⟨j + 1, by omega⟩ (by simp only; omega)
    simp only at ih'
    rw [hbs] at ih'
    clear ih htk hget hbs
    have hbb := rowB_at hmem.2.1
    have hal : q[j].id.toNat < th.length := (List.getElem?_eq_some_iff.1 hmem.2.1).1
    obtain ⟨a, ha⟩ : ∃ a : Nat, q[j].id = (a : Int) := ⟨q[j].id.toNat, (Int.toNat_of_nonneg (by omega)).symm⟩
    rw [ha, Int.toNat_natCast] at hgd hbb hal ih'
    have hid := hmem.1
    rw [ha] at hid
    simp only [rowM] at he
    rw [ha] at he
    generalize q[j].told = x at *
    generalize q[j].st = y1 at *
    generalize q[j].inc = y2 at *
    have g1 : ¬ (a : Int) < 1 := by omega
    have g2 : ¬ n < (a : Int) := by omega
    have g3 : (a : Int) < L := by omega
    have g4 : (0 : Int) ≤ a := by omega
    clear hmem ha hev
    generalize bumpT T (q.take j) = B at *
    refine ExQ_ok [] 2000 plsOk kO_ok ?_
    (try rw [exh]); simp (maxSteps := 4000000) only [h, he, hOl, hlth, hbb, hgd, hBl, hTL, g1, g2, g3, g4, go_sem, ↓bsplit_true, ↓bsplit_false, ↓reduceIte, Nat.reduceLT, Nat.reduceLeDiff, Nat.reduceEqDiff, Nat.reduceAdd, Nat.reduceSub, Nat.reduceMul, Nat.reduceBEq, Nat.reduceBNe, reduceCtorEq, Int.reduceEq, Int.reduceLT, Int.reduceLE, Int.reduceAdd, Int.reduceSub, Int.reduceMul, Int.reduceToNat, ↓xs6, ↓xs8, ↓xs16, ↓xs18, ↓xs21, ↓xs23, ↓xs28]
    repeat (refine And.intro (a := (_ = true)) (by first | (simp; done) | (simp; omega)) ?_)
    refine Rch.fit1 hC [0, 1, 2, 3, 4] (tm' := tW3 n L por c2 i k (j + 1) (left - j - 1)) (bl' := bW2 n q2 th (B.set a (x + 1)) ((q.take k).map rowM)) rfl (by decide) rfl ⟨rfl, rfl, rfl, rfl, rfl, rfl, rfl, rfl, rfl, rfl, trivial⟩ rfl ⟨⟨rfl, rfl⟩, ⟨by simp only [renCt, hfq.ren]; exact rfl, by simp only [lvCt, hfq.lv]⟩, ⟨by simp only [renCt, hft.ren]; exact rfl, by simp only [lvCt, hft.lv]⟩, ⟨rfl, rfl⟩, ⟨by simp only [renCt, hfo.ren]; exact rfl, by simp only [lvCt, hfo.lv]⟩, trivial⟩ ?_
    rw [show left - ((j + 1 : Nat) : Int) = left - j - 1 by omega] at ih'
    exact ih'
  · obtain rfl : j = k := by omega
    have htT : (bumpT T (q.take j)).take L = bumpT T (q.take j) := List.take_of_length_le (by omega)
    have htB : (th.map rowB).take L = th.map rowB := List.take_of_length_le (by omega)
    have next' := next _ rfl
    generalize bumpT T (q.take j) = B at *
    refine ExQ_ok [] 2000 plsOk kO_ok ?_
    (try rw [exh]); simp (maxSteps := 4000000) only [h, hOl, hlth, hBl, hTL, htT, htB, hbm, hba, hev, hft.lv, go_sem, ↓bsplit_true, ↓bsplit_false, ↓reduceIte, Nat.reduceLT, Nat.reduceLeDiff, Nat.reduceEqDiff, Nat.reduceAdd, Nat.reduceSub, Nat.reduceMul, Nat.reduceBEq, Nat.reduceBNe, reduceCtorEq, Int.reduceEq, Int.reduceLT, Int.reduceLE, Int.reduceAdd, Int.reduceSub, Int.reduceMul, Int.reduceToNat, ↓xs6, ↓xs8, ↓xs16, ↓xs18, ↓xs21, ↓xs23, ↓xs28]
    repeat (refine And.intro (a := (_ = true)) (by first | (simp; done) | (simp; omega)) ?_)
    refine Rch.fit1 hC [0, 1, 2, 3] (tm' := tW2 n L por c2 (i + 1) (left - j)) (bl' := bW n q2 th B) rfl (by decide) rfl ⟨rfl, rfl, rfl, rfl, rfl, rfl, rfl, rfl, trivial⟩ rfl ⟨⟨rfl, rfl⟩, ⟨by simp only [renCt, hfq.ren]; exact rfl, by simp only [lvCt, hfq.lv]⟩, ⟨by simp only [renCt, hft.ren]; exact rfl, by simp only [lvCt, hft.lv]⟩, ⟨rfl, rfl⟩, trivial⟩ ?_
    exact next'
set_option maxRecDepth 100000 in
set_option maxHeartbeats 8000000 in
theorem often_take (C : Ctx) (hC : C.β.b = []) (n : Int) (por : List Int) (c2 : Option Nat) (L : Nat) (hL : (L : Int) = n + 1) (n1 : 1 ≤ n) (n2 : n ≤ 64) (h2 : por.length ≤ 300) (lim : Int) (hlim : 3 * bitN n = lim) (q : List Tl) (th : List Bool) (T : List Int) (left : Int) (hinv : Inv lim th T q left) (hthL : th.length = L) (hql : q.length ≤ 20) (hle : left ≤ 1000) :
    Rch Try.prog (plOf pls) C ⟨[⟨6, 203, tW2 n L por c2 0 left, [.code c6_63, .lp c6_63, .blk 2, .code c6_59], none, [], []⟩], bW n q th T⟩ IsT := by
  have n0 : ¬ n = 0 := by omega
  have hb2 := bitN_lt n
  have hft := flatB th
  have hlth : (th.map rowB).length = L := by rw [List.length_map]; exact hthL
  have hw : IntKind.u64.wrap n = n := by simp [IntKind.wrap, IntKind.signed, IntKind.bits]; omega
  have hbm := bo_map th
  have hba := bo_all th
  refine loop_ind plsOk (α := {a : Nat × List Tl × List Int × Int // Inv lim th a.2.2.1 a.2.1 a.2.2.2 ∧ a.2.1.length ≤ 20 ∧ a.2.2.2 ≤ 1000 ∧ a.1 + a.2.2.2.toNat ≤ por.length + 1000}) (fun a => (por.length - a.1.1) + a.1.2.2.2.toNat) (fun a => tW2 n L por c2 a.1.1 a.1.2.2.2) (fun a => bW n a.1.2.1 th a.1.2.2.1) (fun _ => IsT) ?_ ⟨(0, q, T, left), hinv, hql, hle, by simp only; omega⟩
  clear hinv hql hle q T left
  rintro ⟨⟨i, q, T, left⟩, hinv, hql, hle, hib⟩ ih
  simp only [tW2, bW] at hinv hql hle hib ih ⊢
  have hlr : (q.map rowT).length = q.length := List.length_map _
  have tm := telMap q
  have ta := isT_all q
  have hfq := flatT q
  have hTL : T.length = L := by rw [hinv.len]; exact hthL
  have htq : toldOk q = true := List.all_eq_true.2 fun t ht => by
    have := hinv.told t ht
    simp only [Bool.and_eq_true, decide_eq_true_eq]
    omega
  obtain ⟨hs1, hs2⟩ := sum_pos fun t ht => (hinv.told t ht).2
  rw [← hinv.sum] at hs1 hs2
  by_cases hgo : (i : Int) < por.length ∨ 0 < left
  case neg =>
    have g1 : ¬ (i : Int) < por.length := fun h => hgo (.inl h)
    obtain rfl : left = 0 := by omega
    have hq0 := hs2 rfl
    subst hq0
    have g3 : ¬ (0 : Int) < 0 := by omega
    refine ExQ_ok [] 2000 plsOk kO_ok ?_
    (try rw [exh]); simp (maxSteps := 4000000) only [g1, g3, go_sem, ↓bsplit_true, ↓bsplit_false, ↓reduceIte, Nat.reduceLT, Nat.reduceLeDiff, Nat.reduceEqDiff, Nat.reduceAdd, Nat.reduceSub, Nat.reduceMul, Nat.reduceBEq, Nat.reduceBNe, reduceCtorEq, Int.reduceEq, Int.reduceLT, Int.reduceLE, Int.reduceAdd, Int.reduceSub, Int.reduceMul, Int.reduceToNat, ↓xs6, ↓xs8, ↓xs16, ↓xs18, ↓xs21, ↓xs23, ↓xs28]
    repeat (refine And.intro (a := (_ = true)) (by first | (simp; done) | (simp; omega)) ?_)
    refine Rch.loop plsOk ?_
    have e0 := flatT []
    refine Rch.fit1 hC [0, 1, 2, 3] (tm' := tW4 n L 1) (bl' := bW n [] th T) rfl (by decide) rfl ⟨rfl, rfl, rfl, rfl, rfl, rfl, rfl, trivial⟩ rfl ⟨⟨rfl, rfl⟩, ⟨by simp only [renCt, e0.ren]; exact rfl, by simp only [lvCt, e0.lv]⟩, ⟨by simp only [renCt, hft.ren]; exact rfl, by simp only [lvCt, hft.lv]⟩, ⟨rfl, rfl⟩, trivial⟩ ?_
    clear ih
    refine loop_ind plsOk (α := {u : Nat // 1 ≤ u ∧ u ≤ L}) (fun u => L - u.1) (fun u => tW4 n L u.1) (fun _ => bW n [] th T) (fun _ => IsT) ?_ ⟨1, Nat.le_refl _, by omega⟩
    rintro ⟨u, hu1, hu2⟩ ih
    simp only [tW4, bW] at hu1 hu2 ih ⊢
    by_cases h : (u : Int) ≤ n
    case neg =>
      refine ExQ_ok [] 2000 plsOk kO_ok ?_
      (try rw [exh]); simp (maxSteps := 4000000) only [h, n0, go_sem, ↓bsplit_true, ↓bsplit_false, ↓reduceIte, Nat.reduceLT, Nat.reduceLeDiff, Nat.reduceEqDiff, Nat.reduceAdd, Nat.reduceSub, Nat.reduceMul, Nat.reduceBEq, Nat.reduceBNe, reduceCtorEq, Int.reduceEq, Int.reduceLT, Int.reduceLE, Int.reduceAdd, Int.reduceSub, Int.reduceMul, Int.reduceToNat, ↓xs6, ↓xs8, ↓xs16, ↓xs18, ↓xs21, ↓xs23, ↓xs28]
      repeat (refine And.intro (a := (_ = true)) (by first | (simp; done) | (simp; omega)) ?_)
      exact rfl
    have hu0 : (0 : Int) ≤ u := by omega
    have huL : (u : Int) < L := by omega
    obtain ⟨b, hb⟩ : ∃ b, th[u]? = some b := ⟨_, List.getElem?_eq_getElem (by omega)⟩
    have hbb := rowB_at hb
    cases b with
    | false =>
      refine ExQ_ok [] 2000 plsOk kO_ok ?_
      (try rw [exh]); simp (maxSteps := 4000000) only [h, hu0, huL, hlth, hbb, go_sem, ↓bsplit_true, ↓bsplit_false, ↓reduceIte, Nat.reduceLT, Nat.reduceLeDiff, Nat.reduceEqDiff, Nat.reduceAdd, Nat.reduceSub, Nat.reduceMul, Nat.reduceBEq, Nat.reduceBNe, reduceCtorEq, Int.reduceEq, Int.reduceLT, Int.reduceLE, Int.reduceAdd, Int.reduceSub, Int.reduceMul, Int.reduceToNat, ↓xs6, ↓xs8, ↓xs16, ↓xs18, ↓xs21, ↓xs23, ↓xs28]
      repeat (refine And.intro (a := (_ = true)) (by first | (simp; done) | (simp; omega)) ?_)
      refine Rch.fit1 hC [0, 1, 2, 3] (tm' := tW4 n L (u + 1)) (bl' := bW n [] th T) rfl (by decide) rfl ⟨rfl, rfl, rfl, rfl, rfl, rfl, rfl, trivial⟩ rfl ⟨⟨rfl, rfl⟩, ⟨by simp only [renCt, e0.ren]; exact rfl, by simp only [lvCt, e0.lv]⟩, ⟨by simp only [renCt, hft.ren]; exact rfl, by simp only [lvCt, hft.lv]⟩, ⟨rfl, rfl⟩, trivial⟩ ?_
      exact ih ⟨u + 1, by omega, by omega⟩ (by simp only; omega)
    | true =>
      have hT : T[u]?.getD 0 = lim := by
        rcases hinv.gone u hb with ⟨t, ht, -⟩ | hg
        · cases ht
        · rw [hg]; rfl
      refine ExQ_ok [] 2000 plsOk kO_ok ?_
      (try rw [exh]); simp (maxSteps := 4000000) only [h, hu0, huL, hlth, hTL, hbb, hT, n0, hw, hlim, go_sem, ↓bsplit_true, ↓bsplit_false, ↓reduceIte, Nat.reduceLT, Nat.reduceLeDiff, Nat.reduceEqDiff, Nat.reduceAdd, Nat.reduceSub, Nat.reduceMul, Nat.reduceBEq, Nat.reduceBNe, reduceCtorEq, Int.reduceEq, Int.reduceLT, Int.reduceLE, Int.reduceAdd, Int.reduceSub, Int.reduceMul, Int.reduceToNat, ↓xs6, ↓xs8, ↓xs16, ↓xs18, ↓xs21, ↓xs23, ↓xs28]
      repeat (refine And.intro (a := (_ = true)) (by first | (simp; done) | (simp; omega)) ?_)
      refine Rch.fit1 hC [0, 1, 2, 3] (tm' := tW4 n L (u + 1)) (bl' := bW n [] th T) rfl (by decide) rfl ⟨rfl, rfl, rfl, rfl, rfl, rfl, rfl, trivial⟩ rfl ⟨⟨rfl, rfl⟩, ⟨by simp only [renCt, e0.ren]; exact rfl, by simp only [lvCt, e0.lv]⟩, ⟨by simp only [renCt, hft.ren]; exact rfl, by simp only [lvCt, hft.lv]⟩, ⟨rfl, rfl⟩, trivial⟩ ?_
      exact ih ⟨u + 1, by omega, by omega⟩ (by simp only; omega)
  -- how many are asked for
  obtain ⟨m, hm1, hm2, hm3⟩ : ∃ m : Nat, m ≤ 16 ∧ ((i : Int) < por.length → kpick (por[i]?.getD 0) 17 = m) ∧ (¬ (i : Int) < por.length → m = 1) := by
    by_cases h : (i : Int) < por.length
    · obtain ⟨m, e1, e2⟩ := pick_lt (por[i]?.getD 0) (n := 17) (by omega)
      exact ⟨m, by omega, fun _ => e1, fun h2 => absurd h h2⟩
    · exact ⟨1, by omega, fun h2 => absurd h2 h, fun _ => rfl⟩
  obtain ⟨k, hk⟩ : ∃ k, tkN (m : Int) q = k := ⟨_, rfl⟩
  have hk2 : k = min m q.length := by rw [← hk]; unfold tkN; split <;> omega
  have hkq : k ≤ q.length := by omega
  have hkm : ¬ (m : Int) < k := by omega
  obtain ⟨O, q2, eq⟩ : ∃ O q2, takeQ lim k q = (O, q2) := ⟨_, _, rfl⟩
  have hO : O = q.take k := by rw [takeQ] at eq; exact (Prod.mk.inj eq).1.symm
  have hOk : O.length = k := by rw [hO, List.length_take]; omega
  have hinv2 := hinv.take hkq
  rw [eq] at hinv2
  simp only at hinv2
  have hq2l : q2.length ≤ 20 := by
    have e1 : q2 = (q.take k).foldl (backQ lim) (q.drop k) := by rw [takeQ] at eq; exact (Prod.mk.inj eq).2.symm
    rw [e1]
    refine Nat.le_trans (back_len _ _) ?_
    rw [List.length_take, List.length_drop]; omega
  have hfq2 := flatT q2
  have hfo := flatM O
  have hOl : (O.map rowM).length = k := by rw [List.length_map]; exact hOk
  have hk0i : k = 0 → ¬ (0 : Int) < m ∨ ¬ 0 < left := fun h => by
    by_cases hm0 : m = 0
    · exact .inl (by omega)
    · refine .inr fun hl => ?_
      have : q = [] := by
        cases q with
        | nil => rfl
        | cons t r => simp only [List.length_cons] at hk2; omega
      rw [this] at hinv
      have := hinv.sum
      simp only [sumL] at this
      omega
  have key := often_inner C hC n por c2 L hL n1 n2 h2 lim hlim th T q left hinv hthL i k hkq q2 (by omega) (by omega) hql (by
    intro left2 hl2
    have ih' := ih ⟨(i + 1, q2, bumpT T (q.take k), left - k), hinv2, hq2l, by simp only; omega, by
      have := (sum_pos fun t ht => (hinv2.told t ht).2).1
      rw [← hinv2.sum] at this
      simp only
      by_cases h : (i : Int) < por.length
      · omega
      · have := hm3 h
        have : 0 < left := hgo.resolve_left h
        have : k ≠ 0 := fun h0 => by rcases hk0i h0 with h | h <;> omega
        omega⟩ (by
      have := (sum_pos fun t ht => (hinv2.told t ht).2).1
      rw [← hinv2.sum] at this
      simp only
      by_cases h : (i : Int) < por.length
      · omega
      · have := hm3 h
        have : 0 < left := hgo.resolve_left h
        have : k ≠ 0 := fun h0 => by rcases hk0i h0 with h | h <;> omega
        omega)
    simp only at ih'
    rw [hl2]
    exact ih')
  clear ih
  rw [← hO] at key
  have hmi : (0 : Int) ≤ m := by omega
  by_cases h : (i : Int) < por.length
  · have hmm := hm2 h
    by_cases hk0 : k = 0
    · subst hk0
      have hkm0 : ¬ (m : Int) < 0 := by omega
      rcases hk0i rfl with g4 | g4
      · refine ExQ_ok [] 2000 plsOk kO_ok ?_
        (try rw [exh]); simp (maxSteps := 4000000) only [h, hmm, hlr, tm, ta, htq, n0, hw, hlim, hk, eq, hkm, hkm0, g4, hfq2.ren, hfq2.lv, hfo.ren, hfo.lv, go_sem, ↓bsplit_true, ↓bsplit_false, ↓reduceIte, Nat.reduceLT, Nat.reduceLeDiff, Nat.reduceEqDiff, Nat.reduceAdd, Nat.reduceSub, Nat.reduceMul, Nat.reduceBEq, Nat.reduceBNe, reduceCtorEq, Int.reduceEq, Int.reduceLT, Int.reduceLE, Int.reduceAdd, Int.reduceSub, Int.reduceMul, Int.reduceToNat, ↓xs6, ↓xs8, ↓xs16, ↓xs18, ↓xs21, ↓xs23, ↓xs28]
        repeat (refine And.intro (a := (_ = true)) (by first | (simp; done) | (simp; omega)) ?_)
        refine Rch.loop plsOk ?_
        refine Rch.fit1 hC [0, 4, 2, 3, 5] (tm' := tW3 n L por c2 i 0 0 left) (bl' := bW2 n q2 th T (O.map rowM)) rfl (by decide) rfl ⟨rfl, rfl, rfl, rfl, rfl, rfl, rfl, rfl, rfl, rfl, trivial⟩ rfl ⟨⟨rfl, rfl⟩, ⟨by simp only [renCt, hfq2.ren]; exact rfl, by simp only [lvCt, hfq2.lv]⟩, ⟨by simp only [renCt, hft.ren]; exact rfl, by simp only [lvCt, hft.lv]⟩, ⟨rfl, rfl⟩, ⟨by simp only [renCt, hfo.ren]; exact rfl, by simp only [lvCt, hfo.lv]⟩, trivial⟩ ?_; exact key
      · refine ExQ_ok [] 2000 plsOk kO_ok ?_
        by_cases g5 : (0 : Int) < m
        · (try rw [exh]); simp (maxSteps := 4000000) only [h, hmm, hlr, tm, ta, htq, n0, hw, hlim, hk, eq, hkm, hkm0, g4, g5, hfq2.ren, hfq2.lv, hfo.ren, hfo.lv, go_sem, ↓bsplit_true, ↓bsplit_false, ↓reduceIte, Nat.reduceLT, Nat.reduceLeDiff, Nat.reduceEqDiff, Nat.reduceAdd, Nat.reduceSub, Nat.reduceMul, Nat.reduceBEq, Nat.reduceBNe, reduceCtorEq, Int.reduceEq, Int.reduceLT, Int.reduceLE, Int.reduceAdd, Int.reduceSub, Int.reduceMul, Int.reduceToNat, ↓xs6, ↓xs8, ↓xs16, ↓xs18, ↓xs21, ↓xs23, ↓xs28]
          repeat (refine And.intro (a := (_ = true)) (by first | (simp; done) | (simp; omega)) ?_)
          refine Rch.loop plsOk ?_
          refine Rch.fit1 hC [0, 4, 2, 3, 5] (tm' := tW3 n L por c2 i 0 0 left) (bl' := bW2 n q2 th T (O.map rowM)) rfl (by decide) rfl ⟨rfl, rfl, rfl, rfl, rfl, rfl, rfl, rfl, rfl, rfl, trivial⟩ rfl ⟨⟨rfl, rfl⟩, ⟨by simp only [renCt, hfq2.ren]; exact rfl, by simp only [lvCt, hfq2.lv]⟩, ⟨by simp only [renCt, hft.ren]; exact rfl, by simp only [lvCt, hft.lv]⟩, ⟨rfl, rfl⟩, ⟨by simp only [renCt, hfo.ren]; exact rfl, by simp only [lvCt, hfo.lv]⟩, trivial⟩ ?_; exact key
        · (try rw [exh]); simp (maxSteps := 4000000) only [h, hmm, hlr, tm, ta, htq, n0, hw, hlim, hk, eq, hkm, hkm0, g4, g5, hfq2.ren, hfq2.lv, hfo.ren, hfo.lv, go_sem, ↓bsplit_true, ↓bsplit_false, ↓reduceIte, Nat.reduceLT, Nat.reduceLeDiff, Nat.reduceEqDiff, Nat.reduceAdd, Nat.reduceSub, Nat.reduceMul, Nat.reduceBEq, Nat.reduceBNe, reduceCtorEq, Int.reduceEq, Int.reduceLT, Int.reduceLE, Int.reduceAdd, Int.reduceSub, Int.reduceMul, Int.reduceToNat, ↓xs6, ↓xs8, ↓xs16, ↓xs18, ↓xs21, ↓xs23, ↓xs28]
          repeat (refine And.intro (a := (_ = true)) (by first | (simp; done) | (simp; omega)) ?_)
          refine Rch.loop plsOk ?_
          refine Rch.fit1 hC [0, 4, 2, 3, 5] (tm' := tW3 n L por c2 i 0 0 left) (bl' := bW2 n q2 th T (O.map rowM)) rfl (by decide) rfl ⟨rfl, rfl, rfl, rfl, rfl, rfl, rfl, rfl, rfl, rfl, trivial⟩ rfl ⟨⟨rfl, rfl⟩, ⟨by simp only [renCt, hfq2.ren]; exact rfl, by simp only [lvCt, hfq2.lv]⟩, ⟨by simp only [renCt, hft.ren]; exact rfl, by simp only [lvCt, hft.lv]⟩, ⟨rfl, rfl⟩, ⟨by simp only [renCt, hfo.ren]; exact rfl, by simp only [lvCt, hfo.lv]⟩, trivial⟩ ?_; exact key
    · have g4 : decide ((k : Int) = 0) = false := decide_eq_false (by omega)
      refine ExQ_ok [] 2000 plsOk kO_ok ?_
      (try rw [exh]); simp (maxSteps := 4000000) only [h, hmm, hlr, tm, ta, htq, n0, hw, hlim, hk, eq, hkm, g4, hfq2.ren, hfq2.lv, hfo.ren, hfo.lv, go_sem, ↓bsplit_true, ↓bsplit_false, ↓reduceIte, Nat.reduceLT, Nat.reduceLeDiff, Nat.reduceEqDiff, Nat.reduceAdd, Nat.reduceSub, Nat.reduceMul, Nat.reduceBEq, Nat.reduceBNe, reduceCtorEq, Int.reduceEq, Int.reduceLT, Int.reduceLE, Int.reduceAdd, Int.reduceSub, Int.reduceMul, Int.reduceToNat, ↓xs6, ↓xs8, ↓xs16, ↓xs18, ↓xs21, ↓xs23, ↓xs28]
      repeat (refine And.intro (a := (_ = true)) (by first | (simp; done) | (simp; omega)) ?_)
      refine Rch.loop plsOk ?_
      refine Rch.fit1 hC [0, 4, 2, 3, 5] (tm' := tW3 n L por c2 i k 0 left) (bl' := bW2 n q2 th T (O.map rowM)) rfl (by decide) rfl ⟨rfl, rfl, rfl, rfl, rfl, rfl, rfl, rfl, rfl, rfl, trivial⟩ rfl ⟨⟨rfl, rfl⟩, ⟨by simp only [renCt, hfq2.ren]; exact rfl, by simp only [lvCt, hfq2.lv]⟩, ⟨by simp only [renCt, hft.ren]; exact rfl, by simp only [lvCt, hft.lv]⟩, ⟨rfl, rfl⟩, ⟨by simp only [renCt, hfo.ren]; exact rfl, by simp only [lvCt, hfo.lv]⟩, trivial⟩ ?_; exact key
  · have hmm := hm3 h
    subst hmm
    have hl0 : 0 < left := hgo.resolve_left h
    have hk0 : k ≠ 0 := fun h0 => by rcases hk0i h0 with h | h <;> omega
    have g4 : decide ((k : Int) = 0) = false := decide_eq_false (by omega)
    have hk' : tkN 1 q = k := hk
    have hkm' : ¬ (1 : Int) < k := hkm
    refine ExQ_ok [] 2000 plsOk kO_ok ?_
    (try rw [exh]); simp (maxSteps := 4000000) only [h, hl0, hlr, tm, ta, htq, n0, hw, hlim, hk', eq, hkm', g4, hfq2.ren, hfq2.lv, hfo.ren, hfo.lv, go_sem, ↓bsplit_true, ↓bsplit_false, ↓reduceIte, Nat.reduceLT, Nat.reduceLeDiff, Nat.reduceEqDiff, Nat.reduceAdd, Nat.reduceSub, Nat.reduceMul, Nat.reduceBEq, Nat.reduceBNe, reduceCtorEq, Int.reduceEq, Int.reduceLT, Int.reduceLE, Int.reduceAdd, Int.reduceSub, Int.reduceMul, Int.reduceToNat, ↓xs6, ↓xs8, ↓xs16, ↓xs18, ↓xs21, ↓xs23, ↓xs28]
    repeat (refine And.intro (a := (_ = true)) (by first | (simp; done) | (simp; omega)) ?_)
    refine Rch.loop plsOk ?_
    refine Rch.fit1 hC [0, 4, 2, 3, 5] (tm' := tW3 n L por c2 i k 0 left) (bl' := bW2 n q2 th T (O.map rowM)) rfl (by decide) rfl ⟨rfl, rfl, rfl, rfl, rfl, rfl, rfl, rfl, rfl, rfl, trivial⟩ rfl ⟨⟨rfl, rfl⟩, ⟨by simp only [renCt, hfq2.ren]; exact rfl, by simp only [lvCt, hfq2.lv]⟩, ⟨by simp only [renCt, hft.ren]; exact rfl, by simp only [lvCt, hft.lv]⟩, ⟨rfl, rfl⟩, ⟨by simp only [renCt, hfo.ren]; exact rfl, by simp only [lvCt, hfo.lv]⟩, trivial⟩ ?_; exact key
set_option maxRecDepth 100000 in
set_option maxHeartbeats 8000000 in
theorem often_put (C : Ctx) (hC : C.β.b = []) (n : Int) (who por : List Int) (c1 c2 : Option Nat) (L : Nat) (hL : (L : Int) = n + 1) (n1 : 1 ≤ n) (n2 : n ≤ 64) (h1 : who.length ≤ 20) (h2 : por.length ≤ 300) :
    Rch Try.prog (plOf pls) C ⟨[⟨6, 203, tW1 n L who por c1 c2 0 0, [.code c6_32, .lp c6_32, .blk 0, .code c6_28], none, [], []⟩], bW n [] (List.replicate L false) (List.replicate L 0)⟩ IsT := by
  refine loop_ind plsOk (α := {a : Nat × List Tl × List Bool // a.1 ≤ who.length ∧ Put a.2.2 a.2.1 ∧ a.2.2.length = L ∧ a.2.1.length ≤ a.1}) (fun a => who.length - a.1.1) (fun a => tW1 n L who por c1 c2 a.1.1 a.1.2.1.length) (fun a => bW n a.1.2.1 a.1.2.2 (List.replicate L 0)) (fun _ => IsT) ?_ ⟨(0, [], List.replicate L false), Nat.zero_le _, ⟨List.Pairwise.nil, List.nodup_nil, fun t h => by (cases h), fun k h => by have := List.mem_of_getElem? h; rw [List.mem_replicate] at this; exact absurd this.2 (by decide)⟩, List.length_replicate, Nat.zero_le _⟩
  rintro ⟨⟨i, q, th⟩, hi, hput, hthL, hql⟩ ih
  simp only [tW1, bW] at hi hput hthL hql ih ⊢
  have hlr : (q.map rowT).length = q.length := List.length_map _
  have hlth : (th.map rowB).length = L := by rw [List.length_map]; exact hthL
  have tm := telMap q
  have ta := isT_all q
  have hfq := flatT q
  have hft := flatB th
  have n0 : ¬ n = 0 := by omega
  have hw : IntKind.u64.wrap n = n := by simp [IntKind.wrap, IntKind.signed, IntKind.bits]; omega
  obtain ⟨lim, hlim⟩ : ∃ lim, 3 * bitN n = lim := ⟨_, rfl⟩
  have hb2 := bitN_lt n
  by_cases h : (i : Int) < who.length
  case neg =>
    have hmul : (q.length : Int) * lim ≤ 20 * 21 := by
      have a1 : (q.length : Int) * lim ≤ 20 * lim := Int.mul_le_mul_of_nonneg_right (by omega) (by omega)
      omega
    have hmu0 : 0 ≤ (q.length : Int) * lim := Int.mul_nonneg (by omega) (by omega)
    have hst := hput.start (lim := lim) (by omega)
    rw [hthL] at hst
    have key := often_take C hC n por c2 L hL n1 n2 h2 lim hlim q th _ _ hst hthL (by omega) (by omega)
    obtain ⟨left, hle⟩ : ∃ left, (q.length : Int) * lim = left := ⟨_, rfl⟩
    rw [hle] at key hmul hmu0
    refine ExQ_ok [] 2000 plsOk kO_ok ?_
    (try rw [exh]); simp (maxSteps := 4000000) only [h, n0, hw, hlim, hlr, tm, ta, hle, go_sem, ↓bsplit_true, ↓bsplit_false, ↓reduceIte, Nat.reduceLT, Nat.reduceLeDiff, Nat.reduceEqDiff, Nat.reduceAdd, Nat.reduceSub, Nat.reduceMul, Nat.reduceBEq, Nat.reduceBNe, reduceCtorEq, Int.reduceEq, Int.reduceLT, Int.reduceLE, Int.reduceAdd, Int.reduceSub, Int.reduceMul, Int.reduceToNat, ↓xs6, ↓xs8, ↓xs16, ↓xs18, ↓xs21, ↓xs23, ↓xs28]
    repeat (refine And.intro (a := (_ = true)) (by first | (simp; done) | (simp; omega)) ?_)
    refine Rch.loop plsOk ?_
    refine Rch.fit1 hC [0, 1, 2, 3] (tm' := tW2 n L por c2 0 left) (bl' := bW n q th (List.replicate L 0)) rfl (by decide) rfl ⟨rfl, rfl, rfl, rfl, rfl, rfl, rfl, rfl, trivial⟩ rfl ⟨⟨rfl, rfl⟩, ⟨by simp only [renCt, hfq.ren]; exact rfl, by simp only [lvCt, hfq.lv]⟩, ⟨by simp only [renCt, hft.ren]; exact rfl, by simp only [lvCt, hft.lv]⟩, ⟨rfl, rfl⟩, trivial⟩ ?_
    exact key
  obtain ⟨j, hj0, hj1⟩ := pick_lt (who[i]?.getD 0) n1
  obtain ⟨k, hk⟩ : ∃ k : Nat, 1 + (j : Int) = (k : Int) := ⟨j + 1, by omega⟩
  have hk1 : 1 ≤ k := by omega
  have hkL : (k : Int) < L := by omega
  have hk0 : (0 : Int) ≤ k := by omega
  have hmay : mayB n k 1 0 = true := by
    simp only [mayB, Bool.and_eq_true, decide_eq_true_eq]
    exact ⟨⟨by omega, by omega, by omega, by omega, by omega, by omega⟩, by omega⟩
  obtain ⟨b, hb⟩ : ∃ b, th[k]? = some b := ⟨_, List.getElem?_eq_getElem (by omega)⟩
  have hbb := rowB_at hb
  cases b with
  | false =>
    obtain ⟨hp2, hne⟩ := hput.add hk1 hb
    have hid : idI (k : Int) q 0 < 0 := by
      obtain ⟨i1, i2⟩ := id_at (a := (k : Int)) (q := q) (i := 0)
      apply Int.lt_of_not_ge
      intro hh
      obtain ⟨u, y, -, e2, e3⟩ := i2 hh
      exact hne y (List.mem_of_getElem? e2) e3
    have e3 : addQ ov ⟨k, 1, 0, 0⟩ q = (true, putQ ⟨k, 1, 0, 0⟩ q) := by rw [addQ]; exact if_pos hid
    have e1 : addV n k 1 0 q = .tup [.v (.bool true), .v (.int .i64 0)] := by rw [addV, hmay, e3]; rfl
    have e2 : addL n k 1 0 q = putQ ⟨k, 1, 0, 0⟩ q := by rw [addL, hmay, e3]; rfl
    have hpl := put_len ⟨(k : Int), 1, 0, 0⟩ q
    have hfq2 := flatT (putQ ⟨k, 1, 0, 0⟩ q)
    have ih' := ih ⟨(i + 1, putQ ⟨k, 1, 0, 0⟩ q, th.set k true), by simp only; omega, hp2, by simp only [List.length_set]; exact hthL, by simp only [hpl]; omega⟩ (by simp only; omega)
    simp only at ih'
    clear e3 hp2 hid ih
    generalize putQ ⟨k, 1, 0, 0⟩ q = q2 at *
    refine ExQ_ok [] 2000 plsOk kO_ok ?_
    (try rw [exh]); simp (maxSteps := 4000000) only [h, hj0, hk, hk0, hkL, hlr, hlth, hbb, tm, ta, e1, e2, hfq2.ren, hfq2.lv, go_sem, ↓bsplit_true, ↓bsplit_false, ↓reduceIte, Nat.reduceLT, Nat.reduceLeDiff, Nat.reduceEqDiff, Nat.reduceAdd, Nat.reduceSub, Nat.reduceMul, Nat.reduceBEq, Nat.reduceBNe, reduceCtorEq, Int.reduceEq, Int.reduceLT, Int.reduceLE, Int.reduceAdd, Int.reduceSub, Int.reduceMul, Int.reduceToNat, ↓xs6, ↓xs8, ↓xs16, ↓xs18, ↓xs21, ↓xs23, ↓xs28]
    repeat (refine And.intro (a := (_ = true)) (by first | (simp; done) | (simp; omega)) ?_)
    have hth2 : (th.map rowB).set k [.v (.bool true)] = (th.set k true).map rowB := by rw [List.map_set]; rfl
    have hft2 := flatB (th.set k true)
    rw [hth2]
    refine Rch.fit1 hC [0, 6, 2, 3] (tm' := tW1 n L who por c1 c2 (i + 1) q2.length) (bl' := bW n q2 (th.set k true) (List.replicate L 0)) rfl (by decide) rfl ⟨rfl, by rw [hpl]; rfl, rfl, rfl, rfl, rfl, rfl, rfl, rfl, trivial⟩ rfl ⟨⟨rfl, rfl⟩, ⟨by simp only [renCt, hfq2.ren]; exact rfl, by simp only [lvCt, hfq2.lv]⟩, ⟨by simp only [renCt, hft2.ren]; exact rfl, by simp only [lvCt, hft2.lv]⟩, ⟨rfl, rfl⟩, trivial⟩ ?_
    exact ih'
  | true =>
    obtain ⟨u, y, i1, i2, i3, i4, i5⟩ := hput.there hb
    have hno : ov ⟨k, 1, 0, 0⟩ y = false := by
      unfold ov
      exact decide_eq_false fun h => by
        have := h.2.2.2
        simp only at this
        omega
    have e3 : addQ ov ⟨k, 1, 0, 0⟩ q = (false, q) := by
      rw [addQ, if_neg (show ¬ idI (Tl.mk k 1 0 0).id q 0 < 0 by rw [show idI (Tl.mk k 1 0 0).id q 0 = u from i1]; omega)]
      rw [show idI (Tl.mk k 1 0 0).id q 0 = (u : Int) from i1, Int.toNat_natCast, i2]
      simp only [hno, Bool.false_eq_true, if_false]
    have e1 : addV n k 1 0 q = .tup [.v (.bool false), .v (.int .i64 0)] := by rw [addV, hmay, e3]; rfl
    have e2 : addL n k 1 0 q = q := by rw [addL, hmay, e3]; rfl
    have hth2 : (th.map rowB).set k [.v (.bool true)] = th.map rowB := by
      have h1 : (th.map rowB)[k]? = some (rowB true) := by rw [List.getElem?_map, hb]; rfl
      obtain ⟨g1, g2⟩ := List.getElem?_eq_some_iff.1 h1
      rw [show ([.v (.bool true)] : List AV) = rowB true from rfl, ← g2, List.set_getElem_self]
    have ih' := ih ⟨(i + 1, q, th), by simp only; omega, hput, hthL, by simp only; omega⟩ (by simp only; omega)
    simp only at ih'
    refine ExQ_ok [] 2000 plsOk kO_ok ?_
    (try rw [exh]); simp (maxSteps := 4000000) only [h, hj0, hk, hk0, hkL, hlr, hlth, hbb, tm, ta, e1, e2, hfq.ren, hfq.lv, go_sem, ↓bsplit_true, ↓bsplit_false, ↓reduceIte, Nat.reduceLT, Nat.reduceLeDiff, Nat.reduceEqDiff, Nat.reduceAdd, Nat.reduceSub, Nat.reduceMul, Nat.reduceBEq, Nat.reduceBNe, reduceCtorEq, Int.reduceEq, Int.reduceLT, Int.reduceLE, Int.reduceAdd, Int.reduceSub, Int.reduceMul, Int.reduceToNat, ↓xs6, ↓xs8, ↓xs16, ↓xs18, ↓xs21, ↓xs23, ↓xs28]
    repeat (refine And.intro (a := (_ = true)) (by first | (simp; done) | (simp; omega)) ?_)
    rw [hth2]
    refine Rch.fit1 hC [0, 6, 2, 3] (tm' := tW1 n L who por c1 c2 (i + 1) q.length) (bl' := bW n q th (List.replicate L 0)) rfl (by decide) rfl ⟨rfl, rfl, rfl, rfl, rfl, rfl, rfl, rfl, rfl, trivial⟩ rfl ⟨⟨rfl, rfl⟩, ⟨by simp only [renCt, hfq.ren]; exact rfl, by simp only [lvCt, hfq.lv]⟩, ⟨by simp only [renCt, hft.ren]; exact rfl, by simp only [lvCt, hft.lv]⟩, ⟨rfl, rfl⟩, trivial⟩ ?_
    exact ih'
set_option maxRecDepth 100000 in
set_option maxHeartbeats 8000000 in
theorem often_walk (C : Ctx) (hC : C.β.b = []) (z : Int) (who por : List Int) (c1 c2 : Option Nat) :
    Rch Try.prog (plOf pls) C (conf0 6 ⟨203, [.tmp 6], code6⟩ [.v (.int .i64 z), .imn false .i64 who c1, .imn false .i64 por c2] []) IsT := by
  obtain ⟨m0, hm0, hm1⟩ := pick_lt z (n := 64) (by omega)
  obtain ⟨n, hn⟩ : ∃ n : Int, 1 + (m0 : Int) = n := ⟨_, rfl⟩
  have n1 : ¬ n < 1 := by omega
  have n2 : ¬ 64 < n := by omega
  by_cases h1 : (20 : Int) < who.length
  · refine ExQ_ok [] 2000 plsOk kO_ok ?_
    simp only [conf0]
    (try rw [exh]); simp (maxSteps := 4000000) only [hm0, hn, n1, n2, h1, go_sem, ↓bsplit_true, ↓bsplit_false, ↓reduceIte, Nat.reduceLT, Nat.reduceLeDiff, Nat.reduceEqDiff, Nat.reduceAdd, Nat.reduceSub, Nat.reduceMul, Nat.reduceBEq, Nat.reduceBNe, reduceCtorEq, Int.reduceEq, Int.reduceLT, Int.reduceLE, Int.reduceAdd, Int.reduceSub, Int.reduceMul, Int.reduceToNat, ↓xs6, ↓xs8, ↓xs16, ↓xs18, ↓xs21, ↓xs23, ↓xs28]
    repeat (refine And.intro (a := (_ = true)) (by first | (simp; done) | (simp; omega)) ?_)
    exact rfl
  by_cases h2 : (300 : Int) < por.length
  · refine ExQ_ok [] 2000 plsOk kO_ok ?_
    simp only [conf0]
    (try rw [exh]); simp (maxSteps := 4000000) only [hm0, hn, n1, n2, h1, h2, go_sem, ↓bsplit_true, ↓bsplit_false, ↓reduceIte, Nat.reduceLT, Nat.reduceLeDiff, Nat.reduceEqDiff, Nat.reduceAdd, Nat.reduceSub, Nat.reduceMul, Nat.reduceBEq, Nat.reduceBNe, reduceCtorEq, Int.reduceEq, Int.reduceLT, Int.reduceLE, Int.reduceAdd, Int.reduceSub, Int.reduceMul, Int.reduceToNat, ↓xs6, ↓xs8, ↓xs16, ↓xs18, ↓xs21, ↓xs23, ↓xs28]
    repeat (refine And.intro (a := (_ = true)) (by first | (simp; done) | (simp; omega)) ?_)
    exact rfl
  obtain ⟨L, hL⟩ : ∃ L : Nat, (L : Int) = n + 1 := ⟨(n + 1).toNat, by omega⟩
  refine ExQ_ok [] 2000 plsOk kO_ok ?_
  simp only [conf0]
  (try rw [exh]); simp (maxSteps := 4000000) only [hm0, hn, n1, n2, h1, h2, hL.symm, go_sem, ↓bsplit_true, ↓bsplit_false, ↓reduceIte, Nat.reduceLT, Nat.reduceLeDiff, Nat.reduceEqDiff, Nat.reduceAdd, Nat.reduceSub, Nat.reduceMul, Nat.reduceBEq, Nat.reduceBNe, reduceCtorEq, Int.reduceEq, Int.reduceLT, Int.reduceLE, Int.reduceAdd, Int.reduceSub, Int.reduceMul, Int.reduceToNat, ↓xs6, ↓xs8, ↓xs16, ↓xs18, ↓xs21, ↓xs23, ↓xs28]
  repeat (refine And.intro (a := (_ = true)) (by first | (simp; done) | (simp; omega)) ?_)
  refine Rch.fit1 hC [0] (tm' := tW0 n who por c1 c2) (bl' := [some (.lit [.v (.int .i64 n), .nil, .fn 27 [] []])]) rfl (by decide) rfl ⟨rfl, rfl, rfl, rfl, rfl, trivial⟩ rfl ⟨⟨rfl, rfl⟩, trivial⟩ ?_
  refine Rch.alts plsOk (t := ptO) (by kernel_rfl) ?_
  have key := often_put C hC n who por c1 c2 L hL (by omega) (by omega) (by omega) (by omega)
  have e0 := flatT []
  have e1 := flatB (List.replicate L false)
  have hrep : List.replicate L [AV.v (.bool false)] = (List.replicate L false).map rowB := by rw [List.map_replicate]; rfl
  intro p hp
  simp only [ptO, leaves, List.cons_append, List.nil_append, List.mem_cons, List.not_mem_nil, or_false] at hp
  rcases hp with rfl | rfl
  · simp only [tW0]
    refine ExQ_ok [] 2000 plsOk kO_ok ?_
    (try rw [exh]); simp (maxSteps := 4000000) only [hL.symm, hrep, go_sem, ↓bsplit_true, ↓bsplit_false, ↓reduceIte, Nat.reduceLT, Nat.reduceLeDiff, Nat.reduceEqDiff, Nat.reduceAdd, Nat.reduceSub, Nat.reduceMul, Nat.reduceBEq, Nat.reduceBNe, reduceCtorEq, Int.reduceEq, Int.reduceLT, Int.reduceLE, Int.reduceAdd, Int.reduceSub, Int.reduceMul, Int.reduceToNat, ↓xs6, ↓xs8, ↓xs16, ↓xs18, ↓xs21, ↓xs23, ↓xs28]
    repeat (refine And.intro (a := (_ = true)) (by first | (simp; done) | (simp; omega)) ?_)
    refine Rch.wk rfl (Wk.nilcellR (l := 0) (pre := [.v (.int .i64 n)]) (post := [.fn 27 [] []]) 4 rfl 0 4) ?_
    refine Rch.loop plsOk ?_
    refine Rch.fit1 hC [0, 3, 1, 2] (tm' := tW1 n L who por c1 c2 0 0) (bl' := bW n [] (List.replicate L false) (List.replicate L 0)) rfl (by decide) rfl ⟨rfl, rfl, rfl, rfl, rfl, rfl, rfl, rfl, rfl, trivial⟩ rfl ⟨⟨rfl, rfl⟩, ⟨by simp only [renCt, e0.ren]; exact rfl, by simp only [lvCt, e0.lv]⟩, ⟨by simp only [renCt, e1.ren]; exact rfl, by simp only [lvCt, e1.lv]⟩, ⟨rfl, rfl⟩, trivial⟩ ?_
    exact key
  · simp only [tW0]
    refine ExQ_ok [] 2000 plsOk kO_ok ?_
    (try rw [exh]); simp (maxSteps := 4000000) only [hL.symm, hrep, go_sem, ↓bsplit_true, ↓bsplit_false, ↓reduceIte, Nat.reduceLT, Nat.reduceLeDiff, Nat.reduceEqDiff, Nat.reduceAdd, Nat.reduceSub, Nat.reduceMul, Nat.reduceBEq, Nat.reduceBNe, reduceCtorEq, Int.reduceEq, Int.reduceLT, Int.reduceLE, Int.reduceAdd, Int.reduceSub, Int.reduceMul, Int.reduceToNat, ↓xs6, ↓xs8, ↓xs16, ↓xs18, ↓xs21, ↓xs23, ↓xs28]
    repeat (refine And.intro (a := (_ = true)) (by first | (simp; done) | (simp; omega)) ?_)
    refine Rch.wk rfl (Wk.nilcellR (l := 0) (pre := [.v (.int .i64 n)]) (post := [.fn 27 [] []]) 4 rfl 0 4) ?_
    refine Rch.loop plsOk ?_
    refine Rch.fit1 hC [0, 3, 2, 1] (tm' := tW1 n L who por c1 c2 0 0) (bl' := bW n [] (List.replicate L false) (List.replicate L 0)) rfl (by decide) rfl ⟨rfl, rfl, rfl, rfl, rfl, rfl, rfl, rfl, rfl, trivial⟩ rfl ⟨⟨rfl, rfl⟩, ⟨by simp only [renCt, e0.ren]; exact rfl, by simp only [lvCt, e0.lv]⟩, ⟨by simp only [renCt, e1.ren]; exact rfl, by simp only [lvCt, e1.lv]⟩, ⟨rfl, rfl⟩, trivial⟩ ?_
    exact key
end GS
end Go.Proofs.Ytfnnmkjlokjkhaa
