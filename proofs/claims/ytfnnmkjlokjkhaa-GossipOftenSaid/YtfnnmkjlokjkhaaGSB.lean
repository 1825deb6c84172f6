/- Gossip: contracts of both buffers; the word of words. -/
import Derived.Test.YtfnnmkjlokjkhaaGSA
set_option linter.unusedSimpArgs false
set_option linter.unusedVariables false
namespace Go.Proofs.Ytfnnmkjlokjkhaa
open Go Go.SY
namespace GS
attribute [local go_sem] Ex stops inK stepF frsF frF itemF codeF condF opsF opsW opF callO drF drO drW drC stepS wtS gdst gdl sopF pv evq orl bltF callF calleeS popF lopF bltP callP cls lvA rdl quiet p_move p_assign p_pick p_nilCheck
attribute [local go_sem] p_binOp p_unOp p_convert p_fieldAddr p_indexAddr p_index p_slice p_makeFunc p_extract p_field p_build p_len p_cap p_min p_max l_load l_convert l_slice zerR roomR appRR roomN appNN cpSrcN clN cpSrc cpR clR e_clear srcR dstR srcN dstN e_store e_alloc e_box e_buildSlice e_makeSlice e_append e_copy
attribute [local go_sem] e_convert SY.get SY.put SY.ev SY.mk SY.nth SY.lvl SY.setl SY.ini wid wids dr tk flat at1 pack parts rdC rdCt wrC wrCt ar bits2 bopInt bopStr bopEq isPtr isSl isBl eqPs eqLf bop pickAV bnd subO cutOf okMx fillA plFs nz
attribute [local go_sem] minI numsAt aOf hd1 hdL immL isArr ctOf rowsOf numsAV rep elCt wrRow killO chR enterS leaveS retS endS exitS gotoS finishS killL isDefs setPs roundS resS resAll tup1 conf0 AV.scal plk spz Ct.cell exq_zero exq_go exq_d exq_n lvCt lvE
attribute [local go_sem] exq_t exq_f exq_t0 exq_f0 List.toList_toArray Bool.and_true Bool.true_and Bool.not_false Bool.not_true List.contains_nil List.contains_cons Bool.or_false Bool.false_or Option.isSome_some Option.isSome_none Option.isNone_none Option.isNone_some true_and and_true Option.some.injEq Bool.false_eq_true List.map_cons List.map_nil List.all_cons List.all_nil Bool.and_self List.drop_succ_cons List.drop_zero List.length_cons List.length_nil List.cons_append List.nil_append Option.map_some Option.map_none List.append_nil Nat.zero_add Nat.add_zero Nat.sub_zero Nat.zero_mul Nat.mul_one
attribute [local go_sem] Int.toNat_natCast Int.toNat_zero Int.toNat_one Int.add_zero Int.sub_zero Int.cast_ofNat_Int decide_true decide_false Option.getD_some Option.getD_none ktB ktX ktOf conK extK ovlK rwz alive alive0 mks noMk lndL lnd lvB lvL lvR lvT tB_tt tB_ft tB_ff okBls shB ren renL renR renCt ne_eq not_false_eq_true not_true_eq_false and_false
attribute [local go_sem] false_and and_self ti0 ti1 ti2 ti3 ti4 ti5 ti6 ti7 ti8 ti9 ti10 ti11 ti12 ti13 ti14 ti15 ti16 ti17 ti18 ti19 ti20 ti21 ti22 ti23 ti24 ti25 ti26 ti27 ti28 ti29 ti30 ti31 ti32 ti33 ti34 ti35 ti36 ti37
attribute [local go_sem] ti38 ti39 ti40 ti41 ti42 ti43 ti44 ti45 ti46 ti47 ti48 ti49 ti50 ti51 ti52 ti53 ti54 ti55 ti56 ti57 ti58 ti59 ti60 ti61 ti62 ti63 ti64 ti65 ti66 ti67 ti68 ti69 ti70 ti71 ti72 ti73 ti74 ti75 ti76 ti77
attribute [local go_sem] ti78 ti79 ti80 ti81 ti82 ti83 ti84 ti85 ti86 ti87 ti88 ti89 ti90 ti91 ti92 ti93 ti94 ti95 ti96 ti97 ti98 ti99 ti100 ti101 ti102 regAt fi13 body13 Try.f13 r13_1 r13_3 r13_7 r13_13 r13_18 r13_17 r13_19 plA3 pl3 plA4 pl4
attribute [local go_sem] plA6 pl6 plA11 pl11 plA12 pl12 plA13 pl13 plA14 pl14 plA15 pl15 plA24 pl24 plA30 pl30 plA31 pl31 plA32 pl32 plA33 pl33 plA40 pl40 plA41 pl41 plA42 pl42 plA52 pl52
def osAdd : OSpec := fun args bl => match args with
  | [.ptr l 0 3 0, .agg [.v (.int .i64 a), .v (.int .i64 b), .v (.int .i64 c)]] => (match findG bl l with
    | some (v1, σ, n, q) => some (v1 && (decide (1 ≤ n) && decide (q.length < 50000)), σ, [.ptr 0 0 3 0, .agg [.v (.int .i64 a), .v (.int .i64 b), .v (.int .i64 c)]], layG n q, addV n a b c q, layG n (addL n a b c q))
    | none => none)
  | _ => none
theorem addV_lv (n a b c : Int) (q : List Tl) (N : Nat) : lvB N false (addV n a b c q) = true := by
  unfold addV; split <;> rfl
theorem osAdd_ok : ObjOk Try.prog (plOf pls) 14 1 osAdd := by
  intro args bl σ args0 bl0 r1 bl1 hs
  unfold osAdd at hs
  split at hs
  · rename_i l a b c
    split at hs
    · rename_i v1 σ' n q e
      simp only [Option.some.injEq, Prod.mk.injEq, Bool.and_eq_true, decide_eq_true_eq] at hs
      obtain ⟨⟨rfl, h1, h2⟩, rfl, rfl, rfl, rfl, rfl⟩ := hs
      obtain ⟨a1, a2, a3, a4, a5, a6⟩ := findG_ok e
      exact ⟨add_word n q a b c h1 h2, ⟨_, ⟨_, _, rfl, .inl ⟨by simp [ren, a6], by simp [lvB]; omega⟩, _, _, rfl, .inl ⟨rfl, rfl⟩, rfl⟩, fun _ _ h => h⟩, a1, a2, a3, a4, a5, by simp [layG], addV_lv _ _ _ _ _ _, layG_ok _ _⟩
    · cases hs
  · cases hs
def toldOk (q : List Tl) : Bool := q.all fun t => decide (0 ≤ t.told) && decide (t.told < 1000)
theorem toldOk_at {q : List Tl} (h : toldOk q = true) : ∀ t ∈ q, 0 ≤ t.told ∧ t.told < 1000 := fun t ht => by
  have := List.all_eq_true.1 h t ht
  simpa using this
def osTake : OSpec := fun args bl => match args with
  | [.ptr l 0 3 0, .v (.int .i64 z)] => (match findG bl l with
    | some (v1, σ, n, q) => some (v1 && (decide (1 ≤ n) && (decide (n ≤ 64) && (decide (q.length < 20000) && toldOk q))), σ, [.ptr 0 0 3 0, .v (.int .i64 z)], layG n q, .sl 2 0 3 (tkN z q) none, layG n (takeQ (3 * bitN n) (tkN z q) q).2 ++ [some (.rows 3 ((takeQ (3 * bitN n) (tkN z q) q).1.map rowM))])
    | none => none)
  | _ => none
theorem layGO_ok (n : Int) (q o : List Tl) : okBls (layG n q ++ [some (Ct.rows 3 (o.map rowM))]).length (layG n q ++ [some (Ct.rows 3 (o.map rowM))]) = true := by
  have hf := flatT q
  have ho := flatM o
  simp [layG, okBls, lvCt, lvB, lvL, hf.lv, ho.lv, lvE]
  and_intros <;> rfl
theorem osTake_ok : ObjOk Try.prog (plOf pls) 11 1 osTake := by
  intro args bl σ args0 bl0 r1 bl1 hs
  unfold osTake at hs
  split at hs
  · rename_i l z
    split at hs
    · rename_i v1 σ' n q e
      simp only [Option.some.injEq, Prod.mk.injEq, Bool.and_eq_true, decide_eq_true_eq] at hs
      obtain ⟨⟨rfl, h1, h2, h3, h4⟩, rfl, rfl, rfl, rfl, rfl⟩ := hs
      obtain ⟨a1, a2, a3, a4, a5, a6⟩ := findG_ok e
      exact ⟨take_word n q z h1 h2 h3 (toldOk_at h4), ⟨_, ⟨_, _, rfl, .inl ⟨by simp [ren, a6], by simp [lvB]; omega⟩, _, _, rfl, .inl ⟨rfl, rfl⟩, rfl⟩, fun _ _ h => h⟩, a1, a2, a3, a4, a5, by simp [layG], rfl, layGO_ok _ _ _⟩
    · cases hs
  · cases hs
def osRAdd : OSpec := fun args bl => match args with
  | [.ptr l 0 3 0, .agg [.v (.int .i64 a), .v (.int .i64 b), .v (.int .i64 c)]] => (match findR bl l with
    | some (v1, σ, n, P) => some (v1 && decide (P.length < 50000), σ, [.ptr 0 0 3 0, .agg [.v (.int .i64 a), .v (.int .i64 b), .v (.int .i64 c)]], layR n P, raV n a b c P, layR n (raL n a b c P))
    | none => none)
  | _ => none
theorem raV_lv (n a b c : Int) (q : List Tl) (N : Nat) : lvB N false (raV n a b c q) = true := by
  unfold raV; split <;> rfl
theorem osRAdd_ok : ObjOk Try.prog (plOf pls) 15 1 osRAdd := by
  intro args bl σ args0 bl0 r1 bl1 hs
  unfold osRAdd at hs
  split at hs
  · rename_i l a b c
    split at hs
    · rename_i v1 σ' n P e
      simp only [Option.some.injEq, Prod.mk.injEq, Bool.and_eq_true, decide_eq_true_eq] at hs
      obtain ⟨⟨rfl, h1⟩, rfl, rfl, rfl, rfl, rfl⟩ := hs
      obtain ⟨a1, a2, a3, a4, a5, a6⟩ := findR_ok e
      exact ⟨radd_word n P a b c h1, ⟨_, ⟨_, _, rfl, .inl ⟨by simp [ren, a6], by simp [lvB]; omega⟩, _, _, rfl, .inl ⟨rfl, rfl⟩, rfl⟩, fun _ _ h => h⟩, a1, a2, a3, a4, a5, by simp [layR], raV_lv _ _ _ _ _ _, layR_ok _ _⟩
    · cases hs
  · cases hs
def osRTake : OSpec := fun args bl => match args with
  | [.ptr l 0 3 0, .v (.int .i64 z)] => (match findR bl l with
    | some (v1, σ, n, P) => some (v1 && (decide (1 ≤ n) && (decide (n ≤ 64) && (decide (P.length < 50000) && toldOk P))), σ, [.ptr 0 0 3 0, .v (.int .i64 z)], layR n P, .sl 3 0 3 (takeR (3 * bitN n) (tkR z) P []).1.length none, layR n (takeR (3 * bitN n) (tkR z) P []).2 ++ [some (.rows 3 ((takeR (3 * bitN n) (tkR z) P []).1.map rowM))])
    | none => none)
  | _ => none
theorem layRO_ok (n : Int) (P o : List Tl) : okBls (layR n P ++ [some (Ct.rows 3 (o.map rowM))]).length (layR n P ++ [some (Ct.rows 3 (o.map rowM))]) = true := by
  have hf := flatM P
  have ho := flatM o
  simp [layR, okBls, lvCt, lvB, lvL, hf.lv, ho.lv, lvE]
  and_intros <;> rfl
theorem osRTake_ok : ObjOk Try.prog (plOf pls) 12 1 osRTake := by
  intro args bl σ args0 bl0 r1 bl1 hs
  unfold osRTake at hs
  split at hs
  · rename_i l z
    split at hs
    · rename_i v1 σ' n P e
      simp only [Option.some.injEq, Prod.mk.injEq, Bool.and_eq_true, decide_eq_true_eq] at hs
      obtain ⟨⟨rfl, h1, h2, h3, h4⟩, rfl, rfl, rfl, rfl, rfl⟩ := hs
      obtain ⟨a1, a2, a3, a4, a5, a6⟩ := findR_ok e
      exact ⟨rtake_word n P z h1 h2 h3 (toldOk_at h4), ⟨_, ⟨_, _, rfl, .inl ⟨by simp [ren, a6], by simp [lvB]; omega⟩, _, _, rfl, .inl ⟨rfl, rfl⟩, rfl⟩, fun _ _ h => h⟩, a1, a2, a3, a4, a5, by simp [layR], rfl, layRO_ok _ _ _⟩
    · cases hs
  · cases hs
def tri : List AV → Int × Int × Int
  | [.v (.int .i64 a), .v (.int .i64 b), .v (.int .i64 c)] => (a, b, c)
  | _ => (0, 0, 0)
def sWs : List AV → Option (Bool × AV × Bls)
  | [.imr _ 3 rs _, .imr _ 3 rs2 _] => some (decide (rs.length < 1000000) && (rs.all isM && (rs2.all isM && decide (rs.map tri = rs2.map tri))), .v (.bool true), [])
  | _ => none
theorem tri_rows : ∀ {rs rs2 : List (List AV)}, rs.all isM = true → rs2.all isM = true → rs.map tri = rs2.map tri → rs = rs2
  | [], [], _, _, _ => rfl
  | [], _ :: _, _, _, h => by simp at h
  | _ :: _, [], _, _, h => by simp at h
  | r :: rs, r2 :: rs2, h1, h2, h => by
    rw [List.all_cons, Bool.and_eq_true] at h1 h2
    rw [List.map_cons, List.map_cons, List.cons.injEq] at h
    rw [tri_rows h1.2 h2.2 h.2]
    have h3 := h1.1
    have h4 := h2.1
    have h5 := h.1
    unfold isM at h3 h4
    split at h3
    · split at h4
      · simp only [tri, Prod.mk.injEq] at h5
        obtain ⟨rfl, rfl, rfl⟩ := h5
        rfl
      · cases h4
    · cases h3
theorem isM_flat {rs : List (List AV)} (h : rs.all isM = true) : FlatR rs := by
  rw [← (rows_tel h).1]
  exact flatM _
theorem isM_at {rs : List (List AV)} (h : rs.all isM = true) {i : Nat} (hi : i < rs.length) : ∃ a b c : Int, rs[i]?.getD [] = [.v (.int .i64 a), .v (.int .i64 b), .v (.int .i64 c)] := by
  rw [List.getElem?_eq_getElem hi]
  have := List.all_eq_true.1 h _ (List.getElem_mem hi)
  unfold isM at this
  split at this
  · rename_i a b c e
    exact ⟨a, b, c, e⟩
  · cases this
def tW (rs : List (List AV)) (t t2 : Bool) (c c2 : Option Nat) (i : Nat) : TM := [(6, .v (.int .i64 i)), (5, .v (.bool true)), (1, .imr t2 3 rs c2), (0, .imr t 3 rs c)]
set_option maxRecDepth 100000 in
set_option maxHeartbeats 4000000 in
theorem ws_run (C : Ctx) (hC : C.β.b = []) (rs : List (List AV)) (t t2 : Bool) (c c2 : Option Nat) (hl : rs.length < 1000000) (ha : rs.all isM = true) : Rch Try.prog (plOf pls) C (conf0 13 ⟨31, [.tmp 4], code13⟩ [.imr t 3 rs c, .imr t2 3 rs c2] []) (Res (.v (.bool true)) []) := by
  have hf := isM_flat ha
  refine ExQ_ok [] 2000 plsOk noK ?_
  simp only [conf0]
  (try rw [exh]); simp (maxSteps := 4000000) only [go_sem, ↓bsplit_true, ↓bsplit_false, ↓reduceIte, Nat.reduceLT, Nat.reduceLeDiff, Nat.reduceEqDiff, Nat.reduceAdd, Nat.reduceSub, Nat.reduceMul, Nat.reduceBEq, Nat.reduceBNe, reduceCtorEq, Int.reduceEq, Int.reduceLT, Int.reduceLE, Int.reduceAdd, Int.reduceSub, Int.reduceMul, Int.reduceToNat, ↓xs13]
  repeat (refine And.intro (a := (_ = true)) (by first | (simp; done) | (simp; omega)) ?_)
  refine Rch.loop plsOk ?_
  have hlv : ∀ i, lvT 0 true (tW rs t t2 c c2 i) = true := fun i => by cases t <;> cases t2 <;> simp [tW, lvT, lvB, tB, hf.lv]
  refine Rch.fit1 hC [] (tm' := tW rs t t2 c c2 0) (bl' := []) rfl (by decide) rfl ⟨rfl, rfl, congrArg (fun x => AV.imr t2 3 x c2) (hf.ren _).symm, congrArg (fun x => AV.imr t 3 x c) (hf.ren _).symm, trivial⟩ (hlv _) trivial ?_
  refine loop_ind plsOk (α := {i : Nat // i ≤ rs.length}) (fun i => rs.length - i.1) (fun i => tW rs t t2 c c2 i.1) (fun _ => []) (fun _ => _) ?_ ⟨0, Nat.zero_le _⟩
  rintro ⟨i, hi⟩ ih
  simp only [tW] at hi ih ⊢
  by_cases h : (i : Int) < rs.length
  · obtain ⟨x, y, z, e⟩ := isM_at ha (show i < rs.length by omega)
    refine ExQ_ok [] 2000 plsOk noK ?_
    (try rw [exh]); simp (maxSteps := 4000000) only [h, e, go_sem, ↓bsplit_true, ↓bsplit_false, ↓reduceIte, Nat.reduceLT, Nat.reduceLeDiff, Nat.reduceEqDiff, Nat.reduceAdd, Nat.reduceSub, Nat.reduceMul, Nat.reduceBEq, Nat.reduceBNe, reduceCtorEq, Int.reduceEq, Int.reduceLT, Int.reduceLE, Int.reduceAdd, Int.reduceSub, Int.reduceMul, Int.reduceToNat, ↓xs13]
    repeat (refine And.intro (a := (_ = true)) (by first | (simp; done) | (simp; omega)) ?_)
    refine Rch.fit1 hC [] (tm' := tW rs t t2 c c2 (i + 1)) (bl' := []) rfl (by decide) rfl ⟨rfl, rfl, congrArg (fun x => AV.imr t2 3 x c2) (hf.ren _).symm, congrArg (fun x => AV.imr t 3 x c) (hf.ren _).symm, trivial⟩ (hlv _) trivial ?_
    exact ih ⟨i + 1, by omega⟩ (by simp only; omega)
  · refine ExQ_ok [] 2000 plsOk noK ?_
    (try rw [exh]); simp (maxSteps := 4000000) only [h, go_sem, ↓bsplit_true, ↓bsplit_false, ↓reduceIte, Nat.reduceLT, Nat.reduceLeDiff, Nat.reduceEqDiff, Nat.reduceAdd, Nat.reduceSub, Nat.reduceMul, Nat.reduceBEq, Nat.reduceBNe, reduceCtorEq, Int.reduceEq, Int.reduceLT, Int.reduceLE, Int.reduceAdd, Int.reduceSub, Int.reduceMul, Int.reduceToNat, ↓xs13]
    repeat (refine And.intro (a := (_ = true)) (by first | (simp; done) | (simp; omega)) ?_)
    exact Res.val _ _
theorem ws_ok : SpecOk Try.prog (plOf pls) 13 sWs := by
  refine ⟨_, fi13, fun args r bl1 h => ?_⟩
  unfold sWs at h
  split at h
  · simp only [Option.some.injEq, Prod.mk.injEq, Bool.and_eq_true, decide_eq_true_eq] at h
    obtain ⟨⟨h1, h2, h3, h4⟩, rfl, rfl⟩ := h
    obtain rfl := tri_rows h2 h3 h4
    exact ⟨by simp, fun C hC _ => ws_run C hC _ _ _ _ _ h1 h2⟩
  · cases h
def kS : KT := ktO 14 1 osAdd (ktO 11 1 osTake (ktO 15 1 osRAdd (ktO 12 1 osRTake (ktW 13 (conK sWs) kR1))))
theorem kS_ok : KOk Try.prog (plOf pls) kS := ktO_ok plsOk (ktO_ok plsOk (ktO_ok plsOk (ktO_ok plsOk (ktW_ok kR1_ok (conK_ok plsOk ws_ok)) ⟨_, fi12⟩ osRTake_ok) ⟨_, fi15⟩ osRAdd_ok) ⟨_, fi11⟩ osTake_ok) ⟨_, fi14⟩ osAdd_ok
end GS
end Go.Proofs.Ytfnnmkjlokjkhaa
