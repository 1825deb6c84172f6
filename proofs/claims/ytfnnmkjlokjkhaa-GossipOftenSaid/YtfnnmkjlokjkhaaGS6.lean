/- Gossip, the document's: what a buffer is in memory; the word of first. -/
import Derived.Test.YtfnnmkjlokjkhaaGS5
set_option linter.unusedSimpArgs false
set_option linter.unusedVariables false
namespace Go.Proofs.Ytfnnmkjlokjkhaa
open Go Go.SY
namespace GS
attribute [local go_sem] Ex stops inK stepF frsF frF itemF codeF condF opsF opsW opF callO drF drO drW drC stepS wtS gdst gdl sopF pv evq orl bltF callF calleeS popF lopF bltP callP cls lvA rdl quiet p_move p_assign p_pick p_nilCheck
attribute [local go_sem] p_binOp p_unOp p_convert p_fieldAddr p_indexAddr p_index p_slice p_makeFunc p_extract p_field p_build p_len p_cap p_min p_max l_load l_convert l_slice zerR roomR appRR roomN appNN cpSrcN clN cpSrc cpR clR e_clear srcR dstR srcN dstN e_store e_alloc e_box e_buildSlice e_makeSlice e_append e_copy
attribute [local go_sem] e_convert SY.get SY.put SY.ev SY.mk SY.nth SY.lvl SY.setl SY.ini wid wids dr tk flat at1 pack parts rdC rdCt wrC wrCt ar bits2 bopInt bopStr bopEq isPtr isSl isBl eqPs eqLf bop pickAV bnd subO cutOf okMx fillA plFs nz
attribute [local go_sem] minI numsAt aOf hd1 hdL immL isArr ctOf rowsOf numsAV rep elCt wrRow killO chR enterS leaveS retS endS exitS gotoS finishS killL isDefs setPs roundS resS resAll tup1 conf0 AV.scal plk spz Ct.cell exq_zero exq_go exq_d exq_n lvCt lvE
attribute [local go_sem] exq_t exq_f exq_t0 exq_f0 List.toList_toArray Bool.and_true Bool.true_and Bool.not_false Bool.not_true List.contains_nil List.contains_cons Bool.or_false Bool.false_or Option.isSome_some Option.isSome_none Option.isNone_none Option.isNone_some true_and and_true Option.some.injEq Bool.false_eq_true List.map_cons List.map_nil List.all_cons List.all_nil Bool.and_self List.drop_succ_cons List.drop_zero List.length_cons List.length_nil List.cons_append List.nil_append Option.map_some Option.map_none List.append_nil Nat.zero_add Nat.add_zero Nat.sub_zero Nat.zero_mul Nat.mul_one
attribute [local go_sem] Int.toNat_natCast Int.toNat_zero Int.toNat_one Int.add_zero Int.sub_zero Int.cast_ofNat_Int decide_true decide_false Option.getD_some Option.getD_none ktB ktX ktOf conK extK ovlK rwz alive alive0 mks noMk lndL lnd lvB lvL lvR lvT tB_tt tB_ft tB_ff okBls shB ren renL renR renCt ne_eq not_false_eq_true not_true_eq_false and_false
attribute [local go_sem] false_and and_self ti0 ti1 ti2 ti3 ti4 ti5 ti6 ti7 ti8 ti9 ti10 ti11 ti12 ti13 ti14 ti15 ti16 ti17 ti18 ti19 ti20 ti21 ti22 ti23 ti24 ti25 ti26 ti27 ti28 ti29 ti30 ti31 ti32 ti33 ti34 ti35 ti36 ti37
attribute [local go_sem] ti38 ti39 ti40 ti41 ti42 ti43 ti44 ti45 ti46 ti47 ti48 ti49 ti50 ti51 ti52 ti53 ti54 ti55 ti56 ti57 ti58 ti59 ti60 ti61 ti62 ti63 ti64 ti65 ti66 ti67 ti68 ti69 ti70 ti71 ti72 ti73 ti74 ti75 ti76 ti77
attribute [local go_sem] ti78 ti79 ti80 ti81 ti82 ti83 ti84 ti85 ti86 ti87 ti88 ti89 ti90 ti91 ti92 ti93 ti94 ti95 ti96 ti97 ti98 ti99 ti100 ti101 ti102 regAt fi32 body32 Try.f32 r32_1 r32_3 r32_7 r32_13 r32_19 r32_23 r32_29 r32_34 r32_33 r32_37 r32_40
attribute [local go_sem] r32_42 r32_17 r32_44 plA3 pl3 plA4 pl4 plA6 pl6 plA11 pl11 plA12 pl12 plA13 pl13 plA14 pl14 plA15 pl15 plA24 pl24 plA30 pl30 plA31 pl31 plA32 pl32 plA33 pl33 plA40 pl40 plA41 pl41 plA42 pl42 plA52 pl52
theorem rowM_at {q : List Tl} {i : Nat} (h : i < q.length) : (q.map rowM)[i]?.getD [] = rowM q[i] := by
  rw [List.getElem?_map, List.getElem?_eq_getElem h]
  rfl
theorem told_at {q : List Tl} {i : Nat} (h : i < q.length) : (q.map (·.told))[i]?.getD 0 = q[i].told := by
  rw [List.getElem?_map, List.getElem?_eq_getElem h]
  rfl
def layR (n : Int) (P : List Tl) : Bls := [some (.lit [.v (.int .i64 n), .sl 1 0 3 P.length none, .sl 2 0 1 P.length none]), some (.rows 3 (P.map rowM)), some (.num .i64 (P.map (·.told)))]
def outI : Option (Nat × Tl) → Int
  | none => -1
  | some (j, _) => j
def tF (bs : List Tl) (t : Bool) (c : Option Nat) (o : Option (Nat × Tl)) (i : Nat) : TM := [(6, .v (.int .i64 i)), (5, .v (.int .i64 (outI o))), (1, .imr t 3 (bs.map rowM) c), (0, .ptr 0 0 3 0)]
def tF2 (bs : List Tl) (t : Bool) (c : Option Nat) (o : Option (Nat × Tl)) (i k : Nat) (b : Bool) : TM := [(8, .v (.int .i64 k)), (7, .v (.bool b)), (6, .v (.int .i64 i)), (5, .v (.int .i64 (outI o))), (1, .imr t 3 (bs.map rowM) c), (0, .ptr 0 0 3 0)]
def isIn (a : Int) (bs : List Tl) (k : Nat) : Bool := decide (a ∈ (bs.take k).map (·.id))
theorem isIn_step {a : Int} {bs : List Tl} {k : Nat} (h : k < bs.length) : isIn a bs (k + 1) = (isIn a bs k || decide (bs[k].id = a)) := by
  simp only [isIn, List.take_succ_eq_append_getElem h, List.map_append, List.mem_append, List.map_cons, List.map_nil, List.mem_singleton, Bool.decide_or]
  congr 1
  exact decide_eq_decide.2 ⟨Eq.symm, Eq.symm⟩
theorem lvF {bs : List Tl} {t : Bool} {c : Option Nat} {o : Option (Nat × Tl)} {i k N : Nat} {b : Bool} : lvT (N + 1) true (tF2 bs t c o i k b) = true ∧ lvT (N + 1) true (tF bs t c o i) = true := by
  have hf := flatM bs
  cases t <;> simp [tF, tF2, lvT, lvB, tB, hf.lv]
set_option maxRecDepth 100000 in
set_option maxHeartbeats 4000000 in
theorem first_word (n : Int) (P bs : List Tl) (t : Bool) (c : Option Nat) (hp : P.length < 100000) (hb : bs.length < 100000) : Word Try.prog (plOf pls) 32 [.ptr 0 0 3 0, .imr t 3 (bs.map rowM) c] (layR n P) (ObQ 3 (.v (.int .i64 (outI (firstF (bs.map (·.id)) P 0 none)))) (layR n P)) := by
  refine ⟨_, fi32, by simp, fun C hb' hC => ?_⟩
  have hC : C.β.b.length = 3 := hC
  have hfb := flatM bs
  have hf := flatM P
  have hlb : (bs.map rowM).length = bs.length := List.length_map _
  have hlt : (P.map (·.told)).length = P.length := List.length_map _
  have hlp : (P.map rowM).length = P.length := List.length_map _
  refine ExQ_ok [] 2000 plsOk noK ?_
  simp only [conf0, layR]
  (try rw [exh]); simp (maxSteps := 4000000) only [go_sem, ↓bsplit_true, ↓bsplit_false, ↓reduceIte, Nat.reduceLT, Nat.reduceLeDiff, Nat.reduceEqDiff, Nat.reduceAdd, Nat.reduceSub, Nat.reduceMul, Nat.reduceBEq, Nat.reduceBNe, reduceCtorEq, Int.reduceEq, Int.reduceLT, Int.reduceLE, Int.reduceAdd, Int.reduceSub, Int.reduceMul, Int.reduceToNat, ↓xs32]
  repeat (refine And.intro (a := (_ = true)) (by first | (simp; done) | (simp; omega)) ?_)
  refine Rch.loop plsOk ?_
  refine Rch.fit1K hC [0, 1, 2] rfl (tm' := tF bs t c none 0) (bl' := layR n P) rfl (by decide) rfl ⟨rfl, rfl, congrArg (fun x => AV.imr t 3 x c) (hfb.ren _).symm, rfl, trivial⟩ (lvF (k := 0) (b := true)).2 ⟨⟨rfl, rfl⟩, ⟨by simp only [renCt, hf.ren]; exact rfl, by simp only [lvCt, hf.lv]⟩, ⟨rfl, rfl⟩, trivial⟩ ?_
  refine loop_ind plsOk (α := {a : Nat × Option (Nat × Tl) // a.1 ≤ P.length ∧ ∀ j z, a.2 = some (j, z) → P[j]? = some z}) (fun a => P.length - a.1.1) (fun a => tF bs t c a.1.2 a.1.1) (fun _ => layR n P) (fun a => ObQ 3 (.v (.int .i64 (outI (firstF (bs.map (·.id)) (P.drop a.1.1) a.1.1 a.1.2)))) (layR n P)) ?_ ⟨(0, none), Nat.zero_le _, fun _ _ h => by cases h⟩
  rintro ⟨⟨i, o⟩, hi, ho⟩ ih
  simp only at hi ho ih
  simp only [tF, layR]
  by_cases h : (i : Int) < P.length
  case neg =>
    rw [show firstF (bs.map (·.id)) (P.drop i) i o = o by rw [List.drop_eq_nil_of_le (by omega)]; rfl]
    refine ExQ_ok [] 2000 plsOk noK ?_
    (try rw [exh]); simp (maxSteps := 4000000) only [h, go_sem, ↓bsplit_true, ↓bsplit_false, ↓reduceIte, Nat.reduceLT, Nat.reduceLeDiff, Nat.reduceEqDiff, Nat.reduceAdd, Nat.reduceSub, Nat.reduceMul, Nat.reduceBEq, Nat.reduceBNe, reduceCtorEq, Int.reduceEq, Int.reduceLT, Int.reduceLE, Int.reduceAdd, Int.reduceSub, Int.reduceMul, Int.reduceToNat, ↓xs32]
    repeat (refine And.intro (a := (_ = true)) (by first | (simp; done) | (simp; omega)) ?_)
    exact ObQ.mk [0, 1, 2] (by decide) rfl rfl rfl ⟨rfl, by simp only [renCt, hf.ren]; exact rfl, rfl, trivial⟩
  have hi2 : i < P.length := by omega
  have he := rowM_at hi2
  have he2 := told_at hi2
  rw [show P.drop i = P[i] :: P.drop (i + 1) from List.drop_eq_getElem_cons hi2, first_cons]
  have hy : P[i]? = some P[i] := List.getElem?_eq_getElem hi2
  generalize P[i] = y at *
  refine ExQ_ok [] 2000 plsOk noK ?_
  (try rw [exh]); simp (maxSteps := 4000000) only [h, go_sem, ↓bsplit_true, ↓bsplit_false, ↓reduceIte, Nat.reduceLT, Nat.reduceLeDiff, Nat.reduceEqDiff, Nat.reduceAdd, Nat.reduceSub, Nat.reduceMul, Nat.reduceBEq, Nat.reduceBNe, reduceCtorEq, Int.reduceEq, Int.reduceLT, Int.reduceLE, Int.reduceAdd, Int.reduceSub, Int.reduceMul, Int.reduceToNat, ↓xs32]
  repeat (refine And.intro (a := (_ = true)) (by first | (simp; done) | (simp; omega)) ?_)
  refine Rch.loop plsOk ?_
  refine Rch.fit1K hC [0, 1, 2] rfl (tm' := tF2 bs t c o i 0 (isIn y.id bs 0)) (bl' := layR n P) rfl (by decide) rfl ⟨rfl, rfl, rfl, rfl, congrArg (fun x => AV.imr t 3 x c) (hfb.ren _).symm, rfl, trivial⟩ lvF.1 ⟨⟨rfl, rfl⟩, ⟨by simp only [renCt, hf.ren]; exact rfl, by simp only [lvCt, hf.lv]⟩, ⟨rfl, rfl⟩, trivial⟩ ?_
  refine loop_ind plsOk (α := {a : Nat // a ≤ bs.length}) (fun a => bs.length - a.1) (fun a => tF2 bs t c o i a.1 (isIn y.id bs a.1)) (fun _ => layR n P) (fun _ => _) ?_ ⟨0, Nat.zero_le _⟩
  rintro ⟨k, hk⟩ ih2
  simp only [tF2, layR] at hk ih2 ⊢
  by_cases h2 : (k : Int) < bs.length
  · have hk2 : k < bs.length := by omega
    have he3 := rowM_at hk2
    have hst := isIn_step (a := y.id) hk2
    have ih3 := ih2 ⟨k + 1, by omega⟩ (by simp only; omega)
    simp only at ih3
    rw [hst] at ih3
    clear ih2 ih
    generalize bs[k] = x at *
    cases hI : isIn y.id bs k with
    | true =>
      rw [hI, Bool.true_or] at ih3
      refine ExQ_ok [] 2000 plsOk noK ?_
      (try rw [exh]); simp (maxSteps := 4000000) only [h, h2, hlb, go_sem, ↓bsplit_true, ↓bsplit_false, ↓reduceIte, Nat.reduceLT, Nat.reduceLeDiff, Nat.reduceEqDiff, Nat.reduceAdd, Nat.reduceSub, Nat.reduceMul, Nat.reduceBEq, Nat.reduceBNe, reduceCtorEq, Int.reduceEq, Int.reduceLT, Int.reduceLE, Int.reduceAdd, Int.reduceSub, Int.reduceMul, Int.reduceToNat, ↓xs32]
      repeat (refine And.intro (a := (_ = true)) (by first | (simp; done) | (simp; omega)) ?_)
      refine Rch.fit1K hC [0, 1, 2] rfl (tm' := tF2 bs t c o i (k + 1) true) (bl' := layR n P) rfl (by decide) rfl ⟨rfl, rfl, rfl, rfl, congrArg (fun x => AV.imr t 3 x c) (hfb.ren _).symm, rfl, trivial⟩ lvF.1 ⟨⟨rfl, rfl⟩, ⟨by simp only [renCt, hf.ren]; exact rfl, by simp only [lvCt, hf.lv]⟩, ⟨rfl, rfl⟩, trivial⟩ ?_
      exact ih3
    | false =>
      rw [hI, Bool.false_or] at ih3
      simp only [rowM] at he he3
      refine ExQ_ok [] 2000 plsOk noK ?_
      (try rw [exh]); simp (maxSteps := 4000000) only [h, h2, hlb, hlp, he, he3, go_sem, ↓bsplit_true, ↓bsplit_false, ↓reduceIte, Nat.reduceLT, Nat.reduceLeDiff, Nat.reduceEqDiff, Nat.reduceAdd, Nat.reduceSub, Nat.reduceMul, Nat.reduceBEq, Nat.reduceBNe, reduceCtorEq, Int.reduceEq, Int.reduceLT, Int.reduceLE, Int.reduceAdd, Int.reduceSub, Int.reduceMul, Int.reduceToNat, ↓xs32]
      repeat (refine And.intro (a := (_ = true)) (by first | (simp; done) | (simp; omega)) ?_)
      refine Rch.fit1K hC [0, 1, 2] rfl (tm' := tF2 bs t c o i (k + 1) (decide (x.id = y.id))) (bl' := layR n P) rfl (by decide) rfl ⟨rfl, rfl, rfl, rfl, congrArg (fun x => AV.imr t 3 x c) (hfb.ren _).symm, rfl, trivial⟩ lvF.1 ⟨⟨rfl, rfl⟩, ⟨by simp only [renCt, hf.ren]; exact rfl, by simp only [lvCt, hf.lv]⟩, ⟨rfl, rfl⟩, trivial⟩ ?_
      exact ih3
  · have hkb : bs.take k = bs := List.take_of_length_le (by omega)
    have hI2 : isIn y.id bs k = decide (y.id ∈ bs.map (·.id)) := by rw [isIn, hkb]
    clear ih2
    have hnew : ∀ j z, (some (i, y) : Option (Nat × Tl)) = some (j, z) → P[j]? = some z := fun j z e => by
      obtain ⟨rfl, rfl⟩ := Prod.mk.inj (Option.some.inj e)
      exact hy
    by_cases h3 : y.id ∈ bs.map (·.id)
    · have hI : isIn y.id bs k = true := by rw [hI2]; exact decide_eq_true h3
      rw [if_pos h3]
      refine ExQ_ok [] 2000 plsOk noK ?_
      (try rw [exh]); simp (maxSteps := 4000000) only [h, h2, hlb, hI, go_sem, ↓bsplit_true, ↓bsplit_false, ↓reduceIte, Nat.reduceLT, Nat.reduceLeDiff, Nat.reduceEqDiff, Nat.reduceAdd, Nat.reduceSub, Nat.reduceMul, Nat.reduceBEq, Nat.reduceBNe, reduceCtorEq, Int.reduceEq, Int.reduceLT, Int.reduceLE, Int.reduceAdd, Int.reduceSub, Int.reduceMul, Int.reduceToNat, ↓xs32]
      repeat (refine And.intro (a := (_ = true)) (by first | (simp; done) | (simp; omega)) ?_)
      refine Rch.fit1K hC [0, 1, 2] rfl (tm' := tF bs t c (o) (i + 1)) (bl' := layR n P) rfl (by decide) rfl ⟨rfl, rfl, congrArg (fun x => AV.imr t 3 x c) (hfb.ren _).symm, rfl, trivial⟩ (lvF (k := 0) (b := true)).2 ⟨⟨rfl, rfl⟩, ⟨by simp only [renCt, hf.ren]; exact rfl, by simp only [lvCt, hf.lv]⟩, ⟨rfl, rfl⟩, trivial⟩ ?_
      exact ih ⟨(i + 1, o), by simp only; omega, ho⟩ (by simp only; omega)
    · have hI : isIn y.id bs k = false := by rw [hI2]; exact decide_eq_false h3
      rw [if_neg h3]
      simp only [rowM] at he
      cases o with
      | none =>
        simp only [outI]
        refine ExQ_ok [] 2000 plsOk noK ?_
        (try rw [exh]); simp (maxSteps := 4000000) only [h, h2, hlb, hI, go_sem, ↓bsplit_true, ↓bsplit_false, ↓reduceIte, Nat.reduceLT, Nat.reduceLeDiff, Nat.reduceEqDiff, Nat.reduceAdd, Nat.reduceSub, Nat.reduceMul, Nat.reduceBEq, Nat.reduceBNe, reduceCtorEq, Int.reduceEq, Int.reduceLT, Int.reduceLE, Int.reduceAdd, Int.reduceSub, Int.reduceMul, Int.reduceToNat, ↓xs32]
        repeat (refine And.intro (a := (_ = true)) (by first | (simp; done) | (simp; omega)) ?_)
        refine Rch.fit1K hC [0, 1, 2] rfl (tm' := tF bs t c (some (i, y)) (i + 1)) (bl' := layR n P) rfl (by decide) rfl ⟨rfl, rfl, congrArg (fun x => AV.imr t 3 x c) (hfb.ren _).symm, rfl, trivial⟩ (lvF (k := 0) (b := true)).2 ⟨⟨rfl, rfl⟩, ⟨by simp only [renCt, hf.ren]; exact rfl, by simp only [lvCt, hf.lv]⟩, ⟨rfl, rfl⟩, trivial⟩ ?_
        exact ih ⟨(i + 1, some (i, y)), by simp only; omega, hnew⟩ (by simp only; omega)
      | some jz =>
        obtain ⟨j, z⟩ := jz
        have hz := ho j z rfl
        obtain ⟨hj, hz2⟩ := List.getElem?_eq_some_iff.1 hz
        have ge := rowM_at hj
        have ge2 := told_at hj
        rw [hz2] at ge ge2
        simp only [rowM] at ge
        have hj0 : ¬ (j : Int) < 0 := by omega
        have hjl : (j : Int) < P.length := by omega
        have hj00 : (0 : Int) ≤ j := by omega
        simp only [outI]
        by_cases h4 : y.told < z.told
        · rw [if_pos (show LessT y z from .inl h4)]
          refine ExQ_ok [] 2000 plsOk noK ?_
          (try rw [exh]); simp (maxSteps := 4000000) only [h, h2, hlb, hlp, hlt, hI, hj0, hj00, hjl, he, he2, ge, ge2, h4, go_sem, ↓bsplit_true, ↓bsplit_false, ↓reduceIte, Nat.reduceLT, Nat.reduceLeDiff, Nat.reduceEqDiff, Nat.reduceAdd, Nat.reduceSub, Nat.reduceMul, Nat.reduceBEq, Nat.reduceBNe, reduceCtorEq, Int.reduceEq, Int.reduceLT, Int.reduceLE, Int.reduceAdd, Int.reduceSub, Int.reduceMul, Int.reduceToNat, ↓xs32]
          repeat (refine And.intro (a := (_ = true)) (by first | (simp; done) | (simp; omega)) ?_)
          refine Rch.fit1K hC [0, 1, 2] rfl (tm' := tF bs t c (some (i, y)) (i + 1)) (bl' := layR n P) rfl (by decide) rfl ⟨rfl, rfl, congrArg (fun x => AV.imr t 3 x c) (hfb.ren _).symm, rfl, trivial⟩ (lvF (k := 0) (b := true)).2 ⟨⟨rfl, rfl⟩, ⟨by simp only [renCt, hf.ren]; exact rfl, by simp only [lvCt, hf.lv]⟩, ⟨rfl, rfl⟩, trivial⟩ ?_
          exact ih ⟨(i + 1, some (i, y)), by simp only; omega, hnew⟩ (by simp only; omega)
        · by_cases h5 : y.told = z.told
          · have g5 : decide (y.told = z.told) = true := decide_eq_true h5
            by_cases h6 : y.id < z.id
            · rw [if_pos (show LessT y z from .inr ⟨h5, h6⟩)]
              refine ExQ_ok [] 2000 plsOk noK ?_
              (try rw [exh]); simp (maxSteps := 4000000) only [h, h2, hlb, hlp, hlt, hI, hj0, hj00, hjl, he, he2, ge, ge2, h4, g5, h6, go_sem, ↓bsplit_true, ↓bsplit_false, ↓reduceIte, Nat.reduceLT, Nat.reduceLeDiff, Nat.reduceEqDiff, Nat.reduceAdd, Nat.reduceSub, Nat.reduceMul, Nat.reduceBEq, Nat.reduceBNe, reduceCtorEq, Int.reduceEq, Int.reduceLT, Int.reduceLE, Int.reduceAdd, Int.reduceSub, Int.reduceMul, Int.reduceToNat, ↓xs32]
              repeat (refine And.intro (a := (_ = true)) (by first | (simp; done) | (simp; omega)) ?_)
              refine Rch.fit1K hC [0, 1, 2] rfl (tm' := tF bs t c (some (i, y)) (i + 1)) (bl' := layR n P) rfl (by decide) rfl ⟨rfl, rfl, congrArg (fun x => AV.imr t 3 x c) (hfb.ren _).symm, rfl, trivial⟩ (lvF (k := 0) (b := true)).2 ⟨⟨rfl, rfl⟩, ⟨by simp only [renCt, hf.ren]; exact rfl, by simp only [lvCt, hf.lv]⟩, ⟨rfl, rfl⟩, trivial⟩ ?_
              exact ih ⟨(i + 1, some (i, y)), by simp only; omega, hnew⟩ (by simp only; omega)
            · rw [if_neg (show ¬ LessT y z from fun k => by unfold LessT at k; omega)]
              refine ExQ_ok [] 2000 plsOk noK ?_
              (try rw [exh]); simp (maxSteps := 4000000) only [h, h2, hlb, hlp, hlt, hI, hj0, hj00, hjl, he, he2, ge, ge2, h4, g5, h6, go_sem, ↓bsplit_true, ↓bsplit_false, ↓reduceIte, Nat.reduceLT, Nat.reduceLeDiff, Nat.reduceEqDiff, Nat.reduceAdd, Nat.reduceSub, Nat.reduceMul, Nat.reduceBEq, Nat.reduceBNe, reduceCtorEq, Int.reduceEq, Int.reduceLT, Int.reduceLE, Int.reduceAdd, Int.reduceSub, Int.reduceMul, Int.reduceToNat, ↓xs32]
              repeat (refine And.intro (a := (_ = true)) (by first | (simp; done) | (simp; omega)) ?_)
              refine Rch.fit1K hC [0, 1, 2] rfl (tm' := tF bs t c (some (j, z)) (i + 1)) (bl' := layR n P) rfl (by decide) rfl ⟨rfl, rfl, congrArg (fun x => AV.imr t 3 x c) (hfb.ren _).symm, rfl, trivial⟩ (lvF (k := 0) (b := true)).2 ⟨⟨rfl, rfl⟩, ⟨by simp only [renCt, hf.ren]; exact rfl, by simp only [lvCt, hf.lv]⟩, ⟨rfl, rfl⟩, trivial⟩ ?_
              exact ih ⟨(i + 1, some (j, z)), by simp only; omega, ho⟩ (by simp only; omega)
          · have g5 : decide (y.told = z.told) = false := decide_eq_false h5
            rw [if_neg (show ¬ LessT y z from fun k => by unfold LessT at k; omega)]
            refine ExQ_ok [] 2000 plsOk noK ?_
            (try rw [exh]); simp (maxSteps := 4000000) only [h, h2, hlb, hlp, hlt, hI, hj0, hj00, hjl, he, he2, ge, ge2, h4, g5, go_sem, ↓bsplit_true, ↓bsplit_false, ↓reduceIte, Nat.reduceLT, Nat.reduceLeDiff, Nat.reduceEqDiff, Nat.reduceAdd, Nat.reduceSub, Nat.reduceMul, Nat.reduceBEq, Nat.reduceBNe, reduceCtorEq, Int.reduceEq, Int.reduceLT, Int.reduceLE, Int.reduceAdd, Int.reduceSub, Int.reduceMul, Int.reduceToNat, ↓xs32]
            repeat (refine And.intro (a := (_ = true)) (by first | (simp; done) | (simp; omega)) ?_)
            refine Rch.fit1K hC [0, 1, 2] rfl (tm' := tF bs t c (some (j, z)) (i + 1)) (bl' := layR n P) rfl (by decide) rfl ⟨rfl, rfl, congrArg (fun x => AV.imr t 3 x c) (hfb.ren _).symm, rfl, trivial⟩ (lvF (k := 0) (b := true)).2 ⟨⟨rfl, rfl⟩, ⟨by simp only [renCt, hf.ren]; exact rfl, by simp only [lvCt, hf.lv]⟩, ⟨rfl, rfl⟩, trivial⟩ ?_
            exact ih ⟨(i + 1, some (j, z)), by simp only; omega, ho⟩ (by simp only; omega)
end GS
end Go.Proofs.Ytfnnmkjlokjkhaa
