/- Gossip, the document's: the word of Take. -/
import Derived.Test.YtfnnmkjlokjkhaaGS9
set_option linter.unusedSimpArgs false
set_option linter.unusedVariables false
namespace Go.Proofs.Ytfnnmkjlokjkhaa
open Go Go.SY
namespace GS
attribute [local go_sem] Ex stops inK stepF frsF frF itemF codeF condF opsF opsW opF callO drF drO drW drC stepS wtS gdst gdl sopF pv evq orl bltF callF calleeS popF lopF bltP callP cls lvA rdl quiet p_move p_assign p_pick p_nilCheck
attribute [local go_sem] p_binOp p_unOp p_convert p_fieldAddr p_indexAddr p_index p_slice p_makeFunc p_extract p_field p_build p_len p_cap p_min p_max l_load l_convert l_slice zerR roomR appRR roomN appNN cpSrcN clN cpSrc cpR clR e_clear srcR dstR srcN dstN e_store e_alloc e_box e_buildSlice e_makeSlice e_append e_copy
attribute [local go_sem] e_convert SY.get SY.put SY.ev SY.mk SY.nth SY.lvl SY.setl SY.ini wid wids dr tk flat at1 pack parts rdC rdCt wrC wrCt ar bits2 bopInt bopStr bopEq isPtr isSl isBl eqPs eqLf bop pickAV bnd subO cutOf okMx fillA plFs nz
attribute [local go_sem] minI numsAt aOf hd1 hdL immL isArr ctOf rowsOf numsAV rep elCt wrRow killO chR enterS leaveS retS endS exitS gotoS finishS killL isDefs setPs roundS resS resAll tup1 conf0 AV.scal plk spz Ct.cell exq_zero exq_go exq_d exq_n lvCt lvE
attribute [local go_sem] exq_t exq_f exq_t0 exq_f0 List.toList_toArray Bool.and_true Bool.true_and Bool.not_false Bool.not_true List.contains_nil List.contains_cons Bool.or_false Bool.false_or Option.isSome_some Option.isSome_none Option.isNone_none Option.isNone_some true_and and_true Option.some.injEq Bool.false_eq_true List.map_cons List.map_nil List.all_cons List.all_nil Bool.and_self List.drop_succ_cons List.drop_zero List.length_cons List.length_nil List.cons_append List.nil_append Option.map_some Option.map_none List.append_nil Nat.zero_add Nat.add_zero Nat.sub_zero Nat.zero_mul Nat.mul_one
attribute [local go_sem] Int.toNat_natCast Int.toNat_zero Int.toNat_one Int.add_zero Int.sub_zero Int.cast_ofNat_Int decide_true decide_false Option.getD_some Option.getD_none ktB ktX ktOf conK extK ovlK rwz alive alive0 mks noMk lndL lnd lvB lvL lvR lvT tB_tt tB_ft tB_ff okBls shB ren renL renR renCt ne_eq not_false_eq_true not_true_eq_false and_false
attribute [local go_sem] false_and and_self ti0 ti1 ti2 ti3 ti4 ti5 ti6 ti7 ti8 ti9 ti10 ti11 ti12 ti13 ti14 ti15 ti16 ti17 ti18 ti19 ti20 ti21 ti22 ti23 ti24 ti25 ti26 ti27 ti28 ti29 ti30 ti31 ti32 ti33 ti34 ti35 ti36 ti37
attribute [local go_sem] ti38 ti39 ti40 ti41 ti42 ti43 ti44 ti45 ti46 ti47 ti48 ti49 ti50 ti51 ti52 ti53 ti54 ti55 ti56 ti57 ti58 ti59 ti60 ti61 ti62 ti63 ti64 ti65 ti66 ti67 ti68 ti69 ti70 ti71 ti72 ti73 ti74 ti75 ti76 ti77
attribute [local go_sem] ti78 ti79 ti80 ti81 ti82 ti83 ti84 ti85 ti86 ti87 ti88 ti89 ti90 ti91 ti92 ti93 ti94 ti95 ti96 ti97 ti98 ti99 ti100 ti101 ti102 regAt fi12 body12 Try.f12 r12_1 r12_3 r12_11 r12_15 r12_19 r12_22 r12_24 r12_26 r12_28 r12_30 plA3
attribute [local go_sem] pl3 plA4 pl4 plA6 pl6 plA11 pl11 plA12 pl12 plA13 pl13 plA14 pl14 plA15 pl15 plA24 pl24 plA30 pl30 plA31 pl31 plA32 pl32 plA33 pl33 plA40 pl40 plA41 pl41 plA42 pl42 plA52 pl52
def tkR (z : Int) : Nat := if z < 1 then 0 else (min z 16).toNat
def bK (mv : Bool) (n : Int) (P out : List Tl) : Bls := match mv with
  | false => [some (.lit [.v (.int .i64 n), .sl 1 0 3 P.length none, .sl 2 0 1 P.length none]), some (.rows 3 (P.map rowM)), some (.num .i64 (P.map (·.told))), some (.rows 3 (out.map rowM))]
  | true => [some (.lit [.v (.int .i64 n), .sl 3 0 3 P.length none, .sl 4 0 1 P.length none]), none, none, some (.rows 3 (P.map rowM)), some (.num .i64 (P.map (·.told))), some (.rows 3 (out.map rowM))]
def tK (mv : Bool) (z : Int) (k : Nat) : TM := [(5, .sl (if mv then 5 else 3) 0 3 k none), (1, .v (.int .i64 z)), (0, .ptr 0 0 3 0)]
theorem era_set {α : Type} (x : α) : ∀ {P : List α} {i : Nat}, (P.set i x).eraseIdx i = P.eraseIdx i
  | [], _ => rfl
  | _ :: _, 0 => rfl
  | y :: P, i + 1 => by rw [List.set_cons_succ, List.eraseIdx_cons_succ, era_set x, List.eraseIdx_cons_succ]
theorem set_rows {P : List Tl} {i : Nat} {z : Tl} (h : P[i]? = some z) : (P.set i z.bump).map rowM = P.map rowM := by
  rw [List.map_set]
  have h2 : (P.map rowM)[i]? = some (rowM z.bump) := by rw [List.getElem?_map, h]; rfl
  obtain ⟨g1, g2⟩ := List.getElem?_eq_some_iff.1 h2
  rw [← g2, List.set_getElem_self]
theorem set_told {P : List Tl} {i : Nat} {z : Tl} : (P.map (·.told)).set i (z.told + 1) = (P.set i z.bump).map (·.told) := by
  rw [List.map_set]; rfl
theorem set_at {P : List Tl} {i : Nat} {z : Tl} (h : P[i]? = some z) : ((P.set i z.bump).map (·.told))[i]?.getD 0 = z.told + 1 := by
  obtain ⟨g1, g2⟩ := List.getElem?_eq_some_iff.1 h
  rw [told_at (by rw [List.length_set]; exact g1), List.getElem_set_self]
  rfl
theorem tk_one {α : Type} (x : α) : List.take 1 [x] = [x] := rfl
attribute [local go_sem] kR1 kG0 ktO ktW kN0 ktOf conK sChk sOver specT sLen readK osWo osFirst osLim findR layR objK objB updT mapB rhoN nm mrk nilR List.append_nil List.nodup_cons List.mem_cons List.not_mem_nil List.take_succ_cons List.take_zero List.getD_cons_zero List.getD_cons_succ btt bff not_true_eq_false not_false_eq_true List.drop_zero killL
set_option maxRecDepth 100000 in
set_option maxHeartbeats 8000000 in
theorem rtake_word (n : Int) (P0 : List Tl) (z : Int) (hn : 1 ≤ n) (hn2 : n ≤ 64) (hp : P0.length < 50000) (ht : ∀ t ∈ P0, 0 ≤ t.told ∧ t.told < 1000) :
    Word Try.prog (plOf pls) 12 [.ptr 0 0 3 0, .v (.int .i64 z)] (layR n P0) (ObQ 1 (.sl 3 0 3 (takeR (3 * bitN n) (tkR z) P0 []).1.length none) (layR n (takeR (3 * bitN n) (tkR z) P0 []).2 ++ [some (.rows 3 ((takeR (3 * bitN n) (tkR z) P0 []).1.map rowM))])) := by
  refine ⟨_, fi12, by simp, fun C hb hC => ?_⟩
  have hC : C.β.b.length = 3 := hC
  have hf := flatM P0
  refine ExQ_ok [] 2000 plsOk kR1_ok ?_
  simp only [conf0, layR]
  (try rw [exh]); simp (maxSteps := 4000000) only [go_sem, ↓bsplit_true, ↓bsplit_false, ↓reduceIte, Nat.reduceLT, Nat.reduceLeDiff, Nat.reduceEqDiff, Nat.reduceAdd, Nat.reduceSub, Nat.reduceMul, Nat.reduceBEq, Nat.reduceBNe, reduceCtorEq, Int.reduceEq, Int.reduceLT, Int.reduceLE, Int.reduceAdd, Int.reduceSub, Int.reduceMul, Int.reduceToNat, ↓xs12]
  repeat (refine And.intro (a := (_ = true)) (by first | (simp; done) | (simp; omega)) ?_)
  refine Rch.nilslR 5 0 3 3 rfl rfl ?_
  refine Rch.loop plsOk ?_
  refine Rch.fit1K hC [0, 1, 2, 3] rfl (tm' := tK false z 0) (bl' := bK false n P0 []) rfl (by decide) rfl ⟨rfl, rfl, rfl, trivial⟩ rfl ⟨⟨rfl, rfl⟩, ⟨by simp only [renCt, hf.ren]; exact rfl, by simp only [lvCt, hf.lv]⟩, ⟨rfl, rfl⟩, ⟨rfl, rfl⟩, trivial⟩ ?_
  clear hf
  obtain ⟨lim, hlim⟩ : ∃ lim, 3 * bitN n = lim := ⟨_, rfl⟩
  have hb2 := bitN_lt n
  rw [hlim]
  obtain ⟨m, hm⟩ : ∃ m, tkR z = m := ⟨_, rfl⟩
  have hm2 : m = if z < 1 then 0 else (min z 16).toNat := hm.symm
  rw [hm]
  refine loop_ind plsOk (α := {a : Bool × Nat × List Tl × List Tl // takeR lim a.2.1 a.2.2.1 a.2.2.2 = takeR lim m P0 [] ∧ a.2.1 + a.2.2.2.length = m ∧ a.2.2.1.length ≤ P0.length ∧ ∀ t ∈ a.2.2.1, 0 ≤ t.told ∧ t.told < 1000}) (fun a => a.1.2.1) (fun a => tK a.1.1 z a.1.2.2.2.length) (fun a => bK a.1.1 n a.1.2.2.1 a.1.2.2.2) (fun _ => ObQ 1 (.sl 3 0 3 (takeR lim m P0 []).1.length none) (layR n (takeR lim m P0 []).2 ++ [some (.rows 3 ((takeR lim m P0 []).1.map rowM))])) ?_ ⟨(false, m, P0, []), rfl, rfl, Nat.le_refl _, ht⟩
  rintro ⟨⟨mv, f, P, out⟩, h1, h2, h3, h4⟩ ih
  simp only at h1 h2 h3 h4 ih ⊢
  have hf := flatM P
  have hfo := flatM out
  have hlp : (P.map rowM).length = P.length := List.length_map _
  have hlt : (P.map (·.told)).length = P.length := List.length_map _
  have hlo : (out.map rowM).length = out.length := List.length_map _
  have tko : (out.map rowM).take out.length = out.map rowM := List.take_of_length_le (by omega)
  have hio := idMap out
  have hzp := zip_map P
  have hap := isM_all P
  have hao := isM_all out
  by_cases hgo : (out.length : Int) < z ∧ (out.length : Int) < 16
  case neg =>
    obtain rfl : f = 0 := by
      split at hm2
      · omega
      · omega
    rw [← h1, takeR]
    simp only
    by_cases hz : (out.length : Int) < z
    · have h16 : ¬ (out.length : Int) < 16 := fun h => hgo ⟨hz, h⟩
      cases mv with
      | false =>
        simp only [tK, bK, Bool.false_eq_true, if_false]
        refine ExQ_ok [] 2000 plsOk kR1_ok ?_
        (try rw [exh]); simp (maxSteps := 4000000) only [hz, h16, go_sem, ↓bsplit_true, ↓bsplit_false, ↓reduceIte, Nat.reduceLT, Nat.reduceLeDiff, Nat.reduceEqDiff, Nat.reduceAdd, Nat.reduceSub, Nat.reduceMul, Nat.reduceBEq, Nat.reduceBNe, reduceCtorEq, Int.reduceEq, Int.reduceLT, Int.reduceLE, Int.reduceAdd, Int.reduceSub, Int.reduceMul, Int.reduceToNat, ↓xs12]
        repeat (refine And.intro (a := (_ = true)) (by first | (simp; done) | (simp; omega)) ?_)
        exact ObQ.mk [0, 1, 2, 3] (by decide) rfl rfl rfl ⟨rfl, by simp only [renCt, hf.ren]; exact rfl, rfl, by simp only [renCt, hfo.ren]; exact rfl, trivial⟩
      | true =>
        simp only [tK, bK, if_true]
        refine ExQ_ok [] 2000 plsOk kR1_ok ?_
        (try rw [exh]); simp (maxSteps := 4000000) only [hz, h16, go_sem, ↓bsplit_true, ↓bsplit_false, ↓reduceIte, Nat.reduceLT, Nat.reduceLeDiff, Nat.reduceEqDiff, Nat.reduceAdd, Nat.reduceSub, Nat.reduceMul, Nat.reduceBEq, Nat.reduceBNe, reduceCtorEq, Int.reduceEq, Int.reduceLT, Int.reduceLE, Int.reduceAdd, Int.reduceSub, Int.reduceMul, Int.reduceToNat, ↓xs12]
        repeat (refine And.intro (a := (_ = true)) (by first | (simp; done) | (simp; omega)) ?_)
        exact ObQ.mk [0, 3, 4, 5] (by decide) rfl rfl rfl ⟨rfl, by simp only [renCt, hf.ren]; exact rfl, rfl, by simp only [renCt, hfo.ren]; exact rfl, trivial⟩
    · cases mv with
      | false =>
        simp only [tK, bK, Bool.false_eq_true, if_false]
        refine ExQ_ok [] 2000 plsOk kR1_ok ?_
        (try rw [exh]); simp (maxSteps := 4000000) only [hz, go_sem, ↓bsplit_true, ↓bsplit_false, ↓reduceIte, Nat.reduceLT, Nat.reduceLeDiff, Nat.reduceEqDiff, Nat.reduceAdd, Nat.reduceSub, Nat.reduceMul, Nat.reduceBEq, Nat.reduceBNe, reduceCtorEq, Int.reduceEq, Int.reduceLT, Int.reduceLE, Int.reduceAdd, Int.reduceSub, Int.reduceMul, Int.reduceToNat, ↓xs12]
        repeat (refine And.intro (a := (_ = true)) (by first | (simp; done) | (simp; omega)) ?_)
        exact ObQ.mk [0, 1, 2, 3] (by decide) rfl rfl rfl ⟨rfl, by simp only [renCt, hf.ren]; exact rfl, rfl, by simp only [renCt, hfo.ren]; exact rfl, trivial⟩
      | true =>
        simp only [tK, bK, if_true]
        refine ExQ_ok [] 2000 plsOk kR1_ok ?_
        (try rw [exh]); simp (maxSteps := 4000000) only [hz, go_sem, ↓bsplit_true, ↓bsplit_false, ↓reduceIte, Nat.reduceLT, Nat.reduceLeDiff, Nat.reduceEqDiff, Nat.reduceAdd, Nat.reduceSub, Nat.reduceMul, Nat.reduceBEq, Nat.reduceBNe, reduceCtorEq, Int.reduceEq, Int.reduceLT, Int.reduceLE, Int.reduceAdd, Int.reduceSub, Int.reduceMul, Int.reduceToNat, ↓xs12]
        repeat (refine And.intro (a := (_ = true)) (by first | (simp; done) | (simp; omega)) ?_)
        exact ObQ.mk [0, 3, 4, 5] (by decide) rfl rfl rfl ⟨rfl, by simp only [renCt, hf.ren]; exact rfl, rfl, by simp only [renCt, hfo.ren]; exact rfl, trivial⟩
  obtain ⟨hz, h16⟩ := hgo
  obtain ⟨f, rfl⟩ : ∃ g, f = g + 1 := ⟨f - 1, by split at hm2 <;> omega⟩
  rw [takeR] at h1
  cases e : firstF (out.map (·.id)) P 0 none with
  | none =>
    have e1 : outI (firstF (out.map (·.id)) P 0 none) = -1 := by rw [e]; rfl
    rw [e] at h1
    simp only at h1
    rw [← h1]
    simp only
    cases mv with
    | false =>
      simp only [tK, bK, Bool.false_eq_true, if_false]
      refine ExQ_ok [] 2000 plsOk kR1_ok ?_
      (try rw [exh]); simp (maxSteps := 4000000) only [hz, h16, hlp, hlt, hlo, tko, hfo.lv, hio, hzp, hap, hao, e1, go_sem, ↓bsplit_true, ↓bsplit_false, ↓reduceIte, Nat.reduceLT, Nat.reduceLeDiff, Nat.reduceEqDiff, Nat.reduceAdd, Nat.reduceSub, Nat.reduceMul, Nat.reduceBEq, Nat.reduceBNe, reduceCtorEq, Int.reduceEq, Int.reduceLT, Int.reduceLE, Int.reduceAdd, Int.reduceSub, Int.reduceMul, Int.reduceToNat, ↓xs12]
      repeat (refine And.intro (a := (_ = true)) (by first | (simp; done) | (simp; omega)) ?_)
      exact ObQ.mk [0, 1, 2, 3] (by decide) rfl rfl rfl ⟨rfl, by simp only [renCt, hf.ren]; exact rfl, rfl, by simp only [renCt, hfo.ren]; exact rfl, trivial⟩
    | true =>
      simp only [tK, bK, if_true]
      refine ExQ_ok [] 2000 plsOk kR1_ok ?_
      (try rw [exh]); simp (maxSteps := 4000000) only [hz, h16, hlp, hlt, hlo, tko, hfo.lv, hio, hzp, hap, hao, e1, go_sem, ↓bsplit_true, ↓bsplit_false, ↓reduceIte, Nat.reduceLT, Nat.reduceLeDiff, Nat.reduceEqDiff, Nat.reduceAdd, Nat.reduceSub, Nat.reduceMul, Nat.reduceBEq, Nat.reduceBNe, reduceCtorEq, Int.reduceEq, Int.reduceLT, Int.reduceLE, Int.reduceAdd, Int.reduceSub, Int.reduceMul, Int.reduceToNat, ↓xs12]
      repeat (refine And.intro (a := (_ = true)) (by first | (simp; done) | (simp; omega)) ?_)
      exact ObQ.mk [0, 3, 4, 5] (by decide) rfl rfl rfl ⟨rfl, by simp only [renCt, hf.ren]; exact rfl, rfl, by simp only [renCt, hfo.ren]; exact rfl, trivial⟩
  | some iz =>
    obtain ⟨i, x⟩ := iz
    have e1 : outI (firstF (out.map (·.id)) P 0 none) = (i : Int) := by rw [e]; rfl
    obtain ⟨hx, -, -⟩ := first_all.1 i x e
    rw [e] at h1
    simp only at h1
    clear e
    obtain ⟨hil, hix⟩ := List.getElem?_eq_some_iff.1 hx
    have hi0 : (0 : Int) ≤ i := by omega
    have hi1 : ¬ (i : Int) < 0 := by omega
    have hi2 : (i : Int) < P.length := by omega
    have he := rowM_at hil
    have he2 := told_at hil
    rw [hix] at he he2
    have hxt := h4 x (List.mem_of_getElem? hx)
    have s1 := set_rows hx
    have s2 := set_told (P := P) (i := i) (z := x)
    have s3 := set_at hx
    have s4 : (P.set i x.bump).eraseIdx i = P.eraseIdx i := era_set _
    have hro : (out ++ [x]).map rowM = out.map rowM ++ [rowM x] := by rw [List.map_append]; rfl
    have hrl : ((out ++ [x]).map rowM).length = (out ++ [x]).length := List.length_map _
    have hol : (out ++ [x]).length = out.length + 1 := by simp
    have hfn := flatM (out ++ [x])
    simp only [rowM] at he hro
    have hP2l : (P.set i x.bump).length = P.length := List.length_set
    have hP2t : ∀ t ∈ P.set i x.bump, t = x.bump ∨ t ∈ P := fun t h => (List.mem_or_eq_of_mem_set h).symm
    have zz := zip_map (P.set i x.bump)
    rw [s1] at zz
    have hP2m : ((P.set i x.bump).map (·.told)).length = P.length := by rw [List.length_map, hP2l]
    by_cases hl : lim ≤ x.told + 1
    · rw [if_pos hl] at h1
      have hEl : (P.eraseIdx i).length ≤ P.length := List.length_eraseIdx_le ..
      have hEt : ∀ t ∈ P.eraseIdx i, 0 ≤ t.told ∧ t.told < 1000 := fun t h => h4 t (List.mem_of_mem_eraseIdx h)
      have hfE := flatM (P.eraseIdx i)
      have hEr : ((P.eraseIdx i).map rowM).length = (P.eraseIdx i).length := List.length_map _
      have ih' := ih ⟨(true, f, P.eraseIdx i, out ++ [x]), h1, by simp only [hol]; omega, by simp only; omega, hEt⟩ (by simp only; omega)
      simp only at ih'
      generalize P.set i x.bump = P2 at *
      cases mv with
      | false =>
        simp only [tK, bK, Bool.false_eq_true, if_false]
        refine ExQ_ok [] 2000 plsOk kR1_ok ?_
        (try rw [exh]); simp (maxSteps := 4000000) only [hz, h16, hlp, hlt, hlo, tko, hfo.lv, hfo.ren, hio, hzp, hap, hao, e1, hi0, hi1, hi2, he, he2, s2, s3, s4, hP2l, hP2m, zz, hro.symm, hrl, hlim, hl, hn, hn2, tk_one, hfE.ren, hfE.lv, hEr, go_sem, ↓bsplit_true, ↓bsplit_false, ↓reduceIte, Nat.reduceLT, Nat.reduceLeDiff, Nat.reduceEqDiff, Nat.reduceAdd, Nat.reduceSub, Nat.reduceMul, Nat.reduceBEq, Nat.reduceBNe, reduceCtorEq, Int.reduceEq, Int.reduceLT, Int.reduceLE, Int.reduceAdd, Int.reduceSub, Int.reduceMul, Int.reduceToNat, ↓xs12]
        repeat (refine And.intro (a := (_ = true)) (by first | (simp; done) | (simp; omega)) ?_)
        refine Rch.fit1K hC [0, 1, 2, 6, 7, 5] rfl (tm' := tK true z (out ++ [x]).length) (bl' := bK true n (P.eraseIdx i) (out ++ [x])) rfl (by decide) rfl ⟨rfl, rfl, rfl, trivial⟩ rfl ⟨⟨rfl, rfl⟩, ⟨by simp only [renCt, hfE.ren]; exact rfl, by simp only [lvCt, hfE.lv]⟩, ⟨rfl, rfl⟩, ⟨by simp only [renCt, hfn.ren]; exact rfl, by simp only [lvCt, hfn.lv]⟩, trivial⟩ ?_
        exact ih'
      | true =>
        simp only [tK, bK, if_true]
        refine ExQ_ok [] 2000 plsOk kR1_ok ?_
        (try rw [exh]); simp (maxSteps := 4000000) only [hz, h16, hlp, hlt, hlo, tko, hfo.lv, hfo.ren, hio, hzp, hap, hao, e1, hi0, hi1, hi2, he, he2, s2, s3, s4, hP2l, hP2m, zz, hro.symm, hrl, hlim, hl, hn, hn2, tk_one, hfE.ren, hfE.lv, hEr, go_sem, ↓bsplit_true, ↓bsplit_false, ↓reduceIte, Nat.reduceLT, Nat.reduceLeDiff, Nat.reduceEqDiff, Nat.reduceAdd, Nat.reduceSub, Nat.reduceMul, Nat.reduceBEq, Nat.reduceBNe, reduceCtorEq, Int.reduceEq, Int.reduceLT, Int.reduceLE, Int.reduceAdd, Int.reduceSub, Int.reduceMul, Int.reduceToNat, ↓xs12]
        repeat (refine And.intro (a := (_ = true)) (by first | (simp; done) | (simp; omega)) ?_)
        refine Rch.fit1K hC [0, 1, 2, 8, 9, 7] rfl (tm' := tK true z (out ++ [x]).length) (bl' := bK true n (P.eraseIdx i) (out ++ [x])) rfl (by decide) rfl ⟨rfl, rfl, rfl, trivial⟩ rfl ⟨⟨rfl, rfl⟩, ⟨by simp only [renCt, hfE.ren]; exact rfl, by simp only [lvCt, hfE.lv]⟩, ⟨rfl, rfl⟩, ⟨by simp only [renCt, hfn.ren]; exact rfl, by simp only [lvCt, hfn.lv]⟩, trivial⟩ ?_
        exact ih'
    · rw [if_neg hl] at h1
      have hf2 := flatM (P.set i x.bump)
      have ih' := fun mv' => ih ⟨(mv', f, P.set i x.bump, out ++ [x]), h1, by simp only [hol]; omega, by simp only; omega, fun t h => by
        rcases hP2t t h with rfl | h
        · simp only [Tl.bump]; omega
        · exact h4 t h⟩ (by simp only; omega)
      simp only at ih'
      generalize P.set i x.bump = P2 at *
      cases mv with
      | false =>
        simp only [tK, bK, Bool.false_eq_true, if_false]
        refine ExQ_ok [] 2000 plsOk kR1_ok ?_
        (try rw [exh]); simp (maxSteps := 4000000) only [hz, h16, hlp, hlt, hlo, tko, hfo.lv, hfo.ren, hio, hzp, hap, hao, e1, hi0, hi1, hi2, he, he2, s2, s3, s4, hP2l, hP2m, zz, hro.symm, hrl, hlim, hl, hn, hn2, tk_one, go_sem, ↓bsplit_true, ↓bsplit_false, ↓reduceIte, Nat.reduceLT, Nat.reduceLeDiff, Nat.reduceEqDiff, Nat.reduceAdd, Nat.reduceSub, Nat.reduceMul, Nat.reduceBEq, Nat.reduceBNe, reduceCtorEq, Int.reduceEq, Int.reduceLT, Int.reduceLE, Int.reduceAdd, Int.reduceSub, Int.reduceMul, Int.reduceToNat, ↓xs12]
        repeat (refine And.intro (a := (_ = true)) (by first | (simp; done) | (simp; omega)) ?_)
        refine Rch.fit1K hC [0, 1, 2, 5] rfl (tm' := tK false z (out ++ [x]).length) (bl' := bK false n (P2) (out ++ [x])) rfl (by decide) rfl ⟨rfl, rfl, rfl, trivial⟩ rfl ⟨⟨by rw [hP2l]; rfl, rfl⟩, ⟨by simp only [renCt, hf2.ren, s1, hf.ren]; exact rfl, by simp only [lvCt, hf2.lv]⟩, ⟨rfl, rfl⟩, ⟨by simp only [renCt, hfn.ren]; exact rfl, by simp only [lvCt, hfn.lv]⟩, trivial⟩ ?_
        exact ih' false
      | true =>
        simp only [tK, bK, if_true]
        refine ExQ_ok [] 2000 plsOk kR1_ok ?_
        (try rw [exh]); simp (maxSteps := 4000000) only [hz, h16, hlp, hlt, hlo, tko, hfo.lv, hfo.ren, hio, hzp, hap, hao, e1, hi0, hi1, hi2, he, he2, s2, s3, s4, hP2l, hP2m, zz, hro.symm, hrl, hlim, hl, hn, hn2, tk_one, go_sem, ↓bsplit_true, ↓bsplit_false, ↓reduceIte, Nat.reduceLT, Nat.reduceLeDiff, Nat.reduceEqDiff, Nat.reduceAdd, Nat.reduceSub, Nat.reduceMul, Nat.reduceBEq, Nat.reduceBNe, reduceCtorEq, Int.reduceEq, Int.reduceLT, Int.reduceLE, Int.reduceAdd, Int.reduceSub, Int.reduceMul, Int.reduceToNat, ↓xs12]
        repeat (refine And.intro (a := (_ = true)) (by first | (simp; done) | (simp; omega)) ?_)
        refine Rch.fit1K hC [0, 1, 2, 3, 4, 7] rfl (tm' := tK true z (out ++ [x]).length) (bl' := bK true n (P2) (out ++ [x])) rfl (by decide) rfl ⟨rfl, rfl, rfl, trivial⟩ rfl ⟨⟨by rw [hP2l]; rfl, rfl⟩, ⟨by simp only [renCt, hf2.ren, s1, hf.ren]; exact rfl, by simp only [lvCt, hf2.lv]⟩, ⟨rfl, rfl⟩, ⟨by simp only [renCt, hfn.ren]; exact rfl, by simp only [lvCt, hfn.lv]⟩, trivial⟩ ?_
        exact ih' true
end GS
end Go.Proofs.Ytfnnmkjlokjkhaa
