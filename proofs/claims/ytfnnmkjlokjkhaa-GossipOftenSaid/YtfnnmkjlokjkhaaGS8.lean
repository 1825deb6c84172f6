/- Gossip, the document's: contracts; the word of Limit. -/
import Derived.Test.YtfnnmkjlokjkhaaGS7
set_option linter.unusedSimpArgs false
set_option linter.unusedVariables false
namespace Go.Proofs.Ytfnnmkjlokjkhaa
open Go Go.SY
namespace GS
attribute [local go_sem] Ex stops inK stepF frsF frF itemF codeF condF opsF opsW opF callO drF drO drW drC stepS wtS gdst gdl sopF pv evq orl bltF callF calleeS popF lopF bltP callP cls lvA rdl quiet p_move p_assign p_pick p_nilCheck
attribute [local go_sem] p_binOp p_unOp p_convert p_fieldAddr p_indexAddr p_index p_slice p_makeFunc p_extract p_field p_build p_len p_cap p_min p_max l_load l_convert l_slice zerR roomR appRR roomN appNN cpSrcN clN cpSrc cpR clR e_clear srcR dstR srcN dstN e_store e_alloc e_box e_buildSlice e_makeSlice e_append e_copy
attribute [local go_sem] e_convert SY.get SY.put SY.ev SY.mk SY.nth SY.lvl SY.setl SY.ini wid wids dr tk flat at1 pack parts rdC rdCt wrC wrCt ar bits2 bopInt bopStr bopEq isPtr isSl isBl eqPs eqLf bop pickAV bnd subO cutOf okMx fillA plFs nz
attribute [local go_sem] minI numsAt aOf hd1 hdL immL isArr ctOf rowsOf numsAV rep elCt wrRow killO chR enterS leaveS retS endS exitS gotoS finishS killL isDefs setPs roundS resS resAll tup1 conf0 AV.scal plk spz Ct.cell exq_zero exq_go exq_d exq_n lvCt lvE
attribute [local go_sem] exq_t exq_f exq_t0 exq_f0 List.toList_toArray Bool.and_true Bool.true_and Bool.not_false Bool.not_true List.contains_nil List.contains_cons Bool.or_false Bool.false_or Option.isSome_some Option.isSome_none Option.isNone_none Option.isNone_some true_and and_true Option.some.injEq Bool.false_eq_true List.map_cons List.map_nil List.all_cons List.all_nil Bool.and_self List.drop_succ_cons List.drop_zero List.length_cons List.length_nil List.cons_append List.nil_append Option.map_some Option.map_none List.append_nil Nat.zero_add Nat.add_zero Nat.sub_zero Nat.zero_mul Nat.mul_one
attribute [local go_sem] Int.toNat_natCast Int.toNat_zero Int.toNat_one Int.add_zero Int.sub_zero Int.cast_ofNat_Int decide_true decide_false Option.getD_some Option.getD_none ktB ktX ktOf conK extK ovlK rwz alive alive0 mks noMk lndL lnd lvB lvL lvR lvT tB_tt tB_ft tB_ff okBls shB ren renL renR renCt ne_eq not_false_eq_true not_true_eq_false and_false
attribute [local go_sem] false_and and_self ti0 ti1 ti2 ti3 ti4 ti5 ti6 ti7 ti8 ti9 ti10 ti11 ti12 ti13 ti14 ti15 ti16 ti17 ti18 ti19 ti20 ti21 ti22 ti23 ti24 ti25 ti26 ti27 ti28 ti29 ti30 ti31 ti32 ti33 ti34 ti35 ti36 ti37
attribute [local go_sem] ti38 ti39 ti40 ti41 ti42 ti43 ti44 ti45 ti46 ti47 ti48 ti49 ti50 ti51 ti52 ti53 ti54 ti55 ti56 ti57 ti58 ti59 ti60 ti61 ti62 ti63 ti64 ti65 ti66 ti67 ti68 ti69 ti70 ti71 ti72 ti73 ti74 ti75 ti76 ti77
attribute [local go_sem] ti78 ti79 ti80 ti81 ti82 ti83 ti84 ti85 ti86 ti87 ti88 ti89 ti90 ti91 ti92 ti93 ti94 ti95 ti96 ti97 ti98 ti99 ti100 ti101 ti102 regAt fi19 body19 Try.f19 r19_1 r19_3 r19_7 r19_13 r19_18 r19_17 r19_19 plA3 pl3 plA4 pl4
attribute [local go_sem] plA6 pl6 plA11 pl11 plA12 pl12 plA13 pl13 plA14 pl14 plA15 pl15 plA24 pl24 plA30 pl30 plA31 pl31 plA32 pl32 plA33 pl33 plA40 pl40 plA41 pl41 plA42 pl42 plA52 pl52
theorem layR_ok (n : Int) (P : List Tl) : okBls (layR n P).length (layR n P) = true := by
  have hf := flatM P
  simp [layR, okBls, lvCt, lvB, lvL, hf.lv, lvE]
  and_intros <;> rfl
def isM : List AV → Bool
  | [.v (.int .i64 _), .v (.int .i64 _), .v (.int .i64 _)] => true
  | _ => false
def idOf : List AV → Int
  | .v (.int .i64 a) :: _ => a
  | _ => 0
def telM : List AV → Int → Tl
  | [.v (.int .i64 a), .v (.int .i64 b), .v (.int .i64 c)], d => ⟨a, b, c, d⟩
  | _, d => ⟨0, 0, 0, d⟩
def zipT : List (List AV) → List Int → List Tl
  | r :: rs, x :: xs => telM r x :: zipT rs xs
  | _, _ => []
theorem zip_map : ∀ P : List Tl, zipT (P.map rowM) (P.map (·.told)) = P
  | [] => rfl
  | p :: P => by
    rw [List.map_cons, List.map_cons, zipT, zip_map P]
    rfl
theorem zip_rows : ∀ {rs : List (List AV)} {xs : List Int}, rs.all isM = true → rs.length = xs.length → (zipT rs xs).map rowM = rs ∧ (zipT rs xs).map (·.told) = xs
  | [], [], _, _ => ⟨rfl, rfl⟩
  | [], _ :: _, _, h => by simp at h
  | _ :: _, [], _, h => by simp at h
  | r :: rs, x :: xs, h, hl => by
    rw [List.all_cons, Bool.and_eq_true] at h
    obtain ⟨h1, h2⟩ := zip_rows (xs := xs) h.2 (by simpa using hl)
    rw [zipT, List.map_cons, List.map_cons, h1, h2]
    have h3 := h.1
    unfold isM at h3
    split at h3
    · exact ⟨rfl, rfl⟩
    · cases h3
theorem isM_all (P : List Tl) : (P.map rowM).all isM = true := by
  rw [List.all_map]
  exact List.all_eq_true.2 fun t _ => rfl
theorem idMap (P : List Tl) : (P.map rowM).map idOf = P.map (·.id) := by
  rw [List.map_map]
  exact List.map_congr_left fun t _ => rfl
theorem row_tel {r : List AV} (h : isM r = true) (d : Int) : rowM (telM r d) = r ∧ (telM r d).id = idOf r := by
  unfold isM at h
  split at h
  · exact ⟨rfl, rfl⟩
  · cases h
theorem rows_tel {rs : List (List AV)} (h : rs.all isM = true) : (rs.map (telM · 0)).map rowM = rs ∧ (rs.map (telM · 0)).map (·.id) = rs.map idOf := by
  constructor
  · rw [List.map_map]
    exact (List.map_congr_left (g := id) fun r hr => (row_tel (List.all_eq_true.1 h r hr) 0).1).trans (List.map_id _)
  · rw [List.map_map]
    exact List.map_congr_left fun r hr => (row_tel (List.all_eq_true.1 h r hr) 0).2
def findR (bl : Bls) (l : Nat) : Option (Bool × List Nat × Int × List Tl) := match lvl bl l with
  | some (.lit [.v (.int .i64 n), .sl l1 0 3 n1 none, .sl l2 0 1 n2 none]) => (match lvl bl l1 with
    | some (.rows 3 rs) => (match lvl bl l2 with
      | some (.num .i64 xs) => some (decide (rs.length = n1) && (decide (xs.length = n2) && (decide (n1 = n2) && (rs.all isM && decide [l, l1, l2].Nodup))), [l, l1, l2], n, zipT rs xs)
      | _ => none)
    | _ => none)
  | _ => none
theorem findR_ok {bl : Bls} {l : Nat} {σ : List Nat} {n : Int} {P : List Tl} (h : findR bl l = some (true, σ, n, P)) : σ.Nodup ∧ (σ.all fun l => decide (l < bl.length)) = true ∧ σ.length = (layR n P).length ∧ FitB (nm σ) σ.length bl 0 (layR n P) ∧ 1 ≤ σ.length ∧ nm σ 0 = l := by
  unfold findR at h
  split at h
  · rename_i n l1 n1 l2 n2 e0
    split at h
    · rename_i rs e1
      split at h
      · rename_i xs e2
        simp only [Option.some.injEq, Prod.mk.injEq, Bool.and_eq_true, decide_eq_true_eq] at h
        obtain ⟨⟨rfl, rfl, h1, h2, h3⟩, rfl, rfl, rfl⟩ := h
        obtain ⟨g1, g2⟩ := zip_rows h2 h1
        have hf := flatM (zipT rs xs)
        have hl : (zipT rs xs).length = rs.length := by rw [← List.length_map (f := rowM), g1]
        refine ⟨h3, ?_, rfl, ⟨⟨by rw [hl]; rw [← h1] at e0; exact e0, rfl⟩, ⟨by simp only [renCt, hf.ren]; rw [g1]; exact e1, by simp only [lvCt, hf.lv]⟩, ⟨by rw [g2]; exact e2, rfl⟩, trivial⟩, by simp, rfl⟩
        have := lvl_lt e0; have := lvl_lt e1; have := lvl_lt e2
        simp only [List.all_cons, List.all_nil, Bool.and_true, Bool.and_eq_true, decide_eq_true_eq]
        exact ⟨by assumption, by assumption, by assumption⟩
      · cases h
    · cases h
  · cases h
theorem layR_some (n : Int) (P : List Tl) : ∀ (l : Nat) (x : Option Ct), (layR n P)[l]? = some x → x ≠ none := by
  intro l x hx
  simp only [layR] at hx
  match l with
  | 0 => cases hx; simp
  | 1 => cases hx; simp
  | 2 => cases hx; simp
  | l + 3 => simp at hx
def osFirst : OSpec := fun args bl => match args with
  | [.ptr l 0 3 0, x] => (match findR bl l with
    | some (v1, σ, n, P) => (match lnd (killL σ bl) x with
      | some (v2, x') => (match nilR 3 x' with
        | .imr t 3 rs c => some (v1 && (v2 && (decide (P.length < 100000) && (decide (rs.length < 100000) && rs.all isM))), σ, [.ptr 0 0 3 0, .imr t 3 rs c], layR n P, .v (.int .i64 (outI (firstF (rs.map idOf) P 0 none))), [])
        | _ => none)
      | none => none)
    | none => none)
  | _ => none
theorem osFirst_ok : ReadOk Try.prog (plOf pls) 32 osFirst := by
  intro args bl σ args0 bl0 r1 bl1 hs
  unfold osFirst at hs
  split at hs
  · rename_i l x
    split at hs
    · rename_i v1 σ' n P e
      split at hs
      · rename_i v2 x' e2
        split at hs
        · rename_i t rs c e3
          simp only [Option.some.injEq, Prod.mk.injEq, Bool.and_eq_true, decide_eq_true_eq] at hs
          obtain ⟨⟨rfl, rfl, h1, h2, h3⟩, rfl, rfl, rfl, rfl, rfl⟩ := hs
          obtain ⟨a1, a2, a3, a4, a5, a6⟩ := findR_ok e
          obtain ⟨g1, g2⟩ := rows_tel h3
          have hw := first_word n P (rs.map (telM · 0)) t c h1 (by rw [List.length_map]; exact h2)
          rw [g1, g2] at hw
          refine ⟨hw, ⟨[.ptr 0 0 3 0, x'], ⟨_, _, rfl, .inl ⟨by simp [ren, a6], by simp [lvB]; omega⟩, _, _, rfl, .inr e2, rfl⟩, fun β vs hd => ?_⟩, a1, a2, a3, a4, layR_some n P, layR_ok n P, rfl, by rw [List.append_nil]; exact layR_ok n P⟩
          simp only [DenL] at hd ⊢
          obtain ⟨y0, zs, e4, h4, y1, zs1, e5, h5, h6⟩ := hd
          exact ⟨y0, zs, e4, h4, y1, zs1, e5, by have := nilR_den 3 h5; rwa [e3] at this, h6⟩
        · cases hs
      · cases hs
    · cases hs
  · cases hs
def osWo : OSpec := fun args bl => match args with
  | [.ptr l 0 3 0, .v (.int .i64 i)] => (match findR bl l with
    | some (v1, σ, n, P) => some (v1 && (decide (0 ≤ i) && (decide (i < P.length) && decide (P.length < 100000))), σ, [.ptr 0 0 3 0, .v (.int .i64 (i.toNat : Int))], layR n P, .tup [], layR n (P.eraseIdx i.toNat))
    | none => none)
  | _ => none
theorem osWo_ok : ObjOk Try.prog (plOf pls) 33 1 osWo := by
  intro args bl σ args0 bl0 r1 bl1 hs
  unfold osWo at hs
  split at hs
  · rename_i l i
    split at hs
    · rename_i v1 σ' n P e
      simp only [Option.some.injEq, Prod.mk.injEq, Bool.and_eq_true, decide_eq_true_eq] at hs
      obtain ⟨⟨rfl, h1, h2, h3⟩, rfl, rfl, rfl, rfl, rfl⟩ := hs
      obtain ⟨a1, a2, a3, a4, a5, a6⟩ := findR_ok e
      exact ⟨wo_word n P i.toNat (by omega) h3, ⟨_, ⟨_, _, rfl, .inl ⟨by simp [ren, a6], by simp [lvB]; omega⟩, _, _, rfl, .inl ⟨by simp only [ren]; rw [Int.toNat_of_nonneg h1], rfl⟩, rfl⟩, fun _ _ h => h⟩, a1, a2, a3, a4, a5, by simp [layR], rfl, layR_ok _ _⟩
    · cases hs
  · cases hs
def limF : Nat → Nat → Int
  | 0, _ => 0
  | f + 1, m => if m = 0 then 0 else 3 + limF f (m / 2)
theorem limF_bit : ∀ n : Nat, n < 64 → limF 7 (n + 1) = 3 * bitN ((n : Int) + 1) := by decide
def tL (m : Nat) (o : Int) : TM := [(4, .v (.int .i64 m)), (3, .v (.int .i64 o))]
set_option maxRecDepth 100000 in
set_option maxHeartbeats 4000000 in
theorem lim_word (n : Int) (P : List Tl) (hn : 1 ≤ n) (hn2 : n ≤ 64) : Word Try.prog (plOf pls) 19 [.ptr 0 0 3 0] (layR n P) (ObQ 3 (.v (.int .i64 (3 * bitN n))) (layR n P)) := by
  refine ⟨_, fi19, by simp, fun C hb hC => ?_⟩
  have hC : C.β.b.length = 3 := hC
  have hf := flatM P
  refine ExQ_ok [] 2000 plsOk noK ?_
  simp only [conf0, layR]
  (try rw [exh]); simp (maxSteps := 4000000) only [go_sem, ↓bsplit_true, ↓bsplit_false, ↓reduceIte, Nat.reduceLT, Nat.reduceLeDiff, Nat.reduceEqDiff, Nat.reduceAdd, Nat.reduceSub, Nat.reduceMul, Nat.reduceBEq, Nat.reduceBNe, reduceCtorEq, Int.reduceEq, Int.reduceLT, Int.reduceLE, Int.reduceAdd, Int.reduceSub, Int.reduceMul, Int.reduceToNat, ↓xs19]
  repeat (refine And.intro (a := (_ = true)) (by first | (simp; done) | (simp; omega)) ?_)
  refine Rch.loop plsOk ?_
  obtain ⟨m0, hm0⟩ : ∃ m0 : Nat, n = (m0 : Int) + 1 := ⟨(n - 1).toNat, by omega⟩
  have hb0 := limF_bit m0 (by omega)
  rw [← hm0] at hb0
  obtain ⟨B, hB⟩ : ∃ B, 3 * bitN n = B := ⟨_, rfl⟩
  rw [hB] at hb0 ⊢
  refine Rch.fit1K hC [0, 1, 2] rfl (tm' := tL (m0 + 1) 0) (bl' := layR n P) rfl (by decide) rfl ⟨by rw [hm0]; rfl, rfl, trivial⟩ rfl ⟨⟨rfl, rfl⟩, ⟨by simp only [renCt, hf.ren]; exact rfl, by simp only [lvCt, hf.lv]⟩, ⟨rfl, rfl⟩, trivial⟩ ?_
  refine loop_ind plsOk (α := {a : Nat × Nat × Int // a.2.1 < 2 ^ a.1 ∧ a.1 ≤ 7 ∧ 0 ≤ a.2.2 ∧ a.2.2 + 3 * (a.1 : Int) ≤ 21 ∧ a.2.2 + limF a.1 a.2.1 = B}) (fun a => a.1.1) (fun a => tL a.1.2.1 a.1.2.2) (fun _ => layR n P) (fun _ => ObQ 3 (.v (.int .i64 B)) (layR n P)) ?_ ⟨(7, m0 + 1, 0), by simp only; omega, by simp only; omega, by simp only; omega, by simp only; omega, by simp only; omega⟩
  clear hm0 hb0 hB
  rintro ⟨⟨f, m, o⟩, h1, h2, h3, h4, h5⟩ ih
  simp only [tL, layR] at h1 h2 h3 h4 h5 ih ⊢
  by_cases h : (0 : Int) < m
  · obtain ⟨f, rfl⟩ : ∃ g, f = g + 1 := ⟨f - 1, by
      rcases f with _ | f
      · simp at h1; omega
      · omega⟩
    have hq : (m : Int).tdiv 2 = ((m / 2 : Nat) : Int) := rfl
    rw [limF, if_neg (by omega)] at h5
    have hm7 : m < 256 := Nat.lt_of_lt_of_le h1 (Nat.pow_le_pow_right (by omega) (by omega : f + 1 ≤ 8))
    have hw : IntKind.i64.wrap ((m / 2 : Nat) : Int) = ((m / 2 : Nat) : Int) := by
      have hu : m / 2 < 256 := by omega
      clear h5 hq
      generalize m / 2 = u at *
      simp [IntKind.wrap, IntKind.signed, IntKind.bits]
      split <;> omega
    refine ExQ_ok [] 2000 plsOk noK ?_
    (try rw [exh]); simp (maxSteps := 4000000) only [h, hq, hw, go_sem, ↓bsplit_true, ↓bsplit_false, ↓reduceIte, Nat.reduceLT, Nat.reduceLeDiff, Nat.reduceEqDiff, Nat.reduceAdd, Nat.reduceSub, Nat.reduceMul, Nat.reduceBEq, Nat.reduceBNe, reduceCtorEq, Int.reduceEq, Int.reduceLT, Int.reduceLE, Int.reduceAdd, Int.reduceSub, Int.reduceMul, Int.reduceToNat, ↓xs19]
    repeat (refine And.intro (a := (_ = true)) (by first | (simp; done) | (simp; omega)) ?_)
    refine Rch.fit1K hC [0, 1, 2] rfl (tm' := tL (m / 2) (o + 3)) (bl' := layR n P) rfl (by decide) rfl ⟨rfl, rfl, trivial⟩ rfl ⟨⟨rfl, rfl⟩, ⟨by simp only [renCt, hf.ren]; exact rfl, by simp only [lvCt, hf.lv]⟩, ⟨rfl, rfl⟩, trivial⟩ ?_
    exact ih ⟨(f, m / 2, o + 3), by simp only; rw [Nat.pow_succ] at h1; omega, by simp only; omega, by simp only; omega, by simp only; omega, by simp only; omega⟩ (by simp only; omega)
  · have hm : m = 0 := by omega
    have : o = B := by
      rw [hm] at h5
      cases f with
      | zero => rw [limF] at h5; omega
      | succ f => rw [limF, if_pos rfl] at h5; omega
    subst this
    refine ExQ_ok [] 2000 plsOk noK ?_
    (try rw [exh]); simp (maxSteps := 4000000) only [h, go_sem, ↓bsplit_true, ↓bsplit_false, ↓reduceIte, Nat.reduceLT, Nat.reduceLeDiff, Nat.reduceEqDiff, Nat.reduceAdd, Nat.reduceSub, Nat.reduceMul, Nat.reduceBEq, Nat.reduceBNe, reduceCtorEq, Int.reduceEq, Int.reduceLT, Int.reduceLE, Int.reduceAdd, Int.reduceSub, Int.reduceMul, Int.reduceToNat, ↓xs19]
    repeat (refine And.intro (a := (_ = true)) (by first | (simp; done) | (simp; omega)) ?_)
    exact ObQ.mk [0, 1, 2] (by decide) rfl rfl rfl ⟨rfl, by simp only [renCt, hf.ren]; exact rfl, rfl, trivial⟩
def osLim : OSpec := fun args bl => match args with
  | [.ptr l 0 3 0] => (match findR bl l with
    | some (v1, σ, n, P) => some (v1 && (decide (1 ≤ n) && decide (n ≤ 64)), σ, [.ptr 0 0 3 0], layR n P, .v (.int .i64 (3 * bitN n)), [])
    | none => none)
  | _ => none
theorem osLim_ok : ReadOk Try.prog (plOf pls) 19 osLim := by
  intro args bl σ args0 bl0 r1 bl1 hs
  unfold osLim at hs
  split at hs
  · rename_i l
    split at hs
    · rename_i v1 σ' n P e
      simp only [Option.some.injEq, Prod.mk.injEq, Bool.and_eq_true, decide_eq_true_eq] at hs
      obtain ⟨⟨rfl, h1, h2⟩, rfl, rfl, rfl, rfl, rfl⟩ := hs
      obtain ⟨a1, a2, a3, a4, a5, a6⟩ := findR_ok e
      exact ⟨by rw [List.append_nil]; exact lim_word n P h1 h2, ⟨_, ⟨_, _, rfl, .inl ⟨by simp [ren, a6], by simp [lvB]; omega⟩, rfl⟩, fun _ _ h => h⟩, a1, a2, a3, a4, layR_some n P, layR_ok n P, rfl, by rw [List.append_nil]; exact layR_ok n P⟩
    · cases hs
  · cases hs
def kR1 : KT := ktO 33 1 osWo (ktW 32 (readK osFirst) (ktW 19 (readK osLim) (ktW 36 (conK sChk) (ktW 37 (conK sOver) kG0))))
theorem kR1_ok : KOk Try.prog (plOf pls) kR1 := ktO_ok plsOk (ktW_ok (ktW_ok (ktW_ok (ktW_ok kG0_ok (conK_ok plsOk rover_ok)) (conK_ok plsOk rchk_ok)) (readK_ok plsOk ⟨_, fi19⟩ osLim_ok)) (readK_ok plsOk ⟨_, fi32⟩ osFirst_ok)) ⟨_, fi33⟩ osWo_ok
end GS
end Go.Proofs.Ytfnnmkjlokjkhaa
