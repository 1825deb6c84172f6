/- GossipOften: the words of Pick, even. -/
import Derived.Test.YtfnnmkjlokjkhaaGSB
import Derived.Test.YtfnnmkjlokjkhaaOL
set_option linter.unusedSimpArgs false
set_option linter.unusedVariables false
namespace Go.Proofs.Ytfnnmkjlokjkhaa
open Go Go.SY
namespace GS
attribute [local go_sem] Ex stops inK stepF frsF frF itemF codeF condF opsF opsW opF callO drF drO drW drC stepS wtS gdst gdl sopF pv evq orl bltF callF calleeS popF lopF bltP callP cls lvA rdl quiet p_move p_assign p_pick p_nilCheck
attribute [local go_sem] p_binOp p_unOp p_convert p_fieldAddr p_indexAddr p_index p_slice p_makeFunc p_extract p_field p_build p_len p_cap p_min p_max l_load l_convert l_slice zerR roomR appRR roomN appNN cpSrcN clN cpSrc cpR clR e_clear srcR dstR srcN dstN e_store e_alloc e_box e_buildSlice e_makeSlice e_append e_copy
attribute [local go_sem] e_convert SY.get SY.put SY.ev SY.mk SY.nth SY.lvl SY.setl SY.ini wid wids dr tk flat at1 pack parts rdC rdCt wrC wrCt ar bits2 bopInt bopStr bopEq isPtr isSl isBl eqPs eqLf bop pickAV bnd subO cutOf okMx fillA plFs nz
attribute [local go_sem] minI numsAt aOf hd1 hdL immL isArr ctOf rowsOf numsAV rep elCt wrRow killO chR enterS leaveS retS endS exitS gotoS finishS killL isDefs setPs roundS resS resAll tup1 conf0 AV.scal plk spz Ct.cell exq_zero exq_go exq_d exq_n lvCt lvE
attribute [local go_sem] exq_t exq_f exq_t0 exq_f0 List.toList_toArray Bool.and_true Bool.true_and Bool.not_false Bool.not_true List.contains_nil List.contains_cons Bool.or_false Bool.false_or Option.isSome_some Option.isSome_none Option.isNone_none Option.isNone_some true_and and_true Option.some.injEq Bool.false_eq_true List.map_cons List.map_nil List.all_cons List.all_nil Bool.and_self List.drop_succ_cons List.drop_zero List.length_cons List.length_nil List.cons_append List.nil_append Option.map_some Option.map_none List.append_nil Nat.zero_add Nat.add_zero Nat.sub_zero Nat.zero_mul Nat.mul_one
attribute [local go_sem] Int.toNat_natCast Int.toNat_zero Int.toNat_one Int.add_zero Int.sub_zero Int.cast_ofNat_Int decide_true decide_false Option.getD_some Option.getD_none ktB ktX ktOf conK extK ovlK rwz alive alive0 mks noMk lndL lnd lvB lvL lvR lvT tB_tt tB_ft tB_ff okBls shB ren renL renR renCt ne_eq not_false_eq_true not_true_eq_false and_false
attribute [local go_sem] false_and and_self ti0 ti1 ti2 ti3 ti4 ti5 ti6 ti7 ti8 ti9 ti10 ti11 ti12 ti13 ti14 ti15 ti16 ti17 ti18 ti19 ti20 ti21 ti22 ti23 ti24 ti25 ti26 ti27 ti28 ti29 ti30 ti31 ti32 ti33 ti34 ti35 ti36 ti37
attribute [local go_sem] ti38 ti39 ti40 ti41 ti42 ti43 ti44 ti45 ti46 ti47 ti48 ti49 ti50 ti51 ti52 ti53 ti54 ti55 ti56 ti57 ti58 ti59 ti60 ti61 ti62 ti63 ti64 ti65 ti66 ti67 ti68 ti69 ti70 ti71 ti72 ti73 ti74 ti75 ti76 ti77
attribute [local go_sem] ti78 ti79 ti80 ti81 ti82 ti83 ti84 ti85 ti86 ti87 ti88 ti89 ti90 ti91 ti92 ti93 ti94 ti95 ti96 ti97 ti98 ti99 ti100 ti101 ti102 regAt fi22 body22 Try.f22 fi24 body24 Try.f24 r22_1 r22_5 r22_9 r22_10 r22_14 r22_16 r22_18 r24_1
attribute [local go_sem] r24_3 r24_7 r24_13 r24_19 r24_21 r24_17 r24_23 plA3 pl3 plA4 pl4 plA6 pl6 plA11 pl11 plA12 pl12 plA13 pl13 plA14 pl14 plA15 pl15 plA24 pl24 plA30 pl30 plA31 pl31 plA32 pl32 plA33 pl33 plA40 pl40 plA41 pl41 plA42 pl42 plA52
attribute [local go_sem] pl52
def kpick (x n : Int) : Int := if n < 1 then 0 else if x.tmod n < 0 then x.tmod n + n else x.tmod n
def sPick : List AV → Option (Bool × AV × Bls)
  | [.v (.int .i64 x), .v (.int .i64 n)] => some (decide (n ≤ 9223372036854775807), .v (.int .i64 (kpick x n)), [])
  | _ => none
set_option maxRecDepth 100000 in
set_option maxHeartbeats 4000000 in
theorem pick_run (C : Ctx) (x n : Int) (hn : n ≤ 9223372036854775807) : Rch Try.prog (plOf pls) C (conf0 22 ⟨16, [.tmp 4], code22⟩ [.v (.int .i64 x), .v (.int .i64 n)] []) (Res (.v (.int .i64 (kpick x n))) []) := by
  by_cases h : n < 1
  · have e : kpick x n = 0 := by simp [kpick, h]
    refine ExQ_ok [] 2000 plsOk noK ?_
    simp only [conf0]
    (try rw [exh]); simp (maxSteps := 4000000) only [h, go_sem, ↓bsplit_true, ↓bsplit_false, ↓reduceIte, Nat.reduceLT, Nat.reduceLeDiff, Nat.reduceEqDiff, Nat.reduceAdd, Nat.reduceSub, Nat.reduceMul, Nat.reduceBEq, Nat.reduceBNe, reduceCtorEq, Int.reduceEq, Int.reduceLT, Int.reduceLE, Int.reduceAdd, Int.reduceSub, Int.reduceMul, Int.reduceToNat, ↓xs22, ↓xs24]
    repeat (refine And.intro (a := (_ = true)) (by first | (simp; done) | (simp; omega)) ?_)
    rw [e]
    exact Res.val _ _
  have g1 := Int.lt_tmod_of_pos x (b := n) (by omega)
  have g2 := Int.tmod_lt_of_pos x (b := n) (by omega)
  by_cases h2 : x.tmod n < 0
  · have e : kpick x n = x.tmod n + n := by simp [kpick, h, h2]
    refine ExQ_ok [] 2000 plsOk noK ?_
    simp only [conf0]
    (try rw [exh]); simp (maxSteps := 4000000) only [h, h2, go_sem, ↓bsplit_true, ↓bsplit_false, ↓reduceIte, Nat.reduceLT, Nat.reduceLeDiff, Nat.reduceEqDiff, Nat.reduceAdd, Nat.reduceSub, Nat.reduceMul, Nat.reduceBEq, Nat.reduceBNe, reduceCtorEq, Int.reduceEq, Int.reduceLT, Int.reduceLE, Int.reduceAdd, Int.reduceSub, Int.reduceMul, Int.reduceToNat, ↓xs22, ↓xs24]
    repeat (refine And.intro (a := (_ = true)) (by first | (simp; done) | (simp; omega)) ?_)
    rw [e]
    exact Res.val _ _
  · have e : kpick x n = x.tmod n := by simp [kpick, h, h2]
    refine ExQ_ok [] 2000 plsOk noK ?_
    simp only [conf0]
    (try rw [exh]); simp (maxSteps := 4000000) only [h, h2, go_sem, ↓bsplit_true, ↓bsplit_false, ↓reduceIte, Nat.reduceLT, Nat.reduceLeDiff, Nat.reduceEqDiff, Nat.reduceAdd, Nat.reduceSub, Nat.reduceMul, Nat.reduceBEq, Nat.reduceBNe, reduceCtorEq, Int.reduceEq, Int.reduceLT, Int.reduceLE, Int.reduceAdd, Int.reduceSub, Int.reduceMul, Int.reduceToNat, ↓xs22, ↓xs24]
    repeat (refine And.intro (a := (_ = true)) (by first | (simp; done) | (simp; omega)) ?_)
    rw [e]
    exact Res.val _ _
theorem pick_ok : SpecOk Try.prog (plOf pls) 22 sPick := by
  refine ⟨_, fi22, fun args r bl1 h => ?_⟩
  unfold sPick at h
  split at h
  · simp only [Option.some.injEq, Prod.mk.injEq, decide_eq_true_eq] at h
    obtain ⟨h1, rfl, rfl⟩ := h
    exact ⟨by simp, fun C _ _ => pick_run C _ _ h1⟩
  · cases h
theorem pick_lt (x : Int) {n : Int} (hn : 1 ≤ n) : ∃ m : Nat, kpick x n = m ∧ (m : Int) < n := by
  have g1 := Int.lt_tmod_of_pos x (b := n) (by omega)
  have g2 := Int.tmod_lt_of_pos x (b := n) (by omega)
  refine ⟨(kpick x n).toNat, ?_, ?_⟩ <;>
  · unfold kpick
    rw [if_neg (by omega)]
    split <;> omega
def rowB (b : Bool) : List AV := [.v (.bool b)]
def bOf : List AV → Bool
  | [.v (.bool b)] => b
  | _ => false
def isBo : List AV → Bool
  | [.v (.bool _)] => true
  | _ => false
theorem bo_map (th : List Bool) : (th.map rowB).map bOf = th := by
  rw [List.map_map]
  exact (List.map_congr_left (g := id) fun t _ => rfl).trans (List.map_id _)
theorem bo_all (th : List Bool) : (th.map rowB).all isBo = true := by
  rw [List.all_map]
  exact List.all_eq_true.2 fun t _ => rfl
theorem bo_rows {rs : List (List AV)} (h : rs.all isBo = true) : (rs.map bOf).map rowB = rs := by
  rw [List.map_map]
  refine (List.map_congr_left (g := id) fun r hr => ?_).trans (List.map_id _)
  have := List.all_eq_true.1 h r hr
  unfold isBo at this
  split at this
  · rfl
  · cases this
theorem flatB (th : List Bool) : FlatR (th.map rowB) := FlatR.of fun r hr => by
  obtain ⟨t, -, rfl⟩ := List.mem_map.1 hr
  rfl
theorem rowB_at {th : List Bool} {i : Nat} {b : Bool} (h : th[i]? = some b) : (th.map rowB)[i]?.getD [] = [.v (.bool b)] := by
  rw [List.getElem?_map, h]
  rfl
def evB (th : List Bool) (T : List Int) : Bool := decide (th.length = T.length) && (decide (T.length < 1000000) && (T.all (fun x => decide (0 ≤ x) && decide (x < 1073741824)) && (List.range T.length).all fun a => (List.range T.length).all fun b => !(th[a]?.getD false) || (!(th[b]?.getD false) || decide (T[a]?.getD 0 ≤ T[b]?.getD 0 + 1))))
def sEven : List AV → Option (Bool × AV × Bls)
  | [.imr _ 1 rs _, .imn _ .i64 T _] => some (rs.all isBo && evB (rs.map bOf) T, .v (.bool true), [])
  | _ => none
structure EvI (th : List Bool) (T : List Int) (i : Nat) (low high : Int) : Prop where
  l0 : 0 ≤ low
  l1 : low ≤ 1073741824
  h0 : 0 ≤ high
  h1 : high < 1073741824
  or : (low = 1073741824 ∧ high = 0) ∨ ((∃ a, a < i ∧ th[a]? = some true ∧ T[a]? = some low) ∧ ∃ b, b < i ∧ th[b]? = some true ∧ T[b]? = some high)
theorem EvI.step {th : List Bool} {T : List Int} {i : Nat} {low high x : Int} (h : EvI th T i low high) (ht : th[i]? = some true) (hx : T[i]? = some x) (x0 : 0 ≤ x) (x1 : x < 1073741824) : EvI th T (i + 1) (min low x) (max high x) := by
  obtain ⟨a1, a2, a3, a4, a5⟩ := h
  refine ⟨by omega, by omega, by omega, by omega, .inr ⟨?_, ?_⟩⟩
  · by_cases hc : low ≤ x
    · rcases a5 with ⟨rfl, rfl⟩ | ⟨⟨a, b1, b2, b3⟩, -⟩
      · omega
      · exact ⟨a, by omega, b2, by rw [b3]; congr 1; omega⟩
    · exact ⟨i, by omega, ht, by rw [hx]; congr 1; omega⟩
  · by_cases hc : x ≤ high
    · rcases a5 with ⟨rfl, rfl⟩ | ⟨-, b, b1, b2, b3⟩
      · exact ⟨i, by omega, ht, by rw [hx]; congr 1; omega⟩
      · exact ⟨b, by omega, b2, by rw [b3]; congr 1; omega⟩
    · exact ⟨i, by omega, ht, by rw [hx]; congr 1; omega⟩
theorem EvI.skip {th : List Bool} {T : List Int} {i : Nat} {low high : Int} (h : EvI th T i low high) : EvI th T (i + 1) low high := by
  obtain ⟨a1, a2, a3, a4, a5⟩ := h
  refine ⟨a1, a2, a3, a4, a5.imp id fun ⟨⟨a, b1, b2⟩, b, c1, c2⟩ => ⟨⟨a, by omega, b2⟩, b, by omega, c2⟩⟩
theorem EvI.fin {th : List Bool} {T : List Int} {i : Nat} {low high : Int} (h : EvI th T i low high) (he : evB th T = true) (hi : i ≤ T.length) : high ≤ low + 1 := by
  obtain ⟨a1, a2, a3, a4, ⟨rfl, rfl⟩ | ⟨⟨a, b1, b2, b3⟩, b, c1, c2, c3⟩⟩ := h
  · omega
  · simp only [evB, Bool.and_eq_true, List.all_eq_true, List.mem_range] at he
    have := he.2.2.2 b (by omega) a (by omega)
    rw [b2, b3, c2, c3] at this
    simpa using this
def tE (th : List Bool) (T : List Int) (t t2 : Bool) (c c2 : Option Nat) (i : Nat) (low high : Int) : TM := [(7, .v (.int .i64 i)), (6, .v (.int .i64 high)), (5, .v (.int .i64 low)), (1, .imn t2 .i64 T c2), (0, .imr t 1 (th.map rowB) c)]
set_option maxRecDepth 100000 in
set_option maxHeartbeats 4000000 in
theorem even_run (C : Ctx) (hC : C.β.b = []) (th : List Bool) (T : List Int) (t t2 : Bool) (c c2 : Option Nat) (he : evB th T = true) : Rch Try.prog (plOf pls) C (conf0 24 ⟨38, [.tmp 4], code24⟩ [.imr t 1 (th.map rowB) c, .imn t2 .i64 T c2] []) (Res (.v (.bool true)) []) := by
  have hf := flatB th
  have he' := he
  simp only [evB, Bool.and_eq_true, List.all_eq_true, decide_eq_true_eq] at he'
  obtain ⟨hl, hl2, hx, -⟩ := he'
  have hlv : ∀ i low high, lvT 0 true (tE th T t t2 c c2 i low high) = true := fun i low high => by cases t <;> cases t2 <;> simp [tE, lvT, lvB, tB, hf.lv]
  have hlm : (th.map rowB).length = th.length := List.length_map _
  refine ExQ_ok [] 2000 plsOk noK ?_
  simp only [conf0]
  (try rw [exh]); simp (maxSteps := 4000000) only [and_self, go_sem, ↓bsplit_true, ↓bsplit_false, ↓reduceIte, Nat.reduceLT, Nat.reduceLeDiff, Nat.reduceEqDiff, Nat.reduceAdd, Nat.reduceSub, Nat.reduceMul, Nat.reduceBEq, Nat.reduceBNe, reduceCtorEq, Int.reduceEq, Int.reduceLT, Int.reduceLE, Int.reduceAdd, Int.reduceSub, Int.reduceMul, Int.reduceToNat, ↓xs22, ↓xs24]
  repeat (refine And.intro (a := (_ = true)) (by first | (simp; done) | (simp; omega)) ?_)
  refine Rch.loop plsOk ?_
  refine Rch.fit1 hC [] (tm' := tE th T t t2 c c2 0 1073741824 0) (bl' := []) rfl (by decide) rfl ⟨rfl, rfl, rfl, rfl, congrArg (fun x => AV.imr t 1 x c) (hf.ren _).symm, trivial⟩ (hlv _ _ _) trivial ?_
  refine loop_ind plsOk (α := {a : Nat × Int × Int // a.1 ≤ T.length ∧ EvI th T a.1 a.2.1 a.2.2}) (fun a => T.length - a.1.1) (fun a => tE th T t t2 c c2 a.1.1 a.1.2.1 a.1.2.2) (fun _ => []) (fun _ => _) ?_ ⟨(0, 1073741824, 0), Nat.zero_le _, by constructor <;> simp⟩
  rintro ⟨⟨i, low, high⟩, hi, hev⟩ ih
  simp only [tE] at hi hev ih ⊢
  by_cases h : (i : Int) < T.length
  · have hi2 : i < T.length := by omega
    have hxi : T[i]? = some T[i] := List.getElem?_eq_getElem hi2
    have hg : T[i]?.getD 0 = T[i] := by rw [hxi]; rfl
    have hr := hx T[i] (List.getElem_mem _)
    obtain ⟨b, hb⟩ : ∃ b, th[i]? = some b := ⟨_, List.getElem?_eq_getElem (by omega)⟩
    have hbb := rowB_at hb
    cases b with
    | true =>
      have ih' := ih ⟨(i + 1, min low T[i], max high T[i]), by simp only; omega, hev.step hb hxi hr.1 hr.2⟩ (by simp only; omega)
      simp only at ih'
      clear ih hxi hx
      generalize T[i] = x at *
      refine ExQ_ok [] 2000 plsOk noK ?_
      (try rw [exh]); simp (maxSteps := 4000000) only [h, hl, hlm, hbb, hg, go_sem, ↓bsplit_true, ↓bsplit_false, ↓reduceIte, Nat.reduceLT, Nat.reduceLeDiff, Nat.reduceEqDiff, Nat.reduceAdd, Nat.reduceSub, Nat.reduceMul, Nat.reduceBEq, Nat.reduceBNe, reduceCtorEq, Int.reduceEq, Int.reduceLT, Int.reduceLE, Int.reduceAdd, Int.reduceSub, Int.reduceMul, Int.reduceToNat, ↓xs22, ↓xs24]
      repeat (refine And.intro (a := (_ = true)) (by first | (simp; done) | (simp; omega)) ?_)
      refine Rch.fit1 hC [] (tm' := tE th T t t2 c c2 (i + 1) (min low x) (max high x)) (bl' := []) rfl (by decide) rfl ⟨rfl, rfl, rfl, rfl, congrArg (fun x => AV.imr t 1 x c) (hf.ren _).symm, trivial⟩ (hlv _ _ _) trivial ?_
      exact ih'
    | false =>
      have ih' := ih ⟨(i + 1, low, high), by simp only; omega, hev.skip⟩ (by simp only; omega)
      simp only at ih'
      refine ExQ_ok [] 2000 plsOk noK ?_
      (try rw [exh]); simp (maxSteps := 4000000) only [h, hl, hlm, hbb, hg, go_sem, ↓bsplit_true, ↓bsplit_false, ↓reduceIte, Nat.reduceLT, Nat.reduceLeDiff, Nat.reduceEqDiff, Nat.reduceAdd, Nat.reduceSub, Nat.reduceMul, Nat.reduceBEq, Nat.reduceBNe, reduceCtorEq, Int.reduceEq, Int.reduceLT, Int.reduceLE, Int.reduceAdd, Int.reduceSub, Int.reduceMul, Int.reduceToNat, ↓xs22, ↓xs24]
      repeat (refine And.intro (a := (_ = true)) (by first | (simp; done) | (simp; omega)) ?_)
      refine Rch.fit1 hC [] (tm' := tE th T t t2 c c2 (i + 1) low high) (bl' := []) rfl (by decide) rfl ⟨rfl, rfl, rfl, rfl, congrArg (fun x => AV.imr t 1 x c) (hf.ren _).symm, trivial⟩ (hlv _ _ _) trivial ?_
      exact ih'
  · have hle := hev.fin he hi
    have := hev.l0
    have := hev.l1
    refine ExQ_ok [] 2000 plsOk noK ?_
    (try rw [exh]); simp (maxSteps := 4000000) only [h, hle, go_sem, ↓bsplit_true, ↓bsplit_false, ↓reduceIte, Nat.reduceLT, Nat.reduceLeDiff, Nat.reduceEqDiff, Nat.reduceAdd, Nat.reduceSub, Nat.reduceMul, Nat.reduceBEq, Nat.reduceBNe, reduceCtorEq, Int.reduceEq, Int.reduceLT, Int.reduceLE, Int.reduceAdd, Int.reduceSub, Int.reduceMul, Int.reduceToNat, ↓xs22, ↓xs24]
    repeat (refine And.intro (a := (_ = true)) (by first | (simp; done) | (simp; omega)) ?_)
    exact Res.val _ _
theorem even_ok : SpecOk Try.prog (plOf pls) 24 sEven := by
  refine ⟨_, fi24, fun args r bl1 h => ?_⟩
  unfold sEven at h
  split at h
  · rename_i t rs c t2 T c2
    simp only [Option.some.injEq, Prod.mk.injEq, Bool.and_eq_true] at h
    obtain ⟨⟨h1, h2⟩, rfl, rfl⟩ := h
    have := bo_rows h1
    generalize rs.map bOf = th at *
    subst this
    exact ⟨by simp, fun C hC _ => even_run C hC _ _ _ _ _ _ h2⟩
  · cases h
def kO : KT := ktW 5 (conK specT) (ktW 22 (conK sPick) (ktW 24 (conK sEven) kS))
theorem kO_ok : KOk Try.prog (plOf pls) kO := ktW_ok (ktW_ok (ktW_ok kS_ok (conK_ok plsOk even_ok)) (conK_ok plsOk pick_ok)) (conK_ok plsOk (spec_true plsOk kDel_ok known_run))
end GS
end Go.Proofs.Ytfnnmkjlokjkhaa
