/- Frames: the word of Split. -/
import Derived.Test.YtlhjbjpcnncndaaFR5
set_option linter.unusedSimpArgs false
set_option linter.unusedVariables false
namespace Go.Proofs.Ytlhjbjpcnncndaa
open Go Go.SY
attribute [local go_sem] Ex stops inK stepF frsF frF itemF codeF condF opsF opsW opF callO drF drO drW drC stepS wtS gdst gdl sopF pv evq orl bltF callF calleeS popF lopF bltP callP cls lvA rdl quiet p_move p_assign p_pick p_nilCheck
attribute [local go_sem] p_binOp p_unOp p_convert p_fieldAddr p_indexAddr p_index p_slice p_makeFunc p_extract p_field p_build p_len p_cap p_min p_max l_load l_convert l_slice zerR roomR appRR roomN appNN cpSrcN clN cpSrc cpR clR e_clear srcR dstR srcN dstN e_store e_alloc e_box e_buildSlice e_makeSlice e_append e_copy
attribute [local go_sem] e_convert SY.get SY.put SY.ev SY.mk SY.nth SY.lvl SY.setl SY.ini wid wids dr tk flat at1 pack parts rdC rdCt wrC wrCt ar bits2 bopInt bopStr bopEq isPtr isSl isBl eqPs eqLf bop pickAV bnd subO cutOf okMx fillA plFs nz
attribute [local go_sem] minI numsAt aOf hd1 hdL immL isArr ctOf rowsOf numsAV rep elCt wrRow killO chR enterS leaveS retS endS exitS gotoS finishS killL isDefs setPs roundS resS resAll tup1 conf0 AV.scal plk spz Ct.cell exq_zero exq_go exq_d exq_n lvCt lvE
attribute [local go_sem] exq_t exq_f exq_t0 exq_f0 List.toList_toArray Bool.and_true Bool.true_and Bool.not_false Bool.not_true List.contains_nil List.contains_cons Bool.or_false Bool.false_or Option.isSome_some Option.isSome_none Option.isNone_none Option.isNone_some true_and and_true Option.some.injEq Bool.false_eq_true List.map_cons List.map_nil List.all_cons List.all_nil Bool.and_self List.drop_succ_cons List.drop_zero List.length_cons List.length_nil List.cons_append List.nil_append Option.map_some Option.map_none List.append_nil Nat.zero_add Nat.add_zero Nat.sub_zero Nat.zero_mul Nat.mul_one
attribute [local go_sem] Int.toNat_natCast Int.toNat_zero Int.toNat_one Int.add_zero Int.sub_zero Int.cast_ofNat_Int decide_true decide_false Option.getD_some Option.getD_none ktB ktX ktOf conK extK ovlK rwz alive alive0 mks noMk lndL lnd lvB lvL lvR lvT tB_tt tB_ft tB_ff okBls shB ren renL renR renCt ne_eq not_false_eq_true not_true_eq_false and_false
attribute [local go_sem] false_and and_self ti0 ti1 ti2 ti3 ti4 ti5 ti6 ti7 ti8 ti9 ti10 ti11 ti12 ti13 ti14 ti15 ti16 ti17 ti18 ti19 ti20 ti21 ti22 ti23 ti24 ti25 ti26 ti27 ti28 ti29 ti30 ti31 ti32 ti33 ti34 ti35 ti36 ti37
attribute [local go_sem] ti38 ti39 ti40 ti41 ti42 ti43 ti44 ti45 ti46 ti47 ti48 ti49 ti50 ti51 ti52 ti53 ti54 ti55 ti56 ti57 ti58 ti59 ti60 ti61 ti62 ti63 ti64 ti65 ti66 ti67 ti68 ti69 ti70 ti71 ti72 ti73 ti74 ti75 ti76 ti77
attribute [local go_sem] ti78 ti79 ti80 ti81 ti82 ti83 ti84 ti85 ti86 ti87 ti88 ti89 ti90 ti91 ti92 ti93 ti94 ti95 ti96 ti97 ti98 ti99 ti100 ti101 ti102 ti103 ti104 regAt fi37 body37 Try.f37 fi50 body50 Try.f50 fi55 body55 Try.f55 fi42 body42 Try.f42
attribute [local go_sem] r37_1 r37_3 r37_5 r37_9 r37_14 r37_15 r37_19 r37_18 r37_22 r42_1 r42_3 r50_1 r50_3 r55_1 r55_7 r55_11 r55_15 r55_18 r55_22 r55_25 r55_27 plA8 pl8 plA10 pl10 plA11 pl11 plA17 pl17 plA22 pl22 plA25 pl25 plA31 pl31 plA37 pl37 plA45 pl45 plA53
attribute [local go_sem] pl53 plA55 pl55
def recB (b : List Int) : List Int := (b.drop 8).take (getN b)
def stB (b : List Int) : Bool := decide (8 ≤ b.length) && (decide (1 ≤ getN b) && (decide (getN b ≤ 4000) && (decide (8 + getN b ≤ b.length) && decide (crcM 0 (recB b) = getN (b.drop 4)))))
theorem stB_iff {b : List Int} : stB b = true ↔ 8 ≤ b.length ∧ 1 ≤ getN b ∧ getN b ≤ 4000 ∧ 8 + getN b ≤ b.length ∧ crcM 0 (recB b) = getN (b.drop 4) := by
  simp only [stB, Bool.and_eq_true, decide_eq_true_eq]
def splF (b : List Int) : List (List Int) × Nat :=
  if h : stB b = true then (recB b :: (splF (b.drop (8 + getN b))).1, 8 + getN b + (splF (b.drop (8 + getN b))).2) else ([], 0)
termination_by b.length
decreasing_by all_goals (have := stB_iff.1 h; rw [List.length_drop]; omega)
theorem splF_stop {b : List Int} (h : ¬ stB b = true) : splF b = ([], 0) := by rw [splF, dif_neg h]
theorem splF_go {b : List Int} (h : stB b = true) : splF b = (recB b :: (splF (b.drop (8 + getN b))).1, 8 + getN b + (splF (b.drop (8 + getN b))).2) := by rw [splF, dif_pos h]
structure Inv (b : List Int) (p : Nat) (rc : List (List Int)) : Prop where
  le : p ≤ b.length
  few : 9 * rc.length ≤ p
  rcs : rc ++ (splF (b.drop p)).1 = (splF b).1
  at_ : p + (splF (b.drop p)).2 = (splF b).2
theorem Inv.zero (b : List Int) : Inv b 0 [] := ⟨Nat.zero_le _, by simp, by simp, by simp⟩
theorem Inv.step {b : List Int} {p : Nat} {rc : List (List Int)} (h : Inv b p rc) (hs : stB (b.drop p) = true) : Inv b (p + (8 + getN (b.drop p))) (rc ++ [recB (b.drop p)]) := by
  obtain ⟨h1, h2, h3, h4, -⟩ := stB_iff.1 hs
  rw [List.length_drop] at h1 h4
  have e := splF_go hs
  have hr := h.rcs
  have ha := h.at_
  rw [e, List.drop_drop] at hr ha
  refine ⟨by omega, by have := h.few; simp only [List.length_append, List.length_cons, List.length_nil]; omega, ?_, ?_⟩
  · rw [← hr, List.append_assoc]; rfl
  · rw [← ha, Nat.add_assoc]
theorem Inv.stop {b : List Int} {p : Nat} {rc : List (List Int)} (h : Inv b p rc) (hs : ¬ stB (b.drop p) = true) : (splF b).1 = rc ∧ (splF b).2 = p := by
  have hr := h.rcs
  have ha := h.at_
  rw [splF_stop hs] at hr ha
  exact ⟨by rw [← hr, List.append_nil], by rw [← ha]; rfl⟩
theorem b256 {xs : List Int} (h : okN .u8 xs) (i : Nat) : (xs[i]?.getD 0).toNat < 256 := by
  rcases Nat.lt_or_ge i xs.length with hi | hi
  · obtain ⟨c, hc, e⟩ := byte_at h hi
    rw [e]; omega
  · rw [List.getElem?_eq_none hi]; decide
theorem getN_lt {xs : List Int} (h : okN .u8 xs) : getN xs < 4294967296 := by
  have h0 := b256 h 0
  have h1 := b256 h 1
  have h2 := b256 h 2
  have h3 := b256 h 3
  unfold getN le4
  omega
def tSp (p : Nat) : TM := [(3, .v (.int .i64 p)), (0, .yld 4), (1, .ptr 2 0 1 0)]
noncomputable def lpS (t : Bool) (b : List Int) (c : Option Nat) : Ct := .loop .ready none 37 23 [(9, .fn 55 [] [.ptr 2 0 1 0]), (8, .imn t .u8 b c), (5, .ptr 1 0 1 0), (4, .ptr 0 0 1 0), (3, .v (.int .i64 0)), (2, .nil), (0, .imn t .u8 b c)] [10, 11] c37_12 c37_13 3
def rwN (xs : List Int) : List AV := [.imn false .u8 xs none]
theorem rwN_all (rc : List (List Int)) : (rc.map rwN).all isB = true := List.all_eq_true.2 fun r hr => by
  obtain ⟨x, _, rfl⟩ := List.mem_map.1 hr
  rfl
theorem bys_rwN (rc : List (List Int)) : bys (rc.map rwN) = rc := by
  rw [bys, List.map_map]
  exact (List.map_congr_left (g := id) fun x _ => rfl).trans (List.map_id _)
noncomputable def bSp (t : Bool) (b : List Int) (c : Option Nat) (n p : Nat) (rs : List (List AV)) : Bls := [some (.lit [.sl 5 0 1 n none]), some (.lit [.v (.int .i64 p)]), some (.lit [.imn t .u8 b c]), some .defs, some (lpS t b c), some (.rows 1 rs)]
theorem t48 : ((4 : Int).toNat = 4) ∧ ((8 : Int).toNat = 8) := ⟨rfl, rfl⟩
theorem i64_wrap {n : Nat} (h : n < 9223372036854775808) : IntKind.i64.wrap (n : Int) = (n : Int) := by
  simp only [IntKind.wrap, IntKind.bits, IntKind.signed]
  simp
  omega
def splV (b : List Int) : AV := if (splF b).1 = [] then .tup [.nil, .v (.int .i64 0)] else .tup [.sl 0 0 1 (splF b).1.length none, .v (.int .i64 ((splF b).2 : Nat))]
def splL (b : List Int) : Bls := if (splF b).1 = [] then [] else [some (.rows 1 ((splF b).1.map rwN))]
theorem res_nil {b : List Int} (h : Inv b 0 []) (hs : ¬ stB (b.drop 0) = true) (bl : Bls) : Res (splV b) (splL b) (.tup [.nil, .v (.int .i64 0)]) bl := by
  rw [splV, splL, if_pos (h.stop hs).1, if_pos (h.stop hs).1]
  exact ⟨[], List.nodup_nil, rfl, rfl, fun l c h => by simp at h⟩
theorem res_sl {b : List Int} {p : Nat} {rc : List (List Int)} (h : Inv b p rc) (hne : rc ≠ []) (hs : ¬ stB (b.drop p) = true) (n : Nat) (hn : n = rc.length) (x0 x1 x2 x3 x4 : Option Ct) : Res (splV b) (splL b) (.tup [.sl 5 0 1 n none, .v (.int .i64 (p : Nat))]) [x0, x1, x2, x3, x4, some (.rows 1 (rc.map rwN))] := by
  subst hn
  obtain ⟨h1, h2⟩ := h.stop hs
  rw [splV, splL, h1, h2, if_neg hne, if_neg hne]
  refine ⟨[5], by decide, rfl, rfl, fun l c h => ?_⟩
  match l, h with
  | 0, h =>
    simp only [List.getElem?_cons_zero, Option.some.injEq] at h
    subst h
    have hf := isB_flat (rwN_all rc)
    exact congrArg some (congrArg some (by simp only [renCt, hf.ren]))
  | l + 1, h => simp at h
attribute [local go_sem] kGS sSum sGet
set_option maxRecDepth 100000 in
set_option maxHeartbeats 4000000 in
theorem split_go (C : Ctx) (hC : C.β.b = []) (t : Bool) (b : List Int) (hb : okN .u8 b) (hbl : b.length ≤ 1000000000000) (c : Option Nat) (p : Nat) (rc : List (List Int)) (hi : Inv b p rc) (hne : rc ≠ [])
   (ih : ∀ p' rc', Inv b p' rc' → rc' ≠ [] → p < p' → Rch Try.prog (plOf pls) C ⟨[⟨55, 60, tSp p', [.lp c55_4, .blk 0], none, [], []⟩, ⟨37, 23, [(5, .ptr 1 0 1 0), (4, .ptr 0 0 1 0)], [.rf 4, .blk 0, .code c37_8], none, [3], []⟩], bSp t b c rc'.length p' (rc'.map rwN)⟩ (Res (splV b) (splL b))) :
   Rch Try.prog (plOf pls) C ⟨[⟨55, 60, tSp p, [.code c55_4, .lp c55_4, .blk 0], none, [], []⟩, ⟨37, 23, [(5, .ptr 1 0 1 0), (4, .ptr 0 0 1 0)], [.rf 4, .blk 0, .code c37_8], none, [3], []⟩], bSp t b c rc.length p (rc.map rwN)⟩ (Res (splV b) (splL b)) := by
  simp only [tSp, bSp]
  have hfw := hi.few
  have hpl := hi.le
  have hf := isB_flat (rwN_all rc)
  have ht1 : List.take (b.length - p) (b.drop p) = b.drop p := List.take_of_length_le (by rw [List.length_drop]; exact Nat.le_refl _)
  have ht4 : List.take (b.length - (p + 4)) (b.drop (p + 4)) = b.drop (p + 4) := List.take_of_length_le (by rw [List.length_drop]; exact Nat.le_refl _)
  have hN0 := getN_lt (okN_drop hb p)
  have hRl : (recB (b.drop p)).length ≤ b.length := by rw [recB, List.length_take, List.length_drop, List.length_drop]; omega
  have hR0 : List.take (getN (b.drop p)) (b.drop (p + 8)) = recB (b.drop p) := by rw [recB, List.drop_drop]
  have hst := stB_iff (b := b.drop p)
  have hgo := hi.step
  rw [List.drop_drop, List.length_drop] at hst
  generalize hN : getN (b.drop p) = N at *
  generalize hM : getN (b.drop (p + 4)) = M at *
  generalize hR : recB (b.drop p) = R at *
  have hw := i64_wrap (n := N) (by omega)
  have e4 : ((p : Int) + 4).toNat = p + 4 := by omega
  have e8 : ((p : Int) + 8).toNat = p + 8 := by omega
  have eN : ((p : Int) + 8 + (N : Nat)).toNat = p + 8 + N := by omega
  have eS : p + 8 + N - (p + 8) = N := by omega
  by_cases h8 : (p : Int) + 8 ≤ b.length
  case neg =>
    refine ExQ_ok [] 2000 plsOk kGS_ok ?_
    (try rw [exh]); simp (maxSteps := 4000000) only [lpS, h8, ht1, ht4, hN, hM, hR0, hw, e4, e8, eN, eS, go_sem, ↓bsplit_true, ↓bsplit_false, ↓reduceIte, Nat.reduceLT, Nat.reduceLeDiff, Nat.reduceEqDiff, Nat.reduceAdd, Nat.reduceSub, Nat.reduceMul, Nat.reduceBEq, Nat.reduceBNe, reduceCtorEq, Int.reduceEq, Int.reduceLT, Int.reduceLE, Int.reduceAdd, Int.reduceSub, Int.reduceMul, Int.reduceToNat, ↓xs37, ↓xs42, ↓xs50, ↓xs55]
    repeat (refine And.intro (a := (_ = true)) (by first | (simp; done) | (simp; omega)) ?_)
    exact res_sl hi hne (fun h => by have := hst.1 h; omega) _ rfl ..
  by_cases n1 : (4000 : Int) < (N : Nat)
  case pos =>
    refine ExQ_ok [] 2000 plsOk kGS_ok ?_
    (try rw [exh]); simp (maxSteps := 4000000) only [lpS, h8, ht1, ht4, hN, hM, hR0, hw, e4, e8, eN, eS, n1, not_true_eq_false, decide_false, decide_true, Bool.not_false, Bool.not_true, go_sem, ↓bsplit_true, ↓bsplit_false, ↓reduceIte, Nat.reduceLT, Nat.reduceLeDiff, Nat.reduceEqDiff, Nat.reduceAdd, Nat.reduceSub, Nat.reduceMul, Nat.reduceBEq, Nat.reduceBNe, reduceCtorEq, Int.reduceEq, Int.reduceLT, Int.reduceLE, Int.reduceAdd, Int.reduceSub, Int.reduceMul, Int.reduceToNat, ↓xs37, ↓xs42, ↓xs50, ↓xs55]
    repeat (refine And.intro (a := (_ = true)) (by first | (simp; done) | (simp; omega)) ?_)
    exact res_sl hi hne (fun h => by have := hst.1 h; omega) _ rfl ..
  by_cases n2 : (1 : Int) ≤ (N : Nat)
  case neg =>
    refine ExQ_ok [] 2000 plsOk kGS_ok ?_
    (try rw [exh]); simp (maxSteps := 4000000) only [lpS, h8, ht1, ht4, hN, hM, hR0, hw, e4, e8, eN, eS, n1, n2, not_true_eq_false, decide_false, decide_true, Bool.not_false, Bool.not_true, go_sem, ↓bsplit_true, ↓bsplit_false, ↓reduceIte, Nat.reduceLT, Nat.reduceLeDiff, Nat.reduceEqDiff, Nat.reduceAdd, Nat.reduceSub, Nat.reduceMul, Nat.reduceBEq, Nat.reduceBNe, reduceCtorEq, Int.reduceEq, Int.reduceLT, Int.reduceLE, Int.reduceAdd, Int.reduceSub, Int.reduceMul, Int.reduceToNat, ↓xs37, ↓xs42, ↓xs50, ↓xs55]
    repeat (refine And.intro (a := (_ = true)) (by first | (simp; done) | (simp; omega)) ?_)
    exact res_sl hi hne (fun h => by have := hst.1 h; omega) _ rfl ..
  have n4 : ((N : Nat) : Int) ≤ 4000 := by omega
  by_cases n3 : (b.length : Int) < p + 8 + (N : Nat)
  case pos =>
    refine ExQ_ok [] 2000 plsOk kGS_ok ?_
    (try rw [exh]); simp (maxSteps := 4000000) only [lpS, h8, ht1, ht4, hN, hM, hR0, hw, e4, e8, eN, eS, n1, n2, n3, n4, not_true_eq_false, decide_false, decide_true, Bool.not_false, Bool.not_true, go_sem, ↓bsplit_true, ↓bsplit_false, ↓reduceIte, Nat.reduceLT, Nat.reduceLeDiff, Nat.reduceEqDiff, Nat.reduceAdd, Nat.reduceSub, Nat.reduceMul, Nat.reduceBEq, Nat.reduceBNe, reduceCtorEq, Int.reduceEq, Int.reduceLT, Int.reduceLE, Int.reduceAdd, Int.reduceSub, Int.reduceMul, Int.reduceToNat, ↓xs37, ↓xs42, ↓xs50, ↓xs55]
    repeat (refine And.intro (a := (_ = true)) (by first | (simp; done) | (simp; omega)) ?_)
    exact res_sl hi hne (fun h => by have := hst.1 h; omega) _ rfl ..
  by_cases hc : ((crcM 0 R : Nat) : Int) = (M : Nat)
  case neg =>
    refine ExQ_ok [] 2000 plsOk kGS_ok ?_
    (try rw [exh]); simp (maxSteps := 4000000) only [lpS, h8, ht1, ht4, hN, hM, hR0, hw, e4, e8, eN, eS, n1, n2, n3, n4, hc, not_false_eq_true, decide_true, Bool.not_false, Bool.not_true, go_sem, ↓bsplit_true, ↓bsplit_false, ↓reduceIte, Nat.reduceLT, Nat.reduceLeDiff, Nat.reduceEqDiff, Nat.reduceAdd, Nat.reduceSub, Nat.reduceMul, Nat.reduceBEq, Nat.reduceBNe, reduceCtorEq, Int.reduceEq, Int.reduceLT, Int.reduceLE, Int.reduceAdd, Int.reduceSub, Int.reduceMul, Int.reduceToNat, ↓xs37, ↓xs42, ↓xs50, ↓xs55]
    repeat (refine And.intro (a := (_ = true)) (by first | (simp; done) | (simp; omega)) ?_)
    exact res_sl hi hne (fun h => by have := hst.1 h; omega) _ rfl ..
  have n5 : ¬ (p : Int) + (8 + (N : Nat)) ≤ p := by omega
  have htr : List.take R.length R = R := List.take_of_length_le (Nat.le_refl _)
  have hnx := hgo (hst.2 ⟨by omega, by omega, by omega, by omega, by omega⟩)
  have htx : List.take (rc.length) (rc.map rwN) = rc.map rwN := List.take_of_length_le (by rw [List.length_map]; exact Nat.le_refl _)
  have hrl : (rc.map rwN).length = rc.length := List.length_map ..
  have hrw : rc.map rwN ++ [[AV.imn false .u8 R none]] = (rc ++ [R]).map rwN := by rw [List.map_append]; rfl
  have hrl2 : ((rc ++ [R]).map rwN).length = rc.length + 1 := by simp
  have hfn := isB_flat (rwN_all (rc ++ [R]))
  refine ExQ_ok [] 2000 plsOk kGS_ok ?_
  (try rw [exh]); simp (maxSteps := 4000000) only [lpS, h8, ht1, ht4, hN, hM, hR0, hw, e4, e8, eN, eS, n1, n2, n3, n4, n5, hc, htr, htx, hrl, hrw, hrl2, not_true_eq_false, decide_false, Bool.not_false, Bool.not_true, List.drop_zero, List.nil_append, go_sem, ↓bsplit_true, ↓bsplit_false, ↓reduceIte, Nat.reduceLT, Nat.reduceLeDiff, Nat.reduceEqDiff, Nat.reduceAdd, Nat.reduceSub, Nat.reduceMul, Nat.reduceBEq, Nat.reduceBNe, reduceCtorEq, Int.reduceEq, Int.reduceLT, Int.reduceLE, Int.reduceAdd, Int.reduceSub, Int.reduceMul, Int.reduceToNat, ↓xs37, ↓xs42, ↓xs50, ↓xs55]
  repeat (refine And.intro (a := (_ = true)) (by first | (simp; done) | (simp; omega)) ?_)
  refine Rch.fit2 hC [0, 1, 2, 3, 4, 8] (c' := ⟨[⟨55, 60, tSp (p + (8 + N)), _, none, [], []⟩, ⟨37, 23, [(5, .ptr 1 0 1 0), (4, .ptr 0 0 1 0)], _, none, [3], []⟩], bSp t b c (rc.length + 1) (p + (8 + N)) ((rc ++ [R]).map rwN)⟩) ⟨by decide, rfl, ⟨_, _, rfl, .mk' ⟨rfl, rfl, rfl, trivial⟩ rfl rfl rfl rfl (fun l h => by cases h) rfl rfl, _, _, rfl, .mk' ⟨rfl, rfl, trivial⟩ rfl rfl rfl rfl (fun l h => by cases h) rfl rfl, rfl⟩, ⟨⟨rfl, rfl⟩, ⟨rfl, rfl⟩, ⟨rfl, by cases t <;> rfl⟩, ⟨rfl, rfl⟩, ⟨rfl, by cases t <;> rfl⟩, ⟨by simp only [renCt, hfn.ren]; exact rfl, by simp only [lvCt, hfn.lv]⟩, trivial⟩⟩ ?_
  have := ih _ _ hnx (by simp) (by omega)
  rwa [show (rc ++ [R]).length = rc.length + 1 by simp] at this
set_option maxRecDepth 100000 in
set_option maxHeartbeats 4000000 in
theorem split_run (C : Ctx) (hC : C.β.b = []) (t : Bool) (b : List Int) (hb : okN .u8 b) (hbl : b.length ≤ 1000000000000) (c : Option Nat) : Rch Try.prog (plOf pls) C (conf0 37 ⟨23, [.tmp 2, .tmp 3], code37⟩ [.imn t .u8 b c] []) (Res (splV b) (splL b)) := by
  have hi := Inv.zero b
  have ht1 : List.take b.length b = b := List.take_of_length_le (Nat.le_refl _)
  have ht4 : List.take (b.length - 4) (b.drop 4) = b.drop 4 := List.take_of_length_le (by rw [List.length_drop]; exact Nat.le_refl _)
  have hN0 := getN_lt hb
  have hRl : (recB b).length ≤ b.length := by rw [recB, List.length_take, List.length_drop]; omega
  have hR0 : List.take (getN b) (b.drop 8) = recB b := rfl
  have hst := stB_iff (b := b)
  have hgo := hi.step
  have hno : ¬ stB b = true → ∀ bl, Res (splV b) (splL b) (.tup [.nil, .v (.int .i64 0)]) bl := fun h bl => res_nil hi h bl
  simp only [List.drop_zero, Nat.zero_add, List.nil_append] at hgo
  generalize hN : getN b = N at *
  generalize hM : getN (b.drop 4) = M at *
  generalize hR : recB b = R at *
  have hw := i64_wrap (n := N) (by omega)
  have eN : ((8 : Int) + (N : Nat)).toNat = 8 + N := by omega
  have eS : 8 + N - 8 = N := by omega
  refine ExQ_ok [] 2000 plsOk kGS_ok ?_
  simp only [conf0]
  (try rw [exh]); simp (maxSteps := 4000000) only [go_sem, ↓bsplit_true, ↓bsplit_false, ↓reduceIte, Nat.reduceLT, Nat.reduceLeDiff, Nat.reduceEqDiff, Nat.reduceAdd, Nat.reduceSub, Nat.reduceMul, Nat.reduceBEq, Nat.reduceBNe, reduceCtorEq, Int.reduceEq, Int.reduceLT, Int.reduceLE, Int.reduceAdd, Int.reduceSub, Int.reduceMul, Int.reduceToNat, ↓xs37, ↓xs42, ↓xs50, ↓xs55]
  repeat (refine And.intro (a := (_ = true)) (by first | (simp; done) | (simp; omega)) ?_)
  refine Rch.loop plsOk ?_
  by_cases h8 : (8 : Int) ≤ b.length
  case neg =>
    refine ExQ_ok [] 2000 plsOk kGS_ok ?_
    (try rw [exh]); simp (maxSteps := 4000000) only [lpS, ht1, ht4, hN, hM, hR0, hw, eN, eS, List.drop_zero, t48, h8, go_sem, ↓bsplit_true, ↓bsplit_false, ↓reduceIte, Nat.reduceLT, Nat.reduceLeDiff, Nat.reduceEqDiff, Nat.reduceAdd, Nat.reduceSub, Nat.reduceMul, Nat.reduceBEq, Nat.reduceBNe, reduceCtorEq, Int.reduceEq, Int.reduceLT, Int.reduceLE, Int.reduceAdd, Int.reduceSub, Int.reduceMul, Int.reduceToNat, ↓xs37, ↓xs42, ↓xs50, ↓xs55]
    repeat (refine And.intro (a := (_ = true)) (by first | (simp; done) | (simp; omega)) ?_)
    exact hno (fun h => by have := hst.1 h; omega) _
  by_cases n1 : (4000 : Int) < (N : Nat)
  case pos =>
    refine ExQ_ok [] 2000 plsOk kGS_ok ?_
    (try rw [exh]); simp (maxSteps := 4000000) only [lpS, ht1, ht4, hN, hM, hR0, hw, eN, eS, List.drop_zero, t48, h8, n1, not_true_eq_false, decide_false, decide_true, Bool.not_false, Bool.not_true, go_sem, ↓bsplit_true, ↓bsplit_false, ↓reduceIte, Nat.reduceLT, Nat.reduceLeDiff, Nat.reduceEqDiff, Nat.reduceAdd, Nat.reduceSub, Nat.reduceMul, Nat.reduceBEq, Nat.reduceBNe, reduceCtorEq, Int.reduceEq, Int.reduceLT, Int.reduceLE, Int.reduceAdd, Int.reduceSub, Int.reduceMul, Int.reduceToNat, ↓xs37, ↓xs42, ↓xs50, ↓xs55]
    repeat (refine And.intro (a := (_ = true)) (by first | (simp; done) | (simp; omega)) ?_)
    exact hno (fun h => by have := hst.1 h; omega) _
  by_cases n2 : (1 : Int) ≤ (N : Nat)
  case neg =>
    refine ExQ_ok [] 2000 plsOk kGS_ok ?_
    (try rw [exh]); simp (maxSteps := 4000000) only [lpS, ht1, ht4, hN, hM, hR0, hw, eN, eS, List.drop_zero, t48, h8, n1, n2, not_true_eq_false, decide_false, decide_true, Bool.not_false, Bool.not_true, go_sem, ↓bsplit_true, ↓bsplit_false, ↓reduceIte, Nat.reduceLT, Nat.reduceLeDiff, Nat.reduceEqDiff, Nat.reduceAdd, Nat.reduceSub, Nat.reduceMul, Nat.reduceBEq, Nat.reduceBNe, reduceCtorEq, Int.reduceEq, Int.reduceLT, Int.reduceLE, Int.reduceAdd, Int.reduceSub, Int.reduceMul, Int.reduceToNat, ↓xs37, ↓xs42, ↓xs50, ↓xs55]
    repeat (refine And.intro (a := (_ = true)) (by first | (simp; done) | (simp; omega)) ?_)
    exact hno (fun h => by have := hst.1 h; omega) _
  have n4 : ((N : Nat) : Int) ≤ 4000 := by omega
  by_cases n3 : (b.length : Int) < 8 + (N : Nat)
  case pos =>
    refine ExQ_ok [] 2000 plsOk kGS_ok ?_
    (try rw [exh]); simp (maxSteps := 4000000) only [lpS, ht1, ht4, hN, hM, hR0, hw, eN, eS, List.drop_zero, t48, h8, n1, n2, n3, n4, not_true_eq_false, decide_false, decide_true, Bool.not_false, Bool.not_true, go_sem, ↓bsplit_true, ↓bsplit_false, ↓reduceIte, Nat.reduceLT, Nat.reduceLeDiff, Nat.reduceEqDiff, Nat.reduceAdd, Nat.reduceSub, Nat.reduceMul, Nat.reduceBEq, Nat.reduceBNe, reduceCtorEq, Int.reduceEq, Int.reduceLT, Int.reduceLE, Int.reduceAdd, Int.reduceSub, Int.reduceMul, Int.reduceToNat, ↓xs37, ↓xs42, ↓xs50, ↓xs55]
    repeat (refine And.intro (a := (_ = true)) (by first | (simp; done) | (simp; omega)) ?_)
    exact hno (fun h => by have := hst.1 h; omega) _
  by_cases hc : ((crcM 0 R : Nat) : Int) = (M : Nat)
  case neg =>
    refine ExQ_ok [] 2000 plsOk kGS_ok ?_
    (try rw [exh]); simp (maxSteps := 4000000) only [lpS, ht1, ht4, hN, hM, hR0, hw, eN, eS, List.drop_zero, t48, h8, n1, n2, n3, n4, hc, not_false_eq_true, not_true_eq_false, decide_false, decide_true, Bool.not_false, Bool.not_true, go_sem, ↓bsplit_true, ↓bsplit_false, ↓reduceIte, Nat.reduceLT, Nat.reduceLeDiff, Nat.reduceEqDiff, Nat.reduceAdd, Nat.reduceSub, Nat.reduceMul, Nat.reduceBEq, Nat.reduceBNe, reduceCtorEq, Int.reduceEq, Int.reduceLT, Int.reduceLE, Int.reduceAdd, Int.reduceSub, Int.reduceMul, Int.reduceToNat, ↓xs37, ↓xs42, ↓xs50, ↓xs55]
    repeat (refine And.intro (a := (_ = true)) (by first | (simp; done) | (simp; omega)) ?_)
    exact hno (fun h => by have := hst.1 h; omega) _
  have n5 : ¬ (8 : Int) + (N : Nat) ≤ 0 := by omega
  have htr : List.take R.length R = R := List.take_of_length_le (Nat.le_refl _)
  have hnx := hgo (hst.2 ⟨by omega, by omega, by omega, by omega, by omega⟩)
  refine ExQ_ok [] 2000 plsOk kGS_ok ?_
  (try rw [exh]); simp (maxSteps := 4000000) only [lpS, ht1, ht4, hN, hM, hR0, hw, eN, eS, List.drop_zero, t48, h8, n1, n2, n3, n4, n5, hc, htr, Int.zero_add, not_true_eq_false, decide_false, Bool.not_false, Bool.not_true, List.nil_append, go_sem, ↓bsplit_true, ↓bsplit_false, ↓reduceIte, Nat.reduceLT, Nat.reduceLeDiff, Nat.reduceEqDiff, Nat.reduceAdd, Nat.reduceSub, Nat.reduceMul, Nat.reduceBEq, Nat.reduceBNe, reduceCtorEq, Int.reduceEq, Int.reduceLT, Int.reduceLE, Int.reduceAdd, Int.reduceSub, Int.reduceMul, Int.reduceToNat, ↓xs37, ↓xs42, ↓xs50, ↓xs55]
  repeat (refine And.intro (a := (_ = true)) (by first | (simp; done) | (simp; omega)) ?_)
  refine Rch.fit2 hC [0, 1, 2, 3, 4, 7] (c' := ⟨[⟨55, 60, tSp (8 + N), [.lp c55_4, .blk 0], none, [], []⟩, ⟨37, 23, [(5, .ptr 1 0 1 0), (4, .ptr 0 0 1 0)], [.rf 4, .blk 0, .code c37_8], none, [3], []⟩], bSp t b c 1 (8 + N) ([R].map rwN)⟩) ⟨by decide, rfl, ⟨_, _, rfl, .mk' ⟨rfl, rfl, rfl, trivial⟩ rfl rfl rfl rfl (fun l h => by cases h) rfl rfl, _, _, rfl, .mk' ⟨rfl, rfl, trivial⟩ rfl rfl rfl rfl (fun l h => by cases h) rfl rfl, rfl⟩, ⟨⟨rfl, rfl⟩, ⟨rfl, rfl⟩, ⟨rfl, by cases t <;> rfl⟩, ⟨rfl, rfl⟩, ⟨rfl, by cases t <;> rfl⟩, ⟨rfl, rfl⟩, trivial⟩⟩ ?_
  suffices H : ∀ (m p : Nat) (rc : List (List Int)), b.length - p ≤ m → Inv b p rc → rc ≠ [] → Rch Try.prog (plOf pls) C ⟨[⟨55, 60, tSp p, [.lp c55_4, .blk 0], none, [], []⟩, ⟨37, 23, [(5, .ptr 1 0 1 0), (4, .ptr 0 0 1 0)], [.rf 4, .blk 0, .code c37_8], none, [3], []⟩], bSp t b c rc.length p (rc.map rwN)⟩ (Res (splV b) (splL b)) from H _ _ [R] (Nat.le_refl _) hnx (by simp)
  intro m
  induction m with
  | zero =>
    intro p rc hm hi hne
    refine Rch.round plsOk ?_
    exact split_go C hC t b hb hbl c p rc hi hne fun p' rc' hi' hne' hlt => by have := hi'.le; omega
  | succ m ihm =>
    intro p rc hm hi hne
    refine Rch.round plsOk ?_
    exact split_go C hC t b hb hbl c p rc hi hne fun p' rc' hi' hne' hlt => ihm p' rc' (by omega) hi' hne'
end Go.Proofs.Ytlhjbjpcnncndaa
