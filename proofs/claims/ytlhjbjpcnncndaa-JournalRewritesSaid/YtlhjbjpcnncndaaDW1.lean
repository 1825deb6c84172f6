/- Disks: what one is in memory; the words of Append, Next. -/
import Derived.Test.YtlhjbjpcnncndaaKB
set_option linter.unusedSimpArgs false
set_option linter.unusedVariables false
namespace Go.Proofs.Ytlhjbjpcnncndaa
open Go Go.SY
namespace DW
attribute [local go_sem] Ex stops inK stepF frsF frF itemF codeF condF opsF opsW opF callO drF drO drW drC stepS wtS gdst gdl sopF pv evq orl bltF callF calleeS popF lopF bltP callP cls lvA rdl quiet p_move p_assign p_pick p_nilCheck
attribute [local go_sem] p_binOp p_unOp p_convert p_fieldAddr p_indexAddr p_index p_slice p_makeFunc p_extract p_field p_build p_len p_cap p_min p_max l_load l_convert l_slice zerR roomR appRR roomN appNN cpSrcN clN cpSrc cpR clR e_clear srcR dstR srcN dstN e_store e_alloc e_box e_buildSlice e_makeSlice e_append e_copy
attribute [local go_sem] e_convert SY.get SY.put SY.ev SY.mk SY.nth SY.lvl SY.setl SY.ini wid wids dr tk flat at1 pack parts rdC rdCt wrC wrCt ar bits2 bopInt bopStr bopEq isPtr isSl isBl eqPs eqLf bop pickAV bnd subO cutOf okMx fillA plFs nz
attribute [local go_sem] minI numsAt aOf hd1 hdL immL isArr ctOf rowsOf numsAV rep elCt wrRow killO chR enterS leaveS retS endS exitS gotoS finishS killL isDefs setPs roundS resS resAll tup1 conf0 AV.scal plk spz Ct.cell exq_zero exq_go exq_d exq_n lvCt lvE
attribute [local go_sem] exq_t exq_f exq_t0 exq_f0 List.toList_toArray Bool.and_true Bool.true_and Bool.not_false Bool.not_true List.contains_nil List.contains_cons Bool.or_false Bool.false_or Option.isSome_some Option.isSome_none Option.isNone_none Option.isNone_some true_and and_true Option.some.injEq Bool.false_eq_true List.map_cons List.map_nil List.all_cons List.all_nil Bool.and_self List.drop_succ_cons List.drop_zero List.length_cons List.length_nil List.cons_append List.nil_append Option.map_some Option.map_none List.append_nil Nat.zero_add Nat.add_zero Nat.sub_zero Nat.zero_mul Nat.mul_one
attribute [local go_sem] Int.toNat_natCast Int.toNat_zero Int.toNat_one Int.add_zero Int.sub_zero Int.cast_ofNat_Int decide_true decide_false Option.getD_some Option.getD_none ktB ktX ktOf conK extK ovlK rwz alive alive0 mks noMk lndL lnd lvB lvL lvR lvT tB_tt tB_ft tB_ff okBls shB ren renL renR renCt ne_eq not_false_eq_true not_true_eq_false and_false
attribute [local go_sem] false_and and_self ti0 ti1 ti2 ti3 ti4 ti5 ti6 ti7 ti8 ti9 ti10 ti11 ti12 ti13 ti14 ti15 ti16 ti17 ti18 ti19 ti20 ti21 ti22 ti23 ti24 ti25 ti26 ti27 ti28 ti29 ti30 ti31 ti32 ti33 ti34 ti35 ti36 ti37
attribute [local go_sem] ti38 ti39 ti40 ti41 ti42 ti43 ti44 ti45 ti46 ti47 ti48 ti49 ti50 ti51 ti52 ti53 ti54 ti55 ti56 ti57 ti58 ti59 ti60 ti61 ti62 ti63 ti64 ti65 ti66 ti67 ti68 ti69 ti70 ti71 ti72 ti73 ti74 ti75 ti76 ti77
attribute [local go_sem] ti78 ti79 ti80 ti81 ti82 ti83 ti84 ti85 ti86 ti87 ti88 ti89 ti90 ti91 ti92 ti93 ti94 ti95 ti96 ti97 ti98 ti99 ti100 ti101 ti102 ti103 ti104 regAt fi26 body26 Try.f26 fi32 body32 Try.f32 fi45 body45 Try.f45 fi40 body40 Try.f40
attribute [local go_sem] fi52 body52 Try.f52 fi53 body53 Try.f53 fi54 code54 Try.f54 r26_1 r26_5 r26_9 r26_10 r32_1 r32_5 r32_9 r32_10 r40_1 r40_3 r45_1 r45_6 r45_11 r45_12 r45_17 r45_18 r45_22 r45_23 r52_1 r52_3 r52_5 r52_7 r52_11 r52_15 r52_17 r52_18 r52_22 r52_24 r52_26 r53 plA8
attribute [local go_sem] pl8 plA10 pl10 plA11 pl11 plA17 pl17 plA22 pl22 plA25 pl25 plA31 pl31 plA37 pl37 plA45 pl45 plA53 pl53 plA55 pl55
theorem plsOk : PlOk Try.prog (plOf pls) := KB.plsOk
theorem noK : KOk Try.prog (plOf pls) (fun _ => none) := fun g c h => by cases h
structure DS where
  l : List Int
  f : Int
  x : List Int
  xf : Int
  room : Int
  n : Int
  u : Option Int
  out : Bool
def fuP : Option Int → AV
  | none => .v (.pointer none)
  | some _ => .ptr 3 0 1 0
def fuL : Option Int → Bls
  | none => []
  | some k => [some (.lit [.v (.int .i64 k)])]
def layD (s : DS) : Bls := some (.lit [.sl 1 0 1 s.l.length none, .v (.int .i64 s.f), .sl 2 0 1 s.x.length none, .v (.int .i64 s.xf), .v (.int .i64 s.room), .v (.int .i64 s.n), fuP s.u, .v (.bool s.out), .v (.bool true)]) :: some (.num .u8 s.l) :: some (.num .u8 s.x) :: fuL s.u
def findD (bl : Bls) (l : Nat) : Option (Bool × List Nat × DS) := match lvl bl l with
  | some (.lit [.sl l1 0 1 n1 none, .v (.int .i64 f), .sl l2 0 1 n2 none, .v (.int .i64 xf), .v (.int .i64 room), .v (.int .i64 n), fu, .v (.bool out), .v (.bool true)]) => (match lvl bl l1 with
    | some (.num .u8 xs) => (match lvl bl l2 with
      | some (.num .u8 ys) => (match fu with
        | .v (.pointer none) => some (decide (xs.length = n1) && (decide (ys.length = n2) && decide [l, l1, l2].Nodup), [l, l1, l2], ⟨xs, f, ys, xf, room, n, none, out⟩)
        | .ptr l3 0 1 0 => (match lvl bl l3 with
          | some (.lit [.v (.int .i64 k)]) => some (decide (xs.length = n1) && (decide (ys.length = n2) && decide [l, l1, l2, l3].Nodup), [l, l1, l2, l3], ⟨xs, f, ys, xf, room, n, some k, out⟩)
          | _ => none)
        | _ => none)
      | _ => none)
    | _ => none)
  | _ => none
theorem lvl_lt {bl : Bls} {l : Nat} {c : Ct} (h : lvl bl l = some c) : l < bl.length := (List.getElem?_eq_some_iff.1 (lvl_get h)).1
theorem findD_ok {bl : Bls} {l : Nat} {σ : List Nat} {s : DS} (h : findD bl l = some (true, σ, s)) : σ.Nodup ∧ (σ.all fun l => decide (l < bl.length)) = true ∧ σ.length = (layD s).length ∧ FitB (nm σ) σ.length bl 0 (layD s) ∧ 1 ≤ σ.length ∧ nm σ 0 = l := by
  unfold findD at h
  split at h
  · rename_i l1 n1 f l2 n2 xf room n fu out e0
    split at h
    · rename_i xs e1
      split at h
      · rename_i ys e2
        split at h
        · simp only [Option.some.injEq, Prod.mk.injEq, Bool.and_eq_true, decide_eq_true_eq] at h
          obtain ⟨⟨rfl, rfl, h3⟩, rfl, rfl⟩ := h
          refine ⟨h3, ?_, rfl, ⟨⟨e0, rfl⟩, ⟨e1, rfl⟩, ⟨e2, rfl⟩, trivial⟩, by simp, rfl⟩
          have := lvl_lt e0; have := lvl_lt e1; have := lvl_lt e2
          simp only [List.all_cons, List.all_nil, Bool.and_true, Bool.and_eq_true, decide_eq_true_eq]
          exact ⟨by assumption, by assumption, by assumption⟩
        · rename_i l3
          split at h
          · rename_i k e3
            simp only [Option.some.injEq, Prod.mk.injEq, Bool.and_eq_true, decide_eq_true_eq] at h
            obtain ⟨⟨rfl, rfl, h3⟩, rfl, rfl⟩ := h
            refine ⟨h3, ?_, rfl, ⟨⟨e0, rfl⟩, ⟨e1, rfl⟩, ⟨e2, rfl⟩, ⟨e3, rfl⟩, trivial⟩, by simp, rfl⟩
            have := lvl_lt e0; have := lvl_lt e1; have := lvl_lt e2; have := lvl_lt e3
            simp only [List.all_cons, List.all_nil, Bool.and_true, Bool.and_eq_true, decide_eq_true_eq]
            exact ⟨by assumption, by assumption, by assumption, by assumption⟩
          · cases h
        · cases h
      · cases h
    · cases h
  · cases h
def dLay (nx : Bool) (s : DS) (b : List Int) : Int × DS :=
  if s.out = true then (11, s) else if s.room < s.l.length + s.x.length + b.length then (8, s) else
  match s.u with
  | none => (0, ⟨if nx then s.l else s.l ++ b, s.f, if nx then s.x ++ b else s.x, s.xf, s.room, s.n + 1, none, false⟩)
  | some k => if k = 0 then (11, ⟨if nx then s.l else s.l ++ b, s.f, if nx then s.x ++ b else s.x, s.xf, s.room, s.n + 1, some 0, true⟩)
    else (0, ⟨if nx then s.l else s.l ++ b, s.f, if nx then s.x ++ b else s.x, s.xf, s.room, s.n + 1, some (k - 1), false⟩)
def fuOk : Option Int → Bool
  | none => true
  | some k => decide (0 ≤ k) && decide (k ≤ 9223372036854775807)
def numOk (s : DS) : Bool := decide (0 ≤ s.n) && (decide (s.n < 4611686018427387904) && (decide (s.l.length + s.x.length ≤ 70368744177664) && (decide (0 ≤ s.f) && (decide (s.f ≤ s.l.length) && fuOk s.u))))
theorem take_self (xs : List Int) : xs.take xs.length = xs := List.take_of_length_le (Nat.le_refl _)
set_option maxRecDepth 100000 in
set_option maxHeartbeats 4000000 in
theorem app_word (s : DS) (t : Bool) (b : List Int) (c : Option Nat) (hs : numOk s = true) (hb : b.length ≤ 1000000000) : Word Try.prog (plOf pls) 26 [.ptr 0 0 9 0, .imn t .u8 b c] (layD s) (ObQ 1 (.v (.int .i64 (dLay false s b).1)) (layD (dLay false s b).2)) := by
  obtain ⟨l, f, x, xf, room, n, u, out⟩ := s
  simp only [numOk, Bool.and_eq_true, decide_eq_true_eq] at hs
  obtain ⟨hn0, hn1, hlx, hf0, hf1, hu⟩ := hs
  refine ⟨_, fi26, by simp, fun C hC hl => ?_⟩
  cases out with
  | true =>
    have e : dLay false ⟨l, f, x, xf, room, n, u, true⟩ b = (11, ⟨l, f, x, xf, room, n, u, true⟩) := by simp [dLay]
    rw [e]
    cases u with
    | none =>
      refine ExQ_ok [] 2000 plsOk noK ?_
      simp only [conf0, layD, fuP, fuL]
      (try rw [exh]); simp (maxSteps := 4000000) only [go_sem, ↓bsplit_true, ↓bsplit_false, ↓reduceIte, Nat.reduceLT, Nat.reduceLeDiff, Nat.reduceEqDiff, Nat.reduceAdd, Nat.reduceSub, Nat.reduceMul, Nat.reduceBEq, Nat.reduceBNe, reduceCtorEq, Int.reduceEq, Int.reduceLT, Int.reduceLE, Int.reduceAdd, Int.reduceSub, Int.reduceMul, Int.reduceToNat, ↓xs26, ↓xs32, ↓xs40, ↓xs45, ↓xs52, ↓xs53]
      repeat (refine And.intro (a := (_ = true)) (by first | (simp; done) | (simp; omega)) ?_)
      exact ObQ.mk [0, 1, 2] (by decide) rfl rfl rfl ⟨rfl, rfl, rfl, trivial⟩
    | some k =>
      refine ExQ_ok [] 2000 plsOk noK ?_
      simp only [conf0, layD, fuP, fuL]
      (try rw [exh]); simp (maxSteps := 4000000) only [go_sem, ↓bsplit_true, ↓bsplit_false, ↓reduceIte, Nat.reduceLT, Nat.reduceLeDiff, Nat.reduceEqDiff, Nat.reduceAdd, Nat.reduceSub, Nat.reduceMul, Nat.reduceBEq, Nat.reduceBNe, reduceCtorEq, Int.reduceEq, Int.reduceLT, Int.reduceLE, Int.reduceAdd, Int.reduceSub, Int.reduceMul, Int.reduceToNat, ↓xs26, ↓xs32, ↓xs40, ↓xs45, ↓xs52, ↓xs53]
      repeat (refine And.intro (a := (_ = true)) (by first | (simp; done) | (simp; omega)) ?_)
      exact ObQ.mk [0, 1, 2, 3] (by decide) rfl rfl rfl ⟨rfl, rfl, rfl, rfl, trivial⟩
  | false =>
    by_cases hr : room < (l.length : Int) + x.length + b.length
    · have e : dLay false ⟨l, f, x, xf, room, n, u, false⟩ b = (8, ⟨l, f, x, xf, room, n, u, false⟩) := by simp [dLay, hr]
      rw [e]
      cases u with
      | none =>
        refine ExQ_ok [] 2000 plsOk noK ?_
        simp only [conf0, layD, fuP, fuL]
        (try rw [exh]); simp (maxSteps := 4000000) only [hr, go_sem, ↓bsplit_true, ↓bsplit_false, ↓reduceIte, Nat.reduceLT, Nat.reduceLeDiff, Nat.reduceEqDiff, Nat.reduceAdd, Nat.reduceSub, Nat.reduceMul, Nat.reduceBEq, Nat.reduceBNe, reduceCtorEq, Int.reduceEq, Int.reduceLT, Int.reduceLE, Int.reduceAdd, Int.reduceSub, Int.reduceMul, Int.reduceToNat, ↓xs26, ↓xs32, ↓xs40, ↓xs45, ↓xs52, ↓xs53]
        repeat (refine And.intro (a := (_ = true)) (by first | (simp; done) | (simp; omega)) ?_)
        exact ObQ.mk [0, 1, 2] (by decide) rfl rfl rfl ⟨rfl, rfl, rfl, trivial⟩
      | some k =>
        refine ExQ_ok [] 2000 plsOk noK ?_
        simp only [conf0, layD, fuP, fuL]
        (try rw [exh]); simp (maxSteps := 4000000) only [hr, go_sem, ↓bsplit_true, ↓bsplit_false, ↓reduceIte, Nat.reduceLT, Nat.reduceLeDiff, Nat.reduceEqDiff, Nat.reduceAdd, Nat.reduceSub, Nat.reduceMul, Nat.reduceBEq, Nat.reduceBNe, reduceCtorEq, Int.reduceEq, Int.reduceLT, Int.reduceLE, Int.reduceAdd, Int.reduceSub, Int.reduceMul, Int.reduceToNat, ↓xs26, ↓xs32, ↓xs40, ↓xs45, ↓xs52, ↓xs53]
        repeat (refine And.intro (a := (_ = true)) (by first | (simp; done) | (simp; omega)) ?_)
        exact ObQ.mk [0, 1, 2, 3] (by decide) rfl rfl rfl ⟨rfl, rfl, rfl, rfl, trivial⟩
    · have tl := take_self l
      have tx := take_self x
      cases u with
      | none =>
        have e : dLay false ⟨l, f, x, xf, room, n, none, false⟩ b = (0, ⟨l ++ b, f, x, xf, room, n + 1, none, false⟩) := by simp [dLay, hr]
        rw [e]
        refine ExQ_ok [] 2000 plsOk noK ?_
        simp only [conf0, layD, fuP, fuL]
        (try rw [exh]); simp (maxSteps := 4000000) only [hr, tl, tx, go_sem, ↓bsplit_true, ↓bsplit_false, ↓reduceIte, Nat.reduceLT, Nat.reduceLeDiff, Nat.reduceEqDiff, Nat.reduceAdd, Nat.reduceSub, Nat.reduceMul, Nat.reduceBEq, Nat.reduceBNe, reduceCtorEq, Int.reduceEq, Int.reduceLT, Int.reduceLE, Int.reduceAdd, Int.reduceSub, Int.reduceMul, Int.reduceToNat, ↓xs26, ↓xs32, ↓xs40, ↓xs45, ↓xs52, ↓xs53]
        repeat (refine And.intro (a := (_ = true)) (by first | (simp; done) | (simp; omega)) ?_)
        exact ObQ.mk [0, 5, 2] (by decide) rfl rfl rfl ⟨rfl, rfl, rfl, trivial⟩
      | some k =>
        simp only [fuOk, Bool.and_eq_true, decide_eq_true_eq] at hu
        by_cases hk : k = 0
        · subst hk
          have e : dLay false ⟨l, f, x, xf, room, n, some 0, false⟩ b = (11, ⟨l ++ b, f, x, xf, room, n + 1, some 0, true⟩) := by simp [dLay, hr]
          rw [e]
          refine ExQ_ok [] 2000 plsOk noK ?_
          simp only [conf0, layD, fuP, fuL]
          (try rw [exh]); simp (maxSteps := 4000000) only [hr, tl, tx, go_sem, ↓bsplit_true, ↓bsplit_false, ↓reduceIte, Nat.reduceLT, Nat.reduceLeDiff, Nat.reduceEqDiff, Nat.reduceAdd, Nat.reduceSub, Nat.reduceMul, Nat.reduceBEq, Nat.reduceBNe, reduceCtorEq, Int.reduceEq, Int.reduceLT, Int.reduceLE, Int.reduceAdd, Int.reduceSub, Int.reduceMul, Int.reduceToNat, ↓xs26, ↓xs32, ↓xs40, ↓xs45, ↓xs52, ↓xs53]
          repeat (refine And.intro (a := (_ = true)) (by first | (simp; done) | (simp; omega)) ?_)
          exact ObQ.mk [0, 6, 2, 3] (by decide) rfl rfl rfl ⟨rfl, rfl, rfl, rfl, trivial⟩
        · have e : dLay false ⟨l, f, x, xf, room, n, some k, false⟩ b = (0, ⟨l ++ b, f, x, xf, room, n + 1, some (k - 1), false⟩) := by simp [dLay, hr, hk]
          rw [e]
          refine ExQ_ok [] 2000 plsOk noK ?_
          simp only [conf0, layD, fuP, fuL]
          (try rw [exh]); simp (maxSteps := 4000000) only [hr, hk, tl, tx, go_sem, ↓bsplit_true, ↓bsplit_false, ↓reduceIte, Nat.reduceLT, Nat.reduceLeDiff, Nat.reduceEqDiff, Nat.reduceAdd, Nat.reduceSub, Nat.reduceMul, Nat.reduceBEq, Nat.reduceBNe, reduceCtorEq, Int.reduceEq, Int.reduceLT, Int.reduceLE, Int.reduceAdd, Int.reduceSub, Int.reduceMul, Int.reduceToNat, ↓xs26, ↓xs32, ↓xs40, ↓xs45, ↓xs52, ↓xs53]
          repeat (refine And.intro (a := (_ = true)) (by first | (simp; done) | (simp; omega)) ?_)
          exact ObQ.mk [0, 6, 2, 3] (by decide) rfl rfl rfl ⟨rfl, rfl, rfl, rfl, trivial⟩
set_option maxRecDepth 100000 in
set_option maxHeartbeats 4000000 in
theorem next_word (s : DS) (t : Bool) (b : List Int) (c : Option Nat) (hs : numOk s = true) (hb : b.length ≤ 1000000000) : Word Try.prog (plOf pls) 32 [.ptr 0 0 9 0, .imn t .u8 b c] (layD s) (ObQ 1 (.v (.int .i64 (dLay true s b).1)) (layD (dLay true s b).2)) := by
  obtain ⟨l, f, x, xf, room, n, u, out⟩ := s
  simp only [numOk, Bool.and_eq_true, decide_eq_true_eq] at hs
  obtain ⟨hn0, hn1, hlx, hf0, hf1, hu⟩ := hs
  refine ⟨_, fi32, by simp, fun C hC hl => ?_⟩
  cases out with
  | true =>
    have e : dLay true ⟨l, f, x, xf, room, n, u, true⟩ b = (11, ⟨l, f, x, xf, room, n, u, true⟩) := by simp [dLay]
    rw [e]
    cases u with
    | none =>
      refine ExQ_ok [] 2000 plsOk noK ?_
      simp only [conf0, layD, fuP, fuL]
      (try rw [exh]); simp (maxSteps := 4000000) only [go_sem, ↓bsplit_true, ↓bsplit_false, ↓reduceIte, Nat.reduceLT, Nat.reduceLeDiff, Nat.reduceEqDiff, Nat.reduceAdd, Nat.reduceSub, Nat.reduceMul, Nat.reduceBEq, Nat.reduceBNe, reduceCtorEq, Int.reduceEq, Int.reduceLT, Int.reduceLE, Int.reduceAdd, Int.reduceSub, Int.reduceMul, Int.reduceToNat, ↓xs26, ↓xs32, ↓xs40, ↓xs45, ↓xs52, ↓xs53]
      repeat (refine And.intro (a := (_ = true)) (by first | (simp; done) | (simp; omega)) ?_)
      exact ObQ.mk [0, 1, 2] (by decide) rfl rfl rfl ⟨rfl, rfl, rfl, trivial⟩
    | some k =>
      refine ExQ_ok [] 2000 plsOk noK ?_
      simp only [conf0, layD, fuP, fuL]
      (try rw [exh]); simp (maxSteps := 4000000) only [go_sem, ↓bsplit_true, ↓bsplit_false, ↓reduceIte, Nat.reduceLT, Nat.reduceLeDiff, Nat.reduceEqDiff, Nat.reduceAdd, Nat.reduceSub, Nat.reduceMul, Nat.reduceBEq, Nat.reduceBNe, reduceCtorEq, Int.reduceEq, Int.reduceLT, Int.reduceLE, Int.reduceAdd, Int.reduceSub, Int.reduceMul, Int.reduceToNat, ↓xs26, ↓xs32, ↓xs40, ↓xs45, ↓xs52, ↓xs53]
      repeat (refine And.intro (a := (_ = true)) (by first | (simp; done) | (simp; omega)) ?_)
      exact ObQ.mk [0, 1, 2, 3] (by decide) rfl rfl rfl ⟨rfl, rfl, rfl, rfl, trivial⟩
  | false =>
    by_cases hr : room < (l.length : Int) + x.length + b.length
    · have e : dLay true ⟨l, f, x, xf, room, n, u, false⟩ b = (8, ⟨l, f, x, xf, room, n, u, false⟩) := by simp [dLay, hr]
      rw [e]
      cases u with
      | none =>
        refine ExQ_ok [] 2000 plsOk noK ?_
        simp only [conf0, layD, fuP, fuL]
        (try rw [exh]); simp (maxSteps := 4000000) only [hr, go_sem, ↓bsplit_true, ↓bsplit_false, ↓reduceIte, Nat.reduceLT, Nat.reduceLeDiff, Nat.reduceEqDiff, Nat.reduceAdd, Nat.reduceSub, Nat.reduceMul, Nat.reduceBEq, Nat.reduceBNe, reduceCtorEq, Int.reduceEq, Int.reduceLT, Int.reduceLE, Int.reduceAdd, Int.reduceSub, Int.reduceMul, Int.reduceToNat, ↓xs26, ↓xs32, ↓xs40, ↓xs45, ↓xs52, ↓xs53]
        repeat (refine And.intro (a := (_ = true)) (by first | (simp; done) | (simp; omega)) ?_)
        exact ObQ.mk [0, 1, 2] (by decide) rfl rfl rfl ⟨rfl, rfl, rfl, trivial⟩
      | some k =>
        refine ExQ_ok [] 2000 plsOk noK ?_
        simp only [conf0, layD, fuP, fuL]
        (try rw [exh]); simp (maxSteps := 4000000) only [hr, go_sem, ↓bsplit_true, ↓bsplit_false, ↓reduceIte, Nat.reduceLT, Nat.reduceLeDiff, Nat.reduceEqDiff, Nat.reduceAdd, Nat.reduceSub, Nat.reduceMul, Nat.reduceBEq, Nat.reduceBNe, reduceCtorEq, Int.reduceEq, Int.reduceLT, Int.reduceLE, Int.reduceAdd, Int.reduceSub, Int.reduceMul, Int.reduceToNat, ↓xs26, ↓xs32, ↓xs40, ↓xs45, ↓xs52, ↓xs53]
        repeat (refine And.intro (a := (_ = true)) (by first | (simp; done) | (simp; omega)) ?_)
        exact ObQ.mk [0, 1, 2, 3] (by decide) rfl rfl rfl ⟨rfl, rfl, rfl, rfl, trivial⟩
    · have tl := take_self l
      have tx := take_self x
      cases u with
      | none =>
        have e : dLay true ⟨l, f, x, xf, room, n, none, false⟩ b = (0, ⟨l, f, x ++ b, xf, room, n + 1, none, false⟩) := by simp [dLay, hr]
        rw [e]
        refine ExQ_ok [] 2000 plsOk noK ?_
        simp only [conf0, layD, fuP, fuL]
        (try rw [exh]); simp (maxSteps := 4000000) only [hr, tl, tx, go_sem, ↓bsplit_true, ↓bsplit_false, ↓reduceIte, Nat.reduceLT, Nat.reduceLeDiff, Nat.reduceEqDiff, Nat.reduceAdd, Nat.reduceSub, Nat.reduceMul, Nat.reduceBEq, Nat.reduceBNe, reduceCtorEq, Int.reduceEq, Int.reduceLT, Int.reduceLE, Int.reduceAdd, Int.reduceSub, Int.reduceMul, Int.reduceToNat, ↓xs26, ↓xs32, ↓xs40, ↓xs45, ↓xs52, ↓xs53]
        repeat (refine And.intro (a := (_ = true)) (by first | (simp; done) | (simp; omega)) ?_)
        exact ObQ.mk [0, 1, 5] (by decide) rfl rfl rfl ⟨rfl, rfl, rfl, trivial⟩
      | some k =>
        simp only [fuOk, Bool.and_eq_true, decide_eq_true_eq] at hu
        by_cases hk : k = 0
        · subst hk
          have e : dLay true ⟨l, f, x, xf, room, n, some 0, false⟩ b = (11, ⟨l, f, x ++ b, xf, room, n + 1, some 0, true⟩) := by simp [dLay, hr]
          rw [e]
          refine ExQ_ok [] 2000 plsOk noK ?_
          simp only [conf0, layD, fuP, fuL]
          (try rw [exh]); simp (maxSteps := 4000000) only [hr, tl, tx, go_sem, ↓bsplit_true, ↓bsplit_false, ↓reduceIte, Nat.reduceLT, Nat.reduceLeDiff, Nat.reduceEqDiff, Nat.reduceAdd, Nat.reduceSub, Nat.reduceMul, Nat.reduceBEq, Nat.reduceBNe, reduceCtorEq, Int.reduceEq, Int.reduceLT, Int.reduceLE, Int.reduceAdd, Int.reduceSub, Int.reduceMul, Int.reduceToNat, ↓xs26, ↓xs32, ↓xs40, ↓xs45, ↓xs52, ↓xs53]
          repeat (refine And.intro (a := (_ = true)) (by first | (simp; done) | (simp; omega)) ?_)
          exact ObQ.mk [0, 1, 6, 3] (by decide) rfl rfl rfl ⟨rfl, rfl, rfl, rfl, trivial⟩
        · have e : dLay true ⟨l, f, x, xf, room, n, some k, false⟩ b = (0, ⟨l, f, x ++ b, xf, room, n + 1, some (k - 1), false⟩) := by simp [dLay, hr, hk]
          rw [e]
          refine ExQ_ok [] 2000 plsOk noK ?_
          simp only [conf0, layD, fuP, fuL]
          (try rw [exh]); simp (maxSteps := 4000000) only [hr, hk, tl, tx, go_sem, ↓bsplit_true, ↓bsplit_false, ↓reduceIte, Nat.reduceLT, Nat.reduceLeDiff, Nat.reduceEqDiff, Nat.reduceAdd, Nat.reduceSub, Nat.reduceMul, Nat.reduceBEq, Nat.reduceBNe, reduceCtorEq, Int.reduceEq, Int.reduceLT, Int.reduceLE, Int.reduceAdd, Int.reduceSub, Int.reduceMul, Int.reduceToNat, ↓xs26, ↓xs32, ↓xs40, ↓xs45, ↓xs52, ↓xs53]
          repeat (refine And.intro (a := (_ = true)) (by first | (simp; done) | (simp; omega)) ?_)
          exact ObQ.mk [0, 1, 6, 3] (by decide) rfl rfl rfl ⟨rfl, rfl, rfl, rfl, trivial⟩
end DW
end Go.Proofs.Ytlhjbjpcnncndaa
