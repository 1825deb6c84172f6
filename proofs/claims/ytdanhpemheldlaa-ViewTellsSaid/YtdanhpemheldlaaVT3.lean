/- Views: lists held against each other. -/
import Derived.Test.YtdanhpemheldlaaVT2
set_option linter.unusedSimpArgs false
set_option linter.unusedVariables false
-- FUNCTIONS 48 28 12
namespace Go.Proofs.Ytdanhpemheldlaa
open Go Go.SY
def tri (r : List AV) : Int × Int × Int := (idR r, stR r, icR r)
def sameR (rs qs : List (List AV)) : Bool := decide (rs.map tri = qs.map tri)
theorem same_len {rs qs : List (List AV)} (h : ¬ rs.length = qs.length) : sameR rs qs = false := decide_eq_false fun e => h (by simpa using congrArg List.length e)
theorem same_ne {rs qs : List (List AV)} (hl : rs.length = qs.length) {i : Nat} (hi : i < rs.length) (h : tri (rowA rs i) ≠ tri (rowA qs i)) : sameR rs qs = false := decide_eq_false fun e => h (by
  have e1 : (rs.map tri)[i]? = (qs.map tri)[i]? := by rw [e]
  rw [List.getElem?_map, List.getElem?_map, List.getElem?_eq_getElem hi, List.getElem?_eq_getElem (by omega)] at e1
  have r1 : rowA rs i = rs[i] := by unfold rowA; rw [List.getElem?_eq_getElem hi]; rfl
  have r2 : rowA qs i = qs[i] := by unfold rowA; rw [List.getElem?_eq_getElem (by omega)]; rfl
  rw [r1, r2]
  exact Option.some.inj e1)
theorem same_all {rs qs : List (List AV)} (hl : rs.length = qs.length) (h : ∀ i, i < rs.length → tri (rowA rs i) = tri (rowA qs i)) : sameR rs qs = true := decide_eq_true (by
  apply List.ext_getElem
  · simpa using hl
  · intro i h1 h2
    simp only [List.length_map] at h1 h2
    have := h i h1
    have r1 : rowA rs i = rs[i] := by unfold rowA; rw [List.getElem?_eq_getElem h1]; rfl
    have r2 : rowA qs i = qs[i] := by unfold rowA; rw [List.getElem?_eq_getElem h2]; rfl
    rw [r1, r2] at this
    simpa using this)
theorem same_refl (rs : List (List AV)) : sameR rs rs = true := decide_eq_true rfl
def sSame : List AV → Option (Bool × AV × Bls)
  | [.imr _ 3 rs _, .imr _ 3 qs _] => some (rs.all isM && (qs.all isM && (decide (rs.length < 4611686018427387904) && decide (qs.length < 4611686018427387904))), .v (.bool (sameR rs qs)), [])
  | _ => none
def tX5 (t u : Bool) (rs qs : List (List AV)) (c d : Option Nat) (i : Nat) : TM := [(5, .v (.int .i64 i)), (0, .imr t 3 rs c), (1, .imr u 3 qs d)]
theorem tX5_lv {rs qs : List (List AV)} (hf : FlatR rs) (hg : FlatR qs) (t u : Bool) (c d : Option Nat) (i N : Nat) : lvT N true (tX5 t u rs qs c d i) = true := by
  cases t <;> cases u <;> simp [tX5, lvT, lvB, tB, hf.lv, hg.lv]
def tX13 (t u : Bool) (rs qs : List (List AV)) (c d : Option Nat) (i : Nat) : TM := [(13, .v (.int .i64 i)), (12, .v (.int .i64 qs.length)), (0, .imr t 3 rs c), (1, .imr u 3 qs d)]
theorem tX13_lv {rs qs : List (List AV)} (hf : FlatR rs) (hg : FlatR qs) (t u : Bool) (c d : Option Nat) (i N : Nat) : lvT N true (tX13 t u rs qs c d i) = true := by
  cases t <;> cases u <;> simp [tX13, lvT, lvB, tB, hf.lv, hg.lv]

set_option maxRecDepth 100000 in
set_option maxHeartbeats 4000000 in
theorem equal_run (C : Ctx) (hC : C.β.b = []) (t u : Bool) (rs qs : List (List AV)) (c d : Option Nat) (hm : rs.all isM = true) (hq : qs.all isM = true) (hx : rs.length < 4611686018427387904) (hx2 : qs.length < 4611686018427387904) : Rch Try.prog (plOf pls) C (conf0 48 ⟨26, [.tmp 4], code48⟩ [.imr t 3 rs c, .imr u 3 qs d] []) (Res (.v (.bool (sameR rs qs))) []) := by
  have hf := isM_flat hm
  have hg := isM_flat hq
  by_cases hlen : rs.length = qs.length
  case neg =>
    have g0 : ¬ (rs.length : Int) = qs.length := by omega
    refine ExQ_ok [] 2000 plsOk noK ?_
    simp only [conf0]
    (try rw [exh]); simp (maxSteps := 4000000) only [g0, stops, stepF, frsF, frF, itemF, codeF, condF, opsF, opsW, opF, stepS, wtS, sopF, pv, bltF, callF, p_move, p_assign, p_binOp, p_len, SY.get, SY.put, SY.ev, SY.mk, SY.ini, bopInt, bop, leaveS, retS, killL, isDefs, resS, resAll, tup1, exq_go, exq_t, ↓reduceIte, Nat.reduceLT, Nat.reduceEqDiff, Nat.reduceAdd, reduceCtorEq, true_and, Nat.zero_add, decide_true, not_false_eq_true, ti3, ti22, regAt, fi48, body48, Try.f48, ↓exq_cd cd_code48, ↓exq_cd cd_c48_1, ↓exq_cd cd_c48_2, ↓exq_cd cd_c48_3, ↓exq_cd cd_c48_5, ↓exq_cd cd_c48_6, ↓exq_cd cd_c48_7, ↓exq_cd cd_c48_9, r48_1, r48_5, r48_9]
    rw [same_len hlen]
    exact Res.val _ _
  have g0 : (rs.length : Int) = qs.length := by omega
  refine ExQ_ok [] 2000 plsOk noK ?_
  simp only [conf0]
  (try rw [exh]); simp (maxSteps := 4000000) only [g0, stops, inK, stepF, frsF, frF, itemF, codeF, condF, opsF, opsW, opF, wtS, sopF, pv, bltF, callF, p_move, p_assign, p_binOp, p_len, SY.get, SY.put, SY.ev, SY.mk, SY.ini, bopInt, bop, exq_go, exq_f, ↓reduceIte, Nat.reduceLT, Nat.reduceEqDiff, Nat.reduceAdd, reduceCtorEq, true_and, Bool.and_self, Nat.zero_add, Int.reduceLE, decide_true, decide_false, not_true_eq_false, ti3, ti22, regAt, body48, Try.f48, ↓exq_cd cd_code48, ↓exq_cd cd_c48_1, ↓exq_cd cd_c48_2, ↓exq_cd cd_c48_3, ↓exq_cd cd_c48_5, ↓exq_cd cd_c48_6, ↓exq_cd cd_c48_4, ↓exq_cd cd_c48_10, ↓exq_cd cd_c48_12, ↓exq_cd cd_c48_13, ↓exq_cd cd_c48_14, r48_1, r48_5, r48_12]
  repeat (refine And.intro (a := (_ = true)) (by first | (simp; done) | (simp; omega)) ?_)
  refine Rch.loop plsOk ?_
  refine Rch.fit1 hC [] (bl' := []) (tm' := tX13 t u rs qs c d 0) rfl List.nodup_nil rfl ⟨rfl, rfl, congrArg (fun x => AV.imr t 3 x c) (hf.ren _).symm, congrArg (fun x => AV.imr u 3 x d) (hg.ren _).symm, trivial⟩ (tX13_lv hf hg ..) trivial ?_
  refine loop_ind plsOk (α := {i : Nat // i ≤ rs.length ∧ ∀ j, j < i → tri (rowA rs j) = tri (rowA qs j)}) (fun a => rs.length - a.1) (fun a => tX13 t u rs qs c d a.1) (fun _ => []) (fun a => Res (.v (.bool (sameR rs qs))) []) ?_ ⟨0, Nat.zero_le _, fun j hj => absurd hj (Nat.not_lt_zero _)⟩
  rintro ⟨i, hi, hj⟩ ih
  simp only [tX13] at hi hj ih ⊢
  by_cases h : (i : Int) < qs.length
  · have e := isM_row hm (i := i) (by omega)
    have e' := isM_row hq (i := i) (by omega)
    have bad : tri (rowA rs i) ≠ tri (rowA qs i) → sameR rs qs = false := fun hne => same_ne hlen (by omega) hne
    by_cases h1 : idR (rowA rs i) = idR (rowA qs i)
    case neg =>
      refine ExQ_ok [] 2000 plsOk noK ?_
      (try rw [exh]); simp (maxSteps := 4000000) only [h, g0, e, e', h1, Bool.false_and, Bool.not_false, stops, stepF, frsF, frF, itemF, codeF, condF, opsF, opsW, opF, drF, drO, drW, drC, stepS, wtS, sopF, pv, popF, lopF, cls, rdl, p_move, p_assign, p_binOp, p_indexAddr, l_load, SY.get, SY.put, SY.ev, SY.mk, SY.nth, dr, tk, pack, parts, rdC, bopInt, bopEq, eqPs, bop, leaveS, retS, killL, isDefs, resS, resAll, tup1, plk, exq_go, exq_t, ↓reduceIte, Nat.reduceLT, Nat.reduceEqDiff, Nat.reduceAdd, Nat.reduceSub, Bool.and_true, Bool.not_false, reduceCtorEq, true_and, Int.toNat_natCast, decide_true, decide_false, ti3, ti22, ti29, regAt, fi48, body48, Try.f48, ↓exq_cd cd_c48_15, ↓exq_cd cd_c48_16, ↓exq_cd cd_c48_17, ↓exq_cd cd_c48_18, ↓exq_cd cd_c48_19, ↓exq_cd cd_c48_21, ↓exq_cd cd_c48_23, ↓exq_cd cd_c48_24, ↓exq_cd cd_c48_25, ↓exq_cd cd_c48_26, ↓exq_cd cd_c48_27, ↓exq_cd cd_c48_28, ↓exq_cd cd_c48_30, r48_16, r48_24, r48_26, r48_30, plA48, pl48]
      repeat (refine And.intro (a := (_ = true)) (by first | (simp; done) | (simp; omega)) ?_)
      rw [bad (fun h => h1 (congrArg Prod.fst h))]
      exact Res.val _ _
    by_cases h2 : stR (rowA rs i) = stR (rowA qs i)
    case neg =>
      refine ExQ_ok [] 2000 plsOk noK ?_
      (try rw [exh]); simp (maxSteps := 4000000) only [h, g0, e, e', h1, h2, Bool.false_and, Bool.and_false, Bool.not_false, stops, stepF, frsF, frF, itemF, codeF, condF, opsF, opsW, opF, drF, drO, drW, drC, stepS, wtS, sopF, pv, popF, lopF, cls, rdl, p_move, p_assign, p_binOp, p_indexAddr, l_load, SY.get, SY.put, SY.ev, SY.mk, SY.nth, dr, tk, pack, parts, rdC, bopInt, bopEq, eqPs, bop, leaveS, retS, killL, isDefs, resS, resAll, tup1, plk, exq_go, exq_t, ↓reduceIte, Nat.reduceLT, Nat.reduceEqDiff, Nat.reduceAdd, Nat.reduceSub, Bool.and_true, Bool.not_false, reduceCtorEq, true_and, Int.toNat_natCast, decide_true, decide_false, ti3, ti22, ti29, regAt, fi48, body48, Try.f48, ↓exq_cd cd_c48_15, ↓exq_cd cd_c48_16, ↓exq_cd cd_c48_17, ↓exq_cd cd_c48_18, ↓exq_cd cd_c48_19, ↓exq_cd cd_c48_21, ↓exq_cd cd_c48_23, ↓exq_cd cd_c48_24, ↓exq_cd cd_c48_25, ↓exq_cd cd_c48_26, ↓exq_cd cd_c48_27, ↓exq_cd cd_c48_28, ↓exq_cd cd_c48_30, r48_16, r48_24, r48_26, r48_30, plA48, pl48]
      repeat (refine And.intro (a := (_ = true)) (by first | (simp; done) | (simp; omega)) ?_)
      rw [bad (fun h => h2 (congrArg (fun x => x.2.1) h))]
      exact Res.val _ _
    by_cases h3 : icR (rowA rs i) = icR (rowA qs i)
    case neg =>
      refine ExQ_ok [] 2000 plsOk noK ?_
      (try rw [exh]); simp (maxSteps := 4000000) only [h, g0, e, e', h1, h2, h3, Bool.and_false, Bool.not_false, stops, stepF, frsF, frF, itemF, codeF, condF, opsF, opsW, opF, drF, drO, drW, drC, stepS, wtS, sopF, pv, popF, lopF, cls, rdl, p_move, p_assign, p_binOp, p_indexAddr, l_load, SY.get, SY.put, SY.ev, SY.mk, SY.nth, dr, tk, pack, parts, rdC, bopInt, bopEq, eqPs, bop, leaveS, retS, killL, isDefs, resS, resAll, tup1, plk, exq_go, exq_t, ↓reduceIte, Nat.reduceLT, Nat.reduceEqDiff, Nat.reduceAdd, Nat.reduceSub, Bool.and_true, Bool.not_false, reduceCtorEq, true_and, Int.toNat_natCast, decide_true, decide_false, ti3, ti22, ti29, regAt, fi48, body48, Try.f48, ↓exq_cd cd_c48_15, ↓exq_cd cd_c48_16, ↓exq_cd cd_c48_17, ↓exq_cd cd_c48_18, ↓exq_cd cd_c48_19, ↓exq_cd cd_c48_21, ↓exq_cd cd_c48_23, ↓exq_cd cd_c48_24, ↓exq_cd cd_c48_25, ↓exq_cd cd_c48_26, ↓exq_cd cd_c48_27, ↓exq_cd cd_c48_28, ↓exq_cd cd_c48_30, r48_16, r48_24, r48_26, r48_30, plA48, pl48]
      repeat (refine And.intro (a := (_ = true)) (by first | (simp; done) | (simp; omega)) ?_)
      rw [bad (fun h => h3 (congrArg (fun x => x.2.2) h))]
      exact Res.val _ _
    have eq : tri (rowA rs i) = tri (rowA qs i) := by simp only [tri, h1, h2, h3]
    refine ExQ_ok [] 2000 plsOk noK ?_
    (try rw [exh]); simp (maxSteps := 4000000) only [h, g0, e, e', h1, h2, h3, Bool.and_self, Bool.not_true, stops, inK, stepF, frsF, frF, itemF, codeF, condF, opsF, opsW, opF, drF, drO, drW, drC, wtS, sopF, pv, popF, lopF, cls, rdl, p_move, p_assign, p_binOp, p_indexAddr, l_load, SY.get, SY.put, SY.ev, SY.mk, SY.nth, dr, tk, pack, parts, rdC, ar, bopInt, bopEq, eqPs, bop, plk, exq_go, exq_t, exq_f, ↓reduceIte, Nat.reduceLT, Nat.reduceEqDiff, Nat.reduceAdd, Nat.reduceSub, Bool.and_true, Bool.not_true, reduceCtorEq, true_and, Bool.and_self, Int.toNat_natCast, Int.reduceLE, decide_true, ti3, ti22, ti29, regAt, body48, Try.f48, ↓exq_cd cd_c48_15, ↓exq_cd cd_c48_16, ↓exq_cd cd_c48_17, ↓exq_cd cd_c48_18, ↓exq_cd cd_c48_19, ↓exq_cd cd_c48_21, ↓exq_cd cd_c48_23, ↓exq_cd cd_c48_24, ↓exq_cd cd_c48_25, ↓exq_cd cd_c48_26, ↓exq_cd cd_c48_27, ↓exq_cd cd_c48_22, r48_16, r48_24, r48_26, r48_22, plA48, pl48]
    repeat (refine And.intro (a := (_ = true)) (by first | (simp; done) | (simp; omega)) ?_)
    refine Rch.fit1 hC [] (bl' := []) (tm' := tX13 t u rs qs c d (i + 1)) rfl List.nodup_nil rfl ⟨rfl, rfl, congrArg (fun x => AV.imr t 3 x c) (hf.ren _).symm, congrArg (fun x => AV.imr u 3 x d) (hg.ren _).symm, trivial⟩ (tX13_lv hf hg ..) trivial ?_
    exact ih ⟨i + 1, by omega, fun j hj' => by
      rcases Nat.lt_or_ge j i with h4 | h4
      · exact hj j h4
      · rw [show j = i by omega]; exact eq⟩ (by simp only; omega)
  · refine ExQ_ok [] 2000 plsOk noK ?_
    (try rw [exh]); simp (maxSteps := 4000000) only [h, stops, stepF, frsF, frF, itemF, codeF, condF, opsF, opsW, opF, stepS, wtS, sopF, pv, p_assign, p_binOp, SY.get, SY.put, SY.ev, SY.mk, bopInt, bop, leaveS, retS, exitS, killL, isDefs, resS, resAll, tup1, exq_go, exq_f, ↓reduceIte, Nat.reduceLT, Nat.reduceEqDiff, Nat.reduceAdd, true_and, decide_false, ti3, regAt, fi48, body48, Try.f48, ↓exq_cd cd_c48_15, ↓exq_cd cd_c48_16, ↓exq_cd cd_c48_17, ↓exq_cd cd_c48_18, ↓exq_cd cd_c48_11, ↓exq_cd cd_c48_31, r48_16, r48_31]
    repeat (refine And.intro (a := (_ = true)) (by first | (simp; done) | (simp; omega)) ?_)
    rw [same_all hlen (fun j h4 => hj j (by omega))]
    exact Res.val _ _
theorem equal_ok : SpecOk Try.prog (plOf pls) 48 sSame := by
  refine ⟨_, fi48, fun args r bl1 h => ?_⟩
  unfold sSame at h
  split at h
  · simp only [Option.some.injEq, Prod.mk.injEq, Bool.and_eq_true, decide_eq_true_eq] at h
    obtain ⟨⟨h1, h2, h3, h4⟩, rfl, rfl⟩ := h
    exact ⟨by simp, fun C hC _ => equal_run C hC _ _ _ _ _ _ h1 h2 h3 h4⟩
  · cases h

set_option maxRecDepth 100000 in
set_option maxHeartbeats 4000000 in
theorem rsame_run (C : Ctx) (hC : C.β.b = []) (t u : Bool) (rs qs : List (List AV)) (c d : Option Nat) (hm : rs.all isM = true) (hq : qs.all isM = true) (hx : rs.length < 4611686018427387904) (hx2 : qs.length < 4611686018427387904) : Rch Try.prog (plOf pls) C (conf0 28 ⟨26, [.tmp 4], code28⟩ [.imr t 3 rs c, .imr u 3 qs d] []) (Res (.v (.bool (sameR rs qs))) []) := by
  have hf := isM_flat hm
  have hg := isM_flat hq
  by_cases hlen : rs.length = qs.length
  case neg =>
    have g0 : ¬ (rs.length : Int) = qs.length := by omega
    refine ExQ_ok [] 2000 plsOk noK ?_
    simp only [conf0]
    (try rw [exh]); simp (maxSteps := 4000000) only [g0, stops, stepF, frsF, frF, itemF, codeF, condF, opsF, opsW, opF, stepS, wtS, sopF, pv, bltF, callF, p_move, p_assign, p_binOp, p_len, SY.get, SY.put, SY.ev, SY.mk, SY.ini, bopInt, bop, leaveS, retS, killL, isDefs, resS, resAll, tup1, exq_go, exq_t, ↓reduceIte, Nat.reduceLT, Nat.reduceEqDiff, Nat.reduceAdd, reduceCtorEq, true_and, Nat.zero_add, decide_true, not_false_eq_true, ti3, ti22, regAt, fi28, body28, Try.f28, ↓exq_cd cd_code28, ↓exq_cd cd_c28_1, ↓exq_cd cd_c28_2, ↓exq_cd cd_c28_3, ↓exq_cd cd_c28_5, ↓exq_cd cd_c28_6, ↓exq_cd cd_c28_7, ↓exq_cd cd_c28_9, r28_1, r28_5, r28_9]
    rw [same_len hlen]
    exact Res.val _ _
  have g0 : (rs.length : Int) = qs.length := by omega
  refine ExQ_ok [] 2000 plsOk noK ?_
  simp only [conf0]
  (try rw [exh]); simp (maxSteps := 4000000) only [g0, stops, inK, stepF, frsF, frF, itemF, codeF, condF, opsF, opsW, opF, wtS, sopF, pv, bltF, callF, p_move, p_assign, p_binOp, p_len, SY.get, SY.put, SY.ev, SY.mk, SY.ini, bopInt, bop, exq_go, exq_f, ↓reduceIte, Nat.reduceLT, Nat.reduceEqDiff, Nat.reduceAdd, reduceCtorEq, true_and, Bool.and_self, Nat.zero_add, Int.reduceLE, decide_true, decide_false, not_true_eq_false, ti3, ti22, regAt, body28, Try.f28, ↓exq_cd cd_code28, ↓exq_cd cd_c28_1, ↓exq_cd cd_c28_2, ↓exq_cd cd_c28_3, ↓exq_cd cd_c28_5, ↓exq_cd cd_c28_6, ↓exq_cd cd_c28_4, ↓exq_cd cd_c28_10, ↓exq_cd cd_c28_12, ↓exq_cd cd_c28_13, ↓exq_cd cd_c28_14, r28_1, r28_5, r28_12]
  repeat (refine And.intro (a := (_ = true)) (by first | (simp; done) | (simp; omega)) ?_)
  refine Rch.loop plsOk ?_
  refine Rch.fit1 hC [] (bl' := []) (tm' := tX5 t u rs qs c d 0) rfl List.nodup_nil rfl ⟨rfl, congrArg (fun x => AV.imr t 3 x c) (hf.ren _).symm, congrArg (fun x => AV.imr u 3 x d) (hg.ren _).symm, trivial⟩ (tX5_lv hf hg ..) trivial ?_
  refine loop_ind plsOk (α := {i : Nat // i ≤ rs.length ∧ ∀ j, j < i → tri (rowA rs j) = tri (rowA qs j)}) (fun a => rs.length - a.1) (fun a => tX5 t u rs qs c d a.1) (fun _ => []) (fun a => Res (.v (.bool (sameR rs qs))) []) ?_ ⟨0, Nat.zero_le _, fun j hj => absurd hj (Nat.not_lt_zero _)⟩
  rintro ⟨i, hi, hj⟩ ih
  simp only [tX5] at hi hj ih ⊢
  by_cases h : (i : Int) < qs.length
  · have e := isM_row hm (i := i) (by omega)
    have e' := isM_row hq (i := i) (by omega)
    have bad : tri (rowA rs i) ≠ tri (rowA qs i) → sameR rs qs = false := fun hne => same_ne hlen (by omega) hne
    by_cases h1 : idR (rowA rs i) = idR (rowA qs i)
    case neg =>
      refine ExQ_ok [] 2000 plsOk noK ?_
      (try rw [exh]); simp (maxSteps := 4000000) only [h, g0, e, e', h1, Bool.false_and, Bool.not_false, stops, stepF, frsF, frF, itemF, codeF, condF, opsF, opsW, opF, drF, drO, drW, drC, stepS, wtS, sopF, pv, bltF, callF, popF, lopF, cls, rdl, p_move, p_assign, p_binOp, p_indexAddr, p_len, l_load, SY.get, SY.put, SY.ev, SY.mk, SY.nth, dr, tk, pack, parts, rdC, bopInt, bopEq, eqPs, bop, leaveS, retS, killL, isDefs, resS, resAll, tup1, plk, exq_go, exq_t, ↓reduceIte, Nat.reduceLT, Nat.reduceEqDiff, Nat.reduceAdd, Nat.reduceSub, Bool.and_true, Bool.not_false, reduceCtorEq, true_and, Int.toNat_natCast, decide_true, decide_false, ti3, ti22, ti29, regAt, fi28, body28, Try.f28, ↓exq_cd cd_c28_15, ↓exq_cd cd_c28_16, ↓exq_cd cd_c28_18, ↓exq_cd cd_c28_19, ↓exq_cd cd_c28_17, ↓exq_cd cd_c28_21, ↓exq_cd cd_c28_23, ↓exq_cd cd_c28_24, ↓exq_cd cd_c28_25, ↓exq_cd cd_c28_26, ↓exq_cd cd_c28_28, r28_18, r28_24, r28_28, plA28, pl28]
      repeat (refine And.intro (a := (_ = true)) (by first | (simp; done) | (simp; omega)) ?_)
      rw [bad (fun h => h1 (congrArg Prod.fst h))]
      exact Res.val _ _
    by_cases h2 : stR (rowA rs i) = stR (rowA qs i)
    case neg =>
      refine ExQ_ok [] 2000 plsOk noK ?_
      (try rw [exh]); simp (maxSteps := 4000000) only [h, g0, e, e', h1, h2, Bool.false_and, Bool.and_false, Bool.not_false, stops, stepF, frsF, frF, itemF, codeF, condF, opsF, opsW, opF, drF, drO, drW, drC, stepS, wtS, sopF, pv, bltF, callF, popF, lopF, cls, rdl, p_move, p_assign, p_binOp, p_indexAddr, p_len, l_load, SY.get, SY.put, SY.ev, SY.mk, SY.nth, dr, tk, pack, parts, rdC, bopInt, bopEq, eqPs, bop, leaveS, retS, killL, isDefs, resS, resAll, tup1, plk, exq_go, exq_t, ↓reduceIte, Nat.reduceLT, Nat.reduceEqDiff, Nat.reduceAdd, Nat.reduceSub, Bool.and_true, Bool.not_false, reduceCtorEq, true_and, Int.toNat_natCast, decide_true, decide_false, ti3, ti22, ti29, regAt, fi28, body28, Try.f28, ↓exq_cd cd_c28_15, ↓exq_cd cd_c28_16, ↓exq_cd cd_c28_18, ↓exq_cd cd_c28_19, ↓exq_cd cd_c28_17, ↓exq_cd cd_c28_21, ↓exq_cd cd_c28_23, ↓exq_cd cd_c28_24, ↓exq_cd cd_c28_25, ↓exq_cd cd_c28_26, ↓exq_cd cd_c28_28, r28_18, r28_24, r28_28, plA28, pl28]
      repeat (refine And.intro (a := (_ = true)) (by first | (simp; done) | (simp; omega)) ?_)
      rw [bad (fun h => h2 (congrArg (fun x => x.2.1) h))]
      exact Res.val _ _
    by_cases h3 : icR (rowA rs i) = icR (rowA qs i)
    case neg =>
      refine ExQ_ok [] 2000 plsOk noK ?_
      (try rw [exh]); simp (maxSteps := 4000000) only [h, g0, e, e', h1, h2, h3, Bool.and_false, Bool.not_false, stops, stepF, frsF, frF, itemF, codeF, condF, opsF, opsW, opF, drF, drO, drW, drC, stepS, wtS, sopF, pv, bltF, callF, popF, lopF, cls, rdl, p_move, p_assign, p_binOp, p_indexAddr, p_len, l_load, SY.get, SY.put, SY.ev, SY.mk, SY.nth, dr, tk, pack, parts, rdC, bopInt, bopEq, eqPs, bop, leaveS, retS, killL, isDefs, resS, resAll, tup1, plk, exq_go, exq_t, ↓reduceIte, Nat.reduceLT, Nat.reduceEqDiff, Nat.reduceAdd, Nat.reduceSub, Bool.and_true, Bool.not_false, reduceCtorEq, true_and, Int.toNat_natCast, decide_true, decide_false, ti3, ti22, ti29, regAt, fi28, body28, Try.f28, ↓exq_cd cd_c28_15, ↓exq_cd cd_c28_16, ↓exq_cd cd_c28_18, ↓exq_cd cd_c28_19, ↓exq_cd cd_c28_17, ↓exq_cd cd_c28_21, ↓exq_cd cd_c28_23, ↓exq_cd cd_c28_24, ↓exq_cd cd_c28_25, ↓exq_cd cd_c28_26, ↓exq_cd cd_c28_28, r28_18, r28_24, r28_28, plA28, pl28]
      repeat (refine And.intro (a := (_ = true)) (by first | (simp; done) | (simp; omega)) ?_)
      rw [bad (fun h => h3 (congrArg (fun x => x.2.2) h))]
      exact Res.val _ _
    have eq : tri (rowA rs i) = tri (rowA qs i) := by simp only [tri, h1, h2, h3]
    refine ExQ_ok [] 2000 plsOk noK ?_
    (try rw [exh]); simp (maxSteps := 4000000) only [h, g0, e, e', h1, h2, h3, Bool.and_self, Bool.not_true, stops, inK, stepF, frsF, frF, itemF, codeF, condF, opsF, opsW, opF, drF, drO, drW, drC, wtS, sopF, pv, bltF, callF, popF, lopF, cls, rdl, p_move, p_assign, p_binOp, p_indexAddr, p_len, l_load, SY.get, SY.put, SY.ev, SY.mk, SY.nth, dr, tk, pack, parts, rdC, ar, bopInt, bopEq, eqPs, bop, plk, exq_go, exq_t, exq_f, ↓reduceIte, Nat.reduceLT, Nat.reduceEqDiff, Nat.reduceAdd, Nat.reduceSub, Bool.and_true, Bool.not_true, reduceCtorEq, true_and, Bool.and_self, Int.toNat_natCast, Int.reduceLE, decide_true, ti3, ti22, ti29, regAt, body28, Try.f28, ↓exq_cd cd_c28_15, ↓exq_cd cd_c28_16, ↓exq_cd cd_c28_18, ↓exq_cd cd_c28_19, ↓exq_cd cd_c28_17, ↓exq_cd cd_c28_21, ↓exq_cd cd_c28_23, ↓exq_cd cd_c28_24, ↓exq_cd cd_c28_25, ↓exq_cd cd_c28_22, r28_18, r28_24, r28_22, plA28, pl28]
    repeat (refine And.intro (a := (_ = true)) (by first | (simp; done) | (simp; omega)) ?_)
    refine Rch.fit1 hC [] (bl' := []) (tm' := tX5 t u rs qs c d (i + 1)) rfl List.nodup_nil rfl ⟨rfl, congrArg (fun x => AV.imr t 3 x c) (hf.ren _).symm, congrArg (fun x => AV.imr u 3 x d) (hg.ren _).symm, trivial⟩ (tX5_lv hf hg ..) trivial ?_
    exact ih ⟨i + 1, by omega, fun j hj' => by
      rcases Nat.lt_or_ge j i with h4 | h4
      · exact hj j h4
      · rw [show j = i by omega]; exact eq⟩ (by simp only; omega)
  · refine ExQ_ok [] 2000 plsOk noK ?_
    (try rw [exh]); simp (maxSteps := 4000000) only [h, g0, stops, stepF, frsF, frF, itemF, codeF, condF, opsF, opsW, opF, stepS, wtS, sopF, pv, bltF, callF, p_move, p_assign, p_binOp, p_len, SY.get, SY.put, SY.ev, SY.mk, bopInt, bop, leaveS, retS, exitS, killL, isDefs, resS, resAll, tup1, exq_go, exq_f, ↓reduceIte, Nat.reduceLT, Nat.reduceEqDiff, Nat.reduceAdd, reduceCtorEq, true_and, decide_false, ti3, ti22, regAt, fi28, body28, Try.f28, ↓exq_cd cd_c28_15, ↓exq_cd cd_c28_16, ↓exq_cd cd_c28_18, ↓exq_cd cd_c28_19, ↓exq_cd cd_c28_11, ↓exq_cd cd_c28_29, r28_18, r28_29]
    repeat (refine And.intro (a := (_ = true)) (by first | (simp; done) | (simp; omega)) ?_)
    rw [same_all hlen (fun j h4 => hj j (by omega))]
    exact Res.val _ _
theorem rsame_ok : SpecOk Try.prog (plOf pls) 28 sSame := by
  refine ⟨_, fi28, fun args r bl1 h => ?_⟩
  unfold sSame at h
  split at h
  · simp only [Option.some.injEq, Prod.mk.injEq, Bool.and_eq_true, decide_eq_true_eq] at h
    obtain ⟨⟨h1, h2, h3, h4⟩, rfl, rfl⟩ := h
    exact ⟨by simp, fun C hC _ => rsame_run C hC _ _ _ _ _ _ h1 h2 h3 h4⟩
  · cases h

set_option maxRecDepth 100000 in
set_option maxHeartbeats 4000000 in
theorem members_run (C : Ctx) (hC : C.β.b = []) (t u : Bool) (rs qs : List (List AV)) (c d : Option Nat) (hm : rs.all isM = true) (hq : qs.all isM = true) (hx : rs.length < 4611686018427387904) (hx2 : qs.length < 4611686018427387904) : Rch Try.prog (plOf pls) C (conf0 12 ⟨26, [.tmp 4], code12⟩ [.imr t 3 rs c, .imr u 3 qs d] []) (Res (.v (.bool (sameR rs qs))) []) := by
  have hf := isM_flat hm
  have hg := isM_flat hq
  by_cases hlen : rs.length = qs.length
  case neg =>
    have g0 : ¬ (rs.length : Int) = qs.length := by omega
    refine ExQ_ok [] 2000 plsOk noK ?_
    simp only [conf0]
    (try rw [exh]); simp (maxSteps := 4000000) only [g0, stops, stepF, frsF, frF, itemF, codeF, condF, opsF, opsW, opF, stepS, wtS, sopF, pv, bltF, callF, p_move, p_assign, p_binOp, p_len, SY.get, SY.put, SY.ev, SY.mk, SY.ini, bopInt, bop, leaveS, retS, killL, isDefs, resS, resAll, tup1, exq_go, exq_t, ↓reduceIte, Nat.reduceLT, Nat.reduceEqDiff, Nat.reduceAdd, reduceCtorEq, true_and, Nat.zero_add, decide_true, not_false_eq_true, ti3, ti22, regAt, fi12, body12, Try.f12, ↓exq_cd cd_code12, ↓exq_cd cd_c12_1, ↓exq_cd cd_c12_2, ↓exq_cd cd_c12_3, ↓exq_cd cd_c12_5, ↓exq_cd cd_c12_6, ↓exq_cd cd_c12_7, ↓exq_cd cd_c12_9, r12_1, r12_5, r12_9]
    rw [same_len hlen]
    exact Res.val _ _
  have g0 : (rs.length : Int) = qs.length := by omega
  refine ExQ_ok [] 2000 plsOk noK ?_
  simp only [conf0]
  (try rw [exh]); simp (maxSteps := 4000000) only [g0, stops, inK, stepF, frsF, frF, itemF, codeF, condF, opsF, opsW, opF, wtS, sopF, pv, bltF, callF, p_move, p_assign, p_binOp, p_len, SY.get, SY.put, SY.ev, SY.mk, SY.ini, bopInt, bop, exq_go, exq_f, ↓reduceIte, Nat.reduceLT, Nat.reduceEqDiff, Nat.reduceAdd, reduceCtorEq, true_and, Bool.and_self, Nat.zero_add, Int.reduceLE, decide_true, decide_false, not_true_eq_false, ti3, ti22, regAt, body12, Try.f12, ↓exq_cd cd_code12, ↓exq_cd cd_c12_1, ↓exq_cd cd_c12_2, ↓exq_cd cd_c12_3, ↓exq_cd cd_c12_5, ↓exq_cd cd_c12_6, ↓exq_cd cd_c12_4, ↓exq_cd cd_c12_10, ↓exq_cd cd_c12_12, ↓exq_cd cd_c12_13, ↓exq_cd cd_c12_14, r12_1, r12_5, r12_12]
  repeat (refine And.intro (a := (_ = true)) (by first | (simp; done) | (simp; omega)) ?_)
  refine Rch.loop plsOk ?_
  refine Rch.fit1 hC [] (bl' := []) (tm' := tX5 t u rs qs c d 0) rfl List.nodup_nil rfl ⟨rfl, congrArg (fun x => AV.imr t 3 x c) (hf.ren _).symm, congrArg (fun x => AV.imr u 3 x d) (hg.ren _).symm, trivial⟩ (tX5_lv hf hg ..) trivial ?_
  refine loop_ind plsOk (α := {i : Nat // i ≤ rs.length ∧ ∀ j, j < i → tri (rowA rs j) = tri (rowA qs j)}) (fun a => rs.length - a.1) (fun a => tX5 t u rs qs c d a.1) (fun _ => []) (fun a => Res (.v (.bool (sameR rs qs))) []) ?_ ⟨0, Nat.zero_le _, fun j hj => absurd hj (Nat.not_lt_zero _)⟩
  rintro ⟨i, hi, hj⟩ ih
  simp only [tX5] at hi hj ih ⊢
  by_cases h : (i : Int) < qs.length
  · have e := isM_row hm (i := i) (by omega)
    have e' := isM_row hq (i := i) (by omega)
    have bad : tri (rowA rs i) ≠ tri (rowA qs i) → sameR rs qs = false := fun hne => same_ne hlen (by omega) hne
    by_cases h1 : idR (rowA rs i) = idR (rowA qs i)
    case neg =>
      refine ExQ_ok [] 2000 plsOk noK ?_
      (try rw [exh]); simp (maxSteps := 4000000) only [h, g0, e, e', h1, Bool.false_and, Bool.not_false, stops, stepF, frsF, frF, itemF, codeF, condF, opsF, opsW, opF, drF, drO, drW, drC, stepS, wtS, sopF, pv, bltF, callF, popF, lopF, cls, rdl, p_move, p_assign, p_binOp, p_indexAddr, p_len, l_load, SY.get, SY.put, SY.ev, SY.mk, SY.nth, dr, tk, pack, parts, rdC, bopInt, bopEq, eqPs, bop, leaveS, retS, killL, isDefs, resS, resAll, tup1, plk, exq_go, exq_t, ↓reduceIte, Nat.reduceLT, Nat.reduceEqDiff, Nat.reduceAdd, Nat.reduceSub, Bool.and_true, Bool.not_false, reduceCtorEq, true_and, Int.toNat_natCast, decide_true, decide_false, ti3, ti22, ti29, regAt, fi12, body12, Try.f12, ↓exq_cd cd_c12_15, ↓exq_cd cd_c12_16, ↓exq_cd cd_c12_18, ↓exq_cd cd_c12_19, ↓exq_cd cd_c12_17, ↓exq_cd cd_c12_21, ↓exq_cd cd_c12_23, ↓exq_cd cd_c12_24, ↓exq_cd cd_c12_25, ↓exq_cd cd_c12_26, ↓exq_cd cd_c12_28, r12_18, r12_24, r12_28, plA12, pl12]
      repeat (refine And.intro (a := (_ = true)) (by first | (simp; done) | (simp; omega)) ?_)
      rw [bad (fun h => h1 (congrArg Prod.fst h))]
      exact Res.val _ _
    by_cases h2 : stR (rowA rs i) = stR (rowA qs i)
    case neg =>
      refine ExQ_ok [] 2000 plsOk noK ?_
      (try rw [exh]); simp (maxSteps := 4000000) only [h, g0, e, e', h1, h2, Bool.false_and, Bool.and_false, Bool.not_false, stops, stepF, frsF, frF, itemF, codeF, condF, opsF, opsW, opF, drF, drO, drW, drC, stepS, wtS, sopF, pv, bltF, callF, popF, lopF, cls, rdl, p_move, p_assign, p_binOp, p_indexAddr, p_len, l_load, SY.get, SY.put, SY.ev, SY.mk, SY.nth, dr, tk, pack, parts, rdC, bopInt, bopEq, eqPs, bop, leaveS, retS, killL, isDefs, resS, resAll, tup1, plk, exq_go, exq_t, ↓reduceIte, Nat.reduceLT, Nat.reduceEqDiff, Nat.reduceAdd, Nat.reduceSub, Bool.and_true, Bool.not_false, reduceCtorEq, true_and, Int.toNat_natCast, decide_true, decide_false, ti3, ti22, ti29, regAt, fi12, body12, Try.f12, ↓exq_cd cd_c12_15, ↓exq_cd cd_c12_16, ↓exq_cd cd_c12_18, ↓exq_cd cd_c12_19, ↓exq_cd cd_c12_17, ↓exq_cd cd_c12_21, ↓exq_cd cd_c12_23, ↓exq_cd cd_c12_24, ↓exq_cd cd_c12_25, ↓exq_cd cd_c12_26, ↓exq_cd cd_c12_28, r12_18, r12_24, r12_28, plA12, pl12]
      repeat (refine And.intro (a := (_ = true)) (by first | (simp; done) | (simp; omega)) ?_)
      rw [bad (fun h => h2 (congrArg (fun x => x.2.1) h))]
      exact Res.val _ _
    by_cases h3 : icR (rowA rs i) = icR (rowA qs i)
    case neg =>
      refine ExQ_ok [] 2000 plsOk noK ?_
      (try rw [exh]); simp (maxSteps := 4000000) only [h, g0, e, e', h1, h2, h3, Bool.and_false, Bool.not_false, stops, stepF, frsF, frF, itemF, codeF, condF, opsF, opsW, opF, drF, drO, drW, drC, stepS, wtS, sopF, pv, bltF, callF, popF, lopF, cls, rdl, p_move, p_assign, p_binOp, p_indexAddr, p_len, l_load, SY.get, SY.put, SY.ev, SY.mk, SY.nth, dr, tk, pack, parts, rdC, bopInt, bopEq, eqPs, bop, leaveS, retS, killL, isDefs, resS, resAll, tup1, plk, exq_go, exq_t, ↓reduceIte, Nat.reduceLT, Nat.reduceEqDiff, Nat.reduceAdd, Nat.reduceSub, Bool.and_true, Bool.not_false, reduceCtorEq, true_and, Int.toNat_natCast, decide_true, decide_false, ti3, ti22, ti29, regAt, fi12, body12, Try.f12, ↓exq_cd cd_c12_15, ↓exq_cd cd_c12_16, ↓exq_cd cd_c12_18, ↓exq_cd cd_c12_19, ↓exq_cd cd_c12_17, ↓exq_cd cd_c12_21, ↓exq_cd cd_c12_23, ↓exq_cd cd_c12_24, ↓exq_cd cd_c12_25, ↓exq_cd cd_c12_26, ↓exq_cd cd_c12_28, r12_18, r12_24, r12_28, plA12, pl12]
      repeat (refine And.intro (a := (_ = true)) (by first | (simp; done) | (simp; omega)) ?_)
      rw [bad (fun h => h3 (congrArg (fun x => x.2.2) h))]
      exact Res.val _ _
    have eq : tri (rowA rs i) = tri (rowA qs i) := by simp only [tri, h1, h2, h3]
    refine ExQ_ok [] 2000 plsOk noK ?_
    (try rw [exh]); simp (maxSteps := 4000000) only [h, g0, e, e', h1, h2, h3, Bool.and_self, Bool.not_true, stops, inK, stepF, frsF, frF, itemF, codeF, condF, opsF, opsW, opF, drF, drO, drW, drC, wtS, sopF, pv, bltF, callF, popF, lopF, cls, rdl, p_move, p_assign, p_binOp, p_indexAddr, p_len, l_load, SY.get, SY.put, SY.ev, SY.mk, SY.nth, dr, tk, pack, parts, rdC, ar, bopInt, bopEq, eqPs, bop, plk, exq_go, exq_t, exq_f, ↓reduceIte, Nat.reduceLT, Nat.reduceEqDiff, Nat.reduceAdd, Nat.reduceSub, Bool.and_true, Bool.not_true, reduceCtorEq, true_and, Bool.and_self, Int.toNat_natCast, Int.reduceLE, decide_true, ti3, ti22, ti29, regAt, body12, Try.f12, ↓exq_cd cd_c12_15, ↓exq_cd cd_c12_16, ↓exq_cd cd_c12_18, ↓exq_cd cd_c12_19, ↓exq_cd cd_c12_17, ↓exq_cd cd_c12_21, ↓exq_cd cd_c12_23, ↓exq_cd cd_c12_24, ↓exq_cd cd_c12_25, ↓exq_cd cd_c12_22, r12_18, r12_24, r12_22, plA12, pl12]
    repeat (refine And.intro (a := (_ = true)) (by first | (simp; done) | (simp; omega)) ?_)
    refine Rch.fit1 hC [] (bl' := []) (tm' := tX5 t u rs qs c d (i + 1)) rfl List.nodup_nil rfl ⟨rfl, congrArg (fun x => AV.imr t 3 x c) (hf.ren _).symm, congrArg (fun x => AV.imr u 3 x d) (hg.ren _).symm, trivial⟩ (tX5_lv hf hg ..) trivial ?_
    exact ih ⟨i + 1, by omega, fun j hj' => by
      rcases Nat.lt_or_ge j i with h4 | h4
      · exact hj j h4
      · rw [show j = i by omega]; exact eq⟩ (by simp only; omega)
  · refine ExQ_ok [] 2000 plsOk noK ?_
    (try rw [exh]); simp (maxSteps := 4000000) only [h, g0, stops, stepF, frsF, frF, itemF, codeF, condF, opsF, opsW, opF, stepS, wtS, sopF, pv, bltF, callF, p_move, p_assign, p_binOp, p_len, SY.get, SY.put, SY.ev, SY.mk, bopInt, bop, leaveS, retS, exitS, killL, isDefs, resS, resAll, tup1, exq_go, exq_f, ↓reduceIte, Nat.reduceLT, Nat.reduceEqDiff, Nat.reduceAdd, reduceCtorEq, true_and, decide_false, ti3, ti22, regAt, fi12, body12, Try.f12, ↓exq_cd cd_c12_15, ↓exq_cd cd_c12_16, ↓exq_cd cd_c12_18, ↓exq_cd cd_c12_19, ↓exq_cd cd_c12_11, ↓exq_cd cd_c12_29, r12_18, r12_29]
    repeat (refine And.intro (a := (_ = true)) (by first | (simp; done) | (simp; omega)) ?_)
    rw [same_all hlen (fun j h4 => hj j (by omega))]
    exact Res.val _ _
theorem members_ok : SpecOk Try.prog (plOf pls) 12 sSame := by
  refine ⟨_, fi12, fun args r bl1 h => ?_⟩
  unfold sSame at h
  split at h
  · simp only [Option.some.injEq, Prod.mk.injEq, Bool.and_eq_true, decide_eq_true_eq] at h
    obtain ⟨⟨h1, h2, h3, h4⟩, rfl, rfl⟩ := h
    exact ⟨by simp, fun C hC _ => members_run C hC _ _ _ _ _ _ h1 h2 h3 h4⟩
  · cases h
end Go.Proofs.Ytdanhpemheldlaa
