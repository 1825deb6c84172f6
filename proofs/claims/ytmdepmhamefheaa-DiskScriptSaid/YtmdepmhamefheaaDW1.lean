/- Disks: what one is in memory; the words of Append, Next. -/
import Derived.Test.YtmdepmhamefheaaOB
set_option linter.unusedSimpArgs false
set_option linter.unusedVariables false
-- FUNCTIONS 10 14 35 34 52 53 54
namespace Go.Proofs.Ytmdepmhamefheaa
open Go Go.SY
namespace DW
theorem plsOk : PlOk Try.prog (plOf pls) := OB.plsOk
theorem noK : KOk Try.prog (plOf pls) (fun _ => none) := fun g c h => by cases h
/-- A disk: its log, how much of it is firm, a next area, a room, steps, a fuse, whether it is out. -/
structure DS where
  l : List Int
  f : Int
  x : List Int
  xf : Int
  room : Int
  n : Int
  u : Option Int
  out : Bool
def fuP : Option Int → AV
  | none => .v (.pointer none)
  | some _ => .ptr 3 0 1 0
def fuL : Option Int → Bls
  | none => []
  | some k => [some (.lit [.v (.int .i64 k)])]
def layD (s : DS) : Bls := some (.lit [.sl 1 0 1 s.l.length none, .v (.int .i64 s.f), .sl 2 0 1 s.x.length none, .v (.int .i64 s.xf), .v (.int .i64 s.room), .v (.int .i64 s.n), fuP s.u, .v (.bool s.out), .v (.bool true)]) :: some (.num .u8 s.l) :: some (.num .u8 s.x) :: fuL s.u
def findD (bl : Bls) (l : Nat) : Option (Bool × List Nat × DS) := match lvl bl l with
  | some (.lit [.sl l1 0 1 n1 none, .v (.int .i64 f), .sl l2 0 1 n2 none, .v (.int .i64 xf), .v (.int .i64 room), .v (.int .i64 n), fu, .v (.bool out), .v (.bool true)]) => (match lvl bl l1 with
    | some (.num .u8 xs) => (match lvl bl l2 with
      | some (.num .u8 ys) => (match fu with
        | .v (.pointer none) => some (decide (xs.length = n1) && (decide (ys.length = n2) && decide [l, l1, l2].Nodup), [l, l1, l2], ⟨xs, f, ys, xf, room, n, none, out⟩)
        | .ptr l3 0 1 0 => (match lvl bl l3 with
          | some (.lit [.v (.int .i64 k)]) => some (decide (xs.length = n1) && (decide (ys.length = n2) && decide [l, l1, l2, l3].Nodup), [l, l1, l2, l3], ⟨xs, f, ys, xf, room, n, some k, out⟩)
          | _ => none)
        | _ => none)
      | _ => none)
    | _ => none)
  | _ => none
theorem lvl_lt {bl : Bls} {l : Nat} {c : Ct} (h : lvl bl l = some c) : l < bl.length := (List.getElem?_eq_some_iff.1 (lvl_get h)).1
theorem findD_ok {bl : Bls} {l : Nat} {σ : List Nat} {s : DS} (h : findD bl l = some (true, σ, s)) : σ.Nodup ∧ (σ.all fun l => decide (l < bl.length)) = true ∧ σ.length = (layD s).length ∧ FitB (nm σ) σ.length bl 0 (layD s) ∧ 1 ≤ σ.length ∧ nm σ 0 = l := by
  unfold findD at h
  split at h
  · rename_i l1 n1 f l2 n2 xf room n fu out e0
    split at h
    · rename_i xs e1
      split at h
      · rename_i ys e2
        split at h
        · simp only [Option.some.injEq, Prod.mk.injEq, Bool.and_eq_true, decide_eq_true_eq] at h
          obtain ⟨⟨rfl, rfl, h3⟩, rfl, rfl⟩ := h
          refine ⟨h3, ?_, rfl, ⟨⟨e0, rfl⟩, ⟨e1, rfl⟩, ⟨e2, rfl⟩, trivial⟩, by simp, rfl⟩
          have := lvl_lt e0; have := lvl_lt e1; have := lvl_lt e2
          simp only [List.all_cons, List.all_nil, Bool.and_true, Bool.and_eq_true, decide_eq_true_eq]
          exact ⟨by assumption, by assumption, by assumption⟩
        · rename_i l3
          split at h
          · rename_i k e3
            simp only [Option.some.injEq, Prod.mk.injEq, Bool.and_eq_true, decide_eq_true_eq] at h
            obtain ⟨⟨rfl, rfl, h3⟩, rfl, rfl⟩ := h
            refine ⟨h3, ?_, rfl, ⟨⟨e0, rfl⟩, ⟨e1, rfl⟩, ⟨e2, rfl⟩, ⟨e3, rfl⟩, trivial⟩, by simp, rfl⟩
            have := lvl_lt e0; have := lvl_lt e1; have := lvl_lt e2; have := lvl_lt e3
            simp only [List.all_cons, List.all_nil, Bool.and_true, Bool.and_eq_true, decide_eq_true_eq]
            exact ⟨by assumption, by assumption, by assumption, by assumption⟩
          · cases h
        · cases h
      · cases h
    · cases h
  · cases h
/-- A step that lays bytes, behind the log (or the next area). -/
def dLay (nx : Bool) (s : DS) (b : List Int) : Int × DS :=
  if s.out = true then (11, s) else if s.room < s.l.length + s.x.length + b.length then (8, s) else
  match s.u with
  | none => (0, ⟨if nx then s.l else s.l ++ b, s.f, if nx then s.x ++ b else s.x, s.xf, s.room, s.n + 1, none, false⟩)
  | some k => if k = 0 then (11, ⟨if nx then s.l else s.l ++ b, s.f, if nx then s.x ++ b else s.x, s.xf, s.room, s.n + 1, some 0, true⟩)
    else (0, ⟨if nx then s.l else s.l ++ b, s.f, if nx then s.x ++ b else s.x, s.xf, s.room, s.n + 1, some (k - 1), false⟩)
def fuOk : Option Int → Bool
  | none => true
  | some k => decide (0 ≤ k) && decide (k ≤ 9223372036854775807)
def numOk (s : DS) : Bool := decide (0 ≤ s.n) && (decide (s.n < 4611686018427387904) && (decide (s.l.length + s.x.length ≤ 70368744177664) && (decide (0 ≤ s.f) && (decide (s.f ≤ s.l.length) && fuOk s.u))))
theorem take_self (xs : List Int) : xs.take xs.length = xs := List.take_of_length_le (Nat.le_refl _)
set_option maxRecDepth 100000 in
set_option maxHeartbeats 4000000 in
theorem app_word (s : DS) (t : Bool) (b : List Int) (c : Option Nat) (hs : numOk s = true) (hb : b.length ≤ 1000000000) : Word Try.prog (plOf pls) 10 [.ptr 0 0 9 0, .imn t .u8 b c] (layD s) (ObQ 1 (.v (.int .i64 (dLay false s b).1)) (layD (dLay false s b).2)) := by
  obtain ⟨l, f, x, xf, room, n, u, out⟩ := s
  simp only [numOk, Bool.and_eq_true, decide_eq_true_eq] at hs
  obtain ⟨hn0, hn1, hlx, hf0, hf1, hu⟩ := hs
  refine ⟨_, fi10, by simp, fun C hC hl => ?_⟩
  cases out with
  | true =>
    have e : dLay false ⟨l, f, x, xf, room, n, u, true⟩ b = (11, ⟨l, f, x, xf, room, n, u, true⟩) := by simp [dLay]
    rw [e]
    cases u with
    | none =>
      refine ExQ_ok [] 2000 plsOk noK ?_
      simp only [conf0, layD, fuP, fuL]
      (try rw [exh]); simp (maxSteps := 4000000) only [stops, inK, stepF, frsF, frF, itemF, codeF, condF, opsF, opsW, opF, callO, stepS, wtS, gdst, gdl, sopF, pv, evq, callF, calleeS, quiet, p_move, p_assign, p_pick, p_nilCheck, p_binOp, p_unOp, p_fieldAddr, l_load, e_box, SY.get, SY.put, SY.ev, SY.mk, SY.nth, SY.lvl, SY.ini, dr, flat, at1, rdC, rdCt, bopEq, isPtr, bop, pickAV, isArr, ctOf, enterS, leaveS, retS, finishS, killL, isDefs, resS, resAll, tup1, AV.scal, exq_go, exq_t, exq_f, ↓reduceIte, Nat.reduceLT, Nat.reduceLeDiff, Nat.reduceEqDiff, Nat.reduceAdd, Nat.reduceSub, Bool.not_false, Bool.not_true, List.contains_nil, reduceCtorEq, true_and, List.map_cons, List.map_nil, Bool.and_self, List.length_cons, List.length_nil, List.cons_append, List.nil_append, List.append_nil, Nat.zero_add, Nat.add_zero, Nat.zero_mul, Int.reduceLE, decide_true, ti4, ti22, ti24, ti54, ti58, ti62, regAt, fi10, body10, Try.f10, fi35, body35, Try.f35, fi34, body34, Try.f34, ↓exq_cd cd_code10, ↓exq_cd cd_c10_1, ↓exq_cd cd_c10_2, ↓exq_cd cd_c10_3, ↓exq_cd cd_c10_5, ↓exq_cd cd_c10_6, ↓exq_cd cd_c10_4, ↓exq_cd cd_c10_10, ↓exq_cd cd_code34, ↓exq_cd cd_c34_1, ↓exq_cd cd_c34_2, ↓exq_cd cd_c34_3, ↓exq_cd cd_code35, ↓exq_cd cd_c35_1, ↓exq_cd cd_c35_2, ↓exq_cd cd_c35_3, ↓exq_cd cd_c35_5, ↓exq_cd cd_c35_6, ↓exq_cd cd_c35_7, ↓exq_cd cd_c35_9, ↓exq_cd cd_c35_12, ↓exq_cd cd_c35_13, ↓exq_cd cd_c35_14, ↓exq_cd cd_c35_17, r10_1, r10_5, r10_10, r34_1, r34_3, r35_1, r35_6, r35_12, r35_17]
      repeat (refine And.intro (a := (_ = true)) (by first | (simp; done) | (simp; omega)) ?_)
      exact ObQ.mk [0, 1, 2] (by decide) rfl rfl rfl ⟨rfl, rfl, rfl, trivial⟩
    | some k =>
      refine ExQ_ok [] 2000 plsOk noK ?_
      simp only [conf0, layD, fuP, fuL]
      (try rw [exh]); simp (maxSteps := 4000000) only [stops, inK, stepF, frsF, frF, itemF, codeF, condF, opsF, opsW, opF, callO, stepS, wtS, gdst, gdl, sopF, pv, evq, callF, calleeS, quiet, p_move, p_assign, p_pick, p_nilCheck, p_binOp, p_unOp, p_fieldAddr, l_load, e_box, SY.get, SY.put, SY.ev, SY.mk, SY.nth, SY.lvl, SY.ini, dr, flat, at1, rdC, rdCt, bopEq, isPtr, bop, pickAV, isArr, ctOf, enterS, leaveS, retS, finishS, killL, isDefs, resS, resAll, tup1, AV.scal, exq_go, exq_t, exq_f, ↓reduceIte, Nat.reduceLT, Nat.reduceLeDiff, Nat.reduceEqDiff, Nat.reduceAdd, Nat.reduceSub, Bool.not_false, Bool.not_true, List.contains_nil, reduceCtorEq, true_and, List.map_cons, List.map_nil, Bool.and_self, List.length_cons, List.length_nil, List.cons_append, List.nil_append, List.append_nil, Nat.zero_add, Nat.add_zero, Nat.zero_mul, Int.reduceLE, decide_true, ti4, ti22, ti24, ti54, ti58, ti62, regAt, fi10, body10, Try.f10, fi35, body35, Try.f35, fi34, body34, Try.f34, ↓exq_cd cd_code10, ↓exq_cd cd_c10_1, ↓exq_cd cd_c10_2, ↓exq_cd cd_c10_3, ↓exq_cd cd_c10_5, ↓exq_cd cd_c10_6, ↓exq_cd cd_c10_4, ↓exq_cd cd_c10_10, ↓exq_cd cd_code34, ↓exq_cd cd_c34_1, ↓exq_cd cd_c34_2, ↓exq_cd cd_c34_3, ↓exq_cd cd_code35, ↓exq_cd cd_c35_1, ↓exq_cd cd_c35_2, ↓exq_cd cd_c35_3, ↓exq_cd cd_c35_5, ↓exq_cd cd_c35_6, ↓exq_cd cd_c35_7, ↓exq_cd cd_c35_9, ↓exq_cd cd_c35_12, ↓exq_cd cd_c35_13, ↓exq_cd cd_c35_14, ↓exq_cd cd_c35_17, r10_1, r10_5, r10_10, r34_1, r34_3, r35_1, r35_6, r35_12, r35_17]
      repeat (refine And.intro (a := (_ = true)) (by first | (simp; done) | (simp; omega)) ?_)
      exact ObQ.mk [0, 1, 2, 3] (by decide) rfl rfl rfl ⟨rfl, rfl, rfl, rfl, trivial⟩
  | false =>
    by_cases hr : room < (l.length : Int) + x.length + b.length
    · have e : dLay false ⟨l, f, x, xf, room, n, u, false⟩ b = (8, ⟨l, f, x, xf, room, n, u, false⟩) := by simp [dLay, hr]
      rw [e]
      cases u with
      | none =>
        refine ExQ_ok [] 2000 plsOk noK ?_
        simp only [conf0, layD, fuP, fuL]
        (try rw [exh]); simp (maxSteps := 4000000) only [hr, stops, inK, stepF, frsF, frF, itemF, codeF, condF, opsF, opsW, opF, callO, drF, drO, drW, drC, stepS, wtS, gdst, gdl, sopF, pv, evq, callF, calleeS, popF, lopF, bltP, callP, cls, rdl, quiet, p_move, p_assign, p_pick, p_nilCheck, p_binOp, p_unOp, p_fieldAddr, p_len, l_load, e_box, SY.get, SY.put, SY.ev, SY.mk, SY.nth, SY.lvl, SY.ini, dr, flat, at1, rdC, rdCt, ar, bopInt, bopEq, isPtr, bop, pickAV, isArr, ctOf, enterS, leaveS, retS, finishS, killL, isDefs, resS, resAll, tup1, AV.scal, plk, exq_go, exq_t, exq_f, ↓reduceIte, Nat.reduceLT, Nat.reduceLeDiff, Nat.reduceEqDiff, Nat.reduceAdd, Nat.reduceSub, Bool.not_false, Bool.not_true, List.contains_nil, reduceCtorEq, true_and, List.map_cons, List.map_nil, Bool.and_self, List.length_cons, List.length_nil, List.cons_append, List.nil_append, List.append_nil, Nat.zero_add, Nat.add_zero, Nat.zero_mul, Nat.mul_one, Int.reduceLE, decide_true, ti3, ti4, ti22, ti24, ti52, ti54, ti55, ti58, ti62, regAt, fi10, body10, Try.f10, fi35, body35, Try.f35, fi34, body34, Try.f34, ↓exq_cd cd_code10, ↓exq_cd cd_c10_1, ↓exq_cd cd_c10_2, ↓exq_cd cd_c10_3, ↓exq_cd cd_c10_5, ↓exq_cd cd_c10_6, ↓exq_cd cd_c10_4, ↓exq_cd cd_c10_10, ↓exq_cd cd_code34, ↓exq_cd cd_c34_1, ↓exq_cd cd_c34_2, ↓exq_cd cd_c34_3, ↓exq_cd cd_code35, ↓exq_cd cd_c35_1, ↓exq_cd cd_c35_2, ↓exq_cd cd_c35_3, ↓exq_cd cd_c35_5, ↓exq_cd cd_c35_6, ↓exq_cd cd_c35_7, ↓exq_cd cd_c35_9, ↓exq_cd cd_c35_12, ↓exq_cd cd_c35_13, ↓exq_cd cd_c35_15, ↓exq_cd cd_c35_18, ↓exq_cd cd_c35_19, ↓exq_cd cd_c35_20, ↓exq_cd cd_c35_22, r10_1, r10_5, r10_10, r34_1, r34_3, r35_1, r35_6, r35_12, r35_18, r35_22, plA35, pl35]
        repeat (refine And.intro (a := (_ = true)) (by first | (simp; done) | (simp; omega)) ?_)
        exact ObQ.mk [0, 1, 2] (by decide) rfl rfl rfl ⟨rfl, rfl, rfl, trivial⟩
      | some k =>
        refine ExQ_ok [] 2000 plsOk noK ?_
        simp only [conf0, layD, fuP, fuL]
        (try rw [exh]); simp (maxSteps := 4000000) only [hr, stops, inK, stepF, frsF, frF, itemF, codeF, condF, opsF, opsW, opF, callO, drF, drO, drW, drC, stepS, wtS, gdst, gdl, sopF, pv, evq, callF, calleeS, popF, lopF, bltP, callP, cls, rdl, quiet, p_move, p_assign, p_pick, p_nilCheck, p_binOp, p_unOp, p_fieldAddr, p_len, l_load, e_box, SY.get, SY.put, SY.ev, SY.mk, SY.nth, SY.lvl, SY.ini, dr, flat, at1, rdC, rdCt, ar, bopInt, bopEq, isPtr, bop, pickAV, isArr, ctOf, enterS, leaveS, retS, finishS, killL, isDefs, resS, resAll, tup1, AV.scal, plk, exq_go, exq_t, exq_f, ↓reduceIte, Nat.reduceLT, Nat.reduceLeDiff, Nat.reduceEqDiff, Nat.reduceAdd, Nat.reduceSub, Bool.not_false, Bool.not_true, List.contains_nil, reduceCtorEq, true_and, List.map_cons, List.map_nil, Bool.and_self, List.length_cons, List.length_nil, List.cons_append, List.nil_append, List.append_nil, Nat.zero_add, Nat.add_zero, Nat.zero_mul, Nat.mul_one, Int.reduceLE, decide_true, ti3, ti4, ti22, ti24, ti52, ti54, ti55, ti58, ti62, regAt, fi10, body10, Try.f10, fi35, body35, Try.f35, fi34, body34, Try.f34, ↓exq_cd cd_code10, ↓exq_cd cd_c10_1, ↓exq_cd cd_c10_2, ↓exq_cd cd_c10_3, ↓exq_cd cd_c10_5, ↓exq_cd cd_c10_6, ↓exq_cd cd_c10_4, ↓exq_cd cd_c10_10, ↓exq_cd cd_code34, ↓exq_cd cd_c34_1, ↓exq_cd cd_c34_2, ↓exq_cd cd_c34_3, ↓exq_cd cd_code35, ↓exq_cd cd_c35_1, ↓exq_cd cd_c35_2, ↓exq_cd cd_c35_3, ↓exq_cd cd_c35_5, ↓exq_cd cd_c35_6, ↓exq_cd cd_c35_7, ↓exq_cd cd_c35_9, ↓exq_cd cd_c35_12, ↓exq_cd cd_c35_13, ↓exq_cd cd_c35_15, ↓exq_cd cd_c35_18, ↓exq_cd cd_c35_19, ↓exq_cd cd_c35_20, ↓exq_cd cd_c35_22, r10_1, r10_5, r10_10, r34_1, r34_3, r35_1, r35_6, r35_12, r35_18, r35_22, plA35, pl35]
        repeat (refine And.intro (a := (_ = true)) (by first | (simp; done) | (simp; omega)) ?_)
        exact ObQ.mk [0, 1, 2, 3] (by decide) rfl rfl rfl ⟨rfl, rfl, rfl, rfl, trivial⟩
    · have tl := take_self l
      have tx := take_self x
      cases u with
      | none =>
        have e : dLay false ⟨l, f, x, xf, room, n, none, false⟩ b = (0, ⟨l ++ b, f, x, xf, room, n + 1, none, false⟩) := by simp [dLay, hr]
        rw [e]
        refine ExQ_ok [] 2000 plsOk noK ?_
        simp only [conf0, layD, fuP, fuL]
        (try rw [exh]); simp (maxSteps := 4000000) only [hr, tl, stops, inK, stepF, frsF, frF, itemF, codeF, condF, opsF, opsW, opF, callO, drF, drO, drW, drC, stepS, wtS, gdst, gdl, sopF, pv, evq, bltF, callF, calleeS, popF, lopF, bltP, callP, cls, lvA, rdl, quiet, p_move, p_assign, p_pick, p_nilCheck, p_binOp, p_unOp, p_fieldAddr, p_makeFunc, p_len, l_load, roomN, appNN, srcN, dstN, e_store, e_box, e_append, SY.get, SY.put, SY.ev, SY.mk, SY.nth, SY.lvl, SY.setl, SY.ini, dr, flat, at1, rdC, rdCt, wrC, wrCt, ar, bopInt, bopEq, isPtr, bop, pickAV, numsAt, isArr, ctOf, killO, srcN, dstN, enterS, leaveS, retS, finishS, killL, isDefs, resS, resAll, tup1, AV.scal, plk, exq_go, exq_f, ↓reduceIte, Nat.reduceLT, Nat.reduceLeDiff, Nat.reduceEqDiff, Nat.reduceAdd, Nat.reduceSub, Nat.reduceBEq, Bool.and_true, Bool.true_and, Bool.not_false, Bool.not_true, List.contains_nil, List.contains_cons, Bool.or_false, Option.isNone_none, reduceCtorEq, true_and, Bool.false_eq_true, List.map_cons, List.map_nil, Bool.and_self, List.length_cons, List.length_nil, List.cons_append, List.nil_append, List.append_nil, Nat.zero_add, Nat.add_zero, Nat.zero_mul, Nat.mul_one, Int.reduceLE, decide_true, decide_false, alive, alive0, mks, noMk, ti3, ti4, ti5, ti22, ti24, ti52, ti54, ti55, ti56, ti58, ti62, regAt, fi10, body10, Try.f10, fi35, body35, Try.f35, fi34, body34, Try.f34, fi52, body52, Try.f52, fi53, body53, Try.f53, fi54, code54, Try.f54, ↓exq_cd cd_code10, ↓exq_cd cd_c10_1, ↓exq_cd cd_c10_2, ↓exq_cd cd_c10_3, ↓exq_cd cd_c10_5, ↓exq_cd cd_c10_6, ↓exq_cd cd_c10_4, ↓exq_cd cd_c10_10, ↓exq_cd cd_code34, ↓exq_cd cd_c34_1, ↓exq_cd cd_c34_2, ↓exq_cd cd_c34_3, ↓exq_cd cd_code35, ↓exq_cd cd_c35_1, ↓exq_cd cd_c35_2, ↓exq_cd cd_c35_3, ↓exq_cd cd_c35_5, ↓exq_cd cd_c35_6, ↓exq_cd cd_c35_7, ↓exq_cd cd_c35_9, ↓exq_cd cd_c35_12, ↓exq_cd cd_c35_13, ↓exq_cd cd_c35_15, ↓exq_cd cd_c35_18, ↓exq_cd cd_c35_19, ↓exq_cd cd_c35_4, ↓exq_cd cd_c35_23, ↓exq_cd cd_code52, ↓exq_cd cd_c52_1, ↓exq_cd cd_c52_2, ↓exq_cd cd_c52_3, ↓exq_cd cd_c52_4, ↓exq_cd cd_c52_5, ↓exq_cd cd_c52_6, ↓exq_cd cd_c52_7, ↓exq_cd cd_c52_8, ↓exq_cd cd_c52_9, ↓exq_cd cd_c52_11, ↓exq_cd cd_c52_12, ↓exq_cd cd_c52_10, ↓exq_cd cd_c52_18, ↓exq_cd cd_c52_19, ↓exq_cd cd_c52_20, ↓exq_cd cd_c52_22, ↓exq_cd cd_c52_23, ↓exq_cd cd_c52_21, ↓exq_cd cd_c52_26, ↓exq_cd cd_code53, r10_1, r10_5, r10_10, r34_1, r34_3, r35_1, r35_6, r35_12, r35_18, r35_23, r52_1, r52_3, r52_5, r52_7, r52_11, r52_18, r52_22, r52_26, r53, plA35, pl35, plA53, pl53]
        repeat (refine And.intro (a := (_ = true)) (by first | (simp; done) | (simp; omega)) ?_)
        exact ObQ.mk [0, 5, 2] (by decide) rfl rfl rfl ⟨rfl, rfl, rfl, trivial⟩
      | some k =>
        simp only [fuOk, Bool.and_eq_true, decide_eq_true_eq] at hu
        by_cases hk : k = 0
        · subst hk
          have e : dLay false ⟨l, f, x, xf, room, n, some 0, false⟩ b = (11, ⟨l ++ b, f, x, xf, room, n + 1, some 0, true⟩) := by simp [dLay, hr]
          rw [e]
          refine ExQ_ok [] 2000 plsOk noK ?_
          simp only [conf0, layD, fuP, fuL]
          (try rw [exh]); simp (maxSteps := 4000000) only [hr, tl, stops, inK, stepF, frsF, frF, itemF, codeF, condF, opsF, opsW, opF, callO, drF, drO, drW, drC, stepS, wtS, gdst, gdl, sopF, pv, evq, bltF, callF, calleeS, popF, lopF, bltP, callP, cls, lvA, rdl, quiet, p_move, p_assign, p_pick, p_nilCheck, p_binOp, p_unOp, p_fieldAddr, p_makeFunc, p_len, l_load, roomN, appNN, srcN, dstN, e_store, e_box, e_append, SY.get, SY.put, SY.ev, SY.mk, SY.nth, SY.lvl, SY.setl, SY.ini, dr, flat, at1, rdC, rdCt, wrC, wrCt, ar, bopInt, bopEq, isPtr, bop, pickAV, numsAt, isArr, ctOf, killO, srcN, dstN, enterS, leaveS, retS, finishS, killL, isDefs, resS, resAll, tup1, AV.scal, plk, exq_go, exq_t, exq_f, ↓reduceIte, Nat.reduceLT, Nat.reduceLeDiff, Nat.reduceEqDiff, Nat.reduceAdd, Nat.reduceSub, Nat.reduceBEq, Bool.and_true, Bool.true_and, Bool.not_false, Bool.not_true, List.contains_nil, List.contains_cons, Bool.or_false, reduceCtorEq, true_and, Bool.false_eq_true, List.map_cons, List.map_nil, Bool.and_self, List.length_cons, List.length_nil, List.cons_append, List.nil_append, List.append_nil, Nat.zero_add, Nat.add_zero, Nat.zero_mul, Nat.mul_one, Int.reduceLE, decide_true, decide_false, alive, alive0, mks, noMk, ti3, ti4, ti5, ti22, ti24, ti52, ti54, ti55, ti56, ti58, ti62, regAt, fi10, body10, Try.f10, fi35, body35, Try.f35, fi34, body34, Try.f34, fi52, body52, Try.f52, fi53, body53, Try.f53, ↓exq_cd cd_code10, ↓exq_cd cd_c10_1, ↓exq_cd cd_c10_2, ↓exq_cd cd_c10_3, ↓exq_cd cd_c10_5, ↓exq_cd cd_c10_6, ↓exq_cd cd_c10_4, ↓exq_cd cd_c10_10, ↓exq_cd cd_code34, ↓exq_cd cd_c34_1, ↓exq_cd cd_c34_2, ↓exq_cd cd_c34_3, ↓exq_cd cd_code35, ↓exq_cd cd_c35_1, ↓exq_cd cd_c35_2, ↓exq_cd cd_c35_3, ↓exq_cd cd_c35_5, ↓exq_cd cd_c35_6, ↓exq_cd cd_c35_7, ↓exq_cd cd_c35_9, ↓exq_cd cd_c35_12, ↓exq_cd cd_c35_13, ↓exq_cd cd_c35_15, ↓exq_cd cd_c35_18, ↓exq_cd cd_c35_19, ↓exq_cd cd_c35_4, ↓exq_cd cd_c35_23, ↓exq_cd cd_code52, ↓exq_cd cd_c52_1, ↓exq_cd cd_c52_2, ↓exq_cd cd_c52_3, ↓exq_cd cd_c52_4, ↓exq_cd cd_c52_5, ↓exq_cd cd_c52_6, ↓exq_cd cd_c52_7, ↓exq_cd cd_c52_8, ↓exq_cd cd_c52_9, ↓exq_cd cd_c52_11, ↓exq_cd cd_c52_12, ↓exq_cd cd_c52_13, ↓exq_cd cd_c52_15, ↓exq_cd cd_c52_16, ↓exq_cd cd_c52_17, ↓exq_cd cd_code53, r10_1, r10_5, r10_10, r34_1, r34_3, r35_1, r35_6, r35_12, r35_18, r35_23, r52_1, r52_3, r52_5, r52_7, r52_11, r52_15, r52_17, r53, plA35, pl35, plA53, pl53]
          repeat (refine And.intro (a := (_ = true)) (by first | (simp; done) | (simp; omega)) ?_)
          exact ObQ.mk [0, 6, 2, 3] (by decide) rfl rfl rfl ⟨rfl, rfl, rfl, rfl, trivial⟩
        · have e : dLay false ⟨l, f, x, xf, room, n, some k, false⟩ b = (0, ⟨l ++ b, f, x, xf, room, n + 1, some (k - 1), false⟩) := by simp [dLay, hr, hk]
          rw [e]
          refine ExQ_ok [] 2000 plsOk noK ?_
          simp only [conf0, layD, fuP, fuL]
          (try rw [exh]); simp (maxSteps := 4000000) only [hr, hk, tl, stops, inK, stepF, frsF, frF, itemF, codeF, condF, opsF, opsW, opF, callO, drF, drO, drW, drC, stepS, wtS, gdst, gdl, sopF, pv, evq, bltF, callF, calleeS, popF, lopF, bltP, callP, cls, lvA, rdl, quiet, p_move, p_assign, p_pick, p_nilCheck, p_binOp, p_unOp, p_fieldAddr, p_makeFunc, p_len, l_load, roomN, appNN, srcN, dstN, e_store, e_box, e_append, SY.get, SY.put, SY.ev, SY.mk, SY.nth, SY.lvl, SY.setl, SY.ini, dr, flat, at1, rdC, rdCt, wrC, wrCt, ar, bopInt, bopEq, isPtr, bop, pickAV, numsAt, isArr, ctOf, killO, srcN, dstN, enterS, leaveS, retS, finishS, killL, isDefs, resS, resAll, tup1, AV.scal, plk, exq_go, exq_t, exq_f, ↓reduceIte, Nat.reduceLT, Nat.reduceLeDiff, Nat.reduceEqDiff, Nat.reduceAdd, Nat.reduceSub, Nat.reduceBEq, Bool.and_true, Bool.true_and, Bool.not_false, Bool.not_true, List.contains_nil, List.contains_cons, Bool.or_false, reduceCtorEq, true_and, Bool.false_eq_true, List.map_cons, List.map_nil, Bool.and_self, List.length_cons, List.length_nil, List.cons_append, List.nil_append, List.append_nil, Nat.zero_add, Nat.add_zero, Nat.zero_mul, Nat.mul_one, Int.reduceLE, decide_true, decide_false, alive, alive0, mks, noMk, ti3, ti4, ti5, ti22, ti24, ti52, ti54, ti55, ti56, ti58, ti62, regAt, fi10, body10, Try.f10, fi35, body35, Try.f35, fi34, body34, Try.f34, fi52, body52, Try.f52, fi53, body53, Try.f53, fi54, code54, Try.f54, ↓exq_cd cd_code10, ↓exq_cd cd_c10_1, ↓exq_cd cd_c10_2, ↓exq_cd cd_c10_3, ↓exq_cd cd_c10_5, ↓exq_cd cd_c10_6, ↓exq_cd cd_c10_4, ↓exq_cd cd_c10_10, ↓exq_cd cd_code34, ↓exq_cd cd_c34_1, ↓exq_cd cd_c34_2, ↓exq_cd cd_c34_3, ↓exq_cd cd_code35, ↓exq_cd cd_c35_1, ↓exq_cd cd_c35_2, ↓exq_cd cd_c35_3, ↓exq_cd cd_c35_5, ↓exq_cd cd_c35_6, ↓exq_cd cd_c35_7, ↓exq_cd cd_c35_9, ↓exq_cd cd_c35_12, ↓exq_cd cd_c35_13, ↓exq_cd cd_c35_15, ↓exq_cd cd_c35_18, ↓exq_cd cd_c35_19, ↓exq_cd cd_c35_4, ↓exq_cd cd_c35_23, ↓exq_cd cd_code52, ↓exq_cd cd_c52_1, ↓exq_cd cd_c52_2, ↓exq_cd cd_c52_3, ↓exq_cd cd_c52_4, ↓exq_cd cd_c52_5, ↓exq_cd cd_c52_6, ↓exq_cd cd_c52_7, ↓exq_cd cd_c52_8, ↓exq_cd cd_c52_9, ↓exq_cd cd_c52_11, ↓exq_cd cd_c52_12, ↓exq_cd cd_c52_10, ↓exq_cd cd_c52_18, ↓exq_cd cd_c52_19, ↓exq_cd cd_c52_20, ↓exq_cd cd_c52_22, ↓exq_cd cd_c52_23, ↓exq_cd cd_c52_24, ↓exq_cd cd_c52_21, ↓exq_cd cd_c52_26, ↓exq_cd cd_code53, r10_1, r10_5, r10_10, r34_1, r34_3, r35_1, r35_6, r35_12, r35_18, r35_23, r52_1, r52_3, r52_5, r52_7, r52_11, r52_18, r52_22, r52_24, r52_26, r53, plA35, pl35, plA53, pl53]
          repeat (refine And.intro (a := (_ = true)) (by first | (simp; done) | (simp; omega)) ?_)
          exact ObQ.mk [0, 6, 2, 3] (by decide) rfl rfl rfl ⟨rfl, rfl, rfl, rfl, trivial⟩
set_option maxRecDepth 100000 in
set_option maxHeartbeats 4000000 in
theorem next_word (s : DS) (t : Bool) (b : List Int) (c : Option Nat) (hs : numOk s = true) (hb : b.length ≤ 1000000000) : Word Try.prog (plOf pls) 14 [.ptr 0 0 9 0, .imn t .u8 b c] (layD s) (ObQ 1 (.v (.int .i64 (dLay true s b).1)) (layD (dLay true s b).2)) := by
  obtain ⟨l, f, x, xf, room, n, u, out⟩ := s
  simp only [numOk, Bool.and_eq_true, decide_eq_true_eq] at hs
  obtain ⟨hn0, hn1, hlx, hf0, hf1, hu⟩ := hs
  refine ⟨_, fi14, by simp, fun C hC hl => ?_⟩
  cases out with
  | true =>
    have e : dLay true ⟨l, f, x, xf, room, n, u, true⟩ b = (11, ⟨l, f, x, xf, room, n, u, true⟩) := by simp [dLay]
    rw [e]
    cases u with
    | none =>
      refine ExQ_ok [] 2000 plsOk noK ?_
      simp only [conf0, layD, fuP, fuL]
      (try rw [exh]); simp (maxSteps := 4000000) only [stops, inK, stepF, frsF, frF, itemF, codeF, condF, opsF, opsW, opF, callO, stepS, wtS, gdst, gdl, sopF, pv, evq, callF, calleeS, quiet, p_move, p_assign, p_pick, p_nilCheck, p_binOp, p_unOp, p_fieldAddr, l_load, e_box, SY.get, SY.put, SY.ev, SY.mk, SY.nth, SY.lvl, SY.ini, dr, flat, at1, rdC, rdCt, bopEq, isPtr, bop, pickAV, isArr, ctOf, enterS, leaveS, retS, finishS, killL, isDefs, resS, resAll, tup1, AV.scal, exq_go, exq_t, exq_f, ↓reduceIte, Nat.reduceLT, Nat.reduceLeDiff, Nat.reduceEqDiff, Nat.reduceAdd, Nat.reduceSub, Bool.not_false, Bool.not_true, List.contains_nil, reduceCtorEq, true_and, List.map_cons, List.map_nil, Bool.and_self, List.length_cons, List.length_nil, List.cons_append, List.nil_append, List.append_nil, Nat.zero_add, Nat.add_zero, Nat.zero_mul, Int.reduceLE, decide_true, ti4, ti22, ti24, ti55, ti58, ti62, regAt, fi14, body14, Try.f14, fi35, body35, Try.f35, fi34, body34, Try.f34, ↓exq_cd cd_code14, ↓exq_cd cd_c14_1, ↓exq_cd cd_c14_2, ↓exq_cd cd_c14_3, ↓exq_cd cd_c14_5, ↓exq_cd cd_c14_6, ↓exq_cd cd_c14_4, ↓exq_cd cd_c14_10, ↓exq_cd cd_code34, ↓exq_cd cd_c34_1, ↓exq_cd cd_c34_2, ↓exq_cd cd_c34_3, ↓exq_cd cd_code35, ↓exq_cd cd_c35_1, ↓exq_cd cd_c35_2, ↓exq_cd cd_c35_3, ↓exq_cd cd_c35_5, ↓exq_cd cd_c35_6, ↓exq_cd cd_c35_7, ↓exq_cd cd_c35_9, ↓exq_cd cd_c35_12, ↓exq_cd cd_c35_13, ↓exq_cd cd_c35_14, ↓exq_cd cd_c35_17, r14_1, r14_5, r14_10, r34_1, r34_3, r35_1, r35_6, r35_12, r35_17]
      repeat (refine And.intro (a := (_ = true)) (by first | (simp; done) | (simp; omega)) ?_)
      exact ObQ.mk [0, 1, 2] (by decide) rfl rfl rfl ⟨rfl, rfl, rfl, trivial⟩
    | some k =>
      refine ExQ_ok [] 2000 plsOk noK ?_
      simp only [conf0, layD, fuP, fuL]
      (try rw [exh]); simp (maxSteps := 4000000) only [stops, inK, stepF, frsF, frF, itemF, codeF, condF, opsF, opsW, opF, callO, stepS, wtS, gdst, gdl, sopF, pv, evq, callF, calleeS, quiet, p_move, p_assign, p_pick, p_nilCheck, p_binOp, p_unOp, p_fieldAddr, l_load, e_box, SY.get, SY.put, SY.ev, SY.mk, SY.nth, SY.lvl, SY.ini, dr, flat, at1, rdC, rdCt, bopEq, isPtr, bop, pickAV, isArr, ctOf, enterS, leaveS, retS, finishS, killL, isDefs, resS, resAll, tup1, AV.scal, exq_go, exq_t, exq_f, ↓reduceIte, Nat.reduceLT, Nat.reduceLeDiff, Nat.reduceEqDiff, Nat.reduceAdd, Nat.reduceSub, Bool.not_false, Bool.not_true, List.contains_nil, reduceCtorEq, true_and, List.map_cons, List.map_nil, Bool.and_self, List.length_cons, List.length_nil, List.cons_append, List.nil_append, List.append_nil, Nat.zero_add, Nat.add_zero, Nat.zero_mul, Int.reduceLE, decide_true, ti4, ti22, ti24, ti55, ti58, ti62, regAt, fi14, body14, Try.f14, fi35, body35, Try.f35, fi34, body34, Try.f34, ↓exq_cd cd_code14, ↓exq_cd cd_c14_1, ↓exq_cd cd_c14_2, ↓exq_cd cd_c14_3, ↓exq_cd cd_c14_5, ↓exq_cd cd_c14_6, ↓exq_cd cd_c14_4, ↓exq_cd cd_c14_10, ↓exq_cd cd_code34, ↓exq_cd cd_c34_1, ↓exq_cd cd_c34_2, ↓exq_cd cd_c34_3, ↓exq_cd cd_code35, ↓exq_cd cd_c35_1, ↓exq_cd cd_c35_2, ↓exq_cd cd_c35_3, ↓exq_cd cd_c35_5, ↓exq_cd cd_c35_6, ↓exq_cd cd_c35_7, ↓exq_cd cd_c35_9, ↓exq_cd cd_c35_12, ↓exq_cd cd_c35_13, ↓exq_cd cd_c35_14, ↓exq_cd cd_c35_17, r14_1, r14_5, r14_10, r34_1, r34_3, r35_1, r35_6, r35_12, r35_17]
      repeat (refine And.intro (a := (_ = true)) (by first | (simp; done) | (simp; omega)) ?_)
      exact ObQ.mk [0, 1, 2, 3] (by decide) rfl rfl rfl ⟨rfl, rfl, rfl, rfl, trivial⟩
  | false =>
    by_cases hr : room < (l.length : Int) + x.length + b.length
    · have e : dLay true ⟨l, f, x, xf, room, n, u, false⟩ b = (8, ⟨l, f, x, xf, room, n, u, false⟩) := by simp [dLay, hr]
      rw [e]
      cases u with
      | none =>
        refine ExQ_ok [] 2000 plsOk noK ?_
        simp only [conf0, layD, fuP, fuL]
        (try rw [exh]); simp (maxSteps := 4000000) only [hr, stops, inK, stepF, frsF, frF, itemF, codeF, condF, opsF, opsW, opF, callO, drF, drO, drW, drC, stepS, wtS, gdst, gdl, sopF, pv, evq, callF, calleeS, popF, lopF, bltP, callP, cls, rdl, quiet, p_move, p_assign, p_pick, p_nilCheck, p_binOp, p_unOp, p_fieldAddr, p_len, l_load, e_box, SY.get, SY.put, SY.ev, SY.mk, SY.nth, SY.lvl, SY.ini, dr, flat, at1, rdC, rdCt, ar, bopInt, bopEq, isPtr, bop, pickAV, isArr, ctOf, enterS, leaveS, retS, finishS, killL, isDefs, resS, resAll, tup1, AV.scal, plk, exq_go, exq_t, exq_f, ↓reduceIte, Nat.reduceLT, Nat.reduceLeDiff, Nat.reduceEqDiff, Nat.reduceAdd, Nat.reduceSub, Bool.not_false, Bool.not_true, List.contains_nil, reduceCtorEq, true_and, List.map_cons, List.map_nil, Bool.and_self, List.length_cons, List.length_nil, List.cons_append, List.nil_append, List.append_nil, Nat.zero_add, Nat.add_zero, Nat.zero_mul, Nat.mul_one, Int.reduceLE, decide_true, ti3, ti4, ti22, ti24, ti52, ti54, ti55, ti58, ti62, regAt, fi14, body14, Try.f14, fi35, body35, Try.f35, fi34, body34, Try.f34, ↓exq_cd cd_code14, ↓exq_cd cd_c14_1, ↓exq_cd cd_c14_2, ↓exq_cd cd_c14_3, ↓exq_cd cd_c14_5, ↓exq_cd cd_c14_6, ↓exq_cd cd_c14_4, ↓exq_cd cd_c14_10, ↓exq_cd cd_code34, ↓exq_cd cd_c34_1, ↓exq_cd cd_c34_2, ↓exq_cd cd_c34_3, ↓exq_cd cd_code35, ↓exq_cd cd_c35_1, ↓exq_cd cd_c35_2, ↓exq_cd cd_c35_3, ↓exq_cd cd_c35_5, ↓exq_cd cd_c35_6, ↓exq_cd cd_c35_7, ↓exq_cd cd_c35_9, ↓exq_cd cd_c35_12, ↓exq_cd cd_c35_13, ↓exq_cd cd_c35_15, ↓exq_cd cd_c35_18, ↓exq_cd cd_c35_19, ↓exq_cd cd_c35_20, ↓exq_cd cd_c35_22, r14_1, r14_5, r14_10, r34_1, r34_3, r35_1, r35_6, r35_12, r35_18, r35_22, plA35, pl35]
        repeat (refine And.intro (a := (_ = true)) (by first | (simp; done) | (simp; omega)) ?_)
        exact ObQ.mk [0, 1, 2] (by decide) rfl rfl rfl ⟨rfl, rfl, rfl, trivial⟩
      | some k =>
        refine ExQ_ok [] 2000 plsOk noK ?_
        simp only [conf0, layD, fuP, fuL]
        (try rw [exh]); simp (maxSteps := 4000000) only [hr, stops, inK, stepF, frsF, frF, itemF, codeF, condF, opsF, opsW, opF, callO, drF, drO, drW, drC, stepS, wtS, gdst, gdl, sopF, pv, evq, callF, calleeS, popF, lopF, bltP, callP, cls, rdl, quiet, p_move, p_assign, p_pick, p_nilCheck, p_binOp, p_unOp, p_fieldAddr, p_len, l_load, e_box, SY.get, SY.put, SY.ev, SY.mk, SY.nth, SY.lvl, SY.ini, dr, flat, at1, rdC, rdCt, ar, bopInt, bopEq, isPtr, bop, pickAV, isArr, ctOf, enterS, leaveS, retS, finishS, killL, isDefs, resS, resAll, tup1, AV.scal, plk, exq_go, exq_t, exq_f, ↓reduceIte, Nat.reduceLT, Nat.reduceLeDiff, Nat.reduceEqDiff, Nat.reduceAdd, Nat.reduceSub, Bool.not_false, Bool.not_true, List.contains_nil, reduceCtorEq, true_and, List.map_cons, List.map_nil, Bool.and_self, List.length_cons, List.length_nil, List.cons_append, List.nil_append, List.append_nil, Nat.zero_add, Nat.add_zero, Nat.zero_mul, Nat.mul_one, Int.reduceLE, decide_true, ti3, ti4, ti22, ti24, ti52, ti54, ti55, ti58, ti62, regAt, fi14, body14, Try.f14, fi35, body35, Try.f35, fi34, body34, Try.f34, ↓exq_cd cd_code14, ↓exq_cd cd_c14_1, ↓exq_cd cd_c14_2, ↓exq_cd cd_c14_3, ↓exq_cd cd_c14_5, ↓exq_cd cd_c14_6, ↓exq_cd cd_c14_4, ↓exq_cd cd_c14_10, ↓exq_cd cd_code34, ↓exq_cd cd_c34_1, ↓exq_cd cd_c34_2, ↓exq_cd cd_c34_3, ↓exq_cd cd_code35, ↓exq_cd cd_c35_1, ↓exq_cd cd_c35_2, ↓exq_cd cd_c35_3, ↓exq_cd cd_c35_5, ↓exq_cd cd_c35_6, ↓exq_cd cd_c35_7, ↓exq_cd cd_c35_9, ↓exq_cd cd_c35_12, ↓exq_cd cd_c35_13, ↓exq_cd cd_c35_15, ↓exq_cd cd_c35_18, ↓exq_cd cd_c35_19, ↓exq_cd cd_c35_20, ↓exq_cd cd_c35_22, r14_1, r14_5, r14_10, r34_1, r34_3, r35_1, r35_6, r35_12, r35_18, r35_22, plA35, pl35]
        repeat (refine And.intro (a := (_ = true)) (by first | (simp; done) | (simp; omega)) ?_)
        exact ObQ.mk [0, 1, 2, 3] (by decide) rfl rfl rfl ⟨rfl, rfl, rfl, rfl, trivial⟩
    · have tl := take_self l
      have tx := take_self x
      cases u with
      | none =>
        have e : dLay true ⟨l, f, x, xf, room, n, none, false⟩ b = (0, ⟨l, f, x ++ b, xf, room, n + 1, none, false⟩) := by simp [dLay, hr]
        rw [e]
        refine ExQ_ok [] 2000 plsOk noK ?_
        simp only [conf0, layD, fuP, fuL]
        (try rw [exh]); simp (maxSteps := 4000000) only [hr, tx, stops, inK, stepF, frsF, frF, itemF, codeF, condF, opsF, opsW, opF, callO, drF, drO, drW, drC, stepS, wtS, gdst, gdl, sopF, pv, evq, bltF, callF, calleeS, popF, lopF, bltP, callP, cls, lvA, rdl, quiet, p_move, p_assign, p_pick, p_nilCheck, p_binOp, p_unOp, p_fieldAddr, p_makeFunc, p_len, l_load, roomN, appNN, srcN, dstN, e_store, e_box, e_append, SY.get, SY.put, SY.ev, SY.mk, SY.nth, SY.lvl, SY.setl, SY.ini, dr, flat, at1, rdC, rdCt, wrC, wrCt, ar, bopInt, bopEq, isPtr, bop, pickAV, numsAt, isArr, ctOf, killO, srcN, dstN, enterS, leaveS, retS, finishS, killL, isDefs, resS, resAll, tup1, AV.scal, plk, exq_go, exq_f, ↓reduceIte, Nat.reduceLT, Nat.reduceLeDiff, Nat.reduceEqDiff, Nat.reduceAdd, Nat.reduceSub, Nat.reduceBEq, Bool.and_true, Bool.true_and, Bool.not_false, Bool.not_true, List.contains_nil, List.contains_cons, Bool.or_false, Option.isNone_none, reduceCtorEq, true_and, Bool.false_eq_true, List.map_cons, List.map_nil, Bool.and_self, List.length_cons, List.length_nil, List.cons_append, List.nil_append, List.append_nil, Nat.zero_add, Nat.add_zero, Nat.zero_mul, Nat.mul_one, Int.reduceLE, decide_true, decide_false, alive, alive0, mks, noMk, ti3, ti4, ti5, ti22, ti24, ti52, ti54, ti55, ti56, ti58, ti62, regAt, fi14, body14, Try.f14, fi35, body35, Try.f35, fi34, body34, Try.f34, fi52, body52, Try.f52, fi53, body53, Try.f53, fi54, code54, Try.f54, ↓exq_cd cd_code14, ↓exq_cd cd_c14_1, ↓exq_cd cd_c14_2, ↓exq_cd cd_c14_3, ↓exq_cd cd_c14_5, ↓exq_cd cd_c14_6, ↓exq_cd cd_c14_4, ↓exq_cd cd_c14_10, ↓exq_cd cd_code34, ↓exq_cd cd_c34_1, ↓exq_cd cd_c34_2, ↓exq_cd cd_c34_3, ↓exq_cd cd_code35, ↓exq_cd cd_c35_1, ↓exq_cd cd_c35_2, ↓exq_cd cd_c35_3, ↓exq_cd cd_c35_5, ↓exq_cd cd_c35_6, ↓exq_cd cd_c35_7, ↓exq_cd cd_c35_9, ↓exq_cd cd_c35_12, ↓exq_cd cd_c35_13, ↓exq_cd cd_c35_15, ↓exq_cd cd_c35_18, ↓exq_cd cd_c35_19, ↓exq_cd cd_c35_4, ↓exq_cd cd_c35_23, ↓exq_cd cd_code52, ↓exq_cd cd_c52_1, ↓exq_cd cd_c52_2, ↓exq_cd cd_c52_3, ↓exq_cd cd_c52_4, ↓exq_cd cd_c52_5, ↓exq_cd cd_c52_6, ↓exq_cd cd_c52_7, ↓exq_cd cd_c52_8, ↓exq_cd cd_c52_9, ↓exq_cd cd_c52_11, ↓exq_cd cd_c52_12, ↓exq_cd cd_c52_10, ↓exq_cd cd_c52_18, ↓exq_cd cd_c52_19, ↓exq_cd cd_c52_20, ↓exq_cd cd_c52_22, ↓exq_cd cd_c52_23, ↓exq_cd cd_c52_21, ↓exq_cd cd_c52_26, ↓exq_cd cd_code53, r14_1, r14_5, r14_10, r34_1, r34_3, r35_1, r35_6, r35_12, r35_18, r35_23, r52_1, r52_3, r52_5, r52_7, r52_11, r52_18, r52_22, r52_26, r53, plA35, pl35, plA53, pl53]
        repeat (refine And.intro (a := (_ = true)) (by first | (simp; done) | (simp; omega)) ?_)
        exact ObQ.mk [0, 1, 5] (by decide) rfl rfl rfl ⟨rfl, rfl, rfl, trivial⟩
      | some k =>
        simp only [fuOk, Bool.and_eq_true, decide_eq_true_eq] at hu
        by_cases hk : k = 0
        · subst hk
          have e : dLay true ⟨l, f, x, xf, room, n, some 0, false⟩ b = (11, ⟨l, f, x ++ b, xf, room, n + 1, some 0, true⟩) := by simp [dLay, hr]
          rw [e]
          refine ExQ_ok [] 2000 plsOk noK ?_
          simp only [conf0, layD, fuP, fuL]
          (try rw [exh]); simp (maxSteps := 4000000) only [hr, tx, stops, inK, stepF, frsF, frF, itemF, codeF, condF, opsF, opsW, opF, callO, drF, drO, drW, drC, stepS, wtS, gdst, gdl, sopF, pv, evq, bltF, callF, calleeS, popF, lopF, bltP, callP, cls, lvA, rdl, quiet, p_move, p_assign, p_pick, p_nilCheck, p_binOp, p_unOp, p_fieldAddr, p_makeFunc, p_len, l_load, roomN, appNN, srcN, dstN, e_store, e_box, e_append, SY.get, SY.put, SY.ev, SY.mk, SY.nth, SY.lvl, SY.setl, SY.ini, dr, flat, at1, rdC, rdCt, wrC, wrCt, ar, bopInt, bopEq, isPtr, bop, pickAV, numsAt, isArr, ctOf, killO, srcN, dstN, enterS, leaveS, retS, finishS, killL, isDefs, resS, resAll, tup1, AV.scal, plk, exq_go, exq_t, exq_f, ↓reduceIte, Nat.reduceLT, Nat.reduceLeDiff, Nat.reduceEqDiff, Nat.reduceAdd, Nat.reduceSub, Nat.reduceBEq, Bool.and_true, Bool.true_and, Bool.not_false, Bool.not_true, List.contains_nil, List.contains_cons, Bool.or_false, reduceCtorEq, true_and, Bool.false_eq_true, List.map_cons, List.map_nil, Bool.and_self, List.length_cons, List.length_nil, List.cons_append, List.nil_append, List.append_nil, Nat.zero_add, Nat.add_zero, Nat.zero_mul, Nat.mul_one, Int.reduceLE, decide_true, decide_false, alive, alive0, mks, noMk, ti3, ti4, ti5, ti22, ti24, ti52, ti54, ti55, ti56, ti58, ti62, regAt, fi14, body14, Try.f14, fi35, body35, Try.f35, fi34, body34, Try.f34, fi52, body52, Try.f52, fi53, body53, Try.f53, ↓exq_cd cd_code14, ↓exq_cd cd_c14_1, ↓exq_cd cd_c14_2, ↓exq_cd cd_c14_3, ↓exq_cd cd_c14_5, ↓exq_cd cd_c14_6, ↓exq_cd cd_c14_4, ↓exq_cd cd_c14_10, ↓exq_cd cd_code34, ↓exq_cd cd_c34_1, ↓exq_cd cd_c34_2, ↓exq_cd cd_c34_3, ↓exq_cd cd_code35, ↓exq_cd cd_c35_1, ↓exq_cd cd_c35_2, ↓exq_cd cd_c35_3, ↓exq_cd cd_c35_5, ↓exq_cd cd_c35_6, ↓exq_cd cd_c35_7, ↓exq_cd cd_c35_9, ↓exq_cd cd_c35_12, ↓exq_cd cd_c35_13, ↓exq_cd cd_c35_15, ↓exq_cd cd_c35_18, ↓exq_cd cd_c35_19, ↓exq_cd cd_c35_4, ↓exq_cd cd_c35_23, ↓exq_cd cd_code52, ↓exq_cd cd_c52_1, ↓exq_cd cd_c52_2, ↓exq_cd cd_c52_3, ↓exq_cd cd_c52_4, ↓exq_cd cd_c52_5, ↓exq_cd cd_c52_6, ↓exq_cd cd_c52_7, ↓exq_cd cd_c52_8, ↓exq_cd cd_c52_9, ↓exq_cd cd_c52_11, ↓exq_cd cd_c52_12, ↓exq_cd cd_c52_13, ↓exq_cd cd_c52_15, ↓exq_cd cd_c52_16, ↓exq_cd cd_c52_17, ↓exq_cd cd_code53, r14_1, r14_5, r14_10, r34_1, r34_3, r35_1, r35_6, r35_12, r35_18, r35_23, r52_1, r52_3, r52_5, r52_7, r52_11, r52_15, r52_17, r53, plA35, pl35, plA53, pl53]
          repeat (refine And.intro (a := (_ = true)) (by first | (simp; done) | (simp; omega)) ?_)
          exact ObQ.mk [0, 1, 6, 3] (by decide) rfl rfl rfl ⟨rfl, rfl, rfl, rfl, trivial⟩
        · have e : dLay true ⟨l, f, x, xf, room, n, some k, false⟩ b = (0, ⟨l, f, x ++ b, xf, room, n + 1, some (k - 1), false⟩) := by simp [dLay, hr, hk]
          rw [e]
          refine ExQ_ok [] 2000 plsOk noK ?_
          simp only [conf0, layD, fuP, fuL]
          (try rw [exh]); simp (maxSteps := 4000000) only [hr, hk, tx, stops, inK, stepF, frsF, frF, itemF, codeF, condF, opsF, opsW, opF, callO, drF, drO, drW, drC, stepS, wtS, gdst, gdl, sopF, pv, evq, bltF, callF, calleeS, popF, lopF, bltP, callP, cls, lvA, rdl, quiet, p_move, p_assign, p_pick, p_nilCheck, p_binOp, p_unOp, p_fieldAddr, p_makeFunc, p_len, l_load, roomN, appNN, srcN, dstN, e_store, e_box, e_append, SY.get, SY.put, SY.ev, SY.mk, SY.nth, SY.lvl, SY.setl, SY.ini, dr, flat, at1, rdC, rdCt, wrC, wrCt, ar, bopInt, bopEq, isPtr, bop, pickAV, numsAt, isArr, ctOf, killO, srcN, dstN, enterS, leaveS, retS, finishS, killL, isDefs, resS, resAll, tup1, AV.scal, plk, exq_go, exq_t, exq_f, ↓reduceIte, Nat.reduceLT, Nat.reduceLeDiff, Nat.reduceEqDiff, Nat.reduceAdd, Nat.reduceSub, Nat.reduceBEq, Bool.and_true, Bool.true_and, Bool.not_false, Bool.not_true, List.contains_nil, List.contains_cons, Bool.or_false, reduceCtorEq, true_and, Bool.false_eq_true, List.map_cons, List.map_nil, Bool.and_self, List.length_cons, List.length_nil, List.cons_append, List.nil_append, List.append_nil, Nat.zero_add, Nat.add_zero, Nat.zero_mul, Nat.mul_one, Int.reduceLE, decide_true, decide_false, alive, alive0, mks, noMk, ti3, ti4, ti5, ti22, ti24, ti52, ti54, ti55, ti56, ti58, ti62, regAt, fi14, body14, Try.f14, fi35, body35, Try.f35, fi34, body34, Try.f34, fi52, body52, Try.f52, fi53, body53, Try.f53, fi54, code54, Try.f54, ↓exq_cd cd_code14, ↓exq_cd cd_c14_1, ↓exq_cd cd_c14_2, ↓exq_cd cd_c14_3, ↓exq_cd cd_c14_5, ↓exq_cd cd_c14_6, ↓exq_cd cd_c14_4, ↓exq_cd cd_c14_10, ↓exq_cd cd_code34, ↓exq_cd cd_c34_1, ↓exq_cd cd_c34_2, ↓exq_cd cd_c34_3, ↓exq_cd cd_code35, ↓exq_cd cd_c35_1, ↓exq_cd cd_c35_2, ↓exq_cd cd_c35_3, ↓exq_cd cd_c35_5, ↓exq_cd cd_c35_6, ↓exq_cd cd_c35_7, ↓exq_cd cd_c35_9, ↓exq_cd cd_c35_12, ↓exq_cd cd_c35_13, ↓exq_cd cd_c35_15, ↓exq_cd cd_c35_18, ↓exq_cd cd_c35_19, ↓exq_cd cd_c35_4, ↓exq_cd cd_c35_23, ↓exq_cd cd_code52, ↓exq_cd cd_c52_1, ↓exq_cd cd_c52_2, ↓exq_cd cd_c52_3, ↓exq_cd cd_c52_4, ↓exq_cd cd_c52_5, ↓exq_cd cd_c52_6, ↓exq_cd cd_c52_7, ↓exq_cd cd_c52_8, ↓exq_cd cd_c52_9, ↓exq_cd cd_c52_11, ↓exq_cd cd_c52_12, ↓exq_cd cd_c52_10, ↓exq_cd cd_c52_18, ↓exq_cd cd_c52_19, ↓exq_cd cd_c52_20, ↓exq_cd cd_c52_22, ↓exq_cd cd_c52_23, ↓exq_cd cd_c52_24, ↓exq_cd cd_c52_21, ↓exq_cd cd_c52_26, ↓exq_cd cd_code53, r14_1, r14_5, r14_10, r34_1, r34_3, r35_1, r35_6, r35_12, r35_18, r35_23, r52_1, r52_3, r52_5, r52_7, r52_11, r52_18, r52_22, r52_24, r52_26, r53, plA35, pl35, plA53, pl53]
          repeat (refine And.intro (a := (_ = true)) (by first | (simp; done) | (simp; omega)) ?_)
          exact ObQ.mk [0, 1, 6, 3] (by decide) rfl rfl rfl ⟨rfl, rfl, rfl, rfl, trivial⟩
end DW
end Go.Proofs.Ytmdepmhamefheaa
