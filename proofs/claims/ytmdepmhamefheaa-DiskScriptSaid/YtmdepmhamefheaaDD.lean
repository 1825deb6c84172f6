/- Disks: both at once; the words of does, Alike. -/
import Derived.Test.YtmdepmhamefheaaRW2
import Derived.Test.YtmdepmhamefheaaKC
import Derived.Test.YtmdepmhamefheaaDF1
set_option linter.unusedSimpArgs false
set_option linter.unusedVariables false
-- FUNCTIONS 30 31
namespace Go.Proofs.Ytmdepmhamefheaa
open Go Go.SY
namespace DD
open DW RW
theorem plsOk : PlOk Try.prog (plOf pls) := KB.plsOk
def kB0 : KT := ktOf [(20, KB.sSaB)]
theorem kB0_ok : KOk Try.prog (plOf pls) kB0 := ktOf_ok plsOk fun x hx => by
  simp only [List.mem_singleton] at hx
  subst hx
  exact KB.sameB_ok
def kBt : KT := OB.kOvB (KC.kLK (kDk (kRk kB0)))
theorem kBt_ok : KOk Try.prog (plOf pls) kBt := OB.kOvB_ok (KC.kLK_ok (kDk_ok (kRk_ok kB0_ok)))
def fu6 : Option Int → AV
  | none => .v (.pointer none)
  | some _ => .ptr 6 0 1 0
def layDR (s : DS) : Bls := some (.lit [.sl 2 0 1 s.l.length none, .v (.int .i64 s.f), .sl 3 0 1 s.x.length none, .v (.int .i64 s.xf), .v (.int .i64 s.room), .v (.int .i64 s.n), fu6 s.u, .v (.bool s.out), .v (.bool true)]) ::
  some (.lit [.sl 4 0 1 s.l.length none, .v (.int .i64 s.f), .sl 5 0 1 s.x.length none, .v (.int .i64 s.room), .v (.int .i64 s.n), .v (.int .i64 (lfO s.u)), .v (.bool s.out)]) ::
  some (.num .u8 s.l) :: some (.num .u8 s.x) :: some (.num .u8 s.l) :: some (.num .u8 s.x) :: fuL s.u
theorem layDR_ok (s : DS) : okBls (layDR s).length (layDR s) = true := by
  obtain ⟨l, f, x, xf, room, n, u, out⟩ := s
  cases u <;> rfl
theorem layDR_two (s : DS) : 2 ≤ (layDR s).length := by simp [layDR]
theorem layDR_some (s : DS) : ∀ (l : Nat) (x : Option Ct), (layDR s)[l]? = some x → x ≠ none := by
  obtain ⟨l, f, x, xf, room, n, u, out⟩ := s
  intro j y h e
  subst e
  cases u with
  | none =>
    match j, h with
    | 0, h => cases h
    | 1, h => cases h
    | 2, h => cases h
    | 3, h => cases h
    | 4, h => cases h
    | 5, h => cases h
    | j + 6, h => simp [layDR, fuL] at h
  | some k =>
    match j, h with
    | 0, h => cases h
    | 1, h => cases h
    | 2, h => cases h
    | 3, h => cases h
    | 4, h => cases h
    | 5, h => cases h
    | 6, h => cases h
    | j + 7, h => simp [layDR, fuL] at h
def findDR (bl : Bls) (a b : Nat) : Option (Bool × List Nat × DS) := match lvl bl a with
  | some (.lit [.sl l1 0 1 n1 none, .v (.int .i64 f), .sl l2 0 1 n2 none, .v (.int .i64 xf), .v (.int .i64 room), .v (.int .i64 n), fu, .v (.bool out), .v (.bool true)]) => (match lvl bl b with
    | some (.lit [.sl k1 0 1 m1 none, .v (.int .i64 f2), .sl k2 0 1 m2 none, .v (.int .i64 room2), .v (.int .i64 n2'), .v (.int .i64 left), .v (.bool out2)]) => (match lvl bl l1 with
      | some (.num .u8 xs) => (match lvl bl l2 with
        | some (.num .u8 ys) => (match lvl bl k1 with
          | some (.num .u8 xs2) => (match lvl bl k2 with
            | some (.num .u8 ys2) => (match fu with
              | .v (.pointer none) => some (decide (xs.length = n1 ∧ ys.length = n2 ∧ xs.length = m1 ∧ ys.length = m2 ∧ xs2 = xs ∧ ys2 = ys ∧ f2 = f ∧ room2 = room ∧ n2' = n ∧ left = -1 ∧ out2 = out ∧ [a, b, l1, l2, k1, k2].Nodup), [a, b, l1, l2, k1, k2], ⟨xs, f, ys, xf, room, n, none, out⟩)
              | .ptr l3 0 1 0 => (match lvl bl l3 with
                | some (.lit [.v (.int .i64 k)]) => some (decide (xs.length = n1 ∧ ys.length = n2 ∧ xs.length = m1 ∧ ys.length = m2 ∧ xs2 = xs ∧ ys2 = ys ∧ f2 = f ∧ room2 = room ∧ n2' = n ∧ left = k ∧ out2 = out ∧ [a, b, l1, l2, k1, k2, l3].Nodup), [a, b, l1, l2, k1, k2, l3], ⟨xs, f, ys, xf, room, n, some k, out⟩)
                | _ => none)
              | _ => none)
            | _ => none)
          | _ => none)
        | _ => none)
      | _ => none)
    | _ => none)
  | _ => none
theorem findDR_ok {bl : Bls} {a b : Nat} {σ : List Nat} {s : DS} (h : findDR bl a b = some (true, σ, s)) : σ.Nodup ∧ (σ.all fun l => decide (l < bl.length)) = true ∧ σ.length = (layDR s).length ∧ FitB (nm σ) σ.length bl 0 (layDR s) ∧ 2 ≤ σ.length ∧ nm σ 0 = a ∧ nm σ 1 = b := by
  unfold findDR at h
  split at h
  · rename_i l1 n1 f l2 n2 xf room n fu out e0
    split at h
    · rename_i k1 m1 f2 k2 m2 room2 n2' left out2 e1
      split at h
      · rename_i xs e2
        split at h
        · rename_i ys e3
          split at h
          · rename_i xs2 e4
            split at h
            · rename_i ys2 e5
              have := lvl_lt e0; have := lvl_lt e1; have := lvl_lt e2; have := lvl_lt e3; have := lvl_lt e4; have := lvl_lt e5
              split at h
              · simp only [Option.some.injEq, Prod.mk.injEq, decide_eq_true_eq] at h
                obtain ⟨⟨rfl, rfl, rfl, rfl, rfl, rfl, rfl, rfl, rfl, rfl, rfl, h3⟩, rfl, rfl⟩ := h
                refine ⟨h3, ?_, rfl, ⟨⟨e0, rfl⟩, ⟨e1, rfl⟩, ⟨e2, rfl⟩, ⟨e3, rfl⟩, ⟨e4, rfl⟩, ⟨e5, rfl⟩, trivial⟩, by simp, rfl, rfl⟩
                simp only [List.all_cons, List.all_nil, Bool.and_true, Bool.and_eq_true, decide_eq_true_eq]
                exact ⟨by assumption, by assumption, by assumption, by assumption, by assumption, by assumption⟩
              · rename_i l3
                split at h
                · rename_i k e6
                  have := lvl_lt e6
                  simp only [Option.some.injEq, Prod.mk.injEq, decide_eq_true_eq] at h
                  obtain ⟨⟨rfl, rfl, rfl, rfl, rfl, rfl, rfl, rfl, rfl, rfl, rfl, h3⟩, rfl, rfl⟩ := h
                  refine ⟨h3, ?_, rfl, ⟨⟨e0, rfl⟩, ⟨e1, rfl⟩, ⟨e2, rfl⟩, ⟨e3, rfl⟩, ⟨e4, rfl⟩, ⟨e5, rfl⟩, ⟨e6, rfl⟩, trivial⟩, by simp, rfl, rfl⟩
                  simp only [List.all_cons, List.all_nil, Bool.and_true, Bool.and_eq_true, decide_eq_true_eq]
                  exact ⟨by assumption, by assumption, by assumption, by assumption, by assumption, by assumption, by assumption⟩
                · cases h
              · cases h
            · cases h
          · cases h
        · cases h
      · cases h
    · cases h
  · cases h
set_option maxRecDepth 100000 in
set_option maxHeartbeats 8000000 in
theorem does_word (s : DS) (k n : Int) (b : List Int) (c : Option Nat) (hnum : numOk s = true) (hxf : s.xf = 0) (hb : b.length ≤ 1000000) (hn : n ≤ 9223372036854775807) : Word Try.prog (plOf pls) 30 [.ptr 0 0 9 0, .ptr 1 0 7 0, .agg [.v (.int .i64 k), .v (.int .i64 n), .imn false .u8 b c]] (layDR s) (ObQ 2 (.v (.bool true)) (layDR (dAct s k n b))) := by
  obtain ⟨l, f, x, xf, room, m, u, out⟩ := s
  simp only at hxf
  subst hxf
  refine ⟨_, fi30, by simp, fun C hC hl => ?_⟩
  have hb9 : b.length ≤ 1000000000 := by omega
  have tb : b.take b.length = b := List.take_of_length_le (Nat.le_refl _)
  have tb2 : (b ++ [(8 : Int), 167, 44, 2]).take b.length = b := List.take_left' rfl
  have dz : decide (b ++ [(8 : Int), 167, 44, 2] = b ++ [8, 167, 44, 2]) = true := decide_eq_true rfl
  by_cases h0 : k = 0
  · subst h0
    cases u with
    | none =>
      have e0 : dAct ⟨l, f, x, 0, room, m, none, out⟩ 0 n b = (dLay false ⟨l, f, x, 0, room, m, none, out⟩ b).2 := by simp [dAct]
      rw [e0]
      generalize hd : dLay false ⟨l, f, x, 0, room, m, none, out⟩ b = r
      obtain ⟨e, l', f', x', xf', room', m', u', out'⟩ := r
      have hee : decide (e = e) = true := decide_eq_true rfl
      cases u' with
      | none =>
        refine ExQ_ok [] 4000 plsOk kBt_ok ?_
        simp only [conf0, layDR, fu6, fuL, lfO]
        (try rw [exh]); simp (maxSteps := 4000000) only [kBt, kB0, OB.kOvB, KC.kLK, kDk, kRk, ktO, ktW, objK, objB, updT, mapB, rhoN, mrk, readK, overK, KC.sLent, KC.keptS, KC.mk4, DW.osB, RW.osB, findD, findR, mApp, layD, layR, fuP, fuL, lfO, nilN, hnum, List.append_nil, List.nodup_cons, List.mem_cons, List.not_mem_nil, List.take_succ_cons, List.take_zero, not_false_eq_true, List.drop_zero, List.length_replicate, hd, tb2, stops, inK, stepF, frsF, frF, itemF, codeF, condF, opsF, opsW, opF, callO, drF, drO, drW, drC, stepS, wtS, gdst, gdl, sopF, pv, evq, callF, calleeS, popF, lopF, cls, lvA, rdl, quiet, p_move, p_assign, p_pick, p_binOp, p_fieldAddr, l_load, e_box, SY.get, SY.put, SY.ev, SY.mk, SY.nth, SY.lvl, SY.setl, SY.ini, wid, wids, dr, flat, at1, rdC, rdCt, bopInt, bop, pickAV, isArr, ctOf, leaveS, retS, killL, isDefs, resS, resAll, tup1, AV.scal, plk, Ct.cell, exq_go, lvCt, exq_t, ↓reduceIte, Nat.reduceLT, Nat.reduceEqDiff, Nat.reduceAdd, Nat.reduceSub, Nat.reduceBEq, Bool.and_true, Bool.true_and, Bool.not_false, Bool.not_true, List.contains_nil, List.contains_cons, Bool.or_false, reduceCtorEq, true_and, Bool.false_eq_true, List.map_cons, List.map_nil, Bool.and_self, List.drop_succ_cons, List.drop_zero, List.length_cons, List.length_nil, List.cons_append, List.nil_append, List.append_nil, Nat.zero_add, Nat.add_zero, Nat.zero_mul, Int.reduceLT, Int.reduceLE, decide_true, decide_false, ktOf, conK, alive, alive0, mks, noMk, lndL, lnd, lvB, tB_tt, okBls, shB, ren, renL, renCt, not_false_eq_true, and_self, ti3, ti22, ti25, ti42, regAt, fi30, body30, Try.f30, ↓exq_cd cd_code30, ↓exq_cd cd_c30_1, ↓exq_cd cd_c30_2, ↓exq_cd cd_c30_3, ↓exq_cd cd_c30_4, ↓exq_cd cd_c30_5, ↓exq_cd cd_c30_6, ↓exq_cd cd_c30_7, ↓exq_cd cd_c30_9, ↓exq_cd cd_c30_10, ↓exq_cd cd_c30_11, ↓exq_cd cd_c30_12, ↓exq_cd cd_c30_14, ↓exq_cd cd_c30_15, ↓exq_cd cd_c30_13, ↓exq_cd cd_c30_18, ↓exq_cd cd_c30_8, ↓exq_cd cd_c30_55, ↓exq_cd cd_c30_56, ↓exq_cd cd_c30_57, ↓exq_cd cd_c30_58, ↓exq_cd cd_c30_59, r30_1, r30_3, r30_5, r30_9, r30_14, r30_18, r30_55, r30_57, r30_59, plA30, pl30]
        repeat (refine And.intro (a := (_ = true)) (by first | (simp; done) | (simp; omega)) ?_)
        exact ObQ.mk [0, 1, 8, 9, 11, 12] (by decide) rfl rfl rfl ⟨rfl, rfl, rfl, rfl, rfl, rfl, trivial⟩
      | some w' =>
        refine ExQ_ok [] 4000 plsOk kBt_ok ?_
        simp only [conf0, layDR, fu6, fuL, lfO]
        (try rw [exh]); simp (maxSteps := 4000000) only [kBt, kB0, OB.kOvB, KC.kLK, kDk, kRk, ktO, ktW, objK, objB, updT, mapB, rhoN, mrk, readK, overK, KC.sLent, KC.keptS, KC.mk4, DW.osB, RW.osB, findD, findR, mApp, layD, layR, fuP, fuL, lfO, nilN, hnum, List.append_nil, List.nodup_cons, List.mem_cons, List.not_mem_nil, List.take_succ_cons, List.take_zero, not_false_eq_true, List.drop_zero, List.length_replicate, hd, tb2, stops, inK, stepF, frsF, frF, itemF, codeF, condF, opsF, opsW, opF, callO, drF, drO, drW, drC, stepS, wtS, gdst, gdl, sopF, pv, evq, callF, calleeS, popF, lopF, cls, lvA, rdl, quiet, p_move, p_assign, p_pick, p_binOp, p_fieldAddr, l_load, e_box, SY.get, SY.put, SY.ev, SY.mk, SY.nth, SY.lvl, SY.setl, SY.ini, wid, wids, dr, flat, at1, rdC, rdCt, bopInt, bop, pickAV, isArr, ctOf, leaveS, retS, killL, isDefs, resS, resAll, tup1, AV.scal, plk, Ct.cell, exq_go, lvCt, exq_t, ↓reduceIte, Nat.reduceLT, Nat.reduceEqDiff, Nat.reduceAdd, Nat.reduceSub, Nat.reduceBEq, Bool.and_true, Bool.true_and, Bool.not_false, Bool.not_true, List.contains_nil, List.contains_cons, Bool.or_false, reduceCtorEq, true_and, Bool.false_eq_true, List.map_cons, List.map_nil, Bool.and_self, List.drop_succ_cons, List.drop_zero, List.length_cons, List.length_nil, List.cons_append, List.nil_append, List.append_nil, Nat.zero_add, Nat.add_zero, Nat.zero_mul, Int.reduceLT, Int.reduceLE, decide_true, decide_false, ktOf, conK, alive, alive0, mks, noMk, lndL, lnd, lvB, tB_tt, okBls, shB, ren, renL, renCt, not_false_eq_true, and_self, ti3, ti22, ti25, ti42, regAt, fi30, body30, Try.f30, ↓exq_cd cd_code30, ↓exq_cd cd_c30_1, ↓exq_cd cd_c30_2, ↓exq_cd cd_c30_3, ↓exq_cd cd_c30_4, ↓exq_cd cd_c30_5, ↓exq_cd cd_c30_6, ↓exq_cd cd_c30_7, ↓exq_cd cd_c30_9, ↓exq_cd cd_c30_10, ↓exq_cd cd_c30_11, ↓exq_cd cd_c30_12, ↓exq_cd cd_c30_14, ↓exq_cd cd_c30_15, ↓exq_cd cd_c30_13, ↓exq_cd cd_c30_18, ↓exq_cd cd_c30_8, ↓exq_cd cd_c30_55, ↓exq_cd cd_c30_56, ↓exq_cd cd_c30_57, ↓exq_cd cd_c30_58, ↓exq_cd cd_c30_59, r30_1, r30_3, r30_5, r30_9, r30_14, r30_18, r30_55, r30_57, r30_59, plA30, pl30]
        repeat (refine And.intro (a := (_ = true)) (by first | (simp; done) | (simp; omega)) ?_)
        exact ObQ.mk [0, 1, 8, 9, 12, 13, 10] (by decide) rfl rfl rfl ⟨rfl, rfl, rfl, rfl, rfl, rfl, rfl, trivial⟩
    | some w =>
      have hw : ¬ w < 0 ∧ -1 ≤ w := by
        simp only [numOk, fuOk, Bool.and_eq_true, decide_eq_true_eq] at hnum
        omega
      obtain ⟨hw, hw1⟩ := hw
      have e0 : dAct ⟨l, f, x, 0, room, m, some w, out⟩ 0 n b = (dLay false ⟨l, f, x, 0, room, m, some w, out⟩ b).2 := by simp [dAct]
      rw [e0]
      generalize hd : dLay false ⟨l, f, x, 0, room, m, some w, out⟩ b = r
      obtain ⟨e, l', f', x', xf', room', m', u', out'⟩ := r
      have hee : decide (e = e) = true := decide_eq_true rfl
      cases u' with
      | none =>
        refine ExQ_ok [] 4000 plsOk kBt_ok ?_
        simp only [conf0, layDR, fu6, fuL, lfO]
        (try rw [exh]); simp (maxSteps := 4000000) only [kBt, kB0, OB.kOvB, KC.kLK, kDk, kRk, ktO, ktW, objK, objB, updT, mapB, rhoN, mrk, readK, overK, KC.sLent, KC.keptS, KC.mk4, DW.osB, RW.osB, findD, findR, mApp, layD, layR, fuP, fuL, lfO, nilN, hnum, List.append_nil, List.nodup_cons, List.mem_cons, List.not_mem_nil, List.take_succ_cons, List.take_zero, not_false_eq_true, List.drop_zero, List.length_replicate, hd, tb2, hw, hw1, stops, inK, stepF, frsF, frF, itemF, codeF, condF, opsF, opsW, opF, callO, drF, drO, drW, drC, stepS, wtS, gdst, gdl, sopF, pv, evq, callF, calleeS, popF, lopF, cls, lvA, rdl, quiet, p_move, p_assign, p_pick, p_binOp, p_fieldAddr, l_load, e_box, SY.get, SY.put, SY.ev, SY.mk, SY.nth, SY.lvl, SY.setl, SY.ini, wid, wids, dr, flat, at1, rdC, rdCt, bopInt, bop, pickAV, isArr, ctOf, leaveS, retS, killL, isDefs, resS, resAll, tup1, AV.scal, plk, Ct.cell, exq_go, lvCt, exq_t, ↓reduceIte, Nat.reduceLT, Nat.reduceEqDiff, Nat.reduceAdd, Nat.reduceSub, Nat.reduceBEq, Bool.and_true, Bool.true_and, Bool.not_false, Bool.not_true, List.contains_nil, List.contains_cons, Bool.or_false, reduceCtorEq, true_and, Bool.false_eq_true, List.map_cons, List.map_nil, Bool.and_self, List.drop_succ_cons, List.drop_zero, List.length_cons, List.length_nil, List.cons_append, List.nil_append, List.append_nil, Nat.zero_add, Nat.add_zero, Nat.zero_mul, Int.reduceLE, decide_true, decide_false, ktOf, conK, alive, alive0, mks, noMk, lndL, lnd, lvB, tB_tt, okBls, shB, ren, renL, renCt, not_false_eq_true, and_self, ti3, ti22, ti25, ti42, regAt, fi30, body30, Try.f30, ↓exq_cd cd_code30, ↓exq_cd cd_c30_1, ↓exq_cd cd_c30_2, ↓exq_cd cd_c30_3, ↓exq_cd cd_c30_4, ↓exq_cd cd_c30_5, ↓exq_cd cd_c30_6, ↓exq_cd cd_c30_7, ↓exq_cd cd_c30_9, ↓exq_cd cd_c30_10, ↓exq_cd cd_c30_11, ↓exq_cd cd_c30_12, ↓exq_cd cd_c30_14, ↓exq_cd cd_c30_15, ↓exq_cd cd_c30_13, ↓exq_cd cd_c30_18, ↓exq_cd cd_c30_8, ↓exq_cd cd_c30_55, ↓exq_cd cd_c30_56, ↓exq_cd cd_c30_57, ↓exq_cd cd_c30_58, ↓exq_cd cd_c30_59, r30_1, r30_3, r30_5, r30_9, r30_14, r30_18, r30_55, r30_57, r30_59, plA30, pl30]
        repeat (refine And.intro (a := (_ = true)) (by first | (simp; done) | (simp; omega)) ?_)
        exact ObQ.mk [0, 1, 9, 10, 12, 13] (by decide) rfl rfl rfl ⟨rfl, rfl, rfl, rfl, rfl, rfl, trivial⟩
      | some w' =>
        refine ExQ_ok [] 4000 plsOk kBt_ok ?_
        simp only [conf0, layDR, fu6, fuL, lfO]
        (try rw [exh]); simp (maxSteps := 4000000) only [kBt, kB0, OB.kOvB, KC.kLK, kDk, kRk, ktO, ktW, objK, objB, updT, mapB, rhoN, mrk, readK, overK, KC.sLent, KC.keptS, KC.mk4, DW.osB, RW.osB, findD, findR, mApp, layD, layR, fuP, fuL, lfO, nilN, hnum, List.append_nil, List.nodup_cons, List.mem_cons, List.not_mem_nil, List.take_succ_cons, List.take_zero, not_false_eq_true, List.drop_zero, List.length_replicate, hd, tb2, hw, hw1, stops, inK, stepF, frsF, frF, itemF, codeF, condF, opsF, opsW, opF, callO, drF, drO, drW, drC, stepS, wtS, gdst, gdl, sopF, pv, evq, callF, calleeS, popF, lopF, cls, lvA, rdl, quiet, p_move, p_assign, p_pick, p_binOp, p_fieldAddr, l_load, e_box, SY.get, SY.put, SY.ev, SY.mk, SY.nth, SY.lvl, SY.setl, SY.ini, wid, wids, dr, flat, at1, rdC, rdCt, bopInt, bop, pickAV, isArr, ctOf, leaveS, retS, killL, isDefs, resS, resAll, tup1, AV.scal, plk, Ct.cell, exq_go, lvCt, exq_t, ↓reduceIte, Nat.reduceLT, Nat.reduceEqDiff, Nat.reduceAdd, Nat.reduceSub, Nat.reduceBEq, Bool.and_true, Bool.true_and, Bool.not_false, Bool.not_true, List.contains_nil, List.contains_cons, Bool.or_false, reduceCtorEq, true_and, Bool.false_eq_true, List.map_cons, List.map_nil, Bool.and_self, List.drop_succ_cons, List.drop_zero, List.length_cons, List.length_nil, List.cons_append, List.nil_append, List.append_nil, Nat.zero_add, Nat.add_zero, Nat.zero_mul, Int.reduceLE, decide_true, decide_false, ktOf, conK, alive, alive0, mks, noMk, lndL, lnd, lvB, tB_tt, okBls, shB, ren, renL, renCt, not_false_eq_true, and_self, ti3, ti22, ti25, ti42, regAt, fi30, body30, Try.f30, ↓exq_cd cd_code30, ↓exq_cd cd_c30_1, ↓exq_cd cd_c30_2, ↓exq_cd cd_c30_3, ↓exq_cd cd_c30_4, ↓exq_cd cd_c30_5, ↓exq_cd cd_c30_6, ↓exq_cd cd_c30_7, ↓exq_cd cd_c30_9, ↓exq_cd cd_c30_10, ↓exq_cd cd_c30_11, ↓exq_cd cd_c30_12, ↓exq_cd cd_c30_14, ↓exq_cd cd_c30_15, ↓exq_cd cd_c30_13, ↓exq_cd cd_c30_18, ↓exq_cd cd_c30_8, ↓exq_cd cd_c30_55, ↓exq_cd cd_c30_56, ↓exq_cd cd_c30_57, ↓exq_cd cd_c30_58, ↓exq_cd cd_c30_59, r30_1, r30_3, r30_5, r30_9, r30_14, r30_18, r30_55, r30_57, r30_59, plA30, pl30]
        repeat (refine And.intro (a := (_ = true)) (by first | (simp; done) | (simp; omega)) ?_)
        exact ObQ.mk [0, 1, 9, 10, 13, 14, 11] (by decide) rfl rfl rfl ⟨rfl, rfl, rfl, rfl, rfl, rfl, rfl, trivial⟩
  by_cases h1 : k = 1
  · subst h1
    clear h0
    cases u with
    | none =>
      have e0 : dAct ⟨l, f, x, 0, room, m, none, out⟩ 1 n b = (dLay false ⟨l, f, x, 0, room, m, none, out⟩ b).2 := by simp [dAct]
      rw [e0]
      generalize hd : dLay false ⟨l, f, x, 0, room, m, none, out⟩ b = r
      obtain ⟨e, l', f', x', xf', room', m', u', out'⟩ := r
      have hee : decide (e = e) = true := decide_eq_true rfl
      cases u' with
      | none =>
        refine ExQ_ok [] 4000 plsOk kBt_ok ?_
        simp only [conf0, layDR, fu6, fuL, lfO]
        (try rw [exh]); simp (maxSteps := 4000000) only [kBt, kB0, OB.kOvB, KC.kLK, kDk, kRk, ktO, ktW, objK, objB, updT, mapB, rhoN, mrk, readK, overK, KC.sLent, KC.keptS, KC.mk4, DW.osB, RW.osB, findD, findR, mApp, layD, layR, fuP, fuL, lfO, nilN, hnum, List.append_nil, List.nodup_cons, List.mem_cons, List.not_mem_nil, List.take_succ_cons, List.take_zero, not_false_eq_true, List.drop_zero, List.length_replicate, hd, tb2, stops, inK, stepF, frsF, frF, itemF, codeF, condF, opsF, opsW, opF, callO, drF, drO, drW, drC, stepS, wtS, gdst, gdl, sopF, pv, evq, callF, calleeS, popF, lopF, cls, lvA, rdl, quiet, p_move, p_assign, p_pick, p_binOp, p_fieldAddr, l_load, e_box, SY.get, SY.put, SY.ev, SY.mk, SY.nth, SY.lvl, SY.setl, SY.ini, wid, wids, dr, flat, at1, rdC, rdCt, bopInt, bop, pickAV, isArr, ctOf, leaveS, retS, killL, isDefs, resS, resAll, tup1, AV.scal, plk, Ct.cell, exq_go, lvCt, exq_t, exq_f, ↓reduceIte, Nat.reduceLT, Nat.reduceEqDiff, Nat.reduceAdd, Nat.reduceSub, Nat.reduceBEq, Bool.and_true, Bool.true_and, Bool.not_false, Bool.not_true, List.contains_nil, List.contains_cons, Bool.or_false, reduceCtorEq, true_and, Bool.false_eq_true, List.map_cons, List.map_nil, Bool.and_self, List.drop_succ_cons, List.drop_zero, List.length_cons, List.length_nil, List.cons_append, List.nil_append, List.append_nil, Nat.zero_add, Nat.add_zero, Nat.zero_mul, Int.reduceEq, Int.reduceLT, Int.reduceLE, decide_true, decide_false, ktOf, conK, alive, alive0, mks, noMk, lndL, lnd, lvB, tB_tt, okBls, shB, ren, renL, renCt, not_false_eq_true, and_self, ti3, ti22, ti25, ti42, regAt, fi30, body30, Try.f30, ↓exq_cd cd_code30, ↓exq_cd cd_c30_1, ↓exq_cd cd_c30_2, ↓exq_cd cd_c30_3, ↓exq_cd cd_c30_4, ↓exq_cd cd_c30_5, ↓exq_cd cd_c30_6, ↓exq_cd cd_c30_7, ↓exq_cd cd_c30_9, ↓exq_cd cd_c30_10, ↓exq_cd cd_c30_11, ↓exq_cd cd_c30_12, ↓exq_cd cd_c30_14, ↓exq_cd cd_c30_15, ↓exq_cd cd_c30_16, ↓exq_cd cd_c30_13, ↓exq_cd cd_c30_18, ↓exq_cd cd_c30_8, ↓exq_cd cd_c30_55, ↓exq_cd cd_c30_56, ↓exq_cd cd_c30_57, ↓exq_cd cd_c30_58, ↓exq_cd cd_c30_59, r30_1, r30_3, r30_5, r30_9, r30_14, r30_16, r30_18, r30_55, r30_57, r30_59, plA30, pl30]
        repeat (refine And.intro (a := (_ = true)) (by first | (simp; done) | (simp; omega)) ?_)
        exact ObQ.mk [0, 1, 8, 9, 11, 12] (by decide) rfl rfl rfl ⟨rfl, rfl, rfl, rfl, rfl, rfl, trivial⟩
      | some w' =>
        refine ExQ_ok [] 4000 plsOk kBt_ok ?_
        simp only [conf0, layDR, fu6, fuL, lfO]
        (try rw [exh]); simp (maxSteps := 4000000) only [kBt, kB0, OB.kOvB, KC.kLK, kDk, kRk, ktO, ktW, objK, objB, updT, mapB, rhoN, mrk, readK, overK, KC.sLent, KC.keptS, KC.mk4, DW.osB, RW.osB, findD, findR, mApp, layD, layR, fuP, fuL, lfO, nilN, hnum, List.append_nil, List.nodup_cons, List.mem_cons, List.not_mem_nil, List.take_succ_cons, List.take_zero, not_false_eq_true, List.drop_zero, List.length_replicate, hd, tb2, stops, inK, stepF, frsF, frF, itemF, codeF, condF, opsF, opsW, opF, callO, drF, drO, drW, drC, stepS, wtS, gdst, gdl, sopF, pv, evq, callF, calleeS, popF, lopF, cls, lvA, rdl, quiet, p_move, p_assign, p_pick, p_binOp, p_fieldAddr, l_load, e_box, SY.get, SY.put, SY.ev, SY.mk, SY.nth, SY.lvl, SY.setl, SY.ini, wid, wids, dr, flat, at1, rdC, rdCt, bopInt, bop, pickAV, isArr, ctOf, leaveS, retS, killL, isDefs, resS, resAll, tup1, AV.scal, plk, Ct.cell, exq_go, lvCt, exq_t, exq_f, ↓reduceIte, Nat.reduceLT, Nat.reduceEqDiff, Nat.reduceAdd, Nat.reduceSub, Nat.reduceBEq, Bool.and_true, Bool.true_and, Bool.not_false, Bool.not_true, List.contains_nil, List.contains_cons, Bool.or_false, reduceCtorEq, true_and, Bool.false_eq_true, List.map_cons, List.map_nil, Bool.and_self, List.drop_succ_cons, List.drop_zero, List.length_cons, List.length_nil, List.cons_append, List.nil_append, List.append_nil, Nat.zero_add, Nat.add_zero, Nat.zero_mul, Int.reduceEq, Int.reduceLT, Int.reduceLE, decide_true, decide_false, ktOf, conK, alive, alive0, mks, noMk, lndL, lnd, lvB, tB_tt, okBls, shB, ren, renL, renCt, not_false_eq_true, and_self, ti3, ti22, ti25, ti42, regAt, fi30, body30, Try.f30, ↓exq_cd cd_code30, ↓exq_cd cd_c30_1, ↓exq_cd cd_c30_2, ↓exq_cd cd_c30_3, ↓exq_cd cd_c30_4, ↓exq_cd cd_c30_5, ↓exq_cd cd_c30_6, ↓exq_cd cd_c30_7, ↓exq_cd cd_c30_9, ↓exq_cd cd_c30_10, ↓exq_cd cd_c30_11, ↓exq_cd cd_c30_12, ↓exq_cd cd_c30_14, ↓exq_cd cd_c30_15, ↓exq_cd cd_c30_16, ↓exq_cd cd_c30_13, ↓exq_cd cd_c30_18, ↓exq_cd cd_c30_8, ↓exq_cd cd_c30_55, ↓exq_cd cd_c30_56, ↓exq_cd cd_c30_57, ↓exq_cd cd_c30_58, ↓exq_cd cd_c30_59, r30_1, r30_3, r30_5, r30_9, r30_14, r30_16, r30_18, r30_55, r30_57, r30_59, plA30, pl30]
        repeat (refine And.intro (a := (_ = true)) (by first | (simp; done) | (simp; omega)) ?_)
        exact ObQ.mk [0, 1, 8, 9, 12, 13, 10] (by decide) rfl rfl rfl ⟨rfl, rfl, rfl, rfl, rfl, rfl, rfl, trivial⟩
    | some w =>
      have hw : ¬ w < 0 ∧ -1 ≤ w := by
        simp only [numOk, fuOk, Bool.and_eq_true, decide_eq_true_eq] at hnum
        omega
      obtain ⟨hw, hw1⟩ := hw
      have e0 : dAct ⟨l, f, x, 0, room, m, some w, out⟩ 1 n b = (dLay false ⟨l, f, x, 0, room, m, some w, out⟩ b).2 := by simp [dAct]
      rw [e0]
      generalize hd : dLay false ⟨l, f, x, 0, room, m, some w, out⟩ b = r
      obtain ⟨e, l', f', x', xf', room', m', u', out'⟩ := r
      have hee : decide (e = e) = true := decide_eq_true rfl
      cases u' with
      | none =>
        refine ExQ_ok [] 4000 plsOk kBt_ok ?_
        simp only [conf0, layDR, fu6, fuL, lfO]
        (try rw [exh]); simp (maxSteps := 4000000) only [kBt, kB0, OB.kOvB, KC.kLK, kDk, kRk, ktO, ktW, objK, objB, updT, mapB, rhoN, mrk, readK, overK, KC.sLent, KC.keptS, KC.mk4, DW.osB, RW.osB, findD, findR, mApp, layD, layR, fuP, fuL, lfO, nilN, hnum, List.append_nil, List.nodup_cons, List.mem_cons, List.not_mem_nil, List.take_succ_cons, List.take_zero, not_false_eq_true, List.drop_zero, List.length_replicate, hd, tb2, hw, hw1, stops, inK, stepF, frsF, frF, itemF, codeF, condF, opsF, opsW, opF, callO, drF, drO, drW, drC, stepS, wtS, gdst, gdl, sopF, pv, evq, callF, calleeS, popF, lopF, cls, lvA, rdl, quiet, p_move, p_assign, p_pick, p_binOp, p_fieldAddr, l_load, e_box, SY.get, SY.put, SY.ev, SY.mk, SY.nth, SY.lvl, SY.setl, SY.ini, wid, wids, dr, flat, at1, rdC, rdCt, bopInt, bop, pickAV, isArr, ctOf, leaveS, retS, killL, isDefs, resS, resAll, tup1, AV.scal, plk, Ct.cell, exq_go, lvCt, exq_t, exq_f, ↓reduceIte, Nat.reduceLT, Nat.reduceEqDiff, Nat.reduceAdd, Nat.reduceSub, Nat.reduceBEq, Bool.and_true, Bool.true_and, Bool.not_false, Bool.not_true, List.contains_nil, List.contains_cons, Bool.or_false, reduceCtorEq, true_and, Bool.false_eq_true, List.map_cons, List.map_nil, Bool.and_self, List.drop_succ_cons, List.drop_zero, List.length_cons, List.length_nil, List.cons_append, List.nil_append, List.append_nil, Nat.zero_add, Nat.add_zero, Nat.zero_mul, Int.reduceEq, Int.reduceLE, decide_true, decide_false, ktOf, conK, alive, alive0, mks, noMk, lndL, lnd, lvB, tB_tt, okBls, shB, ren, renL, renCt, not_false_eq_true, and_self, ti3, ti22, ti25, ti42, regAt, fi30, body30, Try.f30, ↓exq_cd cd_code30, ↓exq_cd cd_c30_1, ↓exq_cd cd_c30_2, ↓exq_cd cd_c30_3, ↓exq_cd cd_c30_4, ↓exq_cd cd_c30_5, ↓exq_cd cd_c30_6, ↓exq_cd cd_c30_7, ↓exq_cd cd_c30_9, ↓exq_cd cd_c30_10, ↓exq_cd cd_c30_11, ↓exq_cd cd_c30_12, ↓exq_cd cd_c30_14, ↓exq_cd cd_c30_15, ↓exq_cd cd_c30_16, ↓exq_cd cd_c30_13, ↓exq_cd cd_c30_18, ↓exq_cd cd_c30_8, ↓exq_cd cd_c30_55, ↓exq_cd cd_c30_56, ↓exq_cd cd_c30_57, ↓exq_cd cd_c30_58, ↓exq_cd cd_c30_59, r30_1, r30_3, r30_5, r30_9, r30_14, r30_16, r30_18, r30_55, r30_57, r30_59, plA30, pl30]
        repeat (refine And.intro (a := (_ = true)) (by first | (simp; done) | (simp; omega)) ?_)
        exact ObQ.mk [0, 1, 9, 10, 12, 13] (by decide) rfl rfl rfl ⟨rfl, rfl, rfl, rfl, rfl, rfl, trivial⟩
      | some w' =>
        refine ExQ_ok [] 4000 plsOk kBt_ok ?_
        simp only [conf0, layDR, fu6, fuL, lfO]
        (try rw [exh]); simp (maxSteps := 4000000) only [kBt, kB0, OB.kOvB, KC.kLK, kDk, kRk, ktO, ktW, objK, objB, updT, mapB, rhoN, mrk, readK, overK, KC.sLent, KC.keptS, KC.mk4, DW.osB, RW.osB, findD, findR, mApp, layD, layR, fuP, fuL, lfO, nilN, hnum, List.append_nil, List.nodup_cons, List.mem_cons, List.not_mem_nil, List.take_succ_cons, List.take_zero, not_false_eq_true, List.drop_zero, List.length_replicate, hd, tb2, hw, hw1, stops, inK, stepF, frsF, frF, itemF, codeF, condF, opsF, opsW, opF, callO, drF, drO, drW, drC, stepS, wtS, gdst, gdl, sopF, pv, evq, callF, calleeS, popF, lopF, cls, lvA, rdl, quiet, p_move, p_assign, p_pick, p_binOp, p_fieldAddr, l_load, e_box, SY.get, SY.put, SY.ev, SY.mk, SY.nth, SY.lvl, SY.setl, SY.ini, wid, wids, dr, flat, at1, rdC, rdCt, bopInt, bop, pickAV, isArr, ctOf, leaveS, retS, killL, isDefs, resS, resAll, tup1, AV.scal, plk, Ct.cell, exq_go, lvCt, exq_t, exq_f, ↓reduceIte, Nat.reduceLT, Nat.reduceEqDiff, Nat.reduceAdd, Nat.reduceSub, Nat.reduceBEq, Bool.and_true, Bool.true_and, Bool.not_false, Bool.not_true, List.contains_nil, List.contains_cons, Bool.or_false, reduceCtorEq, true_and, Bool.false_eq_true, List.map_cons, List.map_nil, Bool.and_self, List.drop_succ_cons, List.drop_zero, List.length_cons, List.length_nil, List.cons_append, List.nil_append, List.append_nil, Nat.zero_add, Nat.add_zero, Nat.zero_mul, Int.reduceEq, Int.reduceLE, decide_true, decide_false, ktOf, conK, alive, alive0, mks, noMk, lndL, lnd, lvB, tB_tt, okBls, shB, ren, renL, renCt, not_false_eq_true, and_self, ti3, ti22, ti25, ti42, regAt, fi30, body30, Try.f30, ↓exq_cd cd_code30, ↓exq_cd cd_c30_1, ↓exq_cd cd_c30_2, ↓exq_cd cd_c30_3, ↓exq_cd cd_c30_4, ↓exq_cd cd_c30_5, ↓exq_cd cd_c30_6, ↓exq_cd cd_c30_7, ↓exq_cd cd_c30_9, ↓exq_cd cd_c30_10, ↓exq_cd cd_c30_11, ↓exq_cd cd_c30_12, ↓exq_cd cd_c30_14, ↓exq_cd cd_c30_15, ↓exq_cd cd_c30_16, ↓exq_cd cd_c30_13, ↓exq_cd cd_c30_18, ↓exq_cd cd_c30_8, ↓exq_cd cd_c30_55, ↓exq_cd cd_c30_56, ↓exq_cd cd_c30_57, ↓exq_cd cd_c30_58, ↓exq_cd cd_c30_59, r30_1, r30_3, r30_5, r30_9, r30_14, r30_16, r30_18, r30_55, r30_57, r30_59, plA30, pl30]
        repeat (refine And.intro (a := (_ = true)) (by first | (simp; done) | (simp; omega)) ?_)
        exact ObQ.mk [0, 1, 9, 10, 13, 14, 11] (by decide) rfl rfl rfl ⟨rfl, rfl, rfl, rfl, rfl, rfl, rfl, trivial⟩
  by_cases h2 : k = 2
  · subst h2
    clear h0 h1
    cases u with
    | none =>
      have e0 : dAct ⟨l, f, x, 0, room, m, none, out⟩ 2 n b = (dSync ⟨l, f, x, 0, room, m, none, out⟩).2 := by simp [dAct]
      rw [e0]
      generalize hd : dSync ⟨l, f, x, 0, room, m, none, out⟩ = r
      obtain ⟨e, l', f', x', xf', room', m', u', out'⟩ := r
      have hee : decide (e = e) = true := decide_eq_true rfl
      cases u' with
      | none =>
        refine ExQ_ok [] 4000 plsOk kBt_ok ?_
        simp only [conf0, layDR, fu6, fuL, lfO]
        (try rw [exh]); simp (maxSteps := 4000000) only [kBt, kB0, OB.kOvB, KC.kLK, kDk, kRk, ktO, ktW, objK, objB, updT, mapB, rhoN, mrk, readK, overK, KC.sLent, KC.keptS, KC.mk4, DW.osK, RW.osK, findD, findR, mSync, layD, layR, fuP, fuL, lfO, hnum, List.append_nil, List.nodup_cons, List.mem_cons, List.not_mem_nil, List.take_succ_cons, List.take_zero, not_false_eq_true, List.drop_zero, hd, stops, inK, stepF, frsF, frF, itemF, codeF, condF, opsF, opsW, opF, callO, stepS, wtS, gdst, gdl, sopF, pv, evq, callF, calleeS, quiet, p_move, p_assign, p_pick, p_binOp, p_fieldAddr, l_load, e_box, SY.get, SY.put, SY.ev, SY.mk, SY.nth, SY.lvl, SY.setl, SY.ini, wid, wids, dr, flat, at1, rdC, rdCt, bopInt, bop, pickAV, isArr, ctOf, leaveS, retS, killL, isDefs, resS, resAll, tup1, AV.scal, Ct.cell, exq_go, lvCt, exq_t, exq_f, ↓reduceIte, Nat.reduceLT, Nat.reduceEqDiff, Nat.reduceAdd, Nat.reduceSub, Bool.and_true, Bool.true_and, Bool.not_true, reduceCtorEq, true_and, List.map_cons, List.map_nil, Bool.and_self, List.drop_succ_cons, List.drop_zero, List.length_cons, List.length_nil, List.cons_append, List.nil_append, List.append_nil, Nat.zero_add, Nat.add_zero, Nat.zero_mul, Int.reduceEq, Int.reduceLT, Int.reduceLE, decide_true, decide_false, ktOf, conK, alive, lndL, lnd, lvB, tB_tt, okBls, shB, ren, renL, renCt, not_false_eq_true, and_self, ti3, ti22, ti25, ti42, regAt, fi30, body30, Try.f30, ↓exq_cd cd_code30, ↓exq_cd cd_c30_1, ↓exq_cd cd_c30_2, ↓exq_cd cd_c30_3, ↓exq_cd cd_c30_4, ↓exq_cd cd_c30_5, ↓exq_cd cd_c30_6, ↓exq_cd cd_c30_7, ↓exq_cd cd_c30_9, ↓exq_cd cd_c30_10, ↓exq_cd cd_c30_11, ↓exq_cd cd_c30_12, ↓exq_cd cd_c30_14, ↓exq_cd cd_c30_15, ↓exq_cd cd_c30_16, ↓exq_cd cd_c30_13, ↓exq_cd cd_c30_19, ↓exq_cd cd_c30_21, ↓exq_cd cd_c30_22, ↓exq_cd cd_c30_23, ↓exq_cd cd_c30_8, ↓exq_cd cd_c30_55, ↓exq_cd cd_c30_56, ↓exq_cd cd_c30_57, ↓exq_cd cd_c30_58, ↓exq_cd cd_c30_59, r30_1, r30_3, r30_5, r30_9, r30_14, r30_16, r30_21, r30_23, r30_55, r30_57, r30_59]
        repeat (refine And.intro (a := (_ = true)) (by first | (simp; done) | (simp; omega)) ?_)
        exact ObQ.mk [0, 1, 8, 9, 11, 12] (by decide) rfl rfl rfl ⟨rfl, rfl, rfl, rfl, rfl, rfl, trivial⟩
      | some w' =>
        refine ExQ_ok [] 4000 plsOk kBt_ok ?_
        simp only [conf0, layDR, fu6, fuL, lfO]
        (try rw [exh]); simp (maxSteps := 4000000) only [kBt, kB0, OB.kOvB, KC.kLK, kDk, kRk, ktO, ktW, objK, objB, updT, mapB, rhoN, mrk, readK, overK, KC.sLent, KC.keptS, KC.mk4, DW.osK, RW.osK, findD, findR, mSync, layD, layR, fuP, fuL, lfO, hnum, List.append_nil, List.nodup_cons, List.mem_cons, List.not_mem_nil, List.take_succ_cons, List.take_zero, not_false_eq_true, List.drop_zero, hd, stops, inK, stepF, frsF, frF, itemF, codeF, condF, opsF, opsW, opF, callO, stepS, wtS, gdst, gdl, sopF, pv, evq, callF, calleeS, quiet, p_move, p_assign, p_pick, p_binOp, p_fieldAddr, l_load, e_box, SY.get, SY.put, SY.ev, SY.mk, SY.nth, SY.lvl, SY.setl, SY.ini, wid, wids, dr, flat, at1, rdC, rdCt, bopInt, bop, pickAV, isArr, ctOf, leaveS, retS, killL, isDefs, resS, resAll, tup1, AV.scal, Ct.cell, exq_go, lvCt, exq_t, exq_f, ↓reduceIte, Nat.reduceLT, Nat.reduceEqDiff, Nat.reduceAdd, Nat.reduceSub, Bool.and_true, Bool.true_and, Bool.not_true, reduceCtorEq, true_and, List.map_cons, List.map_nil, Bool.and_self, List.drop_succ_cons, List.drop_zero, List.length_cons, List.length_nil, List.cons_append, List.nil_append, List.append_nil, Nat.zero_add, Nat.add_zero, Nat.zero_mul, Int.reduceEq, Int.reduceLT, Int.reduceLE, decide_true, decide_false, ktOf, conK, alive, lndL, lnd, lvB, tB_tt, okBls, shB, ren, renL, renCt, not_false_eq_true, and_self, ti3, ti22, ti25, ti42, regAt, fi30, body30, Try.f30, ↓exq_cd cd_code30, ↓exq_cd cd_c30_1, ↓exq_cd cd_c30_2, ↓exq_cd cd_c30_3, ↓exq_cd cd_c30_4, ↓exq_cd cd_c30_5, ↓exq_cd cd_c30_6, ↓exq_cd cd_c30_7, ↓exq_cd cd_c30_9, ↓exq_cd cd_c30_10, ↓exq_cd cd_c30_11, ↓exq_cd cd_c30_12, ↓exq_cd cd_c30_14, ↓exq_cd cd_c30_15, ↓exq_cd cd_c30_16, ↓exq_cd cd_c30_13, ↓exq_cd cd_c30_19, ↓exq_cd cd_c30_21, ↓exq_cd cd_c30_22, ↓exq_cd cd_c30_23, ↓exq_cd cd_c30_8, ↓exq_cd cd_c30_55, ↓exq_cd cd_c30_56, ↓exq_cd cd_c30_57, ↓exq_cd cd_c30_58, ↓exq_cd cd_c30_59, r30_1, r30_3, r30_5, r30_9, r30_14, r30_16, r30_21, r30_23, r30_55, r30_57, r30_59]
        repeat (refine And.intro (a := (_ = true)) (by first | (simp; done) | (simp; omega)) ?_)
        exact ObQ.mk [0, 1, 8, 9, 12, 13, 10] (by decide) rfl rfl rfl ⟨rfl, rfl, rfl, rfl, rfl, rfl, rfl, trivial⟩
    | some w =>
      have hw : ¬ w < 0 ∧ -1 ≤ w := by
        simp only [numOk, fuOk, Bool.and_eq_true, decide_eq_true_eq] at hnum
        omega
      obtain ⟨hw, hw1⟩ := hw
      have e0 : dAct ⟨l, f, x, 0, room, m, some w, out⟩ 2 n b = (dSync ⟨l, f, x, 0, room, m, some w, out⟩).2 := by simp [dAct]
      rw [e0]
      generalize hd : dSync ⟨l, f, x, 0, room, m, some w, out⟩ = r
      obtain ⟨e, l', f', x', xf', room', m', u', out'⟩ := r
      have hee : decide (e = e) = true := decide_eq_true rfl
      cases u' with
      | none =>
        refine ExQ_ok [] 4000 plsOk kBt_ok ?_
        simp only [conf0, layDR, fu6, fuL, lfO]
        (try rw [exh]); simp (maxSteps := 4000000) only [kBt, kB0, OB.kOvB, KC.kLK, kDk, kRk, ktO, ktW, objK, objB, updT, mapB, rhoN, mrk, readK, overK, KC.sLent, KC.keptS, KC.mk4, DW.osK, RW.osK, findD, findR, mSync, layD, layR, fuP, fuL, lfO, hnum, List.append_nil, List.nodup_cons, List.mem_cons, List.not_mem_nil, List.take_succ_cons, List.take_zero, not_false_eq_true, List.drop_zero, hd, hw, hw1, stops, inK, stepF, frsF, frF, itemF, codeF, condF, opsF, opsW, opF, callO, stepS, wtS, gdst, gdl, sopF, pv, evq, callF, calleeS, quiet, p_move, p_assign, p_pick, p_binOp, p_fieldAddr, l_load, e_box, SY.get, SY.put, SY.ev, SY.mk, SY.nth, SY.lvl, SY.setl, SY.ini, wid, wids, dr, flat, at1, rdC, rdCt, bopInt, bop, pickAV, isArr, ctOf, leaveS, retS, killL, isDefs, resS, resAll, tup1, AV.scal, Ct.cell, exq_go, lvCt, exq_t, exq_f, ↓reduceIte, Nat.reduceLT, Nat.reduceEqDiff, Nat.reduceAdd, Nat.reduceSub, Bool.and_true, Bool.true_and, Bool.not_true, reduceCtorEq, true_and, List.map_cons, List.map_nil, Bool.and_self, List.drop_succ_cons, List.drop_zero, List.length_cons, List.length_nil, List.cons_append, List.nil_append, List.append_nil, Nat.zero_add, Nat.add_zero, Nat.zero_mul, Int.reduceEq, Int.reduceLE, decide_true, decide_false, ktOf, conK, alive, lndL, lnd, lvB, tB_tt, okBls, shB, ren, renL, renCt, not_false_eq_true, and_self, ti3, ti22, ti25, ti42, regAt, fi30, body30, Try.f30, ↓exq_cd cd_code30, ↓exq_cd cd_c30_1, ↓exq_cd cd_c30_2, ↓exq_cd cd_c30_3, ↓exq_cd cd_c30_4, ↓exq_cd cd_c30_5, ↓exq_cd cd_c30_6, ↓exq_cd cd_c30_7, ↓exq_cd cd_c30_9, ↓exq_cd cd_c30_10, ↓exq_cd cd_c30_11, ↓exq_cd cd_c30_12, ↓exq_cd cd_c30_14, ↓exq_cd cd_c30_15, ↓exq_cd cd_c30_16, ↓exq_cd cd_c30_13, ↓exq_cd cd_c30_19, ↓exq_cd cd_c30_21, ↓exq_cd cd_c30_22, ↓exq_cd cd_c30_23, ↓exq_cd cd_c30_8, ↓exq_cd cd_c30_55, ↓exq_cd cd_c30_56, ↓exq_cd cd_c30_57, ↓exq_cd cd_c30_58, ↓exq_cd cd_c30_59, r30_1, r30_3, r30_5, r30_9, r30_14, r30_16, r30_21, r30_23, r30_55, r30_57, r30_59]
        repeat (refine And.intro (a := (_ = true)) (by first | (simp; done) | (simp; omega)) ?_)
        exact ObQ.mk [0, 1, 9, 10, 12, 13] (by decide) rfl rfl rfl ⟨rfl, rfl, rfl, rfl, rfl, rfl, trivial⟩
      | some w' =>
        refine ExQ_ok [] 4000 plsOk kBt_ok ?_
        simp only [conf0, layDR, fu6, fuL, lfO]
        (try rw [exh]); simp (maxSteps := 4000000) only [kBt, kB0, OB.kOvB, KC.kLK, kDk, kRk, ktO, ktW, objK, objB, updT, mapB, rhoN, mrk, readK, overK, KC.sLent, KC.keptS, KC.mk4, DW.osK, RW.osK, findD, findR, mSync, layD, layR, fuP, fuL, lfO, hnum, List.append_nil, List.nodup_cons, List.mem_cons, List.not_mem_nil, List.take_succ_cons, List.take_zero, not_false_eq_true, List.drop_zero, hd, hw, hw1, stops, inK, stepF, frsF, frF, itemF, codeF, condF, opsF, opsW, opF, callO, stepS, wtS, gdst, gdl, sopF, pv, evq, callF, calleeS, quiet, p_move, p_assign, p_pick, p_binOp, p_fieldAddr, l_load, e_box, SY.get, SY.put, SY.ev, SY.mk, SY.nth, SY.lvl, SY.setl, SY.ini, wid, wids, dr, flat, at1, rdC, rdCt, bopInt, bop, pickAV, isArr, ctOf, leaveS, retS, killL, isDefs, resS, resAll, tup1, AV.scal, Ct.cell, exq_go, lvCt, exq_t, exq_f, ↓reduceIte, Nat.reduceLT, Nat.reduceEqDiff, Nat.reduceAdd, Nat.reduceSub, Bool.and_true, Bool.true_and, Bool.not_true, reduceCtorEq, true_and, List.map_cons, List.map_nil, Bool.and_self, List.drop_succ_cons, List.drop_zero, List.length_cons, List.length_nil, List.cons_append, List.nil_append, List.append_nil, Nat.zero_add, Nat.add_zero, Nat.zero_mul, Int.reduceEq, Int.reduceLE, decide_true, decide_false, ktOf, conK, alive, lndL, lnd, lvB, tB_tt, okBls, shB, ren, renL, renCt, not_false_eq_true, and_self, ti3, ti22, ti25, ti42, regAt, fi30, body30, Try.f30, ↓exq_cd cd_code30, ↓exq_cd cd_c30_1, ↓exq_cd cd_c30_2, ↓exq_cd cd_c30_3, ↓exq_cd cd_c30_4, ↓exq_cd cd_c30_5, ↓exq_cd cd_c30_6, ↓exq_cd cd_c30_7, ↓exq_cd cd_c30_9, ↓exq_cd cd_c30_10, ↓exq_cd cd_c30_11, ↓exq_cd cd_c30_12, ↓exq_cd cd_c30_14, ↓exq_cd cd_c30_15, ↓exq_cd cd_c30_16, ↓exq_cd cd_c30_13, ↓exq_cd cd_c30_19, ↓exq_cd cd_c30_21, ↓exq_cd cd_c30_22, ↓exq_cd cd_c30_23, ↓exq_cd cd_c30_8, ↓exq_cd cd_c30_55, ↓exq_cd cd_c30_56, ↓exq_cd cd_c30_57, ↓exq_cd cd_c30_58, ↓exq_cd cd_c30_59, r30_1, r30_3, r30_5, r30_9, r30_14, r30_16, r30_21, r30_23, r30_55, r30_57, r30_59]
        repeat (refine And.intro (a := (_ = true)) (by first | (simp; done) | (simp; omega)) ?_)
        exact ObQ.mk [0, 1, 9, 10, 13, 14, 11] (by decide) rfl rfl rfl ⟨rfl, rfl, rfl, rfl, rfl, rfl, rfl, trivial⟩
  by_cases h3 : k = 3
  · subst h3
    clear h0 h1 h2
    cases u with
    | none =>
      have e0 : dAct ⟨l, f, x, 0, room, m, none, out⟩ 3 n b = (dLay true ⟨l, f, x, 0, room, m, none, out⟩ b).2 := by simp [dAct]
      rw [e0]
      generalize hd : dLay true ⟨l, f, x, 0, room, m, none, out⟩ b = r
      obtain ⟨e, l', f', x', xf', room', m', u', out'⟩ := r
      have hee : decide (e = e) = true := decide_eq_true rfl
      cases u' with
      | none =>
        refine ExQ_ok [] 4000 plsOk kBt_ok ?_
        simp only [conf0, layDR, fu6, fuL, lfO]
        (try rw [exh]); simp (maxSteps := 4000000) only [kBt, kB0, OB.kOvB, KC.kLK, kDk, kRk, ktO, ktW, objK, objB, updT, mapB, rhoN, mrk, readK, overK, KC.sLent, KC.keptS, KC.mk4, DW.osB, RW.osB, findD, findR, mNext, layD, layR, fuP, fuL, lfO, nilN, hnum, List.append_nil, List.nodup_cons, List.mem_cons, List.not_mem_nil, List.take_succ_cons, List.take_zero, not_false_eq_true, List.drop_zero, List.length_replicate, hd, tb2, stops, inK, stepF, frsF, frF, itemF, codeF, condF, opsF, opsW, opF, callO, drF, drO, drW, drC, stepS, wtS, gdst, gdl, sopF, pv, evq, callF, calleeS, popF, lopF, cls, lvA, rdl, quiet, p_move, p_assign, p_pick, p_binOp, p_fieldAddr, l_load, e_box, SY.get, SY.put, SY.ev, SY.mk, SY.nth, SY.lvl, SY.setl, SY.ini, wid, wids, dr, flat, at1, rdC, rdCt, bopInt, bop, pickAV, isArr, ctOf, leaveS, retS, killL, isDefs, resS, resAll, tup1, AV.scal, plk, Ct.cell, exq_go, lvCt, exq_t, exq_f, ↓reduceIte, Nat.reduceLT, Nat.reduceEqDiff, Nat.reduceAdd, Nat.reduceSub, Nat.reduceBEq, Bool.and_true, Bool.true_and, Bool.not_false, Bool.not_true, List.contains_nil, List.contains_cons, Bool.or_false, reduceCtorEq, true_and, Bool.false_eq_true, List.map_cons, List.map_nil, Bool.and_self, List.drop_succ_cons, List.drop_zero, List.length_cons, List.length_nil, List.cons_append, List.nil_append, List.append_nil, Nat.zero_add, Nat.add_zero, Nat.zero_mul, Int.reduceEq, Int.reduceLT, Int.reduceLE, decide_true, decide_false, ktOf, conK, alive, alive0, mks, noMk, lndL, lnd, lvB, tB_tt, okBls, shB, ren, renL, renCt, not_false_eq_true, and_self, ti3, ti22, ti25, ti42, regAt, fi30, body30, Try.f30, ↓exq_cd cd_code30, ↓exq_cd cd_c30_1, ↓exq_cd cd_c30_2, ↓exq_cd cd_c30_3, ↓exq_cd cd_c30_4, ↓exq_cd cd_c30_5, ↓exq_cd cd_c30_6, ↓exq_cd cd_c30_7, ↓exq_cd cd_c30_9, ↓exq_cd cd_c30_10, ↓exq_cd cd_c30_11, ↓exq_cd cd_c30_12, ↓exq_cd cd_c30_14, ↓exq_cd cd_c30_15, ↓exq_cd cd_c30_16, ↓exq_cd cd_c30_13, ↓exq_cd cd_c30_19, ↓exq_cd cd_c30_21, ↓exq_cd cd_c30_22, ↓exq_cd cd_c30_24, ↓exq_cd cd_c30_26, ↓exq_cd cd_c30_27, ↓exq_cd cd_c30_28, ↓exq_cd cd_c30_8, ↓exq_cd cd_c30_55, ↓exq_cd cd_c30_56, ↓exq_cd cd_c30_57, ↓exq_cd cd_c30_58, ↓exq_cd cd_c30_59, r30_1, r30_3, r30_5, r30_9, r30_14, r30_16, r30_21, r30_26, r30_28, r30_55, r30_57, r30_59, plA30, pl30]
        repeat (refine And.intro (a := (_ = true)) (by first | (simp; done) | (simp; omega)) ?_)
        exact ObQ.mk [0, 1, 8, 9, 11, 12] (by decide) rfl rfl rfl ⟨rfl, rfl, rfl, rfl, rfl, rfl, trivial⟩
      | some w' =>
        refine ExQ_ok [] 4000 plsOk kBt_ok ?_
        simp only [conf0, layDR, fu6, fuL, lfO]
        (try rw [exh]); simp (maxSteps := 4000000) only [kBt, kB0, OB.kOvB, KC.kLK, kDk, kRk, ktO, ktW, objK, objB, updT, mapB, rhoN, mrk, readK, overK, KC.sLent, KC.keptS, KC.mk4, DW.osB, RW.osB, findD, findR, mNext, layD, layR, fuP, fuL, lfO, nilN, hnum, List.append_nil, List.nodup_cons, List.mem_cons, List.not_mem_nil, List.take_succ_cons, List.take_zero, not_false_eq_true, List.drop_zero, List.length_replicate, hd, tb2, stops, inK, stepF, frsF, frF, itemF, codeF, condF, opsF, opsW, opF, callO, drF, drO, drW, drC, stepS, wtS, gdst, gdl, sopF, pv, evq, callF, calleeS, popF, lopF, cls, lvA, rdl, quiet, p_move, p_assign, p_pick, p_binOp, p_fieldAddr, l_load, e_box, SY.get, SY.put, SY.ev, SY.mk, SY.nth, SY.lvl, SY.setl, SY.ini, wid, wids, dr, flat, at1, rdC, rdCt, bopInt, bop, pickAV, isArr, ctOf, leaveS, retS, killL, isDefs, resS, resAll, tup1, AV.scal, plk, Ct.cell, exq_go, lvCt, exq_t, exq_f, ↓reduceIte, Nat.reduceLT, Nat.reduceEqDiff, Nat.reduceAdd, Nat.reduceSub, Nat.reduceBEq, Bool.and_true, Bool.true_and, Bool.not_false, Bool.not_true, List.contains_nil, List.contains_cons, Bool.or_false, reduceCtorEq, true_and, Bool.false_eq_true, List.map_cons, List.map_nil, Bool.and_self, List.drop_succ_cons, List.drop_zero, List.length_cons, List.length_nil, List.cons_append, List.nil_append, List.append_nil, Nat.zero_add, Nat.add_zero, Nat.zero_mul, Int.reduceEq, Int.reduceLT, Int.reduceLE, decide_true, decide_false, ktOf, conK, alive, alive0, mks, noMk, lndL, lnd, lvB, tB_tt, okBls, shB, ren, renL, renCt, not_false_eq_true, and_self, ti3, ti22, ti25, ti42, regAt, fi30, body30, Try.f30, ↓exq_cd cd_code30, ↓exq_cd cd_c30_1, ↓exq_cd cd_c30_2, ↓exq_cd cd_c30_3, ↓exq_cd cd_c30_4, ↓exq_cd cd_c30_5, ↓exq_cd cd_c30_6, ↓exq_cd cd_c30_7, ↓exq_cd cd_c30_9, ↓exq_cd cd_c30_10, ↓exq_cd cd_c30_11, ↓exq_cd cd_c30_12, ↓exq_cd cd_c30_14, ↓exq_cd cd_c30_15, ↓exq_cd cd_c30_16, ↓exq_cd cd_c30_13, ↓exq_cd cd_c30_19, ↓exq_cd cd_c30_21, ↓exq_cd cd_c30_22, ↓exq_cd cd_c30_24, ↓exq_cd cd_c30_26, ↓exq_cd cd_c30_27, ↓exq_cd cd_c30_28, ↓exq_cd cd_c30_8, ↓exq_cd cd_c30_55, ↓exq_cd cd_c30_56, ↓exq_cd cd_c30_57, ↓exq_cd cd_c30_58, ↓exq_cd cd_c30_59, r30_1, r30_3, r30_5, r30_9, r30_14, r30_16, r30_21, r30_26, r30_28, r30_55, r30_57, r30_59, plA30, pl30]
        repeat (refine And.intro (a := (_ = true)) (by first | (simp; done) | (simp; omega)) ?_)
        exact ObQ.mk [0, 1, 8, 9, 12, 13, 10] (by decide) rfl rfl rfl ⟨rfl, rfl, rfl, rfl, rfl, rfl, rfl, trivial⟩
    | some w =>
      have hw : ¬ w < 0 ∧ -1 ≤ w := by
        simp only [numOk, fuOk, Bool.and_eq_true, decide_eq_true_eq] at hnum
        omega
      obtain ⟨hw, hw1⟩ := hw
      have e0 : dAct ⟨l, f, x, 0, room, m, some w, out⟩ 3 n b = (dLay true ⟨l, f, x, 0, room, m, some w, out⟩ b).2 := by simp [dAct]
      rw [e0]
      generalize hd : dLay true ⟨l, f, x, 0, room, m, some w, out⟩ b = r
      obtain ⟨e, l', f', x', xf', room', m', u', out'⟩ := r
      have hee : decide (e = e) = true := decide_eq_true rfl
      cases u' with
      | none =>
        refine ExQ_ok [] 4000 plsOk kBt_ok ?_
        simp only [conf0, layDR, fu6, fuL, lfO]
        (try rw [exh]); simp (maxSteps := 4000000) only [kBt, kB0, OB.kOvB, KC.kLK, kDk, kRk, ktO, ktW, objK, objB, updT, mapB, rhoN, mrk, readK, overK, KC.sLent, KC.keptS, KC.mk4, DW.osB, RW.osB, findD, findR, mNext, layD, layR, fuP, fuL, lfO, nilN, hnum, List.append_nil, List.nodup_cons, List.mem_cons, List.not_mem_nil, List.take_succ_cons, List.take_zero, not_false_eq_true, List.drop_zero, List.length_replicate, hd, tb2, hw, hw1, stops, inK, stepF, frsF, frF, itemF, codeF, condF, opsF, opsW, opF, callO, drF, drO, drW, drC, stepS, wtS, gdst, gdl, sopF, pv, evq, callF, calleeS, popF, lopF, cls, lvA, rdl, quiet, p_move, p_assign, p_pick, p_binOp, p_fieldAddr, l_load, e_box, SY.get, SY.put, SY.ev, SY.mk, SY.nth, SY.lvl, SY.setl, SY.ini, wid, wids, dr, flat, at1, rdC, rdCt, bopInt, bop, pickAV, isArr, ctOf, leaveS, retS, killL, isDefs, resS, resAll, tup1, AV.scal, plk, Ct.cell, exq_go, lvCt, exq_t, exq_f, ↓reduceIte, Nat.reduceLT, Nat.reduceEqDiff, Nat.reduceAdd, Nat.reduceSub, Nat.reduceBEq, Bool.and_true, Bool.true_and, Bool.not_false, Bool.not_true, List.contains_nil, List.contains_cons, Bool.or_false, reduceCtorEq, true_and, Bool.false_eq_true, List.map_cons, List.map_nil, Bool.and_self, List.drop_succ_cons, List.drop_zero, List.length_cons, List.length_nil, List.cons_append, List.nil_append, List.append_nil, Nat.zero_add, Nat.add_zero, Nat.zero_mul, Int.reduceEq, Int.reduceLE, decide_true, decide_false, ktOf, conK, alive, alive0, mks, noMk, lndL, lnd, lvB, tB_tt, okBls, shB, ren, renL, renCt, not_false_eq_true, and_self, ti3, ti22, ti25, ti42, regAt, fi30, body30, Try.f30, ↓exq_cd cd_code30, ↓exq_cd cd_c30_1, ↓exq_cd cd_c30_2, ↓exq_cd cd_c30_3, ↓exq_cd cd_c30_4, ↓exq_cd cd_c30_5, ↓exq_cd cd_c30_6, ↓exq_cd cd_c30_7, ↓exq_cd cd_c30_9, ↓exq_cd cd_c30_10, ↓exq_cd cd_c30_11, ↓exq_cd cd_c30_12, ↓exq_cd cd_c30_14, ↓exq_cd cd_c30_15, ↓exq_cd cd_c30_16, ↓exq_cd cd_c30_13, ↓exq_cd cd_c30_19, ↓exq_cd cd_c30_21, ↓exq_cd cd_c30_22, ↓exq_cd cd_c30_24, ↓exq_cd cd_c30_26, ↓exq_cd cd_c30_27, ↓exq_cd cd_c30_28, ↓exq_cd cd_c30_8, ↓exq_cd cd_c30_55, ↓exq_cd cd_c30_56, ↓exq_cd cd_c30_57, ↓exq_cd cd_c30_58, ↓exq_cd cd_c30_59, r30_1, r30_3, r30_5, r30_9, r30_14, r30_16, r30_21, r30_26, r30_28, r30_55, r30_57, r30_59, plA30, pl30]
        repeat (refine And.intro (a := (_ = true)) (by first | (simp; done) | (simp; omega)) ?_)
        exact ObQ.mk [0, 1, 9, 10, 12, 13] (by decide) rfl rfl rfl ⟨rfl, rfl, rfl, rfl, rfl, rfl, trivial⟩
      | some w' =>
        refine ExQ_ok [] 4000 plsOk kBt_ok ?_
        simp only [conf0, layDR, fu6, fuL, lfO]
        (try rw [exh]); simp (maxSteps := 4000000) only [kBt, kB0, OB.kOvB, KC.kLK, kDk, kRk, ktO, ktW, objK, objB, updT, mapB, rhoN, mrk, readK, overK, KC.sLent, KC.keptS, KC.mk4, DW.osB, RW.osB, findD, findR, mNext, layD, layR, fuP, fuL, lfO, nilN, hnum, List.append_nil, List.nodup_cons, List.mem_cons, List.not_mem_nil, List.take_succ_cons, List.take_zero, not_false_eq_true, List.drop_zero, List.length_replicate, hd, tb2, hw, hw1, stops, inK, stepF, frsF, frF, itemF, codeF, condF, opsF, opsW, opF, callO, drF, drO, drW, drC, stepS, wtS, gdst, gdl, sopF, pv, evq, callF, calleeS, popF, lopF, cls, lvA, rdl, quiet, p_move, p_assign, p_pick, p_binOp, p_fieldAddr, l_load, e_box, SY.get, SY.put, SY.ev, SY.mk, SY.nth, SY.lvl, SY.setl, SY.ini, wid, wids, dr, flat, at1, rdC, rdCt, bopInt, bop, pickAV, isArr, ctOf, leaveS, retS, killL, isDefs, resS, resAll, tup1, AV.scal, plk, Ct.cell, exq_go, lvCt, exq_t, exq_f, ↓reduceIte, Nat.reduceLT, Nat.reduceEqDiff, Nat.reduceAdd, Nat.reduceSub, Nat.reduceBEq, Bool.and_true, Bool.true_and, Bool.not_false, Bool.not_true, List.contains_nil, List.contains_cons, Bool.or_false, reduceCtorEq, true_and, Bool.false_eq_true, List.map_cons, List.map_nil, Bool.and_self, List.drop_succ_cons, List.drop_zero, List.length_cons, List.length_nil, List.cons_append, List.nil_append, List.append_nil, Nat.zero_add, Nat.add_zero, Nat.zero_mul, Int.reduceEq, Int.reduceLE, decide_true, decide_false, ktOf, conK, alive, alive0, mks, noMk, lndL, lnd, lvB, tB_tt, okBls, shB, ren, renL, renCt, not_false_eq_true, and_self, ti3, ti22, ti25, ti42, regAt, fi30, body30, Try.f30, ↓exq_cd cd_code30, ↓exq_cd cd_c30_1, ↓exq_cd cd_c30_2, ↓exq_cd cd_c30_3, ↓exq_cd cd_c30_4, ↓exq_cd cd_c30_5, ↓exq_cd cd_c30_6, ↓exq_cd cd_c30_7, ↓exq_cd cd_c30_9, ↓exq_cd cd_c30_10, ↓exq_cd cd_c30_11, ↓exq_cd cd_c30_12, ↓exq_cd cd_c30_14, ↓exq_cd cd_c30_15, ↓exq_cd cd_c30_16, ↓exq_cd cd_c30_13, ↓exq_cd cd_c30_19, ↓exq_cd cd_c30_21, ↓exq_cd cd_c30_22, ↓exq_cd cd_c30_24, ↓exq_cd cd_c30_26, ↓exq_cd cd_c30_27, ↓exq_cd cd_c30_28, ↓exq_cd cd_c30_8, ↓exq_cd cd_c30_55, ↓exq_cd cd_c30_56, ↓exq_cd cd_c30_57, ↓exq_cd cd_c30_58, ↓exq_cd cd_c30_59, r30_1, r30_3, r30_5, r30_9, r30_14, r30_16, r30_21, r30_26, r30_28, r30_55, r30_57, r30_59, plA30, pl30]
        repeat (refine And.intro (a := (_ = true)) (by first | (simp; done) | (simp; omega)) ?_)
        exact ObQ.mk [0, 1, 9, 10, 13, 14, 11] (by decide) rfl rfl rfl ⟨rfl, rfl, rfl, rfl, rfl, rfl, rfl, trivial⟩
  by_cases h4 : k = 4
  · subst h4
    clear h0 h1 h2 h3
    cases u with
    | none =>
      have e0 : dAct ⟨l, f, x, 0, room, m, none, out⟩ 4 n b = (dSwitch ⟨l, f, x, 0, room, m, none, out⟩).2 := by simp [dAct]
      rw [e0]
      generalize hd : dSwitch ⟨l, f, x, 0, room, m, none, out⟩ = r
      obtain ⟨e, l', f', x', xf', room', m', u', out'⟩ := r
      have hee : decide (e = e) = true := decide_eq_true rfl
      cases u' with
      | none =>
        refine ExQ_ok [] 4000 plsOk kBt_ok ?_
        simp only [conf0, layDR, fu6, fuL, lfO]
        (try rw [exh]); simp (maxSteps := 4000000) only [kBt, kB0, OB.kOvB, KC.kLK, kDk, kRk, ktO, ktW, objK, objB, updT, mapB, rhoN, mrk, readK, overK, KC.sLent, KC.keptS, KC.mk4, DW.osK, RW.osK, findD, findR, mSwitch, layD, layR, fuP, fuL, lfO, hnum, List.append_nil, List.nodup_cons, List.mem_cons, List.not_mem_nil, List.take_succ_cons, List.take_zero, not_false_eq_true, List.drop_zero, hd, stops, inK, stepF, frsF, frF, itemF, codeF, condF, opsF, opsW, opF, callO, stepS, wtS, gdst, gdl, sopF, pv, evq, callF, calleeS, quiet, p_move, p_assign, p_pick, p_binOp, p_fieldAddr, l_load, e_box, SY.get, SY.put, SY.ev, SY.mk, SY.nth, SY.lvl, SY.setl, SY.ini, wid, wids, dr, flat, at1, rdC, rdCt, bopInt, bop, pickAV, isArr, ctOf, leaveS, retS, killL, isDefs, resS, resAll, tup1, AV.scal, Ct.cell, exq_go, lvCt, exq_t, exq_f, ↓reduceIte, Nat.reduceLT, Nat.reduceEqDiff, Nat.reduceAdd, Nat.reduceSub, Bool.and_true, Bool.true_and, Bool.not_true, reduceCtorEq, true_and, List.map_cons, List.map_nil, Bool.and_self, List.drop_succ_cons, List.drop_zero, List.length_cons, List.length_nil, List.cons_append, List.nil_append, List.append_nil, Nat.zero_add, Nat.add_zero, Nat.zero_mul, Int.reduceEq, Int.reduceLT, Int.reduceLE, decide_true, decide_false, ktOf, conK, alive, lndL, lnd, lvB, tB_tt, okBls, shB, ren, renL, renCt, not_false_eq_true, and_self, ti3, ti22, ti25, ti42, regAt, fi30, body30, Try.f30, ↓exq_cd cd_code30, ↓exq_cd cd_c30_1, ↓exq_cd cd_c30_2, ↓exq_cd cd_c30_3, ↓exq_cd cd_c30_4, ↓exq_cd cd_c30_5, ↓exq_cd cd_c30_6, ↓exq_cd cd_c30_7, ↓exq_cd cd_c30_9, ↓exq_cd cd_c30_10, ↓exq_cd cd_c30_11, ↓exq_cd cd_c30_12, ↓exq_cd cd_c30_14, ↓exq_cd cd_c30_15, ↓exq_cd cd_c30_16, ↓exq_cd cd_c30_13, ↓exq_cd cd_c30_19, ↓exq_cd cd_c30_21, ↓exq_cd cd_c30_22, ↓exq_cd cd_c30_24, ↓exq_cd cd_c30_26, ↓exq_cd cd_c30_27, ↓exq_cd cd_c30_29, ↓exq_cd cd_c30_31, ↓exq_cd cd_c30_32, ↓exq_cd cd_c30_33, ↓exq_cd cd_c30_8, ↓exq_cd cd_c30_55, ↓exq_cd cd_c30_56, ↓exq_cd cd_c30_57, ↓exq_cd cd_c30_58, ↓exq_cd cd_c30_59, r30_1, r30_3, r30_5, r30_9, r30_14, r30_16, r30_21, r30_26, r30_31, r30_33, r30_55, r30_57, r30_59]
        repeat (refine And.intro (a := (_ = true)) (by first | (simp; done) | (simp; omega)) ?_)
        exact ObQ.mk [0, 1, 8, 9, 11, 12] (by decide) rfl rfl rfl ⟨rfl, rfl, rfl, rfl, rfl, rfl, trivial⟩
      | some w' =>
        refine ExQ_ok [] 4000 plsOk kBt_ok ?_
        simp only [conf0, layDR, fu6, fuL, lfO]
        (try rw [exh]); simp (maxSteps := 4000000) only [kBt, kB0, OB.kOvB, KC.kLK, kDk, kRk, ktO, ktW, objK, objB, updT, mapB, rhoN, mrk, readK, overK, KC.sLent, KC.keptS, KC.mk4, DW.osK, RW.osK, findD, findR, mSwitch, layD, layR, fuP, fuL, lfO, hnum, List.append_nil, List.nodup_cons, List.mem_cons, List.not_mem_nil, List.take_succ_cons, List.take_zero, not_false_eq_true, List.drop_zero, hd, stops, inK, stepF, frsF, frF, itemF, codeF, condF, opsF, opsW, opF, callO, stepS, wtS, gdst, gdl, sopF, pv, evq, callF, calleeS, quiet, p_move, p_assign, p_pick, p_binOp, p_fieldAddr, l_load, e_box, SY.get, SY.put, SY.ev, SY.mk, SY.nth, SY.lvl, SY.setl, SY.ini, wid, wids, dr, flat, at1, rdC, rdCt, bopInt, bop, pickAV, isArr, ctOf, leaveS, retS, killL, isDefs, resS, resAll, tup1, AV.scal, Ct.cell, exq_go, lvCt, exq_t, exq_f, ↓reduceIte, Nat.reduceLT, Nat.reduceEqDiff, Nat.reduceAdd, Nat.reduceSub, Bool.and_true, Bool.true_and, Bool.not_true, reduceCtorEq, true_and, List.map_cons, List.map_nil, Bool.and_self, List.drop_succ_cons, List.drop_zero, List.length_cons, List.length_nil, List.cons_append, List.nil_append, List.append_nil, Nat.zero_add, Nat.add_zero, Nat.zero_mul, Int.reduceEq, Int.reduceLT, Int.reduceLE, decide_true, decide_false, ktOf, conK, alive, lndL, lnd, lvB, tB_tt, okBls, shB, ren, renL, renCt, not_false_eq_true, and_self, ti3, ti22, ti25, ti42, regAt, fi30, body30, Try.f30, ↓exq_cd cd_code30, ↓exq_cd cd_c30_1, ↓exq_cd cd_c30_2, ↓exq_cd cd_c30_3, ↓exq_cd cd_c30_4, ↓exq_cd cd_c30_5, ↓exq_cd cd_c30_6, ↓exq_cd cd_c30_7, ↓exq_cd cd_c30_9, ↓exq_cd cd_c30_10, ↓exq_cd cd_c30_11, ↓exq_cd cd_c30_12, ↓exq_cd cd_c30_14, ↓exq_cd cd_c30_15, ↓exq_cd cd_c30_16, ↓exq_cd cd_c30_13, ↓exq_cd cd_c30_19, ↓exq_cd cd_c30_21, ↓exq_cd cd_c30_22, ↓exq_cd cd_c30_24, ↓exq_cd cd_c30_26, ↓exq_cd cd_c30_27, ↓exq_cd cd_c30_29, ↓exq_cd cd_c30_31, ↓exq_cd cd_c30_32, ↓exq_cd cd_c30_33, ↓exq_cd cd_c30_8, ↓exq_cd cd_c30_55, ↓exq_cd cd_c30_56, ↓exq_cd cd_c30_57, ↓exq_cd cd_c30_58, ↓exq_cd cd_c30_59, r30_1, r30_3, r30_5, r30_9, r30_14, r30_16, r30_21, r30_26, r30_31, r30_33, r30_55, r30_57, r30_59]
        repeat (refine And.intro (a := (_ = true)) (by first | (simp; done) | (simp; omega)) ?_)
        exact ObQ.mk [0, 1, 8, 9, 12, 13, 10] (by decide) rfl rfl rfl ⟨rfl, rfl, rfl, rfl, rfl, rfl, rfl, trivial⟩
    | some w =>
      have hw : ¬ w < 0 ∧ -1 ≤ w := by
        simp only [numOk, fuOk, Bool.and_eq_true, decide_eq_true_eq] at hnum
        omega
      obtain ⟨hw, hw1⟩ := hw
      have e0 : dAct ⟨l, f, x, 0, room, m, some w, out⟩ 4 n b = (dSwitch ⟨l, f, x, 0, room, m, some w, out⟩).2 := by simp [dAct]
      rw [e0]
      generalize hd : dSwitch ⟨l, f, x, 0, room, m, some w, out⟩ = r
      obtain ⟨e, l', f', x', xf', room', m', u', out'⟩ := r
      have hee : decide (e = e) = true := decide_eq_true rfl
      cases u' with
      | none =>
        refine ExQ_ok [] 4000 plsOk kBt_ok ?_
        simp only [conf0, layDR, fu6, fuL, lfO]
        (try rw [exh]); simp (maxSteps := 4000000) only [kBt, kB0, OB.kOvB, KC.kLK, kDk, kRk, ktO, ktW, objK, objB, updT, mapB, rhoN, mrk, readK, overK, KC.sLent, KC.keptS, KC.mk4, DW.osK, RW.osK, findD, findR, mSwitch, layD, layR, fuP, fuL, lfO, hnum, List.append_nil, List.nodup_cons, List.mem_cons, List.not_mem_nil, List.take_succ_cons, List.take_zero, not_false_eq_true, List.drop_zero, hd, hw, hw1, stops, inK, stepF, frsF, frF, itemF, codeF, condF, opsF, opsW, opF, callO, stepS, wtS, gdst, gdl, sopF, pv, evq, callF, calleeS, quiet, p_move, p_assign, p_pick, p_binOp, p_fieldAddr, l_load, e_box, SY.get, SY.put, SY.ev, SY.mk, SY.nth, SY.lvl, SY.setl, SY.ini, wid, wids, dr, flat, at1, rdC, rdCt, bopInt, bop, pickAV, isArr, ctOf, leaveS, retS, killL, isDefs, resS, resAll, tup1, AV.scal, Ct.cell, exq_go, lvCt, exq_t, exq_f, ↓reduceIte, Nat.reduceLT, Nat.reduceEqDiff, Nat.reduceAdd, Nat.reduceSub, Bool.and_true, Bool.true_and, Bool.not_true, reduceCtorEq, true_and, List.map_cons, List.map_nil, Bool.and_self, List.drop_succ_cons, List.drop_zero, List.length_cons, List.length_nil, List.cons_append, List.nil_append, List.append_nil, Nat.zero_add, Nat.add_zero, Nat.zero_mul, Int.reduceEq, Int.reduceLE, decide_true, decide_false, ktOf, conK, alive, lndL, lnd, lvB, tB_tt, okBls, shB, ren, renL, renCt, not_false_eq_true, and_self, ti3, ti22, ti25, ti42, regAt, fi30, body30, Try.f30, ↓exq_cd cd_code30, ↓exq_cd cd_c30_1, ↓exq_cd cd_c30_2, ↓exq_cd cd_c30_3, ↓exq_cd cd_c30_4, ↓exq_cd cd_c30_5, ↓exq_cd cd_c30_6, ↓exq_cd cd_c30_7, ↓exq_cd cd_c30_9, ↓exq_cd cd_c30_10, ↓exq_cd cd_c30_11, ↓exq_cd cd_c30_12, ↓exq_cd cd_c30_14, ↓exq_cd cd_c30_15, ↓exq_cd cd_c30_16, ↓exq_cd cd_c30_13, ↓exq_cd cd_c30_19, ↓exq_cd cd_c30_21, ↓exq_cd cd_c30_22, ↓exq_cd cd_c30_24, ↓exq_cd cd_c30_26, ↓exq_cd cd_c30_27, ↓exq_cd cd_c30_29, ↓exq_cd cd_c30_31, ↓exq_cd cd_c30_32, ↓exq_cd cd_c30_33, ↓exq_cd cd_c30_8, ↓exq_cd cd_c30_55, ↓exq_cd cd_c30_56, ↓exq_cd cd_c30_57, ↓exq_cd cd_c30_58, ↓exq_cd cd_c30_59, r30_1, r30_3, r30_5, r30_9, r30_14, r30_16, r30_21, r30_26, r30_31, r30_33, r30_55, r30_57, r30_59]
        repeat (refine And.intro (a := (_ = true)) (by first | (simp; done) | (simp; omega)) ?_)
        exact ObQ.mk [0, 1, 9, 10, 12, 13] (by decide) rfl rfl rfl ⟨rfl, rfl, rfl, rfl, rfl, rfl, trivial⟩
      | some w' =>
        refine ExQ_ok [] 4000 plsOk kBt_ok ?_
        simp only [conf0, layDR, fu6, fuL, lfO]
        (try rw [exh]); simp (maxSteps := 4000000) only [kBt, kB0, OB.kOvB, KC.kLK, kDk, kRk, ktO, ktW, objK, objB, updT, mapB, rhoN, mrk, readK, overK, KC.sLent, KC.keptS, KC.mk4, DW.osK, RW.osK, findD, findR, mSwitch, layD, layR, fuP, fuL, lfO, hnum, List.append_nil, List.nodup_cons, List.mem_cons, List.not_mem_nil, List.take_succ_cons, List.take_zero, not_false_eq_true, List.drop_zero, hd, hw, hw1, stops, inK, stepF, frsF, frF, itemF, codeF, condF, opsF, opsW, opF, callO, stepS, wtS, gdst, gdl, sopF, pv, evq, callF, calleeS, quiet, p_move, p_assign, p_pick, p_binOp, p_fieldAddr, l_load, e_box, SY.get, SY.put, SY.ev, SY.mk, SY.nth, SY.lvl, SY.setl, SY.ini, wid, wids, dr, flat, at1, rdC, rdCt, bopInt, bop, pickAV, isArr, ctOf, leaveS, retS, killL, isDefs, resS, resAll, tup1, AV.scal, Ct.cell, exq_go, lvCt, exq_t, exq_f, ↓reduceIte, Nat.reduceLT, Nat.reduceEqDiff, Nat.reduceAdd, Nat.reduceSub, Bool.and_true, Bool.true_and, Bool.not_true, reduceCtorEq, true_and, List.map_cons, List.map_nil, Bool.and_self, List.drop_succ_cons, List.drop_zero, List.length_cons, List.length_nil, List.cons_append, List.nil_append, List.append_nil, Nat.zero_add, Nat.add_zero, Nat.zero_mul, Int.reduceEq, Int.reduceLE, decide_true, decide_false, ktOf, conK, alive, lndL, lnd, lvB, tB_tt, okBls, shB, ren, renL, renCt, not_false_eq_true, and_self, ti3, ti22, ti25, ti42, regAt, fi30, body30, Try.f30, ↓exq_cd cd_code30, ↓exq_cd cd_c30_1, ↓exq_cd cd_c30_2, ↓exq_cd cd_c30_3, ↓exq_cd cd_c30_4, ↓exq_cd cd_c30_5, ↓exq_cd cd_c30_6, ↓exq_cd cd_c30_7, ↓exq_cd cd_c30_9, ↓exq_cd cd_c30_10, ↓exq_cd cd_c30_11, ↓exq_cd cd_c30_12, ↓exq_cd cd_c30_14, ↓exq_cd cd_c30_15, ↓exq_cd cd_c30_16, ↓exq_cd cd_c30_13, ↓exq_cd cd_c30_19, ↓exq_cd cd_c30_21, ↓exq_cd cd_c30_22, ↓exq_cd cd_c30_24, ↓exq_cd cd_c30_26, ↓exq_cd cd_c30_27, ↓exq_cd cd_c30_29, ↓exq_cd cd_c30_31, ↓exq_cd cd_c30_32, ↓exq_cd cd_c30_33, ↓exq_cd cd_c30_8, ↓exq_cd cd_c30_55, ↓exq_cd cd_c30_56, ↓exq_cd cd_c30_57, ↓exq_cd cd_c30_58, ↓exq_cd cd_c30_59, r30_1, r30_3, r30_5, r30_9, r30_14, r30_16, r30_21, r30_26, r30_31, r30_33, r30_55, r30_57, r30_59]
        repeat (refine And.intro (a := (_ = true)) (by first | (simp; done) | (simp; omega)) ?_)
        exact ObQ.mk [0, 1, 9, 10, 13, 14, 11] (by decide) rfl rfl rfl ⟨rfl, rfl, rfl, rfl, rfl, rfl, rfl, trivial⟩
  by_cases h5 : k = 5
  · subst h5
    clear h0 h1 h2 h3 h4
    cases u with
    | none =>
      have e0 : dAct ⟨l, f, x, 0, room, m, none, out⟩ 5 n b = (dRoom ⟨l, f, x, 0, room, m, none, out⟩ n).2 := by simp [dAct]
      rw [e0]
      generalize hd : dRoom ⟨l, f, x, 0, room, m, none, out⟩ n = r
      obtain ⟨e, l', f', x', xf', room', m', u', out'⟩ := r
      have hee : decide (e = e) = true := decide_eq_true rfl
      cases u' with
      | none =>
        refine ExQ_ok [] 4000 plsOk kBt_ok ?_
        simp only [conf0, layDR, fu6, fuL, lfO]
        (try rw [exh]); simp (maxSteps := 4000000) only [kBt, kB0, OB.kOvB, KC.kLK, kDk, kRk, ktO, ktW, objK, objB, updT, mapB, rhoN, mrk, readK, overK, KC.sLent, KC.keptS, KC.mk4, DW.osI, RW.osI, findD, findR, mRoom, layD, layR, fuP, fuL, lfO, hnum, List.append_nil, List.nodup_cons, List.mem_cons, List.not_mem_nil, List.take_succ_cons, List.take_zero, not_false_eq_true, List.drop_zero, List.length_replicate, hd, stops, inK, stepF, frsF, frF, itemF, codeF, condF, opsF, opsW, opF, callO, drF, drO, drW, drC, stepS, wtS, gdst, gdl, sopF, pv, evq, callF, calleeS, popF, lopF, cls, lvA, rdl, quiet, p_move, p_assign, p_pick, p_binOp, p_fieldAddr, l_load, e_box, SY.get, SY.put, SY.ev, SY.mk, SY.nth, SY.lvl, SY.setl, SY.ini, wid, wids, dr, flat, at1, rdC, rdCt, bopInt, bop, pickAV, isArr, ctOf, leaveS, retS, killL, isDefs, resS, resAll, tup1, AV.scal, plk, Ct.cell, exq_go, lvCt, exq_t, exq_f, ↓reduceIte, Nat.reduceLT, Nat.reduceEqDiff, Nat.reduceAdd, Nat.reduceSub, Nat.reduceBEq, Bool.and_true, Bool.true_and, Bool.not_false, Bool.not_true, List.contains_nil, List.contains_cons, Bool.or_false, reduceCtorEq, true_and, Bool.false_eq_true, List.map_cons, List.map_nil, Bool.and_self, List.drop_succ_cons, List.drop_zero, List.length_cons, List.length_nil, List.cons_append, List.nil_append, List.append_nil, Nat.zero_add, Nat.add_zero, Nat.zero_mul, Int.reduceEq, Int.reduceLT, Int.reduceLE, decide_true, decide_false, ktOf, conK, alive, alive0, mks, noMk, lndL, lnd, lvB, tB_tt, okBls, shB, ren, renL, renCt, not_false_eq_true, and_self, ti3, ti22, ti25, ti42, regAt, fi30, body30, Try.f30, ↓exq_cd cd_code30, ↓exq_cd cd_c30_1, ↓exq_cd cd_c30_2, ↓exq_cd cd_c30_3, ↓exq_cd cd_c30_4, ↓exq_cd cd_c30_5, ↓exq_cd cd_c30_6, ↓exq_cd cd_c30_7, ↓exq_cd cd_c30_9, ↓exq_cd cd_c30_10, ↓exq_cd cd_c30_11, ↓exq_cd cd_c30_12, ↓exq_cd cd_c30_14, ↓exq_cd cd_c30_15, ↓exq_cd cd_c30_16, ↓exq_cd cd_c30_13, ↓exq_cd cd_c30_19, ↓exq_cd cd_c30_21, ↓exq_cd cd_c30_22, ↓exq_cd cd_c30_24, ↓exq_cd cd_c30_26, ↓exq_cd cd_c30_27, ↓exq_cd cd_c30_29, ↓exq_cd cd_c30_31, ↓exq_cd cd_c30_32, ↓exq_cd cd_c30_34, ↓exq_cd cd_c30_36, ↓exq_cd cd_c30_37, ↓exq_cd cd_c30_38, ↓exq_cd cd_c30_8, ↓exq_cd cd_c30_55, ↓exq_cd cd_c30_56, ↓exq_cd cd_c30_57, ↓exq_cd cd_c30_58, ↓exq_cd cd_c30_59, r30_1, r30_3, r30_5, r30_9, r30_14, r30_16, r30_21, r30_26, r30_31, r30_36, r30_38, r30_55, r30_57, r30_59, plA30, pl30]
        repeat (refine And.intro (a := (_ = true)) (by first | (simp; done) | (simp; omega)) ?_)
        exact ObQ.mk [0, 1, 8, 9, 11, 12] (by decide) rfl rfl rfl ⟨rfl, rfl, rfl, rfl, rfl, rfl, trivial⟩
      | some w' =>
        refine ExQ_ok [] 4000 plsOk kBt_ok ?_
        simp only [conf0, layDR, fu6, fuL, lfO]
        (try rw [exh]); simp (maxSteps := 4000000) only [kBt, kB0, OB.kOvB, KC.kLK, kDk, kRk, ktO, ktW, objK, objB, updT, mapB, rhoN, mrk, readK, overK, KC.sLent, KC.keptS, KC.mk4, DW.osI, RW.osI, findD, findR, mRoom, layD, layR, fuP, fuL, lfO, hnum, List.append_nil, List.nodup_cons, List.mem_cons, List.not_mem_nil, List.take_succ_cons, List.take_zero, not_false_eq_true, List.drop_zero, List.length_replicate, hd, stops, inK, stepF, frsF, frF, itemF, codeF, condF, opsF, opsW, opF, callO, drF, drO, drW, drC, stepS, wtS, gdst, gdl, sopF, pv, evq, callF, calleeS, popF, lopF, cls, lvA, rdl, quiet, p_move, p_assign, p_pick, p_binOp, p_fieldAddr, l_load, e_box, SY.get, SY.put, SY.ev, SY.mk, SY.nth, SY.lvl, SY.setl, SY.ini, wid, wids, dr, flat, at1, rdC, rdCt, bopInt, bop, pickAV, isArr, ctOf, leaveS, retS, killL, isDefs, resS, resAll, tup1, AV.scal, plk, Ct.cell, exq_go, lvCt, exq_t, exq_f, ↓reduceIte, Nat.reduceLT, Nat.reduceEqDiff, Nat.reduceAdd, Nat.reduceSub, Nat.reduceBEq, Bool.and_true, Bool.true_and, Bool.not_false, Bool.not_true, List.contains_nil, List.contains_cons, Bool.or_false, reduceCtorEq, true_and, Bool.false_eq_true, List.map_cons, List.map_nil, Bool.and_self, List.drop_succ_cons, List.drop_zero, List.length_cons, List.length_nil, List.cons_append, List.nil_append, List.append_nil, Nat.zero_add, Nat.add_zero, Nat.zero_mul, Int.reduceEq, Int.reduceLT, Int.reduceLE, decide_true, decide_false, ktOf, conK, alive, alive0, mks, noMk, lndL, lnd, lvB, tB_tt, okBls, shB, ren, renL, renCt, not_false_eq_true, and_self, ti3, ti22, ti25, ti42, regAt, fi30, body30, Try.f30, ↓exq_cd cd_code30, ↓exq_cd cd_c30_1, ↓exq_cd cd_c30_2, ↓exq_cd cd_c30_3, ↓exq_cd cd_c30_4, ↓exq_cd cd_c30_5, ↓exq_cd cd_c30_6, ↓exq_cd cd_c30_7, ↓exq_cd cd_c30_9, ↓exq_cd cd_c30_10, ↓exq_cd cd_c30_11, ↓exq_cd cd_c30_12, ↓exq_cd cd_c30_14, ↓exq_cd cd_c30_15, ↓exq_cd cd_c30_16, ↓exq_cd cd_c30_13, ↓exq_cd cd_c30_19, ↓exq_cd cd_c30_21, ↓exq_cd cd_c30_22, ↓exq_cd cd_c30_24, ↓exq_cd cd_c30_26, ↓exq_cd cd_c30_27, ↓exq_cd cd_c30_29, ↓exq_cd cd_c30_31, ↓exq_cd cd_c30_32, ↓exq_cd cd_c30_34, ↓exq_cd cd_c30_36, ↓exq_cd cd_c30_37, ↓exq_cd cd_c30_38, ↓exq_cd cd_c30_8, ↓exq_cd cd_c30_55, ↓exq_cd cd_c30_56, ↓exq_cd cd_c30_57, ↓exq_cd cd_c30_58, ↓exq_cd cd_c30_59, r30_1, r30_3, r30_5, r30_9, r30_14, r30_16, r30_21, r30_26, r30_31, r30_36, r30_38, r30_55, r30_57, r30_59, plA30, pl30]
        repeat (refine And.intro (a := (_ = true)) (by first | (simp; done) | (simp; omega)) ?_)
        exact ObQ.mk [0, 1, 8, 9, 12, 13, 10] (by decide) rfl rfl rfl ⟨rfl, rfl, rfl, rfl, rfl, rfl, rfl, trivial⟩
    | some w =>
      have hw : ¬ w < 0 ∧ -1 ≤ w := by
        simp only [numOk, fuOk, Bool.and_eq_true, decide_eq_true_eq] at hnum
        omega
      obtain ⟨hw, hw1⟩ := hw
      have e0 : dAct ⟨l, f, x, 0, room, m, some w, out⟩ 5 n b = (dRoom ⟨l, f, x, 0, room, m, some w, out⟩ n).2 := by simp [dAct]
      rw [e0]
      generalize hd : dRoom ⟨l, f, x, 0, room, m, some w, out⟩ n = r
      obtain ⟨e, l', f', x', xf', room', m', u', out'⟩ := r
      have hee : decide (e = e) = true := decide_eq_true rfl
      cases u' with
      | none =>
        refine ExQ_ok [] 4000 plsOk kBt_ok ?_
        simp only [conf0, layDR, fu6, fuL, lfO]
        (try rw [exh]); simp (maxSteps := 4000000) only [kBt, kB0, OB.kOvB, KC.kLK, kDk, kRk, ktO, ktW, objK, objB, updT, mapB, rhoN, mrk, readK, overK, KC.sLent, KC.keptS, KC.mk4, DW.osI, RW.osI, findD, findR, mRoom, layD, layR, fuP, fuL, lfO, hnum, List.append_nil, List.nodup_cons, List.mem_cons, List.not_mem_nil, List.take_succ_cons, List.take_zero, not_false_eq_true, List.drop_zero, List.length_replicate, hd, hw, hw1, stops, inK, stepF, frsF, frF, itemF, codeF, condF, opsF, opsW, opF, callO, drF, drO, drW, drC, stepS, wtS, gdst, gdl, sopF, pv, evq, callF, calleeS, popF, lopF, cls, lvA, rdl, quiet, p_move, p_assign, p_pick, p_binOp, p_fieldAddr, l_load, e_box, SY.get, SY.put, SY.ev, SY.mk, SY.nth, SY.lvl, SY.setl, SY.ini, wid, wids, dr, flat, at1, rdC, rdCt, bopInt, bop, pickAV, isArr, ctOf, leaveS, retS, killL, isDefs, resS, resAll, tup1, AV.scal, plk, Ct.cell, exq_go, lvCt, exq_t, exq_f, ↓reduceIte, Nat.reduceLT, Nat.reduceEqDiff, Nat.reduceAdd, Nat.reduceSub, Nat.reduceBEq, Bool.and_true, Bool.true_and, Bool.not_false, Bool.not_true, List.contains_nil, List.contains_cons, Bool.or_false, reduceCtorEq, true_and, Bool.false_eq_true, List.map_cons, List.map_nil, Bool.and_self, List.drop_succ_cons, List.drop_zero, List.length_cons, List.length_nil, List.cons_append, List.nil_append, List.append_nil, Nat.zero_add, Nat.add_zero, Nat.zero_mul, Int.reduceEq, Int.reduceLE, decide_true, decide_false, ktOf, conK, alive, alive0, mks, noMk, lndL, lnd, lvB, tB_tt, okBls, shB, ren, renL, renCt, not_false_eq_true, and_self, ti3, ti22, ti25, ti42, regAt, fi30, body30, Try.f30, ↓exq_cd cd_code30, ↓exq_cd cd_c30_1, ↓exq_cd cd_c30_2, ↓exq_cd cd_c30_3, ↓exq_cd cd_c30_4, ↓exq_cd cd_c30_5, ↓exq_cd cd_c30_6, ↓exq_cd cd_c30_7, ↓exq_cd cd_c30_9, ↓exq_cd cd_c30_10, ↓exq_cd cd_c30_11, ↓exq_cd cd_c30_12, ↓exq_cd cd_c30_14, ↓exq_cd cd_c30_15, ↓exq_cd cd_c30_16, ↓exq_cd cd_c30_13, ↓exq_cd cd_c30_19, ↓exq_cd cd_c30_21, ↓exq_cd cd_c30_22, ↓exq_cd cd_c30_24, ↓exq_cd cd_c30_26, ↓exq_cd cd_c30_27, ↓exq_cd cd_c30_29, ↓exq_cd cd_c30_31, ↓exq_cd cd_c30_32, ↓exq_cd cd_c30_34, ↓exq_cd cd_c30_36, ↓exq_cd cd_c30_37, ↓exq_cd cd_c30_38, ↓exq_cd cd_c30_8, ↓exq_cd cd_c30_55, ↓exq_cd cd_c30_56, ↓exq_cd cd_c30_57, ↓exq_cd cd_c30_58, ↓exq_cd cd_c30_59, r30_1, r30_3, r30_5, r30_9, r30_14, r30_16, r30_21, r30_26, r30_31, r30_36, r30_38, r30_55, r30_57, r30_59, plA30, pl30]
        repeat (refine And.intro (a := (_ = true)) (by first | (simp; done) | (simp; omega)) ?_)
        exact ObQ.mk [0, 1, 9, 10, 12, 13] (by decide) rfl rfl rfl ⟨rfl, rfl, rfl, rfl, rfl, rfl, trivial⟩
      | some w' =>
        refine ExQ_ok [] 4000 plsOk kBt_ok ?_
        simp only [conf0, layDR, fu6, fuL, lfO]
        (try rw [exh]); simp (maxSteps := 4000000) only [kBt, kB0, OB.kOvB, KC.kLK, kDk, kRk, ktO, ktW, objK, objB, updT, mapB, rhoN, mrk, readK, overK, KC.sLent, KC.keptS, KC.mk4, DW.osI, RW.osI, findD, findR, mRoom, layD, layR, fuP, fuL, lfO, hnum, List.append_nil, List.nodup_cons, List.mem_cons, List.not_mem_nil, List.take_succ_cons, List.take_zero, not_false_eq_true, List.drop_zero, List.length_replicate, hd, hw, hw1, stops, inK, stepF, frsF, frF, itemF, codeF, condF, opsF, opsW, opF, callO, drF, drO, drW, drC, stepS, wtS, gdst, gdl, sopF, pv, evq, callF, calleeS, popF, lopF, cls, lvA, rdl, quiet, p_move, p_assign, p_pick, p_binOp, p_fieldAddr, l_load, e_box, SY.get, SY.put, SY.ev, SY.mk, SY.nth, SY.lvl, SY.setl, SY.ini, wid, wids, dr, flat, at1, rdC, rdCt, bopInt, bop, pickAV, isArr, ctOf, leaveS, retS, killL, isDefs, resS, resAll, tup1, AV.scal, plk, Ct.cell, exq_go, lvCt, exq_t, exq_f, ↓reduceIte, Nat.reduceLT, Nat.reduceEqDiff, Nat.reduceAdd, Nat.reduceSub, Nat.reduceBEq, Bool.and_true, Bool.true_and, Bool.not_false, Bool.not_true, List.contains_nil, List.contains_cons, Bool.or_false, reduceCtorEq, true_and, Bool.false_eq_true, List.map_cons, List.map_nil, Bool.and_self, List.drop_succ_cons, List.drop_zero, List.length_cons, List.length_nil, List.cons_append, List.nil_append, List.append_nil, Nat.zero_add, Nat.add_zero, Nat.zero_mul, Int.reduceEq, Int.reduceLE, decide_true, decide_false, ktOf, conK, alive, alive0, mks, noMk, lndL, lnd, lvB, tB_tt, okBls, shB, ren, renL, renCt, not_false_eq_true, and_self, ti3, ti22, ti25, ti42, regAt, fi30, body30, Try.f30, ↓exq_cd cd_code30, ↓exq_cd cd_c30_1, ↓exq_cd cd_c30_2, ↓exq_cd cd_c30_3, ↓exq_cd cd_c30_4, ↓exq_cd cd_c30_5, ↓exq_cd cd_c30_6, ↓exq_cd cd_c30_7, ↓exq_cd cd_c30_9, ↓exq_cd cd_c30_10, ↓exq_cd cd_c30_11, ↓exq_cd cd_c30_12, ↓exq_cd cd_c30_14, ↓exq_cd cd_c30_15, ↓exq_cd cd_c30_16, ↓exq_cd cd_c30_13, ↓exq_cd cd_c30_19, ↓exq_cd cd_c30_21, ↓exq_cd cd_c30_22, ↓exq_cd cd_c30_24, ↓exq_cd cd_c30_26, ↓exq_cd cd_c30_27, ↓exq_cd cd_c30_29, ↓exq_cd cd_c30_31, ↓exq_cd cd_c30_32, ↓exq_cd cd_c30_34, ↓exq_cd cd_c30_36, ↓exq_cd cd_c30_37, ↓exq_cd cd_c30_38, ↓exq_cd cd_c30_8, ↓exq_cd cd_c30_55, ↓exq_cd cd_c30_56, ↓exq_cd cd_c30_57, ↓exq_cd cd_c30_58, ↓exq_cd cd_c30_59, r30_1, r30_3, r30_5, r30_9, r30_14, r30_16, r30_21, r30_26, r30_31, r30_36, r30_38, r30_55, r30_57, r30_59, plA30, pl30]
        repeat (refine And.intro (a := (_ = true)) (by first | (simp; done) | (simp; omega)) ?_)
        exact ObQ.mk [0, 1, 9, 10, 13, 14, 11] (by decide) rfl rfl rfl ⟨rfl, rfl, rfl, rfl, rfl, rfl, rfl, trivial⟩
  by_cases h6 : k = 6
  · subst h6
    clear h0 h1 h2 h3 h4 h5
    cases u with
    | none =>
      have e0 : dAct ⟨l, f, x, 0, room, m, none, out⟩ 6 n b = (dFuse ⟨l, f, x, 0, room, m, none, out⟩ n).2 := by simp [dAct]
      rw [e0]
      generalize hd : dFuse ⟨l, f, x, 0, room, m, none, out⟩ n = r
      obtain ⟨e, l', f', x', xf', room', m', u', out'⟩ := r
      have hee : decide (e = e) = true := decide_eq_true rfl
      cases u' with
      | none =>
        refine ExQ_ok [] 4000 plsOk kBt_ok ?_
        simp only [conf0, layDR, fu6, fuL, lfO]
        (try rw [exh]); simp (maxSteps := 4000000) only [kBt, kB0, OB.kOvB, KC.kLK, kDk, kRk, ktO, ktW, objK, objB, updT, mapB, rhoN, mrk, readK, overK, KC.sLent, KC.keptS, KC.mk4, DW.osI, RW.osI, findD, findR, mFuse, layD, layR, fuP, fuL, lfO, hnum, List.append_nil, List.nodup_cons, List.mem_cons, List.not_mem_nil, List.take_succ_cons, List.take_zero, not_false_eq_true, List.drop_zero, List.length_replicate, hd, stops, inK, stepF, frsF, frF, itemF, codeF, condF, opsF, opsW, opF, callO, drF, drO, drW, drC, stepS, wtS, gdst, gdl, sopF, pv, evq, callF, calleeS, popF, lopF, cls, lvA, rdl, quiet, p_move, p_assign, p_pick, p_binOp, p_fieldAddr, l_load, e_box, SY.get, SY.put, SY.ev, SY.mk, SY.nth, SY.lvl, SY.setl, SY.ini, wid, wids, dr, flat, at1, rdC, rdCt, bopInt, bop, pickAV, isArr, ctOf, leaveS, retS, killL, isDefs, resS, resAll, tup1, AV.scal, plk, Ct.cell, exq_go, lvCt, exq_t, exq_f, ↓reduceIte, Nat.reduceLT, Nat.reduceEqDiff, Nat.reduceAdd, Nat.reduceSub, Nat.reduceBEq, Bool.and_true, Bool.true_and, Bool.not_false, Bool.not_true, List.contains_nil, List.contains_cons, Bool.or_false, reduceCtorEq, true_and, Bool.false_eq_true, List.map_cons, List.map_nil, Bool.and_self, List.drop_succ_cons, List.drop_zero, List.length_cons, List.length_nil, List.cons_append, List.nil_append, List.append_nil, Nat.zero_add, Nat.add_zero, Nat.zero_mul, Int.reduceEq, Int.reduceLT, Int.reduceLE, decide_true, decide_false, ktOf, conK, alive, alive0, mks, noMk, lndL, lnd, lvB, tB_tt, okBls, shB, ren, renL, renCt, not_false_eq_true, and_self, ti3, ti22, ti25, ti42, regAt, fi30, body30, Try.f30, ↓exq_cd cd_code30, ↓exq_cd cd_c30_1, ↓exq_cd cd_c30_2, ↓exq_cd cd_c30_3, ↓exq_cd cd_c30_4, ↓exq_cd cd_c30_5, ↓exq_cd cd_c30_6, ↓exq_cd cd_c30_7, ↓exq_cd cd_c30_9, ↓exq_cd cd_c30_10, ↓exq_cd cd_c30_11, ↓exq_cd cd_c30_12, ↓exq_cd cd_c30_14, ↓exq_cd cd_c30_15, ↓exq_cd cd_c30_16, ↓exq_cd cd_c30_13, ↓exq_cd cd_c30_19, ↓exq_cd cd_c30_21, ↓exq_cd cd_c30_22, ↓exq_cd cd_c30_24, ↓exq_cd cd_c30_26, ↓exq_cd cd_c30_27, ↓exq_cd cd_c30_29, ↓exq_cd cd_c30_31, ↓exq_cd cd_c30_32, ↓exq_cd cd_c30_34, ↓exq_cd cd_c30_36, ↓exq_cd cd_c30_37, ↓exq_cd cd_c30_39, ↓exq_cd cd_c30_41, ↓exq_cd cd_c30_42, ↓exq_cd cd_c30_43, ↓exq_cd cd_c30_8, ↓exq_cd cd_c30_55, ↓exq_cd cd_c30_56, ↓exq_cd cd_c30_57, ↓exq_cd cd_c30_58, ↓exq_cd cd_c30_59, r30_1, r30_3, r30_5, r30_9, r30_14, r30_16, r30_21, r30_26, r30_31, r30_36, r30_41, r30_43, r30_55, r30_57, r30_59, plA30, pl30]
        repeat (refine And.intro (a := (_ = true)) (by first | (simp; done) | (simp; omega)) ?_)
        exact ObQ.mk [0, 1, 8, 9, 11, 12] (by decide) rfl rfl rfl ⟨rfl, rfl, rfl, rfl, rfl, rfl, trivial⟩
      | some w' =>
        refine ExQ_ok [] 4000 plsOk kBt_ok ?_
        simp only [conf0, layDR, fu6, fuL, lfO]
        (try rw [exh]); simp (maxSteps := 4000000) only [kBt, kB0, OB.kOvB, KC.kLK, kDk, kRk, ktO, ktW, objK, objB, updT, mapB, rhoN, mrk, readK, overK, KC.sLent, KC.keptS, KC.mk4, DW.osI, RW.osI, findD, findR, mFuse, layD, layR, fuP, fuL, lfO, hnum, List.append_nil, List.nodup_cons, List.mem_cons, List.not_mem_nil, List.take_succ_cons, List.take_zero, not_false_eq_true, List.drop_zero, List.length_replicate, hd, stops, inK, stepF, frsF, frF, itemF, codeF, condF, opsF, opsW, opF, callO, drF, drO, drW, drC, stepS, wtS, gdst, gdl, sopF, pv, evq, callF, calleeS, popF, lopF, cls, lvA, rdl, quiet, p_move, p_assign, p_pick, p_binOp, p_fieldAddr, l_load, e_box, SY.get, SY.put, SY.ev, SY.mk, SY.nth, SY.lvl, SY.setl, SY.ini, wid, wids, dr, flat, at1, rdC, rdCt, bopInt, bop, pickAV, isArr, ctOf, leaveS, retS, killL, isDefs, resS, resAll, tup1, AV.scal, plk, Ct.cell, exq_go, lvCt, exq_t, exq_f, ↓reduceIte, Nat.reduceLT, Nat.reduceEqDiff, Nat.reduceAdd, Nat.reduceSub, Nat.reduceBEq, Bool.and_true, Bool.true_and, Bool.not_false, Bool.not_true, List.contains_nil, List.contains_cons, Bool.or_false, reduceCtorEq, true_and, Bool.false_eq_true, List.map_cons, List.map_nil, Bool.and_self, List.drop_succ_cons, List.drop_zero, List.length_cons, List.length_nil, List.cons_append, List.nil_append, List.append_nil, Nat.zero_add, Nat.add_zero, Nat.zero_mul, Int.reduceEq, Int.reduceLT, Int.reduceLE, decide_true, decide_false, ktOf, conK, alive, alive0, mks, noMk, lndL, lnd, lvB, tB_tt, okBls, shB, ren, renL, renCt, not_false_eq_true, and_self, ti3, ti22, ti25, ti42, regAt, fi30, body30, Try.f30, ↓exq_cd cd_code30, ↓exq_cd cd_c30_1, ↓exq_cd cd_c30_2, ↓exq_cd cd_c30_3, ↓exq_cd cd_c30_4, ↓exq_cd cd_c30_5, ↓exq_cd cd_c30_6, ↓exq_cd cd_c30_7, ↓exq_cd cd_c30_9, ↓exq_cd cd_c30_10, ↓exq_cd cd_c30_11, ↓exq_cd cd_c30_12, ↓exq_cd cd_c30_14, ↓exq_cd cd_c30_15, ↓exq_cd cd_c30_16, ↓exq_cd cd_c30_13, ↓exq_cd cd_c30_19, ↓exq_cd cd_c30_21, ↓exq_cd cd_c30_22, ↓exq_cd cd_c30_24, ↓exq_cd cd_c30_26, ↓exq_cd cd_c30_27, ↓exq_cd cd_c30_29, ↓exq_cd cd_c30_31, ↓exq_cd cd_c30_32, ↓exq_cd cd_c30_34, ↓exq_cd cd_c30_36, ↓exq_cd cd_c30_37, ↓exq_cd cd_c30_39, ↓exq_cd cd_c30_41, ↓exq_cd cd_c30_42, ↓exq_cd cd_c30_43, ↓exq_cd cd_c30_8, ↓exq_cd cd_c30_55, ↓exq_cd cd_c30_56, ↓exq_cd cd_c30_57, ↓exq_cd cd_c30_58, ↓exq_cd cd_c30_59, r30_1, r30_3, r30_5, r30_9, r30_14, r30_16, r30_21, r30_26, r30_31, r30_36, r30_41, r30_43, r30_55, r30_57, r30_59, plA30, pl30]
        repeat (refine And.intro (a := (_ = true)) (by first | (simp; done) | (simp; omega)) ?_)
        exact ObQ.mk [0, 1, 8, 9, 12, 13, 10] (by decide) rfl rfl rfl ⟨rfl, rfl, rfl, rfl, rfl, rfl, rfl, trivial⟩
    | some w =>
      have hw : ¬ w < 0 ∧ -1 ≤ w := by
        simp only [numOk, fuOk, Bool.and_eq_true, decide_eq_true_eq] at hnum
        omega
      obtain ⟨hw, hw1⟩ := hw
      have e0 : dAct ⟨l, f, x, 0, room, m, some w, out⟩ 6 n b = (dFuse ⟨l, f, x, 0, room, m, some w, out⟩ n).2 := by simp [dAct]
      rw [e0]
      generalize hd : dFuse ⟨l, f, x, 0, room, m, some w, out⟩ n = r
      obtain ⟨e, l', f', x', xf', room', m', u', out'⟩ := r
      have hee : decide (e = e) = true := decide_eq_true rfl
      cases u' with
      | none =>
        refine ExQ_ok [] 4000 plsOk kBt_ok ?_
        simp only [conf0, layDR, fu6, fuL, lfO]
        (try rw [exh]); simp (maxSteps := 4000000) only [kBt, kB0, OB.kOvB, KC.kLK, kDk, kRk, ktO, ktW, objK, objB, updT, mapB, rhoN, mrk, readK, overK, KC.sLent, KC.keptS, KC.mk4, DW.osI, RW.osI, findD, findR, mFuse, layD, layR, fuP, fuL, lfO, hnum, List.append_nil, List.nodup_cons, List.mem_cons, List.not_mem_nil, List.take_succ_cons, List.take_zero, not_false_eq_true, List.drop_zero, List.length_replicate, hd, hw, hw1, stops, inK, stepF, frsF, frF, itemF, codeF, condF, opsF, opsW, opF, callO, drF, drO, drW, drC, stepS, wtS, gdst, gdl, sopF, pv, evq, callF, calleeS, popF, lopF, cls, lvA, rdl, quiet, p_move, p_assign, p_pick, p_binOp, p_fieldAddr, l_load, e_box, SY.get, SY.put, SY.ev, SY.mk, SY.nth, SY.lvl, SY.setl, SY.ini, wid, wids, dr, flat, at1, rdC, rdCt, bopInt, bop, pickAV, isArr, ctOf, leaveS, retS, killL, isDefs, resS, resAll, tup1, AV.scal, plk, Ct.cell, exq_go, lvCt, exq_t, exq_f, ↓reduceIte, Nat.reduceLT, Nat.reduceEqDiff, Nat.reduceAdd, Nat.reduceSub, Nat.reduceBEq, Bool.and_true, Bool.true_and, Bool.not_false, Bool.not_true, List.contains_nil, List.contains_cons, Bool.or_false, reduceCtorEq, true_and, Bool.false_eq_true, List.map_cons, List.map_nil, Bool.and_self, List.drop_succ_cons, List.drop_zero, List.length_cons, List.length_nil, List.cons_append, List.nil_append, List.append_nil, Nat.zero_add, Nat.add_zero, Nat.zero_mul, Int.reduceEq, Int.reduceLE, decide_true, decide_false, ktOf, conK, alive, alive0, mks, noMk, lndL, lnd, lvB, tB_tt, okBls, shB, ren, renL, renCt, not_false_eq_true, and_self, ti3, ti22, ti25, ti42, regAt, fi30, body30, Try.f30, ↓exq_cd cd_code30, ↓exq_cd cd_c30_1, ↓exq_cd cd_c30_2, ↓exq_cd cd_c30_3, ↓exq_cd cd_c30_4, ↓exq_cd cd_c30_5, ↓exq_cd cd_c30_6, ↓exq_cd cd_c30_7, ↓exq_cd cd_c30_9, ↓exq_cd cd_c30_10, ↓exq_cd cd_c30_11, ↓exq_cd cd_c30_12, ↓exq_cd cd_c30_14, ↓exq_cd cd_c30_15, ↓exq_cd cd_c30_16, ↓exq_cd cd_c30_13, ↓exq_cd cd_c30_19, ↓exq_cd cd_c30_21, ↓exq_cd cd_c30_22, ↓exq_cd cd_c30_24, ↓exq_cd cd_c30_26, ↓exq_cd cd_c30_27, ↓exq_cd cd_c30_29, ↓exq_cd cd_c30_31, ↓exq_cd cd_c30_32, ↓exq_cd cd_c30_34, ↓exq_cd cd_c30_36, ↓exq_cd cd_c30_37, ↓exq_cd cd_c30_39, ↓exq_cd cd_c30_41, ↓exq_cd cd_c30_42, ↓exq_cd cd_c30_43, ↓exq_cd cd_c30_8, ↓exq_cd cd_c30_55, ↓exq_cd cd_c30_56, ↓exq_cd cd_c30_57, ↓exq_cd cd_c30_58, ↓exq_cd cd_c30_59, r30_1, r30_3, r30_5, r30_9, r30_14, r30_16, r30_21, r30_26, r30_31, r30_36, r30_41, r30_43, r30_55, r30_57, r30_59, plA30, pl30]
        repeat (refine And.intro (a := (_ = true)) (by first | (simp; done) | (simp; omega)) ?_)
        exact ObQ.mk [0, 1, 9, 10, 12, 13] (by decide) rfl rfl rfl ⟨rfl, rfl, rfl, rfl, rfl, rfl, trivial⟩
      | some w' =>
        refine ExQ_ok [] 4000 plsOk kBt_ok ?_
        simp only [conf0, layDR, fu6, fuL, lfO]
        (try rw [exh]); simp (maxSteps := 4000000) only [kBt, kB0, OB.kOvB, KC.kLK, kDk, kRk, ktO, ktW, objK, objB, updT, mapB, rhoN, mrk, readK, overK, KC.sLent, KC.keptS, KC.mk4, DW.osI, RW.osI, findD, findR, mFuse, layD, layR, fuP, fuL, lfO, hnum, List.append_nil, List.nodup_cons, List.mem_cons, List.not_mem_nil, List.take_succ_cons, List.take_zero, not_false_eq_true, List.drop_zero, List.length_replicate, hd, hw, hw1, stops, inK, stepF, frsF, frF, itemF, codeF, condF, opsF, opsW, opF, callO, drF, drO, drW, drC, stepS, wtS, gdst, gdl, sopF, pv, evq, callF, calleeS, popF, lopF, cls, lvA, rdl, quiet, p_move, p_assign, p_pick, p_binOp, p_fieldAddr, l_load, e_box, SY.get, SY.put, SY.ev, SY.mk, SY.nth, SY.lvl, SY.setl, SY.ini, wid, wids, dr, flat, at1, rdC, rdCt, bopInt, bop, pickAV, isArr, ctOf, leaveS, retS, killL, isDefs, resS, resAll, tup1, AV.scal, plk, Ct.cell, exq_go, lvCt, exq_t, exq_f, ↓reduceIte, Nat.reduceLT, Nat.reduceEqDiff, Nat.reduceAdd, Nat.reduceSub, Nat.reduceBEq, Bool.and_true, Bool.true_and, Bool.not_false, Bool.not_true, List.contains_nil, List.contains_cons, Bool.or_false, reduceCtorEq, true_and, Bool.false_eq_true, List.map_cons, List.map_nil, Bool.and_self, List.drop_succ_cons, List.drop_zero, List.length_cons, List.length_nil, List.cons_append, List.nil_append, List.append_nil, Nat.zero_add, Nat.add_zero, Nat.zero_mul, Int.reduceEq, Int.reduceLE, decide_true, decide_false, ktOf, conK, alive, alive0, mks, noMk, lndL, lnd, lvB, tB_tt, okBls, shB, ren, renL, renCt, not_false_eq_true, and_self, ti3, ti22, ti25, ti42, regAt, fi30, body30, Try.f30, ↓exq_cd cd_code30, ↓exq_cd cd_c30_1, ↓exq_cd cd_c30_2, ↓exq_cd cd_c30_3, ↓exq_cd cd_c30_4, ↓exq_cd cd_c30_5, ↓exq_cd cd_c30_6, ↓exq_cd cd_c30_7, ↓exq_cd cd_c30_9, ↓exq_cd cd_c30_10, ↓exq_cd cd_c30_11, ↓exq_cd cd_c30_12, ↓exq_cd cd_c30_14, ↓exq_cd cd_c30_15, ↓exq_cd cd_c30_16, ↓exq_cd cd_c30_13, ↓exq_cd cd_c30_19, ↓exq_cd cd_c30_21, ↓exq_cd cd_c30_22, ↓exq_cd cd_c30_24, ↓exq_cd cd_c30_26, ↓exq_cd cd_c30_27, ↓exq_cd cd_c30_29, ↓exq_cd cd_c30_31, ↓exq_cd cd_c30_32, ↓exq_cd cd_c30_34, ↓exq_cd cd_c30_36, ↓exq_cd cd_c30_37, ↓exq_cd cd_c30_39, ↓exq_cd cd_c30_41, ↓exq_cd cd_c30_42, ↓exq_cd cd_c30_43, ↓exq_cd cd_c30_8, ↓exq_cd cd_c30_55, ↓exq_cd cd_c30_56, ↓exq_cd cd_c30_57, ↓exq_cd cd_c30_58, ↓exq_cd cd_c30_59, r30_1, r30_3, r30_5, r30_9, r30_14, r30_16, r30_21, r30_26, r30_31, r30_36, r30_41, r30_43, r30_55, r30_57, r30_59, plA30, pl30]
        repeat (refine And.intro (a := (_ = true)) (by first | (simp; done) | (simp; omega)) ?_)
        exact ObQ.mk [0, 1, 9, 10, 13, 14, 11] (by decide) rfl rfl rfl ⟨rfl, rfl, rfl, rfl, rfl, rfl, rfl, trivial⟩
  by_cases h7 : k = 7
  · subst h7
    clear h0 h1 h2 h3 h4 h5 h6
    cases u with
    | none =>
      have e0 : dAct ⟨l, f, x, 0, room, m, none, out⟩ 7 n b = (dCrash ⟨l, f, x, 0, room, m, none, out⟩ n).2 := by simp [dAct]
      rw [e0]
      generalize hd : dCrash ⟨l, f, x, 0, room, m, none, out⟩ n = r
      obtain ⟨e, l', f', x', xf', room', m', u', out'⟩ := r
      have hee : decide (e = e) = true := decide_eq_true rfl
      cases u' with
      | none =>
        refine ExQ_ok [] 4000 plsOk kBt_ok ?_
        simp only [conf0, layDR, fu6, fuL, lfO]
        (try rw [exh]); simp (maxSteps := 4000000) only [kBt, kB0, OB.kOvB, KC.kLK, kDk, kRk, ktO, ktW, objK, objB, updT, mapB, rhoN, mrk, readK, overK, KC.sLent, KC.keptS, KC.mk4, DW.osI, RW.osI, findD, findR, mCrash, layD, layR, fuP, fuL, lfO, hnum, List.append_nil, List.nodup_cons, List.mem_cons, List.not_mem_nil, List.take_succ_cons, List.take_zero, not_false_eq_true, List.drop_zero, List.length_replicate, hd, stops, inK, stepF, frsF, frF, itemF, codeF, condF, opsF, opsW, opF, callO, drF, drO, drW, drC, stepS, wtS, gdst, gdl, sopF, pv, evq, callF, calleeS, popF, lopF, cls, lvA, rdl, quiet, p_move, p_assign, p_pick, p_binOp, p_fieldAddr, l_load, e_box, SY.get, SY.put, SY.ev, SY.mk, SY.nth, SY.lvl, SY.setl, SY.ini, wid, wids, dr, flat, at1, rdC, rdCt, bopInt, bop, pickAV, isArr, ctOf, leaveS, retS, killL, isDefs, resS, resAll, tup1, AV.scal, plk, Ct.cell, exq_go, lvCt, exq_t, exq_f, ↓reduceIte, Nat.reduceLT, Nat.reduceEqDiff, Nat.reduceAdd, Nat.reduceSub, Nat.reduceBEq, Bool.and_true, Bool.true_and, Bool.not_false, Bool.not_true, List.contains_nil, List.contains_cons, Bool.or_false, reduceCtorEq, true_and, Bool.false_eq_true, List.map_cons, List.map_nil, Bool.and_self, List.drop_succ_cons, List.drop_zero, List.length_cons, List.length_nil, List.cons_append, List.nil_append, List.append_nil, Nat.zero_add, Nat.add_zero, Nat.zero_mul, Int.reduceEq, Int.reduceLT, Int.reduceLE, decide_true, decide_false, ktOf, conK, alive, alive0, mks, noMk, lndL, lnd, lvB, tB_tt, okBls, shB, ren, renL, renCt, not_false_eq_true, and_self, ti3, ti22, ti25, ti42, regAt, fi30, body30, Try.f30, ↓exq_cd cd_code30, ↓exq_cd cd_c30_1, ↓exq_cd cd_c30_2, ↓exq_cd cd_c30_3, ↓exq_cd cd_c30_4, ↓exq_cd cd_c30_5, ↓exq_cd cd_c30_6, ↓exq_cd cd_c30_7, ↓exq_cd cd_c30_9, ↓exq_cd cd_c30_10, ↓exq_cd cd_c30_11, ↓exq_cd cd_c30_12, ↓exq_cd cd_c30_14, ↓exq_cd cd_c30_15, ↓exq_cd cd_c30_16, ↓exq_cd cd_c30_13, ↓exq_cd cd_c30_19, ↓exq_cd cd_c30_21, ↓exq_cd cd_c30_22, ↓exq_cd cd_c30_24, ↓exq_cd cd_c30_26, ↓exq_cd cd_c30_27, ↓exq_cd cd_c30_29, ↓exq_cd cd_c30_31, ↓exq_cd cd_c30_32, ↓exq_cd cd_c30_34, ↓exq_cd cd_c30_36, ↓exq_cd cd_c30_37, ↓exq_cd cd_c30_39, ↓exq_cd cd_c30_41, ↓exq_cd cd_c30_42, ↓exq_cd cd_c30_44, ↓exq_cd cd_c30_46, ↓exq_cd cd_c30_47, ↓exq_cd cd_c30_48, ↓exq_cd cd_c30_8, ↓exq_cd cd_c30_55, ↓exq_cd cd_c30_56, ↓exq_cd cd_c30_57, ↓exq_cd cd_c30_58, ↓exq_cd cd_c30_59, r30_1, r30_3, r30_5, r30_9, r30_14, r30_16, r30_21, r30_26, r30_31, r30_36, r30_41, r30_46, r30_48, r30_55, r30_57, r30_59, plA30, pl30]
        repeat (refine And.intro (a := (_ = true)) (by first | (simp; done) | (simp; omega)) ?_)
        exact ObQ.mk [0, 1, 8, 9, 11, 12] (by decide) rfl rfl rfl ⟨rfl, rfl, rfl, rfl, rfl, rfl, trivial⟩
      | some w' =>
        refine ExQ_ok [] 4000 plsOk kBt_ok ?_
        simp only [conf0, layDR, fu6, fuL, lfO]
        (try rw [exh]); simp (maxSteps := 4000000) only [kBt, kB0, OB.kOvB, KC.kLK, kDk, kRk, ktO, ktW, objK, objB, updT, mapB, rhoN, mrk, readK, overK, KC.sLent, KC.keptS, KC.mk4, DW.osI, RW.osI, findD, findR, mCrash, layD, layR, fuP, fuL, lfO, hnum, List.append_nil, List.nodup_cons, List.mem_cons, List.not_mem_nil, List.take_succ_cons, List.take_zero, not_false_eq_true, List.drop_zero, List.length_replicate, hd, stops, inK, stepF, frsF, frF, itemF, codeF, condF, opsF, opsW, opF, callO, drF, drO, drW, drC, stepS, wtS, gdst, gdl, sopF, pv, evq, callF, calleeS, popF, lopF, cls, lvA, rdl, quiet, p_move, p_assign, p_pick, p_binOp, p_fieldAddr, l_load, e_box, SY.get, SY.put, SY.ev, SY.mk, SY.nth, SY.lvl, SY.setl, SY.ini, wid, wids, dr, flat, at1, rdC, rdCt, bopInt, bop, pickAV, isArr, ctOf, leaveS, retS, killL, isDefs, resS, resAll, tup1, AV.scal, plk, Ct.cell, exq_go, lvCt, exq_t, exq_f, ↓reduceIte, Nat.reduceLT, Nat.reduceEqDiff, Nat.reduceAdd, Nat.reduceSub, Nat.reduceBEq, Bool.and_true, Bool.true_and, Bool.not_false, Bool.not_true, List.contains_nil, List.contains_cons, Bool.or_false, reduceCtorEq, true_and, Bool.false_eq_true, List.map_cons, List.map_nil, Bool.and_self, List.drop_succ_cons, List.drop_zero, List.length_cons, List.length_nil, List.cons_append, List.nil_append, List.append_nil, Nat.zero_add, Nat.add_zero, Nat.zero_mul, Int.reduceEq, Int.reduceLT, Int.reduceLE, decide_true, decide_false, ktOf, conK, alive, alive0, mks, noMk, lndL, lnd, lvB, tB_tt, okBls, shB, ren, renL, renCt, not_false_eq_true, and_self, ti3, ti22, ti25, ti42, regAt, fi30, body30, Try.f30, ↓exq_cd cd_code30, ↓exq_cd cd_c30_1, ↓exq_cd cd_c30_2, ↓exq_cd cd_c30_3, ↓exq_cd cd_c30_4, ↓exq_cd cd_c30_5, ↓exq_cd cd_c30_6, ↓exq_cd cd_c30_7, ↓exq_cd cd_c30_9, ↓exq_cd cd_c30_10, ↓exq_cd cd_c30_11, ↓exq_cd cd_c30_12, ↓exq_cd cd_c30_14, ↓exq_cd cd_c30_15, ↓exq_cd cd_c30_16, ↓exq_cd cd_c30_13, ↓exq_cd cd_c30_19, ↓exq_cd cd_c30_21, ↓exq_cd cd_c30_22, ↓exq_cd cd_c30_24, ↓exq_cd cd_c30_26, ↓exq_cd cd_c30_27, ↓exq_cd cd_c30_29, ↓exq_cd cd_c30_31, ↓exq_cd cd_c30_32, ↓exq_cd cd_c30_34, ↓exq_cd cd_c30_36, ↓exq_cd cd_c30_37, ↓exq_cd cd_c30_39, ↓exq_cd cd_c30_41, ↓exq_cd cd_c30_42, ↓exq_cd cd_c30_44, ↓exq_cd cd_c30_46, ↓exq_cd cd_c30_47, ↓exq_cd cd_c30_48, ↓exq_cd cd_c30_8, ↓exq_cd cd_c30_55, ↓exq_cd cd_c30_56, ↓exq_cd cd_c30_57, ↓exq_cd cd_c30_58, ↓exq_cd cd_c30_59, r30_1, r30_3, r30_5, r30_9, r30_14, r30_16, r30_21, r30_26, r30_31, r30_36, r30_41, r30_46, r30_48, r30_55, r30_57, r30_59, plA30, pl30]
        repeat (refine And.intro (a := (_ = true)) (by first | (simp; done) | (simp; omega)) ?_)
        exact ObQ.mk [0, 1, 8, 9, 12, 13, 10] (by decide) rfl rfl rfl ⟨rfl, rfl, rfl, rfl, rfl, rfl, rfl, trivial⟩
    | some w =>
      have hw : ¬ w < 0 ∧ -1 ≤ w := by
        simp only [numOk, fuOk, Bool.and_eq_true, decide_eq_true_eq] at hnum
        omega
      obtain ⟨hw, hw1⟩ := hw
      have e0 : dAct ⟨l, f, x, 0, room, m, some w, out⟩ 7 n b = (dCrash ⟨l, f, x, 0, room, m, some w, out⟩ n).2 := by simp [dAct]
      rw [e0]
      generalize hd : dCrash ⟨l, f, x, 0, room, m, some w, out⟩ n = r
      obtain ⟨e, l', f', x', xf', room', m', u', out'⟩ := r
      have hee : decide (e = e) = true := decide_eq_true rfl
      cases u' with
      | none =>
        refine ExQ_ok [] 4000 plsOk kBt_ok ?_
        simp only [conf0, layDR, fu6, fuL, lfO]
        (try rw [exh]); simp (maxSteps := 4000000) only [kBt, kB0, OB.kOvB, KC.kLK, kDk, kRk, ktO, ktW, objK, objB, updT, mapB, rhoN, mrk, readK, overK, KC.sLent, KC.keptS, KC.mk4, DW.osI, RW.osI, findD, findR, mCrash, layD, layR, fuP, fuL, lfO, hnum, List.append_nil, List.nodup_cons, List.mem_cons, List.not_mem_nil, List.take_succ_cons, List.take_zero, not_false_eq_true, List.drop_zero, List.length_replicate, hd, hw, hw1, stops, inK, stepF, frsF, frF, itemF, codeF, condF, opsF, opsW, opF, callO, drF, drO, drW, drC, stepS, wtS, gdst, gdl, sopF, pv, evq, callF, calleeS, popF, lopF, cls, lvA, rdl, quiet, p_move, p_assign, p_pick, p_binOp, p_fieldAddr, l_load, e_box, SY.get, SY.put, SY.ev, SY.mk, SY.nth, SY.lvl, SY.setl, SY.ini, wid, wids, dr, flat, at1, rdC, rdCt, bopInt, bop, pickAV, isArr, ctOf, leaveS, retS, killL, isDefs, resS, resAll, tup1, AV.scal, plk, Ct.cell, exq_go, lvCt, exq_t, exq_f, ↓reduceIte, Nat.reduceLT, Nat.reduceEqDiff, Nat.reduceAdd, Nat.reduceSub, Nat.reduceBEq, Bool.and_true, Bool.true_and, Bool.not_false, Bool.not_true, List.contains_nil, List.contains_cons, Bool.or_false, reduceCtorEq, true_and, Bool.false_eq_true, List.map_cons, List.map_nil, Bool.and_self, List.drop_succ_cons, List.drop_zero, List.length_cons, List.length_nil, List.cons_append, List.nil_append, List.append_nil, Nat.zero_add, Nat.add_zero, Nat.zero_mul, Int.reduceEq, Int.reduceLE, decide_true, decide_false, ktOf, conK, alive, alive0, mks, noMk, lndL, lnd, lvB, tB_tt, okBls, shB, ren, renL, renCt, not_false_eq_true, and_self, ti3, ti22, ti25, ti42, regAt, fi30, body30, Try.f30, ↓exq_cd cd_code30, ↓exq_cd cd_c30_1, ↓exq_cd cd_c30_2, ↓exq_cd cd_c30_3, ↓exq_cd cd_c30_4, ↓exq_cd cd_c30_5, ↓exq_cd cd_c30_6, ↓exq_cd cd_c30_7, ↓exq_cd cd_c30_9, ↓exq_cd cd_c30_10, ↓exq_cd cd_c30_11, ↓exq_cd cd_c30_12, ↓exq_cd cd_c30_14, ↓exq_cd cd_c30_15, ↓exq_cd cd_c30_16, ↓exq_cd cd_c30_13, ↓exq_cd cd_c30_19, ↓exq_cd cd_c30_21, ↓exq_cd cd_c30_22, ↓exq_cd cd_c30_24, ↓exq_cd cd_c30_26, ↓exq_cd cd_c30_27, ↓exq_cd cd_c30_29, ↓exq_cd cd_c30_31, ↓exq_cd cd_c30_32, ↓exq_cd cd_c30_34, ↓exq_cd cd_c30_36, ↓exq_cd cd_c30_37, ↓exq_cd cd_c30_39, ↓exq_cd cd_c30_41, ↓exq_cd cd_c30_42, ↓exq_cd cd_c30_44, ↓exq_cd cd_c30_46, ↓exq_cd cd_c30_47, ↓exq_cd cd_c30_48, ↓exq_cd cd_c30_8, ↓exq_cd cd_c30_55, ↓exq_cd cd_c30_56, ↓exq_cd cd_c30_57, ↓exq_cd cd_c30_58, ↓exq_cd cd_c30_59, r30_1, r30_3, r30_5, r30_9, r30_14, r30_16, r30_21, r30_26, r30_31, r30_36, r30_41, r30_46, r30_48, r30_55, r30_57, r30_59, plA30, pl30]
        repeat (refine And.intro (a := (_ = true)) (by first | (simp; done) | (simp; omega)) ?_)
        exact ObQ.mk [0, 1, 9, 10, 12, 13] (by decide) rfl rfl rfl ⟨rfl, rfl, rfl, rfl, rfl, rfl, trivial⟩
      | some w' =>
        refine ExQ_ok [] 4000 plsOk kBt_ok ?_
        simp only [conf0, layDR, fu6, fuL, lfO]
        (try rw [exh]); simp (maxSteps := 4000000) only [kBt, kB0, OB.kOvB, KC.kLK, kDk, kRk, ktO, ktW, objK, objB, updT, mapB, rhoN, mrk, readK, overK, KC.sLent, KC.keptS, KC.mk4, DW.osI, RW.osI, findD, findR, mCrash, layD, layR, fuP, fuL, lfO, hnum, List.append_nil, List.nodup_cons, List.mem_cons, List.not_mem_nil, List.take_succ_cons, List.take_zero, not_false_eq_true, List.drop_zero, List.length_replicate, hd, hw, hw1, stops, inK, stepF, frsF, frF, itemF, codeF, condF, opsF, opsW, opF, callO, drF, drO, drW, drC, stepS, wtS, gdst, gdl, sopF, pv, evq, callF, calleeS, popF, lopF, cls, lvA, rdl, quiet, p_move, p_assign, p_pick, p_binOp, p_fieldAddr, l_load, e_box, SY.get, SY.put, SY.ev, SY.mk, SY.nth, SY.lvl, SY.setl, SY.ini, wid, wids, dr, flat, at1, rdC, rdCt, bopInt, bop, pickAV, isArr, ctOf, leaveS, retS, killL, isDefs, resS, resAll, tup1, AV.scal, plk, Ct.cell, exq_go, lvCt, exq_t, exq_f, ↓reduceIte, Nat.reduceLT, Nat.reduceEqDiff, Nat.reduceAdd, Nat.reduceSub, Nat.reduceBEq, Bool.and_true, Bool.true_and, Bool.not_false, Bool.not_true, List.contains_nil, List.contains_cons, Bool.or_false, reduceCtorEq, true_and, Bool.false_eq_true, List.map_cons, List.map_nil, Bool.and_self, List.drop_succ_cons, List.drop_zero, List.length_cons, List.length_nil, List.cons_append, List.nil_append, List.append_nil, Nat.zero_add, Nat.add_zero, Nat.zero_mul, Int.reduceEq, Int.reduceLE, decide_true, decide_false, ktOf, conK, alive, alive0, mks, noMk, lndL, lnd, lvB, tB_tt, okBls, shB, ren, renL, renCt, not_false_eq_true, and_self, ti3, ti22, ti25, ti42, regAt, fi30, body30, Try.f30, ↓exq_cd cd_code30, ↓exq_cd cd_c30_1, ↓exq_cd cd_c30_2, ↓exq_cd cd_c30_3, ↓exq_cd cd_c30_4, ↓exq_cd cd_c30_5, ↓exq_cd cd_c30_6, ↓exq_cd cd_c30_7, ↓exq_cd cd_c30_9, ↓exq_cd cd_c30_10, ↓exq_cd cd_c30_11, ↓exq_cd cd_c30_12, ↓exq_cd cd_c30_14, ↓exq_cd cd_c30_15, ↓exq_cd cd_c30_16, ↓exq_cd cd_c30_13, ↓exq_cd cd_c30_19, ↓exq_cd cd_c30_21, ↓exq_cd cd_c30_22, ↓exq_cd cd_c30_24, ↓exq_cd cd_c30_26, ↓exq_cd cd_c30_27, ↓exq_cd cd_c30_29, ↓exq_cd cd_c30_31, ↓exq_cd cd_c30_32, ↓exq_cd cd_c30_34, ↓exq_cd cd_c30_36, ↓exq_cd cd_c30_37, ↓exq_cd cd_c30_39, ↓exq_cd cd_c30_41, ↓exq_cd cd_c30_42, ↓exq_cd cd_c30_44, ↓exq_cd cd_c30_46, ↓exq_cd cd_c30_47, ↓exq_cd cd_c30_48, ↓exq_cd cd_c30_8, ↓exq_cd cd_c30_55, ↓exq_cd cd_c30_56, ↓exq_cd cd_c30_57, ↓exq_cd cd_c30_58, ↓exq_cd cd_c30_59, r30_1, r30_3, r30_5, r30_9, r30_14, r30_16, r30_21, r30_26, r30_31, r30_36, r30_41, r30_46, r30_48, r30_55, r30_57, r30_59, plA30, pl30]
        repeat (refine And.intro (a := (_ = true)) (by first | (simp; done) | (simp; omega)) ?_)
        exact ObQ.mk [0, 1, 9, 10, 13, 14, 11] (by decide) rfl rfl rfl ⟨rfl, rfl, rfl, rfl, rfl, rfl, rfl, trivial⟩
  by_cases h8 : k = 8
  · subst h8
    clear h0 h1 h2 h3 h4 h5 h6 h7
    cases u with
    | none =>
      have e0 : dAct ⟨l, f, x, 0, room, m, none, out⟩ 8 n b = (dWipe ⟨l, f, x, 0, room, m, none, out⟩).2 := by simp [dAct]
      rw [e0]
      generalize hd : dWipe ⟨l, f, x, 0, room, m, none, out⟩ = r
      obtain ⟨e, l', f', x', xf', room', m', u', out'⟩ := r
      have hee : decide (e = e) = true := decide_eq_true rfl
      cases u' with
      | none =>
        refine ExQ_ok [] 4000 plsOk kBt_ok ?_
        simp only [conf0, layDR, fu6, fuL, lfO]
        (try rw [exh]); simp (maxSteps := 4000000) only [kBt, kB0, OB.kOvB, KC.kLK, kDk, kRk, ktO, ktW, objK, objB, updT, mapB, rhoN, mrk, readK, overK, KC.sLent, KC.keptS, KC.mk4, DW.osK, RW.osK, findD, findR, mWipe, layD, layR, fuP, fuL, lfO, hnum, List.append_nil, List.nodup_cons, List.mem_cons, List.not_mem_nil, List.take_succ_cons, List.take_zero, not_false_eq_true, List.drop_zero, hd, stops, inK, stepF, frsF, frF, itemF, codeF, condF, opsF, opsW, opF, callO, stepS, wtS, gdst, gdl, sopF, pv, evq, callF, calleeS, quiet, p_move, p_assign, p_pick, p_binOp, p_fieldAddr, l_load, e_box, SY.get, SY.put, SY.ev, SY.mk, SY.nth, SY.lvl, SY.setl, SY.ini, wid, wids, dr, flat, at1, rdC, rdCt, bopInt, bop, pickAV, isArr, ctOf, leaveS, retS, killL, isDefs, resS, resAll, tup1, AV.scal, Ct.cell, exq_go, lvCt, exq_t, exq_f, ↓reduceIte, Nat.reduceLT, Nat.reduceEqDiff, Nat.reduceAdd, Nat.reduceSub, Bool.and_true, Bool.true_and, Bool.not_true, reduceCtorEq, true_and, List.map_cons, List.map_nil, Bool.and_self, List.drop_succ_cons, List.drop_zero, List.length_cons, List.length_nil, List.cons_append, List.nil_append, List.append_nil, Nat.zero_add, Nat.add_zero, Nat.zero_mul, Int.reduceEq, Int.reduceLT, Int.reduceLE, decide_true, decide_false, ktOf, conK, alive, lndL, lnd, lvB, tB_tt, okBls, shB, ren, renL, renCt, not_false_eq_true, and_self, ti3, ti22, ti25, ti42, regAt, fi30, body30, Try.f30, ↓exq_cd cd_code30, ↓exq_cd cd_c30_1, ↓exq_cd cd_c30_2, ↓exq_cd cd_c30_3, ↓exq_cd cd_c30_4, ↓exq_cd cd_c30_5, ↓exq_cd cd_c30_6, ↓exq_cd cd_c30_7, ↓exq_cd cd_c30_9, ↓exq_cd cd_c30_10, ↓exq_cd cd_c30_11, ↓exq_cd cd_c30_12, ↓exq_cd cd_c30_14, ↓exq_cd cd_c30_15, ↓exq_cd cd_c30_16, ↓exq_cd cd_c30_13, ↓exq_cd cd_c30_19, ↓exq_cd cd_c30_21, ↓exq_cd cd_c30_22, ↓exq_cd cd_c30_24, ↓exq_cd cd_c30_26, ↓exq_cd cd_c30_27, ↓exq_cd cd_c30_29, ↓exq_cd cd_c30_31, ↓exq_cd cd_c30_32, ↓exq_cd cd_c30_34, ↓exq_cd cd_c30_36, ↓exq_cd cd_c30_37, ↓exq_cd cd_c30_39, ↓exq_cd cd_c30_41, ↓exq_cd cd_c30_42, ↓exq_cd cd_c30_44, ↓exq_cd cd_c30_46, ↓exq_cd cd_c30_47, ↓exq_cd cd_c30_49, ↓exq_cd cd_c30_51, ↓exq_cd cd_c30_52, ↓exq_cd cd_c30_53, ↓exq_cd cd_c30_8, ↓exq_cd cd_c30_55, ↓exq_cd cd_c30_56, ↓exq_cd cd_c30_57, ↓exq_cd cd_c30_58, ↓exq_cd cd_c30_59, r30_1, r30_3, r30_5, r30_9, r30_14, r30_16, r30_21, r30_26, r30_31, r30_36, r30_41, r30_46, r30_51, r30_53, r30_55, r30_57, r30_59]
        repeat (refine And.intro (a := (_ = true)) (by first | (simp; done) | (simp; omega)) ?_)
        exact ObQ.mk [0, 1, 8, 9, 11, 12] (by decide) rfl rfl rfl ⟨rfl, rfl, rfl, rfl, rfl, rfl, trivial⟩
      | some w' =>
        refine ExQ_ok [] 4000 plsOk kBt_ok ?_
        simp only [conf0, layDR, fu6, fuL, lfO]
        (try rw [exh]); simp (maxSteps := 4000000) only [kBt, kB0, OB.kOvB, KC.kLK, kDk, kRk, ktO, ktW, objK, objB, updT, mapB, rhoN, mrk, readK, overK, KC.sLent, KC.keptS, KC.mk4, DW.osK, RW.osK, findD, findR, mWipe, layD, layR, fuP, fuL, lfO, hnum, List.append_nil, List.nodup_cons, List.mem_cons, List.not_mem_nil, List.take_succ_cons, List.take_zero, not_false_eq_true, List.drop_zero, hd, stops, inK, stepF, frsF, frF, itemF, codeF, condF, opsF, opsW, opF, callO, stepS, wtS, gdst, gdl, sopF, pv, evq, callF, calleeS, quiet, p_move, p_assign, p_pick, p_binOp, p_fieldAddr, l_load, e_box, SY.get, SY.put, SY.ev, SY.mk, SY.nth, SY.lvl, SY.setl, SY.ini, wid, wids, dr, flat, at1, rdC, rdCt, bopInt, bop, pickAV, isArr, ctOf, leaveS, retS, killL, isDefs, resS, resAll, tup1, AV.scal, Ct.cell, exq_go, lvCt, exq_t, exq_f, ↓reduceIte, Nat.reduceLT, Nat.reduceEqDiff, Nat.reduceAdd, Nat.reduceSub, Bool.and_true, Bool.true_and, Bool.not_true, reduceCtorEq, true_and, List.map_cons, List.map_nil, Bool.and_self, List.drop_succ_cons, List.drop_zero, List.length_cons, List.length_nil, List.cons_append, List.nil_append, List.append_nil, Nat.zero_add, Nat.add_zero, Nat.zero_mul, Int.reduceEq, Int.reduceLT, Int.reduceLE, decide_true, decide_false, ktOf, conK, alive, lndL, lnd, lvB, tB_tt, okBls, shB, ren, renL, renCt, not_false_eq_true, and_self, ti3, ti22, ti25, ti42, regAt, fi30, body30, Try.f30, ↓exq_cd cd_code30, ↓exq_cd cd_c30_1, ↓exq_cd cd_c30_2, ↓exq_cd cd_c30_3, ↓exq_cd cd_c30_4, ↓exq_cd cd_c30_5, ↓exq_cd cd_c30_6, ↓exq_cd cd_c30_7, ↓exq_cd cd_c30_9, ↓exq_cd cd_c30_10, ↓exq_cd cd_c30_11, ↓exq_cd cd_c30_12, ↓exq_cd cd_c30_14, ↓exq_cd cd_c30_15, ↓exq_cd cd_c30_16, ↓exq_cd cd_c30_13, ↓exq_cd cd_c30_19, ↓exq_cd cd_c30_21, ↓exq_cd cd_c30_22, ↓exq_cd cd_c30_24, ↓exq_cd cd_c30_26, ↓exq_cd cd_c30_27, ↓exq_cd cd_c30_29, ↓exq_cd cd_c30_31, ↓exq_cd cd_c30_32, ↓exq_cd cd_c30_34, ↓exq_cd cd_c30_36, ↓exq_cd cd_c30_37, ↓exq_cd cd_c30_39, ↓exq_cd cd_c30_41, ↓exq_cd cd_c30_42, ↓exq_cd cd_c30_44, ↓exq_cd cd_c30_46, ↓exq_cd cd_c30_47, ↓exq_cd cd_c30_49, ↓exq_cd cd_c30_51, ↓exq_cd cd_c30_52, ↓exq_cd cd_c30_53, ↓exq_cd cd_c30_8, ↓exq_cd cd_c30_55, ↓exq_cd cd_c30_56, ↓exq_cd cd_c30_57, ↓exq_cd cd_c30_58, ↓exq_cd cd_c30_59, r30_1, r30_3, r30_5, r30_9, r30_14, r30_16, r30_21, r30_26, r30_31, r30_36, r30_41, r30_46, r30_51, r30_53, r30_55, r30_57, r30_59]
        repeat (refine And.intro (a := (_ = true)) (by first | (simp; done) | (simp; omega)) ?_)
        exact ObQ.mk [0, 1, 8, 9, 12, 13, 10] (by decide) rfl rfl rfl ⟨rfl, rfl, rfl, rfl, rfl, rfl, rfl, trivial⟩
    | some w =>
      have hw : ¬ w < 0 ∧ -1 ≤ w := by
        simp only [numOk, fuOk, Bool.and_eq_true, decide_eq_true_eq] at hnum
        omega
      obtain ⟨hw, hw1⟩ := hw
      have e0 : dAct ⟨l, f, x, 0, room, m, some w, out⟩ 8 n b = (dWipe ⟨l, f, x, 0, room, m, some w, out⟩).2 := by simp [dAct]
      rw [e0]
      generalize hd : dWipe ⟨l, f, x, 0, room, m, some w, out⟩ = r
      obtain ⟨e, l', f', x', xf', room', m', u', out'⟩ := r
      have hee : decide (e = e) = true := decide_eq_true rfl
      cases u' with
      | none =>
        refine ExQ_ok [] 4000 plsOk kBt_ok ?_
        simp only [conf0, layDR, fu6, fuL, lfO]
        (try rw [exh]); simp (maxSteps := 4000000) only [kBt, kB0, OB.kOvB, KC.kLK, kDk, kRk, ktO, ktW, objK, objB, updT, mapB, rhoN, mrk, readK, overK, KC.sLent, KC.keptS, KC.mk4, DW.osK, RW.osK, findD, findR, mWipe, layD, layR, fuP, fuL, lfO, hnum, List.append_nil, List.nodup_cons, List.mem_cons, List.not_mem_nil, List.take_succ_cons, List.take_zero, not_false_eq_true, List.drop_zero, hd, hw, hw1, stops, inK, stepF, frsF, frF, itemF, codeF, condF, opsF, opsW, opF, callO, stepS, wtS, gdst, gdl, sopF, pv, evq, callF, calleeS, quiet, p_move, p_assign, p_pick, p_binOp, p_fieldAddr, l_load, e_box, SY.get, SY.put, SY.ev, SY.mk, SY.nth, SY.lvl, SY.setl, SY.ini, wid, wids, dr, flat, at1, rdC, rdCt, bopInt, bop, pickAV, isArr, ctOf, leaveS, retS, killL, isDefs, resS, resAll, tup1, AV.scal, Ct.cell, exq_go, lvCt, exq_t, exq_f, ↓reduceIte, Nat.reduceLT, Nat.reduceEqDiff, Nat.reduceAdd, Nat.reduceSub, Bool.and_true, Bool.true_and, Bool.not_true, reduceCtorEq, true_and, List.map_cons, List.map_nil, Bool.and_self, List.drop_succ_cons, List.drop_zero, List.length_cons, List.length_nil, List.cons_append, List.nil_append, List.append_nil, Nat.zero_add, Nat.add_zero, Nat.zero_mul, Int.reduceEq, Int.reduceLE, decide_true, decide_false, ktOf, conK, alive, lndL, lnd, lvB, tB_tt, okBls, shB, ren, renL, renCt, not_false_eq_true, and_self, ti3, ti22, ti25, ti42, regAt, fi30, body30, Try.f30, ↓exq_cd cd_code30, ↓exq_cd cd_c30_1, ↓exq_cd cd_c30_2, ↓exq_cd cd_c30_3, ↓exq_cd cd_c30_4, ↓exq_cd cd_c30_5, ↓exq_cd cd_c30_6, ↓exq_cd cd_c30_7, ↓exq_cd cd_c30_9, ↓exq_cd cd_c30_10, ↓exq_cd cd_c30_11, ↓exq_cd cd_c30_12, ↓exq_cd cd_c30_14, ↓exq_cd cd_c30_15, ↓exq_cd cd_c30_16, ↓exq_cd cd_c30_13, ↓exq_cd cd_c30_19, ↓exq_cd cd_c30_21, ↓exq_cd cd_c30_22, ↓exq_cd cd_c30_24, ↓exq_cd cd_c30_26, ↓exq_cd cd_c30_27, ↓exq_cd cd_c30_29, ↓exq_cd cd_c30_31, ↓exq_cd cd_c30_32, ↓exq_cd cd_c30_34, ↓exq_cd cd_c30_36, ↓exq_cd cd_c30_37, ↓exq_cd cd_c30_39, ↓exq_cd cd_c30_41, ↓exq_cd cd_c30_42, ↓exq_cd cd_c30_44, ↓exq_cd cd_c30_46, ↓exq_cd cd_c30_47, ↓exq_cd cd_c30_49, ↓exq_cd cd_c30_51, ↓exq_cd cd_c30_52, ↓exq_cd cd_c30_53, ↓exq_cd cd_c30_8, ↓exq_cd cd_c30_55, ↓exq_cd cd_c30_56, ↓exq_cd cd_c30_57, ↓exq_cd cd_c30_58, ↓exq_cd cd_c30_59, r30_1, r30_3, r30_5, r30_9, r30_14, r30_16, r30_21, r30_26, r30_31, r30_36, r30_41, r30_46, r30_51, r30_53, r30_55, r30_57, r30_59]
        repeat (refine And.intro (a := (_ = true)) (by first | (simp; done) | (simp; omega)) ?_)
        exact ObQ.mk [0, 1, 9, 10, 12, 13] (by decide) rfl rfl rfl ⟨rfl, rfl, rfl, rfl, rfl, rfl, trivial⟩
      | some w' =>
        refine ExQ_ok [] 4000 plsOk kBt_ok ?_
        simp only [conf0, layDR, fu6, fuL, lfO]
        (try rw [exh]); simp (maxSteps := 4000000) only [kBt, kB0, OB.kOvB, KC.kLK, kDk, kRk, ktO, ktW, objK, objB, updT, mapB, rhoN, mrk, readK, overK, KC.sLent, KC.keptS, KC.mk4, DW.osK, RW.osK, findD, findR, mWipe, layD, layR, fuP, fuL, lfO, hnum, List.append_nil, List.nodup_cons, List.mem_cons, List.not_mem_nil, List.take_succ_cons, List.take_zero, not_false_eq_true, List.drop_zero, hd, hw, hw1, stops, inK, stepF, frsF, frF, itemF, codeF, condF, opsF, opsW, opF, callO, stepS, wtS, gdst, gdl, sopF, pv, evq, callF, calleeS, quiet, p_move, p_assign, p_pick, p_binOp, p_fieldAddr, l_load, e_box, SY.get, SY.put, SY.ev, SY.mk, SY.nth, SY.lvl, SY.setl, SY.ini, wid, wids, dr, flat, at1, rdC, rdCt, bopInt, bop, pickAV, isArr, ctOf, leaveS, retS, killL, isDefs, resS, resAll, tup1, AV.scal, Ct.cell, exq_go, lvCt, exq_t, exq_f, ↓reduceIte, Nat.reduceLT, Nat.reduceEqDiff, Nat.reduceAdd, Nat.reduceSub, Bool.and_true, Bool.true_and, Bool.not_true, reduceCtorEq, true_and, List.map_cons, List.map_nil, Bool.and_self, List.drop_succ_cons, List.drop_zero, List.length_cons, List.length_nil, List.cons_append, List.nil_append, List.append_nil, Nat.zero_add, Nat.add_zero, Nat.zero_mul, Int.reduceEq, Int.reduceLE, decide_true, decide_false, ktOf, conK, alive, lndL, lnd, lvB, tB_tt, okBls, shB, ren, renL, renCt, not_false_eq_true, and_self, ti3, ti22, ti25, ti42, regAt, fi30, body30, Try.f30, ↓exq_cd cd_code30, ↓exq_cd cd_c30_1, ↓exq_cd cd_c30_2, ↓exq_cd cd_c30_3, ↓exq_cd cd_c30_4, ↓exq_cd cd_c30_5, ↓exq_cd cd_c30_6, ↓exq_cd cd_c30_7, ↓exq_cd cd_c30_9, ↓exq_cd cd_c30_10, ↓exq_cd cd_c30_11, ↓exq_cd cd_c30_12, ↓exq_cd cd_c30_14, ↓exq_cd cd_c30_15, ↓exq_cd cd_c30_16, ↓exq_cd cd_c30_13, ↓exq_cd cd_c30_19, ↓exq_cd cd_c30_21, ↓exq_cd cd_c30_22, ↓exq_cd cd_c30_24, ↓exq_cd cd_c30_26, ↓exq_cd cd_c30_27, ↓exq_cd cd_c30_29, ↓exq_cd cd_c30_31, ↓exq_cd cd_c30_32, ↓exq_cd cd_c30_34, ↓exq_cd cd_c30_36, ↓exq_cd cd_c30_37, ↓exq_cd cd_c30_39, ↓exq_cd cd_c30_41, ↓exq_cd cd_c30_42, ↓exq_cd cd_c30_44, ↓exq_cd cd_c30_46, ↓exq_cd cd_c30_47, ↓exq_cd cd_c30_49, ↓exq_cd cd_c30_51, ↓exq_cd cd_c30_52, ↓exq_cd cd_c30_53, ↓exq_cd cd_c30_8, ↓exq_cd cd_c30_55, ↓exq_cd cd_c30_56, ↓exq_cd cd_c30_57, ↓exq_cd cd_c30_58, ↓exq_cd cd_c30_59, r30_1, r30_3, r30_5, r30_9, r30_14, r30_16, r30_21, r30_26, r30_31, r30_36, r30_41, r30_46, r30_51, r30_53, r30_55, r30_57, r30_59]
        repeat (refine And.intro (a := (_ = true)) (by first | (simp; done) | (simp; omega)) ?_)
        exact ObQ.mk [0, 1, 9, 10, 13, 14, 11] (by decide) rfl rfl rfl ⟨rfl, rfl, rfl, rfl, rfl, rfl, rfl, trivial⟩
  have e0 : dAct ⟨l, f, x, 0, room, m, u, out⟩ k n b = ⟨l, f, x, 0, room, m, u, out⟩ := by simp [dAct, h0, h1, h2, h3, h4, h5, h6, h7, h8]
  rw [e0]
  cases u with
  | none =>
    refine ExQ_ok [] 4000 plsOk kBt_ok ?_
    simp only [conf0, layDR, fu6, fuL, lfO]
    (try rw [exh]); simp (maxSteps := 4000000) only [kBt, kB0, OB.kOvB, KC.kLK, kDk, kRk, ktW, mapB, readK, overK, KC.sLent, KC.keptS, KC.mk4, List.append_nil, h0, h1, h2, h3, h4, h5, h6, h7, h8, stops, inK, stepF, frsF, frF, itemF, codeF, condF, opsF, opsW, opF, callO, stepS, wtS, gdst, gdl, sopF, pv, evq, callF, calleeS, quiet, p_move, p_assign, p_pick, p_binOp, p_fieldAddr, l_load, e_box, SY.get, SY.put, SY.ev, SY.mk, SY.nth, SY.lvl, SY.setl, SY.ini, wid, wids, dr, flat, at1, rdC, rdCt, bopInt, bop, pickAV, isArr, ctOf, leaveS, retS, killL, isDefs, resS, resAll, tup1, AV.scal, Ct.cell, exq_go, lvCt, exq_t, exq_f, ↓reduceIte, Nat.reduceLT, Nat.reduceEqDiff, Nat.reduceAdd, Nat.reduceSub, Bool.and_true, Bool.true_and, Bool.not_true, reduceCtorEq, true_and, List.map_cons, List.map_nil, Bool.and_self, List.length_cons, List.length_nil, List.cons_append, List.nil_append, List.append_nil, Nat.zero_add, Nat.add_zero, Nat.zero_mul, Int.reduceLE, decide_true, decide_false, ktOf, conK, alive, lndL, lnd, lvB, tB_tt, okBls, shB, ren, renCt, and_self, ti3, ti22, ti42, regAt, fi30, body30, Try.f30, ↓exq_cd cd_code30, ↓exq_cd cd_c30_1, ↓exq_cd cd_c30_2, ↓exq_cd cd_c30_3, ↓exq_cd cd_c30_4, ↓exq_cd cd_c30_5, ↓exq_cd cd_c30_6, ↓exq_cd cd_c30_7, ↓exq_cd cd_c30_9, ↓exq_cd cd_c30_10, ↓exq_cd cd_c30_11, ↓exq_cd cd_c30_12, ↓exq_cd cd_c30_14, ↓exq_cd cd_c30_15, ↓exq_cd cd_c30_16, ↓exq_cd cd_c30_13, ↓exq_cd cd_c30_19, ↓exq_cd cd_c30_21, ↓exq_cd cd_c30_22, ↓exq_cd cd_c30_24, ↓exq_cd cd_c30_26, ↓exq_cd cd_c30_27, ↓exq_cd cd_c30_29, ↓exq_cd cd_c30_31, ↓exq_cd cd_c30_32, ↓exq_cd cd_c30_34, ↓exq_cd cd_c30_36, ↓exq_cd cd_c30_37, ↓exq_cd cd_c30_39, ↓exq_cd cd_c30_41, ↓exq_cd cd_c30_42, ↓exq_cd cd_c30_44, ↓exq_cd cd_c30_46, ↓exq_cd cd_c30_47, ↓exq_cd cd_c30_49, ↓exq_cd cd_c30_51, ↓exq_cd cd_c30_52, ↓exq_cd cd_c30_8, ↓exq_cd cd_c30_55, ↓exq_cd cd_c30_56, ↓exq_cd cd_c30_57, ↓exq_cd cd_c30_58, ↓exq_cd cd_c30_59, r30_1, r30_3, r30_5, r30_9, r30_14, r30_16, r30_21, r30_26, r30_31, r30_36, r30_41, r30_46, r30_51, r30_55, r30_57, r30_59]
    repeat (refine And.intro (a := (_ = true)) (by first | (simp; done) | (simp; omega)) ?_)
    exact ObQ.mk [0, 1, 2, 3, 4, 5] (by decide) rfl rfl rfl ⟨rfl, rfl, rfl, rfl, rfl, rfl, trivial⟩
  | some w =>
    refine ExQ_ok [] 4000 plsOk kBt_ok ?_
    simp only [conf0, layDR, fu6, fuL, lfO]
    (try rw [exh]); simp (maxSteps := 4000000) only [kBt, kB0, OB.kOvB, KC.kLK, kDk, kRk, ktW, mapB, readK, overK, KC.sLent, KC.keptS, KC.mk4, List.append_nil, h0, h1, h2, h3, h4, h5, h6, h7, h8, stops, inK, stepF, frsF, frF, itemF, codeF, condF, opsF, opsW, opF, callO, stepS, wtS, gdst, gdl, sopF, pv, evq, callF, calleeS, quiet, p_move, p_assign, p_pick, p_binOp, p_fieldAddr, l_load, e_box, SY.get, SY.put, SY.ev, SY.mk, SY.nth, SY.lvl, SY.setl, SY.ini, wid, wids, dr, flat, at1, rdC, rdCt, bopInt, bop, pickAV, isArr, ctOf, leaveS, retS, killL, isDefs, resS, resAll, tup1, AV.scal, Ct.cell, exq_go, lvCt, exq_t, exq_f, ↓reduceIte, Nat.reduceLT, Nat.reduceEqDiff, Nat.reduceAdd, Nat.reduceSub, Bool.and_true, Bool.true_and, Bool.not_true, reduceCtorEq, true_and, List.map_cons, List.map_nil, Bool.and_self, List.length_cons, List.length_nil, List.cons_append, List.nil_append, List.append_nil, Nat.zero_add, Nat.add_zero, Nat.zero_mul, Int.reduceLE, decide_true, decide_false, ktOf, conK, alive, lndL, lnd, lvB, tB_tt, okBls, shB, ren, renCt, and_self, ti3, ti22, ti42, regAt, fi30, body30, Try.f30, ↓exq_cd cd_code30, ↓exq_cd cd_c30_1, ↓exq_cd cd_c30_2, ↓exq_cd cd_c30_3, ↓exq_cd cd_c30_4, ↓exq_cd cd_c30_5, ↓exq_cd cd_c30_6, ↓exq_cd cd_c30_7, ↓exq_cd cd_c30_9, ↓exq_cd cd_c30_10, ↓exq_cd cd_c30_11, ↓exq_cd cd_c30_12, ↓exq_cd cd_c30_14, ↓exq_cd cd_c30_15, ↓exq_cd cd_c30_16, ↓exq_cd cd_c30_13, ↓exq_cd cd_c30_19, ↓exq_cd cd_c30_21, ↓exq_cd cd_c30_22, ↓exq_cd cd_c30_24, ↓exq_cd cd_c30_26, ↓exq_cd cd_c30_27, ↓exq_cd cd_c30_29, ↓exq_cd cd_c30_31, ↓exq_cd cd_c30_32, ↓exq_cd cd_c30_34, ↓exq_cd cd_c30_36, ↓exq_cd cd_c30_37, ↓exq_cd cd_c30_39, ↓exq_cd cd_c30_41, ↓exq_cd cd_c30_42, ↓exq_cd cd_c30_44, ↓exq_cd cd_c30_46, ↓exq_cd cd_c30_47, ↓exq_cd cd_c30_49, ↓exq_cd cd_c30_51, ↓exq_cd cd_c30_52, ↓exq_cd cd_c30_8, ↓exq_cd cd_c30_55, ↓exq_cd cd_c30_56, ↓exq_cd cd_c30_57, ↓exq_cd cd_c30_58, ↓exq_cd cd_c30_59, r30_1, r30_3, r30_5, r30_9, r30_14, r30_16, r30_21, r30_26, r30_31, r30_36, r30_41, r30_46, r30_51, r30_55, r30_57, r30_59]
    repeat (refine And.intro (a := (_ = true)) (by first | (simp; done) | (simp; omega)) ?_)
    exact ObQ.mk [0, 1, 2, 3, 4, 5, 6] (by decide) rfl rfl rfl ⟨rfl, rfl, rfl, rfl, rfl, rfl, rfl, trivial⟩
set_option maxRecDepth 100000 in
set_option maxHeartbeats 8000000 in
theorem alike_word (s : DS) (hnum : numOk s = true) (hxf : s.xf = 0) : Word Try.prog (plOf pls) 31 [.ptr 0 0 9 0, .ptr 1 0 7 0] (layDR s) (ObQ (layDR s).length (.v (.bool true)) (layDR s ++ [])) := by
  obtain ⟨l, f, x, xf, room, m, u, out⟩ := s
  simp only at hxf
  subst hxf
  refine ⟨_, fi31, by simp, fun C hC hl => ?_⟩
  have tl : l.take l.length = l := List.take_of_length_le (Nat.le_refl _)
  have dl : decide (l = l) = true := decide_eq_true rfl
  have dn : decide (([] : List Int) = []) = true := decide_eq_true rfl
  have dll : decide ((l.length : Int) = l.length) = true := decide_eq_true rfl
  have df : decide (f = f) = true := decide_eq_true rfl
  have dm : decide (m = m) = true := decide_eq_true rfl
  cases u with
  | none =>
    cases out with
    | true =>
      refine ExQ_ok [] 4000 plsOk kBt_ok ?_
      simp only [conf0, layDR, fu6, fuL, lfO]
      (try rw [exh]); simp (maxSteps := 4000000) only [kBt, kB0, OB.kOvB, KC.kLK, kDk, kRk, ktO, ktW, mapB, readK, overK, KB.sSaB, KB.sSaB0, mapI, DW.osR, RW.osR, findD, findR, mLen, mFirm, mSteps, mUp, rdV, rdW, rdX, layD, layR, fuP, fuL, lfO, nilN, hnum, List.append_nil, List.nodup_cons, List.mem_cons, List.not_mem_nil, KB.bff, not_false_eq_true, stops, stepF, frsF, frF, itemF, codeF, opsF, opsW, opF, callO, drF, drO, drW, drC, stepS, wtS, gdst, gdl, sopF, pv, callF, calleeS, popF, lopF, bltP, callP, cls, lvA, rdl, p_move, p_assign, p_pick, p_nilCheck, p_binOp, p_unOp, p_fieldAddr, p_extract, p_len, l_load, SY.get, SY.put, SY.ev, SY.mk, SY.nth, SY.lvl, SY.ini, dr, at1, rdC, rdCt, bopInt, bopEq, isBl, bop, pickAV, leaveS, retS, killL, isDefs, resS, resAll, tup1, AV.scal, plk, exq_go, exq_t, ↓reduceIte, Nat.reduceLT, Nat.reduceEqDiff, Nat.reduceAdd, Nat.reduceSub, Nat.reduceBEq, Bool.and_true, Bool.true_and, Bool.not_false, Bool.not_true, List.contains_nil, List.contains_cons, Bool.or_false, reduceCtorEq, true_and, Bool.false_eq_true, List.map_cons, List.map_nil, Bool.and_self, List.length_cons, List.length_nil, List.nil_append, List.append_nil, Nat.zero_add, Nat.add_zero, Nat.zero_mul, Int.reduceLT, Int.reduceLE, decide_true, ktOf, conK, alive, alive0, mks, noMk, lndL, lnd, lvB, okBls, shB, ren, renL, not_false_eq_true, ti3, ti4, ti22, ti25, ti65, regAt, fi31, body31, Try.f31, ↓exq_cd cd_code31, ↓exq_cd cd_c31_1, ↓exq_cd cd_c31_2, ↓exq_cd cd_c31_3, ↓exq_cd cd_c31_4, ↓exq_cd cd_c31_5, ↓exq_cd cd_c31_6, ↓exq_cd cd_c31_7, ↓exq_cd cd_c31_8, ↓exq_cd cd_c31_9, ↓exq_cd cd_c31_10, ↓exq_cd cd_c31_11, r31_1, r31_3, r31_5, r31_7, r31_9, r31_11, plA31, pl31]
      repeat (refine And.intro (a := (_ = true)) (by first | (simp; done) | (simp; omega)) ?_)
      exact ObQ.mk [0, 1, 2, 3, 4, 5] (by decide) rfl rfl rfl ⟨rfl, rfl, rfl, rfl, rfl, rfl, trivial⟩
    | false =>
      refine ExQ_ok [] 4000 plsOk kBt_ok ?_
      simp only [conf0, layDR, fu6, fuL, lfO]
      (try rw [exh]); simp (maxSteps := 4000000) only [kBt, kB0, OB.kOvB, KC.kLK, kDk, kRk, ktO, ktW, mapB, rhoN, readK, overK, KB.sSaB, KB.sSaB0, mapI, DW.osR, RW.osR, findD, findR, mLen, mFirm, mSteps, mUp, rdV, rdW, rdX, layD, layR, fuP, fuL, lfO, nilN, hnum, List.append_nil, List.nodup_cons, List.mem_cons, List.not_mem_nil, KB.btt, not_false_eq_true, List.drop_zero, tl, stops, stepF, frsF, frF, itemF, codeF, opsF, opsW, opF, callO, drF, drO, drW, drC, stepS, wtS, gdst, gdl, sopF, pv, callF, calleeS, popF, lopF, bltP, callP, cls, lvA, rdl, p_move, p_assign, p_pick, p_nilCheck, p_binOp, p_unOp, p_fieldAddr, p_extract, p_len, l_load, SY.get, SY.put, SY.ev, SY.mk, SY.nth, SY.lvl, SY.setl, SY.ini, dr, at1, rdC, rdCt, bopInt, bopEq, isBl, bop, pickAV, leaveS, retS, killL, isDefs, resS, resAll, tup1, AV.scal, plk, exq_go, exq_t, ↓reduceIte, Nat.reduceLT, Nat.reduceEqDiff, Nat.reduceAdd, Nat.reduceSub, Nat.reduceBEq, Bool.and_true, Bool.true_and, Bool.not_false, Bool.not_true, List.contains_nil, List.contains_cons, Bool.or_false, reduceCtorEq, true_and, Bool.false_eq_true, List.map_cons, List.map_nil, Bool.and_self, List.drop_zero, List.length_cons, List.length_nil, List.cons_append, List.nil_append, List.append_nil, Nat.zero_add, Nat.add_zero, Nat.zero_mul, Int.reduceLT, Int.reduceLE, decide_true, decide_false, ktOf, conK, alive, alive0, mks, noMk, lndL, lnd, lvB, okBls, shB, ren, renL, renCt, not_false_eq_true, and_self, ti3, ti4, ti22, ti25, ti65, regAt, fi31, body31, Try.f31, ↓exq_cd cd_code31, ↓exq_cd cd_c31_1, ↓exq_cd cd_c31_2, ↓exq_cd cd_c31_3, ↓exq_cd cd_c31_4, ↓exq_cd cd_c31_5, ↓exq_cd cd_c31_6, ↓exq_cd cd_c31_7, ↓exq_cd cd_c31_8, ↓exq_cd cd_c31_9, ↓exq_cd cd_c31_10, ↓exq_cd cd_c31_11, r31_1, r31_3, r31_5, r31_7, r31_9, r31_11, plA31, pl31]
      repeat (refine And.intro (a := (_ = true)) (by first | (simp; done) | (simp; omega)) ?_)
      exact ObQ.mk [0, 1, 2, 3, 4, 5] (by decide) rfl rfl rfl ⟨rfl, rfl, rfl, rfl, rfl, rfl, trivial⟩
  | some w =>
    have hw : ¬ w < 0 ∧ -1 ≤ w := by
      simp only [numOk, fuOk, Bool.and_eq_true, decide_eq_true_eq] at hnum
      omega
    obtain ⟨hw, hw1⟩ := hw
    cases out with
    | true =>
      refine ExQ_ok [] 4000 plsOk kBt_ok ?_
      simp only [conf0, layDR, fu6, fuL, lfO]
      (try rw [exh]); simp (maxSteps := 4000000) only [kBt, kB0, OB.kOvB, KC.kLK, kDk, kRk, ktO, ktW, mapB, readK, overK, KB.sSaB, KB.sSaB0, mapI, DW.osR, RW.osR, findD, findR, mLen, mFirm, mSteps, mUp, rdV, rdW, rdX, layD, layR, fuP, fuL, lfO, nilN, hnum, List.append_nil, List.nodup_cons, List.mem_cons, List.not_mem_nil, KB.bff, not_false_eq_true, hw, hw1, stops, stepF, frsF, frF, itemF, codeF, opsF, opsW, opF, callO, drF, drO, drW, drC, stepS, wtS, gdst, gdl, sopF, pv, callF, calleeS, popF, lopF, bltP, callP, cls, lvA, rdl, p_move, p_assign, p_pick, p_nilCheck, p_binOp, p_unOp, p_fieldAddr, p_extract, p_len, l_load, SY.get, SY.put, SY.ev, SY.mk, SY.nth, SY.lvl, SY.ini, dr, at1, rdC, rdCt, bopInt, bopEq, isBl, bop, pickAV, leaveS, retS, killL, isDefs, resS, resAll, tup1, AV.scal, plk, exq_go, exq_t, ↓reduceIte, Nat.reduceLT, Nat.reduceEqDiff, Nat.reduceAdd, Nat.reduceSub, Nat.reduceBEq, Bool.and_true, Bool.true_and, Bool.not_false, Bool.not_true, List.contains_nil, List.contains_cons, Bool.or_false, reduceCtorEq, true_and, Bool.false_eq_true, List.map_cons, List.map_nil, Bool.and_self, List.length_cons, List.length_nil, List.nil_append, List.append_nil, Nat.zero_add, Nat.add_zero, Nat.zero_mul, decide_true, ktOf, conK, alive, alive0, mks, noMk, lndL, lnd, lvB, okBls, shB, ren, renL, not_false_eq_true, ti3, ti4, ti22, ti25, ti65, regAt, fi31, body31, Try.f31, ↓exq_cd cd_code31, ↓exq_cd cd_c31_1, ↓exq_cd cd_c31_2, ↓exq_cd cd_c31_3, ↓exq_cd cd_c31_4, ↓exq_cd cd_c31_5, ↓exq_cd cd_c31_6, ↓exq_cd cd_c31_7, ↓exq_cd cd_c31_8, ↓exq_cd cd_c31_9, ↓exq_cd cd_c31_10, ↓exq_cd cd_c31_11, r31_1, r31_3, r31_5, r31_7, r31_9, r31_11, plA31, pl31]
      repeat (refine And.intro (a := (_ = true)) (by first | (simp; done) | (simp; omega)) ?_)
      exact ObQ.mk [0, 1, 2, 3, 4, 5, 6] (by decide) rfl rfl rfl ⟨rfl, rfl, rfl, rfl, rfl, rfl, rfl, trivial⟩
    | false =>
      refine ExQ_ok [] 4000 plsOk kBt_ok ?_
      simp only [conf0, layDR, fu6, fuL, lfO]
      (try rw [exh]); simp (maxSteps := 4000000) only [kBt, kB0, OB.kOvB, KC.kLK, kDk, kRk, ktO, ktW, mapB, rhoN, readK, overK, KB.sSaB, KB.sSaB0, mapI, DW.osR, RW.osR, findD, findR, mLen, mFirm, mSteps, mUp, rdV, rdW, rdX, layD, layR, fuP, fuL, lfO, nilN, hnum, List.append_nil, List.nodup_cons, List.mem_cons, List.not_mem_nil, KB.btt, not_false_eq_true, List.drop_zero, tl, hw, hw1, stops, stepF, frsF, frF, itemF, codeF, opsF, opsW, opF, callO, drF, drO, drW, drC, stepS, wtS, gdst, gdl, sopF, pv, callF, calleeS, popF, lopF, bltP, callP, cls, lvA, rdl, p_move, p_assign, p_pick, p_nilCheck, p_binOp, p_unOp, p_fieldAddr, p_extract, p_len, l_load, SY.get, SY.put, SY.ev, SY.mk, SY.nth, SY.lvl, SY.setl, SY.ini, dr, at1, rdC, rdCt, bopInt, bopEq, isBl, bop, pickAV, leaveS, retS, killL, isDefs, resS, resAll, tup1, AV.scal, plk, exq_go, exq_t, ↓reduceIte, Nat.reduceLT, Nat.reduceEqDiff, Nat.reduceAdd, Nat.reduceSub, Nat.reduceBEq, Bool.and_true, Bool.true_and, Bool.not_false, Bool.not_true, List.contains_nil, List.contains_cons, Bool.or_false, reduceCtorEq, true_and, Bool.false_eq_true, List.map_cons, List.map_nil, Bool.and_self, List.drop_zero, List.length_cons, List.length_nil, List.cons_append, List.nil_append, List.append_nil, Nat.zero_add, Nat.add_zero, Nat.zero_mul, decide_true, decide_false, ktOf, conK, alive, alive0, mks, noMk, lndL, lnd, lvB, okBls, shB, ren, renL, renCt, not_false_eq_true, and_self, ti3, ti4, ti22, ti25, ti65, regAt, fi31, body31, Try.f31, ↓exq_cd cd_code31, ↓exq_cd cd_c31_1, ↓exq_cd cd_c31_2, ↓exq_cd cd_c31_3, ↓exq_cd cd_c31_4, ↓exq_cd cd_c31_5, ↓exq_cd cd_c31_6, ↓exq_cd cd_c31_7, ↓exq_cd cd_c31_8, ↓exq_cd cd_c31_9, ↓exq_cd cd_c31_10, ↓exq_cd cd_c31_11, r31_1, r31_3, r31_5, r31_7, r31_9, r31_11, plA31, pl31]
      repeat (refine And.intro (a := (_ = true)) (by first | (simp; done) | (simp; omega)) ?_)
      exact ObQ.mk [0, 1, 2, 3, 4, 5, 6] (by decide) rfl rfl rfl ⟨rfl, rfl, rfl, rfl, rfl, rfl, rfl, trivial⟩
def osDoes : OSpec := fun args bl => match args with
  | [.ptr a 0 9 0, .ptr q 0 7 0, .agg [.v (.int .i64 k), .v (.int .i64 n), .imn false .u8 b c]] => (match findDR bl a q with
    | some (v1, σ, s) => some (v1 && (numOk s && (decide (s.xf = 0) && (decide (b.length ≤ 1000000) && decide (n ≤ 9223372036854775807)))), σ, [.ptr 0 0 9 0, .ptr 1 0 7 0, .agg [.v (.int .i64 k), .v (.int .i64 n), .imn false .u8 b c]], layDR s, .v (.bool true), layDR (dAct s k n b))
    | none => none)
  | _ => none
theorem osDoes_ok : ObjOk Try.prog (plOf pls) 30 2 osDoes := by
  intro args bl σ args0 bl0 r1 bl1 hs
  unfold osDoes at hs
  split at hs
  · rename_i a q k n b c
    split at hs
    · rename_i v1 σ' s e
      simp only [Option.some.injEq, Prod.mk.injEq, Bool.and_eq_true, decide_eq_true_eq] at hs
      obtain ⟨⟨rfl, h1, h2, h3, h4⟩, rfl, rfl, rfl, rfl, rfl⟩ := hs
      obtain ⟨a1, a2, a3, a4, a5, a6, a7⟩ := findDR_ok e
      exact ⟨does_word s k n b c h1 h2 h3 h4, ⟨[.ptr 0 0 9 0, .ptr 1 0 7 0, .agg [.v (.int .i64 k), .v (.int .i64 n), .imn false .u8 b c]], ⟨_, _, rfl, .inl ⟨by simp [ren, a6], by simp [lvB]; omega⟩, _, _, rfl, .inl ⟨by simp [ren, a7], by simp [lvB]; omega⟩, _, _, rfl, .inr rfl, rfl⟩, fun _ _ h => h⟩, a1, a2, a3, a4, a5, layDR_two _, rfl, layDR_ok _⟩
    · cases hs
  · cases hs
def osAlike : OSpec := fun args bl => match args with
  | [.ptr a 0 9 0, .ptr q 0 7 0] => (match findDR bl a q with
    | some (v1, σ, s) => some (v1 && (numOk s && decide (s.xf = 0)), σ, [.ptr 0 0 9 0, .ptr 1 0 7 0], layDR s, .v (.bool true), [])
    | none => none)
  | _ => none
theorem osAlike_ok : ReadOk Try.prog (plOf pls) 31 osAlike := by
  intro args bl σ args0 bl0 r1 bl1 hs
  unfold osAlike at hs
  split at hs
  · rename_i a q
    split at hs
    · rename_i v1 σ' s e
      simp only [Option.some.injEq, Prod.mk.injEq, Bool.and_eq_true, decide_eq_true_eq] at hs
      obtain ⟨⟨rfl, h1, h2⟩, rfl, rfl, rfl, rfl, rfl⟩ := hs
      obtain ⟨a1, a2, a3, a4, a5, a6, a7⟩ := findDR_ok e
      exact ⟨alike_word s h1 h2, ⟨[.ptr 0 0 9 0, .ptr 1 0 7 0], ⟨_, _, rfl, .inl ⟨by simp [ren, a6], by simp [lvB]; omega⟩, _, _, rfl, .inl ⟨by simp [ren, a7], by simp [lvB]; omega⟩, rfl⟩, fun _ _ h => h⟩, a1, a2, a3, a4, layDR_some s, layDR_ok s, rfl, by rw [List.append_nil]; exact layDR_ok s⟩
    · cases hs
  · cases hs
end DD
end Go.Proofs.Ytmdepmhamefheaa
