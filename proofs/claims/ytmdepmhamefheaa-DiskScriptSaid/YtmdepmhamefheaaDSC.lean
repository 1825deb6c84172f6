/- DiskScript: its law. -/
import Derived.Test.YtmdepmhamefheaaDD
set_option linter.unusedSimpArgs false
set_option linter.unusedVariables false
-- FUNCTIONS 6
namespace Go.Proofs.Ytmdepmhamefheaa
open Go Go.SY
namespace DSC
theorem plsOk : PlOk Try.prog (plOf pls) := KB.plsOk
theorem noK : KOk Try.prog (plOf pls) (fun _ => none) := KB.noK
open DW RW DD DF
set_option maxRecDepth 100000 in
theorem awake_run : runX Try.prog (fun _ => none) pls pts [] 8000 8 [] = true := by kernel_rfl
def kV0 : KT := ktOf [(8, specT), (23, sLng)]
theorem kV0_ok : KOk Try.prog (plOf pls) kV0 := ktOf_ok plsOk fun x hx => by
  simp only [List.mem_cons, List.not_mem_nil, or_false] at hx
  rcases hx with rfl | rfl
  · exact spec_true plsOk noK awake_run
  · exact long_ok
def kV : KT := ktO 30 2 osDoes (ktW 31 (readK osAlike) (kDk (kRk kV0)))
theorem kV_ok : KOk Try.prog (plOf pls) kV := ktO_ok plsOk (ktW_ok (kDk_ok (kRk_ok kV0_ok)) (readK_ok plsOk ⟨_, fi31⟩ osAlike_ok)) ⟨_, fi30⟩ osDoes_ok
theorem lay_xf (nx : Bool) (s : DS) (b : List Int) : (dLay nx s b).2.xf = s.xf := by
  unfold dLay
  split
  · rfl
  split
  · rfl
  split
  · rfl
  split <;> rfl
theorem sync_xf (s : DS) : (dSync s).2.xf = s.xf := by
  unfold dSync
  split
  · rfl
  split
  · rfl
  split <;> rfl
theorem switch_xf {s : DS} (h : s.xf = 0) : (dSwitch s).2.xf = 0 := by
  unfold dSwitch
  split
  · exact h
  split
  · rfl
  split
  · exact h
  · rfl
theorem switch_inv {s : DS} {i : Nat} (h : Inv s i) : Inv (dSwitch s).2 (i + 1) := by
  obtain ⟨n0, n1, sz, f0, f1, hu⟩ := h
  unfold dSwitch
  split
  · exact ⟨n0, by dsimp only; omega, by dsimp only; omega, f0, f1, hu⟩
  split
  · exact ⟨by dsimp only; omega, by dsimp only; omega, by dsimp only [List.length_nil]; omega, by dsimp only; omega, by dsimp only; omega, rfl⟩
  · rename_i k hk
    rw [hk] at hu
    split
    · exact ⟨by dsimp only; omega, by dsimp only; omega, by dsimp only; omega, f0, f1, rfl⟩
    · rename_i h0
      exact ⟨by dsimp only; omega, by dsimp only; omega, by dsimp only [List.length_nil]; omega, by dsimp only; omega, by dsimp only; omega, fu_dec hu h0⟩
theorem act_inv {s : DS} {i : Nat} {k n : Int} {b : List Int} (h : Inv s i) (hb : b.length ≤ 200) (hn : n ≤ 9223372036854775807) (hx : s.xf = 0) : Inv (dAct s k n b) (i + 1) ∧ (dAct s k n b).xf = 0 := by
  by_cases h4 : k = 4
  · subst h4
    have e : dAct s 4 n b = (dSwitch s).2 := by simp [dAct]
    rw [e]
    exact ⟨switch_inv h, switch_xf hx⟩
  by_cases h8 : k = 8
  · subst h8
    have e : dAct s 8 n b = (dWipe s).2 := by simp [dAct]
    rw [e]
    obtain ⟨n0, n1, sz, f0, f1, hu⟩ := h
    exact ⟨⟨n0, by dsimp only [dWipe]; omega, by dsimp only [dWipe, List.length_nil]; omega, by dsimp only [dWipe]; omega, by dsimp only [dWipe, List.length_nil]; omega, rfl⟩, rfl⟩
  refine ⟨(act_law h hb hn h4 h8).inv, ?_⟩
  unfold dAct
  split
  · rw [lay_xf]; exact hx
  split
  · rw [sync_xf]; exact hx
  split
  · rw [lay_xf]; exact hx
  split
  · unfold dRoom; split <;> exact hx
  split
  · unfold dFuse; split <;> exact hx
  split
  · unfold dCrash; split
    · exact hx
    · rfl
  · exact hx
def tmV (rs : List (List AV)) (c : Option Nat) (i : Nat) : TM := [(9, .v (.int .i64 i)), (7, .ptr 1 0 7 0), (5, .ptr 0 0 9 0), (1, .imr false 3 rs c)]
theorem tmV_lv {rs : List (List AV)} (hf : FlatR rs) (c : Option Nat) (i N : Nat) : lvT (N + 2) true (tmV rs c i) = true := by
  simp [tmV, lvT, lvB, tB, hf.lv]
set_option maxRecDepth 100000 in
set_option maxHeartbeats 8000000 in
theorem script_loop (C : Ctx) (hC : C.β.b = []) (rs : List (List AV)) (hm : rs.all isA = true) (hN : ∀ i, i < rs.length → aN (atA rs i) ≤ 9223372036854775807) (c : Option Nat) (hlg : lngA rs = false) (s0 : DS) (hs0 : Inv s0 0) (hx0 : s0.xf = 0) :
    Rch Try.prog (plOf pls) C ⟨[⟨6, 74, tmV rs c 0, [.code c6_26, .lp c6_26, .blk 0, .code c6_22], none, [], []⟩], layDR s0⟩ KB.IsT := by
  have hf := isA_flat hm
  obtain ⟨hle, hbl⟩ := lngA_few hlg
  refine loop_ind plsOk (α := {a : Nat × DS // a.1 ≤ rs.length ∧ Inv a.2 a.1 ∧ a.2.xf = 0}) (fun a => rs.length - a.1.1) (fun a => tmV rs c a.1.1) (fun a => layDR a.1.2) (fun _ => KB.IsT) ?_ ⟨(0, s0), Nat.zero_le _, hs0, hx0⟩
  rintro ⟨⟨i, s⟩, hi, hs, hx⟩ ih
  simp only at hi hs hx ih ⊢
  by_cases h : (i : Int) < rs.length
  · have e := isA_row hm (i := i) (by omega)
    have hb := hbl i (by omega)
    have hn := hN i (by omega)
    generalize aK (atA rs i) = k at *
    generalize aN (atA rs i) = n at *
    generalize aB (atA rs i) = b at *
    generalize aC (atA rs i) = cb at *
    have hnum := hs.num (by omega)
    have hb6 : b.length ≤ 1000000 := by omega
    obtain ⟨ha, hax⟩ := act_inv (k := k) hs hb hn hx
    have hnx := ih ⟨(i + 1, dAct s k n b), by simp only; omega, ha, hax⟩ (by simp only; omega)
    have hnum' := ha.num (by omega)
    simp only at hnx
    clear ih ha
    generalize hd : dAct s k n b = s' at *
    obtain ⟨l, f, x, xf, room, m, u, out⟩ := s
    obtain ⟨l', f', x', xf', room', m', u', out'⟩ := s'
    simp only at hx hax hnum hnum'
    subst hx hax
    by_cases h9 : k = 9
    · subst h9
      cases u with
      | none =>
        cases u' with
        | none =>
          simp only [tmV, layDR, fu6, fuL, lfO]
          refine ExQ_ok [] 4000 plsOk kV_ok ?_
          (try rw [exh]); simp (maxSteps := 4000000) only [kV, kV0, ktO, ktW, kDk, kRk, objK, objB, updT, mapB, rhoN, mrk, readK, osDoes, osAlike, DD.findDR, DD.layDR, DD.fu6, findD, DW.osR, DW.osK, mWipe, dWipe, cpV, cpX, layD, fuP, fuL, lfO, shB, hnum, List.append_nil, List.nodup_cons, List.mem_cons, List.not_mem_nil, List.take_succ_cons, List.take_zero, not_false_eq_true, List.drop_zero, hnum', h, e, hd, stops, inK, stepF, frsF, frF, itemF, codeF, condF, opsF, opsW, opF, callO, wtS, gdst, gdl, sopF, pv, bltF, callF, calleeS, p_move, p_assign, p_pick, p_binOp, p_unOp, p_fieldAddr, p_indexAddr, p_len, l_load, SY.get, SY.put, SY.ev, SY.mk, SY.nth, SY.lvl, SY.setl, dr, tk, at1, pack, rdC, ar, bopInt, bopEq, isPtr, bop, pickAV, killL, AV.scal, exq_go, exq_t, exq_f, ↓reduceIte, Nat.reduceLT, Nat.reduceEqDiff, Nat.reduceAdd, Nat.reduceSub, Bool.and_true, Bool.true_and, Bool.not_false, Bool.not_true, reduceCtorEq, true_and, List.map_cons, List.map_nil, Bool.and_self, List.drop_succ_cons, List.drop_zero, List.length_cons, List.length_nil, List.cons_append, List.nil_append, List.append_nil, Nat.zero_add, Nat.add_zero, Int.toNat_natCast, Int.reduceLE, decide_true, ktOf, alive, shB, ren, renL, renCt, not_false_eq_true, ti3, ti24, ti39, ti42, regAt, body6, Try.f6, ↓exq_cd cd_c6_26, ↓exq_cd cd_c6_27, ↓exq_cd cd_c6_29, ↓exq_cd cd_c6_30, ↓exq_cd cd_c6_28, ↓exq_cd cd_c6_32, ↓exq_cd cd_c6_34, ↓exq_cd cd_c6_35, ↓exq_cd cd_c6_37, ↓exq_cd cd_c6_38, ↓exq_cd cd_c6_39, ↓exq_cd cd_c6_41, ↓exq_cd cd_c6_42, ↓exq_cd cd_c6_43, ↓exq_cd cd_c6_44, ↓exq_cd cd_c6_36, ↓exq_cd cd_c6_45, ↓exq_cd cd_c6_46, ↓exq_cd cd_c6_33, r6_29, r6_37, r6_41, r6_43, r6_44, r6_45, r6_33]
          repeat (refine And.intro (a := (_ = true)) (by first | (simp; done) | (simp; omega)) ?_)
          refine Rch.fit1 hC [6, 1, 12, 13, 14, 15] (tm' := tmV rs c (i + 1)) (bl' := layDR ⟨l', f', x', 0, room', m', none, out'⟩) rfl (by decide) rfl ⟨rfl, rfl, rfl, congrArg (fun x => AV.imr false 3 x c) (hf.ren _).symm, trivial⟩ (tmV_lv hf ..) ⟨⟨rfl, rfl⟩, ⟨rfl, rfl⟩, ⟨rfl, rfl⟩, ⟨rfl, rfl⟩, ⟨rfl, rfl⟩, ⟨rfl, rfl⟩, trivial⟩ ?_
          exact hnx
        | some w' =>
          simp only [tmV, layDR, fu6, fuL, lfO]
          refine ExQ_ok [] 4000 plsOk kV_ok ?_
          (try rw [exh]); simp (maxSteps := 4000000) only [kV, kV0, ktO, ktW, kDk, kRk, objK, objB, updT, mapB, rhoN, mrk, readK, osDoes, osAlike, DD.findDR, DD.layDR, DD.fu6, findD, DW.osR, DW.osK, mWipe, dWipe, cpV, cpX, layD, fuP, fuL, lfO, shB, hnum, List.append_nil, List.nodup_cons, List.mem_cons, List.not_mem_nil, List.take_succ_cons, List.take_zero, not_false_eq_true, List.drop_zero, hnum', h, e, hd, stops, inK, stepF, frsF, frF, itemF, codeF, condF, opsF, opsW, opF, callO, wtS, gdst, gdl, sopF, pv, bltF, callF, calleeS, p_move, p_assign, p_pick, p_binOp, p_unOp, p_fieldAddr, p_indexAddr, p_len, l_load, SY.get, SY.put, SY.ev, SY.mk, SY.nth, SY.lvl, SY.setl, dr, tk, at1, pack, rdC, ar, bopInt, bopEq, isPtr, bop, pickAV, killL, AV.scal, exq_go, exq_t, exq_f, ↓reduceIte, Nat.reduceLT, Nat.reduceEqDiff, Nat.reduceAdd, Nat.reduceSub, Bool.and_true, Bool.true_and, Bool.not_false, Bool.not_true, reduceCtorEq, true_and, List.map_cons, List.map_nil, Bool.and_self, List.drop_succ_cons, List.drop_zero, List.length_cons, List.length_nil, List.cons_append, List.nil_append, List.append_nil, Nat.zero_add, Nat.add_zero, Int.toNat_natCast, Int.reduceLE, decide_true, ktOf, alive, shB, ren, renL, renCt, not_false_eq_true, ti3, ti24, ti39, ti42, regAt, body6, Try.f6, ↓exq_cd cd_c6_26, ↓exq_cd cd_c6_27, ↓exq_cd cd_c6_29, ↓exq_cd cd_c6_30, ↓exq_cd cd_c6_28, ↓exq_cd cd_c6_32, ↓exq_cd cd_c6_34, ↓exq_cd cd_c6_35, ↓exq_cd cd_c6_37, ↓exq_cd cd_c6_38, ↓exq_cd cd_c6_39, ↓exq_cd cd_c6_41, ↓exq_cd cd_c6_42, ↓exq_cd cd_c6_43, ↓exq_cd cd_c6_44, ↓exq_cd cd_c6_36, ↓exq_cd cd_c6_45, ↓exq_cd cd_c6_46, ↓exq_cd cd_c6_33, r6_29, r6_37, r6_41, r6_43, r6_44, r6_45, r6_33]
          repeat (refine And.intro (a := (_ = true)) (by first | (simp; done) | (simp; omega)) ?_)
          refine Rch.fit1 hC [6, 1, 12, 13, 14, 15, 16] (tm' := tmV rs c (i + 1)) (bl' := layDR ⟨l', f', x', 0, room', m', some w', out'⟩) rfl (by decide) rfl ⟨rfl, rfl, rfl, congrArg (fun x => AV.imr false 3 x c) (hf.ren _).symm, trivial⟩ (tmV_lv hf ..) ⟨⟨rfl, rfl⟩, ⟨rfl, rfl⟩, ⟨rfl, rfl⟩, ⟨rfl, rfl⟩, ⟨rfl, rfl⟩, ⟨rfl, rfl⟩, ⟨rfl, rfl⟩, trivial⟩ ?_
          exact hnx
      | some w =>
        have hw : ¬ w < 0 ∧ -1 ≤ w := by
          simp only [numOk, fuOk, Bool.and_eq_true, decide_eq_true_eq] at hnum
          omega
        obtain ⟨hw, hw1⟩ := hw
        cases u' with
        | none =>
          simp only [tmV, layDR, fu6, fuL, lfO]
          refine ExQ_ok [] 4000 plsOk kV_ok ?_
          (try rw [exh]); simp (maxSteps := 4000000) only [kV, kV0, ktO, ktW, kDk, kRk, objK, objB, updT, mapB, rhoN, mrk, readK, osDoes, osAlike, DD.findDR, DD.layDR, DD.fu6, findD, DW.osR, DW.osK, mWipe, dWipe, cpV, cpX, layD, fuP, fuL, lfO, shB, hnum, List.append_nil, List.nodup_cons, List.mem_cons, List.not_mem_nil, List.take_succ_cons, List.take_zero, not_false_eq_true, List.drop_zero, hnum', h, e, hd, stops, inK, stepF, frsF, frF, itemF, codeF, condF, opsF, opsW, opF, callO, wtS, gdst, gdl, sopF, pv, bltF, callF, calleeS, p_move, p_assign, p_pick, p_binOp, p_unOp, p_fieldAddr, p_indexAddr, p_len, l_load, SY.get, SY.put, SY.ev, SY.mk, SY.nth, SY.lvl, SY.setl, dr, tk, at1, pack, rdC, ar, bopInt, bopEq, isPtr, bop, pickAV, killL, AV.scal, exq_go, exq_t, exq_f, ↓reduceIte, Nat.reduceLT, Nat.reduceEqDiff, Nat.reduceAdd, Nat.reduceSub, Bool.and_true, Bool.true_and, Bool.not_false, Bool.not_true, reduceCtorEq, true_and, List.map_cons, List.map_nil, Bool.and_self, List.drop_succ_cons, List.drop_zero, List.length_cons, List.length_nil, List.cons_append, List.nil_append, List.append_nil, Nat.zero_add, Nat.add_zero, Int.toNat_natCast, Int.reduceLE, decide_true, ktOf, alive, shB, ren, renL, renCt, not_false_eq_true, ti3, ti24, ti39, ti42, regAt, body6, Try.f6, ↓exq_cd cd_c6_26, ↓exq_cd cd_c6_27, ↓exq_cd cd_c6_29, ↓exq_cd cd_c6_30, ↓exq_cd cd_c6_28, ↓exq_cd cd_c6_32, ↓exq_cd cd_c6_34, ↓exq_cd cd_c6_35, ↓exq_cd cd_c6_37, ↓exq_cd cd_c6_38, ↓exq_cd cd_c6_39, ↓exq_cd cd_c6_41, ↓exq_cd cd_c6_42, ↓exq_cd cd_c6_43, ↓exq_cd cd_c6_44, ↓exq_cd cd_c6_36, ↓exq_cd cd_c6_45, ↓exq_cd cd_c6_46, ↓exq_cd cd_c6_33, r6_29, r6_37, r6_41, r6_43, r6_44, r6_45, r6_33]
          repeat (refine And.intro (a := (_ = true)) (by first | (simp; done) | (simp; omega)) ?_)
          refine Rch.fit1 hC [7, 1, 14, 15, 16, 17] (tm' := tmV rs c (i + 1)) (bl' := layDR ⟨l', f', x', 0, room', m', none, out'⟩) rfl (by decide) rfl ⟨rfl, rfl, rfl, congrArg (fun x => AV.imr false 3 x c) (hf.ren _).symm, trivial⟩ (tmV_lv hf ..) ⟨⟨rfl, rfl⟩, ⟨rfl, rfl⟩, ⟨rfl, rfl⟩, ⟨rfl, rfl⟩, ⟨rfl, rfl⟩, ⟨rfl, rfl⟩, trivial⟩ ?_
          exact hnx
        | some w' =>
          simp only [tmV, layDR, fu6, fuL, lfO]
          refine ExQ_ok [] 4000 plsOk kV_ok ?_
          (try rw [exh]); simp (maxSteps := 4000000) only [kV, kV0, ktO, ktW, kDk, kRk, objK, objB, updT, mapB, rhoN, mrk, readK, osDoes, osAlike, DD.findDR, DD.layDR, DD.fu6, findD, DW.osR, DW.osK, mWipe, dWipe, cpV, cpX, layD, fuP, fuL, lfO, shB, hnum, List.append_nil, List.nodup_cons, List.mem_cons, List.not_mem_nil, List.take_succ_cons, List.take_zero, not_false_eq_true, List.drop_zero, hnum', h, e, hd, stops, inK, stepF, frsF, frF, itemF, codeF, condF, opsF, opsW, opF, callO, wtS, gdst, gdl, sopF, pv, bltF, callF, calleeS, p_move, p_assign, p_pick, p_binOp, p_unOp, p_fieldAddr, p_indexAddr, p_len, l_load, SY.get, SY.put, SY.ev, SY.mk, SY.nth, SY.lvl, SY.setl, dr, tk, at1, pack, rdC, ar, bopInt, bopEq, isPtr, bop, pickAV, killL, AV.scal, exq_go, exq_t, exq_f, ↓reduceIte, Nat.reduceLT, Nat.reduceEqDiff, Nat.reduceAdd, Nat.reduceSub, Bool.and_true, Bool.true_and, Bool.not_false, Bool.not_true, reduceCtorEq, true_and, List.map_cons, List.map_nil, Bool.and_self, List.drop_succ_cons, List.drop_zero, List.length_cons, List.length_nil, List.cons_append, List.nil_append, List.append_nil, Nat.zero_add, Nat.add_zero, Int.toNat_natCast, Int.reduceLE, decide_true, ktOf, alive, shB, ren, renL, renCt, not_false_eq_true, ti3, ti24, ti39, ti42, regAt, body6, Try.f6, ↓exq_cd cd_c6_26, ↓exq_cd cd_c6_27, ↓exq_cd cd_c6_29, ↓exq_cd cd_c6_30, ↓exq_cd cd_c6_28, ↓exq_cd cd_c6_32, ↓exq_cd cd_c6_34, ↓exq_cd cd_c6_35, ↓exq_cd cd_c6_37, ↓exq_cd cd_c6_38, ↓exq_cd cd_c6_39, ↓exq_cd cd_c6_41, ↓exq_cd cd_c6_42, ↓exq_cd cd_c6_43, ↓exq_cd cd_c6_44, ↓exq_cd cd_c6_36, ↓exq_cd cd_c6_45, ↓exq_cd cd_c6_46, ↓exq_cd cd_c6_33, r6_29, r6_37, r6_41, r6_43, r6_44, r6_45, r6_33]
          repeat (refine And.intro (a := (_ = true)) (by first | (simp; done) | (simp; omega)) ?_)
          refine Rch.fit1 hC [7, 1, 14, 15, 16, 17, 18] (tm' := tmV rs c (i + 1)) (bl' := layDR ⟨l', f', x', 0, room', m', some w', out'⟩) rfl (by decide) rfl ⟨rfl, rfl, rfl, congrArg (fun x => AV.imr false 3 x c) (hf.ren _).symm, trivial⟩ (tmV_lv hf ..) ⟨⟨rfl, rfl⟩, ⟨rfl, rfl⟩, ⟨rfl, rfl⟩, ⟨rfl, rfl⟩, ⟨rfl, rfl⟩, ⟨rfl, rfl⟩, ⟨rfl, rfl⟩, trivial⟩ ?_
          exact hnx
    · cases u with
      | none =>
        cases u' with
        | none =>
          simp only [tmV, layDR, fu6, fuL, lfO]
          refine ExQ_ok [] 4000 plsOk kV_ok ?_
          (try rw [exh]); simp (maxSteps := 4000000) only [kV, kV0, ktO, ktW, kDk, kRk, objK, objB, updT, mapB, rhoN, mrk, readK, osDoes, osAlike, DD.findDR, DD.layDR, DD.fu6, fuL, lfO, hnum, List.append_nil, List.nodup_cons, List.mem_cons, List.not_mem_nil, List.take_succ_cons, List.take_zero, not_false_eq_true, List.drop_zero, hnum', h, e, hd, h9, stops, inK, stepF, frsF, frF, itemF, codeF, condF, opsF, opsW, opF, callO, wtS, gdst, gdl, sopF, pv, bltF, callF, calleeS, p_move, p_assign, p_pick, p_binOp, p_unOp, p_fieldAddr, p_indexAddr, p_len, l_load, SY.get, SY.put, SY.ev, SY.mk, SY.nth, SY.lvl, SY.setl, dr, tk, at1, pack, rdC, ar, bopInt, bopEq, isPtr, bop, pickAV, killL, AV.scal, exq_go, exq_t, exq_f, ↓reduceIte, Nat.reduceLT, Nat.reduceEqDiff, Nat.reduceAdd, Nat.reduceSub, Bool.and_true, Bool.true_and, Bool.not_false, Bool.not_true, reduceCtorEq, true_and, List.map_cons, List.map_nil, Bool.and_self, List.drop_succ_cons, List.drop_zero, List.length_cons, List.length_nil, List.cons_append, List.nil_append, List.append_nil, Nat.zero_add, Nat.add_zero, Int.toNat_natCast, Int.reduceLE, decide_true, decide_false, ktOf, alive, ren, renL, renCt, not_false_eq_true, ti3, ti24, ti39, ti42, regAt, body6, Try.f6, ↓exq_cd cd_c6_26, ↓exq_cd cd_c6_27, ↓exq_cd cd_c6_29, ↓exq_cd cd_c6_30, ↓exq_cd cd_c6_28, ↓exq_cd cd_c6_32, ↓exq_cd cd_c6_34, ↓exq_cd cd_c6_35, ↓exq_cd cd_c6_37, ↓exq_cd cd_c6_38, ↓exq_cd cd_c6_36, ↓exq_cd cd_c6_45, ↓exq_cd cd_c6_46, ↓exq_cd cd_c6_33, r6_29, r6_37, r6_45, r6_33]
          repeat (refine And.intro (a := (_ = true)) (by first | (simp; done) | (simp; omega)) ?_)
          refine Rch.fit1 hC [0, 1, 6, 7, 8, 9] (tm' := tmV rs c (i + 1)) (bl' := layDR ⟨l', f', x', 0, room', m', none, out'⟩) rfl (by decide) rfl ⟨rfl, rfl, rfl, congrArg (fun x => AV.imr false 3 x c) (hf.ren _).symm, trivial⟩ (tmV_lv hf ..) ⟨⟨rfl, rfl⟩, ⟨rfl, rfl⟩, ⟨rfl, rfl⟩, ⟨rfl, rfl⟩, ⟨rfl, rfl⟩, ⟨rfl, rfl⟩, trivial⟩ ?_
          exact hnx
        | some w' =>
          simp only [tmV, layDR, fu6, fuL, lfO]
          refine ExQ_ok [] 4000 plsOk kV_ok ?_
          (try rw [exh]); simp (maxSteps := 4000000) only [kV, kV0, ktO, ktW, kDk, kRk, objK, objB, updT, mapB, rhoN, mrk, readK, osDoes, osAlike, DD.findDR, DD.layDR, DD.fu6, fuL, lfO, hnum, List.append_nil, List.nodup_cons, List.mem_cons, List.not_mem_nil, List.take_succ_cons, List.take_zero, not_false_eq_true, List.drop_zero, hnum', h, e, hd, h9, stops, inK, stepF, frsF, frF, itemF, codeF, condF, opsF, opsW, opF, callO, wtS, gdst, gdl, sopF, pv, bltF, callF, calleeS, p_move, p_assign, p_pick, p_binOp, p_unOp, p_fieldAddr, p_indexAddr, p_len, l_load, SY.get, SY.put, SY.ev, SY.mk, SY.nth, SY.lvl, SY.setl, dr, tk, at1, pack, rdC, ar, bopInt, bopEq, isPtr, bop, pickAV, killL, AV.scal, exq_go, exq_t, exq_f, ↓reduceIte, Nat.reduceLT, Nat.reduceEqDiff, Nat.reduceAdd, Nat.reduceSub, Bool.and_true, Bool.true_and, Bool.not_false, Bool.not_true, reduceCtorEq, true_and, List.map_cons, List.map_nil, Bool.and_self, List.drop_succ_cons, List.drop_zero, List.length_cons, List.length_nil, List.cons_append, List.nil_append, List.append_nil, Nat.zero_add, Nat.add_zero, Int.toNat_natCast, Int.reduceLE, decide_true, decide_false, ktOf, alive, ren, renL, renCt, not_false_eq_true, ti3, ti24, ti39, ti42, regAt, body6, Try.f6, ↓exq_cd cd_c6_26, ↓exq_cd cd_c6_27, ↓exq_cd cd_c6_29, ↓exq_cd cd_c6_30, ↓exq_cd cd_c6_28, ↓exq_cd cd_c6_32, ↓exq_cd cd_c6_34, ↓exq_cd cd_c6_35, ↓exq_cd cd_c6_37, ↓exq_cd cd_c6_38, ↓exq_cd cd_c6_36, ↓exq_cd cd_c6_45, ↓exq_cd cd_c6_46, ↓exq_cd cd_c6_33, r6_29, r6_37, r6_45, r6_33]
          repeat (refine And.intro (a := (_ = true)) (by first | (simp; done) | (simp; omega)) ?_)
          refine Rch.fit1 hC [0, 1, 6, 7, 8, 9, 10] (tm' := tmV rs c (i + 1)) (bl' := layDR ⟨l', f', x', 0, room', m', some w', out'⟩) rfl (by decide) rfl ⟨rfl, rfl, rfl, congrArg (fun x => AV.imr false 3 x c) (hf.ren _).symm, trivial⟩ (tmV_lv hf ..) ⟨⟨rfl, rfl⟩, ⟨rfl, rfl⟩, ⟨rfl, rfl⟩, ⟨rfl, rfl⟩, ⟨rfl, rfl⟩, ⟨rfl, rfl⟩, ⟨rfl, rfl⟩, trivial⟩ ?_
          exact hnx
      | some w =>
        have hw : ¬ w < 0 ∧ -1 ≤ w := by
          simp only [numOk, fuOk, Bool.and_eq_true, decide_eq_true_eq] at hnum
          omega
        obtain ⟨hw, hw1⟩ := hw
        cases u' with
        | none =>
          simp only [tmV, layDR, fu6, fuL, lfO]
          refine ExQ_ok [] 4000 plsOk kV_ok ?_
          (try rw [exh]); simp (maxSteps := 4000000) only [kV, kV0, ktO, ktW, kDk, kRk, objK, objB, updT, mapB, rhoN, mrk, readK, osDoes, osAlike, DD.findDR, DD.layDR, DD.fu6, fuL, lfO, hnum, List.append_nil, List.nodup_cons, List.mem_cons, List.not_mem_nil, List.take_succ_cons, List.take_zero, not_false_eq_true, List.drop_zero, hnum', h, e, hd, h9, stops, inK, stepF, frsF, frF, itemF, codeF, condF, opsF, opsW, opF, callO, wtS, gdst, gdl, sopF, pv, bltF, callF, calleeS, p_move, p_assign, p_pick, p_binOp, p_unOp, p_fieldAddr, p_indexAddr, p_len, l_load, SY.get, SY.put, SY.ev, SY.mk, SY.nth, SY.lvl, SY.setl, dr, tk, at1, pack, rdC, ar, bopInt, bopEq, isPtr, bop, pickAV, killL, AV.scal, exq_go, exq_t, exq_f, ↓reduceIte, Nat.reduceLT, Nat.reduceEqDiff, Nat.reduceAdd, Nat.reduceSub, Bool.and_true, Bool.true_and, Bool.not_false, Bool.not_true, reduceCtorEq, true_and, List.map_cons, List.map_nil, Bool.and_self, List.drop_succ_cons, List.drop_zero, List.length_cons, List.length_nil, List.cons_append, List.nil_append, List.append_nil, Nat.zero_add, Nat.add_zero, Int.toNat_natCast, Int.reduceLE, decide_true, decide_false, ktOf, alive, ren, renL, renCt, not_false_eq_true, ti3, ti24, ti39, ti42, regAt, body6, Try.f6, ↓exq_cd cd_c6_26, ↓exq_cd cd_c6_27, ↓exq_cd cd_c6_29, ↓exq_cd cd_c6_30, ↓exq_cd cd_c6_28, ↓exq_cd cd_c6_32, ↓exq_cd cd_c6_34, ↓exq_cd cd_c6_35, ↓exq_cd cd_c6_37, ↓exq_cd cd_c6_38, ↓exq_cd cd_c6_36, ↓exq_cd cd_c6_45, ↓exq_cd cd_c6_46, ↓exq_cd cd_c6_33, r6_29, r6_37, r6_45, r6_33]
          repeat (refine And.intro (a := (_ = true)) (by first | (simp; done) | (simp; omega)) ?_)
          refine Rch.fit1 hC [0, 1, 7, 8, 9, 10] (tm' := tmV rs c (i + 1)) (bl' := layDR ⟨l', f', x', 0, room', m', none, out'⟩) rfl (by decide) rfl ⟨rfl, rfl, rfl, congrArg (fun x => AV.imr false 3 x c) (hf.ren _).symm, trivial⟩ (tmV_lv hf ..) ⟨⟨rfl, rfl⟩, ⟨rfl, rfl⟩, ⟨rfl, rfl⟩, ⟨rfl, rfl⟩, ⟨rfl, rfl⟩, ⟨rfl, rfl⟩, trivial⟩ ?_
          exact hnx
        | some w' =>
          simp only [tmV, layDR, fu6, fuL, lfO]
          refine ExQ_ok [] 4000 plsOk kV_ok ?_
          (try rw [exh]); simp (maxSteps := 4000000) only [kV, kV0, ktO, ktW, kDk, kRk, objK, objB, updT, mapB, rhoN, mrk, readK, osDoes, osAlike, DD.findDR, DD.layDR, DD.fu6, fuL, lfO, hnum, List.append_nil, List.nodup_cons, List.mem_cons, List.not_mem_nil, List.take_succ_cons, List.take_zero, not_false_eq_true, List.drop_zero, hnum', h, e, hd, h9, stops, inK, stepF, frsF, frF, itemF, codeF, condF, opsF, opsW, opF, callO, wtS, gdst, gdl, sopF, pv, bltF, callF, calleeS, p_move, p_assign, p_pick, p_binOp, p_unOp, p_fieldAddr, p_indexAddr, p_len, l_load, SY.get, SY.put, SY.ev, SY.mk, SY.nth, SY.lvl, SY.setl, dr, tk, at1, pack, rdC, ar, bopInt, bopEq, isPtr, bop, pickAV, killL, AV.scal, exq_go, exq_t, exq_f, ↓reduceIte, Nat.reduceLT, Nat.reduceEqDiff, Nat.reduceAdd, Nat.reduceSub, Bool.and_true, Bool.true_and, Bool.not_false, Bool.not_true, reduceCtorEq, true_and, List.map_cons, List.map_nil, Bool.and_self, List.drop_succ_cons, List.drop_zero, List.length_cons, List.length_nil, List.cons_append, List.nil_append, List.append_nil, Nat.zero_add, Nat.add_zero, Int.toNat_natCast, Int.reduceLE, decide_true, decide_false, ktOf, alive, ren, renL, renCt, not_false_eq_true, ti3, ti24, ti39, ti42, regAt, body6, Try.f6, ↓exq_cd cd_c6_26, ↓exq_cd cd_c6_27, ↓exq_cd cd_c6_29, ↓exq_cd cd_c6_30, ↓exq_cd cd_c6_28, ↓exq_cd cd_c6_32, ↓exq_cd cd_c6_34, ↓exq_cd cd_c6_35, ↓exq_cd cd_c6_37, ↓exq_cd cd_c6_38, ↓exq_cd cd_c6_36, ↓exq_cd cd_c6_45, ↓exq_cd cd_c6_46, ↓exq_cd cd_c6_33, r6_29, r6_37, r6_45, r6_33]
          repeat (refine And.intro (a := (_ = true)) (by first | (simp; done) | (simp; omega)) ?_)
          refine Rch.fit1 hC [0, 1, 7, 8, 9, 10, 11] (tm' := tmV rs c (i + 1)) (bl' := layDR ⟨l', f', x', 0, room', m', some w', out'⟩) rfl (by decide) rfl ⟨rfl, rfl, rfl, congrArg (fun x => AV.imr false 3 x c) (hf.ren _).symm, trivial⟩ (tmV_lv hf ..) ⟨⟨rfl, rfl⟩, ⟨rfl, rfl⟩, ⟨rfl, rfl⟩, ⟨rfl, rfl⟩, ⟨rfl, rfl⟩, ⟨rfl, rfl⟩, ⟨rfl, rfl⟩, trivial⟩ ?_
          exact hnx
  · clear ih
    simp only [tmV]
    refine ExQ_ok [] 4000 plsOk kV_ok ?_
    (try rw [exh]); simp (maxSteps := 4000000) only [kV, kV0, kDk, kRk, ktO, ktW, specT, h, stops, stepF, frsF, frF, itemF, codeF, condF, opsF, opsW, opF, callO, stepS, wtS, sopF, pv, bltF, callF, calleeS, p_move, p_assign, p_binOp, p_len, SY.get, SY.put, SY.ev, bopInt, bop, leaveS, retS, exitS, killL, isDefs, resS, resAll, tup1, exq_go, exq_f, ↓reduceIte, Nat.reduceLT, Nat.reduceEqDiff, Nat.reduceAdd, true_and, List.map_nil, Bool.and_self, List.append_nil, decide_false, ktOf, conK, alive, lndL, lvB, okBls, shB, ren, ti3, ti39, regAt, fi6, body6, Try.f6, ↓exq_cd cd_c6_26, ↓exq_cd cd_c6_27, ↓exq_cd cd_c6_29, ↓exq_cd cd_c6_30, ↓exq_cd cd_c6_22, ↓exq_cd cd_c6_50, r6_29, r6_50]
    repeat (refine And.intro (a := (_ = true)) (by first | (simp; done) | (simp; omega)) ?_)
    exact rfl
set_option maxRecDepth 100000 in
set_option maxHeartbeats 8000000 in
theorem script_law (C : Ctx) (hC : C.β.b = []) (room : Int) (rs : List (List AV)) (hm : rs.all isA = true) (hN : ∀ i, i < rs.length → aN (atA rs i) ≤ 9223372036854775807) (hl : rs.length < 4611686018427387904) (c : Option Nat) :
    Rch Try.prog (plOf pls) C (conf0 6 ⟨74, [.tmp 4], code6⟩ [.v (.int .i64 room), .imr false 3 rs c] []) KB.IsT := by
  have hf := isA_flat hm
  by_cases hr : room < 0 ∨ 1000000 < room
  · refine ExQ_ok [] 4000 plsOk kV_ok ?_
    simp only [conf0]
    (try rw [exh]); simp (maxSteps := 4000000) only [kV, kV0, ktO, ktW, kDk, kRk, shB, specT, sNew, sNewR, List.append_nil, KB.btt, not_true_eq_false, hr, stops, stepF, frsF, frF, itemF, codeF, condF, opsF, opsW, opF, callO, stepS, wtS, gdst, gdl, sopF, pv, callF, calleeS, p_move, p_assign, p_pick, p_binOp, p_extract, SY.get, SY.put, SY.ev, SY.mk, SY.nth, SY.ini, bopInt, bopEq, isPtr, isBl, bop, pickAV, leaveS, retS, killL, isDefs, resS, resAll, tup1, exq_go, exq_t, exq_f, ↓reduceIte, Nat.reduceLT, Nat.reduceEqDiff, Nat.reduceAdd, Nat.reduceSub, Bool.not_false, Bool.not_true, Option.isNone_none, reduceCtorEq, true_and, List.map_cons, List.map_nil, Bool.and_self, List.nil_append, List.append_nil, Nat.zero_add, decide_false, ktOf, conK, alive, lndL, lnd, lvB, lvL, okBls, shB, ren, renL, not_true_eq_false, ti4, ti24, ti25, ti46, regAt, fi6, body6, Try.f6, ↓exq_cd cd_code6, ↓exq_cd cd_c6_1, ↓exq_cd cd_c6_2, ↓exq_cd cd_c6_3, ↓exq_cd cd_c6_4, ↓exq_cd cd_c6_5, ↓exq_cd cd_c6_6, ↓exq_cd cd_c6_7, ↓exq_cd cd_c6_9, ↓exq_cd cd_c6_10, ↓exq_cd cd_c6_8, ↓exq_cd cd_c6_14, ↓exq_cd cd_c6_16, ↓exq_cd cd_c6_17, ↓exq_cd cd_c6_18, ↓exq_cd cd_c6_20, r6_1, r6_3, r6_5, r6_9, r6_16, r6_20]
    repeat (refine And.intro (a := (_ = true)) (by first | (simp; done) | (simp; omega)) ?_)
    exact rfl
  cases hlg : lngA rs with
  | true =>
    refine ExQ_ok [] 4000 plsOk kV_ok ?_
    simp only [conf0]
    (try rw [exh]); simp (maxSteps := 4000000) only [kV, kV0, ktO, ktW, kDk, kRk, layD, layR, fuP, fuL, lfO, shB, specT, sNew, sNewR, DF.sLng, newD, List.append_nil, KB.bff, not_true_eq_false, hr, hf.lv, hm, hlg, stops, stepF, frsF, frF, itemF, codeF, condF, opsF, opsW, opF, callO, stepS, wtS, gdst, gdl, sopF, pv, callF, calleeS, p_move, p_assign, p_pick, p_binOp, p_extract, SY.get, SY.put, SY.ev, SY.mk, SY.nth, SY.ini, bopInt, bopEq, isPtr, isBl, bop, pickAV, leaveS, retS, killL, isDefs, resS, resAll, tup1, Ct.cell, exq_go, lvCt, exq_t, exq_f, ↓reduceIte, Nat.reduceLT, Nat.reduceEqDiff, Nat.reduceAdd, Nat.reduceSub, Bool.and_true, Bool.true_and, Bool.not_false, Bool.not_true, reduceCtorEq, true_and, List.map_cons, List.map_nil, Bool.and_self, List.length_cons, List.length_nil, List.cons_append, List.nil_append, List.append_nil, Nat.zero_add, Nat.add_zero, decide_true, decide_false, ktOf, conK, alive, lndL, lnd, lvB, lvL, tB_tt, okBls, shB, ren, renL, renCt, not_true_eq_false, ti4, ti24, ti25, ti46, regAt, fi6, body6, Try.f6, ↓exq_cd cd_code6, ↓exq_cd cd_c6_1, ↓exq_cd cd_c6_2, ↓exq_cd cd_c6_3, ↓exq_cd cd_c6_4, ↓exq_cd cd_c6_5, ↓exq_cd cd_c6_6, ↓exq_cd cd_c6_7, ↓exq_cd cd_c6_9, ↓exq_cd cd_c6_10, ↓exq_cd cd_c6_8, ↓exq_cd cd_c6_14, ↓exq_cd cd_c6_16, ↓exq_cd cd_c6_17, ↓exq_cd cd_c6_18, ↓exq_cd cd_c6_20, r6_1, r6_3, r6_5, r6_9, r6_16, r6_20]
    repeat (refine And.intro (a := (_ = true)) (by first | (simp; done) | (simp; omega)) ?_)
    exact rfl
  | false =>
    have hloop := script_loop C hC rs hm hN c hlg (newD room) ⟨by simp [newD], by simp [newD], by simp [newD], by simp [newD], by simp [newD], rfl⟩ rfl
    refine ExQ_ok [] 4000 plsOk kV_ok ?_
    simp only [conf0]
    (try rw [exh]); simp (maxSteps := 4000000) only [kV, kV0, ktO, ktW, kDk, kRk, layD, layR, fuP, fuL, lfO, shB, sNew, sNewR, DF.sLng, newD, List.append_nil, KB.bff, not_true_eq_false, hr, hf.lv, hm, hlg, stops, inK, stepF, frsF, frF, itemF, codeF, condF, opsF, opsW, opF, callO, wtS, gdst, gdl, sopF, pv, callF, calleeS, p_move, p_assign, p_pick, p_binOp, p_extract, SY.get, SY.put, SY.ev, SY.mk, SY.nth, SY.ini, bopInt, bopEq, isPtr, isBl, bop, pickAV, Ct.cell, exq_go, lvCt, exq_f, ↓reduceIte, Nat.reduceLT, Nat.reduceEqDiff, Nat.reduceAdd, Nat.reduceSub, Bool.and_true, Bool.true_and, Bool.not_false, Bool.not_true, reduceCtorEq, true_and, List.map_cons, List.map_nil, Bool.and_self, List.length_cons, List.length_nil, List.cons_append, List.nil_append, List.append_nil, Nat.zero_add, Nat.add_zero, Int.reduceLE, decide_true, decide_false, ktOf, conK, alive, lndL, lnd, lvB, lvL, tB_tt, okBls, shB, ren, renL, renCt, not_true_eq_false, ti4, ti24, ti25, ti46, regAt, body6, Try.f6, ↓exq_cd cd_code6, ↓exq_cd cd_c6_1, ↓exq_cd cd_c6_2, ↓exq_cd cd_c6_3, ↓exq_cd cd_c6_4, ↓exq_cd cd_c6_5, ↓exq_cd cd_c6_6, ↓exq_cd cd_c6_7, ↓exq_cd cd_c6_9, ↓exq_cd cd_c6_10, ↓exq_cd cd_c6_8, ↓exq_cd cd_c6_14, ↓exq_cd cd_c6_16, ↓exq_cd cd_c6_17, ↓exq_cd cd_c6_15, ↓exq_cd cd_c6_21, ↓exq_cd cd_c6_23, ↓exq_cd cd_c6_24, ↓exq_cd cd_c6_25, r6_1, r6_3, r6_5, r6_9, r6_16, r6_23]
    repeat (refine And.intro (a := (_ = true)) (by first | (simp; done) | (simp; omega)) ?_)
    refine Rch.loop plsOk ?_
    refine Rch.fit1 hC [0, 3, 1, 2, 4, 5] (tm' := tmV rs c 0) (bl' := layDR (newD room)) rfl (by decide) rfl ⟨rfl, rfl, rfl, congrArg (fun x => AV.imr false 3 x c) (hf.ren _).symm, trivial⟩ (tmV_lv hf ..) ⟨⟨rfl, rfl⟩, ⟨rfl, rfl⟩, ⟨rfl, rfl⟩, ⟨rfl, rfl⟩, ⟨rfl, rfl⟩, ⟨rfl, rfl⟩, trivial⟩ ?_
    exact hloop
end DSC
end Go.Proofs.Ytmdepmhamefheaa
