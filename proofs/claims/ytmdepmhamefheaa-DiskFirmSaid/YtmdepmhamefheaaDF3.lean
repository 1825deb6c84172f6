/- DiskFirm: its loop, its law. -/
import Derived.Test.YtmdepmhamefheaaDF2
set_option linter.unusedSimpArgs false
set_option linter.unusedVariables false
-- FUNCTIONS 5
namespace Go.Proofs.Ytmdepmhamefheaa
open Go Go.SY
namespace DF
open DW
theorem firm_rest (C : Ctx) (hC : C.β.b = []) (rs : List (List AV)) (hf : FlatR rs) (c : Option Nat) (i : Nat) (s s' : DS) (k n : Int) (b : List Int) (cb : Option Nat) (hb : b.length ≤ 200) (hs : Inv s i) (ha : Act s s' i k n b) (hi : i ≤ 60)
    (hnx : Rch Try.prog (plOf pls) C ⟨[⟨5, 146, tmF rs c s'.l.length (i + 1) s'.f, [.lp c5_30, .blk 0, .code c5_26], none, [], []⟩], layF s'⟩ KB.IsT) :
    Rch Try.prog (plOf pls) C ⟨[⟨5, 146, tmB rs c s.l.length i s.f, [.code c5_49, .blk 1, .code c5_37, .lp c5_30, .blk 0, .code c5_26], none, [], []⟩], layB s.l k n b cb s'⟩ KB.IsT := by
  have hnum := ha.inv.num (by omega)
  have hf0 := ha.f
  have hf1 := ha.inv.f1
  have hf2 := hs.f1
  have hlg : s.l.length ≤ 20000 := by have := hs.sz; omega
  have hi' : i ≤ 1000 := by omega
  obtain ⟨l', f, x, xf, room, m, u, out⟩ := s'
  have happ := ha.app
  have hcr := ha.crash
  have hsm := ha.same
  simp only at hnum hf0 hf1 hnx happ hcr hsm
  clear ha
  obtain ⟨lg, fs, xs, xfs, rooms, ms, us, outs⟩ := s
  simp only at hf0 hf2 hlg hnum happ hcr hsm ⊢
  clear hs
  by_cases h0 : k = 0
  · subst h0
    have hap : l' = lg ∨ (0 < b.length ∧ l' = lg ++ b) := by
      rcases happ (by omega) with h | h
      · exact .inl h
      · rcases Nat.eq_zero_or_pos b.length with h0 | h0
        · exact .inl (by rw [h, List.length_eq_zero_iff.1 h0, List.append_nil])
        · exact .inr ⟨h0, h⟩
    rcases hap with rfl | ⟨h0, rfl⟩
    · cases u with
      | none =>
        cases out with
        | true => exact rA0e0t C hC rs hf c i fs _ n b cb f x xf room m hnum hi' hlg hf0 hf2 hf1 hnx
        | false => exact rA0e0f C hC rs hf c i fs _ n b cb f x xf room m hnum hi' hlg hf0 hf2 hf1 hnx
      | some w =>
        cases out with
        | true => exact rA0e1t C hC rs hf c i fs _ n b cb f x xf room m w hnum hi' hlg hf0 hf2 hf1 hnx
        | false => exact rA0e1f C hC rs hf c i fs _ n b cb f x xf room m w hnum hi' hlg hf0 hf2 hf1 hnx
    · cases u with
      | none =>
        cases out with
        | true => exact rA0g0t C hC rs hf c i fs _ n b cb f x xf room m h0 hb hnum hi' hlg hf0 hf2 hf1 hnx
        | false => exact rA0g0f C hC rs hf c i fs _ n b cb f x xf room m h0 hb hnum hi' hlg hf0 hf2 hf1 hnx
      | some w =>
        cases out with
        | true => exact rA0g1t C hC rs hf c i fs _ n b cb f x xf room m w h0 hb hnum hi' hlg hf0 hf2 hf1 hnx
        | false => exact rA0g1f C hC rs hf c i fs _ n b cb f x xf room m w h0 hb hnum hi' hlg hf0 hf2 hf1 hnx
  by_cases h1 : k = 1
  · subst h1
    have hap : l' = lg ∨ (0 < b.length ∧ l' = lg ++ b) := by
      rcases happ (by omega) with h | h
      · exact .inl h
      · rcases Nat.eq_zero_or_pos b.length with h0 | h0
        · exact .inl (by rw [h, List.length_eq_zero_iff.1 h0, List.append_nil])
        · exact .inr ⟨h0, h⟩
    rcases hap with rfl | ⟨h0, rfl⟩
    · cases u with
      | none =>
        cases out with
        | true => exact rA1e0t C hC rs hf c i fs _ n b cb f x xf room m hnum hi' hlg hf0 hf2 hf1 hnx
        | false => exact rA1e0f C hC rs hf c i fs _ n b cb f x xf room m hnum hi' hlg hf0 hf2 hf1 hnx
      | some w =>
        cases out with
        | true => exact rA1e1t C hC rs hf c i fs _ n b cb f x xf room m w hnum hi' hlg hf0 hf2 hf1 hnx
        | false => exact rA1e1f C hC rs hf c i fs _ n b cb f x xf room m w hnum hi' hlg hf0 hf2 hf1 hnx
    · cases u with
      | none =>
        cases out with
        | true => exact rA1g0t C hC rs hf c i fs _ n b cb f x xf room m h0 hb hnum hi' hlg hf0 hf2 hf1 hnx
        | false => exact rA1g0f C hC rs hf c i fs _ n b cb f x xf room m h0 hb hnum hi' hlg hf0 hf2 hf1 hnx
      | some w =>
        cases out with
        | true => exact rA1g1t C hC rs hf c i fs _ n b cb f x xf room m w h0 hb hnum hi' hlg hf0 hf2 hf1 hnx
        | false => exact rA1g1f C hC rs hf c i fs _ n b cb f x xf room m w h0 hb hnum hi' hlg hf0 hf2 hf1 hnx
  by_cases h7 : k = 7
  · subst h7
    by_cases hn0 : 0 ≤ n
    · obtain ⟨M, hM, rfl, hfM, rfl⟩ := hcr rfl hn0
      cases u with
      | none => exact rB0f C hC rs hf c i fs lg n b cb f x xf room m M hM hfM hn0 hnum hi' hlg hf0 hf2 hf1 hnx
      | some w => exact rB1f C hC rs hf c i fs lg n b cb f x xf room m w M hM hfM hn0 hnum hi' hlg hf0 hf2 hf1 hnx
    · obtain rfl := hsm (by omega) (fun h => hn0 h.2)
      cases u with
      | none =>
        cases out with
        | true => exact rD0t C hC rs hf c i fs _ n b cb f x xf room m (by omega) hnum hi' hlg hf0 hf2 hf1 hnx
        | false => exact rD0f C hC rs hf c i fs _ n b cb f x xf room m (by omega) hnum hi' hlg hf0 hf2 hf1 hnx
      | some w =>
        cases out with
        | true => exact rD1t C hC rs hf c i fs _ n b cb f x xf room m w (by omega) hnum hi' hlg hf0 hf2 hf1 hnx
        | false => exact rD1f C hC rs hf c i fs _ n b cb f x xf room m w (by omega) hnum hi' hlg hf0 hf2 hf1 hnx
  · obtain rfl := hsm (by omega) (fun h => h7 h.1)
    cases u with
    | none =>
      cases out with
      | true => exact rC0t C hC rs hf c i fs _ n b cb f x xf room m k h0 h1 h7 hnum hi' hlg hf0 hf2 hf1 hnx
      | false => exact rC0f C hC rs hf c i fs _ n b cb f x xf room m k h0 h1 h7 hnum hi' hlg hf0 hf2 hf1 hnx
    | some w =>
      cases out with
      | true => exact rC1t C hC rs hf c i fs _ n b cb f x xf room m w k h0 h1 h7 hnum hi' hlg hf0 hf2 hf1 hnx
      | false => exact rC1f C hC rs hf c i fs _ n b cb f x xf room m w k h0 h1 h7 hnum hi' hlg hf0 hf2 hf1 hnx
set_option maxRecDepth 100000 in
set_option maxHeartbeats 8000000 in
theorem firm_loop (C : Ctx) (hC : C.β.b = []) (rs : List (List AV)) (hm : rs.all isA = true) (hN : ∀ i, i < rs.length → aN (atA rs i) ≤ 9223372036854775807) (c : Option Nat) (hlg : lngA rs = false) (s0 : DS) (hs0 : Inv s0 0) (h0 : s0.l = []) (h00 : s0.f = 0) :
    Rch Try.prog (plOf pls) C ⟨[⟨5, 146, tmF rs c 0 0 0, [.code c5_30, .lp c5_30, .blk 0, .code c5_26], none, [], []⟩], layF s0⟩ KB.IsT := by
  have hf := isA_flat hm
  obtain ⟨hle, hbl⟩ := lngA_few hlg
  have := loop_ind (P := Try.prog) (pl := plOf pls) (C := C) (fn := 5) (n := 146) (body := c5_30) (k := [.blk 0, .code c5_26]) (rd := none) (ms := []) (lk := []) (fs := []) plsOk (α := {a : Nat × DS // a.1 ≤ rs.length ∧ Inv a.2 a.1}) (fun a => rs.length - a.1.1) (fun a => tmF rs c a.1.2.l.length a.1.1 a.1.2.f) (fun a => layF a.1.2) (fun _ => KB.IsT) ?_ ⟨(0, s0), Nat.zero_le _, hs0⟩
  · simp only [h0, h00, List.length_nil] at this
    exact this
  rintro ⟨⟨i, s⟩, hi, hs⟩ ih
  simp only at hi hs ih ⊢
  by_cases h : (i : Int) < rs.length
  · have e := isA_row hm (i := i) (by omega)
    have hb := hbl i (by omega)
    have hn := hN i (by omega)
    generalize aK (atA rs i) = k at *
    generalize aN (atA rs i) = n at *
    generalize aB (atA rs i) = b at *
    generalize aC (atA rs i) = cb at *
    have hnum := hs.num (by omega)
    have hup := ih ⟨(i + 1, s), by simp only; omega, hs.up⟩ (by simp only; omega)
    simp only at hup
    by_cases h4 : k = 4
    · subst h4
      clear ih
      obtain ⟨l, f, x, xf, room, m, u, out⟩ := s
      cases u with
      | none =>
        simp only [tmF, layF, fuQ, fuL]
        refine ExQ_ok [] 4000 plsOk kF_ok ?_
        (try rw [exh]); simp (maxSteps := 4000000) only [kF, kF0, kDk, h, e, stops, inK, stepF, frsF, frF, itemF, codeF, condF, opsF, opsW, opF, stepS, wtS, gdst, gdl, sopF, pv, evq, bltF, callF, quiet, p_move, p_assign, p_pick, p_binOp, p_fieldAddr, p_indexAddr, p_len, l_load, e_store, e_alloc, SY.get, SY.put, SY.ev, SY.mk, SY.nth, SY.lvl, SY.setl, wid, wids, dr, tk, flat, at1, pack, rdC, rdCt, wrC, wrCt, ar, bopInt, bop, pickAV, isArr, ctOf, exitS, AV.scal, exq_go, exq_t, ↓reduceIte, Nat.reduceLT, Nat.reduceEqDiff, Nat.reduceAdd, Nat.reduceSub, Bool.and_true, Bool.not_false, reduceCtorEq, true_and, Bool.and_self, List.length_cons, List.length_nil, List.cons_append, List.nil_append, List.append_nil, Nat.zero_add, Nat.add_zero, Nat.zero_mul, Int.toNat_natCast, Int.reduceLE, decide_true, ktOf, ti3, ti39, ti42, regAt, body5, Try.f5, ↓exq_cd cd_c5_30, ↓exq_cd cd_c5_31, ↓exq_cd cd_c5_33, ↓exq_cd cd_c5_34, ↓exq_cd cd_c5_32, ↓exq_cd cd_c5_36, ↓exq_cd cd_c5_38, ↓exq_cd cd_c5_39, ↓exq_cd cd_c5_40, ↓exq_cd cd_c5_41, ↓exq_cd cd_c5_43, ↓exq_cd cd_c5_44, ↓exq_cd cd_c5_37, r5_33, r5_39, r5_43, r5_37]
        repeat (refine And.intro (a := (_ = true)) (by first | (simp; done) | (simp; omega)) ?_)
        refine Rch.fit1 hC [0, 1, 2, 3] (tm' := tmF rs c l.length (i + 1) f) (bl' := layF ⟨l, f, x, xf, room, m, none, out⟩) rfl (by decide) rfl ⟨rfl, rfl, rfl, rfl, rfl, congrArg (fun x => AV.imr false 3 x c) (hf.ren _).symm, trivial⟩ (tmF_lv hf ..) ⟨⟨rfl, rfl⟩, ⟨rfl, rfl⟩, ⟨rfl, rfl⟩, ⟨rfl, rfl⟩, trivial⟩ ?_
        exact hup
      | some w =>
        simp only [tmF, layF, fuQ, fuL]
        refine ExQ_ok [] 4000 plsOk kF_ok ?_
        (try rw [exh]); simp (maxSteps := 4000000) only [kF, kF0, kDk, h, e, stops, inK, stepF, frsF, frF, itemF, codeF, condF, opsF, opsW, opF, stepS, wtS, gdst, gdl, sopF, pv, evq, bltF, callF, quiet, p_move, p_assign, p_pick, p_binOp, p_fieldAddr, p_indexAddr, p_len, l_load, e_store, e_alloc, SY.get, SY.put, SY.ev, SY.mk, SY.nth, SY.lvl, SY.setl, wid, wids, dr, tk, flat, at1, pack, rdC, rdCt, wrC, wrCt, ar, bopInt, bop, pickAV, isArr, ctOf, exitS, AV.scal, exq_go, exq_t, ↓reduceIte, Nat.reduceLT, Nat.reduceEqDiff, Nat.reduceAdd, Nat.reduceSub, Bool.and_true, Bool.not_false, reduceCtorEq, true_and, Bool.and_self, List.length_cons, List.length_nil, List.cons_append, List.nil_append, List.append_nil, Nat.zero_add, Nat.add_zero, Nat.zero_mul, Int.toNat_natCast, Int.reduceLE, decide_true, ktOf, ti3, ti39, ti42, regAt, body5, Try.f5, ↓exq_cd cd_c5_30, ↓exq_cd cd_c5_31, ↓exq_cd cd_c5_33, ↓exq_cd cd_c5_34, ↓exq_cd cd_c5_32, ↓exq_cd cd_c5_36, ↓exq_cd cd_c5_38, ↓exq_cd cd_c5_39, ↓exq_cd cd_c5_40, ↓exq_cd cd_c5_41, ↓exq_cd cd_c5_43, ↓exq_cd cd_c5_44, ↓exq_cd cd_c5_37, r5_33, r5_39, r5_43, r5_37]
        repeat (refine And.intro (a := (_ = true)) (by first | (simp; done) | (simp; omega)) ?_)
        refine Rch.fit1 hC [0, 1, 2, 3, 4] (tm' := tmF rs c l.length (i + 1) f) (bl' := layF ⟨l, f, x, xf, room, m, some w, out⟩) rfl (by decide) rfl ⟨rfl, rfl, rfl, rfl, rfl, congrArg (fun x => AV.imr false 3 x c) (hf.ren _).symm, trivial⟩ (tmF_lv hf ..) ⟨⟨rfl, rfl⟩, ⟨rfl, rfl⟩, ⟨rfl, rfl⟩, ⟨rfl, rfl⟩, ⟨rfl, rfl⟩, trivial⟩ ?_
        exact hup
    by_cases h8 : k = 8
    · subst h8
      clear ih
      obtain ⟨l, f, x, xf, room, m, u, out⟩ := s
      cases u with
      | none =>
        simp only [tmF, layF, fuQ, fuL]
        refine ExQ_ok [] 4000 plsOk kF_ok ?_
        (try rw [exh]); simp (maxSteps := 4000000) only [kF, kF0, kDk, h, e, stops, inK, stepF, frsF, frF, itemF, codeF, condF, opsF, opsW, opF, stepS, wtS, gdst, gdl, sopF, pv, evq, bltF, callF, quiet, p_move, p_assign, p_pick, p_binOp, p_fieldAddr, p_indexAddr, p_len, l_load, e_store, e_alloc, SY.get, SY.put, SY.ev, SY.mk, SY.nth, SY.lvl, SY.setl, wid, wids, dr, tk, flat, at1, pack, rdC, rdCt, wrC, wrCt, ar, bopInt, bop, pickAV, isArr, ctOf, exitS, AV.scal, exq_go, exq_t, exq_f, ↓reduceIte, Nat.reduceLT, Nat.reduceEqDiff, Nat.reduceAdd, Nat.reduceSub, Bool.and_true, Bool.not_false, reduceCtorEq, true_and, Bool.and_self, List.length_cons, List.length_nil, List.cons_append, List.nil_append, List.append_nil, Nat.zero_add, Nat.add_zero, Nat.zero_mul, Int.toNat_natCast, Int.reduceEq, Int.reduceLE, decide_true, decide_false, ktOf, ti3, ti39, ti42, regAt, body5, Try.f5, ↓exq_cd cd_c5_30, ↓exq_cd cd_c5_31, ↓exq_cd cd_c5_33, ↓exq_cd cd_c5_34, ↓exq_cd cd_c5_32, ↓exq_cd cd_c5_36, ↓exq_cd cd_c5_38, ↓exq_cd cd_c5_39, ↓exq_cd cd_c5_40, ↓exq_cd cd_c5_41, ↓exq_cd cd_c5_43, ↓exq_cd cd_c5_44, ↓exq_cd cd_c5_37, r5_33, r5_39, r5_43, r5_37]
        repeat (refine And.intro (a := (_ = true)) (by first | (simp; done) | (simp; omega)) ?_)
        refine Rch.fit1 hC [0, 1, 2, 3] (tm' := tmF rs c l.length (i + 1) f) (bl' := layF ⟨l, f, x, xf, room, m, none, out⟩) rfl (by decide) rfl ⟨rfl, rfl, rfl, rfl, rfl, congrArg (fun x => AV.imr false 3 x c) (hf.ren _).symm, trivial⟩ (tmF_lv hf ..) ⟨⟨rfl, rfl⟩, ⟨rfl, rfl⟩, ⟨rfl, rfl⟩, ⟨rfl, rfl⟩, trivial⟩ ?_
        exact hup
      | some w =>
        simp only [tmF, layF, fuQ, fuL]
        refine ExQ_ok [] 4000 plsOk kF_ok ?_
        (try rw [exh]); simp (maxSteps := 4000000) only [kF, kF0, kDk, h, e, stops, inK, stepF, frsF, frF, itemF, codeF, condF, opsF, opsW, opF, stepS, wtS, gdst, gdl, sopF, pv, evq, bltF, callF, quiet, p_move, p_assign, p_pick, p_binOp, p_fieldAddr, p_indexAddr, p_len, l_load, e_store, e_alloc, SY.get, SY.put, SY.ev, SY.mk, SY.nth, SY.lvl, SY.setl, wid, wids, dr, tk, flat, at1, pack, rdC, rdCt, wrC, wrCt, ar, bopInt, bop, pickAV, isArr, ctOf, exitS, AV.scal, exq_go, exq_t, exq_f, ↓reduceIte, Nat.reduceLT, Nat.reduceEqDiff, Nat.reduceAdd, Nat.reduceSub, Bool.and_true, Bool.not_false, reduceCtorEq, true_and, Bool.and_self, List.length_cons, List.length_nil, List.cons_append, List.nil_append, List.append_nil, Nat.zero_add, Nat.add_zero, Nat.zero_mul, Int.toNat_natCast, Int.reduceEq, Int.reduceLE, decide_true, decide_false, ktOf, ti3, ti39, ti42, regAt, body5, Try.f5, ↓exq_cd cd_c5_30, ↓exq_cd cd_c5_31, ↓exq_cd cd_c5_33, ↓exq_cd cd_c5_34, ↓exq_cd cd_c5_32, ↓exq_cd cd_c5_36, ↓exq_cd cd_c5_38, ↓exq_cd cd_c5_39, ↓exq_cd cd_c5_40, ↓exq_cd cd_c5_41, ↓exq_cd cd_c5_43, ↓exq_cd cd_c5_44, ↓exq_cd cd_c5_37, r5_33, r5_39, r5_43, r5_37]
        repeat (refine And.intro (a := (_ = true)) (by first | (simp; done) | (simp; omega)) ?_)
        refine Rch.fit1 hC [0, 1, 2, 3, 4] (tm' := tmF rs c l.length (i + 1) f) (bl' := layF ⟨l, f, x, xf, room, m, some w, out⟩) rfl (by decide) rfl ⟨rfl, rfl, rfl, rfl, rfl, congrArg (fun x => AV.imr false 3 x c) (hf.ren _).symm, trivial⟩ (tmF_lv hf ..) ⟨⟨rfl, rfl⟩, ⟨rfl, rfl⟩, ⟨rfl, rfl⟩, ⟨rfl, rfl⟩, ⟨rfl, rfl⟩, trivial⟩ ?_
        exact hup
    by_cases h9 : k = 9
    · subst h9
      clear ih
      obtain ⟨l, f, x, xf, room, m, u, out⟩ := s
      cases u with
      | none =>
        simp only [tmF, layF, fuQ, fuL]
        refine ExQ_ok [] 4000 plsOk kF_ok ?_
        (try rw [exh]); simp (maxSteps := 4000000) only [kF, kF0, kDk, h, e, stops, inK, stepF, frsF, frF, itemF, codeF, condF, opsF, opsW, opF, stepS, wtS, gdst, gdl, sopF, pv, evq, bltF, callF, quiet, p_move, p_assign, p_pick, p_binOp, p_fieldAddr, p_indexAddr, p_len, l_load, e_store, e_alloc, SY.get, SY.put, SY.ev, SY.mk, SY.nth, SY.lvl, SY.setl, wid, wids, dr, tk, flat, at1, pack, rdC, rdCt, wrC, wrCt, ar, bopInt, bop, pickAV, isArr, ctOf, exitS, AV.scal, exq_go, exq_t, exq_f, ↓reduceIte, Nat.reduceLT, Nat.reduceEqDiff, Nat.reduceAdd, Nat.reduceSub, Bool.and_true, Bool.not_false, reduceCtorEq, true_and, Bool.and_self, List.length_cons, List.length_nil, List.cons_append, List.nil_append, List.append_nil, Nat.zero_add, Nat.add_zero, Nat.zero_mul, Int.toNat_natCast, Int.reduceEq, Int.reduceLE, decide_true, decide_false, ktOf, ti3, ti39, ti42, regAt, body5, Try.f5, ↓exq_cd cd_c5_30, ↓exq_cd cd_c5_31, ↓exq_cd cd_c5_33, ↓exq_cd cd_c5_34, ↓exq_cd cd_c5_32, ↓exq_cd cd_c5_36, ↓exq_cd cd_c5_38, ↓exq_cd cd_c5_39, ↓exq_cd cd_c5_40, ↓exq_cd cd_c5_41, ↓exq_cd cd_c5_43, ↓exq_cd cd_c5_44, ↓exq_cd cd_c5_37, r5_33, r5_39, r5_43, r5_37]
        repeat (refine And.intro (a := (_ = true)) (by first | (simp; done) | (simp; omega)) ?_)
        refine Rch.fit1 hC [0, 1, 2, 3] (tm' := tmF rs c l.length (i + 1) f) (bl' := layF ⟨l, f, x, xf, room, m, none, out⟩) rfl (by decide) rfl ⟨rfl, rfl, rfl, rfl, rfl, congrArg (fun x => AV.imr false 3 x c) (hf.ren _).symm, trivial⟩ (tmF_lv hf ..) ⟨⟨rfl, rfl⟩, ⟨rfl, rfl⟩, ⟨rfl, rfl⟩, ⟨rfl, rfl⟩, trivial⟩ ?_
        exact hup
      | some w =>
        simp only [tmF, layF, fuQ, fuL]
        refine ExQ_ok [] 4000 plsOk kF_ok ?_
        (try rw [exh]); simp (maxSteps := 4000000) only [kF, kF0, kDk, h, e, stops, inK, stepF, frsF, frF, itemF, codeF, condF, opsF, opsW, opF, stepS, wtS, gdst, gdl, sopF, pv, evq, bltF, callF, quiet, p_move, p_assign, p_pick, p_binOp, p_fieldAddr, p_indexAddr, p_len, l_load, e_store, e_alloc, SY.get, SY.put, SY.ev, SY.mk, SY.nth, SY.lvl, SY.setl, wid, wids, dr, tk, flat, at1, pack, rdC, rdCt, wrC, wrCt, ar, bopInt, bop, pickAV, isArr, ctOf, exitS, AV.scal, exq_go, exq_t, exq_f, ↓reduceIte, Nat.reduceLT, Nat.reduceEqDiff, Nat.reduceAdd, Nat.reduceSub, Bool.and_true, Bool.not_false, reduceCtorEq, true_and, Bool.and_self, List.length_cons, List.length_nil, List.cons_append, List.nil_append, List.append_nil, Nat.zero_add, Nat.add_zero, Nat.zero_mul, Int.toNat_natCast, Int.reduceEq, Int.reduceLE, decide_true, decide_false, ktOf, ti3, ti39, ti42, regAt, body5, Try.f5, ↓exq_cd cd_c5_30, ↓exq_cd cd_c5_31, ↓exq_cd cd_c5_33, ↓exq_cd cd_c5_34, ↓exq_cd cd_c5_32, ↓exq_cd cd_c5_36, ↓exq_cd cd_c5_38, ↓exq_cd cd_c5_39, ↓exq_cd cd_c5_40, ↓exq_cd cd_c5_41, ↓exq_cd cd_c5_43, ↓exq_cd cd_c5_44, ↓exq_cd cd_c5_37, r5_33, r5_39, r5_43, r5_37]
        repeat (refine And.intro (a := (_ = true)) (by first | (simp; done) | (simp; omega)) ?_)
        refine Rch.fit1 hC [0, 1, 2, 3, 4] (tm' := tmF rs c l.length (i + 1) f) (bl' := layF ⟨l, f, x, xf, room, m, some w, out⟩) rfl (by decide) rfl ⟨rfl, rfl, rfl, rfl, rfl, congrArg (fun x => AV.imr false 3 x c) (hf.ren _).symm, trivial⟩ (tmF_lv hf ..) ⟨⟨rfl, rfl⟩, ⟨rfl, rfl⟩, ⟨rfl, rfl⟩, ⟨rfl, rfl⟩, ⟨rfl, rfl⟩, trivial⟩ ?_
        exact hup
    clear hup
    have ha := act_law hs hb hn h4 h8
    have hnx := ih ⟨(i + 1, dAct s k n b), by simp only; omega, ha.inv⟩ (by simp only; omega)
    simp only at hnx
    clear ih
    have hrest := firm_rest C hC rs hf c i s _ k n b cb hb hs ha (by omega) hnx
    clear hnx ha
    have hb9 : b.length ≤ 1000000000 := by omega
    generalize hd : dAct s k n b = s' at *
    obtain ⟨l, f, x, xf, room, m, u, out⟩ := s
    obtain ⟨l', f', x', xf', room', m', u', out'⟩ := s'
    simp only at hrest hnum
    cases u with
    | none =>
      cases u' with
      | none =>
        simp only [tmF, layF, fuQ, fuL]
        refine ExQ_ok [] 66 plsOk kF_ok ?_
        (try rw [exh]); simp (maxSteps := 4000000) only [kF, kF0, kDk, ktO, ktW, objK, objB, updT, mapB, rhoN, mrk, readK, osAct, osK, findD, mLen, layD, fuP, fuL, hnum, List.nodup_cons, List.mem_cons, List.not_mem_nil, List.take_succ_cons, List.take_zero, not_false_eq_true, List.drop_zero, h, e, h4, h8, h9, hd, stops, inK, stepF, frsF, frF, itemF, codeF, condF, opsF, opsW, opF, callO, wtS, gdst, gdl, sopF, pv, evq, bltF, callF, calleeS, quiet, p_move, p_assign, p_pick, p_binOp, p_fieldAddr, p_indexAddr, p_len, l_load, e_store, e_alloc, SY.get, SY.put, SY.ev, SY.mk, SY.nth, SY.lvl, SY.setl, wid, wids, dr, tk, flat, at1, pack, rdC, rdCt, wrC, wrCt, bopInt, bop, pickAV, isArr, ctOf, killL, AV.scal, exq_zero, exq_go, exq_t, exq_f, ↓reduceIte, Nat.reduceLT, Nat.reduceEqDiff, Nat.reduceAdd, Nat.reduceSub, Bool.and_true, Bool.true_and, Bool.not_false, reduceCtorEq, true_and, List.map_cons, List.map_nil, Bool.and_self, List.drop_succ_cons, List.drop_zero, List.length_cons, List.length_nil, List.cons_append, List.nil_append, List.append_nil, Nat.zero_add, Nat.add_zero, Nat.zero_mul, Int.toNat_natCast, Int.reduceLE, decide_true, decide_false, ktOf, alive, lvB, ren, renL, renCt, not_false_eq_true, ti3, ti39, ti42, regAt, body5, Try.f5, ↓exq_cd cd_c5_30, ↓exq_cd cd_c5_31, ↓exq_cd cd_c5_33, ↓exq_cd cd_c5_34, ↓exq_cd cd_c5_32, ↓exq_cd cd_c5_36, ↓exq_cd cd_c5_38, ↓exq_cd cd_c5_39, ↓exq_cd cd_c5_40, ↓exq_cd cd_c5_41, ↓exq_cd cd_c5_43, ↓exq_cd cd_c5_44, ↓exq_cd cd_c5_42, ↓exq_cd cd_c5_46, ↓exq_cd cd_c5_47, ↓exq_cd cd_c5_48, r5_33, r5_39, r5_43, r5_46, r5_48]
        repeat (refine And.intro (a := (_ = true)) (by first | (simp; done) | (simp; omega)) ?_)
        refine Rch.fit1 hC [0, 4, 1, 5, 6] (tm' := tmB rs c l.length i f) (bl' := layB l k n b cb ⟨l', f', x', xf', room', m', none, out'⟩) rfl (by decide) rfl ⟨rfl, rfl, rfl, rfl, rfl, rfl, rfl, congrArg (fun x => AV.imr false 3 x c) (hf.ren _).symm, trivial⟩ (tmB_lv hf ..) ⟨⟨rfl, rfl⟩, ⟨rfl, rfl⟩, ⟨rfl, rfl⟩, ⟨rfl, rfl⟩, ⟨rfl, rfl⟩, trivial⟩ ?_
        exact hrest
      | some w2 =>
        simp only [tmF, layF, fuQ, fuL]
        refine ExQ_ok [] 66 plsOk kF_ok ?_
        (try rw [exh]); simp (maxSteps := 4000000) only [kF, kF0, kDk, ktO, ktW, objK, objB, updT, mapB, rhoN, mrk, readK, osAct, osK, findD, mLen, layD, fuP, fuL, hnum, List.nodup_cons, List.mem_cons, List.not_mem_nil, List.take_succ_cons, List.take_zero, not_false_eq_true, List.drop_zero, h, e, h4, h8, h9, hd, stops, inK, stepF, frsF, frF, itemF, codeF, condF, opsF, opsW, opF, callO, wtS, gdst, gdl, sopF, pv, evq, bltF, callF, calleeS, quiet, p_move, p_assign, p_pick, p_binOp, p_fieldAddr, p_indexAddr, p_len, l_load, e_store, e_alloc, SY.get, SY.put, SY.ev, SY.mk, SY.nth, SY.lvl, SY.setl, wid, wids, dr, tk, flat, at1, pack, rdC, rdCt, wrC, wrCt, bopInt, bop, pickAV, isArr, ctOf, killL, AV.scal, exq_zero, exq_go, exq_t, exq_f, ↓reduceIte, Nat.reduceLT, Nat.reduceEqDiff, Nat.reduceAdd, Nat.reduceSub, Bool.and_true, Bool.true_and, Bool.not_false, reduceCtorEq, true_and, List.map_cons, List.map_nil, Bool.and_self, List.drop_succ_cons, List.drop_zero, List.length_cons, List.length_nil, List.cons_append, List.nil_append, List.append_nil, Nat.zero_add, Nat.add_zero, Nat.zero_mul, Int.toNat_natCast, Int.reduceLE, decide_true, decide_false, ktOf, alive, lvB, ren, renL, renCt, not_false_eq_true, ti3, ti39, ti42, regAt, body5, Try.f5, ↓exq_cd cd_c5_30, ↓exq_cd cd_c5_31, ↓exq_cd cd_c5_33, ↓exq_cd cd_c5_34, ↓exq_cd cd_c5_32, ↓exq_cd cd_c5_36, ↓exq_cd cd_c5_38, ↓exq_cd cd_c5_39, ↓exq_cd cd_c5_40, ↓exq_cd cd_c5_41, ↓exq_cd cd_c5_43, ↓exq_cd cd_c5_44, ↓exq_cd cd_c5_42, ↓exq_cd cd_c5_46, ↓exq_cd cd_c5_47, ↓exq_cd cd_c5_48, r5_33, r5_39, r5_43, r5_46, r5_48]
        repeat (refine And.intro (a := (_ = true)) (by first | (simp; done) | (simp; omega)) ?_)
        refine Rch.fit1 hC [0, 4, 1, 5, 6, 7] (tm' := tmB rs c l.length i f) (bl' := layB l k n b cb ⟨l', f', x', xf', room', m', some w2, out'⟩) rfl (by decide) rfl ⟨rfl, rfl, rfl, rfl, rfl, rfl, rfl, congrArg (fun x => AV.imr false 3 x c) (hf.ren _).symm, trivial⟩ (tmB_lv hf ..) ⟨⟨rfl, rfl⟩, ⟨rfl, rfl⟩, ⟨rfl, rfl⟩, ⟨rfl, rfl⟩, ⟨rfl, rfl⟩, ⟨rfl, rfl⟩, trivial⟩ ?_
        exact hrest
    | some w =>
      cases u' with
      | none =>
        simp only [tmF, layF, fuQ, fuL]
        refine ExQ_ok [] 66 plsOk kF_ok ?_
        (try rw [exh]); simp (maxSteps := 4000000) only [kF, kF0, kDk, ktO, ktW, objK, objB, updT, mapB, rhoN, mrk, readK, osAct, osK, findD, mLen, layD, fuP, fuL, hnum, List.nodup_cons, List.mem_cons, List.not_mem_nil, List.take_succ_cons, List.take_zero, not_false_eq_true, List.drop_zero, h, e, h4, h8, h9, hd, stops, inK, stepF, frsF, frF, itemF, codeF, condF, opsF, opsW, opF, callO, wtS, gdst, gdl, sopF, pv, evq, bltF, callF, calleeS, quiet, p_move, p_assign, p_pick, p_binOp, p_fieldAddr, p_indexAddr, p_len, l_load, e_store, e_alloc, SY.get, SY.put, SY.ev, SY.mk, SY.nth, SY.lvl, SY.setl, wid, wids, dr, tk, flat, at1, pack, rdC, rdCt, wrC, wrCt, bopInt, bop, pickAV, isArr, ctOf, killL, AV.scal, exq_zero, exq_go, exq_t, exq_f, ↓reduceIte, Nat.reduceLT, Nat.reduceEqDiff, Nat.reduceAdd, Nat.reduceSub, Bool.and_true, Bool.true_and, Bool.not_false, reduceCtorEq, true_and, List.map_cons, List.map_nil, Bool.and_self, List.drop_succ_cons, List.drop_zero, List.length_cons, List.length_nil, List.cons_append, List.nil_append, List.append_nil, Nat.zero_add, Nat.add_zero, Nat.zero_mul, Int.toNat_natCast, Int.reduceLE, decide_true, decide_false, ktOf, alive, lvB, ren, renL, renCt, not_false_eq_true, ti3, ti39, ti42, regAt, body5, Try.f5, ↓exq_cd cd_c5_30, ↓exq_cd cd_c5_31, ↓exq_cd cd_c5_33, ↓exq_cd cd_c5_34, ↓exq_cd cd_c5_32, ↓exq_cd cd_c5_36, ↓exq_cd cd_c5_38, ↓exq_cd cd_c5_39, ↓exq_cd cd_c5_40, ↓exq_cd cd_c5_41, ↓exq_cd cd_c5_43, ↓exq_cd cd_c5_44, ↓exq_cd cd_c5_42, ↓exq_cd cd_c5_46, ↓exq_cd cd_c5_47, ↓exq_cd cd_c5_48, r5_33, r5_39, r5_43, r5_46, r5_48]
        repeat (refine And.intro (a := (_ = true)) (by first | (simp; done) | (simp; omega)) ?_)
        refine Rch.fit1 hC [0, 5, 1, 6, 7] (tm' := tmB rs c l.length i f) (bl' := layB l k n b cb ⟨l', f', x', xf', room', m', none, out'⟩) rfl (by decide) rfl ⟨rfl, rfl, rfl, rfl, rfl, rfl, rfl, congrArg (fun x => AV.imr false 3 x c) (hf.ren _).symm, trivial⟩ (tmB_lv hf ..) ⟨⟨rfl, rfl⟩, ⟨rfl, rfl⟩, ⟨rfl, rfl⟩, ⟨rfl, rfl⟩, ⟨rfl, rfl⟩, trivial⟩ ?_
        exact hrest
      | some w2 =>
        simp only [tmF, layF, fuQ, fuL]
        refine ExQ_ok [] 66 plsOk kF_ok ?_
        (try rw [exh]); simp (maxSteps := 4000000) only [kF, kF0, kDk, ktO, ktW, objK, objB, updT, mapB, rhoN, mrk, readK, osAct, osK, findD, mLen, layD, fuP, fuL, hnum, List.nodup_cons, List.mem_cons, List.not_mem_nil, List.take_succ_cons, List.take_zero, not_false_eq_true, List.drop_zero, h, e, h4, h8, h9, hd, stops, inK, stepF, frsF, frF, itemF, codeF, condF, opsF, opsW, opF, callO, wtS, gdst, gdl, sopF, pv, evq, bltF, callF, calleeS, quiet, p_move, p_assign, p_pick, p_binOp, p_fieldAddr, p_indexAddr, p_len, l_load, e_store, e_alloc, SY.get, SY.put, SY.ev, SY.mk, SY.nth, SY.lvl, SY.setl, wid, wids, dr, tk, flat, at1, pack, rdC, rdCt, wrC, wrCt, bopInt, bop, pickAV, isArr, ctOf, killL, AV.scal, exq_zero, exq_go, exq_t, exq_f, ↓reduceIte, Nat.reduceLT, Nat.reduceEqDiff, Nat.reduceAdd, Nat.reduceSub, Bool.and_true, Bool.true_and, Bool.not_false, reduceCtorEq, true_and, List.map_cons, List.map_nil, Bool.and_self, List.drop_succ_cons, List.drop_zero, List.length_cons, List.length_nil, List.cons_append, List.nil_append, List.append_nil, Nat.zero_add, Nat.add_zero, Nat.zero_mul, Int.toNat_natCast, Int.reduceLE, decide_true, decide_false, ktOf, alive, lvB, ren, renL, renCt, not_false_eq_true, ti3, ti39, ti42, regAt, body5, Try.f5, ↓exq_cd cd_c5_30, ↓exq_cd cd_c5_31, ↓exq_cd cd_c5_33, ↓exq_cd cd_c5_34, ↓exq_cd cd_c5_32, ↓exq_cd cd_c5_36, ↓exq_cd cd_c5_38, ↓exq_cd cd_c5_39, ↓exq_cd cd_c5_40, ↓exq_cd cd_c5_41, ↓exq_cd cd_c5_43, ↓exq_cd cd_c5_44, ↓exq_cd cd_c5_42, ↓exq_cd cd_c5_46, ↓exq_cd cd_c5_47, ↓exq_cd cd_c5_48, r5_33, r5_39, r5_43, r5_46, r5_48]
        repeat (refine And.intro (a := (_ = true)) (by first | (simp; done) | (simp; omega)) ?_)
        refine Rch.fit1 hC [0, 5, 1, 6, 7, 8] (tm' := tmB rs c l.length i f) (bl' := layB l k n b cb ⟨l', f', x', xf', room', m', some w2, out'⟩) rfl (by decide) rfl ⟨rfl, rfl, rfl, rfl, rfl, rfl, rfl, congrArg (fun x => AV.imr false 3 x c) (hf.ren _).symm, trivial⟩ (tmB_lv hf ..) ⟨⟨rfl, rfl⟩, ⟨rfl, rfl⟩, ⟨rfl, rfl⟩, ⟨rfl, rfl⟩, ⟨rfl, rfl⟩, ⟨rfl, rfl⟩, trivial⟩ ?_
        exact hrest
  · clear ih
    obtain ⟨l, f, x, xf, room, m, u, out⟩ := s
    simp only [tmF]
    refine ExQ_ok [] 4000 plsOk kF_ok ?_
    (try rw [exh]); simp (maxSteps := 4000000) only [kF, kF0, kDk, h, stops, stepF, frsF, frF, itemF, codeF, condF, opsF, opsW, opF, stepS, wtS, sopF, pv, bltF, callF, p_move, p_assign, p_binOp, p_len, SY.get, SY.put, SY.ev, bopInt, bop, leaveS, retS, exitS, killL, isDefs, resS, resAll, tup1, exq_go, exq_f, ↓reduceIte, Nat.reduceLT, Nat.reduceEqDiff, Nat.reduceAdd, true_and, decide_false, ktOf, ti3, ti39, regAt, fi5, body5, Try.f5, ↓exq_cd cd_c5_30, ↓exq_cd cd_c5_31, ↓exq_cd cd_c5_33, ↓exq_cd cd_c5_34, ↓exq_cd cd_c5_26, ↓exq_cd cd_c5_85, r5_33, r5_85]
    repeat (refine And.intro (a := (_ = true)) (by first | (simp; done) | (simp; omega)) ?_)
    exact rfl
set_option maxRecDepth 100000 in
set_option maxHeartbeats 8000000 in
theorem firm_law (C : Ctx) (hC : C.β.b = []) (room : Int) (rs : List (List AV)) (hm : rs.all isA = true) (hN : ∀ i, i < rs.length → aN (atA rs i) ≤ 9223372036854775807) (hl : rs.length < 4611686018427387904) (c : Option Nat) :
    Rch Try.prog (plOf pls) C (conf0 5 ⟨146, [.tmp 4], code5⟩ [.v (.int .i64 room), .imr false 3 rs c] []) KB.IsT := by
  have hf := isA_flat hm
  obtain ⟨p, hp, hkp⟩ := KB.pick_lt room (n := 3000) (by omega)
  have hkp : KB.kpick room 3000 = p := hkp
  have hr : ¬ ((p : Int) < 0 ∨ 1000000 < (p : Int)) := by omega
  cases hlg : lngA rs with
  | true =>
    refine ExQ_ok [] 4000 plsOk kF_ok ?_
    simp only [conf0]
    (try rw [exh]); simp (maxSteps := 4000000) only [kF, kF0, kDk, ktO, ktW, layD, fuP, fuL, specT, KB.sPick, sNew, sLng, not_true_eq_false, newD, hkp, hr, hf.lv, hm, hlg, stops, inK, stepF, frsF, frF, itemF, codeF, condF, opsF, opsW, opF, callO, stepS, wtS, gdst, gdl, sopF, pv, callF, calleeS, p_move, p_assign, p_pick, p_binOp, p_extract, SY.get, SY.put, SY.ev, SY.mk, SY.nth, SY.ini, bopInt, bopEq, isPtr, bop, pickAV, leaveS, retS, killL, isDefs, resS, resAll, tup1, Ct.cell, exq_go, lvCt, exq_t, exq_f, ↓reduceIte, Nat.reduceLT, Nat.reduceEqDiff, Nat.reduceAdd, Nat.reduceSub, Bool.and_true, Bool.true_and, Bool.not_false, reduceCtorEq, true_and, List.map_cons, List.map_nil, Bool.and_self, List.length_cons, List.length_nil, List.nil_append, List.append_nil, Nat.zero_add, Nat.add_zero, Int.reduceLE, decide_true, decide_false, ktOf, conK, alive, lndL, lnd, lvB, lvL, tB_tt, okBls, shB, ren, renL, renCt, not_true_eq_false, ti24, ti25, regAt, fi5, body5, Try.f5, ↓exq_cd cd_code5, ↓exq_cd cd_c5_1, ↓exq_cd cd_c5_2, ↓exq_cd cd_c5_3, ↓exq_cd cd_c5_4, ↓exq_cd cd_c5_5, ↓exq_cd cd_c5_6, ↓exq_cd cd_c5_7, ↓exq_cd cd_c5_9, ↓exq_cd cd_c5_10, ↓exq_cd cd_c5_8, ↓exq_cd cd_c5_14, ↓exq_cd cd_c5_16, ↓exq_cd cd_c5_17, ↓exq_cd cd_c5_18, ↓exq_cd cd_c5_20, r5_1, r5_3, r5_5, r5_9, r5_16, r5_20]
    repeat (refine And.intro (a := (_ = true)) (by first | (simp; done) | (simp; omega)) ?_)
    exact rfl
  | false =>
    have hloop := firm_loop C hC rs hm hN c hlg (newD p) ⟨by simp [newD], by simp [newD], by simp [newD], by simp [newD], by simp [newD], rfl⟩ rfl rfl
    refine ExQ_ok [] 4000 plsOk kF_ok ?_
    simp only [conf0]
    (try rw [exh]); simp (maxSteps := 4000000) only [kF, kF0, kDk, ktO, ktW, layD, fuP, fuL, specT, KB.sPick, sNew, sLng, not_true_eq_false, newD, hkp, hr, hf.lv, hm, hlg, stops, inK, stepF, frsF, frF, itemF, codeF, condF, opsF, opsW, opF, callO, wtS, gdst, gdl, sopF, pv, callF, calleeS, p_move, p_assign, p_pick, p_binOp, p_extract, SY.get, SY.put, SY.ev, SY.mk, SY.nth, SY.ini, bopInt, bopEq, isPtr, bop, pickAV, Ct.cell, exq_go, lvCt, exq_f, ↓reduceIte, Nat.reduceLT, Nat.reduceEqDiff, Nat.reduceAdd, Nat.reduceSub, Bool.and_true, Bool.true_and, Bool.not_false, reduceCtorEq, true_and, List.map_cons, List.map_nil, Bool.and_self, List.length_cons, List.length_nil, List.nil_append, List.append_nil, Nat.zero_add, Nat.add_zero, Int.reduceLE, decide_true, decide_false, ktOf, conK, alive, lndL, lnd, lvB, lvL, tB_tt, okBls, shB, ren, renL, renCt, not_true_eq_false, ti24, ti25, regAt, body5, Try.f5, ↓exq_cd cd_code5, ↓exq_cd cd_c5_1, ↓exq_cd cd_c5_2, ↓exq_cd cd_c5_3, ↓exq_cd cd_c5_4, ↓exq_cd cd_c5_5, ↓exq_cd cd_c5_6, ↓exq_cd cd_c5_7, ↓exq_cd cd_c5_9, ↓exq_cd cd_c5_10, ↓exq_cd cd_c5_8, ↓exq_cd cd_c5_14, ↓exq_cd cd_c5_16, ↓exq_cd cd_c5_17, ↓exq_cd cd_c5_15, ↓exq_cd cd_c5_21, ↓exq_cd cd_c5_22, ↓exq_cd cd_c5_23, ↓exq_cd cd_c5_24, ↓exq_cd cd_c5_25, ↓exq_cd cd_c5_27, ↓exq_cd cd_c5_28, ↓exq_cd cd_c5_29, r5_1, r5_3, r5_5, r5_9, r5_16, r5_21, r5_23, r5_27]
    repeat (refine And.intro (a := (_ = true)) (by first | (simp; done) | (simp; omega)) ?_)
    refine Rch.nilsl 8 0 1 .u8 rfl rfl ?_
    refine Rch.loop plsOk ?_
    refine Rch.fit1 hC [3, 0, 1, 2] (tm' := tmF rs c 0 0 0) (bl' := layF (newD p)) rfl (by decide) rfl ⟨rfl, rfl, rfl, rfl, rfl, congrArg (fun x => AV.imr false 3 x c) (hf.ren _).symm, trivial⟩ (tmF_lv hf ..) ⟨⟨rfl, rfl⟩, ⟨rfl, rfl⟩, ⟨rfl, rfl⟩, ⟨rfl, rfl⟩, trivial⟩ ?_
    exact hloop
/-- An act that is handed in. -/
def actR (r : Int × Int × (List Int × Nat)) : List AV := [.v (.int .i64 r.1), .v (.int .i64 r.2.1), .imn false .u8 r.2.2.1 (some r.2.2.2)]
theorem actR_all (ms : List (Int × Int × (List Int × Nat))) : (ms.map actR).all isA = true := List.all_eq_true.2 fun r hr => by
  obtain ⟨x, _, rfl⟩ := List.mem_map.1 hr
  rfl
theorem actR_N {ms : List (Int × Int × (List Int × Nat))} (h : ∀ r ∈ ms, inK .i64 r.1 = true ∧ inK .i64 r.2.1 = true ∧ (okN .u8 r.2.2.1 ∧ r.2.2.1.length ≤ r.2.2.2 ∧ r.2.2.2 ≤ maxLen)) : ∀ i, i < (ms.map actR).length → aN (atA (ms.map actR) i) ≤ 9223372036854775807 := fun i hi => by
  rw [List.length_map] at hi
  have e : atA (ms.map actR) i = actR ms[i] := by
    rw [atA, List.getElem?_map, List.getElem?_eq_getElem hi]; rfl
  rw [e]
  have := (h _ (List.getElem_mem hi)).2.1
  simp only [inK, Bool.and_eq_true, decide_eq_true_eq] at this
  exact this.2
end DF
end Go.Proofs.Ytmdepmhamefheaa
