/- Texts of ours in one: VR1, VR2, VR3. -/
import Derived.Test.YtdanhpemheldlaaVM2
import Derived.Test.YtdanhpemheldlaaVTa
import Derived.Test.YtdanhpemheldlaaVM5
import Derived.Test.YtdanhpemheldlaaVM6
set_option linter.unusedSimpArgs false
set_option linter.unusedVariables false
/- Views: the document's better word of two. -/
-- FUNCTIONS 57 61 62
namespace Go.Proofs.Ytdanhpemheldlaa
open Go Go.SY
set_option maxRecDepth 100000 in
set_option maxHeartbeats 4000000 in
theorem rmm_run (C : Ctx) (a b c b' c' : Int) (h1 : MemOk a b c) (h2 : MemOk a b' c') : Rch Try.prog (plOf pls) C (conf0 57 ⟨16, [.cell 4 29, .tmp 5], code57⟩ [.agg [.v (.int .i64 a), .v (.int .i64 b), .v (.int .i64 c)], .agg [.v (.int .i64 a), .v (.int .i64 b'), .v (.int .i64 c')]] []) (Res (.tup [.agg [.v (.int .i64 a), .v (.int .i64 (if betB b c b' c' = true then b' else b)), .v (.int .i64 (if betB b c b' c' = true then c' else c))], .v (.int .i64 0)]) []) := by
  refine ExQ_ok [] 2000 plsOk kR0_ok ?_
  simp only [conf0]
  by_cases h4 : c < c'
  · have hb : betB b c b' c' = true := decide_eq_true (.inl h4)
    (try rw [exh]); simp (maxSteps := 4000000) only [kR0, sChk, chk_pos h1, chk_pos h2, h4, stops, inK, stepF, frsF, frF, itemF, codeF, condF, opsF, opsW, opF, callO, stepS, wtS, gdst, gdl, sopF, pv, evq, callF, calleeS, quiet, p_move, p_assign, p_pick, p_binOp, p_unOp, p_fieldAddr, l_load, e_store, e_alloc, e_box, SY.get, SY.put, SY.ev, SY.mk, SY.nth, SY.lvl, SY.setl, SY.ini, wid, wids, dr, tk, flat, at1, pack, rdC, rdCt, wrC, wrCt, bopInt, bop, pickAV, isArr, ctOf, enterS, leaveS, retS, finishS, killL, isDefs, resS, resAll, tup1, AV.scal, exq_go, exq_t, exq_f, ↓reduceIte, Nat.reduceLT, Nat.reduceLeDiff, Nat.reduceEqDiff, Nat.reduceAdd, Nat.reduceSub, Bool.not_false, Bool.not_true, List.contains_nil, reduceCtorEq, true_and, List.map_cons, List.map_nil, Bool.and_self, List.length_cons, List.length_nil, List.cons_append, List.nil_append, List.append_nil, Nat.zero_add, Nat.add_zero, Nat.zero_mul, Int.reduceLE, decide_true, ktOf, conK, alive, lndL, lnd, lvB, lvL, okBls, shB, ren, ti3, ti24, ti29, regAt, fi57, body57, Try.f57, fi61, body61, Try.f61, fi62, body62, Try.f62, ↓exq_cd cd_code57, ↓exq_cd cd_c57_1, ↓exq_cd cd_c57_2, ↓exq_cd cd_c57_3, ↓exq_cd cd_c57_5, ↓exq_cd cd_c57_6, ↓exq_cd cd_c57_4, ↓exq_cd cd_c57_10, ↓exq_cd cd_c57_12, ↓exq_cd cd_c57_13, ↓exq_cd cd_c57_14, ↓exq_cd cd_c57_16, ↓exq_cd cd_code61, ↓exq_cd cd_c61_1, ↓exq_cd cd_c61_2, ↓exq_cd cd_c61_3, ↓exq_cd cd_code62, ↓exq_cd cd_c62_1, ↓exq_cd cd_c62_2, ↓exq_cd cd_c62_3, r57_1, r57_5, r57_12, r57_16, r61_1, r61_3, r62_1, r62_3]
    rw [hb]
    exact ⟨[], List.nodup_nil, rfl, rfl, fun l c h => by simp at h⟩
  · by_cases h5 : c' = c
    · subst h5
      by_cases h6 : b < b'
      · have hb : betB b c' b' c' = true := decide_eq_true (.inr ⟨rfl, h6⟩)
        (try rw [exh]); simp (maxSteps := 4000000) only [kR0, sChk, chk_pos h1, chk_pos h2, h4, h6, stops, inK, stepF, frsF, frF, itemF, codeF, condF, opsF, opsW, opF, callO, stepS, wtS, gdst, gdl, sopF, pv, evq, callF, calleeS, quiet, p_move, p_assign, p_pick, p_binOp, p_unOp, p_fieldAddr, l_load, e_store, e_alloc, e_box, SY.get, SY.put, SY.ev, SY.mk, SY.nth, SY.lvl, SY.setl, SY.ini, wid, wids, dr, tk, flat, at1, pack, rdC, rdCt, wrC, wrCt, bopInt, bop, pickAV, isArr, ctOf, enterS, leaveS, retS, finishS, killL, isDefs, resS, resAll, tup1, AV.scal, exq_go, exq_t, exq_f, ↓reduceIte, Nat.reduceLT, Nat.reduceLeDiff, Nat.reduceEqDiff, Nat.reduceAdd, Nat.reduceSub, Bool.not_false, Bool.not_true, List.contains_nil, reduceCtorEq, true_and, List.map_cons, List.map_nil, Bool.and_self, List.length_cons, List.length_nil, List.cons_append, List.nil_append, List.append_nil, Nat.zero_add, Nat.add_zero, Nat.zero_mul, Int.reduceLE, decide_true, decide_false, ktOf, conK, alive, lndL, lnd, lvB, lvL, okBls, shB, ren, ti3, ti24, ti29, regAt, fi57, body57, Try.f57, fi61, body61, Try.f61, fi62, body62, Try.f62, ↓exq_cd cd_code57, ↓exq_cd cd_c57_1, ↓exq_cd cd_c57_2, ↓exq_cd cd_c57_3, ↓exq_cd cd_c57_5, ↓exq_cd cd_c57_6, ↓exq_cd cd_c57_4, ↓exq_cd cd_c57_10, ↓exq_cd cd_c57_12, ↓exq_cd cd_c57_13, ↓exq_cd cd_c57_14, ↓exq_cd cd_c57_16, ↓exq_cd cd_code61, ↓exq_cd cd_c61_1, ↓exq_cd cd_c61_2, ↓exq_cd cd_c61_3, ↓exq_cd cd_code62, ↓exq_cd cd_c62_1, ↓exq_cd cd_c62_2, ↓exq_cd cd_c62_3, r57_1, r57_5, r57_12, r57_16, r61_1, r61_3, r62_1, r62_3]
        rw [hb]
        exact ⟨[], List.nodup_nil, rfl, rfl, fun l c h => by simp at h⟩
      · have hb : betB b c' b' c' = false := decide_eq_false (by omega)
        (try rw [exh]); simp (maxSteps := 4000000) only [kR0, sChk, chk_pos h1, chk_pos h2, h4, h6, stops, inK, stepF, frsF, frF, itemF, codeF, condF, opsF, opsW, opF, callO, stepS, wtS, gdst, gdl, sopF, pv, evq, callF, calleeS, quiet, p_move, p_assign, p_pick, p_binOp, p_unOp, p_fieldAddr, l_load, e_store, e_alloc, e_box, SY.get, SY.put, SY.ev, SY.mk, SY.nth, SY.lvl, SY.setl, SY.ini, wid, wids, dr, tk, flat, at1, pack, rdC, rdCt, wrC, wrCt, bopInt, bop, pickAV, isArr, ctOf, enterS, leaveS, retS, finishS, killL, isDefs, resS, resAll, tup1, AV.scal, exq_go, exq_t, exq_f, ↓reduceIte, Nat.reduceLT, Nat.reduceLeDiff, Nat.reduceEqDiff, Nat.reduceAdd, Nat.reduceSub, Bool.not_false, Bool.not_true, List.contains_nil, reduceCtorEq, true_and, List.map_cons, List.map_nil, Bool.and_self, List.length_cons, List.length_nil, List.cons_append, List.nil_append, List.append_nil, Nat.zero_add, Nat.add_zero, Nat.zero_mul, Int.reduceLE, decide_true, decide_false, ktOf, conK, alive, lndL, lnd, lvB, lvL, okBls, shB, ren, ti3, ti24, ti29, regAt, fi57, body57, Try.f57, fi61, body61, Try.f61, fi62, body62, Try.f62, ↓exq_cd cd_code57, ↓exq_cd cd_c57_1, ↓exq_cd cd_c57_2, ↓exq_cd cd_c57_3, ↓exq_cd cd_c57_5, ↓exq_cd cd_c57_6, ↓exq_cd cd_c57_4, ↓exq_cd cd_c57_10, ↓exq_cd cd_c57_12, ↓exq_cd cd_c57_13, ↓exq_cd cd_c57_11, ↓exq_cd cd_c57_17, ↓exq_cd cd_code61, ↓exq_cd cd_c61_1, ↓exq_cd cd_c61_2, ↓exq_cd cd_c61_3, ↓exq_cd cd_code62, ↓exq_cd cd_c62_1, ↓exq_cd cd_c62_2, ↓exq_cd cd_c62_3, r57_1, r57_5, r57_12, r57_17, r61_1, r61_3, r62_1, r62_3]
        rw [hb]
        exact ⟨[], List.nodup_nil, rfl, rfl, fun l c h => by simp at h⟩
    · have hb : betB b c b' c' = false := decide_eq_false (by omega)
      (try rw [exh]); simp (maxSteps := 4000000) only [kR0, sChk, chk_pos h1, chk_pos h2, h4, h5, stops, inK, stepF, frsF, frF, itemF, codeF, condF, opsF, opsW, opF, callO, stepS, wtS, gdst, gdl, sopF, pv, evq, callF, calleeS, quiet, p_move, p_assign, p_pick, p_binOp, p_unOp, p_fieldAddr, l_load, e_store, e_alloc, e_box, SY.get, SY.put, SY.ev, SY.mk, SY.nth, SY.lvl, SY.setl, SY.ini, wid, wids, dr, tk, flat, at1, pack, rdC, rdCt, wrC, wrCt, bopInt, bop, pickAV, isArr, ctOf, enterS, leaveS, retS, finishS, killL, isDefs, resS, resAll, tup1, AV.scal, exq_go, exq_t, exq_f, ↓reduceIte, Nat.reduceLT, Nat.reduceLeDiff, Nat.reduceEqDiff, Nat.reduceAdd, Nat.reduceSub, Bool.not_false, Bool.not_true, List.contains_nil, reduceCtorEq, true_and, List.map_cons, List.map_nil, Bool.and_self, List.length_cons, List.length_nil, List.cons_append, List.nil_append, List.append_nil, Nat.zero_add, Nat.add_zero, Nat.zero_mul, Int.reduceLE, decide_true, decide_false, ktOf, conK, alive, lndL, lnd, lvB, lvL, okBls, shB, ren, ti3, ti24, ti29, regAt, fi57, body57, Try.f57, fi61, body61, Try.f61, fi62, body62, Try.f62, ↓exq_cd cd_code57, ↓exq_cd cd_c57_1, ↓exq_cd cd_c57_2, ↓exq_cd cd_c57_3, ↓exq_cd cd_c57_5, ↓exq_cd cd_c57_6, ↓exq_cd cd_c57_4, ↓exq_cd cd_c57_10, ↓exq_cd cd_c57_12, ↓exq_cd cd_c57_13, ↓exq_cd cd_c57_11, ↓exq_cd cd_c57_17, ↓exq_cd cd_code61, ↓exq_cd cd_c61_1, ↓exq_cd cd_c61_2, ↓exq_cd cd_c61_3, ↓exq_cd cd_code62, ↓exq_cd cd_c62_1, ↓exq_cd cd_c62_2, ↓exq_cd cd_c62_3, r57_1, r57_5, r57_12, r57_17, r61_1, r61_3, r62_1, r62_3]
      rw [hb]
      exact ⟨[], List.nodup_nil, rfl, rfl, fun l c h => by simp at h⟩
theorem rmm_ok : SpecOk Try.prog (plOf pls) 57 sMM := by
  refine ⟨_, fi57, fun args r bl1 h => ?_⟩
  unfold sMM at h
  split at h
  · simp only [Option.some.injEq, Prod.mk.injEq, Bool.and_eq_true, decide_eq_true_eq] at h
    obtain ⟨⟨h1, h2, rfl⟩, rfl, rfl⟩ := h
    exact ⟨by simp, fun C _ _ => rmm_run C _ _ _ _ _ h1 h2⟩
  · cases h
end Go.Proofs.Ytdanhpemheldlaa

/- Views: the document's view behind one more word. -/
-- FUNCTIONS 41
namespace Go.Proofs.Ytdanhpemheldlaa
open Go Go.SY
def kQ : KT := ktOf [(57, sMM)]
theorem kQ_ok : KOk Try.prog (plOf pls) kQ := ktOf_ok plsOk fun x hx => by
  simp only [List.mem_cons, List.not_mem_nil, or_false] at hx
  subst hx
  exact rmm_ok
def tQ (t : Bool) (os : List (List AV)) (c : Option Nat) (b : Bool) (l i : Nat) : TM := [(7, .v (.int .i64 i)), (6, .v (.bool b)), (5, .sl 0 0 3 l none), (3, .ptr 1 0 3 0), (0, .imr t 3 os c)]
theorem tQ_lv {os : List (List AV)} (hf : FlatR os) (t : Bool) (c : Option Nat) (b : Bool) (l i N : Nat) : lvT (N + 2) true (tQ t os c b l i) = true := by
  cases t <;> simp [tQ, lvT, lvB, tB, hf.lv]
def mLit (m : List AV) : Option Ct := some (.lit [.v (.int .i64 (idR m)), .v (.int .i64 (stR m)), .v (.int .i64 (icR m))])
theorem take_row {N : List (List AV)} {k : Nat} {r : List AV} (h : k < N.length) (hr : isM r = true) (e : rowA N k = r) : N.take k ++ [[.v (.int .i64 (idR r)), .v (.int .i64 (stR r)), .v (.int .i64 (icR r))]] = N.take (k + 1) := by
  rw [List.take_add_one, List.getElem?_eq_getElem h, ← rowA_get h, e, ← isM_eq hr]
  rfl
theorem mIns_lo {os : List (List AV)} {m : List AV} {i : Nat} (h : i < posR os (idR m)) : rowA (mIns os m) i = rowA os i := by
  have hp := posR_le (rs := os) (k := idR m)
  unfold mIns
  split
  · rename_i hf
    rw [setR_at (of_decide_eq_true hf).1, if_neg (by omega)]
  · exact insR_lo hp h
set_option maxRecDepth 100000 in
set_option maxHeartbeats 4000000 in
theorem merged_run (C : Ctx) (hC : C.β.b = []) (t : Bool) (os : List (List AV)) (c : Option Nat) (m : List AV) (hom : os.all isM = true) (hx : os.length ≤ 200000) (hv : vOk os 0 = true) (hmm : MemR m) (him : isM m = true) :
    Rch Try.prog (plOf pls) C (conf0 41 ⟨67, [.tmp 4], code41⟩ [.imr t 3 os c, .agg [.v (.int .i64 (idR m)), .v (.int .i64 (stR m)), .v (.int .i64 (icR m))]] []) (Res (.sl 0 0 3 (mIns os m).length none) [some (.rows 3 (mIns os m))]) := by
  have hf := isM_flat hom
  obtain ⟨hn1, hn2⟩ := mIns_ok hv hom hmm him
  have hhn := isM_flat hn2
  have hsrt := posR_iff (k := idR m) (vOk_from hv).2
  have hpl := posR_le (rs := os) (k := idR m)
  have htkf : ∀ k, FlatR ((mIns os m).take k) := fun k => isM_flat (take_all hn2 k)
  have hnl := mIns_len (rs := os) (m := m)
  refine ExQ_ok [] 2000 plsOk kQ_ok ?_
  simp only [conf0]
  (try rw [exh]); simp (maxSteps := 4000000) only [kQ, stops, inK, stepF, frsF, frF, itemF, codeF, opsF, opsW, opF, wtS, sopF, pv, evq, quiet, p_assign, e_box, SY.get, SY.put, SY.ev, SY.mk, SY.ini, wid, wids, flat, isArr, ctOf, exq_go, ↓reduceIte, Nat.reduceLT, Nat.reduceAdd, reduceCtorEq, true_and, Bool.and_self, List.length_nil, List.nil_append, Nat.zero_add, Nat.add_zero, Int.reduceLE, decide_true, ktOf, ti29, regAt, body41, Try.f41, ↓exq_cd cd_code41, ↓exq_cd cd_c41_1, ↓exq_cd cd_c41_2, ↓exq_cd cd_c41_3, ↓exq_cd cd_c41_4, ↓exq_cd cd_c41_5, ↓exq_cd cd_c41_6, ↓exq_cd cd_c41_7, ↓exq_cd cd_c41_9, ↓exq_cd cd_c41_10, ↓exq_cd cd_c41_11, r41_1, r41_3, r41_5, r41_9]
  repeat (refine And.intro (a := (_ = true)) (by first | (simp; done) | (simp; omega)) ?_)
  refine Rch.nilslR 5 0 3 3 rfl rfl ?_
  refine Rch.loop plsOk ?_
  refine Rch.fit1 hC [1, 0] (tm' := tQ t os c false 0 0) (bl' := [some (.rows 3 ((mIns os m).take 0)), mLit m]) rfl (by decide) rfl ⟨rfl, rfl, rfl, rfl, congrArg (fun x => AV.imr t 3 x c) (hf.ren _).symm, trivial⟩ (tQ_lv hf ..) ⟨⟨rfl, rfl⟩, ⟨rfl, rfl⟩, trivial⟩ ?_
  have htk : ∀ d, ((mIns os m).take d).take ((mIns os m).take d).length = (mIns os m).take d := fun d => List.take_of_length_le (Nat.le_refl _)
  refine loop_ind plsOk (α := {a : (Nat × Nat) × Bool // a.1.1 ≤ os.length ∧ a.2 = decide (posR os (idR m) < a.1.1) ∧ a.1.2 = a.1.1 + if fndR os (idR m) = true then 0 else if posR os (idR m) < a.1.1 then 1 else 0}) (fun a => os.length - a.1.1.1) (fun a => tQ t os c a.1.2 ((mIns os m).take a.1.1.2).length a.1.1.1) (fun a => [some (.rows 3 ((mIns os m).take a.1.1.2)), mLit m]) (fun _ => Res (.sl 0 0 3 (mIns os m).length none) [some (.rows 3 (mIns os m))]) ?_ ⟨((0, 0), false), Nat.zero_le _, by simp, by simp only; split <;> simp⟩
  rintro ⟨⟨⟨i, d⟩, b⟩, hi, hb, hd⟩ ih
  simp only [tQ, mLit] at hi hb hd ih ⊢
  by_cases h : (i : Int) < os.length
  · have hi' : i < os.length := by omega
    have e := isM_row hom hi'
    have hri := all_row hom hi'
    rcases Nat.lt_trichotomy i (posR os (idR m)) with hip | hip | hip
    · obtain rfl : b = false := by rw [hb]; simp; omega
      obtain rfl : d = i := by rw [hd]; split <;> (try split) <;> omega
      have hlt := (hsrt d hi').2 hip
      have g1 : ¬ idR m ≤ idR (rowA os d) := by omega
      have hdn : d < (mIns os m).length := by
        unfold mIns
        split
        · rw [List.length_set]; exact hi'
        · rw [insR_len hpl]; omega
      have hs' := take_row hdn hri (mIns_lo hip)
      have hk := htk d
      refine ExQ_ok [] 2000 plsOk kQ_ok ?_
      (try rw [exh]); simp (maxSteps := 4000000) only [kQ, h, e, g1, hk, tk1', hs', stops, inK, stepF, frsF, frF, itemF, codeF, condF, opsF, opsW, opF, drF, drO, drW, drC, wtS, gdst, gdl, sopF, pv, evq, bltF, callF, popF, lopF, cls, rdl, quiet, p_move, p_assign, p_pick, p_binOp, p_unOp, p_fieldAddr, p_indexAddr, p_len, l_load, zerR, roomR, appRR, srcR, dstR, e_buildSlice, e_append, SY.get, SY.put, SY.ev, SY.mk, SY.nth, SY.lvl, SY.setl, wid, wids, dr, tk, flat, at1, pack, rdC, rdCt, wrC, ar, bopInt, bop, pickAV, fillA, immL, rowsOf, rep, elCt, killO, dstR, srcR, AV.scal, plk, exq_go, exq_t, exq_f, ↓reduceIte, Nat.reduceLT, Nat.reduceLeDiff, Nat.reduceEqDiff, Nat.reduceAdd, Nat.reduceSub, Nat.reduceMul, Bool.and_true, Bool.true_and, Bool.not_false, Bool.not_true, reduceCtorEq, true_and, List.map_cons, List.map_nil, Bool.and_self, List.drop_zero, List.length_cons, List.length_nil, List.cons_append, List.nil_append, List.append_nil, Nat.zero_add, Nat.add_zero, Nat.zero_mul, Int.toNat_natCast, Int.reduceLE, decide_true, decide_false, ktOf, ti3, ti22, ti29, regAt, body41, Try.f41, ↓exq_cd cd_c41_12, ↓exq_cd cd_c41_13, ↓exq_cd cd_c41_15, ↓exq_cd cd_c41_16, ↓exq_cd cd_c41_14, ↓exq_cd cd_c41_18, ↓exq_cd cd_c41_20, ↓exq_cd cd_c41_21, ↓exq_cd cd_c41_23, ↓exq_cd cd_c41_24, ↓exq_cd cd_c41_22, ↓exq_cd cd_c41_19, r41_15, r41_23, r41_22, r41_19, plA41, pl41]
      repeat (refine And.intro (a := (_ = true)) (by first | (simp; done) | (simp; omega)) ?_)
      refine Rch.fit1 hC [3, 1] (tm' := tQ t os c false ((mIns os m).take (d + 1)).length (d + 1)) (bl' := [some (.rows 3 ((mIns os m).take (d + 1))), mLit m]) rfl (by decide) rfl ⟨rfl, rfl, rfl, rfl, congrArg (fun x => AV.imr t 3 x c) (hf.ren _).symm, trivial⟩ (tQ_lv hf ..) ⟨⟨by rw [renRows (htkf _)]; exact rfl, lvRows (htkf _) ..⟩, ⟨rfl, rfl⟩, trivial⟩ ?_
      exact ih ⟨((d + 1, d + 1), false), by simp only; omega, by simp; omega, by simp only; split <;> (try split) <;> omega⟩ (by simp only; omega)
    · obtain rfl : b = false := by rw [hb]; simp; omega
      obtain rfl : d = i := by rw [hd]; split <;> (try split) <;> omega
      have hge : ¬ idR (rowA os d) < idR m := fun h => by have := (hsrt d hi').1 h; omega
      have g1 : idR m ≤ idR (rowA os d) := by omega
      have hk := htk d
      cases hfd : fndR os (idR m) with
      | true =>
        obtain ⟨hp, hid⟩ := of_decide_eq_true hfd
        have hN : mIns os m = os.set d (betR (rowA os d) m) := by rw [mIns_old hfd, ← hip]
        rw [← hip] at hid
        have hdn : d < (mIns os m).length := by rw [hN, List.length_set]; exact hi'
        have hmo := ((vOk_from hv).1 d hi').1
        unfold MemR at hmo
        rw [hid] at hmo
        have dm1 := decide_eq_true hmo
        have dm2 := decide_eq_true (show MemOk _ _ _ from hmm)
        have s3 := take_row (N := mIns os m) (k := d) (r := betR (rowA os d) m) hdn rfl (by rw [hN, setR_at hi', if_pos rfl])
        rw [show idR (betR (rowA os d) m) = idR m from hid, show stR (betR (rowA os d) m) = (if betB (stR (rowA os d)) (icR (rowA os d)) (stR m) (icR m) = true then stR m else stR (rowA os d)) from rfl, show icR (betR (rowA os d) m) = (if betB (stR (rowA os d)) (icR (rowA os d)) (stR m) (icR m) = true then icR m else icR (rowA os d)) from rfl] at s3
        refine ExQ_ok [] 66 plsOk kQ_ok ?_
        (try rw [exh]); simp (maxSteps := 4000000) only [kQ, h, e, hid, Int.le_refl, stops, stepF, frsF, frF, itemF, codeF, condF, opsF, opsW, opF, drF, drO, drW, drC, wtS, gdst, gdl, sopF, pv, bltF, callF, popF, lopF, cls, rdl, p_move, p_assign, p_pick, p_binOp, p_unOp, p_fieldAddr, p_indexAddr, p_len, l_load, SY.get, SY.put, SY.ev, SY.mk, SY.nth, SY.lvl, dr, at1, rdC, rdCt, bopInt, bop, pickAV, AV.scal, plk, exq_zero, exq_go, exq_t, ↓reduceIte, Nat.reduceLT, Nat.reduceEqDiff, Nat.reduceAdd, Nat.reduceSub, Bool.and_true, Bool.not_false, Bool.not_true, reduceCtorEq, true_and, Nat.zero_add, Nat.add_zero, Nat.zero_mul, Int.toNat_natCast, decide_true, ktOf, ti3, ti22, ti29, regAt, body41, Try.f41, ↓exq_cd cd_c41_12, ↓exq_cd cd_c41_13, ↓exq_cd cd_c41_15, ↓exq_cd cd_c41_16, ↓exq_cd cd_c41_14, ↓exq_cd cd_c41_18, ↓exq_cd cd_c41_20, ↓exq_cd cd_c41_21, ↓exq_cd cd_c41_23, ↓exq_cd cd_c41_24, ↓exq_cd cd_c41_25, ↓exq_cd cd_c41_27, ↓exq_cd cd_c41_28, ↓exq_cd cd_c41_29, ↓exq_cd cd_c41_31, ↓exq_cd cd_c41_32, ↓exq_cd cd_c41_33, r41_15, r41_23, r41_27, r41_31, plA41, pl41]
        repeat (refine And.intro (a := (_ = true)) (by first | (simp; done) | (simp; omega)) ?_)
        refine Rch.fit1 hC [0, 1] (tm' := tQ t os c true ((mIns os m).take (d)).length (d)) (bl' := [some (.rows 3 ((mIns os m).take (d))), mLit m]) rfl (by decide) rfl ⟨rfl, rfl, rfl, rfl, congrArg (fun x => AV.imr t 3 x c) (hf.ren _).symm, trivial⟩ (tQ_lv hf ..) ⟨⟨by rw [renRows (htkf _)]; exact rfl, lvRows (htkf _) ..⟩, ⟨rfl, rfl⟩, trivial⟩ ?_
        simp only [tQ, mLit]
        rw [cd_c41_35]
        refine Rch.alts plsOk (t := ptG) (by kernel_rfl) ?_
        intro p' hp'
        simp only [ptG, leaves, List.cons_append, List.nil_append, List.mem_cons, List.not_mem_nil, or_false] at hp'
        rcases hp' with rfl | rfl
        · refine ExQ_ok [] 2000 plsOk kQ_ok ?_
          (try rw [exh]); simp (maxSteps := 4000000) only [kQ, sMM, h, e, hid, dm1, dm2, decide_true, hk, tk1', s3, stops, inK, stepF, frsF, frF, itemF, codeF, opsF, opsW, opF, callO, drF, drO, drW, drC, stepS, wtS, sopF, pv, evq, bltF, callF, calleeS, popF, lopF, cls, lvA, rdl, quiet, p_move, p_assign, p_binOp, p_indexAddr, p_extract, l_load, zerR, roomR, appRR, srcR, dstR, e_store, e_alloc, e_buildSlice, e_append, SY.get, SY.put, SY.ev, SY.mk, SY.nth, SY.lvl, SY.setl, wid, wids, dr, tk, flat, pack, rdC, rdCt, wrC, wrCt, ar, bopInt, bop, fillA, immL, isArr, ctOf, rowsOf, rep, elCt, killO, dstR, srcR, exitS, exq_go, ↓reduceIte, Nat.reduceLT, Nat.reduceLeDiff, Nat.reduceEqDiff, Nat.reduceAdd, Nat.reduceSub, Nat.reduceMul, Bool.and_true, Bool.true_and, List.contains_nil, reduceCtorEq, true_and, Bool.false_eq_true, List.map_cons, List.map_nil, Bool.and_self, List.drop_zero, List.length_cons, List.length_nil, List.cons_append, List.nil_append, List.append_nil, Nat.zero_add, Nat.add_zero, Nat.zero_mul, Int.toNat_natCast, Int.reduceLE, decide_true, ktOf, conK, alive, lndL, lnd, lvB, lvL, okBls, shB, ren, renL, ti3, ti22, ti29, regAt, body41, Try.f41, ↓exq_cd cd_c41_36, ↓exq_cd cd_c41_37, ↓exq_cd cd_c41_19, r41_35, r41_37, r41_19]
          repeat (refine And.intro (a := (_ = true)) (by first | (simp; done) | (simp; omega)) ?_)
          refine Rch.fit1 hC [4, 1] (tm' := tQ t os c true ((mIns os m).take (d + 1)).length (d + 1)) (bl' := [some (.rows 3 ((mIns os m).take (d + 1))), mLit m]) rfl (by decide) rfl ⟨rfl, rfl, rfl, rfl, congrArg (fun x => AV.imr t 3 x c) (hf.ren _).symm, trivial⟩ (tQ_lv hf ..) ⟨⟨by rw [renRows (htkf _)]; exact rfl, lvRows (htkf _) ..⟩, ⟨rfl, rfl⟩, trivial⟩ ?_
          exact ih ⟨((d + 1, d + 1), true), by simp only; omega, by simp; omega, by simp only; rw [if_pos hfd]⟩ (by simp only; omega)
        · refine ExQ_ok [] 2000 plsOk kQ_ok ?_
          (try rw [exh]); simp (maxSteps := 4000000) only [kQ, sMM, h, e, hid, dm1, dm2, decide_true, hk, tk1', s3, stops, inK, stepF, frsF, frF, itemF, codeF, opsF, opsW, opF, callO, drF, drO, drW, drC, stepS, wtS, sopF, pv, evq, bltF, callF, calleeS, popF, lopF, cls, lvA, rdl, quiet, p_move, p_assign, p_binOp, p_indexAddr, p_extract, l_load, zerR, roomR, appRR, srcR, dstR, e_store, e_alloc, e_buildSlice, e_append, SY.get, SY.put, SY.ev, SY.mk, SY.nth, SY.lvl, SY.setl, wid, wids, dr, tk, flat, pack, rdC, rdCt, wrC, wrCt, ar, bopInt, bop, fillA, immL, isArr, ctOf, rowsOf, rep, elCt, killO, dstR, srcR, exitS, exq_go, ↓reduceIte, Nat.reduceLT, Nat.reduceLeDiff, Nat.reduceEqDiff, Nat.reduceAdd, Nat.reduceSub, Nat.reduceMul, Nat.reduceBEq, Bool.and_true, Bool.true_and, List.contains_nil, List.contains_cons, Bool.or_false, Bool.false_or, reduceCtorEq, true_and, Bool.false_eq_true, List.map_cons, List.map_nil, Bool.and_self, List.drop_zero, List.length_cons, List.length_nil, List.cons_append, List.nil_append, List.append_nil, Nat.zero_add, Nat.add_zero, Nat.zero_mul, Int.toNat_natCast, Int.reduceLE, decide_true, ktOf, conK, alive, lndL, lnd, lvB, lvL, okBls, shB, ren, renL, ti3, ti22, ti29, regAt, body41, Try.f41, ↓exq_cd cd_c41_36, ↓exq_cd cd_c41_37, ↓exq_cd cd_c41_19, r41_35, r41_37, r41_19]
          repeat (refine And.intro (a := (_ = true)) (by first | (simp; done) | (simp; omega)) ?_)
          refine Rch.fit1 hC [4, 1] (tm' := tQ t os c true ((mIns os m).take (d + 1)).length (d + 1)) (bl' := [some (.rows 3 ((mIns os m).take (d + 1))), mLit m]) rfl (by decide) rfl ⟨rfl, rfl, rfl, rfl, congrArg (fun x => AV.imr t 3 x c) (hf.ren _).symm, trivial⟩ (tQ_lv hf ..) ⟨⟨by rw [renRows (htkf _)]; exact rfl, lvRows (htkf _) ..⟩, ⟨rfl, rfl⟩, trivial⟩ ?_
          exact ih ⟨((d + 1, d + 1), true), by simp only; omega, by simp; omega, by simp only; rw [if_pos hfd]⟩ (by simp only; omega)
      | false =>
        have hne : ¬ idR (rowA os d) = idR m := fun h => by
          have : fndR os (idR m) = true := decide_eq_true ⟨by omega, by rw [← hip]; exact h⟩
          rw [hfd] at this; cases this
        have hN : mIns os m = insR os d m := by rw [mIns, if_neg (by rw [hfd]; decide), ← hip]
        have hNl : (mIns os m).length = os.length + 1 := by rw [hN, insR_len (by omega)]
        have s1 := take_row (N := mIns os m) (k := d) (by omega) him (by rw [hN]; exact insR_eq (by omega))
        have s2 := take_row (N := mIns os m) (k := d + 1) (by omega) hri (by rw [hN, insR_hi (by omega) (by omega)]; rfl)
        have hk2 := htk (d + 1)
        refine ExQ_ok [] 2000 plsOk kQ_ok ?_
        (try rw [exh]); simp (maxSteps := 4000000) only [kQ, h, e, g1, hne, hk, hk2, tk1', s1, s2, stops, inK, stepF, frsF, frF, itemF, codeF, condF, opsF, opsW, opF, drF, drO, drW, drC, wtS, gdst, gdl, sopF, pv, evq, bltF, callF, popF, lopF, cls, rdl, quiet, p_move, p_assign, p_pick, p_binOp, p_unOp, p_fieldAddr, p_indexAddr, p_len, l_load, zerR, roomR, appRR, srcR, dstR, e_buildSlice, e_append, SY.get, SY.put, SY.ev, SY.mk, SY.nth, SY.lvl, SY.setl, wid, wids, dr, tk, flat, at1, pack, rdC, rdCt, wrC, ar, bopInt, bop, pickAV, fillA, immL, rowsOf, rep, elCt, killO, dstR, srcR, AV.scal, plk, exq_go, exq_t, exq_f, ↓reduceIte, Nat.reduceLT, Nat.reduceLeDiff, Nat.reduceEqDiff, Nat.reduceAdd, Nat.reduceSub, Nat.reduceMul, Bool.and_true, Bool.true_and, Bool.not_false, Bool.not_true, reduceCtorEq, true_and, List.map_cons, List.map_nil, Bool.and_self, List.drop_zero, List.length_cons, List.length_nil, List.cons_append, List.nil_append, List.append_nil, Nat.zero_add, Nat.add_zero, Nat.zero_mul, Int.toNat_natCast, Int.reduceLE, decide_true, decide_false, ktOf, ti3, ti22, ti29, regAt, body41, Try.f41, ↓exq_cd cd_c41_12, ↓exq_cd cd_c41_13, ↓exq_cd cd_c41_15, ↓exq_cd cd_c41_16, ↓exq_cd cd_c41_14, ↓exq_cd cd_c41_18, ↓exq_cd cd_c41_20, ↓exq_cd cd_c41_21, ↓exq_cd cd_c41_23, ↓exq_cd cd_c41_24, ↓exq_cd cd_c41_25, ↓exq_cd cd_c41_27, ↓exq_cd cd_c41_28, ↓exq_cd cd_c41_29, ↓exq_cd cd_c41_31, ↓exq_cd cd_c41_32, ↓exq_cd cd_c41_30, ↓exq_cd cd_c41_22, ↓exq_cd cd_c41_19, r41_15, r41_23, r41_27, r41_31, r41_30, r41_22, r41_19, plA41, pl41]
        repeat (refine And.intro (a := (_ = true)) (by first | (simp; done) | (simp; omega)) ?_)
        refine Rch.fit1 hC [5, 1] (tm' := tQ t os c true ((mIns os m).take (d + 1 + 1)).length (d + 1)) (bl' := [some (.rows 3 ((mIns os m).take (d + 1 + 1))), mLit m]) rfl (by decide) rfl ⟨rfl, rfl, rfl, rfl, congrArg (fun x => AV.imr t 3 x c) (hf.ren _).symm, trivial⟩ (tQ_lv hf ..) ⟨⟨by rw [renRows (htkf _)]; exact rfl, lvRows (htkf _) ..⟩, ⟨rfl, rfl⟩, trivial⟩ ?_
        exact ih ⟨((d + 1, d + 1 + 1), true), by simp only; omega, by simp; omega, by simp only; rw [hfd, if_neg (by decide), if_pos (by omega)]⟩ (by simp only; omega)
    · obtain rfl : b = true := by rw [hb]; simp; omega
      have hk := htk d
      have hNd : d < (mIns os m).length ∧ rowA (mIns os m) d = rowA os i := by
        unfold mIns
        split
        · rename_i hfd
          rw [if_pos hfd] at hd
          obtain ⟨hp, hid⟩ := of_decide_eq_true hfd
          rw [List.length_set, setR_at hp, if_neg (by omega), show d = i by omega]
          exact ⟨hi', rfl⟩
        · rename_i hfd
          rw [if_neg hfd, if_pos hip] at hd
          rw [insR_len hpl, insR_hi hpl (by omega), show d - 1 = i by omega]
          exact ⟨by omega, rfl⟩
      have hs' := take_row hNd.1 hri hNd.2
      refine ExQ_ok [] 2000 plsOk kQ_ok ?_
      (try rw [exh]); simp (maxSteps := 4000000) only [kQ, h, e, hk, tk1', hs', stops, inK, stepF, frsF, frF, itemF, codeF, condF, opsF, opsW, opF, drF, drO, drW, drC, wtS, gdst, gdl, sopF, pv, evq, bltF, callF, popF, cls, quiet, p_move, p_assign, p_pick, p_binOp, p_unOp, p_indexAddr, p_len, l_load, zerR, roomR, appRR, srcR, dstR, e_buildSlice, e_append, SY.get, SY.put, SY.ev, SY.mk, SY.nth, SY.lvl, SY.setl, wid, wids, dr, tk, flat, pack, rdC, wrC, ar, bopInt, bop, pickAV, fillA, immL, rowsOf, rep, elCt, killO, dstR, srcR, plk, exq_go, exq_t, exq_f, ↓reduceIte, Nat.reduceLT, Nat.reduceLeDiff, Nat.reduceEqDiff, Nat.reduceAdd, Nat.reduceSub, Nat.reduceMul, Bool.and_true, Bool.true_and, Bool.not_true, reduceCtorEq, true_and, List.map_cons, List.map_nil, Bool.and_self, List.drop_zero, List.length_cons, List.length_nil, List.cons_append, List.nil_append, List.append_nil, Nat.zero_add, Nat.add_zero, Nat.zero_mul, Int.toNat_natCast, Int.reduceLE, decide_true, ktOf, ti3, ti22, ti29, regAt, body41, Try.f41, ↓exq_cd cd_c41_12, ↓exq_cd cd_c41_13, ↓exq_cd cd_c41_15, ↓exq_cd cd_c41_16, ↓exq_cd cd_c41_14, ↓exq_cd cd_c41_18, ↓exq_cd cd_c41_20, ↓exq_cd cd_c41_21, ↓exq_cd cd_c41_23, ↓exq_cd cd_c41_24, ↓exq_cd cd_c41_22, ↓exq_cd cd_c41_19, r41_15, r41_23, r41_22, r41_19, plA41, pl41]
      repeat (refine And.intro (a := (_ = true)) (by first | (simp; done) | (simp; omega)) ?_)
      refine Rch.fit1 hC [3, 1] (tm' := tQ t os c true ((mIns os m).take (d + 1)).length (i + 1)) (bl' := [some (.rows 3 ((mIns os m).take (d + 1))), mLit m]) rfl (by decide) rfl ⟨rfl, rfl, rfl, rfl, congrArg (fun x => AV.imr t 3 x c) (hf.ren _).symm, trivial⟩ (tQ_lv hf ..) ⟨⟨by rw [renRows (htkf _)]; exact rfl, lvRows (htkf _) ..⟩, ⟨rfl, rfl⟩, trivial⟩ ?_
      exact ih ⟨((i + 1, d + 1), true), by simp only; omega, by simp; omega, by simp only; rw [hd]; split <;> (try rw [if_pos hip]) <;> (try rw [if_pos (show posR os (idR m) < i + 1 by omega)]) <;> omega⟩ (by simp only; omega)
  · obtain rfl : i = os.length := by omega
    clear ih
    have hk := htk d
    by_cases hpn : posR os (idR m) < os.length
    · obtain rfl : b = true := by rw [hb]; simp; omega
      have hNd : (mIns os m).length = d := by
        unfold mIns
        split
        · rename_i hfd
          rw [if_pos hfd] at hd
          rw [List.length_set]; omega
        · rename_i hfd
          rw [if_neg hfd, if_pos hpn] at hd
          rw [insR_len hpl]; omega
      have hN0 : (mIns os m).take d = mIns os m := List.take_of_length_le (by omega)
      rw [hN0]
      refine ExQ_ok [] 2000 plsOk kQ_ok ?_
      (try rw [exh]); simp (maxSteps := 4000000) only [kQ, h, stops, stepF, frsF, frF, itemF, codeF, condF, opsF, opsW, opF, stepS, wtS, sopF, pv, bltF, callF, p_move, p_assign, p_binOp, p_unOp, p_len, SY.get, SY.put, SY.ev, bopInt, bop, leaveS, retS, exitS, killL, isDefs, resS, resAll, tup1, exq_go, exq_f, ↓reduceIte, Nat.reduceLT, Nat.reduceEqDiff, Nat.reduceAdd, Bool.not_true, reduceCtorEq, true_and, decide_false, ktOf, ti3, ti22, regAt, fi41, body41, Try.f41, ↓exq_cd cd_c41_12, ↓exq_cd cd_c41_13, ↓exq_cd cd_c41_15, ↓exq_cd cd_c41_16, ↓exq_cd cd_c41_8, ↓exq_cd cd_c41_38, ↓exq_cd cd_c41_40, ↓exq_cd cd_c41_41, ↓exq_cd cd_c41_39, ↓exq_cd cd_c41_44, r41_15, r41_40, r41_44]
      repeat (refine And.intro (a := (_ = true)) (by first | (simp; done) | (simp; omega)) ?_)
      refine ⟨[0], by decide, rfl, rfl, fun l x hl => ?_⟩
      match l with
      | 0 => simp at hl; subst hl; rw [renRows hhn]; rfl
      | l + 1 => simp at hl
    · obtain rfl : b = false := by rw [hb]; simp; omega
      have hfd : ¬ fndR os (idR m) = true := fun hfd => hpn (of_decide_eq_true hfd).1
      have hpe : posR os (idR m) = os.length := by omega
      have hN : mIns os m = insR os os.length m := by rw [mIns, if_neg hfd, hpe]
      have hNl : (mIns os m).length = os.length + 1 := by rw [hN, insR_len (Nat.le_refl _)]
      obtain rfl : d = os.length := by rw [hd, if_neg hfd, if_neg hpn]; rfl
      have s1 := take_row (N := mIns os m) (k := os.length) (by omega) him (by rw [hN]; exact insR_eq (Nat.le_refl _))
      have hN0 : (mIns os m).take (os.length + 1) = mIns os m := List.take_of_length_le (by omega)
      rw [hN0] at s1
      refine ExQ_ok [] 2000 plsOk kQ_ok ?_
      (try rw [exh]); simp (maxSteps := 4000000) only [kQ, h, hk, tk1', s1, stops, inK, stepF, frsF, frF, itemF, codeF, condF, opsF, opsW, opF, stepS, wtS, sopF, pv, evq, bltF, callF, quiet, p_move, p_assign, p_binOp, p_unOp, p_len, l_load, zerR, roomR, appRR, srcR, dstR, e_buildSlice, e_append, SY.get, SY.put, SY.ev, SY.mk, SY.lvl, SY.setl, wid, wids, dr, tk, flat, pack, rdC, rdCt, wrC, bopInt, bop, fillA, immL, rowsOf, rep, elCt, killO, dstR, srcR, leaveS, retS, exitS, killL, isDefs, resS, resAll, tup1, exq_go, exq_t, exq_f, ↓reduceIte, Nat.reduceLT, Nat.reduceLeDiff, Nat.reduceEqDiff, Nat.reduceAdd, Nat.reduceSub, Nat.reduceMul, Bool.and_true, Bool.true_and, Bool.not_false, reduceCtorEq, true_and, List.map_cons, List.map_nil, Bool.and_self, List.drop_zero, List.length_cons, List.length_nil, List.cons_append, List.nil_append, List.append_nil, Nat.zero_add, Nat.add_zero, Nat.zero_mul, decide_true, decide_false, ktOf, ti3, ti22, ti29, regAt, fi41, body41, Try.f41, ↓exq_cd cd_c41_12, ↓exq_cd cd_c41_13, ↓exq_cd cd_c41_15, ↓exq_cd cd_c41_16, ↓exq_cd cd_c41_8, ↓exq_cd cd_c41_38, ↓exq_cd cd_c41_40, ↓exq_cd cd_c41_41, ↓exq_cd cd_c41_42, ↓exq_cd cd_c41_39, ↓exq_cd cd_c41_44, r41_15, r41_40, r41_42, r41_44]
      repeat (refine And.intro (a := (_ = true)) (by first | (simp; done) | (simp; omega)) ?_)
      refine ⟨[3], by decide, rfl, rfl, fun l x hl => ?_⟩
      match l with
      | 0 => simp at hl; subst hl; rw [renRows hhn]; rfl
      | l + 1 => simp at hl
def sMrd : List AV → Option (Bool × AV × Bls)
  | [.imr _ 3 os _, .agg [.v (.int .i64 a), .v (.int .i64 b), .v (.int .i64 c)]] => some (os.all isM && (decide (os.length ≤ 200000) && (vOk os 0 && decide (MemOk a b c))), .sl 0 0 3 (mIns os [.v (.int .i64 a), .v (.int .i64 b), .v (.int .i64 c)]).length none, [some (.rows 3 (mIns os [.v (.int .i64 a), .v (.int .i64 b), .v (.int .i64 c)]))])
  | _ => none
theorem mrd_ok : SpecOk Try.prog (plOf pls) 41 sMrd := by
  refine ⟨_, fi41, fun args r bl1 h => ?_⟩
  unfold sMrd at h
  split at h
  · simp only [Option.some.injEq, Prod.mk.injEq, Bool.and_eq_true, decide_eq_true_eq] at h
    obtain ⟨⟨h1, h2, h3, h4⟩, rfl, rfl⟩ := h
    exact ⟨by simp, fun C hC _ => merged_run C hC _ _ _ [.v (.int .i64 _), .v (.int .i64 _), .v (.int .i64 _)] h1 h2 h3 h4 rfl⟩
  · cases h
end Go.Proofs.Ytdanhpemheldlaa

/- Views: the document's Merge. -/
-- FUNCTIONS 11
namespace Go.Proofs.Ytdanhpemheldlaa
open Go Go.SY
def kS : KT := ktOf [(26, sV), (40, sChk), (41, sMrd), (42, sWord)]
theorem kS_ok : KOk Try.prog (plOf pls) kS := ktOf_ok plsOk fun x hx => by
  simp only [List.mem_cons, List.not_mem_nil, or_false] at hx
  rcases hx with rfl | rfl | rfl | rfl
  · exact rvchk_ok
  · exact rchk_ok
  · exact mrd_ok
  · exact word_ok
def tR1 (t u : Bool) (vs ws : List (List AV)) (c d : Option Nat) (i : Nat) : TM := [(7, .v (.int .i64 i)), (0, .imr t 3 vs c), (1, .imr u 3 ws d)]
theorem tR1_lv {vs ws : List (List AV)} (hf : FlatR vs) (hg : FlatR ws) (t u : Bool) (c d : Option Nat) (i N : Nat) : lvT N true (tR1 t u vs ws c d i) = true := by
  cases t <;> cases u <;> simp [tR1, lvT, lvB, tB, hf.lv, hg.lv]
def tR2 (t u : Bool) (vs ws : List (List AV)) (c d : Option Nat) (n i : Nat) : TM := [(9, .v (.int .i64 i)), (8, .sl 0 0 3 n none), (0, .imr t 3 vs c), (1, .imr u 3 ws d)]
theorem tR2_lv {vs ws : List (List AV)} (hf : FlatR vs) (hg : FlatR ws) (t u : Bool) (c d : Option Nat) (n i N : Nat) : lvT (N + 1) true (tR2 t u vs ws c d n i) = true := by
  cases t <;> cases u <;> simp [tR2, lvT, lvB, tB, hf.lv, hg.lv]
def tR3 (t u : Bool) (vs ws : List (List AV)) (c d : Option Nat) (n m i : Nat) : TM := [(11, .v (.int .i64 i)), (10, .sl 1 0 3 m none), (8, .sl 0 0 3 n none), (0, .imr t 3 vs c), (1, .imr u 3 ws d)]
theorem tR3_lv {vs ws : List (List AV)} (hf : FlatR vs) (hg : FlatR ws) (t u : Bool) (c d : Option Nat) (n m i N : Nat) : lvT (N + 2) true (tR3 t u vs ws c d n m i) = true := by
  cases t <;> cases u <;> simp [tR3, lvT, lvB, tB, hf.lv, hg.lv]
set_option maxRecDepth 100000 in
set_option maxHeartbeats 4000000 in
theorem rm_fresh (C : Ctx) (hC : C.β.b = []) (t u : Bool) (vs ws ns : List (List AV)) (c d : Option Nat) (hvm : vs.all isM = true) (hwm : ws.all isM = true) (hnm : ns.all isM = true) (hx : vs.length ≤ 200000) (hx3 : ns.length ≤ 400000) (hv : vOk vs 0 = true) :
    Rch Try.prog (plOf pls) C ⟨[⟨11, 79, tR3 t u vs ws c d ns.length 0 0, [.code (.loop c11_52), .blk 4, .code c11_48], none, [], []⟩], [some (.rows 3 ns), some (.rows 3 [])]⟩ (Res (.tup [.sl 0 0 3 ns.length none, .sl 1 0 3 (frsh vs ns).length none, .v (.int .i64 0)]) [some (.rows 3 ns), some (.rows 3 (frsh vs ns))]) := by
  have hf := isM_flat hvm
  have hg := isM_flat hwm
  have hhn := isM_flat hnm
  refine Rch.loop plsOk ?_
  refine loop_ind plsOk (α := {i : Nat // i ≤ ns.length}) (fun a => ns.length - a.1) (fun a => tR3 t u vs ws c d ns.length (frsh vs (ns.take a.1)).length a.1) (fun a => [some (.rows 3 ns), some (.rows 3 (frsh vs (ns.take a.1)))]) (fun _ => Res (.tup [.sl 0 0 3 ns.length none, .sl 1 0 3 (frsh vs ns).length none, .v (.int .i64 0)]) [some (.rows 3 ns), some (.rows 3 (frsh vs ns))]) ?_ ⟨0, Nat.zero_le _⟩
  rintro ⟨i, hi⟩ ih
  simp only [tR3] at hi ih ⊢
  have hoa := frsh_all (rs := vs) (take_all hnm i)
  have hof := isM_flat hoa
  have hole := frsh_le (rs := vs) (ns := ns.take i)
  have hole2 : (ns.take i).length ≤ i := by rw [List.length_take]; omega
  by_cases h : (i : Int) < ns.length
  · have hi' : i < ns.length := by omega
    have e := isM_row hnm hi'
    have hsu := frsh_succ (rs := vs) hi'
    have hof2 := isM_flat (frsh_all (rs := vs) (take_all hnm (i + 1)))
    have hole3 := frsh_le (rs := vs) (ns := ns.take (i + 1))
    have hole4 : (ns.take (i + 1)).length ≤ i + 1 := by rw [List.length_take]; omega
    have htk : (frsh vs (ns.take i)).take (frsh vs (ns.take i)).length = frsh vs (ns.take i) := List.take_of_length_le (Nat.le_refl _)
    cases hfd : fndR vs (idR (rowA ns i)) with
    | false =>
      have hkp : keepB vs (rowA ns i) = true := by rw [keepB, hfd]; rfl
      have wR : wrdR vs (idR (rowA ns i)) = .tup [.agg [.v (.int .i64 0), .v (.int .i64 0), .v (.int .i64 0)], .v (.bool false)] := by rw [wrdR, hfd]; rfl
      rw [if_pos hkp] at hsu
      have hs' : frsh vs (ns.take i) ++ [[.v (.int .i64 (idR (rowA ns i))), .v (.int .i64 (stR (rowA ns i))), .v (.int .i64 (icR (rowA ns i)))]] = frsh vs (ns.take (i + 1)) := by rw [hsu, ← isM_eq (all_row hnm hi')]
      refine ExQ_ok [] 2000 plsOk kS_ok ?_
      (try rw [exh]); simp (maxSteps := 4000000) only [kS, sWord, hf.lv, hvm, h, hv, e, wR, htk, tk1', hs', Bool.not_false, stops, inK, stepF, frsF, frF, itemF, codeF, condF, opsF, opsW, opF, callO, drF, drO, drW, drC, wtS, gdst, gdl, sopF, pv, evq, bltF, callF, calleeS, popF, cls, quiet, p_move, p_assign, p_pick, p_binOp, p_unOp, p_fieldAddr, p_indexAddr, p_extract, p_len, l_load, zerR, roomR, appRR, srcR, dstR, e_store, e_alloc, e_buildSlice, e_append, SY.get, SY.put, SY.ev, SY.mk, SY.nth, SY.lvl, SY.setl, wid, wids, dr, tk, flat, at1, pack, rdC, rdCt, wrC, wrCt, ar, bopInt, bop, pickAV, fillA, immL, isArr, ctOf, rowsOf, rep, elCt, killO, dstR, srcR, AV.scal, plk, exq_go, exq_t, ↓reduceIte, Nat.reduceLT, Nat.reduceLeDiff, Nat.reduceEqDiff, Nat.reduceAdd, Nat.reduceSub, Nat.reduceMul, Bool.and_true, Bool.true_and, Bool.not_false, reduceCtorEq, true_and, List.map_cons, List.map_nil, Bool.and_self, List.drop_zero, List.length_cons, List.length_nil, List.cons_append, List.nil_append, List.append_nil, Nat.zero_add, Nat.add_zero, Nat.zero_mul, Int.toNat_natCast, Int.reduceLE, decide_true, ktOf, conK, alive, lndL, lnd, lvB, lvL, tB_tt, okBls, shB, ren, renL, ti3, ti22, ti29, regAt, body11, Try.f11, ↓exq_cd cd_c11_52, ↓exq_cd cd_c11_53, ↓exq_cd cd_c11_55, ↓exq_cd cd_c11_56, ↓exq_cd cd_c11_54, ↓exq_cd cd_c11_58, ↓exq_cd cd_c11_60, ↓exq_cd cd_c11_61, ↓exq_cd cd_c11_62, ↓exq_cd cd_c11_63, ↓exq_cd cd_c11_64, ↓exq_cd cd_c11_65, ↓exq_cd cd_c11_59, r11_55, r11_61, r11_63, r11_65, r11_59, plA11, pl11]
      repeat (refine And.intro (a := (_ = true)) (by first | (simp; done) | (simp; omega)) ?_)
      refine Rch.fit1 hC [0, 4] (bl' := [some (.rows 3 ns), some (.rows 3 (frsh vs (ns.take (i + 1))))]) (tm' := tR3 t u vs ws c d ns.length (frsh vs (ns.take (i + 1))).length (i + 1)) rfl (by decide) rfl ⟨rfl, rfl, rfl, congrArg (fun x => AV.imr t 3 x c) (hf.ren _).symm, congrArg (fun x => AV.imr u 3 x d) (hg.ren _).symm, trivial⟩ (tR3_lv hf hg ..) ⟨⟨by rw [renRows hhn]; exact rfl, lvRows hhn ..⟩, ⟨by rw [renRows hof2]; exact rfl, lvRows hof2 ..⟩, trivial⟩ ?_
      exact ih ⟨i + 1, by omega⟩ (by simp only; omega)
    | true =>
      obtain ⟨hp, hid⟩ := of_decide_eq_true hfd
      have wR : wrdR vs (idR (rowA ns i)) = .tup [.agg [.v (.int .i64 (idR (rowA ns i))), .v (.int .i64 (stR (rowA vs (posR vs (idR (rowA ns i)))))), .v (.int .i64 (icR (rowA vs (posR vs (idR (rowA ns i))))))], .v (.bool true)] := by
        rw [wrdR, hfd, if_pos rfl, if_pos rfl, if_pos rfl, hid]
      by_cases h2 : stR (rowA vs (posR vs (idR (rowA ns i)))) = stR (rowA ns i)
      case neg =>
        have hkp : keepB vs (rowA ns i) = true := by
          rw [keepB, hfd, decide_eq_false (fun h => h2 (congrArg (fun x => x.2.1) h))]; rfl
        rw [if_pos hkp] at hsu
        have hs' : frsh vs (ns.take i) ++ [[.v (.int .i64 (idR (rowA ns i))), .v (.int .i64 (stR (rowA ns i))), .v (.int .i64 (icR (rowA ns i)))]] = frsh vs (ns.take (i + 1)) := by rw [hsu, ← isM_eq (all_row hnm hi')]
        refine ExQ_ok [] 2000 plsOk kS_ok ?_
        (try rw [exh]); simp (maxSteps := 4000000) only [kS, sWord, hf.lv, hvm, h, hv, e, wR, h2, decide_true, Bool.false_and, Bool.and_false, htk, tk1', hs', Bool.not_false, Bool.not_true, stops, inK, stepF, frsF, frF, itemF, codeF, condF, opsF, opsW, opF, callO, drF, drO, drW, drC, wtS, gdst, gdl, sopF, pv, evq, bltF, callF, calleeS, popF, lopF, cls, rdl, quiet, p_move, p_assign, p_pick, p_binOp, p_unOp, p_fieldAddr, p_indexAddr, p_extract, p_len, l_load, zerR, roomR, appRR, srcR, dstR, e_store, e_alloc, e_buildSlice, e_append, SY.get, SY.put, SY.ev, SY.mk, SY.nth, SY.lvl, SY.setl, wid, wids, dr, tk, flat, at1, pack, parts, rdC, rdCt, wrC, wrCt, ar, bopInt, bopEq, eqPs, bop, pickAV, fillA, immL, isArr, ctOf, rowsOf, rep, elCt, killO, dstR, srcR, AV.scal, plk, exq_go, exq_t, exq_f, ↓reduceIte, Nat.reduceLT, Nat.reduceLeDiff, Nat.reduceEqDiff, Nat.reduceAdd, Nat.reduceSub, Nat.reduceMul, Bool.and_true, Bool.true_and, Bool.not_false, Bool.not_true, reduceCtorEq, true_and, List.map_cons, List.map_nil, Bool.and_self, List.drop_zero, List.length_cons, List.length_nil, List.cons_append, List.nil_append, List.append_nil, Nat.zero_add, Nat.add_zero, Nat.zero_mul, Int.toNat_natCast, Int.reduceLE, decide_true, decide_false, ktOf, conK, alive, lndL, lnd, lvB, lvL, tB_tt, okBls, shB, ren, renL, ti3, ti22, ti29, regAt, body11, Try.f11, ↓exq_cd cd_c11_52, ↓exq_cd cd_c11_53, ↓exq_cd cd_c11_55, ↓exq_cd cd_c11_56, ↓exq_cd cd_c11_54, ↓exq_cd cd_c11_58, ↓exq_cd cd_c11_60, ↓exq_cd cd_c11_61, ↓exq_cd cd_c11_62, ↓exq_cd cd_c11_63, ↓exq_cd cd_c11_64, ↓exq_cd cd_c11_65, ↓exq_cd cd_c11_59, r11_55, r11_61, r11_63, r11_65, r11_59, plA11, pl11]
        repeat (refine And.intro (a := (_ = true)) (by first | (simp; done) | (simp; omega)) ?_)
        refine Rch.fit1 hC [0, 4] (bl' := [some (.rows 3 ns), some (.rows 3 (frsh vs (ns.take (i + 1))))]) (tm' := tR3 t u vs ws c d ns.length (frsh vs (ns.take (i + 1))).length (i + 1)) rfl (by decide) rfl ⟨rfl, rfl, rfl, congrArg (fun x => AV.imr t 3 x c) (hf.ren _).symm, congrArg (fun x => AV.imr u 3 x d) (hg.ren _).symm, trivial⟩ (tR3_lv hf hg ..) ⟨⟨by rw [renRows hhn]; exact rfl, lvRows hhn ..⟩, ⟨by rw [renRows hof2]; exact rfl, lvRows hof2 ..⟩, trivial⟩ ?_
        exact ih ⟨i + 1, by omega⟩ (by simp only; omega)
      by_cases h3 : icR (rowA vs (posR vs (idR (rowA ns i)))) = icR (rowA ns i)
      case neg =>
        have hkp : keepB vs (rowA ns i) = true := by
          rw [keepB, hfd, decide_eq_false (fun h => h3 (congrArg (fun x => x.2.2) h))]; rfl
        rw [if_pos hkp] at hsu
        have hs' : frsh vs (ns.take i) ++ [[.v (.int .i64 (idR (rowA ns i))), .v (.int .i64 (stR (rowA ns i))), .v (.int .i64 (icR (rowA ns i)))]] = frsh vs (ns.take (i + 1)) := by rw [hsu, ← isM_eq (all_row hnm hi')]
        refine ExQ_ok [] 2000 plsOk kS_ok ?_
        (try rw [exh]); simp (maxSteps := 4000000) only [kS, sWord, hf.lv, hvm, h, hv, e, wR, h2, h3, decide_true, Bool.and_false, htk, tk1', hs', Bool.not_false, Bool.not_true, stops, inK, stepF, frsF, frF, itemF, codeF, condF, opsF, opsW, opF, callO, drF, drO, drW, drC, wtS, gdst, gdl, sopF, pv, evq, bltF, callF, calleeS, popF, lopF, cls, rdl, quiet, p_move, p_assign, p_pick, p_binOp, p_unOp, p_fieldAddr, p_indexAddr, p_extract, p_len, l_load, zerR, roomR, appRR, srcR, dstR, e_store, e_alloc, e_buildSlice, e_append, SY.get, SY.put, SY.ev, SY.mk, SY.nth, SY.lvl, SY.setl, wid, wids, dr, tk, flat, at1, pack, parts, rdC, rdCt, wrC, wrCt, ar, bopInt, bopEq, eqPs, bop, pickAV, fillA, immL, isArr, ctOf, rowsOf, rep, elCt, killO, dstR, srcR, AV.scal, plk, exq_go, exq_t, exq_f, ↓reduceIte, Nat.reduceLT, Nat.reduceLeDiff, Nat.reduceEqDiff, Nat.reduceAdd, Nat.reduceSub, Nat.reduceMul, Bool.and_true, Bool.true_and, Bool.not_false, Bool.not_true, reduceCtorEq, true_and, List.map_cons, List.map_nil, Bool.and_self, List.drop_zero, List.length_cons, List.length_nil, List.cons_append, List.nil_append, List.append_nil, Nat.zero_add, Nat.add_zero, Nat.zero_mul, Int.toNat_natCast, Int.reduceLE, decide_true, decide_false, ktOf, conK, alive, lndL, lnd, lvB, lvL, tB_tt, okBls, shB, ren, renL, ti3, ti22, ti29, regAt, body11, Try.f11, ↓exq_cd cd_c11_52, ↓exq_cd cd_c11_53, ↓exq_cd cd_c11_55, ↓exq_cd cd_c11_56, ↓exq_cd cd_c11_54, ↓exq_cd cd_c11_58, ↓exq_cd cd_c11_60, ↓exq_cd cd_c11_61, ↓exq_cd cd_c11_62, ↓exq_cd cd_c11_63, ↓exq_cd cd_c11_64, ↓exq_cd cd_c11_65, ↓exq_cd cd_c11_59, r11_55, r11_61, r11_63, r11_65, r11_59, plA11, pl11]
        repeat (refine And.intro (a := (_ = true)) (by first | (simp; done) | (simp; omega)) ?_)
        refine Rch.fit1 hC [0, 4] (bl' := [some (.rows 3 ns), some (.rows 3 (frsh vs (ns.take (i + 1))))]) (tm' := tR3 t u vs ws c d ns.length (frsh vs (ns.take (i + 1))).length (i + 1)) rfl (by decide) rfl ⟨rfl, rfl, rfl, congrArg (fun x => AV.imr t 3 x c) (hf.ren _).symm, congrArg (fun x => AV.imr u 3 x d) (hg.ren _).symm, trivial⟩ (tR3_lv hf hg ..) ⟨⟨by rw [renRows hhn]; exact rfl, lvRows hhn ..⟩, ⟨by rw [renRows hof2]; exact rfl, lvRows hof2 ..⟩, trivial⟩ ?_
        exact ih ⟨i + 1, by omega⟩ (by simp only; omega)
      have hkp : ¬ keepB vs (rowA ns i) = true := by
        rw [keepB, hfd, decide_eq_true (show tr3 (rowA vs (posR vs (idR (rowA ns i)))) = tr3 (rowA ns i) by simp only [tr3, hid, h2, h3])]; decide
      rw [if_neg hkp, List.append_nil] at hsu
      refine ExQ_ok [] 2000 plsOk kS_ok ?_
      (try rw [exh]); simp (maxSteps := 4000000) only [kS, sWord, hf.lv, hvm, h, hv, e, wR, h2, h3, decide_true, Bool.and_self, Bool.not_true, stops, inK, stepF, frsF, frF, itemF, codeF, condF, opsF, opsW, opF, callO, drF, drO, drW, drC, wtS, gdst, gdl, sopF, pv, evq, bltF, callF, calleeS, popF, lopF, cls, rdl, quiet, p_move, p_assign, p_pick, p_binOp, p_unOp, p_fieldAddr, p_indexAddr, p_extract, p_len, l_load, e_store, e_alloc, SY.get, SY.put, SY.ev, SY.mk, SY.nth, SY.lvl, SY.setl, wid, wids, dr, tk, flat, at1, pack, parts, rdC, rdCt, wrC, wrCt, ar, bopInt, bopEq, eqPs, bop, pickAV, isArr, ctOf, AV.scal, plk, exq_go, exq_t, exq_f, ↓reduceIte, Nat.reduceLT, Nat.reduceEqDiff, Nat.reduceAdd, Nat.reduceSub, Bool.and_true, Bool.true_and, Bool.not_false, Bool.not_true, reduceCtorEq, true_and, List.map_cons, List.map_nil, Bool.and_self, List.length_cons, List.length_nil, List.cons_append, List.nil_append, List.append_nil, Nat.zero_add, Nat.add_zero, Nat.zero_mul, Int.toNat_natCast, Int.reduceLE, decide_true, ktOf, conK, alive, lndL, lnd, lvB, lvL, tB_tt, okBls, shB, ren, renL, ti3, ti22, ti29, regAt, body11, Try.f11, ↓exq_cd cd_c11_52, ↓exq_cd cd_c11_53, ↓exq_cd cd_c11_55, ↓exq_cd cd_c11_56, ↓exq_cd cd_c11_54, ↓exq_cd cd_c11_58, ↓exq_cd cd_c11_60, ↓exq_cd cd_c11_61, ↓exq_cd cd_c11_62, ↓exq_cd cd_c11_63, ↓exq_cd cd_c11_64, ↓exq_cd cd_c11_59, r11_55, r11_61, r11_63, r11_59, plA11, pl11]
      repeat (refine And.intro (a := (_ = true)) (by first | (simp; done) | (simp; omega)) ?_)
      refine Rch.fit1 hC [0, 1] (bl' := [some (.rows 3 ns), some (.rows 3 (frsh vs (ns.take (i + 1))))]) (tm' := tR3 t u vs ws c d ns.length (frsh vs (ns.take (i + 1))).length (i + 1)) rfl (by decide) rfl ⟨rfl, by rw [hsu]; exact rfl, rfl, congrArg (fun x => AV.imr t 3 x c) (hf.ren _).symm, congrArg (fun x => AV.imr u 3 x d) (hg.ren _).symm, trivial⟩ (tR3_lv hf hg ..) ⟨⟨by rw [renRows hhn]; exact rfl, lvRows hhn ..⟩, ⟨by rw [renRows hof2, hsu]; exact rfl, lvRows hof2 ..⟩, trivial⟩ ?_
      exact ih ⟨i + 1, by omega⟩ (by simp only; omega)
  · obtain rfl : i = ns.length := by omega
    have hnt : ns.take ns.length = ns := List.take_of_length_le (Nat.le_refl _)
    rw [hnt] at hof
    rw [hnt]
    refine ExQ_ok [] 2000 plsOk kS_ok ?_
    (try rw [exh]); simp (maxSteps := 4000000) only [kS, h, stops, inK, stepF, frsF, frF, itemF, codeF, condF, opsF, opsW, opF, stepS, wtS, sopF, pv, bltF, callF, p_move, p_assign, p_binOp, p_len, SY.get, SY.put, SY.ev, SY.mk, bopInt, bop, leaveS, retS, exitS, killL, isDefs, resS, resAll, tup1, exq_go, exq_f, ↓reduceIte, Nat.reduceLT, Nat.reduceEqDiff, Nat.reduceAdd, true_and, Bool.and_self, Int.reduceLE, decide_true, decide_false, ktOf, ti3, ti22, regAt, fi11, body11, Try.f11, ↓exq_cd cd_c11_52, ↓exq_cd cd_c11_53, ↓exq_cd cd_c11_55, ↓exq_cd cd_c11_56, ↓exq_cd cd_c11_48, ↓exq_cd cd_c11_67, r11_55, r11_67]
    repeat (refine And.intro (a := (_ = true)) (by first | (simp; done) | (simp; omega)) ?_)
    refine ⟨[0, 1], by decide, rfl, rfl, fun l x hl => ?_⟩
    match l with
    | 0 => simp at hl; subst hl; rw [renRows hhn]; rfl
    | 1 => simp at hl; subst hl; rw [renRows hof]; rfl
    | l + 2 => simp at hl
end Go.Proofs.Ytdanhpemheldlaa
