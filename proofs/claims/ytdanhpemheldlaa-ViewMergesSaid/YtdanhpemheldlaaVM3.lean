/- Views: Collect of what is fresh. -/
import Derived.Test.YtdanhpemheldlaaVM4
set_option linter.unusedSimpArgs false
set_option linter.unusedVariables false
-- FUNCTIONS 38 55 56
namespace Go.Proofs.Ytdanhpemheldlaa
open Go Go.SY
def kF : KT := ktOf [(34, sSearch)]
theorem kF_ok : KOk Try.prog (plOf pls) kF := ktOf_ok plsOk fun x hx => by
  simp only [List.mem_cons, List.not_mem_nil, or_false] at hx
  subst hx
  exact search_ok
theorem renRows {rs : List (List AV)} (hf : FlatR rs) (ρ : Nat → Nat) (w : Nat) : renCt ρ (.rows w rs) = .rows w rs := by simp only [renCt, hf.ren]
theorem lvRows {rs : List (List AV)} (hf : FlatR rs) (w N : Nat) (T : Bool) : lvCt N T (.rows w rs) = true := by simp only [lvCt, hf.lv]
theorem renBox {rs : List (List AV)} (hf : FlatR rs) (ρ : Nat → Nat) (t : Bool) (c : Option Nat) : renCt ρ (.lit [.imr t 3 rs c]) = .lit [.imr t 3 rs c] := by simp only [renCt, renL, ren, hf.ren]
theorem lvBox {rs : List (List AV)} (hf : FlatR rs) (t : Bool) (c : Option Nat) (N : Nat) : lvCt N true (.lit [.imr t 3 rs c]) = true := by
  cases t <;> simp [lvCt, lvL, lvB, tB, hf.lv]
def tr3 (r : List AV) : Int × Int × Int := (idR r, stR r, icR r)
def keepB (rs : List (List AV)) (r : List AV) : Bool := !(fndR rs (idR r) && decide (tr3 (rowA rs (posR rs (idR r))) = tr3 r))
def frsh (rs ns : List (List AV)) : List (List AV) := ns.filter (keepB rs)
theorem frsh_succ {rs ns : List (List AV)} {i : Nat} (h : i < ns.length) : frsh rs (ns.take (i + 1)) = frsh rs (ns.take i) ++ if keepB rs (rowA ns i) = true then [rowA ns i] else [] := by
  rw [List.take_add_one, List.getElem?_eq_getElem h, rowA_get h]
  unfold frsh
  simp only [Option.toList, List.filter_append]
  congr 1
  by_cases hp : keepB rs ns[i] = true
  · rw [if_pos hp]; simp [hp]
  · rw [if_neg hp]; simp [hp]
theorem frsh_all {rs ns : List (List AV)} (h : ns.all isM = true) : (frsh rs ns).all isM = true := List.all_eq_true.2 fun r hr => List.all_eq_true.1 h r (List.mem_filter.1 hr).1
theorem frsh_le {rs ns : List (List AV)} : (frsh rs ns).length ≤ ns.length := List.length_filter_le ..
theorem take_all {ns : List (List AV)} (h : ns.all isM = true) (i : Nat) : (ns.take i).all isM = true := List.all_eq_true.2 fun r hr => List.all_eq_true.1 h r (List.mem_of_mem_take hr)
theorem tk1' {α : Type} (x : α) : List.take 1 [x] = [x] := rfl
def tF (n i : Nat) : TM := [(10, .v (.int .i64 i)), (9, .v (.int .i64 n)), (8, .sl 0 0 3 n none), (0, .yld 6), (1, .ptr 1 0 1 0), (2, .ptr 2 0 1 0)]
noncomputable def bF (ns rs : List (List AV)) (n : Nat) (t : Bool) (c : Option Nat) (os : List (List AV)) : Bls := [some (.rows 3 ns), some (.lit [.sl 0 0 3 n none]), some (.lit [.imr t 3 rs c]), some (.rows 3 os), some (.lit [.sl 3 0 3 os.length none]), some .defs,
  some (.loop .ready none 55 13 [(6, .fn 56 [] [.ptr 1 0 1 0, .ptr 2 0 1 0]), (2, .ptr 4 0 1 0), (1, .fn 56 [] [.ptr 1 0 1 0, .ptr 2 0 1 0])] [7] c55_8 c55_9 5)]
def IsF (ns rs : List (List AV)) (n : Nat) (t : Bool) (c : Option Nat) (r : AV) (bl : Bls) : Prop := r = .sl 3 0 3 (frsh rs ns).length none ∧ bl = [some (.rows 3 ns), some (.lit [.sl 0 0 3 n none]), none, some (.rows 3 (frsh rs ns)), some (.lit [.sl 3 0 3 (frsh rs ns).length none]), none]
set_option maxRecDepth 100000 in
set_option maxHeartbeats 4000000 in
theorem frs_run (C : Ctx) (hC : C.β.b.length = 3) (t : Bool) (ns rs : List (List AV)) (n : Nat) (c : Option Nat) (hn : ns.length = n) (hnm : ns.all isM = true) (hm : rs.all isM = true) (hx : rs.length < 1000000) (hx2 : n < 1000000) (hv : vOk rs 0 = true) : Rch Try.prog (plOf pls) C (conf0 38 ⟨5, [.tmp 2], code38⟩ [.fn 56 [] [.ptr 1 0 1 0, .ptr 2 0 1 0]] [some (.rows 3 ns), some (.lit [.sl 0 0 3 n none]), some (.lit [.imr t 3 rs c])]) (IsF ns rs n t c) := by
  have hf := isM_flat hm
  have hg := isM_flat hnm
  refine ExQ_ok [55] 2000 plsOk kF_ok ?_
  simp only [conf0]
  (try rw [exh]); simp (maxSteps := 4000000) only [kF, stops, stepF, frsF, frF, itemF, codeF, opsF, opsW, opF, callO, wtS, sopF, pv, callF, calleeS, p_move, p_assign, SY.get, SY.put, SY.ev, SY.mk, SY.ini, enterS, exq_go, ↓reduceIte, Nat.reduceLT, Nat.reduceLeDiff, Nat.reduceEqDiff, Nat.reduceAdd, Nat.reduceBEq, List.contains_nil, List.contains_cons, Bool.or_false, reduceCtorEq, true_and, List.map_cons, List.map_nil, List.length_cons, List.length_nil, List.nil_append, List.append_nil, Nat.zero_add, ktOf, regAt, body38, Try.f38, fi55, ↓exq_cd cd_code38, ↓exq_cd cd_c38_1, ↓exq_cd cd_c38_2, ↓exq_cd cd_c38_3, ↓exq_cd cd_code55, r38_1, r38_3]
  refine Rch.nilslR 0 0 3 3 rfl rfl ?_
  refine ExQ_ok [] 7 plsOk kF_ok ?_
  (try rw [exh]); simp (maxSteps := 4000000) only [kF, List.length_cons, List.length_nil, Nat.reduceAdd, stops, stepF, frsF, frF, itemF, codeF, opsF, opsW, opF, wtS, sopF, pv, evq, quiet, p_assign, e_box, SY.get, SY.put, SY.ev, SY.mk, flat, isArr, ctOf, exq_zero, exq_go, ↓reduceIte, Nat.reduceLT, Nat.reduceAdd, List.contains_nil, true_and, Bool.and_self, List.length_cons, List.length_nil, List.cons_append, List.nil_append, Nat.zero_add, ktOf, ti22, regAt, body55, Try.f55, ↓exq_cd cd_c55_1, ↓exq_cd cd_c55_2, ↓exq_cd cd_c55_3, r55_1]
  repeat (refine And.intro (a := (_ = true)) (by first | (simp; done) | (simp; omega)) ?_)
  refine Rch.fit2K hC [0, 1, 2, 3, 4] rfl (c' := ⟨[⟨55, 13, [(2, .ptr 4 0 1 0), (1, .fn 56 [] [.ptr 1 0 1 0, .ptr 2 0 1 0])], _, none, [], []⟩, ⟨38, 5, [], _, none, [], []⟩], [some (.rows 3 ns), some (.lit [.sl 0 0 3 n none]), some (.lit [.imr t 3 rs c]), some (.rows 3 []), some (.lit [.sl 3 0 3 0 none])]⟩) ⟨by decide, rfl, ⟨_, _, rfl, .mk' ⟨rfl, rfl, trivial⟩ rfl rfl rfl rfl (fun l h => by cases h) rfl rfl, _, _, rfl, .mk' trivial rfl rfl rfl rfl (fun l h => by cases h) rfl rfl, rfl⟩, ⟨⟨by rw [renRows hg]; exact rfl, lvRows hg ..⟩, ⟨rfl, rfl⟩, ⟨by rw [renBox hf]; exact rfl, lvBox hf ..⟩, ⟨rfl, rfl⟩, ⟨rfl, rfl⟩, trivial⟩⟩ ?_
  refine ExQ_ok [] 2000 plsOk kF_ok ?_
  (try rw [exh]); simp (maxSteps := 4000000) only [kF, stops, inK, stepF, frsF, frF, itemF, codeF, opsF, opsW, opF, stepS, wtS, sopF, pv, bltF, callF, p_move, p_len, l_load, SY.get, SY.put, SY.ev, SY.mk, SY.lvl, SY.ini, dr, at1, rdC, rdCt, enterS, AV.scal, exq_go, ↓reduceIte, Nat.reduceLT, Nat.reduceLeDiff, Nat.reduceEqDiff, Nat.reduceAdd, Nat.reduceSub, List.contains_nil, reduceCtorEq, true_and, Bool.and_self, List.length_cons, List.length_nil, List.cons_append, List.nil_append, Nat.zero_add, Nat.add_zero, Nat.mul_one, Int.reduceLE, decide_true, ktOf, ti22, regAt, body55, Try.f55, fi56, body56, Try.f56, ↓exq_cd cd_c55_5, ↓exq_cd cd_c55_6, ↓exq_cd cd_c55_7, ↓exq_cd cd_code56, ↓exq_cd cd_c56_1, ↓exq_cd cd_c56_2, ↓exq_cd cd_c56_3, r55_5, r56_1]
  repeat (refine And.intro (a := (_ = true)) (by first | (simp; done) | (simp; omega)) ?_)
  refine Rch.loop plsOk ?_
  have hf0 : FlatR [] := ⟨fun _ => rfl, fun _ _ => rfl⟩
  refine Rch.fit2K hC [0, 1, 2, 3, 4, 5, 6] rfl (c' := ⟨[⟨56, 35, tF n (0), _, none, [], []⟩, ⟨55, 13, [(2, .ptr 4 0 1 0)], _, none, [5], []⟩, ⟨38, 5, [], _, none, [], []⟩], bF ns rs n t c []⟩) ⟨by decide, rfl, ⟨_, _, rfl, .mk' ⟨rfl, rfl, rfl, rfl, rfl, rfl, trivial⟩ rfl rfl rfl rfl (fun l h => by cases h) rfl rfl, _, _, rfl, .mk' ⟨rfl, trivial⟩ rfl rfl rfl rfl (fun l h => by cases h) rfl rfl, _, _, rfl, .mk' trivial rfl rfl rfl rfl (fun l h => by cases h) rfl rfl, rfl⟩, ⟨⟨by rw [renRows hg]; exact rfl, lvRows hg ..⟩, ⟨rfl, rfl⟩, ⟨by rw [renBox hf]; exact rfl, lvBox hf ..⟩, ⟨by rw [renRows hf0]; exact rfl, lvRows hf0 ..⟩, ⟨rfl, rfl⟩, ⟨rfl, rfl⟩, ⟨rfl, rfl⟩, trivial⟩⟩ ?_
  refine loop_ind plsOk (α := {i : Nat // i ≤ n}) (fun a => n - a.1) (fun a => tF n a.1) (fun a => bF ns rs n t c (frsh rs (ns.take a.1))) (fun _ => IsF ns rs n t c) ?_ ⟨0, Nat.zero_le _⟩
  rintro ⟨i, hi⟩ ih
  simp only [tF, bF] at hi ih ⊢
  have hoa := frsh_all (rs := rs) (take_all hnm i)
  have hof := isM_flat hoa
  have hole := frsh_le (rs := rs) (ns := ns.take i)
  have hole2 : (ns.take i).length ≤ i := by rw [List.length_take]; omega
  by_cases h : (i : Int) < n
  · have hi' : i < ns.length := by omega
    have e := isM_row hnm hi'
    have hsu := frsh_succ (rs := rs) hi'
    have hoa2 := frsh_all (rs := rs) (take_all hnm (i + 1))
    have hof2 := isM_flat hoa2
    have htk : (frsh rs (ns.take i)).take (frsh rs (ns.take i)).length = frsh rs (ns.take i) := List.take_of_length_le (Nat.le_refl _)
    cases hfd : fndR rs (idR (rowA ns i)) with
    | false =>
      have hkp : keepB rs (rowA ns i) = true := by rw [keepB, hfd]; rfl
      rw [if_pos hkp] at hsu
      have hol : (frsh rs (ns.take (i + 1))).length = (frsh rs (ns.take i)).length + 1 := by rw [hsu]; simp
      have hs' : frsh rs (ns.take i) ++ [[.v (.int .i64 (idR (rowA ns i))), .v (.int .i64 (stR (rowA ns i))), .v (.int .i64 (icR (rowA ns i)))]] = frsh rs (ns.take (i + 1)) := by rw [hsu, ← isM_eq (all_row hnm hi')]
      refine ExQ_ok [] 2000 plsOk kF_ok ?_
      (try rw [exh]); simp (maxSteps := 4000000) only [kF, sSearch, h, hf.lv, hm, hv, e, hfd, Int.toNat_natCast, htk, tk1', hs', stops, inK, stepF, frsF, frF, itemF, codeF, condF, opsF, opsW, opF, callO, drF, drO, drW, drC, stepS, wtS, gdst, gdl, sopF, pv, evq, bltF, callF, calleeS, popF, cls, quiet, p_move, p_assign, p_pick, p_binOp, p_unOp, p_fieldAddr, p_indexAddr, p_extract, l_load, zerR, roomR, appRR, srcR, dstR, e_store, e_alloc, e_buildSlice, e_append, SY.get, SY.put, SY.ev, SY.mk, SY.nth, SY.lvl, SY.setl, wid, wids, dr, tk, flat, at1, pack, rdC, rdCt, wrC, wrCt, ar, bopInt, bop, pickAV, fillA, immL, isArr, ctOf, rowsOf, rep, elCt, killO, dstR, srcR, leaveS, endS, finishS, setPs, roundS, AV.scal, plk, exq_go, exq_t, exq_f, ↓reduceIte, Nat.reduceLT, Nat.reduceLeDiff, Nat.reduceEqDiff, Nat.reduceAdd, Nat.reduceSub, Nat.reduceMul, Bool.and_true, Bool.true_and, Bool.not_true, List.contains_nil, Option.isNone_none, reduceCtorEq, true_and, List.map_cons, List.map_nil, List.all_cons, List.all_nil, Bool.and_self, List.drop_zero, List.length_cons, List.length_nil, List.cons_append, List.nil_append, List.append_nil, Nat.zero_add, Nat.add_zero, Nat.zero_mul, Nat.mul_one, Int.toNat_natCast, Int.reduceLE, decide_true, ktOf, conK, alive, lndL, lnd, lvB, lvL, tB_tt, okBls, shB, ren, renL, and_self, ti3, ti22, ti29, regAt, body55, Try.f55, body56, Try.f56, ↓exq_cd cd_c55_8, ↓exq_cd cd_c55_9, ↓exq_cd cd_c55_10, ↓exq_cd cd_c56_4, ↓exq_cd cd_c56_5, ↓exq_cd cd_c56_6, ↓exq_cd cd_c56_7, ↓exq_cd cd_c56_8, ↓exq_cd cd_c56_10, ↓exq_cd cd_c56_12, ↓exq_cd cd_c56_13, ↓exq_cd cd_c56_14, ↓exq_cd cd_c56_15, ↓exq_cd cd_c56_16, ↓exq_cd cd_c56_17, ↓exq_cd cd_c56_19, ↓exq_cd cd_c56_20, ↓exq_cd cd_c56_18, ↓exq_cd cd_c56_22, ↓exq_cd cd_c56_23, ↓exq_cd cd_c56_11, r55_8, r55_10, r56_5, r56_13, r56_15, r56_19, r56_22, r56_11, plA56, pl56]
      repeat (refine And.intro (a := (_ = true)) (by first | (simp; done) | (simp; omega)) ?_)
      refine Rch.fit2K hC [0, 1, 2, 10, 4, 5, 6] rfl (c' := ⟨[⟨56, 35, tF n (i + 1), _, none, [], []⟩, ⟨55, 13, [(2, .ptr 4 0 1 0)], _, none, [5], []⟩, ⟨38, 5, [], _, none, [], []⟩], bF ns rs n t c (frsh rs (ns.take (i + 1)))⟩) ⟨by decide, rfl, ⟨_, _, rfl, .mk' ⟨rfl, rfl, rfl, rfl, rfl, rfl, trivial⟩ rfl rfl rfl rfl (fun l h => by cases h) rfl rfl, _, _, rfl, .mk' ⟨rfl, trivial⟩ rfl rfl rfl rfl (fun l h => by cases h) rfl rfl, _, _, rfl, .mk' trivial rfl rfl rfl rfl (fun l h => by cases h) rfl rfl, rfl⟩, ⟨⟨by rw [renRows hg]; exact rfl, lvRows hg ..⟩, ⟨rfl, rfl⟩, ⟨by rw [renBox hf]; exact rfl, lvBox hf ..⟩, ⟨by rw [renRows hof2]; exact rfl, lvRows hof2 ..⟩, ⟨rfl, rfl⟩, ⟨rfl, rfl⟩, ⟨rfl, rfl⟩, trivial⟩⟩ ?_
      exact ih ⟨i + 1, by omega⟩ (by simp only; omega)
    | true =>
      obtain ⟨hp, hid⟩ := of_decide_eq_true hfd
      have e' := isM_row hm hp
      by_cases h2 : stR (rowA rs (posR rs (idR (rowA ns i)))) = stR (rowA ns i)
      case neg =>
        have hkp : keepB rs (rowA ns i) = true := by
          rw [keepB, hfd, decide_eq_false (fun h => h2 (congrArg (fun x => x.2.1) h))]; rfl
        rw [if_pos hkp] at hsu
        have hol : (frsh rs (ns.take (i + 1))).length = (frsh rs (ns.take i)).length + 1 := by rw [hsu]; simp
        have hs' : frsh rs (ns.take i) ++ [[.v (.int .i64 (idR (rowA ns i))), .v (.int .i64 (stR (rowA ns i))), .v (.int .i64 (icR (rowA ns i)))]] = frsh rs (ns.take (i + 1)) := by rw [hsu, ← isM_eq (all_row hnm hi')]
        refine ExQ_ok [] 2000 plsOk kF_ok ?_
        (try rw [exh]); simp (maxSteps := 4000000) only [kF, sSearch, h, hf.lv, hm, hv, e, hfd, hid, e', h2, Bool.false_and, Bool.and_false, Int.toNat_natCast, htk, tk1', hs', stops, inK, stepF, frsF, frF, itemF, codeF, condF, opsF, opsW, opF, callO, drF, drO, drW, drC, stepS, wtS, gdst, gdl, sopF, pv, evq, bltF, callF, calleeS, popF, lopF, cls, rdl, quiet, p_move, p_assign, p_pick, p_binOp, p_unOp, p_fieldAddr, p_indexAddr, p_extract, l_load, zerR, roomR, appRR, srcR, dstR, e_store, e_alloc, e_buildSlice, e_append, SY.get, SY.put, SY.ev, SY.mk, SY.nth, SY.lvl, SY.setl, wid, wids, dr, tk, flat, at1, pack, parts, rdC, rdCt, wrC, wrCt, ar, bopInt, bopEq, eqPs, bop, pickAV, fillA, immL, isArr, ctOf, rowsOf, rep, elCt, killO, dstR, srcR, leaveS, endS, finishS, setPs, roundS, AV.scal, plk, exq_go, exq_t, exq_f, ↓reduceIte, Nat.reduceLT, Nat.reduceLeDiff, Nat.reduceEqDiff, Nat.reduceAdd, Nat.reduceSub, Nat.reduceMul, Bool.and_true, Bool.true_and, Bool.not_true, List.contains_nil, Option.isNone_none, reduceCtorEq, true_and, List.map_cons, List.map_nil, List.all_cons, List.all_nil, Bool.and_self, List.drop_zero, List.length_cons, List.length_nil, List.cons_append, List.nil_append, List.append_nil, Nat.zero_add, Nat.add_zero, Nat.zero_mul, Nat.mul_one, Int.toNat_natCast, Int.reduceLE, decide_true, decide_false, ktOf, conK, alive, lndL, lnd, lvB, lvL, tB_tt, okBls, shB, ren, renL, and_self, ti3, ti22, ti29, regAt, body55, Try.f55, body56, Try.f56, ↓exq_cd cd_c55_8, ↓exq_cd cd_c55_9, ↓exq_cd cd_c55_10, ↓exq_cd cd_c56_4, ↓exq_cd cd_c56_5, ↓exq_cd cd_c56_6, ↓exq_cd cd_c56_7, ↓exq_cd cd_c56_8, ↓exq_cd cd_c56_10, ↓exq_cd cd_c56_12, ↓exq_cd cd_c56_13, ↓exq_cd cd_c56_14, ↓exq_cd cd_c56_15, ↓exq_cd cd_c56_16, ↓exq_cd cd_c56_17, ↓exq_cd cd_c56_19, ↓exq_cd cd_c56_20, ↓exq_cd cd_c56_18, ↓exq_cd cd_c56_22, ↓exq_cd cd_c56_23, ↓exq_cd cd_c56_11, r55_8, r55_10, r56_5, r56_13, r56_15, r56_19, r56_22, r56_11, plA56, pl56]
        repeat (refine And.intro (a := (_ = true)) (by first | (simp; done) | (simp; omega)) ?_)
        refine Rch.fit2K hC [0, 1, 2, 10, 4, 5, 6] rfl (c' := ⟨[⟨56, 35, tF n (i + 1), _, none, [], []⟩, ⟨55, 13, [(2, .ptr 4 0 1 0)], _, none, [5], []⟩, ⟨38, 5, [], _, none, [], []⟩], bF ns rs n t c (frsh rs (ns.take (i + 1)))⟩) ⟨by decide, rfl, ⟨_, _, rfl, .mk' ⟨rfl, rfl, rfl, rfl, rfl, rfl, trivial⟩ rfl rfl rfl rfl (fun l h => by cases h) rfl rfl, _, _, rfl, .mk' ⟨rfl, trivial⟩ rfl rfl rfl rfl (fun l h => by cases h) rfl rfl, _, _, rfl, .mk' trivial rfl rfl rfl rfl (fun l h => by cases h) rfl rfl, rfl⟩, ⟨⟨by rw [renRows hg]; exact rfl, lvRows hg ..⟩, ⟨rfl, rfl⟩, ⟨by rw [renBox hf]; exact rfl, lvBox hf ..⟩, ⟨by rw [renRows hof2]; exact rfl, lvRows hof2 ..⟩, ⟨rfl, rfl⟩, ⟨rfl, rfl⟩, ⟨rfl, rfl⟩, trivial⟩⟩ ?_
        exact ih ⟨i + 1, by omega⟩ (by simp only; omega)
      by_cases h3 : icR (rowA rs (posR rs (idR (rowA ns i)))) = icR (rowA ns i)
      case neg =>
        have hkp : keepB rs (rowA ns i) = true := by
          rw [keepB, hfd, decide_eq_false (fun h => h3 (congrArg (fun x => x.2.2) h))]; rfl
        rw [if_pos hkp] at hsu
        have hol : (frsh rs (ns.take (i + 1))).length = (frsh rs (ns.take i)).length + 1 := by rw [hsu]; simp
        have hs' : frsh rs (ns.take i) ++ [[.v (.int .i64 (idR (rowA ns i))), .v (.int .i64 (stR (rowA ns i))), .v (.int .i64 (icR (rowA ns i)))]] = frsh rs (ns.take (i + 1)) := by rw [hsu, ← isM_eq (all_row hnm hi')]
        refine ExQ_ok [] 2000 plsOk kF_ok ?_
        (try rw [exh]); simp (maxSteps := 4000000) only [kF, sSearch, h, hf.lv, hm, hv, e, hfd, hid, e', h2, h3, Bool.and_false, Int.toNat_natCast, htk, tk1', hs', stops, inK, stepF, frsF, frF, itemF, codeF, condF, opsF, opsW, opF, callO, drF, drO, drW, drC, stepS, wtS, gdst, gdl, sopF, pv, evq, bltF, callF, calleeS, popF, lopF, cls, rdl, quiet, p_move, p_assign, p_pick, p_binOp, p_unOp, p_fieldAddr, p_indexAddr, p_extract, l_load, zerR, roomR, appRR, srcR, dstR, e_store, e_alloc, e_buildSlice, e_append, SY.get, SY.put, SY.ev, SY.mk, SY.nth, SY.lvl, SY.setl, wid, wids, dr, tk, flat, at1, pack, parts, rdC, rdCt, wrC, wrCt, ar, bopInt, bopEq, eqPs, bop, pickAV, fillA, immL, isArr, ctOf, rowsOf, rep, elCt, killO, dstR, srcR, leaveS, endS, finishS, setPs, roundS, AV.scal, plk, exq_go, exq_t, exq_f, ↓reduceIte, Nat.reduceLT, Nat.reduceLeDiff, Nat.reduceEqDiff, Nat.reduceAdd, Nat.reduceSub, Nat.reduceMul, Bool.and_true, Bool.true_and, Bool.not_true, List.contains_nil, Option.isNone_none, reduceCtorEq, true_and, List.map_cons, List.map_nil, List.all_cons, List.all_nil, Bool.and_self, List.drop_zero, List.length_cons, List.length_nil, List.cons_append, List.nil_append, List.append_nil, Nat.zero_add, Nat.add_zero, Nat.zero_mul, Nat.mul_one, Int.toNat_natCast, Int.reduceLE, decide_true, decide_false, ktOf, conK, alive, lndL, lnd, lvB, lvL, tB_tt, okBls, shB, ren, renL, and_self, ti3, ti22, ti29, regAt, body55, Try.f55, body56, Try.f56, ↓exq_cd cd_c55_8, ↓exq_cd cd_c55_9, ↓exq_cd cd_c55_10, ↓exq_cd cd_c56_4, ↓exq_cd cd_c56_5, ↓exq_cd cd_c56_6, ↓exq_cd cd_c56_7, ↓exq_cd cd_c56_8, ↓exq_cd cd_c56_10, ↓exq_cd cd_c56_12, ↓exq_cd cd_c56_13, ↓exq_cd cd_c56_14, ↓exq_cd cd_c56_15, ↓exq_cd cd_c56_16, ↓exq_cd cd_c56_17, ↓exq_cd cd_c56_19, ↓exq_cd cd_c56_20, ↓exq_cd cd_c56_18, ↓exq_cd cd_c56_22, ↓exq_cd cd_c56_23, ↓exq_cd cd_c56_11, r55_8, r55_10, r56_5, r56_13, r56_15, r56_19, r56_22, r56_11, plA56, pl56]
        repeat (refine And.intro (a := (_ = true)) (by first | (simp; done) | (simp; omega)) ?_)
        refine Rch.fit2K hC [0, 1, 2, 10, 4, 5, 6] rfl (c' := ⟨[⟨56, 35, tF n (i + 1), _, none, [], []⟩, ⟨55, 13, [(2, .ptr 4 0 1 0)], _, none, [5], []⟩, ⟨38, 5, [], _, none, [], []⟩], bF ns rs n t c (frsh rs (ns.take (i + 1)))⟩) ⟨by decide, rfl, ⟨_, _, rfl, .mk' ⟨rfl, rfl, rfl, rfl, rfl, rfl, trivial⟩ rfl rfl rfl rfl (fun l h => by cases h) rfl rfl, _, _, rfl, .mk' ⟨rfl, trivial⟩ rfl rfl rfl rfl (fun l h => by cases h) rfl rfl, _, _, rfl, .mk' trivial rfl rfl rfl rfl (fun l h => by cases h) rfl rfl, rfl⟩, ⟨⟨by rw [renRows hg]; exact rfl, lvRows hg ..⟩, ⟨rfl, rfl⟩, ⟨by rw [renBox hf]; exact rfl, lvBox hf ..⟩, ⟨by rw [renRows hof2]; exact rfl, lvRows hof2 ..⟩, ⟨rfl, rfl⟩, ⟨rfl, rfl⟩, ⟨rfl, rfl⟩, trivial⟩⟩ ?_
        exact ih ⟨i + 1, by omega⟩ (by simp only; omega)
      have hkp : ¬ keepB rs (rowA ns i) = true := by
        rw [keepB, hfd, decide_eq_true (show tr3 (rowA rs (posR rs (idR (rowA ns i)))) = tr3 (rowA ns i) by simp only [tr3, hid, h2, h3])]; decide
      rw [if_neg hkp, List.append_nil] at hsu
      refine ExQ_ok [] 2000 plsOk kF_ok ?_
      (try rw [exh]); simp (maxSteps := 4000000) only [kF, sSearch, h, hf.lv, hm, hv, e, hfd, hid, e', h2, h3, Bool.and_self, Int.toNat_natCast, stops, inK, stepF, frsF, frF, itemF, codeF, condF, opsF, opsW, opF, callO, drF, drO, drW, drC, stepS, wtS, gdst, gdl, sopF, pv, evq, callF, calleeS, popF, lopF, cls, rdl, quiet, p_move, p_assign, p_pick, p_binOp, p_fieldAddr, p_indexAddr, p_extract, l_load, e_store, e_alloc, SY.get, SY.put, SY.ev, SY.mk, SY.nth, SY.lvl, SY.setl, wid, wids, dr, tk, flat, at1, pack, parts, rdC, rdCt, wrC, wrCt, ar, bopInt, bopEq, eqPs, bop, pickAV, isArr, ctOf, exitS, AV.scal, plk, exq_go, exq_t, ↓reduceIte, Nat.reduceLT, Nat.reduceEqDiff, Nat.reduceAdd, Nat.reduceSub, Bool.and_true, Bool.true_and, Bool.not_true, reduceCtorEq, true_and, List.map_cons, List.map_nil, Bool.and_self, List.length_cons, List.length_nil, List.cons_append, List.nil_append, List.append_nil, Nat.zero_add, Nat.add_zero, Nat.zero_mul, Nat.mul_one, Int.toNat_natCast, Int.reduceLE, decide_true, ktOf, conK, alive, lndL, lnd, lvB, lvL, tB_tt, okBls, shB, ren, renL, ti3, ti22, ti29, regAt, body56, Try.f56, ↓exq_cd cd_c56_4, ↓exq_cd cd_c56_5, ↓exq_cd cd_c56_6, ↓exq_cd cd_c56_7, ↓exq_cd cd_c56_8, ↓exq_cd cd_c56_10, ↓exq_cd cd_c56_12, ↓exq_cd cd_c56_13, ↓exq_cd cd_c56_14, ↓exq_cd cd_c56_15, ↓exq_cd cd_c56_16, ↓exq_cd cd_c56_17, ↓exq_cd cd_c56_19, ↓exq_cd cd_c56_20, ↓exq_cd cd_c56_11, r56_5, r56_13, r56_15, r56_19, r56_11, plA56, pl56]
      repeat (refine And.intro (a := (_ = true)) (by first | (simp; done) | (simp; omega)) ?_)
      refine Rch.fit2K hC [0, 1, 2, 3, 4, 5, 6] rfl (c' := ⟨[⟨56, 35, tF n (i + 1), _, none, [], []⟩, ⟨55, 13, [(2, .ptr 4 0 1 0)], _, none, [5], []⟩, ⟨38, 5, [], _, none, [], []⟩], bF ns rs n t c (frsh rs (ns.take (i + 1)))⟩) ⟨by decide, rfl, ⟨_, _, rfl, .mk' ⟨rfl, rfl, rfl, rfl, rfl, rfl, trivial⟩ rfl rfl rfl rfl (fun l h => by cases h) rfl rfl, _, _, rfl, .mk' ⟨rfl, trivial⟩ rfl rfl rfl rfl (fun l h => by cases h) rfl rfl, _, _, rfl, .mk' trivial rfl rfl rfl rfl (fun l h => by cases h) rfl rfl, rfl⟩, ⟨⟨by rw [renRows hg]; exact rfl, lvRows hg ..⟩, ⟨rfl, rfl⟩, ⟨by rw [renBox hf]; exact rfl, lvBox hf ..⟩, ⟨by rw [renRows hof2, hsu]; exact rfl, lvRows hof2 ..⟩, ⟨by rw [hsu]; exact rfl, rfl⟩, ⟨rfl, rfl⟩, ⟨rfl, rfl⟩, trivial⟩⟩ ?_
      exact ih ⟨i + 1, by omega⟩ (by simp only; omega)
  · obtain rfl : i = n := by omega
    have hnt : ns.take i = ns := List.take_of_length_le (by omega)
    rw [hnt]
    rw [hnt] at hof hoa hole
    clear ih
    refine ExQ_ok [] 12 plsOk kF_ok ?_
    (try rw [exh]); simp (maxSteps := 4000000) only [kF, h, stops, stepF, frsF, frF, itemF, codeF, condF, opsF, opsW, opF, stepS, wtS, sopF, pv, p_binOp, SY.get, SY.put, SY.ev, SY.lvl, SY.setl, bopInt, bop, leaveS, retS, exitS, finishS, killL, isDefs, resS, resAll, tup1, exq_zero, exq_go, exq_f, ↓reduceIte, Nat.reduceLT, Nat.reduceEqDiff, Nat.reduceAdd, Nat.reduceSub, List.contains_nil, reduceCtorEq, true_and, Nat.zero_add, decide_false, ktOf, ti3, regAt, fi56, body56, Try.f56, ↓exq_cd cd_c55_4, ↓exq_cd cd_c56_4, ↓exq_cd cd_c56_5, ↓exq_cd cd_c56_6, ↓exq_cd cd_c56_7, r56_5]
    refine Rch.fit2K hC [0, 1, 2, 3, 4, 5] rfl (c' := ⟨[⟨55, 13, [(2, .ptr 4 0 1 0)], _, none, [5], []⟩, ⟨38, 5, [], _, none, [], []⟩], [some (.rows 3 ns), some (.lit [.sl 0 0 3 i none]), none, some (.rows 3 (frsh rs ns)), some (.lit [.sl 3 0 3 (frsh rs ns).length none]), some .defs]⟩) ⟨by decide, rfl, ⟨_, _, rfl, .mk' ⟨rfl, trivial⟩ rfl rfl rfl rfl (fun l h => by cases h) rfl rfl, _, _, rfl, .mk' trivial rfl rfl rfl rfl (fun l h => by cases h) rfl rfl, rfl⟩, ⟨⟨by rw [renRows hg]; exact rfl, lvRows hg ..⟩, ⟨rfl, rfl⟩, ⟨by rw [renRows hof]; exact rfl, lvRows hof ..⟩, ⟨rfl, rfl⟩, ⟨rfl, rfl⟩, trivial⟩⟩ ?_
    refine ExQ_ok [] 2000 plsOk kF_ok ?_
    (try rw [exh]); simp (maxSteps := 4000000) only [kF, stops, stepF, frsF, frF, itemF, codeF, opsF, opsW, opF, stepS, wtS, sopF, pv, p_assign, l_load, SY.get, SY.put, SY.ev, SY.lvl, SY.setl, dr, at1, rdC, rdCt, leaveS, retS, finishS, killL, isDefs, resS, resAll, tup1, AV.scal, exq_go, ↓reduceIte, Nat.reduceLT, Nat.reduceAdd, Nat.reduceSub, List.contains_nil, reduceCtorEq, true_and, Nat.add_zero, Nat.mul_one, ktOf, ti22, regAt, fi38, fi55, body55, Try.f55, ↓exq_cd cd_c55_11, r55_11]
    repeat (refine And.intro (a := (_ = true)) (by first | (simp; done) | (simp; omega)) ?_)
    exact ⟨rfl, rfl⟩
theorem wordF (t : Bool) (ns rs : List (List AV)) (n : Nat) (c : Option Nat) (hn : ns.length = n) (hnm : ns.all isM = true) (hm : rs.all isM = true) (hx : rs.length < 1000000) (hx2 : n < 1000000) (hv : vOk rs 0 = true) : Word Try.prog (plOf pls) 38 [.fn 56 [] [.ptr 1 0 1 0, .ptr 2 0 1 0]] [some (.rows 3 ns), some (.lit [.sl 0 0 3 n none]), some (.lit [.imr t 3 rs c])] (IsF ns rs n t c) :=
  ⟨_, fi38, by simp, fun C _ h => frs_run C h t ns rs n c hn hnm hm hx hx2 hv⟩
end Go.Proofs.Ytdanhpemheldlaa
