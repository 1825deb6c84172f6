/- Disks: rows of acts; the word of Long. -/
import Derived.Test.YtmdepmhamefheaaKB
set_option linter.unusedSimpArgs false
set_option linter.unusedVariables false
-- FUNCTIONS 23
namespace Go.Proofs.Ytmdepmhamefheaa
open Go Go.SY
namespace DF
theorem plsOk : PlOk Try.prog (plOf pls) := KB.plsOk
theorem noK : KOk Try.prog (plOf pls) (fun _ => none) := KB.noK
def isA : List AV → Bool
  | [.v (.int .i64 _), .v (.int .i64 _), .imn false .u8 _ _] => true
  | _ => false
def aK : List AV → Int
  | [.v (.int .i64 k), _, _] => k
  | _ => 0
def aN : List AV → Int
  | [_, .v (.int .i64 n), _] => n
  | _ => 0
def aB : List AV → List Int
  | [_, _, .imn _ _ b _] => b
  | _ => []
def aC : List AV → Option Nat
  | [_, _, .imn _ _ _ c] => c
  | _ => none
theorem isA_eq {r : List AV} (h : isA r = true) : r = [.v (.int .i64 (aK r)), .v (.int .i64 (aN r)), .imn false .u8 (aB r) (aC r)] := by
  unfold isA at h
  split at h
  · rfl
  · cases h
theorem isA_flat {rs : List (List AV)} (h : rs.all isA = true) : FlatR rs := FlatR.of fun r hr => by
  have := isA_eq (List.all_eq_true.1 h r hr)
  rw [this]
  rfl
def atA (rs : List (List AV)) (i : Nat) : List AV := rs[i]?.getD []
theorem isA_row {rs : List (List AV)} (h : rs.all isA = true) {i : Nat} (hi : i < rs.length) : rs[i]?.getD [] = [.v (.int .i64 (aK (atA rs i))), .v (.int .i64 (aN (atA rs i))), .imn false .u8 (aB (atA rs i)) (aC (atA rs i))] := by
  have hm : isA (atA rs i) = true := by
    refine List.all_eq_true.1 h _ ?_
    rw [atA, List.getElem?_eq_getElem hi, Option.getD_some]
    exact List.getElem_mem _
  exact isA_eq hm
def lngA (rs : List (List AV)) : Bool := decide (60 < rs.length) || rs.any fun r => decide (200 < (aB r).length)
theorem lngA_few {rs : List (List AV)} (h : lngA rs = false) : rs.length ≤ 60 ∧ ∀ i, i < rs.length → (aB (atA rs i)).length ≤ 200 := by
  rw [lngA, Bool.or_eq_false_iff, decide_eq_false_iff_not] at h
  refine ⟨by omega, fun i hi => ?_⟩
  have := List.any_eq_false.1 h.2 (atA rs i) (by rw [atA, List.getElem?_eq_getElem hi, Option.getD_some]; exact List.getElem_mem _)
  simp only [decide_eq_true_eq] at this
  omega
def tL (t : Bool) (rs : List (List AV)) (c : Option Nat) (i : Nat) : TM := [(3, .v (.int .i64 i)), (2, .v (.bool false)), (0, .imr t 3 rs c)]
theorem tL_lv {rs : List (List AV)} (hf : FlatR rs) (t : Bool) (c : Option Nat) (i N : Nat) : lvT N true (tL t rs c i) = true := by
  cases t <;> simp [tL, lvT, lvB, tB, hf.lv]
set_option maxRecDepth 100000 in
set_option maxHeartbeats 4000000 in
theorem long_run (C : Ctx) (hC : C.β.b = []) (t : Bool) (rs : List (List AV)) (c : Option Nat) (hm : rs.all isA = true) (hl : rs.length < 4611686018427387904) : Rch Try.prog (plOf pls) C (conf0 23 ⟨24, [.tmp 2], code23⟩ [.imr t 3 rs c] []) (Res (.v (.bool (lngA rs))) []) := by
  have hf := isA_flat hm
  refine ExQ_ok [] 2000 plsOk noK ?_
  simp only [conf0]
  (try rw [exh]); simp (maxSteps := 4000000) only [stops, inK, stepF, frsF, frF, itemF, codeF, opsF, opsW, opF, wtS, sopF, pv, p_assign, SY.put, SY.ev, SY.mk, SY.ini, exq_go, ↓reduceIte, Nat.reduceLT, Nat.reduceAdd, true_and, Bool.and_self, Int.reduceLE, decide_true, regAt, body23, Try.f23, ↓exq_cd cd_code23, ↓exq_cd cd_c23_1, ↓exq_cd cd_c23_2, ↓exq_cd cd_c23_3, ↓exq_cd cd_c23_5, ↓exq_cd cd_c23_6, ↓exq_cd cd_c23_7, r23_1, r23_5]
  repeat (refine And.intro (a := (_ = true)) (by first | (simp; done) | (simp; omega)) ?_)
  refine Rch.loop plsOk ?_
  refine Rch.fit1 hC [] (bl' := []) (tm' := tL t rs c 0) rfl List.nodup_nil rfl ⟨rfl, rfl, congrArg (fun x => AV.imr t 3 x c) (hf.ren _).symm, trivial⟩ (tL_lv hf ..) trivial ?_
  refine loop_ind plsOk (α := {i : Nat // i ≤ rs.length ∧ ∀ j, j < i → (aB (atA rs j)).length ≤ 200}) (fun a => rs.length - a.1) (fun a => tL t rs c a.1) (fun _ => []) (fun _ => Res (.v (.bool (lngA rs))) []) ?_ ⟨0, Nat.zero_le _, fun j hj => absurd hj (Nat.not_lt_zero _)⟩
  rintro ⟨i, hi, hj⟩ ih
  simp only [tL] at hi hj ih ⊢
  by_cases h : (i : Int) < rs.length
  · have e := isA_row hm (i := i) (by omega)
    by_cases h61 : (i : Int) < 61
    · by_cases hb : (200 : Int) < (aB (atA rs i)).length
      · have hv : lngA rs = true := by
          rw [lngA, Bool.or_eq_true]
          refine .inr (List.any_eq_true.2 ⟨atA rs i, ?_, by simp only [decide_eq_true_eq]; omega⟩)
          rw [atA, List.getElem?_eq_getElem (by omega), Option.getD_some]
          exact List.getElem_mem _
        rw [hv]
        refine ExQ_ok [] 2000 plsOk noK ?_
        (try rw [exh]); simp (maxSteps := 4000000) only [h, h61, e, hb, stops, inK, stepF, frsF, frF, itemF, codeF, condF, opsF, opsW, opF, stepS, wtS, gdst, gdl, sopF, pv, bltF, callF, p_move, p_assign, p_pick, p_binOp, p_fieldAddr, p_indexAddr, p_len, l_load, SY.get, SY.put, SY.ev, SY.mk, SY.nth, dr, at1, rdC, bopInt, bop, pickAV, leaveS, retS, killL, isDefs, resS, resAll, tup1, AV.scal, exq_go, exq_t, ↓reduceIte, Nat.reduceLT, Nat.reduceEqDiff, Nat.reduceAdd, Nat.reduceSub, Bool.and_true, Bool.not_true, reduceCtorEq, true_and, Bool.and_self, Nat.zero_add, Int.toNat_natCast, Int.reduceLE, decide_true, ti3, ti22, ti39, ti42, regAt, fi23, body23, Try.f23, ↓exq_cd cd_c23_8, ↓exq_cd cd_c23_9, ↓exq_cd cd_c23_11, ↓exq_cd cd_c23_12, ↓exq_cd cd_c23_10, ↓exq_cd cd_c23_14, ↓exq_cd cd_c23_16, ↓exq_cd cd_c23_17, ↓exq_cd cd_c23_18, ↓exq_cd cd_c23_19, ↓exq_cd cd_c23_21, r23_11, r23_17, r23_21]
        repeat (refine And.intro (a := (_ = true)) (by first | (simp; done) | (simp; omega)) ?_)
        exact Res.val _ _
      · refine ExQ_ok [] 2000 plsOk noK ?_
        (try rw [exh]); simp (maxSteps := 4000000) only [h, h61, e, hb, stops, inK, stepF, frsF, frF, itemF, codeF, condF, opsF, opsW, opF, wtS, gdst, gdl, sopF, pv, bltF, callF, p_move, p_assign, p_pick, p_binOp, p_fieldAddr, p_indexAddr, p_len, l_load, SY.get, SY.put, SY.ev, SY.mk, SY.nth, dr, at1, rdC, ar, bopInt, bop, pickAV, AV.scal, exq_go, exq_t, exq_f, ↓reduceIte, Nat.reduceLT, Nat.reduceEqDiff, Nat.reduceAdd, Nat.reduceSub, Bool.and_true, Bool.not_true, reduceCtorEq, true_and, Bool.and_self, Nat.zero_add, Int.toNat_natCast, Int.reduceLE, decide_true, decide_false, ti3, ti22, ti39, ti42, regAt, body23, Try.f23, ↓exq_cd cd_c23_8, ↓exq_cd cd_c23_9, ↓exq_cd cd_c23_11, ↓exq_cd cd_c23_12, ↓exq_cd cd_c23_10, ↓exq_cd cd_c23_14, ↓exq_cd cd_c23_16, ↓exq_cd cd_c23_17, ↓exq_cd cd_c23_18, ↓exq_cd cd_c23_15, r23_11, r23_17, r23_15]
        repeat (refine And.intro (a := (_ = true)) (by first | (simp; done) | (simp; omega)) ?_)
        refine Rch.fit1 hC [] (bl' := []) (tm' := tL t rs c (i + 1)) rfl List.nodup_nil rfl ⟨rfl, rfl, congrArg (fun x => AV.imr t 3 x c) (hf.ren _).symm, trivial⟩ (tL_lv hf ..) trivial ?_
        exact ih ⟨i + 1, by omega, fun j hj' => by
          rcases Nat.lt_or_ge j i with h4 | h4
          · exact hj j h4
          · rw [show j = i by omega]; omega⟩ (by simp only; omega)
    · have hv : lngA rs = true := by
        rw [lngA, Bool.or_eq_true, decide_eq_true_eq]
        exact .inl (by omega)
      have h60 : (60 : Int) < rs.length := by omega
      rw [hv]
      refine ExQ_ok [] 2000 plsOk noK ?_
      (try rw [exh]); simp (maxSteps := 4000000) only [h, h61, h60, stops, inK, stepF, frsF, frF, itemF, codeF, condF, opsF, opsW, opF, stepS, wtS, gdst, gdl, sopF, pv, bltF, callF, p_move, p_assign, p_pick, p_binOp, p_len, SY.get, SY.put, SY.ev, SY.mk, bopInt, bop, pickAV, leaveS, retS, exitS, killL, isDefs, resS, resAll, tup1, exq_go, exq_t, exq_f, ↓reduceIte, Nat.reduceLT, Nat.reduceEqDiff, Nat.reduceAdd, Nat.reduceSub, Bool.not_true, reduceCtorEq, true_and, Bool.and_self, Int.reduceLE, decide_true, decide_false, ti3, ti39, regAt, fi23, body23, Try.f23, ↓exq_cd cd_c23_8, ↓exq_cd cd_c23_9, ↓exq_cd cd_c23_11, ↓exq_cd cd_c23_12, ↓exq_cd cd_c23_4, ↓exq_cd cd_c23_22, r23_11, r23_22]
      repeat (refine And.intro (a := (_ = true)) (by first | (simp; done) | (simp; omega)) ?_)
      exact Res.val _ _
  · obtain rfl : i = rs.length := by omega
    have hany : (rs.any fun r => decide (200 < (aB r).length)) = false := List.any_eq_false.2 fun r hr => by
      obtain ⟨j, hj1, rfl⟩ := List.getElem_of_mem hr
      have := hj j hj1
      rw [atA, List.getElem?_eq_getElem hj1, Option.getD_some] at this
      simp only [decide_eq_true_eq]
      omega
    by_cases h60 : (60 : Int) < rs.length
    · have hv : lngA rs = true := by
        rw [lngA, Bool.or_eq_true, decide_eq_true_eq]
        exact .inl (by omega)
      rw [hv]
      refine ExQ_ok [] 2000 plsOk noK ?_
      (try rw [exh]); simp (maxSteps := 4000000) only [h, h60, stops, inK, stepF, frsF, frF, itemF, codeF, condF, opsF, opsW, opF, stepS, wtS, gdst, gdl, sopF, pv, bltF, callF, p_move, p_assign, p_pick, p_binOp, p_len, SY.get, SY.put, SY.ev, SY.mk, bopInt, bop, pickAV, leaveS, retS, exitS, killL, isDefs, resS, resAll, tup1, exq_go, exq_f, ↓reduceIte, Nat.reduceLT, Nat.reduceEqDiff, Nat.reduceAdd, Nat.reduceSub, Bool.not_true, reduceCtorEq, true_and, Bool.and_self, Int.reduceLE, decide_true, decide_false, ti3, ti39, regAt, fi23, body23, Try.f23, ↓exq_cd cd_c23_8, ↓exq_cd cd_c23_9, ↓exq_cd cd_c23_11, ↓exq_cd cd_c23_12, ↓exq_cd cd_c23_4, ↓exq_cd cd_c23_22, r23_11, r23_22]
      repeat (refine And.intro (a := (_ = true)) (by first | (simp; done) | (simp; omega)) ?_)
      exact Res.val _ _
    · have hv : lngA rs = false := by
        rw [lngA, hany, Bool.or_false, decide_eq_false_iff_not]
        omega
      rw [hv]
      refine ExQ_ok [] 2000 plsOk noK ?_
      (try rw [exh]); simp (maxSteps := 4000000) only [h, h60, stops, inK, stepF, frsF, frF, itemF, codeF, condF, opsF, opsW, opF, stepS, wtS, gdst, gdl, sopF, pv, bltF, callF, p_move, p_assign, p_pick, p_binOp, p_len, SY.get, SY.put, SY.ev, SY.mk, bopInt, bop, pickAV, leaveS, retS, exitS, killL, isDefs, resS, resAll, tup1, exq_go, exq_f, ↓reduceIte, Nat.reduceLT, Nat.reduceEqDiff, Nat.reduceAdd, Nat.reduceSub, Bool.not_true, reduceCtorEq, true_and, Bool.and_self, Int.reduceLE, decide_true, decide_false, ti3, ti39, regAt, fi23, body23, Try.f23, ↓exq_cd cd_c23_8, ↓exq_cd cd_c23_9, ↓exq_cd cd_c23_11, ↓exq_cd cd_c23_12, ↓exq_cd cd_c23_4, ↓exq_cd cd_c23_22, r23_11, r23_22]
      repeat (refine And.intro (a := (_ = true)) (by first | (simp; done) | (simp; omega)) ?_)
      exact Res.val _ _
def sLng : List AV → Option (Bool × AV × Bls)
  | [.imr _ 3 rs _] => some (rs.all isA && decide (rs.length < 4611686018427387904), .v (.bool (lngA rs)), [])
  | _ => none
theorem long_ok : SpecOk Try.prog (plOf pls) 23 sLng := by
  refine ⟨_, fi23, fun args r bl1 h => ?_⟩
  unfold sLng at h
  split at h
  · simp only [Option.some.injEq, Prod.mk.injEq, Bool.and_eq_true, decide_eq_true_eq] at h
    obtain ⟨⟨h1, h2⟩, rfl, rfl⟩ := h
    exact ⟨by simp, fun C hC _ => long_run C hC _ _ _ h1 h2⟩
  · cases h
end DF
end Go.Proofs.Ytmdepmhamefheaa
