/- ViewOrder, in plain lists; Merge of nothing; slices.Equal. -/
import Derived.Test.YtdanhpemheldlaaVF1
import Derived.Test.YtdanhpemheldlaaCe
set_option linter.unusedSimpArgs false
set_option linter.unusedVariables false
-- FUNCTIONS 48
namespace Go.Proofs.Ytdanhpemheldlaa
open Go Go.SY
/-- A view with just the tops of words. -/
structure Tops (B : List (List AV)) (ws : List (List AV)) : Prop where
  ok : vOk B 0 = true
  all : B.all isM = true
  cov : ∀ r ∈ ws, Cov B r
  mem : ∀ x ∈ B, x ∈ ws
theorem geR_anti {x y : List AV} (hx : isM x = true) (hy : isM y = true) (h1 : geR x y) (h2 : geR y x) : x = y := row_eq hx hy (by
  obtain ⟨a, b⟩ := h1
  obtain ⟨c, d⟩ := h2
  simp only [tr3, Prod.mk.injEq]
  omega)
theorem cov_in {B : List (List AV)} (hb : B.all isM = true) {r : List AV} (h : Cov B r) : ∃ y, y ∈ B ∧ isM y = true ∧ geR y r := by
  obtain ⟨i, hi, hg⟩ := h
  exact ⟨rowA B i, by rw [rowA_get hi]; exact List.getElem_mem hi, all_row hb hi, hg⟩
theorem in_id {B : List (List AV)} (hv : vOk B 0 = true) {x y : List AV} (hx : x ∈ B) (hy : y ∈ B) (h : idR x = idR y) : x = y := by
  obtain ⟨i, hi, rfl⟩ := List.mem_iff_getElem.1 hx
  obtain ⟨j, hj, rfl⟩ := List.mem_iff_getElem.1 hy
  rw [← rowA_get hi, ← rowA_get hj] at h ⊢
  have a1 := (fnd_at hv hi h).2
  have a2 := (fnd_at hv hj rfl).2
  rw [a1] at a2
  rw [a2]
theorem tops_sub {A B ws : List (List AV)} (hA : Tops A ws) (hB : Tops B ws) : ∀ x ∈ A, x ∈ B := by
  intro x hx
  obtain ⟨y, hy, hym, hyg⟩ := cov_in hB.all (hB.cov x (hA.mem x hx))
  obtain ⟨z, hz, hzm, hzg⟩ := cov_in hA.all (hA.cov y (hB.mem y hy))
  have : z = x := in_id hA.ok hz hx (hzg.1.trans hyg.1)
  subst this
  rw [geR_anti hzm hym hzg hyg]
  exact hy
theorem vOk_ext : ∀ {A B : List (List AV)} {a b : Int}, vOk A a = true → vOk B b = true → (∀ x, x ∈ A ↔ x ∈ B) → A = B
  | [], [], _, _, _, _, _ => rfl
  | [], s :: p, _, _, _, _, h => absurd ((h s).2 (List.mem_cons_self ..)) (by simp)
  | r :: q, [], _, _, _, _, h => absurd ((h r).1 (List.mem_cons_self ..)) (by simp)
  | r :: q, s :: p, a, b, hA, hB, h => by
    simp only [vOk, Bool.and_eq_true, decide_eq_true_eq] at hA hB
    have lowA : ∀ x ∈ q, idR r < idR x := fun x hx => by
      obtain ⟨i, hi, rfl⟩ := List.mem_iff_getElem.1 hx
      rw [← rowA_get hi]
      exact ((vOk_from hA.2.2).1 i hi).2
    have lowB : ∀ x ∈ p, idR s < idR x := fun x hx => by
      obtain ⟨i, hi, rfl⟩ := List.mem_iff_getElem.1 hx
      rw [← rowA_get hi]
      exact ((vOk_from hB.2.2).1 i hi).2
    have e : r = s := by
      rcases List.mem_cons.1 ((h r).1 (List.mem_cons_self ..)) with e | h1
      · exact e
      · rcases List.mem_cons.1 ((h s).2 (List.mem_cons_self ..)) with e | h2
        · exact e.symm
        · have a1 := lowB r h1
          have a2 := lowA s h2
          omega
    subst e
    have hq : ∀ x, x ∈ q ↔ x ∈ p := fun x => by
      constructor
      · intro hx
        rcases List.mem_cons.1 ((h x).1 (List.mem_cons_of_mem _ hx)) with rfl | h1
        · have := lowA x hx; omega
        · exact h1
      · intro hx
        rcases List.mem_cons.1 ((h x).2 (List.mem_cons_of_mem _ hx)) with rfl | h1
        · have := lowB x hx; omega
        · exact h1
    rw [vOk_ext hA.2.2 hB.2.2 hq]
theorem tops_eq {A B ws : List (List AV)} (hA : Tops A ws) (hB : Tops B ws) : A = B :=
  vOk_ext hA.ok hB.ok fun x => ⟨tops_sub hA hB x, tops_sub hB hA x⟩
theorem tops_of {ws : List (List AV)} (hw : ∀ r ∈ ws, MemR r ∧ isM r = true) : Tops (mrgR [] ws) ws := by
  have h := mrgR_ok (vs := []) rfl rfl ws hw
  exact ⟨h.1, h.2, cov_mrg.2, fun x hx => (mrg_mem rfl rfl hw hx).resolve_left (by simp)⟩
theorem view_mem {A : List (List AV)} (hv : vOk A 0 = true) (ha : A.all isM = true) : ∀ r ∈ A, MemR r ∧ isM r = true := fun r hr => by
  obtain ⟨i, hi, rfl⟩ := List.mem_iff_getElem.1 hr
  rw [← rowA_get hi]
  exact ⟨((vOk_from hv).1 i hi).1, all_row ha hi⟩
/-- Two views merged: the tops of all words of both. -/
theorem tops_two {A B xs ys ws : List (List AV)} (hA : Tops A xs) (hB : Tops B ys) (h : ∀ x, x ∈ ws ↔ x ∈ xs ∨ x ∈ ys) : Tops (mrgR A B) ws := by
  have hm := view_mem hB.ok hB.all
  have ho := mrgR_ok hA.ok hA.all B hm
  refine ⟨ho.1, ho.2, fun r hr => ?_, fun x hx => ?_⟩
  · rcases (h r).1 hr with h1 | h1
    · exact cov_mrg.1 r (hA.cov r h1)
    · obtain ⟨y, hy, -, hyg⟩ := cov_in hB.all (hB.cov r h1)
      obtain ⟨i, hi, hg⟩ := (cov_mrg (vs := A) (ws := B)).2 y hy
      exact ⟨i, hi, geR_trans hg hyg⟩
  · rcases mrg_mem hA.ok hA.all hm hx with h1 | h1
    · exact (h x).2 (.inl (hA.mem x h1))
    · exact (h x).2 (.inr (hB.mem x h1))
theorem tops_more {A ws : List (List AV)} (hA : Tops A ws) (hw : ∀ r ∈ ws, MemR r ∧ isM r = true) : Tops (mrgR A ws) ws := by
  have ho := mrgR_ok hA.ok hA.all ws hw
  refine ⟨ho.1, ho.2, cov_mrg.2, fun x hx => ?_⟩
  rcases mrg_mem hA.ok hA.all hw hx with h1 | h1
  · exact hA.mem x h1
  · exact h1
theorem frsh_self {A : List (List AV)} (hv : vOk A 0 = true) : frsh A A = [] := by
  unfold frsh
  rw [List.filter_eq_nil_iff]
  intro r hr
  obtain ⟨i, hi, rfl⟩ := List.mem_iff_getElem.1 hr
  rw [← rowA_get hi]
  obtain ⟨f1, f2⟩ := fnd_at hv hi rfl
  rw [keepB, f1, f2, decide_eq_true rfl]
  decide
theorem swapR_perm {o : List (List AV)} {a b : Nat} (ha : a < o.length) (hb : b < o.length) : ((o.set a (rowA o b)).set b (rowA o a)).Perm o := by
  have := Array.swap_perm (xs := o.toArray) (i := a) (j := b) (by simpa using ha) (by simpa using hb)
  rw [Array.perm_iff_toList_perm] at this
  simpa [Array.swap_def, rowA_get ha, rowA_get hb] using this
def sameO (rs qs : List (List AV)) : Bool := decide (rs.map tr3 = qs.map tr3)
theorem sameO_len {rs qs : List (List AV)} (h : ¬ rs.length = qs.length) : sameO rs qs = false := decide_eq_false fun e => h (by simpa using congrArg List.length e)
theorem sameO_ne {rs qs : List (List AV)} (hl : rs.length = qs.length) {i : Nat} (hi : i < rs.length) (h : tr3 (rowA rs i) ≠ tr3 (rowA qs i)) : sameO rs qs = false := decide_eq_false fun e => h (by
  have e1 : (rs.map tr3)[i]? = (qs.map tr3)[i]? := by rw [e]
  rw [List.getElem?_map, List.getElem?_map, List.getElem?_eq_getElem hi, List.getElem?_eq_getElem (by omega)] at e1
  have r1 : rowA rs i = rs[i] := by unfold rowA; rw [List.getElem?_eq_getElem hi]; rfl
  have r2 : rowA qs i = qs[i] := by unfold rowA; rw [List.getElem?_eq_getElem (by omega)]; rfl
  rw [r1, r2]
  exact Option.some.inj e1)
theorem sameO_all {rs qs : List (List AV)} (hl : rs.length = qs.length) (h : ∀ i, i < rs.length → tr3 (rowA rs i) = tr3 (rowA qs i)) : sameO rs qs = true := decide_eq_true (by
  apply List.ext_getElem
  · simpa using hl
  · intro i h1 h2
    simp only [List.length_map] at h1 h2
    have := h i h1
    have r1 : rowA rs i = rs[i] := by unfold rowA; rw [List.getElem?_eq_getElem h1]; rfl
    have r2 : rowA qs i = qs[i] := by unfold rowA; rw [List.getElem?_eq_getElem h2]; rfl
    rw [r1, r2] at this
    simpa using this)
theorem sameO_refl (rs : List (List AV)) : sameO rs rs = true := decide_eq_true rfl
def sSameO : List AV → Option (Bool × AV × Bls)
  | [.imr _ 3 rs _, .imr _ 3 qs _] => some (rs.all isM && (qs.all isM && (decide (rs.length < 4611686018427387904) && decide (qs.length < 4611686018427387904))), .v (.bool (sameO rs qs)), [])
  | _ => none
def tX13o (t u : Bool) (rs qs : List (List AV)) (c d : Option Nat) (i : Nat) : TM := [(13, .v (.int .i64 i)), (12, .v (.int .i64 qs.length)), (0, .imr t 3 rs c), (1, .imr u 3 qs d)]
theorem tX13o_lv {rs qs : List (List AV)} (hf : FlatR rs) (hg : FlatR qs) (t u : Bool) (c d : Option Nat) (i N : Nat) : lvT N true (tX13o t u rs qs c d i) = true := by
  cases t <;> cases u <;> simp [tX13o, lvT, lvB, tB, hf.lv, hg.lv]

set_option maxRecDepth 100000 in
set_option maxHeartbeats 4000000 in
theorem equalO_run (C : Ctx) (hC : C.β.b = []) (t u : Bool) (rs qs : List (List AV)) (c d : Option Nat) (hm : rs.all isM = true) (hq : qs.all isM = true) (hx : rs.length < 4611686018427387904) (hx2 : qs.length < 4611686018427387904) : Rch Try.prog (plOf pls) C (conf0 48 ⟨26, [.tmp 4], code48⟩ [.imr t 3 rs c, .imr u 3 qs d] []) (Res (.v (.bool (sameO rs qs))) []) := by
  have hf := isM_flat hm
  have hg := isM_flat hq
  by_cases hlen : rs.length = qs.length
  case neg =>
    have g0 : ¬ (rs.length : Int) = qs.length := by omega
    refine ExQ_ok [] 2000 plsOk noK ?_
    simp only [conf0]
    (try rw [exh]); simp (maxSteps := 4000000) only [g0, stops, stepF, frsF, frF, itemF, codeF, condF, opsF, opsW, opF, stepS, wtS, sopF, pv, bltF, callF, p_move, p_assign, p_binOp, p_len, SY.get, SY.put, SY.ev, SY.mk, SY.ini, bopInt, bop, leaveS, retS, killL, isDefs, resS, resAll, tup1, exq_go, exq_t, ↓reduceIte, Nat.reduceLT, Nat.reduceEqDiff, Nat.reduceAdd, reduceCtorEq, true_and, Nat.zero_add, decide_true, not_false_eq_true, ti3, ti22, regAt, fi48, body48, Try.f48, ↓exq_cd cd_code48, ↓exq_cd cd_c48_1, ↓exq_cd cd_c48_2, ↓exq_cd cd_c48_3, ↓exq_cd cd_c48_5, ↓exq_cd cd_c48_6, ↓exq_cd cd_c48_7, ↓exq_cd cd_c48_9, r48_1, r48_5, r48_9]
    rw [sameO_len hlen]
    exact Res.val _ _
  have g0 : (rs.length : Int) = qs.length := by omega
  refine ExQ_ok [] 2000 plsOk noK ?_
  simp only [conf0]
  (try rw [exh]); simp (maxSteps := 4000000) only [g0, stops, inK, stepF, frsF, frF, itemF, codeF, condF, opsF, opsW, opF, wtS, sopF, pv, bltF, callF, p_move, p_assign, p_binOp, p_len, SY.get, SY.put, SY.ev, SY.mk, SY.ini, bopInt, bop, exq_go, exq_f, ↓reduceIte, Nat.reduceLT, Nat.reduceEqDiff, Nat.reduceAdd, reduceCtorEq, true_and, Bool.and_self, Nat.zero_add, Int.reduceLE, decide_true, decide_false, not_true_eq_false, ti3, ti22, regAt, body48, Try.f48, ↓exq_cd cd_code48, ↓exq_cd cd_c48_1, ↓exq_cd cd_c48_2, ↓exq_cd cd_c48_3, ↓exq_cd cd_c48_5, ↓exq_cd cd_c48_6, ↓exq_cd cd_c48_4, ↓exq_cd cd_c48_10, ↓exq_cd cd_c48_12, ↓exq_cd cd_c48_13, ↓exq_cd cd_c48_14, r48_1, r48_5, r48_12]
  repeat (refine And.intro (a := (_ = true)) (by first | (simp; done) | (simp; omega)) ?_)
  refine Rch.loop plsOk ?_
  refine Rch.fit1 hC [] (bl' := []) (tm' := tX13o t u rs qs c d 0) rfl List.nodup_nil rfl ⟨rfl, rfl, congrArg (fun x => AV.imr t 3 x c) (hf.ren _).symm, congrArg (fun x => AV.imr u 3 x d) (hg.ren _).symm, trivial⟩ (tX13o_lv hf hg ..) trivial ?_
  refine loop_ind plsOk (α := {i : Nat // i ≤ rs.length ∧ ∀ j, j < i → tr3 (rowA rs j) = tr3 (rowA qs j)}) (fun a => rs.length - a.1) (fun a => tX13o t u rs qs c d a.1) (fun _ => []) (fun a => Res (.v (.bool (sameO rs qs))) []) ?_ ⟨0, Nat.zero_le _, fun j hj => absurd hj (Nat.not_lt_zero _)⟩
  rintro ⟨i, hi, hj⟩ ih
  simp only [tX13o] at hi hj ih ⊢
  by_cases h : (i : Int) < qs.length
  · have e := isM_row hm (i := i) (by omega)
    have e' := isM_row hq (i := i) (by omega)
    have bad : tr3 (rowA rs i) ≠ tr3 (rowA qs i) → sameO rs qs = false := fun hne => sameO_ne hlen (by omega) hne
    by_cases h1 : idR (rowA rs i) = idR (rowA qs i)
    case neg =>
      refine ExQ_ok [] 2000 plsOk noK ?_
      (try rw [exh]); simp (maxSteps := 4000000) only [h, g0, e, e', h1, Bool.false_and, Bool.not_false, stops, stepF, frsF, frF, itemF, codeF, condF, opsF, opsW, opF, drF, drO, drW, drC, stepS, wtS, sopF, pv, popF, lopF, cls, rdl, p_move, p_assign, p_binOp, p_indexAddr, l_load, SY.get, SY.put, SY.ev, SY.mk, SY.nth, dr, tk, pack, parts, rdC, bopInt, bopEq, eqPs, bop, leaveS, retS, killL, isDefs, resS, resAll, tup1, plk, exq_go, exq_t, ↓reduceIte, Nat.reduceLT, Nat.reduceEqDiff, Nat.reduceAdd, Nat.reduceSub, Bool.and_true, Bool.not_false, reduceCtorEq, true_and, Int.toNat_natCast, decide_true, decide_false, ti3, ti22, ti29, regAt, fi48, body48, Try.f48, ↓exq_cd cd_c48_15, ↓exq_cd cd_c48_16, ↓exq_cd cd_c48_17, ↓exq_cd cd_c48_18, ↓exq_cd cd_c48_19, ↓exq_cd cd_c48_21, ↓exq_cd cd_c48_23, ↓exq_cd cd_c48_24, ↓exq_cd cd_c48_25, ↓exq_cd cd_c48_26, ↓exq_cd cd_c48_27, ↓exq_cd cd_c48_28, ↓exq_cd cd_c48_30, r48_16, r48_24, r48_26, r48_30, plA48, pl48]
      repeat (refine And.intro (a := (_ = true)) (by first | (simp; done) | (simp; omega)) ?_)
      rw [bad (fun h => h1 (congrArg Prod.fst h))]
      exact Res.val _ _
    by_cases h2 : stR (rowA rs i) = stR (rowA qs i)
    case neg =>
      refine ExQ_ok [] 2000 plsOk noK ?_
      (try rw [exh]); simp (maxSteps := 4000000) only [h, g0, e, e', h1, h2, Bool.false_and, Bool.and_false, Bool.not_false, stops, stepF, frsF, frF, itemF, codeF, condF, opsF, opsW, opF, drF, drO, drW, drC, stepS, wtS, sopF, pv, popF, lopF, cls, rdl, p_move, p_assign, p_binOp, p_indexAddr, l_load, SY.get, SY.put, SY.ev, SY.mk, SY.nth, dr, tk, pack, parts, rdC, bopInt, bopEq, eqPs, bop, leaveS, retS, killL, isDefs, resS, resAll, tup1, plk, exq_go, exq_t, ↓reduceIte, Nat.reduceLT, Nat.reduceEqDiff, Nat.reduceAdd, Nat.reduceSub, Bool.and_true, Bool.not_false, reduceCtorEq, true_and, Int.toNat_natCast, decide_true, decide_false, ti3, ti22, ti29, regAt, fi48, body48, Try.f48, ↓exq_cd cd_c48_15, ↓exq_cd cd_c48_16, ↓exq_cd cd_c48_17, ↓exq_cd cd_c48_18, ↓exq_cd cd_c48_19, ↓exq_cd cd_c48_21, ↓exq_cd cd_c48_23, ↓exq_cd cd_c48_24, ↓exq_cd cd_c48_25, ↓exq_cd cd_c48_26, ↓exq_cd cd_c48_27, ↓exq_cd cd_c48_28, ↓exq_cd cd_c48_30, r48_16, r48_24, r48_26, r48_30, plA48, pl48]
      repeat (refine And.intro (a := (_ = true)) (by first | (simp; done) | (simp; omega)) ?_)
      rw [bad (fun h => h2 (congrArg (fun x => x.2.1) h))]
      exact Res.val _ _
    by_cases h3 : icR (rowA rs i) = icR (rowA qs i)
    case neg =>
      refine ExQ_ok [] 2000 plsOk noK ?_
      (try rw [exh]); simp (maxSteps := 4000000) only [h, g0, e, e', h1, h2, h3, Bool.and_false, Bool.not_false, stops, stepF, frsF, frF, itemF, codeF, condF, opsF, opsW, opF, drF, drO, drW, drC, stepS, wtS, sopF, pv, popF, lopF, cls, rdl, p_move, p_assign, p_binOp, p_indexAddr, l_load, SY.get, SY.put, SY.ev, SY.mk, SY.nth, dr, tk, pack, parts, rdC, bopInt, bopEq, eqPs, bop, leaveS, retS, killL, isDefs, resS, resAll, tup1, plk, exq_go, exq_t, ↓reduceIte, Nat.reduceLT, Nat.reduceEqDiff, Nat.reduceAdd, Nat.reduceSub, Bool.and_true, Bool.not_false, reduceCtorEq, true_and, Int.toNat_natCast, decide_true, decide_false, ti3, ti22, ti29, regAt, fi48, body48, Try.f48, ↓exq_cd cd_c48_15, ↓exq_cd cd_c48_16, ↓exq_cd cd_c48_17, ↓exq_cd cd_c48_18, ↓exq_cd cd_c48_19, ↓exq_cd cd_c48_21, ↓exq_cd cd_c48_23, ↓exq_cd cd_c48_24, ↓exq_cd cd_c48_25, ↓exq_cd cd_c48_26, ↓exq_cd cd_c48_27, ↓exq_cd cd_c48_28, ↓exq_cd cd_c48_30, r48_16, r48_24, r48_26, r48_30, plA48, pl48]
      repeat (refine And.intro (a := (_ = true)) (by first | (simp; done) | (simp; omega)) ?_)
      rw [bad (fun h => h3 (congrArg (fun x => x.2.2) h))]
      exact Res.val _ _
    have eq : tr3 (rowA rs i) = tr3 (rowA qs i) := by simp only [tr3, h1, h2, h3]
    refine ExQ_ok [] 2000 plsOk noK ?_
    (try rw [exh]); simp (maxSteps := 4000000) only [h, g0, e, e', h1, h2, h3, Bool.and_self, Bool.not_true, stops, inK, stepF, frsF, frF, itemF, codeF, condF, opsF, opsW, opF, drF, drO, drW, drC, wtS, sopF, pv, popF, lopF, cls, rdl, p_move, p_assign, p_binOp, p_indexAddr, l_load, SY.get, SY.put, SY.ev, SY.mk, SY.nth, dr, tk, pack, parts, rdC, ar, bopInt, bopEq, eqPs, bop, plk, exq_go, exq_t, exq_f, ↓reduceIte, Nat.reduceLT, Nat.reduceEqDiff, Nat.reduceAdd, Nat.reduceSub, Bool.and_true, Bool.not_true, reduceCtorEq, true_and, Bool.and_self, Int.toNat_natCast, Int.reduceLE, decide_true, ti3, ti22, ti29, regAt, body48, Try.f48, ↓exq_cd cd_c48_15, ↓exq_cd cd_c48_16, ↓exq_cd cd_c48_17, ↓exq_cd cd_c48_18, ↓exq_cd cd_c48_19, ↓exq_cd cd_c48_21, ↓exq_cd cd_c48_23, ↓exq_cd cd_c48_24, ↓exq_cd cd_c48_25, ↓exq_cd cd_c48_26, ↓exq_cd cd_c48_27, ↓exq_cd cd_c48_22, r48_16, r48_24, r48_26, r48_22, plA48, pl48]
    repeat (refine And.intro (a := (_ = true)) (by first | (simp; done) | (simp; omega)) ?_)
    refine Rch.fit1 hC [] (bl' := []) (tm' := tX13o t u rs qs c d (i + 1)) rfl List.nodup_nil rfl ⟨rfl, rfl, congrArg (fun x => AV.imr t 3 x c) (hf.ren _).symm, congrArg (fun x => AV.imr u 3 x d) (hg.ren _).symm, trivial⟩ (tX13o_lv hf hg ..) trivial ?_
    exact ih ⟨i + 1, by omega, fun j hj' => by
      rcases Nat.lt_or_ge j i with h4 | h4
      · exact hj j h4
      · rw [show j = i by omega]; exact eq⟩ (by simp only; omega)
  · refine ExQ_ok [] 2000 plsOk noK ?_
    (try rw [exh]); simp (maxSteps := 4000000) only [h, stops, stepF, frsF, frF, itemF, codeF, condF, opsF, opsW, opF, stepS, wtS, sopF, pv, p_assign, p_binOp, SY.get, SY.put, SY.ev, SY.mk, bopInt, bop, leaveS, retS, exitS, killL, isDefs, resS, resAll, tup1, exq_go, exq_f, ↓reduceIte, Nat.reduceLT, Nat.reduceEqDiff, Nat.reduceAdd, true_and, decide_false, ti3, regAt, fi48, body48, Try.f48, ↓exq_cd cd_c48_15, ↓exq_cd cd_c48_16, ↓exq_cd cd_c48_17, ↓exq_cd cd_c48_18, ↓exq_cd cd_c48_11, ↓exq_cd cd_c48_31, r48_16, r48_31]
    repeat (refine And.intro (a := (_ = true)) (by first | (simp; done) | (simp; omega)) ?_)
    rw [sameO_all hlen (fun j h4 => hj j (by omega))]
    exact Res.val _ _
theorem equalO_ok : SpecOk Try.prog (plOf pls) 48 sSameO := by
  refine ⟨_, fi48, fun args r bl1 h => ?_⟩
  unfold sSameO at h
  split at h
  · simp only [Option.some.injEq, Prod.mk.injEq, Bool.and_eq_true, decide_eq_true_eq] at h
    obtain ⟨⟨h1, h2, h3, h4⟩, rfl, rfl⟩ := h
    exact ⟨by simp, fun C hC _ => equalO_run C hC _ _ _ _ _ _ h1 h2 h3 h4⟩
  · cases h

def sMrgN : List AV → Option (Bool × AV × Bls) := fun args => match args with
  | [.nil, .imr _ 3 ws _] => some (ws.all isM && decide (ws.length ≤ 200000), mrgV [] ws, mrgL [] ws)
  | [.imr _ 3 vs _, .imr _ 3 ws _] => some (vs.all isM && (ws.all isM && (decide (vs.length ≤ 200000) && decide (ws.length ≤ 200000))), mrgV vs ws, mrgL vs ws)
  | _ => none
theorem mrgn_run (C : Ctx) (hC : C.β.b = []) (u : Bool) (ws : List (List AV)) (d : Option Nat) (hwm : ws.all isM = true) (hx2 : ws.length ≤ 200000) :
    Rch Try.prog (plOf pls) C (conf0 10 ⟨64, [.tmp 4, .tmp 5, .tmp 6], code10⟩ [.nil, .imr u 3 ws d] []) (Res (mrgV [] ws) (mrgL [] ws)) := by
  have hg := isM_flat hwm
  have main := mrg_run C hC false u [] ws none d rfl hwm (Nat.zero_le _) hx2
  simp only [conf0] at main ⊢
  refine Rch.know 0 (fun _ : Unit => .imr false 3 [] none) (fun _ => True) (fun β v hd => ?_) rfl fun _ _ => ?_
  · have hd : Den β .nil v := hd
    simp only [Den] at hd ⊢
    exact ⟨(), trivial, none, 0, [], hd, Nat.le_refl _, by decide, (fun m hm => by cases hm), (by simp only [DenR]), fun h => absurd rfl h⟩
  · refine Rch.fit1 hC [] (bl' := []) (tm' := [(0, .imr false 3 [] none), (1, .imr u 3 ws d)]) rfl List.nodup_nil rfl ⟨rfl, congrArg (fun x => AV.imr u 3 x d) (hg.ren _).symm, trivial⟩ (by cases u <;> simp [lvT, lvB, lvR, tB, hg.lv]) trivial ?_
    exact main
theorem mrgn_ok : SpecOk Try.prog (plOf pls) 10 sMrgN := by
  refine ⟨_, fi10, fun args r bl1 h => ?_⟩
  unfold sMrgN at h
  split at h
  · simp only [Option.some.injEq, Prod.mk.injEq, Bool.and_eq_true, decide_eq_true_eq] at h
    obtain ⟨⟨h1, h2⟩, rfl, rfl⟩ := h
    exact ⟨by simp, fun C hC _ => mrgn_run C hC _ _ _ h1 h2⟩
  · simp only [Option.some.injEq, Prod.mk.injEq, Bool.and_eq_true, decide_eq_true_eq] at h
    obtain ⟨⟨h1, h2, h3, h4⟩, rfl, rfl⟩ := h
    exact ⟨by simp, fun C hC _ => mrg_run C hC _ _ _ _ _ _ h1 h2 h3 h4⟩
  · cases h
end Go.Proofs.Ytdanhpemheldlaa
