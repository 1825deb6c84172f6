/-
  The symbolic machine: words on memory that is taken over, as contracts; slices.Insert.
-/
import Derived.Test.YtdanhpemheldlaaSy35
set_option linter.unusedSimpArgs false
set_option linter.unusedVariables false
namespace Go.SY
open Go
mutual
theorem ren_free (ρ : Nat → Nat) {T : Bool} : ∀ {x : AV}, lvB 0 T x = true → ren ρ x = x
  | .ptr .., h => by simp [lvB] at h
  | .sl .., h => by simp [lvB] at h
  | .mp _, h => by simp [lvB] at h
  | .yld _, h => by simp [lvB] at h
  | .fn f a b, h => by
    simp only [lvB, Bool.and_eq_true] at h
    simp only [ren, renL_free ρ h.1, renL_free ρ h.2]
  | .agg xs, h => by simp only [lvB] at h; simp only [ren, renL_free ρ h]
  | .tup xs, h => by simp only [lvB] at h; simp only [ren, renL_free ρ h]
  | .imr t w rs c, h => by simp only [lvB, Bool.and_eq_true] at h; simp only [ren, renR_free ρ h.2]
  | .ip t row k, h => by simp only [lvB, Bool.and_eq_true] at h; simp only [ren, renL_free ρ h.2]
  | .v _, _ => rfl
  | .nil, _ => rfl
  | .imn .., _ => rfl
  | .ch .., _ => rfl
  | .any, _ => rfl
theorem renL_free (ρ : Nat → Nat) {T : Bool} : ∀ {x : List AV}, lvL 0 T x = true → renL ρ x = x
  | [], _ => rfl
  | x :: r, h => by
    simp only [lvL, Bool.and_eq_true] at h
    simp only [renL, ren_free ρ h.1, renL_free ρ h.2]
theorem renR_free (ρ : Nat → Nat) {T : Bool} : ∀ {x : List (List AV)}, lvR 0 T x = true → renR ρ x = x
  | [], _ => rfl
  | x :: r, h => by
    simp only [lvR, Bool.and_eq_true] at h
    simp only [renR, renL_free ρ h.1, renR_free ρ h.2]
end
mutual
theorem lvB_up {N : Nat} {T T' : Bool} (hT : T = true → T' = true) : ∀ {x : AV}, lvB 0 T x = true → lvB N T' x = true
  | .ptr .., h => by simp [lvB] at h
  | .sl .., h => by simp [lvB] at h
  | .mp _, h => by simp [lvB] at h
  | .yld _, h => by simp [lvB] at h
  | .fn f a b, h => by
    simp only [lvB, Bool.and_eq_true] at h ⊢
    exact ⟨lvL_up hT h.1, lvL_up hT h.2⟩
  | .agg xs, h => by simp only [lvB] at h ⊢; exact lvL_up hT h
  | .tup xs, h => by simp only [lvB] at h ⊢; exact lvL_up hT h
  | .imr t w rs c, h => by
    simp only [lvB, Bool.and_eq_true] at h ⊢
    exact ⟨by cases t <;> simp_all [tB], lvR_up hT h.2⟩
  | .ip t row k, h => by
    simp only [lvB, Bool.and_eq_true] at h ⊢
    exact ⟨by cases t <;> simp_all [tB], lvL_up hT h.2⟩
  | .v _, _ => rfl
  | .nil, _ => rfl
  | .imn t _ _ _, h => by simp only [lvB] at h ⊢; cases t <;> simp_all [tB]
  | .ch .., _ => rfl
  | .any, _ => rfl
theorem lvL_up {N : Nat} {T T' : Bool} (hT : T = true → T' = true) : ∀ {x : List AV}, lvL 0 T x = true → lvL N T' x = true
  | [], _ => rfl
  | x :: r, h => by
    simp only [lvL, Bool.and_eq_true] at h ⊢
    exact ⟨lvB_up hT h.1, lvL_up hT h.2⟩
theorem lvR_up {N : Nat} {T T' : Bool} (hT : T = true → T' = true) : ∀ {x : List (List AV)}, lvR 0 T x = true → lvR N T' x = true
  | [], _ => rfl
  | x :: r, h => by
    simp only [lvR, Bool.and_eq_true] at h ⊢
    exact ⟨lvL_up hT h.1, lvR_up hT h.2⟩
end
theorem lvR_app {N : Nat} {T : Bool} : ∀ {a b : List (List AV)}, lvR N T a = true → lvR N T b = true → lvR N T (a ++ b) = true
  | [], _, _, h => h
  | x :: a, b, h, k => by
    simp only [lvR, Bool.and_eq_true, List.cons_append] at h ⊢
    exact ⟨h.1, lvR_app h.2 k⟩

def LntL (bl : Bls) (σ : List Nat) : List AV → List AV → Prop
  | [], xs0 => xs0 = []
  | x :: r, xs0 => ∃ x0 r0, xs0 = x0 :: r0 ∧ LntA bl σ x x0 ∧ LntL bl σ r r0
theorem lntL_den {β : Env} {bl : Bls} {w : World} {σ : List Nat} (hh : Heap β bl w) : ∀ {xs xs0 : List AV} {vs : List Value}, LntL bl σ xs xs0 → DenL β xs vs → DenL (takeE σ β bl w) xs0 vs
  | [], xs0, vs, h, hd => by
    simp only [LntL] at h
    subst h
    simpa only [DenL] using hd
  | x :: r, _, vs, h, hd => by
    simp only [LntL] at h
    obtain ⟨x0, r0, rfl, h1, h2⟩ := h
    simp only [DenL] at hd ⊢
    obtain ⟨y, zs, rfl, h3, h4⟩ := hd
    exact ⟨y, zs, rfl, lntA_den hh h1 h3, lntL_den hh h2 h4⟩
section
variable {P : Program} {pl : FuncId → Nat → Option Plan}
/-- What a call comes to, as the model has it. -/
theorem word_core (hpl : PlOk P pl) {g : FuncId} {args args0 : List AV} {bl bl0 : Bls} {Q : AV → Bls → Prop} (σ : List Nat) (hW : Word P pl g args0 bl0 Q) (hT : LntL bl σ args args0) (hn : σ.Nodup) (hσ : (σ.all fun l => decide (l < bl.length)) = true) (hlen : σ.length = bl0.length) (hb : FitB (nm σ) σ.length bl 0 bl0)
    (hQ : ∀ r bl', Q r bl' → okRet r bl' = true ∧ bl0.length ≤ bl'.length) {β : Env} {w : World} {vs : List Value} (cs : List Frame) (hh : Heap β bl w) (hck : β.ck = Ck P pl) (hd : DenL β args vs) :
    ∃ v fr β2 w' r bl', Steps P (lone (Frame.enter P g vs.toArray .normal) cs w) (lone fr cs w') ∧ fr.leaving P w' (.returned v) ∧ Q r bl' ∧ Den β2 (ren (tauN σ bl.length) r) v ∧ Ext β bl w β2 (aftT σ bl bl') w' := by
  obtain ⟨F, hF, hargs, hrun⟩ := hW
  have hk0 := take_heap hh hn hlen hb
  have run := hrun ⟨takeE σ β bl w, bl0, w, cs, g⟩ rfl hk0.len (takeE σ β bl w) (lone (Frame.enter P g vs.toArray .normal) cs w)
    ⟨⟨_, [], _, [], w, rfl, rfl, enter_ok hF (hpl.ck g F hF) hck (lntL_den hh hT hd) hargs, rfl, .refl hk0⟩, rfl, hck⟩
  obtain ⟨v, fr, β1, r, bl', w', k1, k2, k3, k4, k5, k6⟩ := run
  obtain ⟨q1, q2⟩ := hQ r bl' k6
  obtain ⟨β2, e1, e2⟩ := ret_core hh hn hσ hlen hb k5 k4 q1 q2
  exact ⟨v, fr, β2, w', r, bl', k1, k3, k6, e1, e2⟩
end

/-! ### slices.Insert of one row -/
def InsQ (w : Nat) (rs out : List (List AV)) (r : AV) (bl' : Bls) : Prop := (∃ c, r = .sl 0 0 w out.length c ∧ bl' = [some (.rows w out)]) ∨ (∃ c x, (x = none ∨ x = some (.rows w rs)) ∧ r = .sl 1 0 w out.length c ∧ bl' = [x, some (.rows w out)])
def insK (w : Nat) (args : List AV) (bl : Bls) : Option (Bool × AV × Bls) := match args with
  | [s, .v (.int .i64 k), v] => (match s with
    | .sl l i w' n _ => (match lvl bl l with
      | some (.rows w2 rs) => if w' = w ∧ w2 = w then (match lnd (setl bl l none) v with
        | some (v1, .imr _ w3 [row] _) => if w3 = w then some (v1 && (decide (i = 0) && (decide (rs.length = n) && (decide (0 ≤ k) && (decide (k ≤ n) && (decide (n < 1000000) && (lvR 0 false rs && lvL 0 false row)))))), .sl bl.length 0 w (n + 1) none, setl bl l none ++ [some (.rows w (rs.take k.toNat ++ (row :: rs.drop k.toNat)))]) else none
        | _ => none) else none
      | _ => none)
    | .nil => (match lnd bl v with
      | some (v1, .imr _ w3 [row] _) => if w3 = w then some (v1 && (decide (k = 0) && lvL 0 false row), .sl bl.length 0 w 1 none, bl ++ [some (.rows w [row])]) else none
      | _ => none)
    | _ => none)
  | _ => none
structure InsOk (P : Program) (pl : FuncId → Nat → Option Plan) (g : FuncId) (w : Nat) : Prop where
  sl : ∀ (rs : List (List AV)) (n k : Nat) (row : List AV) (t : Bool) (c c3 : Option Nat), rs.length = n → k ≤ n → n < 1000000 → Word P pl g [.sl 0 0 w n none, .v (.int .i64 k), .imr t w [row] c3] [some (.rows w rs)] (InsQ w rs (rs.take k ++ (row :: (rs.take n).drop k)))
  nl : ∀ (row : List AV) (t : Bool) (c3 : Option Nat), Word P pl g [.nil, .v (.int .i64 0), .imr t w [row] c3] [] (fun r bl' => (∃ c, r = .sl 0 0 w 1 c) ∧ bl' = [some (.rows w [row])])

theorem den_capless {β : Env} {l i w n : Nat} {c : Option Nat} {v : Value} (h : Den β (.sl l i w n c) v) : Den β (.sl l i w n none) v := by
  simp only [Den] at h ⊢
  obtain ⟨A, q, h1, h2, h3, -, h5⟩ := h
  exact ⟨A, q, h1, h2, h3, (fun m hm => by cases hm), h5⟩

/-- A call that takes rows over and leaves others. -/
theorem insQ_call {P : Program} {pl : FuncId → Nat → Option Plan} (hpl : PlOk P pl) {g : FuncId} {w3 l : Nat} {rs out : List (List AV)} {args args0 : List AV} {bl : Bls} (hW : Word P pl g args0 [some (.rows w3 rs)] (InsQ w3 rs out)) (hl : lvl bl l = some (.rows w3 rs)) (hf1 : lvR 0 false rs = true) (hfree : lvR 0 false out = true) (hT : LntL bl [l] args args0)
    (β : Env) (w : World) (vs : List Value) (cs : List Frame) (hh : Heap β bl w) (hck : β.ck = Ck P pl) (hd' : DenL β args vs) :
    ∃ v fr β' w', Steps P (lone (Frame.enter P g vs.toArray .normal) cs w) (lone fr cs w') ∧ fr.leaving P w' (.returned v) ∧ Den β' (.sl bl.length 0 w3 out.length none) v ∧ Ext β bl w β' (setl bl l none ++ [some (.rows w3 out)]) w' := by
  have hll : l < bl.length := (List.getElem?_eq_some_iff.1 (lvl_get hl)).1
  obtain ⟨v', fr, β2, w', r, bl', k1, k2, k3, k4, k5⟩ := word_core (bl := bl) hpl [l] hW hT (by simp) (by simpa using hll) rfl
    ⟨⟨by rw [show nm [l] 0 = l from rfl, hl]; simp only [renCt]; rw [renR_free _ hf1], by simp only [lvCt]; exact lvR_up (fun h => by cases h) hf1⟩, trivial⟩
    (fun r bl' hq => by
      rcases hq with ⟨c, rfl, rfl⟩ | ⟨c, x, hx, rfl, rfl⟩
      · exact ⟨by simp only [okRet, lvB, okBls, Ct.cell, lvCt, List.length_cons, List.length_nil, Bool.and_eq_true, Bool.true_and, Bool.and_true, decide_eq_true_eq]; exact ⟨by omega, lvR_up (fun h => h) hfree⟩, by simp⟩
      · refine ⟨?_, by simp⟩
        rcases hx with rfl | rfl
        · simp only [okRet, lvB, okBls, Ct.cell, lvCt, List.length_cons, List.length_nil, Bool.and_eq_true, Bool.true_and, Bool.and_true, decide_eq_true_eq]
          exact ⟨by omega, lvR_up (fun h => h) hfree⟩
        · simp only [okRet, lvB, okBls, Ct.cell, lvCt, List.length_cons, List.length_nil, Bool.and_eq_true, Bool.true_and, Bool.and_true, decide_eq_true_eq]
          exact ⟨by omega, lvR_up (fun h => h) hf1, lvR_up (fun h => h) hfree⟩) cs hh hck hd'
  have t0 : tauN [l] bl.length 0 = l := by simp [tauN, nm]
  have t1 : tauN [l] bl.length 1 = bl.length := by simp [tauN]
  rcases k3 with ⟨c', rfl, rfl⟩ | ⟨c', x, hx, rfl, rfl⟩
  · -- where it was
    have ea : aftT [l] bl [some (.rows w3 out)] = setl bl l (some (.rows w3 out)) := by
      simp only [aftT, updT, mapB, List.drop_succ_cons, List.drop_zero, List.length_cons, List.length_nil, List.drop_nil, List.append_nil, renCt]
      rw [renR_free _ hfree]
    rw [ea] at k5
    simp only [ren, t0] at k4
    have hset : (setl bl l (some (.rows w3 out)))[l]? = some (some (.rows w3 out)) := by
      rw [setl_set, List.getElem?_set_self hll]
    obtain ⟨base, hbase, -⟩ := k5.heap.lv _ _ hset
    have hr := k5.heap.rename hset hbase
    have hx := k5.trans hr
    rw [setl_set, List.set_set, ← setl_set] at hx
    refine ⟨v', fr, _, w', k1, k2, ?_, hx⟩
    have hlen : β2.b.length = bl.length := by rw [k5.heap.len, setl_set]; simp
    simp only [Den] at k4 ⊢
    obtain ⟨A, q, e1, e2, e3, -, e5⟩ := k4
    refine ⟨A, q, e1, e2, e3, (fun m hm => by cases hm), fun hq => ?_⟩
    obtain ⟨b, s, f1, f2, f3⟩ := e5 hq
    refine ⟨b, s, ?_, f2, f3⟩
    rw [hbase] at f1
    rw [← hlen]
    simpa using f1
  · -- anew
    have ea : aftT [l] bl [x, some (.rows w3 out)] = setl bl l x ++ [some (.rows w3 out)] := by
      simp only [aftT, updT, mapB, List.drop_succ_cons, List.drop_zero, List.length_cons, List.length_nil, List.drop_nil, List.append_nil, renCt]
      rw [renR_free _ hfree]
      rcases hx with rfl | rfl
      · rfl
      · simp only [renCt]
        rw [renR_free _ hf1]
    rw [ea] at k5
    simp only [ren, t1] at k4
    refine ⟨v', fr, β2, w', k1, k2, den_capless k4, ?_⟩
    have hkl := k5.trans (killO_ext k5.heap (some l))
    have : killO (some l) (setl bl l x ++ [some (.rows w3 out)]) = setl bl l none ++ [some (.rows w3 out)] := by
      simp only [killO, setl_set]
      rw [List.set_append_left _ _ (by simpa using hll), List.set_set]
    rw [this] at hkl
    exact hkl

theorem insK_ok {P : Program} {pl : FuncId → Nat → Option Plan} (hpl : PlOk P pl) {g : FuncId} {w : Nat} (h : InsOk P pl g w) (hF : ∃ F, fi P g = some F) :
    (∃ F, fi P g = some F) ∧ ∀ args bl r bl', insK w args bl = some (true, r, bl') → Kl bl bl' ∧
    ∀ (β : Env) (w : World) (vs : List Value) (cs : List Frame), Heap β bl w → β.ck = Ck P pl → DenL β args vs →
      ∃ v fr β' w', Steps P (lone (Frame.enter P g vs.toArray .normal) cs w) (lone fr cs w') ∧ fr.leaving P w' (.returned v) ∧ Den β' r v ∧ Ext β bl w β' bl' w' := by
  refine ⟨hF, fun args bl r bl' hx => ?_⟩
  unfold insK at hx
  split at hx
  · rename_i s k v
    split at hx
    · rename_i l i w' n c
      split at hx
      · rename_i w2 rs hl
        split at hx
        · rename_i hw
          obtain ⟨rfl, rfl⟩ := hw
          split at hx
          · rename_i v1 t w3 row c3 hv
            split at hx
            · rename_i hw3
              subst hw3
              simp only [Option.some.injEq, Prod.mk.injEq, Bool.and_eq_true, decide_eq_true_eq] at hx
              obtain ⟨⟨rfl, rfl, hn, hk0, hk1, hn2, hf1, hf2⟩, rfl, rfl⟩ := hx
              obtain ⟨k, rfl⟩ := Int.eq_ofNat_of_zero_le hk0
              have hk : k ≤ n := by omega
              have hll : l < bl.length := (List.getElem?_eq_some_iff.1 (lvl_get hl)).1
              refine ⟨(Kll.kill bl l).app _, fun β w vs cs hh hck hd => ?_⟩
              have hd' : DenL β [.sl l 0 w3 n none, .v (.int .i64 k), v] vs := by
                simp only [DenL] at hd ⊢
                obtain ⟨y, zs, e, h1, h2⟩ := hd
                exact ⟨y, zs, e, den_capless h1, h2⟩
              have hfree : lvR 0 false (rs.take k ++ (row :: (rs.take n).drop k)) = true := by
                refine lvR_app (lvR_take _ hf1) ?_
                simp only [lvR, Bool.and_eq_true]
                exact ⟨hf2, lvR_drop _ (lvR_take _ hf1)⟩
              have hol : (rs.take k ++ (row :: (rs.take n).drop k)).length = n + 1 := by simp; omega
              have heq : (rs.take n).drop k = rs.drop k := by rw [List.take_of_length_le (by omega)]
              rw [Int.toNat_natCast, ← heq, ← hol]
              exact insQ_call (args := [.sl l 0 w3 n none, .v (.int .i64 k), v]) hpl (h.sl rs n k row t none c3 hn hk hn2) hl hf1 hfree ⟨_, _, rfl, .inl ⟨by simp [ren, nm], by simp [lvB]⟩, _, _, rfl, .inl ⟨rfl, rfl⟩, _, _, rfl, .inr hv, rfl⟩ β w vs cs hh hck hd'
            · cases hx
          · cases hx
        · cases hx
      · cases hx
    · split at hx
      · rename_i v1 t w3 row c3 hv
        split at hx
        · rename_i hw3
          subst hw3
          simp only [Option.some.injEq, Prod.mk.injEq, Bool.and_eq_true, decide_eq_true_eq] at hx
          obtain ⟨⟨rfl, rfl, hf⟩, rfl, rfl⟩ := hx
          refine ⟨(Kll.refl bl).app _, fun β w vs cs hh hck hd => ?_⟩
          have hfree : lvR 0 false [row] = true := by simp only [lvR, Bool.and_true]; exact hf
          obtain ⟨v', fr, β2, w', r, bl', k1, k2, k3, k4, k5⟩ := word_core (bl := bl) hpl [] (h.nl row t c3) (args := [.nil, .v (.int .i64 0), v])
            ⟨_, _, rfl, .inl ⟨rfl, rfl⟩, _, _, rfl, .inl ⟨rfl, rfl⟩, _, _, rfl, .inr hv, rfl⟩ (by simp) rfl rfl trivial
            (fun r bl' hq => by
              obtain ⟨⟨c, rfl⟩, rfl⟩ := hq
              exact ⟨by simp only [okRet, lvB, okBls, Ct.cell, lvCt, List.length_cons, List.length_nil, Bool.and_eq_true, Bool.true_and, Bool.and_true, decide_eq_true_eq]; exact ⟨by omega, lvR_up (fun h => h) hfree⟩, by simp⟩) cs hh hck hd
          obtain ⟨⟨c, rfl⟩, rfl⟩ := k3
          have t0 : tauN [] bl.length 0 = bl.length := by simp [tauN]
          have ea : aftT [] bl [some (.rows w3 [row])] = bl ++ [some (.rows w3 [row])] := by
            simp only [aftT, updT, mapB, List.drop_zero, List.length_nil, renCt]
            rw [renR_free _ hfree]
          rw [ea] at k5
          simp only [ren, t0] at k4
          exact ⟨v', fr, β2, w', k1, k2, den_capless k4, k5⟩
        · cases hx
      · cases hx
    · cases hx
  · cases hx
/-! ### slices.Delete -/
def delK (w : Nat) (args : List AV) (bl : Bls) : Option (Bool × AV × Bls) := match args with
  | [s, .v (.int .i64 k), .v (.int .i64 j)] => (match s with
    | .sl l i w' n _ => (match lvl bl l with
      | some (.rows w2 rs) => if w' = w ∧ w2 = w then some (decide (i = 0) && (decide (rs.length = n) && (decide (0 ≤ k) && (decide (k ≤ j) && (decide (j ≤ n) && (decide (n < 1000000) && lvR 0 false rs))))), .sl bl.length 0 w (rs.take k.toNat ++ rs.drop j.toNat).length none, setl bl l none ++ [some (.rows w (rs.take k.toNat ++ rs.drop j.toNat))]) else none
      | _ => none)
    | .nil => some (decide (k = 0) && decide (j = 0), .nil, bl)
    | _ => none)
  | _ => none
structure DelOk (P : Program) (pl : FuncId → Nat → Option Plan) (g : FuncId) (w : Nat) : Prop where
  sl : ∀ (rs : List (List AV)) (n k j : Nat), rs.length = n → k ≤ j → j ≤ n → n < 1000000 → Word P pl g [.sl 0 0 w n none, .v (.int .i64 k), .v (.int .i64 j)] [some (.rows w rs)] (InsQ w rs (rs.take k ++ rs.drop j))
  nl : Word P pl g [.nil, .v (.int .i64 0), .v (.int .i64 0)] [] (fun r bl' => r = .nil ∧ bl' = [])
theorem delK_ok {P : Program} {pl : FuncId → Nat → Option Plan} (hpl : PlOk P pl) {g : FuncId} {w : Nat} (h : DelOk P pl g w) (hF : ∃ F, fi P g = some F) :
    (∃ F, fi P g = some F) ∧ ∀ args bl r bl', delK w args bl = some (true, r, bl') → Kl bl bl' ∧
    ∀ (β : Env) (w : World) (vs : List Value) (cs : List Frame), Heap β bl w → β.ck = Ck P pl → DenL β args vs →
      ∃ v fr β' w', Steps P (lone (Frame.enter P g vs.toArray .normal) cs w) (lone fr cs w') ∧ fr.leaving P w' (.returned v) ∧ Den β' r v ∧ Ext β bl w β' bl' w' := by
  refine ⟨hF, fun args bl r bl' hx => ?_⟩
  unfold delK at hx
  split at hx
  · rename_i s k j
    split at hx
    · rename_i l i w' n c
      split at hx
      · rename_i w2 rs hl
        split at hx
        · rename_i hw
          obtain ⟨rfl, rfl⟩ := hw
          simp only [Option.some.injEq, Prod.mk.injEq, Bool.and_eq_true, decide_eq_true_eq] at hx
          obtain ⟨⟨rfl, hn, hk0, hkj, hjn, hn2, hf1⟩, rfl, rfl⟩ := hx
          obtain ⟨k, rfl⟩ := Int.eq_ofNat_of_zero_le hk0
          obtain ⟨j, rfl⟩ := Int.eq_ofNat_of_zero_le (a := j) (by omega)
          refine ⟨(Kll.kill bl l).app _, fun β w vs cs hh hck hd => ?_⟩
          have hd' : DenL β [.sl l 0 w2 n none, .v (.int .i64 k), .v (.int .i64 j)] vs := by
            simp only [DenL] at hd ⊢
            obtain ⟨y, zs, e, h1, h2⟩ := hd
            exact ⟨y, zs, e, den_capless h1, h2⟩
          simp only [Int.toNat_natCast]
          exact insQ_call (args := [.sl l 0 w2 n none, .v (.int .i64 k), .v (.int .i64 j)]) hpl (h.sl rs n k j hn (by omega) (by omega) hn2) hl hf1 (lvR_app (lvR_take _ hf1) (lvR_drop _ hf1)) ⟨_, _, rfl, .inl ⟨by simp [ren, nm], by simp [lvB]⟩, _, _, rfl, .inl ⟨rfl, rfl⟩, _, _, rfl, .inl ⟨rfl, rfl⟩, rfl⟩ β w vs cs hh hck hd'
        · cases hx
      · cases hx
    · simp only [Option.some.injEq, Prod.mk.injEq, Bool.and_eq_true, decide_eq_true_eq] at hx
      obtain ⟨⟨rfl, rfl⟩, rfl, rfl⟩ := hx
      refine ⟨Kl.refl bl, fun β w vs cs hh hck hd => ?_⟩
      obtain ⟨v', fr, β2, w', r, bl', k1, k2, k3, k4, k5⟩ := word_core (bl := bl) hpl [] h.nl (args := [.nil, .v (.int .i64 0), .v (.int .i64 0)])
        ⟨_, _, rfl, .inl ⟨rfl, rfl⟩, _, _, rfl, .inl ⟨rfl, rfl⟩, _, _, rfl, .inl ⟨rfl, rfl⟩, rfl⟩ (by simp) rfl rfl trivial
        (fun r bl' hq => by
          obtain ⟨rfl, rfl⟩ := hq
          exact ⟨rfl, Nat.le_refl _⟩) cs hh hck hd
      obtain ⟨rfl, rfl⟩ := k3
      have ea : aftT [] bl [] = bl := by simp [aftT, updT, mapB]
      rw [ea] at k5
      exact ⟨v', fr, β2, w', k1, k2, k4, k5⟩
    · cases hx
  · cases hx
/-- A contract ahead of a table. -/
def ktW (g : FuncId) (c : List AV → Bls → Option (Bool × AV × Bls)) (K : KT) : KT := fun f => if g = f then some c else K f
theorem ktW_ok {P : Program} {pl : FuncId → Nat → Option Plan} {K : KT} (hK : KOk P pl K) {g : FuncId} {c : List AV → Bls → Option (Bool × AV × Bls)} (h : (∃ F, fi P g = some F) ∧ ∀ args bl r bl', c args bl = some (true, r, bl') → Kl bl bl' ∧
    ∀ (β : Env) (w : World) (vs : List Value) (cs : List Frame), Heap β bl w → β.ck = Ck P pl → DenL β args vs →
      ∃ v fr β' w', Steps P (lone (Frame.enter P g vs.toArray .normal) cs w) (lone fr cs w') ∧ fr.leaving P w' (.returned v) ∧ Den β' r v ∧ Ext β bl w β' bl' w') : KOk P pl (ktW g c K) := fun f c' hc => by
  simp only [ktW] at hc
  split at hc
  · rename_i e
    subst e
    obtain rfl := Option.some.inj hc
    exact .inr h
  · exact hK f c' hc
end Go.SY
