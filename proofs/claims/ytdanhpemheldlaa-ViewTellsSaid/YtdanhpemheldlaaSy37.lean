/-
  The symbolic machine: slices.Insert, slices.Delete of numbers.
-/
import Derived.Test.YtdanhpemheldlaaSy36
set_option linter.unusedSimpArgs false
set_option linter.unusedVariables false
namespace Go.SY
open Go
def InsQN (kk : IntKind) (xs out : List Int) (r : AV) (bl' : Bls) : Prop := (∃ c, r = .sl 0 0 1 out.length c ∧ bl' = [some (.num kk out)]) ∨ (∃ c x, (x = none ∨ x = some (.num kk xs)) ∧ r = .sl 1 0 1 out.length c ∧ bl' = [x, some (.num kk out)])
/-- A call that takes numbers over and leaves others. -/
theorem insQN_call {P : Program} {pl : FuncId → Nat → Option Plan} (hpl : PlOk P pl) {g : FuncId} {kk : IntKind} {l : Nat} {xs out : List Int} {args args0 : List AV} {bl : Bls} (hW : Word P pl g args0 [some (.num kk xs)] (InsQN kk xs out)) (hl : lvl bl l = some (.num kk xs)) (hT : LntL bl [l] args args0)
    (β : Env) (w : World) (vs : List Value) (cs : List Frame) (hh : Heap β bl w) (hck : β.ck = Ck P pl) (hd' : DenL β args vs) :
    ∃ v fr β' w', Steps P (lone (Frame.enter P g vs.toArray .normal) cs w) (lone fr cs w') ∧ fr.leaving P w' (.returned v) ∧ Den β' (.sl bl.length 0 1 out.length none) v ∧ Ext β bl w β' (setl bl l none ++ [some (.num kk out)]) w' := by
  have hll : l < bl.length := (List.getElem?_eq_some_iff.1 (lvl_get hl)).1
  obtain ⟨v', fr, β2, w', r, bl', k1, k2, k3, k4, k5⟩ := word_core (bl := bl) hpl [l] hW hT (by simp) (by simpa using hll) rfl
    ⟨⟨by rw [show nm [l] 0 = l from rfl, hl]; rfl, rfl⟩, trivial⟩
    (fun r bl' hq => by
      rcases hq with ⟨c, rfl, rfl⟩ | ⟨c, x, hx, rfl, rfl⟩
      · exact ⟨by simp [okRet, lvB, okBls, Ct.cell, lvCt], by simp⟩
      · refine ⟨?_, by simp⟩
        rcases hx with rfl | rfl <;> simp [okRet, lvB, okBls, Ct.cell, lvCt]) cs hh hck hd'
  have t0 : tauN [l] bl.length 0 = l := by simp [tauN, nm]
  have t1 : tauN [l] bl.length 1 = bl.length := by simp [tauN]
  rcases k3 with ⟨c', rfl, rfl⟩ | ⟨c', x, hx, rfl, rfl⟩
  · have ea : aftT [l] bl [some (.num kk out)] = setl bl l (some (.num kk out)) := by
      simp only [aftT, updT, mapB, List.drop_succ_cons, List.drop_zero, List.length_cons, List.length_nil, List.drop_nil, List.append_nil, renCt]
    rw [ea] at k5
    simp only [ren, t0] at k4
    have hset : (setl bl l (some (.num kk out)))[l]? = some (some (.num kk out)) := by
      rw [setl_set, List.getElem?_set_self hll]
    obtain ⟨base, hbase, -⟩ := k5.heap.lv _ _ hset
    have hr := k5.heap.rename hset hbase
    have hx := k5.trans hr
    rw [setl_set, List.set_set, ← setl_set] at hx
    refine ⟨v', fr, _, w', k1, k2, ?_, hx⟩
    have hlen : β2.b.length = bl.length := by rw [k5.heap.len, setl_set]; simp
    simp only [Den] at k4 ⊢
    obtain ⟨A, q, e1, e2, e3, -, e5⟩ := k4
    refine ⟨A, q, e1, e2, e3, (fun m hm => by cases hm), fun hq => ?_⟩
    obtain ⟨b, s, f1, f2, f3⟩ := e5 hq
    refine ⟨b, s, ?_, f2, f3⟩
    rw [hbase] at f1
    rw [← hlen]
    simpa using f1
  · have ea : aftT [l] bl [x, some (.num kk out)] = setl bl l x ++ [some (.num kk out)] := by
      simp only [aftT, updT, mapB, List.drop_succ_cons, List.drop_zero, List.length_cons, List.length_nil, List.drop_nil, List.append_nil, renCt]
      rcases hx with rfl | rfl <;> rfl
    rw [ea] at k5
    simp only [ren, t1] at k4
    refine ⟨v', fr, β2, w', k1, k2, den_capless k4, ?_⟩
    have hkl := k5.trans (killO_ext k5.heap (some l))
    have : killO (some l) (setl bl l x ++ [some (.num kk out)]) = setl bl l none ++ [some (.num kk out)] := by
      simp only [killO, setl_set]
      rw [List.set_append_left _ _ (by simpa using hll), List.set_set]
    rw [this] at hkl
    exact hkl

def insN (kk : IntKind) (args : List AV) (bl : Bls) : Option (Bool × AV × Bls) := match args with
  | [s, .v (.int .i64 k), v] => (match s with
    | .sl l i w' n _ => (match lvl bl l with
      | some (.num k2 xs) => if w' = 1 ∧ k2 = kk then (match lnd (setl bl l none) v with
        | some (v1, .imn _ k3 [z] _) => if k3 = kk then some (v1 && (decide (i = 0) && (decide (xs.length = n) && (decide (0 ≤ k) && (decide (k ≤ n) && decide (n < 1000000))))), .sl bl.length 0 1 (n + 1) none, setl bl l none ++ [some (.num kk (xs.take k.toNat ++ (z :: xs.drop k.toNat)))]) else none
        | _ => none) else none
      | _ => none)
    | .nil => (match lnd bl v with
      | some (v1, .imn _ k3 [z] _) => if k3 = kk then some (v1 && decide (k = 0), .sl bl.length 0 1 1 none, bl ++ [some (.num kk [z])]) else none
      | _ => none)
    | _ => none)
  | _ => none
structure InsOkN (P : Program) (pl : FuncId → Nat → Option Plan) (g : FuncId) (kk : IntKind) : Prop where
  sl : ∀ (xs : List Int) (n k : Nat) (z : Int) (t : Bool) (c3 : Option Nat), xs.length = n → k ≤ n → n < 1000000 → Word P pl g [.sl 0 0 1 n none, .v (.int .i64 k), .imn t kk [z] c3] [some (.num kk xs)] (InsQN kk xs (xs.take k ++ (z :: (xs.take n).drop k)))
  nl : ∀ (z : Int) (t : Bool) (c3 : Option Nat), Word P pl g [.nil, .v (.int .i64 0), .imn t kk [z] c3] [] (fun r bl' => (∃ c, r = .sl 0 0 1 1 c) ∧ bl' = [some (.num kk [z])])
theorem insN_ok {P : Program} {pl : FuncId → Nat → Option Plan} (hpl : PlOk P pl) {g : FuncId} {kk : IntKind} (h : InsOkN P pl g kk) (hF : ∃ F, fi P g = some F) :
    (∃ F, fi P g = some F) ∧ ∀ args bl r bl', insN kk args bl = some (true, r, bl') → Kl bl bl' ∧
    ∀ (β : Env) (w : World) (vs : List Value) (cs : List Frame), Heap β bl w → β.ck = Ck P pl → DenL β args vs →
      ∃ v fr β' w', Steps P (lone (Frame.enter P g vs.toArray .normal) cs w) (lone fr cs w') ∧ fr.leaving P w' (.returned v) ∧ Den β' r v ∧ Ext β bl w β' bl' w' := by
  refine ⟨hF, fun args bl r bl' hx => ?_⟩
  unfold insN at hx
  split at hx
  · rename_i s k v
    split at hx
    · rename_i l i w' n c
      split at hx
      · rename_i k2 xs hl
        split at hx
        · rename_i hw
          obtain ⟨rfl, rfl⟩ := hw
          split at hx
          · rename_i v1 t k3 z c3 hv
            split at hx
            · rename_i hw3
              subst hw3
              simp only [Option.some.injEq, Prod.mk.injEq, Bool.and_eq_true, decide_eq_true_eq] at hx
              obtain ⟨⟨rfl, rfl, hn, hk0, hk1, hn2⟩, rfl, rfl⟩ := hx
              obtain ⟨k, rfl⟩ := Int.eq_ofNat_of_zero_le hk0
              have hk : k ≤ n := by omega
              refine ⟨(Kll.kill bl l).app _, fun β w vs cs hh hck hd => ?_⟩
              have hd' : DenL β [.sl l 0 1 n none, .v (.int .i64 k), v] vs := by
                simp only [DenL] at hd ⊢
                obtain ⟨y, zs, e, h1, h2⟩ := hd
                exact ⟨y, zs, e, den_capless h1, h2⟩
              have hol : (xs.take k ++ (z :: (xs.take n).drop k)).length = n + 1 := by simp; omega
              have heq : (xs.take n).drop k = xs.drop k := by rw [List.take_of_length_le (by omega)]
              rw [Int.toNat_natCast, ← heq, ← hol]
              exact insQN_call (args := [.sl l 0 1 n none, .v (.int .i64 k), v]) hpl (h.sl xs n k z t c3 hn hk hn2) hl ⟨_, _, rfl, .inl ⟨by simp [ren, nm], by simp [lvB]⟩, _, _, rfl, .inl ⟨rfl, rfl⟩, _, _, rfl, .inr hv, rfl⟩ β w vs cs hh hck hd'
            · cases hx
          · cases hx
        · cases hx
      · cases hx
    · split at hx
      · rename_i v1 t k3 z c3 hv
        split at hx
        · rename_i hw3
          subst hw3
          simp only [Option.some.injEq, Prod.mk.injEq, Bool.and_eq_true, decide_eq_true_eq] at hx
          obtain ⟨⟨rfl, rfl⟩, rfl, rfl⟩ := hx
          refine ⟨(Kll.refl bl).app _, fun β w vs cs hh hck hd => ?_⟩
          obtain ⟨v', fr, β2, w', r, bl', k1, k2, k3', k4, k5⟩ := word_core (bl := bl) hpl [] (h.nl z t c3) (args := [.nil, .v (.int .i64 0), v])
            ⟨_, _, rfl, .inl ⟨rfl, rfl⟩, _, _, rfl, .inl ⟨rfl, rfl⟩, _, _, rfl, .inr hv, rfl⟩ (by simp) rfl rfl trivial
            (fun r bl' hq => by
              obtain ⟨⟨c, rfl⟩, rfl⟩ := hq
              exact ⟨by simp [okRet, lvB, okBls, Ct.cell, lvCt], by simp⟩) cs hh hck hd
          obtain ⟨⟨c, rfl⟩, rfl⟩ := k3'
          have t0 : tauN [] bl.length 0 = bl.length := by simp [tauN]
          have ea : aftT [] bl [some (.num k3 [z])] = bl ++ [some (.num k3 [z])] := by
            simp only [aftT, updT, mapB, List.drop_zero, List.length_nil, renCt]
          rw [ea] at k5
          simp only [ren, t0] at k4
          exact ⟨v', fr, β2, w', k1, k2, den_capless k4, k5⟩
        · cases hx
      · cases hx
    · cases hx
  · cases hx

def delN (kk : IntKind) (args : List AV) (bl : Bls) : Option (Bool × AV × Bls) := match args with
  | [s, .v (.int .i64 k), .v (.int .i64 j)] => (match s with
    | .sl l i w' n _ => (match lvl bl l with
      | some (.num k2 xs) => if w' = 1 ∧ k2 = kk then some (decide (i = 0) && (decide (xs.length = n) && (decide (0 ≤ k) && (decide (k ≤ j) && (decide (j ≤ n) && decide (n < 1000000))))), .sl bl.length 0 1 (xs.take k.toNat ++ xs.drop j.toNat).length none, setl bl l none ++ [some (.num kk (xs.take k.toNat ++ xs.drop j.toNat))]) else none
      | _ => none)
    | _ => none)
  | _ => none
theorem delN_ok {P : Program} {pl : FuncId → Nat → Option Plan} (hpl : PlOk P pl) {g : FuncId} {kk : IntKind} (h : ∀ (xs : List Int) (n k j : Nat), xs.length = n → k ≤ j → j ≤ n → n < 1000000 → Word P pl g [.sl 0 0 1 n none, .v (.int .i64 k), .v (.int .i64 j)] [some (.num kk xs)] (InsQN kk xs (xs.take k ++ xs.drop j))) (hF : ∃ F, fi P g = some F) :
    (∃ F, fi P g = some F) ∧ ∀ args bl r bl', delN kk args bl = some (true, r, bl') → Kl bl bl' ∧
    ∀ (β : Env) (w : World) (vs : List Value) (cs : List Frame), Heap β bl w → β.ck = Ck P pl → DenL β args vs →
      ∃ v fr β' w', Steps P (lone (Frame.enter P g vs.toArray .normal) cs w) (lone fr cs w') ∧ fr.leaving P w' (.returned v) ∧ Den β' r v ∧ Ext β bl w β' bl' w' := by
  refine ⟨hF, fun args bl r bl' hx => ?_⟩
  unfold delN at hx
  split at hx
  · rename_i s k j
    split at hx
    · rename_i l i w' n c
      split at hx
      · rename_i k2 xs hl
        split at hx
        · rename_i hw
          obtain ⟨rfl, rfl⟩ := hw
          simp only [Option.some.injEq, Prod.mk.injEq, Bool.and_eq_true, decide_eq_true_eq] at hx
          obtain ⟨⟨rfl, hn, hk0, hkj, hjn, hn2⟩, rfl, rfl⟩ := hx
          obtain ⟨k, rfl⟩ := Int.eq_ofNat_of_zero_le hk0
          obtain ⟨j, rfl⟩ := Int.eq_ofNat_of_zero_le (a := j) (by omega)
          refine ⟨(Kll.kill bl l).app _, fun β w vs cs hh hck hd => ?_⟩
          have hd' : DenL β [.sl l 0 1 n none, .v (.int .i64 k), .v (.int .i64 j)] vs := by
            simp only [DenL] at hd ⊢
            obtain ⟨y, zs, e, h1, h2⟩ := hd
            exact ⟨y, zs, e, den_capless h1, h2⟩
          simp only [Int.toNat_natCast]
          exact insQN_call (args := [.sl l 0 1 n none, .v (.int .i64 k), .v (.int .i64 j)]) hpl (h xs n k j hn (by omega) (by omega) hn2) hl ⟨_, _, rfl, .inl ⟨by simp [ren, nm], by simp [lvB]⟩, _, _, rfl, .inl ⟨rfl, rfl⟩, _, _, rfl, .inl ⟨rfl, rfl⟩, rfl⟩ β w vs cs hh hck hd'
        · cases hx
      · cases hx
    · cases hx
  · cases hx
end Go.SY
