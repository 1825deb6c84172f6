/-
  Regions that draw their order: operations that look at no memory, and loads of blocks that nobody writes meanwhile, may be done first.
-/
import Derived.Test.YtconldbakjfbhaaSx13
set_option linter.unusedSimpArgs false
set_option linter.unusedVariables false
namespace Go.SX
open Go

section
variable {P : Program} {ops : Array Oper} {Q : Exit → Act → World → Prop}

/-- Does an operation's order bind? -/
def after1 (o : Oper) (i : Nat) : Prop := ∃ e ∈ o.after, Region.binds .any e = true ∧ e.on = i

/-- j comes behind i, whatever is drawn. -/
inductive Dep (ops : Array Oper) (i : Nat) : Nat → Prop where
  | one {j : Nat} {o : Oper} : ops[j]? = some o → after1 o i → Dep ops i j
  | step {j k : Nat} {o : Oper} : ops[j]? = some o → after1 o k → Dep ops i k → Dep ops i j

/-- What is listed has all ahead of it listed. -/
def Closed (ops : Array Oper) (l : Array Bool) : Prop := ∀ (j : Nat) (o : Oper) (k : Nat), ops[j]? = some o → l.getD j true = true → after1 o k → l.getD k false = true

def IsIn (l : Array Bool) (j : Nat) : Prop := l.getD j false = true

theorem isIn_true {l : Array Bool} {j : Nat} (h : IsIn l j) : l.getD j true = true := by
  unfold IsIn at h
  rcases Nat.lt_or_ge j l.size with h' | h'
  · simpa [h'] using h
  · simp [Array.getElem?_eq_none h'] at h

theorem Closed.noDep {l : Array Bool} (hc : Closed ops l) {i j : Nat} (hi : ¬ IsIn l i) (hj : IsIn l j) : ¬ Dep ops i j := by
  intro hd
  induction hd with
  | one ho ha => exact hi (hc _ _ _ ho (isIn_true hj) ha)
  | step ho ha _ ih => exact ih (hc _ _ _ ho (isIn_true hj) ha)

theorem getD_set {l : Array Bool} {i j : Nat} (d : Bool) (h : i ≠ j) : (l.setIfInBounds i true).getD j d = l.getD j d := by
  simp [Array.getElem?_setIfInBounds_ne h]

theorem isIn_set {l : Array Bool} {i j : Nat} (h : IsIn l j) : IsIn (l.setIfInBounds i true) j := getD_set_true h

theorem isIn_of_set {l : Array Bool} {i j : Nat} (h : IsIn (l.setIfInBounds i true) j) : j = i ∨ IsIn l j := by
  by_cases e : i = j
  · exact .inl e.symm
  · unfold IsIn at h ⊢
    rw [getD_set false e] at h
    exact .inr h

theorem Closed.set {l : Array Bool} (hc : Closed ops l) {i : Nat} (hr : i ∈ Region.ready .any ops l) (hs : l.size = ops.size) : Closed ops (l.setIfInBounds i true) := by
  intro j o k ho hj ha
  obtain ⟨-, oi, hoi, hall⟩ := mem_ready.1 hr
  by_cases e : i = j
  · subst e
    rw [hoi] at ho
    obtain rfl := Option.some.inj ho
    obtain ⟨e, he, hb, rfl⟩ := ha
    exact getD_set_true (hall e he hb)
  · rw [getD_set true e] at hj
    exact getD_set_true (hc j o k ho hj ha)

/-- As wpAny, with a word on each world that is passed. -/
def wpAnyJ (P : Program) (ops : Array Oper) (Q : Exit → Act → World → Prop) (J : Array Bool → World → Prop) : Nat → Array Bool → Act → World → Prop
  | 0, l, a, w => J l w ∧ Region.ready .any ops l = [] ∧ Q .normal a w
  | n + 1, l, a, w => J l w ∧ (Region.ready .any ops l = [] → Q .normal a w) ∧
      ∀ i ∈ Region.ready .any ops l, wpOp P ops Q i (wpAnyJ P ops Q J n (l.setIfInBounds i true)) a w

theorem wpAnyJ_any {J : Array Bool → World → Prop} : ∀ (n : Nat) (l : Array Bool) (a : Act) (w : World), wpAnyJ P ops Q J n l a w → wpAny P .any ops Q n l a w
  | 0, _, _, _, h => ⟨h.2.1, h.2.2⟩
  | n + 1, _, _, _, h => ⟨h.2.1, fun i hi => wpOp_mono (fun a w => wpAnyJ_any n _ a w) (h.2.2 i hi)⟩

/-- An operation that yields v wherever G holds. -/
def YieldsG (P : Program) (ops : Array Oper) (o : Oper) (v : Value) (G : World → Prop) (a : Act) : Prop :=
  (Region.wanted o (yielded ops a.tmps) = true ∧ ∀ w, G w → (execOp a.eval o).run P w = .ok (.value v) w) ∨
  (Region.wanted o (yielded ops a.tmps) = false ∧ v = undef)

theorem YieldsG.wpOp {i : Nat} {o : Oper} {v : Value} {G : World → Prop} {a : Act} {w : World} (hi : ops[i]? = some o) (hy : YieldsG P ops o v G a) (hg : G w)
    {K : Act → World → Prop} (h : K (a.put o.dst v) w) : wpOp P ops Q i K a w := by
  unfold Go.wpOp
  simp only [hi]
  rcases hy with ⟨hw, hv⟩ | ⟨hw, rfl⟩
  · simp only [hw, if_true, Oper.wp, hv w hg, Oper.upon]; exact .inl h
  · simp only [hw, Bool.false_eq_true, if_false]; exact h

/-- Another operation, apart from it, done first. -/
theorem YieldsG.past {j : Nat} {oi oj : Oper} {v : Value} {G : World → Prop} (hj : ops[j]? = some oj) (hap : oi.apart ops oj = true)
    (hsi : ∀ cs b, oi.op ≠ .select cs b) (hsj : ∀ cs b, oj.op ≠ .select cs b) (hQ : ∀ c a w, Q (.panic c) (a.put oi.dst v) w → Q (.panic c) a w)
    {K : Act → World → Prop} {a : Act} {w : World} (hy : YieldsG P ops oi v G a) (h : Go.wpOp P ops Q j K (a.put oi.dst v) w) :
    Go.wpOp P ops Q j (fun a' w' => YieldsG P ops oi v G a' ∧ K (a'.put oi.dst v) w') a w := by
  obtain ⟨h1, h2, h3⟩ := Oper.apart_spec hap
  have same : ∀ a' : Act, execOp a'.eval oi = execOp a.eval oi → Region.wanted oi (yielded ops a'.tmps) = Region.wanted oi (yielded ops a.tmps) → YieldsG P ops oi v G a' := by
    intro a' e1 e2
    unfold YieldsG at hy ⊢
    rw [e1, e2]; exact hy
  have kput : ∀ u, YieldsG P ops oi v G (a.put oj.dst u) := fun u => same _ (execOp_put oi hsi a oj.dst u h3) (wanted_put oi a oj.dst u h3)
  have ex : execOp (a.put oi.dst v).eval oj = execOp a.eval oj := execOp_put oj hsj a oi.dst v h1
  have wa : Region.wanted oj (yielded ops (a.put oi.dst v).tmps) = Region.wanted oj (yielded ops a.tmps) := wanted_put oj a oi.dst v h1
  unfold Go.wpOp at h ⊢
  simp only [hj] at h ⊢
  rw [wa] at h
  by_cases hw : Region.wanted oj (yielded ops a.tmps) = true
  · rw [if_pos hw] at h ⊢
    rcases h with h | ⟨h, hl⟩
    · refine .inl ?_
      unfold Oper.wp at h ⊢
      rw [ex] at h
      cases hr : (execOp a.eval oj).run P w with
      | halt x w' =>
        rw [hr] at h
        cases x <;> simp only [Oper.upon] at h ⊢
        exact hQ _ _ _ h
      | ok nx w' =>
        rw [hr] at h
        cases nx <;> simp only [Oper.upon] at h ⊢
        case value u => exact ⟨kput u, by rw [← Act.put_comm a v u h2]; exact h⟩
        case skip => exact ⟨kput _, by rw [← Act.put_comm a v undef h2]; exact h⟩
        case enter f args =>
          refine Calls.mono h fun e w'' he => ?_
          cases e with
          | returned u => exact ⟨kput u, by rw [← Act.put_comm a v u h2]; exact he⟩
          | panicked c => exact hQ _ _ _ he
          | outgrown => exact he
        case row row args => exact Rows.mono h fun u w'' he => ⟨kput u, by rw [← Act.put_comm a v u h2]; exact he⟩
        case defer d =>
          have e1 : ({ a.put oi.dst v with defers := d :: (a.put oi.dst v).defers } : Act).put oj.dst undef = (({ a with defers := d :: a.defers } : Act).put oj.dst undef).put oi.dst v := by
            rw [Act.put_defers, ← Act.put_comm _ v undef h2]
          rw [e1] at h
          refine ⟨?_, h⟩
          have hd : YieldsG P ops oi v G { a with defers := d :: a.defers } := same _ rfl rfl
          unfold YieldsG at hd ⊢
          rw [execOp_put oi hsi _ oj.dst undef h3, wanted_put oi _ oj.dst undef h3]
          exact hd
    · exact .inr ⟨by unfold Oper.asks at h ⊢; rw [ex] at h; exact h, hl⟩
  · rw [if_neg hw] at h ⊢
    exact ⟨kput _, by rw [← Act.put_comm a v undef h2]; exact h⟩

theorem wpAnyJ_mono {i : Nat} {J J' : Array Bool → World → Prop} (hm : ∀ l w, Closed ops l → IsIn l i → J' l w → J l w) : ∀ (n : Nat) (l : Array Bool) (a : Act) (w : World), IsIn l i → l.size = ops.size → Closed ops l →
    wpAnyJ P ops Q J' n l a w → wpAnyJ P ops Q J n l a w
  | 0, l, a, w, hin, _, hc, h => ⟨hm _ _ hc hin h.1, h.2⟩
  | n + 1, l, a, w, hin, hs, hc, h =>
    ⟨hm _ _ hc hin h.1, h.2.1, fun j hj => wpOp_mono (fun a w h' => wpAnyJ_mono hm n _ a w (isIn_set hin) (by simpa using hs) (hc.set hj hs) h') (h.2.2 j hj)⟩

theorem isIn_self {l : Array Bool} {i : Nat} (h : i < l.size) : IsIn (l.setIfInBounds i true) i := by simp [IsIn, h]

theorem ready_lt {l : Array Bool} {i : Nat} (h : i ∈ Region.ready .any ops l) : i < ops.size := by
  obtain ⟨-, o, ho, -⟩ := mem_ready.1 h
  exact (Array.getElem?_eq_some_iff.1 ho).1

theorem ready_notIn {l : Array Bool} {i : Nat} (h : i ∈ Region.ready .any ops l) : ¬ IsIn l i := by
  obtain ⟨h0, -⟩ := mem_ready.1 h
  intro hi
  rw [isIn_true hi] at h0; cases h0

/-- An operation that may be done first is done first. -/
theorem wpAnyJ_first {i : Nat} {oi : Oper} {v : Value} {G : World → Prop} {J J' : Array Bool → World → Prop} (hi : ops[i]? = some oi) (hsel : Region.noSelect ops = true)
    (hQ : ∀ c a w, Q (.panic c) (a.put oi.dst v) w → Q (.panic c) a w)
    (hJ1 : ∀ l w, Closed ops l → IsIn l i → J' l w → J l w) (hJ2 : ∀ l w, l.size = ops.size → Closed ops l → ¬ IsIn l i → J' (l.setIfInBounds i true) w → J l w ∧ G w) :
    ∀ (n : Nat) (l : Array Bool) (a : Act) (w : World), l.size = ops.size → Closed ops l →
      (∀ j oj, ops[j]? = some oj → j ≠ i → l.getD j true = false → ¬ after1 oj i → oi.apart ops oj = true) →
      i ∈ Region.ready .any ops l → YieldsG P ops oi v G a →
      wpAnyJ P ops Q J' n (l.setIfInBounds i true) (a.put oi.dst v) w → wpAnyJ P ops Q J (n + 1) l a w := by
  have sel := Region.noSelect_spec hsel
  intro n
  induction n with
  | zero =>
    intro l a w hs hc _ hr hy H
    obtain ⟨g1, g2⟩ := hJ2 l w hs hc (ready_notIn hr) H.1
    refine ⟨g1, fun h => (by rw [h] at hr; cases hr), fun j hj => ?_⟩
    by_cases hji : j = i
    · subst hji
      exact hy.wpOp hi g2 (wpAnyJ_mono hJ1 0 _ _ _ (isIn_self (by rw [hs]; exact ready_lt hr)) (by simpa using hs) (hc.set hr hs) H)
    · have := ready_mono hj hji
      rw [H.2.1] at this
      cases this
  | succ n ih =>
    intro l a w hs hc hfree hr hy H
    obtain ⟨g1, g2⟩ := hJ2 l w hs hc (ready_notIn hr) H.1
    refine ⟨g1, fun h => (by rw [h] at hr; cases hr), fun j hj => ?_⟩
    by_cases hji : j = i
    · subst hji
      exact hy.wpOp hi g2 (wpAnyJ_mono hJ1 (n + 1) _ _ _ (isIn_self (by rw [hs]; exact ready_lt hr)) (by simpa using hs) (hc.set hr hs) H)
    · have h1 := H.2.2 j (ready_mono hj hji)
      obtain ⟨hjun, oj, hoj, hall⟩ := mem_ready.1 hj
      have hnot : ¬ after1 oj i := fun ⟨e, he, hb, heq⟩ => by
        have h1 := hall e he hb
        rw [heq] at h1
        exact ready_notIn hr h1
      have h2 := hy.past hoj (hfree j oj hoj hji hjun hnot) (fun cs b => sel i oi cs b hi) (fun cs b => sel j oj cs b hoj) hQ h1
      refine wpOp_mono (fun a' w' h3 => ?_) h2
      refine ih (l.setIfInBounds j true) a' w' (by simpa using hs) (hc.set hj hs) (fun k ok hk hki hun hno => ?_) (ready_mono hr (Ne.symm hji)) h3.1 ?_
      · refine hfree k ok hk hki ?_ hno
        by_cases hjk : j = k
        · subst hjk; exact hjun
        · rw [getD_set true hjk] at hun; exact hun
      · rw [Array.setIfInBounds_comm _ _ hji]
        exact h3.2

theorem free_spec {i : Nat} {oi : Oper} {l : Array Bool} (hi : ops[i]? = some oi) (h : Region.free .any ops l i = true) : ∀ j oj, ops[j]? = some oj → j ≠ i → l.getD j true = false → ¬ after1 oj i → oi.apart ops oj = true :=
  fun j oj hj hne hun hno => Region.free_spec hi h j oj hj hne hun fun e he hb heq => hno ⟨e, he, hb, heq⟩

end

end Go.SX
