/-
  The symbolic machine: the run, regions that draw their order included.
-/
import Derived.Test.YtconldbakjfbhaaSx15
set_option linter.unusedSimpArgs false
set_option linter.unusedVariables false
namespace Go.SX
open Go

/-! ### what comes behind what -/
def maskE (acc : List Nat) : List Edge → Nat → Nat
  | [], s => s
  | e :: es, s => maskE acc es (if Region.binds .any e = true then s ||| (2 ^ e.on ||| acc.getD e.on 0) else s)

def befL : List Oper → List Nat → List Nat
  | [], acc => acc
  | o :: r, acc => befL r (acc ++ [maskE acc o.after.toList 0])

theorem maskE_bit {acc : List Nat} {i : Nat} : ∀ {es : List Edge} {s : Nat}, (maskE acc es s).testBit i = true → s.testBit i = true ∨ ∃ e ∈ es, Region.binds .any e = true ∧ (e.on = i ∨ (acc.getD e.on 0).testBit i = true)
  | [], s, h => .inl h
  | e :: es, s, h => by
    simp only [maskE] at h
    rcases maskE_bit h with h | ⟨e', h1, h2⟩
    · split at h
      · rename_i hb
        rw [Nat.testBit_or, Nat.testBit_or, Bool.or_eq_true, Bool.or_eq_true] at h
        rcases h with h | h | h
        · exact .inl h
        · rw [Nat.testBit_two_pow] at h
          exact .inr ⟨e, by simp, hb, .inl (by simpa using h)⟩
        · exact .inr ⟨e, by simp, hb, .inr h⟩
      · exact .inl h
    · exact .inr ⟨e', by simp [h1], h2⟩

theorem befL_dep {all : Array Oper} {i : Nat} : ∀ (r : List Oper) (acc : List Nat), (∀ j, (acc.getD j 0).testBit i = true → Dep all i j) → (∀ j, r[j]? = all[acc.length + j]?) →
    ∀ j, ((befL r acc).getD j 0).testBit i = true → Dep all i j
  | [], acc, h, _, j, hj => h j hj
  | o :: r, acc, h, hr, j, hj => by
    simp only [befL] at hj
    refine befL_dep r _ (fun q hq => ?_) (fun q => ?_) j hj
    · by_cases hlt : q < acc.length
      · refine h q ?_
        rw [List.getD_eq_getElem?_getD, List.getElem?_append_left hlt] at hq
        rwa [List.getD_eq_getElem?_getD]
      · by_cases e : q = acc.length
        · subst e
          rw [List.getD_eq_getElem?_getD, List.getElem?_append_right (Nat.le_refl _)] at hq
          simp only [Nat.sub_self, List.getElem?_cons_zero, Option.getD_some] at hq
          have ho : all[acc.length]? = some o := by have := hr 0; simpa using this.symm
          rcases maskE_bit hq with h0 | ⟨e, he, hb, hor⟩
          · simp at h0
          · rcases hor with rfl | hb2
            · exact .one ho ⟨e, by simpa using he, hb, rfl⟩
            · exact .step ho ⟨e, by simpa using he, hb, rfl⟩ (h _ hb2)
        · rw [List.getD_eq_getElem?_getD, List.getElem?_eq_none (by simp; omega)] at hq
          simp at hq
    · have := hr (q + 1)
      simp only [List.getElem?_cons_succ] at this
      rw [this]
      congr 1
      simp; omega

theorem bef_dep {all : Array Oper} {i j : Nat} (h : ((befL all.toList []).getD j 0).testBit i = true) : Dep all i j :=
  befL_dep all.toList [] (fun j hj => by simp at hj) (fun j => by simp) j h

/-! ### plans -/
def opAt (all : Array Oper) (i : Nat) : Option Oper := nth all.toList i

theorem opAt_eq (all : Array Oper) (i : Nat) : opAt all i = all[i]? := by rw [opAt, nth_eq]; simp

/-- A plan: the operations in an order; beside each one that writes or calls, the loads that it is not behind of. -/
def planFrom (all : Array Oper) (bef : List Nat) : Array Bool → List Nat → List (Nat × List Nat) → Bool
  | l, _, [] => (Region.ready .any all l).isEmpty
  | l, lds, (i, un) :: r => match all[i]? with
    | none => false
    | some o =>
      (if effOp o.op then (Region.ready .any all l == [i]) && lds.all (fun q => (bef.getD i 0).testBit q || un.contains q)
       else (Region.ready .any all l).contains i && Region.free .any all l i) &&
      planFrom all bef (l.setIfInBounds i true) (if loadOp o.op then i :: lds else lds) r

def planOk (all : Array Oper) (plan : List (Nat × List Nat)) : Bool :=
  Region.noSelect all && (plan.length == all.size) && planFrom all (befL all.toList []) (Array.replicate all.size false) [] plan

/-- In the midst of such a region: the rest of the plan. -/
def GoP (P : Program) (C : Ctx) (all : Array Oper) (rest : List (Nat × List Nat)) (A : List (Nat × Nat)) (k : List It) (st : St) (R : St → Prop) : Prop :=
  ∀ (l : Array Bool) (lds : List Nat), Region.noSelect all = true → planFrom all (befL all.toList []) l lds rest = true → (∀ p ∈ A, p.1 ∈ lds) → GoD P C all rest.length l A k st R

section
variable {P : Program} {C : Ctx} {k : List It} {st : St} {R : St → Prop} {all : Array Oper} {i : Nat} {un : List Nat} {rest : List (Nat × List Nat)} {A : List (Nat × Nat)} {o : Oper}

theorem go_plan {id : Nat} (plan : List (Nat × List Nat)) (hm : P.follows .mixedOrders = true) (hp : planOk all plan = true) (h : GoP P C all plan [] k st R) : Go P C (.code (.region id all true) :: k) st R := by
  simp only [planOk, Bool.and_eq_true, beq_iff_eq] at hp
  obtain ⟨⟨h1, h2⟩, h3⟩ := hp
  refine go_draw hm ?_
  have := h _ _ h1 h3 (fun p hp => by cases hp)
  rwa [h2] at this

theorem gop_done (h : Go P C k st R) : GoP P C all [] A k st R := fun l lds _ hp _ => god_done (List.isEmpty_iff.1 hp) h

theorem plan_pure {l : Array Bool} {lds : List Nat} (ho : opAt all i = some o) (he : effOp o.op = false) (hp : planFrom all (befL all.toList []) l lds ((i, un) :: rest) = true) :
    all[i]? = some o ∧ (Region.ready .any all l).contains i = true ∧ Region.free .any all l i = true ∧
      planFrom all (befL all.toList []) (l.setIfInBounds i true) (if loadOp o.op then i :: lds else lds) rest = true := by
  rw [opAt_eq] at ho
  simp only [planFrom, ho, he, Bool.false_eq_true, if_false, Bool.and_eq_true] at hp
  exact ⟨ho, hp.1.1, hp.1.2, hp.2⟩

theorem gop_pure {r : AV} {vc : Prop} {bl' : Bls} (ho : opAt all i = some o) (hp : pureOp o.op = true) (hw : Wanted all st.tm st.n o true) (hs : sop P st.tm st.bl o.op = .det vc r bl') (hv : vc)
    (h : GoP P C all rest A k ⟨st.n, put st.n st.tm o.dst r, st.bl⟩ R) : GoP P C all ((i, un) :: rest) A k st R := fun l lds hsel hpl hA => by
  obtain ⟨h1, h2, h3, h4⟩ := plan_pure ho (eff_pure hp) hpl
  refine god_pure i h1 hsel h3 h2 hp hw hs hv (h _ _ hsel h4 fun p hp => ?_)
  have := hA p hp
  split
  · exact List.mem_cons_of_mem _ this
  · exact this

theorem gop_skip (ho : opAt all i = some o) (hp : effOp o.op = false) (hw : Wanted all st.tm st.n o false)
    (h : GoP P C all rest A k ⟨st.n, put st.n st.tm o.dst .any, st.bl⟩ R) : GoP P C all ((i, un) :: rest) A k st R := fun l lds hsel hpl hA => by
  obtain ⟨h1, h2, h3, h4⟩ := plan_pure ho hp hpl
  refine god_skip i h1 hsel h3 h2 hp hw (h _ _ hsel h4 fun p hp => ?_)
  have := hA p hp
  split
  · exact List.mem_cons_of_mem _ this
  · exact this

theorem gop_load {r : AV} {vc : Prop} {t : TypeId} {x : Operand} {T : TI} {lev p w' q : Nat} {B : Blk} (ho : opAt all i = some o) (hop : o.op = .load t x) (hw : Wanted all st.tm st.n o true)
    (hT : ti P t = some T) (he : ev st.tm x = .ptr lev p w' q) (hB : lvl st.bl lev = some B) (hr : rdCt B.ct p w' q T = some (vc, r)) (hv : vc)
    (h : GoP P C all rest ((i, lev) :: A) k ⟨st.n, put st.n st.tm o.dst r, st.bl⟩ R) : GoP P C all ((i, un) :: rest) A k st R := fun l lds hsel hpl hA => by
  have hl : loadOp o.op = true := by rw [hop]; rfl
  obtain ⟨h1, h2, h3, h4⟩ := plan_pure ho (eff_load hl) hpl
  rw [if_pos hl] at h4
  refine god_load i h1 hsel h3 h2 hop hw hT he hB hr hv (h _ _ hsel h4 fun p hp => ?_)
  rcases List.mem_cons.1 hp with rfl | hp
  · simp
  · exact List.mem_cons_of_mem _ (hA p hp)

/-- The loads that an operation is not behind of: it writes none of their levels. -/
def chkA (un : List Nat) (W : List Nat) (bl : Bls) : List (Nat × Nat) → Bool
  | [] => true
  | p :: r => (if un.contains p.1 then !W.contains p.2 && (lvl bl p.2).isSome else true) && chkA un W bl r

theorem chkA_spec {W : List Nat} {bl : Bls} : ∀ {A : List (Nat × Nat)}, chkA un W bl A = true → ∀ p ∈ A, un.contains p.1 = true → p.2 ∉ W ∧ ∃ B : Blk, bl[p.2]? = some (some B)
  | [], _, p, hp, _ => by cases hp
  | q :: r, h, p, hp, hu => by
    simp only [chkA, Bool.and_eq_true] at h
    rcases List.mem_cons.1 hp with rfl | hp
    · have h1 := h.1
      rw [if_pos hu] at h1
      simp only [Bool.and_eq_true, Bool.not_eq_true', Option.isSome_iff_exists] at h1
      obtain ⟨h1, B, h2⟩ := h1
      exact ⟨by simpa using h1, B, lvl_get h2⟩
    · exact chkA_spec h.2 p hp hu

theorem gop_eff {W : List Nat} {K : AV → Bls → Prop} (ho : opAt all i = some o) (hef : effOp o.op = true) (hw : Wanted all st.tm st.n o true) (hE : EffRel P C o st W K)
    (h : ∀ r bl', K r bl' → chkA un W bl' A = true ∧ GoP P C all rest A k ⟨st.n, put st.n st.tm o.dst r, bl'⟩ R) : GoP P C all ((i, un) :: rest) A k st R := fun l lds hsel hpl hA => by
  rw [opAt_eq] at ho
  simp only [planFrom, ho, hef, if_true, Bool.and_eq_true, beq_iff_eq] at hpl
  obtain ⟨⟨h1, h2⟩, h3⟩ := hpl
  refine god_eff i ho h1 hef hw hE fun r bl' hK => ?_
  obtain ⟨hc, hg⟩ := h r bl' hK
  refine ⟨fun p hp => ?_, hg _ _ hsel h3 fun p hp => ?_⟩
  · have := List.all_eq_true.1 h2 p.1 (hA p hp)
    rw [Bool.or_eq_true] at this
    rcases this with hb | hu
    · exact .inl (bef_dep hb)
    · exact .inr (chkA_spec hc p hp hu)
  · have := hA p hp
    split
    · exact List.mem_cons_of_mem _ this
    · exact this

/-- The guard forbids it: nothing happens. -/
theorem gop_effSkip (ho : opAt all i = some o) (hef : effOp o.op = true) (hw : Wanted all st.tm st.n o false)
    (h : chkA un [] st.bl A = true ∧ GoP P C all rest A k ⟨st.n, put st.n st.tm o.dst .any, st.bl⟩ R) : GoP P C all ((i, un) :: rest) A k st R := fun l lds hsel hpl hA => by
  rw [opAt_eq] at ho
  simp only [planFrom, ho, hef, if_true, Bool.and_eq_true, beq_iff_eq] at hpl
  obtain ⟨⟨h1, h2⟩, h3⟩ := hpl
  intro β a w rec hrel hs hc hrec
  have hir : i ∈ Region.ready .any all l := by rw [h1]; simp
  have hni := ready_notIn hir
  have hne : Region.ready .any all l ≠ [] := by rw [h1]; simp
  refine ⟨fun i b o hi hn hb => (hrec.1 i b o hi hn hb).1, fun h0 => absurd h0 hne, fun j hj => ?_⟩
  rw [h1] at hj
  obtain rfl := List.mem_singleton.1 hj
  unfold wpOp
  simp only [ho]
  rw [if_neg (by rw [hw.run hrel.tm]; simp)]
  have hgo := h.2 _ _ hsel h3 fun p hp => by
    have := hA p hp
    split
    · exact List.mem_cons_of_mem _ this
    · exact this
  refine hgo β _ w rec (hrel.next (d := o.dst) (r := .any) (by simp only [Den]) (List.prefix_refl _) hrel.heap (Step.refl _ _) fun b hb => .inl hb) (by simpa using hs) (hc.set hir hs) ⟨?_, ?_⟩
  · intro i' b o' hi' hn hrc
    rcases isIn_of_set hi' with rfl | hi'
    · rw [hrec.2 _ hni] at hrc; cases hrc
    · exact hrec.1 i' b o' hi' (noEff_sub hn) hrc
  · intro i' hi'
    exact hrec.2 i' fun hx => hi' (isIn_set hx)

theorem gop_split (d : Nat) {b : Bool} (hb : get st.tm d = .v (.bool b))
    (h : bsplit b (GoP P C all rest A k ⟨st.n, (d, .v (.bool true)) :: st.tm, st.bl⟩ R) (GoP P C all rest A k ⟨st.n, (d, .v (.bool false)) :: st.tm, st.bl⟩ R)) : GoP P C all rest A k st R := fun l lds hsel hpl hA =>
  god_split d hb ⟨fun e => h.1 e l lds hsel hpl hA, fun e => h.2 e l lds hsel hpl hA⟩

end

end Go.SX
