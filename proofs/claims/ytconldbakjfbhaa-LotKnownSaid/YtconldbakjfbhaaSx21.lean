/-
  The symbolic machine: small helps.
-/
import Derived.Test.YtconldbakjfbhaaSx20
set_option linter.unusedSimpArgs false
set_option linter.unusedVariables false
namespace Go.SX
open Go

theorem newOwn_iff : ∀ {n : Nat} {bl : Bls}, NewOwn n bl ↔ newOwnB n bl = true
  | _, [] => ⟨fun _ => by simp [newOwnB], newOwn_of⟩
  | 0, b :: r => by
    refine ⟨fun h => ?_, newOwn_of⟩
    simp only [newOwnB, if_true, Bool.and_eq_true]
    refine ⟨?_, newOwn_iff.1 fun l B _ hl => h (l + 1) B (Nat.zero_le _) (by simpa using hl)⟩
    cases b with
    | none => rfl
    | some B => exact h 0 B (Nat.le_refl _) (by simp)
  | n + 1, b :: r => by
    refine ⟨fun h => ?_, newOwn_of⟩
    simp only [newOwnB, Nat.add_eq_zero_iff, Nat.one_ne_zero, and_false, if_false, Nat.add_sub_cancel]
    exact newOwn_iff.1 fun l B hn hl => h (l + 1) B (by omega) (by simpa using hl)

/-- The same block, to be read. -/
theorem shows_self {B : Blk} {l w : Nat} {c : Ct} (h : B.ct = c) : Shows B ⟨l, 0, w, false⟩ c := fun β ys hy => ⟨ys, [], by simp, h ▸ hy⟩

/-- Some numbers of a block of numbers. -/
theorem shows_num {B : Blk} {l o : Nat} {k : IntKind} {xs ys : List Int} (h : B.ct = .num k xs) (hp : ys <+: xs.drop o) : Shows B ⟨l, o, 1, false⟩ (.num k ys) := fun β vs hv => by
  rw [h] at hv
  simp only [CtDen] at hv
  subst hv
  obtain ⟨zs, hz⟩ := hp
  refine ⟨ys.map (.int k), zs.map (.int k), ?_, by simp [CtDen]⟩
  simp only [Nat.mul_one]
  rw [← List.map_drop, ← hz, List.map_append]

/-- Values that may stand in others' place. -/
def LeA (xs ys : List AV) : Prop := ∀ β vs, DenL β xs vs → DenL β ys vs

theorem LeA.refl (xs : List AV) : LeA xs xs := fun _ _ h => h
theorem LeA.nil : LeA [] [] := fun _ _ h => h
theorem LeA.cons {x : AV} {xs ys : List AV} (h : LeA xs ys) : LeA (x :: xs) (x :: ys) := fun β vs hd => by
  simp only [DenL] at hd ⊢
  obtain ⟨y, r, rfl, h1, h2⟩ := hd
  exact ⟨y, r, rfl, h1, h _ _ h2⟩

theorem den_nil_sl {β : Env} {v : Value} {l i w : Nat} (h : Den β .nil v) : Den β (.sl l i w 0 0) v := by
  simp only [Den] at h ⊢
  exact ⟨none, h, Nat.le_refl _, fun h => absurd rfl h⟩

/-- A slice that is nil is one of nothing. -/
theorem LeA.sl {l i w : Nat} {xs ys : List AV} (h : LeA xs ys) : LeA (.nil :: xs) (.sl l i w 0 0 :: ys) := fun β vs hd => by
  simp only [DenL] at hd ⊢
  obtain ⟨y, r, rfl, h1, h2⟩ := hd
  exact ⟨y, r, rfl, den_nil_sl h1, h _ _ h2⟩

theorem SCW.le {P : Program} {f : FuncId} {xs ys : List AV} {bl : Bls} {W : List Nat} {K : AV → Bls → Prop} (h : SCW P f ys bl W K) (hl : LeA xs ys) : SCW P f xs bl W K :=
  ⟨h.1, fun β w vs hh hd => h.2 β w vs hh (hl β vs hd)⟩

/-- What is told one way may be told another way. -/
def Ent (r : AV) (bl : Bls) (r' : AV) (bl' : Bls) : Prop :=
  ∀ (β : Env) (w : World) (y : Value), Heap β bl w → Den β r y → ∃ β', β <+: β' ∧ Heap β' bl' w ∧ Den β' r' y ∧ (∀ b, Owned β' bl' b → Owned β bl b)

theorem Ent.refl (r : AV) (bl : Bls) : Ent r bl r bl := fun β w y h hd => ⟨β, List.prefix_refl _, h, hd, fun _ h => h⟩

theorem Ent.nil (bl : Bls) (e : TypeId) (k : IntKind) (w : Nat) : Ent .nil bl (.sl bl.length 0 w 0 0) (bl ++ [some ⟨true, e, .num k []⟩]) := fun β w y h hd => by
  have he := h.empty e (c := .num k []) (by simp [CtDen])
  exact ⟨_, List.prefix_append _ _, he.1, den_nil_sl (hd.mono (List.prefix_append _ _)), he.2⟩

theorem SCW.ent {P : Program} {f : FuncId} {xs : List AV} {bl : Bls} {W : List Nat} {K K' : AV → Bls → Prop} (h : SCW P f xs bl W K)
    (hK : ∀ r b, K r b → ∃ r' b', K' r' b' ∧ Ent r b r' b' ∧ (NewOwn bl.length b → NewOwn bl.length b')) : SCW P f xs bl W K' :=
  ⟨h.1, fun β w vs hh hd => (h.2 β w vs hh hd).mono fun e w' ⟨v, r, bl', β', he, hd, hk, hb, hh', hst, hown, hnew⟩ => by
    obtain ⟨r', b', h1, h2, h3⟩ := hK r bl' hk
    obtain ⟨β'', g1, g2, g3, g4⟩ := h2 β' w' v hh' hd
    exact ⟨v, r', b', β'', he, g3, h1, hb.trans g1, g2, hst, fun b hb => hown b (g4 b hb), h3 hnew⟩⟩

section
variable {P : Program} {C : Ctx} {k : List It} {st : St} {R : St → Prop} {all : Array Oper} {o : Oper} {os : List Oper}

theorem go_fin_mono {c : Code} {I I' : St → Prop} (h : Go P C (.code c :: .fin I :: k) st R) (hI : ∀ s, I s → I' s) : Go P C (.code c :: .fin I' :: k) st R := fun β a w hr => by
  have := h β a w hr
  simp only [iwp] at this ⊢
  refine wp_mono this fun e a w he => ?_
  cases e with
  | normal => obtain ⟨s, β', h1, h2⟩ := he; exact ⟨s, β', h1, hI s h2⟩
  | _ => exact he

/-- The frame, where what is handed in may stand for the callee's. -/
theorem go_frameL (σ : List Win) {c : Call} {f : FuncId} {args args0 : List AV} {bl0 : Bls} {W0 : List Nat} {K0 : AV → Bls → Prop} (h : SCW P f args0 bl0 W0 K0) (hg : o.guard = none) (hop : o.op = .call c)
    (hc : callee st.tm c = some (f, args)) (hle : LeA args (args0.map (rnr σ st.bl.length))) (hok : okArgs σ args0 = true) (hfit : FitsL σ st.bl σ bl0) (hap : apartB σ = true)
    (hk : ∀ r0 bl0', K0 r0 bl0' → Go P C (.ops all os :: k) ⟨st.n, put st.n st.tm o.dst (rn σ st.bl.length r0), after σ st.bl bl0'⟩ R) :
    Go P C (.ops all (o :: os) :: k) st R :=
  go_eff (eff_of_scw hop hc ((h.frame σ st.bl hok hfit hap).le hle)) hg fun r bl' ⟨r0, bl0', h1, h2, h3⟩ => by subst h2; subst h3; exact hk r0 bl0' h1

/-- A difference, as it is wrapped. -/
theorem sub_wrap {t u : TypeId} {x y : Operand} {kd : IntKind} {p q : Int} (hop : o.op = .binOp .sub t x y u) (hx : ev st.tm x = .v (.int kd p)) (hy : ev st.tm y = .v (.int kd q)) :
    EffRel P C o st [] (fun r bl' => r = .v (.int kd (kd.wrap (p - q))) ∧ bl' = st.bl) := fun β a w htm hh N Q hN => by
  have hx' := den_ev htm x
  have hy' := den_ev htm y
  rw [hx] at hx'
  rw [hy] at hy'
  simp only [Den] at hx' hy'
  have hg : (eqGuard .sub t x y (.int kd p) (.int kd q)).run P w = .ok () w := eqGuard_run rfl (by simp)
  have hrun : (execOp a.eval o).run P w = .ok (.value (.int kd (kd.wrap (p - q)))) w := by
    unfold execOp
    simp only [hop, hx'.1, hy'.1, Sem.run_bind, hg, Result.andThen_ok]
    simp [binOp, Op.intArith]
  unfold Oper.wp
  rw [hrun]
  exact hN _ w β _ st.bl (by simp [Den, one]) ⟨rfl, rfl⟩ (List.prefix_refl _) hh (Step.refl _ _) fun b hb => .inl hb

/-- A block of nothing. -/
theorem go_empty (e : TypeId) (kd : IntKind) (h : Go P C k ⟨st.n, st.tm, st.bl ++ [some ⟨true, e, .num kd []⟩]⟩ R) : Go P C k st R := fun β a w hr => by
  have he := hr.heap.empty e (c := .num kd []) (by simp [CtDen])
  exact h _ a w ⟨⟨hr.tm.1, fun s => (hr.tm.2 s).mono (List.prefix_append _ _)⟩, he.1, hr.env.trans (List.prefix_append _ _), hr.env0, fun b hb => hr.own b (he.2 b hb), hr.step, hr.defers⟩

/-- What a loop's round comes to. -/
def NextI (C : Ctx) (live : List Nat) (I : Nat → St → Prop) (n : Nat) (s' : St) : Prop := ∃ n' lv', n' < n ∧ okLv C.bl0.length s'.bl.length lv' = true ∧ I n' (norm live lv' s')

/-- A loop, its invariant told with a number that sinks. -/
theorem go_loopN {c : Code} (live lv : List Nat) (I : Nat → St → Prop) (n0 : Nat) (hok : okLv C.bl0.length st.bl.length lv = true) (h0 : I n0 (norm live lv st))
    (hr : ∀ n s, I n s → Go P C (.code c :: .fin (NextI C live I n) :: k) s R) :
    Go P C (.code (.loop c) :: k) st R := by
  let m : St → Nat := fun s => open Classical in if h : ∃ n, I n s then Classical.choose (least_nat (fun q => I q s) _ h.choose_spec) else 0
  have hm : ∀ s n, I n s → I (m s) s ∧ m s ≤ n := by
    intro s n h
    have hx : ∃ n, I n s := ⟨n, h⟩
    have e : m s = Classical.choose (least_nat (fun q => I q s) _ hx.choose_spec) := by
      show (open Classical in if h : ∃ n, I n s then Classical.choose (least_nat (fun q => I q s) _ h.choose_spec) else 0) = _
      rw [dif_pos hx]
    have := Classical.choose_spec (least_nat (fun q => I q s) _ hx.choose_spec)
    rw [e]
    exact ⟨this.1, this.2 n h⟩
  refine go_loop live lv (fun s => ∃ n, I n s) m hok ⟨n0, h0⟩ fun s ⟨n, hs⟩ => ?_
  refine go_fin_mono (hr (m s) s (hm s n hs).1) fun s' ⟨n', lv', h1, h2, h3⟩ => ⟨lv', h2, ⟨n', h3⟩, by have := (hm _ _ h3).2; omega⟩

/-- A slot's nil slice as one of nothing. -/
theorem go_nilsl (s l i w : Nat) (hs : get st.tm s = .nil) (h : Go P C k ⟨st.n, (s, .sl l i w 0 0) :: st.tm, st.bl⟩ R) : Go P C k st R := fun β a w' hr => by
  refine h β a w' ⟨⟨hr.tm.1, fun s' => ?_⟩, hr.heap, hr.env, hr.env0, hr.own, hr.step, hr.defers⟩
  have := hr.tm.2 s'
  simp only [SX.get]
  split
  · rename_i e; subst e; rw [hs] at this; exact den_nil_sl this
  · exact this

end

end Go.SX
