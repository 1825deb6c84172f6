/-
  The symbolic machine: operations of many ends in the text's order; calls through windows; slices that are made, slices held against nil.
-/
import Derived.Test.YtconldbakjfbhaaSx18
import Derived.Laws.MakeOwn
set_option linter.unusedSimpArgs false
set_option linter.unusedVariables false
namespace Go.SX
open Go

section
variable {P : Program} {C : Ctx} {k : List It} {st : St} {R : St → Prop} {all : Array Oper} {o : Oper} {os : List Oper}

theorem go_eff {W : List Nat} {K : AV → Bls → Prop} (hE : EffRel P C o st W K) (hg : o.guard = none)
    (h : ∀ r bl', K r bl' → Go P C (.ops all os :: k) ⟨st.n, put st.n st.tm o.dst r, bl'⟩ R) : Go P C (.ops all (o :: os) :: k) st R := fun β a w hr => by
  simp only [iwp]
  refine wpList_plain hg fun K' hK' => ?_
  refine hE β a w hr.tm hr.heap _ _ fun y w' β' r bl' hd hK hb hh' hst hown => ?_
  refine hK' _ _ ?_
  have := h r bl' hK β' _ w' (hr.next (d := o.dst) hd hb hh' (hst.mono fun b hb => hb.owned) hown)
  simpa only [iwp] using this

/-- A call by a contract over the callee's own few blocks. -/
theorem eff_frame (σ : List Win) {c : Call} {f : FuncId} {args0 : List AV} {bl0 : Bls} {W0 : List Nat} {K0 : AV → Bls → Prop} (h : SCW P f args0 bl0 W0 K0) (hop : o.op = .call c)
    (hc : callee st.tm c = some (f, args0.map (rnr σ st.bl.length))) (hok : okArgs σ args0 = true) (hfit : FitsL σ st.bl σ bl0) (hap : apartB σ = true) :
    EffRel P C o st (wl σ) (fun r bl' => ∃ r0 bl0', K0 r0 bl0' ∧ r = rn σ st.bl.length r0 ∧ bl' = after σ st.bl bl0') :=
  eff_of_scw hop hc (h.frame σ st.bl hok hfit hap)

theorem go_frame (σ : List Win) {c : Call} {f : FuncId} {args0 : List AV} {bl0 : Bls} {W0 : List Nat} {K0 : AV → Bls → Prop} (h : SCW P f args0 bl0 W0 K0) (hg : o.guard = none) (hop : o.op = .call c)
    (hc : callee st.tm c = some (f, args0.map (rnr σ st.bl.length))) (hok : okArgs σ args0 = true) (hfit : FitsL σ st.bl σ bl0) (hap : apartB σ = true)
    (hk : ∀ r0 bl0', K0 r0 bl0' → Go P C (.ops all os :: k) ⟨st.n, put st.n st.tm o.dst (rn σ st.bl.length r0), after σ st.bl bl0'⟩ R) :
    Go P C (.ops all (o :: os) :: k) st R :=
  go_eff (eff_frame σ h hop hc hok hfit hap) hg fun r bl' ⟨r0, bl0', h1, h2, h3⟩ => by subst h2; subst h3; exact hk r0 bl0' h1

theorem gop_frame {i : Nat} {un : List Nat} {rest : List (Nat × List Nat)} {A : List (Nat × Nat)} (σ : List Win) {c : Call} {f : FuncId} {args0 : List AV} {bl0 : Bls} {W0 : List Nat} {K0 : AV → Bls → Prop} (h : SCW P f args0 bl0 W0 K0) (ho : opAt all i = some o)
    (hop : o.op = .call c) (hef : effOp o.op = true) (hw : Wanted all st.tm st.n o true)
    (hc : callee st.tm c = some (f, args0.map (rnr σ st.bl.length))) (hok : okArgs σ args0 = true) (hfit : FitsL σ st.bl σ bl0) (hap : apartB σ = true)
    (hk : ∀ r0 bl0', K0 r0 bl0' → chkA un (wl σ) (after σ st.bl bl0') A = true ∧ GoP P C all rest A k ⟨st.n, put st.n st.tm o.dst (rn σ st.bl.length r0), after σ st.bl bl0'⟩ R) :
    GoP P C all ((i, un) :: rest) A k st R :=
  gop_eff ho hef hw (eff_frame σ h hop hc hok hfit hap) fun r bl' ⟨r0, bl0', h1, h2, h3⟩ => by subst h2; subst h3; exact hk r0 bl0' h1

theorem madeCells_num {k : IntKind} {n : Nat} : madeCells #[Value.int k 0] n = (List.replicate n (Value.int k 0)).toArray := by
  apply Array.ext (by simp [madeCells])
  intro i h1 h2
  simp [madeCells, Nat.mod_one]

/-- A slice of noughts is made. -/
theorem mks_num {t e : TypeId} {x y : Operand} {T E : TI} {k ki kj : IntKind} {by_ : Nat} {n c : Int} (hop : o.op = .makeSlice t x y) (ht : ti P t = some T) (hT : T.kd = .slice e 1 by_) (hE : ti P e = some E)
    (hEz : E.z = some [.int k 0]) (hx : ev st.tm x = .v (.int ki n)) (hy : ev st.tm y = .v (.int kj c)) (h0 : 0 ≤ n) (hnc : n ≤ c) (hb : (by_ : Int) * c ≤ 281474976710656) (hc : c ≤ 9223372036854775807) :
    EffRel P C o st [] (fun r bl' => r = .sl st.bl.length 0 1 n.toNat c.toNat ∧ bl' = st.bl ++ [some ⟨true, e, .num k (List.replicate c.toNat 0)⟩]) := fun β a w htm hh N Q hN => by
  obtain ⟨it, dt, hit, hut, -, -, -, hkt, -⟩ := ti_spec ht
  rw [hkt] at hT
  obtain ⟨hut', hcz, hbz⟩ := kdOf_slice hT
  subst hut'
  obtain ⟨i, d, hi, -, hsz, hby, -, -, hz⟩ := ti_spec hE
  have hx' := den_ev htm x
  have hy' := den_ev htm y
  rw [hx] at hx'
  rw [hy] at hy'
  simp only [Den] at hx' hy'
  rw [hEz] at hz
  cases hzz : i.zero with
  | none => rw [hzz] at hz; cases hz
  | some z =>
    rw [hzz, Option.map_some, Option.some.injEq] at hz
    have hzc : z.cells = #[.int k 0] := by apply Array.ext'; exact hz.symm
    have h1 : i.size = 1 := by
      have := hcz
      simp only [Program.cellsOf, hi] at this
      simpa using this
    have hb1 : i.bytes = by_ := by
      have := hbz
      simp only [Program.bytesOf, hi] at this
      simpa using this
    have hrun := run_make (P := P) w t e i z hut hi hzz ki kj n c h0 hnc (by rw [hb1]; exact hb) hc
    rw [hzc, h1, Nat.mul_one, madeCells_num] at hrun
    have hex : (execOp a.eval o).run P w = .ok (.value (.slice (some ⟨w.heap.size, 0, none⟩) n.toNat c.toNat)) (w.alloc (.cells (List.replicate c.toNat (Value.int k 0)).toArray e)) := by
      unfold execOp
      simp only [hop, hx'.1, hy'.1, Sem.run_bind, hrun, Result.andThen_ok, Sem.run_pure]
    have hm := Heap.make hh e (0, 0) (c := .num k (List.replicate c.toNat 0)) (ys := List.replicate c.toNat (Value.int k 0)) nofz (by simp [CtDen])
      (w' := w.alloc (.cells (List.replicate c.toNat (Value.int k 0)).toArray e)) rfl rfl rfl rfl
    unfold Oper.wp
    rw [hex]
    refine hN _ _ _ (.sl st.bl.length 0 1 n.toNat c.toNat) _ ?_ ⟨rfl, rfl⟩ hm.2.2.2 hm.1 (hm.2.1.mono fun _ h => h.elim) (fun b' hb' => hm.2.2.1 b' hb')
    simp only [Den]
    exact ⟨some ⟨w.heap.size, 0, none⟩, rfl, by omega, fun _ => ⟨w.heap.size, 0, by rw [← hh.len]; simp, by simp⟩⟩

/-- A slice held against nil. -/
def nilK (op : BinOp) (x : AV) (bl : Bls) (r : AV) (bl' : Bls) : Prop :=
  bl' = bl ∧ ∃ b : Bool, r = .v (.bool (if op = .eql then b else !b)) ∧ (match x with
    | .nil => b = true
    | .sl _ _ _ _ c => c ≠ 0 → b = false
    | _ => True)

theorem isnil {op : BinOp} {t u e : TypeId} {x : Operand} {T : TI} {s by_ : Nat} (hop : o.op = .binOp op t x (.const (.slice none 0 0)) u) (hq : op = .eql ∨ op = .neq) (ht : ti P t = some T) (hT : T.kd = .slice e s by_)
    (hx : (match ev st.tm x with
    | .nil => true
    | .sl _ _ _ _ _ => true
    | _ => false) = true) : EffRel P C o st [] (nilK op (ev st.tm x) st.bl) := fun β a w htm hh N Q hN => by
  obtain ⟨it, dt, hit, hut, -, -, -, hkt, -⟩ := ti_spec ht
  rw [hkt] at hT
  obtain ⟨hut', -, -⟩ := kdOf_slice hT
  subst hut'
  have hd := den_ev htm x
  obtain ⟨A, m, c, hA, hb⟩ : ∃ A m c, a.eval x = .slice A m c ∧ (match ev st.tm x with
    | .nil => A.isNone = true
    | .sl _ _ _ _ c => c ≠ 0 → A.isNone = false
    | _ => True) := by
    cases hxe : ev st.tm x <;> rw [hxe] at hx hd <;> simp only [Den] at hd <;> try (cases hx; done)
    · exact ⟨none, 0, 0, hd, rfl⟩
    · obtain ⟨A, hA, -, h⟩ := hd
      refine ⟨A, _, _, hA, fun hc => ?_⟩
      obtain ⟨b, o', -, hA'⟩ := h hc
      subst hA'
      rfl
  have heq : ∀ w : World, (Op.equalIn (9999 + 1) t (.slice A m c) (.slice none 0 0)).run P w = .ok A.isNone w := fun w => by
    unfold Op.equalIn
    cases A <;> simp only [Sem.run_bind, underlying_run w hut, Result.andThen_ok] <;> rfl
  have hg : (eqGuard op t x (.const (.slice none 0 0)) (.slice A m c) (.slice none 0 0)).run P w = .ok () w := by
    rcases hq with rfl | rfl <;> rfl
  have hrun : (execOp a.eval o).run P w = .ok (.value (.bool (if op = .eql then A.isNone else !A.isNone))) w := by
    unfold execOp
    have hce : a.eval (.const (.slice none 0 0)) = .slice none 0 0 := rfl
    have he : (binOp op t (.slice A m c) (.slice none 0 0)).run P w = .ok (.bool (if op = .eql then A.isNone else !A.isNone)) w := by
      rcases hq with rfl | rfl
      · show (do pure (Value.bool (← Op.equal t _ _)) : Sem Value).run P w = _
        rw [equal_unfold]; simp only [Sem.run_bind, heq, Result.andThen_ok, Sem.run_pure]; rfl
      · show (do pure (Value.bool (!(← Op.equal t _ _))) : Sem Value).run P w = _
        rw [equal_unfold]; simp only [Sem.run_bind, heq, Result.andThen_ok, Sem.run_pure]; rfl
    simp only [hop, hA, hce, Sem.run_bind, hg, he, Result.andThen_ok, Sem.run_pure]
  unfold Oper.wp
  rw [hrun]
  refine hN _ w β _ st.bl ?_ ⟨rfl, A.isNone, rfl, hb⟩ (List.prefix_refl _) hh (Step.refl _ _) fun b hb => .inl hb
  simp [Den, one]

end

end Go.SX
