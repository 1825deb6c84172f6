/-
  The symbolic machine: a function's word, told apart from where it is called.
-/
import Derived.Test.YtdoeopcimhpjaaaSy26
set_option linter.unusedSimpArgs false
set_option linter.unusedVariables false
namespace Go.SY
open Go

/-- The names of a list. -/
def nm (R : List Nat) (l : Nat) : Nat := R.getD l 0

/-- A result, its levels in order. -/
def Res (r : AV) (bl1 : Bls) (r' : AV) (bl' : Bls) : Prop := ∃ R : List Nat, R.Nodup ∧ R.length = bl1.length ∧ r' = ren (nm R) r ∧ ∀ l c, bl1[l]? = some (some c) → bl'[nm R l]? = some (some (renCt (nm R) c))

theorem nodup_inj : ∀ {R : List Nat}, R.Nodup → ∀ {i j : Nat} (hi : i < R.length) (hj : j < R.length), R[i] = R[j] → i = j
  | [], _, i, _, hi, _, _ => absurd hi (Nat.not_lt_zero _)
  | x :: R, h, 0, 0, _, _, _ => rfl
  | x :: R, h, 0, j + 1, _, hj, e => by
    have hx := (List.nodup_cons.1 h).1
    simp only [List.getElem_cons_zero, List.getElem_cons_succ] at e
    exact absurd (by rw [e]; exact List.getElem_mem _) hx
  | x :: R, h, i + 1, 0, hi, _, e => by
    have hx := (List.nodup_cons.1 h).1
    simp only [List.getElem_cons_zero, List.getElem_cons_succ] at e
    exact absurd (by rw [← e]; exact List.getElem_mem _) hx
  | x :: R, h, i + 1, j + 1, hi, hj, e => by
    simp only [List.getElem_cons_succ] at e
    have := nodup_inj (List.nodup_cons.1 h).2 (by simpa using hi) (by simpa using hj) e
    omega

/-- A function's word on inputs without levels, memory empty. -/
def SpecOk (P : Program) (pl : FuncId → Nat → Option Plan) (g : FuncId) (spec : List AV → Option (Bool × AV × Bls)) : Prop := ∃ F, fi P g = some F ∧ ∀ args r bl1, spec args = some (true, r, bl1) → args.length ≤ F.n ∧
  ∀ C : Ctx, C.β.b = [] → C.bl = [] → Rch P pl C (conf0 g F args []) (Res r bl1)

/-! ### lending -/
open Classical in
noncomputable def lendE (β : Env) (bl : Bls) (w : World) : Env where
  b := []
  z := β.z
  y := fun b => match β.y b with
    | some cs => some cs
    | none => if Owned β bl b then (match w.heap[b]? with
      | some (.cells cs _ _) => some cs
      | _ => none) else none
  ck := β.ck

def lnd (bl : Bls) (x : AV) : Option (Bool × AV) := match lvB 0 true x with
  | true => some (true, x)
  | false => (match x with
    | .sl l i w n c => (match lvl bl l with
      | some (.num k xs) => if w = 1 then some (decide (i + n ≤ xs.length), .imn true k ((xs.drop i).take n) c) else none
      | some (.rows w' rs) => if w' = w then some (decide (i + n ≤ rs.length) && lvR 0 true rs, .imr true w ((rs.drop i).take n) c) else none
      | _ => none)
    | .ptr l i w k => (match lvl bl l with
      | some (.lit cs) => some (lvL 0 true cs, .ip true cs (i * w + k))
      | _ => none)
    | _ => none)

def lndL (bl : Bls) : List AV → Option (Bool × List AV)
  | [] => some (true, [])
  | x :: r => (match lnd bl x with
    | some (v1, y) => (match lndL bl r with
      | some (v2, ys) => some (v1 && v2, y :: ys)
      | none => none)
    | none => none)

section
variable {β : Env} {bl : Bls} {w : World}

theorem lend_heap (h : Heap β bl w) : Heap (lendE β bl w) [] w := by
  refine ⟨rfl, fun l c h => by simp at h, fun l l' c c' b s s' _ h => by simp at h, fun t b cs hz => ⟨?_, fun ⟨l, c, s, hl, _⟩ => by simp at hl⟩⟩
  cases t with
  | false => exact (h.frz false b cs hz).1
  | true =>
    simp only [Env.fz, lendE] at hz
    split at hz
    · rename_i cs' e
      obtain rfl := Option.some.inj hz
      exact (h.frz true b cs' e).1
    · split at hz
      · split at hz
        · rename_i cs' T fz e
          obtain rfl := Option.some.inj hz
          exact ⟨T, fz, e⟩
        · cases hz
      · cases hz

theorem lend_tr : Tr β (lendE β bl w) (fun l => l) (fun l => l) 0 true :=
  ⟨fun _ _ h => absurd h (Nat.not_lt_zero _), fun _ _ h => h, fun _ i cs h => by simp only [lendE, h]⟩

theorem lend_free {x : AV} {v : Value} (hl : lvB 0 true x = true) (hd : Den β x v) : Den (lendE β bl w) x v := by
  have := Den.ren (lend_tr (bl := bl) (w := w)) hl (by rw [ren_id]; exact hd)
  rwa [ren_id] at this

theorem lend_freeR {n : Nat} {x : List (List AV)} {v : List Value} (hl : lvR 0 true x = true) (hd : DenR β n x v) : DenR (lendE β bl w) n x v := by
  have := DenR.ren (lend_tr (bl := bl) (w := w)) hl (by rw [renR_id]; exact hd)
  rwa [renR_id] at this

theorem lend_freeC {x : List AV} {v : List Value} (hl : lvL 0 true x = true) (hd : DenC β x v) : DenC (lendE β bl w) x v := by
  have := DenC.ren (lend_tr (bl := bl) (w := w)) hl (by rw [renL_id]; exact hd)
  rwa [renL_id] at this

theorem lvR_drop {N : Nat} {T : Bool} : ∀ {rs : List (List AV)} (i : Nat), lvR N T rs = true → lvR N T (rs.drop i) = true
  | [], i, _ => by cases i <;> rfl
  | r :: rs, 0, h => h
  | r :: rs, i + 1, h => by
    simp only [lvR, Bool.and_eq_true] at h
    simpa using lvR_drop i h.2

theorem lvR_take {N : Nat} {T : Bool} : ∀ {rs : List (List AV)} (i : Nat), lvR N T rs = true → lvR N T (rs.take i) = true
  | [], i, _ => by cases i <;> rfl
  | r :: rs, 0, h => rfl
  | r :: rs, i + 1, h => by
    simp only [lvR, Bool.and_eq_true] at h
    simp only [List.take_succ_cons, lvR, Bool.and_eq_true]
    exact ⟨h.1, lvR_take i h.2⟩

theorem lend_y (h : Heap β bl w) {l b s : Nat} {c : Ct} {cs : Array Value} {T : TypeId} {fz : Nat × Nat} (hl : lvl bl l = some c) (hb : β.b[l]? = some (some (b, s))) (hg : w.heap[b]? = some (.cells cs T fz)) : (lendE β bl w).fz true b = some cs := by
  have ho : Owned β bl b := ⟨l, c, s, lvl_get hl, hb⟩
  have hn : β.y b = none := by
    cases e : β.y b with
    | none => rfl
    | some cs' => exact absurd ho (h.frz true b cs' e).2
  simp only [Env.fz, lendE, hn, if_pos ho, hg]

theorem lnd_den (h : Heap β bl w) {x x' : AV} {v : Value} (hd : Den β x v) (hl : lnd bl x = some (true, x')) : Den (lendE β bl w) x' v := by
  unfold lnd at hl
  split at hl
  · rename_i e
    simp only [Option.some.injEq, Prod.mk.injEq, true_and] at hl
    subst hl
    exact lend_free e hd
  · split at hl
    · rename_i l i w' n c _
      simp only [Den] at hd
      obtain ⟨A, q, rfl, h1, h2, h3, h4⟩ := hd
      split at hl
      · rename_i k xs hlv
        split at hl
        · rename_i hw
          subst hw
          simp only [Option.some.injEq, Prod.mk.injEq, decide_eq_true_eq] at hl
          obtain ⟨hfit, rfl⟩ := hl
          have hlen : ((xs.drop i).take n).length = n := by simp; omega
          obtain ⟨base, e, hin⟩ := h.lv l _ (lvl_get hlv)
          simp only [Den]
          refine ⟨A, q, by rw [hlen], by rw [hlen]; exact h1, h2, h3, ?_, fun hq => ?_⟩
          · have hok : okN k xs := by
              unfold CtIn at hin
              cases base with
              | none => exact hin.2
              | some p =>
                obtain ⟨b, s⟩ := p
                rcases hin with ⟨-, ys, sp, T, fz, -, -, hc, -⟩ | ⟨hc, -⟩
                · exact hc.2
                · cases hc
            exact okN_take (okN_drop hok _) _
          · obtain ⟨b, s, hb, rfl, hs⟩ := h4 hq
            obtain ⟨ys, sp, T, fz, hg, hsz, hc, -⟩ := heap_cells h hlv hb rfl
            refine ⟨b, i * 1, rfl, _, lend_y h hlv hb hg, fun j v hj => ?_⟩
            simp only [CsDen] at hc
            rw [hc.1]
            rw [List.map_take, List.map_drop, List.getElem?_take] at hj
            split at hj
            · rw [List.getElem?_drop] at hj
              simp only [List.getElem?_toArray, Nat.mul_one]
              rw [List.getElem?_append_left (List.getElem?_eq_some_iff.1 hj).1]; exact hj
            · cases hj
        · cases hl
      · rename_i w2 rs hlv
        split at hl
        · rename_i hw
          subst hw
          simp only [Option.some.injEq, Prod.mk.injEq, Bool.and_eq_true, decide_eq_true_eq] at hl
          obtain ⟨⟨hfit, hfree⟩, rfl⟩ := hl
          have hlen : ((rs.drop i).take n).length = n := by simp; omega
          obtain ⟨base, e, hin⟩ := h.lv l _ (lvl_get hlv)
          obtain ⟨ys, hys, hplace⟩ : ∃ ys, DenR β w2 rs ys ∧ ∀ b s, β.b[l]? = some (some (b, s)) → ∃ sp T fz, w.heap[b]? = some (.cells (ys ++ sp).toArray T fz) := by
            unfold CtIn at hin
            cases base with
            | none => exact ⟨[], hin, fun b s hb => by rw [hb] at e; cases e⟩
            | some p =>
              obtain ⟨b, s⟩ := p
              rcases hin with ⟨-, ys, sp, T, fz, hg, -, hc, -⟩ | ⟨hc, -⟩
              · refine ⟨ys, hc, fun b' s' hb => ?_⟩
                rw [hb] at e
                simp only [Option.some.injEq, Prod.mk.injEq] at e
                obtain ⟨rfl, rfl⟩ := e
                exact ⟨sp, T, fz, hg⟩
              · cases hc
          have hden := lend_freeR (bl := bl) (w := w) (lvR_take n (lvR_drop i hfree)) (denR_take n (denR_drop i hys))
          simp only [Den]
          refine ⟨A, q, _, by rw [hlen], by rw [hlen]; exact h1, h2, h3, hden, fun hq => ?_⟩
          obtain ⟨b, s, hb, rfl, hs⟩ := h4 hq
          obtain ⟨sp, T, fz, hg⟩ := hplace b s hb
          refine ⟨b, i * w2, rfl, _, lend_y h hlv hb hg, fun j v hj => ?_⟩
          rw [List.getElem?_take] at hj
          split at hj
          · rw [List.getElem?_drop] at hj
            simp only [List.getElem?_toArray]
            rw [List.getElem?_append_left (List.getElem?_eq_some_iff.1 hj).1]; exact hj
          · cases hj
        · cases hl
      · cases hl
    · rename_i l i w' k _
      simp only [Den] at hd
      obtain ⟨b, s, hb, rfl⟩ := hd
      split at hl
      · rename_i cs hlv
        simp only [Option.some.injEq, Prod.mk.injEq] at hl
        obtain ⟨hfree, rfl⟩ := hl
        obtain ⟨ys, sp, T, fz, hg, hsz, hc, -⟩ := heap_cells h hlv hb rfl
        simp only [Den]
        refine ⟨b, 0, ys, by rw [Nat.zero_add], lend_freeC hfree hc, _, lend_y h hlv hb hg, fun j v hj => ?_⟩
        simp only [List.getElem?_toArray, Nat.zero_add]
        rw [List.getElem?_append_left (List.getElem?_eq_some_iff.1 hj).1]; exact hj
      · cases hl
    · cases hl

theorem lndL_den (h : Heap β bl w) : ∀ {xs xs' : List AV} {vs : List Value}, DenL β xs vs → lndL bl xs = some (true, xs') → DenL (lendE β bl w) xs' vs
  | [], xs', vs, hd, hl => by
    simp only [lndL, Option.some.injEq, Prod.mk.injEq, true_and] at hl
    subst hl
    simpa only [DenL] using hd
  | x :: r, xs', vs, hd, hl => by
    simp only [lndL] at hl
    split at hl
    · rename_i v1 y e1
      split at hl
      · rename_i v2 ys e2
        simp only [Option.some.injEq, Prod.mk.injEq, Bool.and_eq_true] at hl
        obtain ⟨⟨rfl, rfl⟩, rfl⟩ := hl
        simp only [DenL] at hd ⊢
        obtain ⟨u, us, rfl, h1, h2⟩ := hd
        exact ⟨u, us, rfl, lnd_den h h1 e1, lndL_den h h2 e2⟩
      · cases hl
    · cases hl

end

/-! ### a function's word where it is called -/
def okBls (N : Nat) : Bls → Bool
  | [] => true
  | none :: r => okBls N r
  | some c :: r => c.cell && (lvCt N false c && okBls N r)

def shB (d : Nat) : Bls → Bls
  | [] => []
  | none :: r => none :: shB d r
  | some c :: r => some (renCt (d + ·) c) :: shB d r

theorem okBls_at {N : Nat} : ∀ {bl : Bls} {l : Nat} {c : Ct}, okBls N bl = true → bl[l]? = some (some c) → c.cell = true ∧ lvCt N false c = true
  | [], _, _, _, h => by simp at h
  | none :: r, 0, _, _, h => by simp at h
  | none :: r, l + 1, c, hk, h => okBls_at (bl := r) hk (by simpa using h)
  | some c0 :: r, 0, c, hk, h => by
    simp only [okBls, Bool.and_eq_true] at hk
    simp at h
    subst h
    exact ⟨hk.1, hk.2.1⟩
  | some c0 :: r, l + 1, c, hk, h => by
    simp only [okBls, Bool.and_eq_true] at hk
    exact okBls_at (bl := r) hk.2.2 (by simpa using h)

theorem shB_len {d : Nat} : ∀ {bl : Bls}, (shB d bl).length = bl.length
  | [] => rfl
  | none :: r => by simp [shB, shB_len]
  | some c :: r => by simp [shB, shB_len]

theorem shB_at {d : Nat} : ∀ {bl : Bls} {l : Nat} {c : Ct}, (shB d bl)[l]? = some (some c) → ∃ c0, bl[l]? = some (some c0) ∧ c = renCt (d + ·) c0
  | [], _, _, h => by simp [shB] at h
  | none :: r, 0, _, h => by simp [shB] at h
  | none :: r, l + 1, c, h => by simpa using shB_at (bl := r) (l := l) (by simpa [shB] using h)
  | some c0 :: r, 0, c, h => by
    simp [shB] at h
    exact ⟨c0, by simp, h.symm⟩
  | some c0 :: r, l + 1, c, h => by simpa using shB_at (bl := r) (l := l) (by simpa [shB] using h)

def conK (spec : List AV → Option (Bool × AV × Bls)) (args : List AV) (bl : Bls) : Option (Bool × AV × Bls) := match lndL bl args with
  | some (v1, as) => (match spec as with
    | some (v2, r, bl1) => some (v1 && (v2 && (lvB bl1.length false r && okBls bl1.length bl1)), ren (bl.length + ·) r, bl ++ shB bl.length bl1)
    | none => none)
  | none => none

theorem conK_ok {P : Program} {pl : FuncId → Nat → Option Plan} (hpl : PlOk P pl) {g : FuncId} {spec : List AV → Option (Bool × AV × Bls)} (hs : SpecOk P pl g spec) :
    (∃ F, fi P g = some F) ∧ ∀ args bl r bl', conK spec args bl = some (true, r, bl') → Kl bl bl' ∧
  ∀ (β : Env) (w : World) (vs : List Value) (cs : List Frame), Heap β bl w → β.ck = Ck P pl → DenL β args vs →
    ∃ v fr β' w', Steps P (lone (Frame.enter P g vs.toArray .normal) cs w) (lone fr cs w') ∧ fr.leaving P w' (.returned v) ∧ Den β' r v ∧ Ext β bl w β' bl' w' := by
  obtain ⟨F, hF, hs⟩ := hs
  refine ⟨⟨F, hF⟩, fun args bl r0 bl0 hc => ⟨?_, fun β w vs cs hh hck hd => ?_⟩⟩
  · unfold conK at hc
    split at hc
    · split at hc
      · simp only [Option.some.injEq, Prod.mk.injEq] at hc
        rw [← hc.2.2]
        exact (Kll.refl bl).app _
      · cases hc
    · cases hc
  unfold conK at hc
  split at hc
  · rename_i v1 as e1
    split at hc
    · rename_i v2 r bl1 e2
      simp only [Option.some.injEq, Prod.mk.injEq, Bool.and_eq_true] at hc
      obtain ⟨⟨rfl, rfl, hlr, hok⟩, rfl, rfl⟩ := hc
      obtain ⟨hn, hrch⟩ := hs as r bl1 e2
      have hd0 := lndL_den hh hd e1
      have hh0 := lend_heap hh
      have run := hrch ⟨lendE β bl w, [], w, cs, g⟩ rfl rfl (lendE β bl w) (lone (Frame.enter P g vs.toArray .normal) cs w)
        ⟨⟨_, [], _, [], w, rfl, rfl, enter_ok hF (hpl.ck g F hF) hck hd0 hn, rfl, .refl hh0⟩, rfl, hck⟩
      obtain ⟨v, fr, β1, r'', bl'', w', h1, h2, h3, h4, h5, R, hR1, hR2, rfl, hR3⟩ := run
      have h5 : Ext (lendE β bl w) [] w β1 bl'' w' := h5
      have kept : ∀ b, b < w.heap.size → w'.heap[b]? = w.heap[b]? := fun b hb => h5.step.kept b hb fun ⟨l, c, s, hl, _⟩ => by simp at hl
      have new : ∀ b, Owned β1 bl'' b → w.heap.size ≤ b := fun b hb => (h5.own b hb).resolve_left fun ⟨l, c, s, hl, _⟩ => by simp at hl
      let β2 : Env := { b := β.b ++ R.map (fun x => (β1.b[x]?).join), z := β1.z, y := β.y, ck := β.ck }
      have hlen := hh.len
      have le : β.le β2 := ⟨List.prefix_append _ _, fun i cs hz => h5.le.z i cs hz, fun i cs hy => hy, rfl⟩
      have gold : ∀ {m : Nat} {x}, m < bl.length → (β2.b[m]? = some x ↔ β.b[m]? = some x) := fun {m x} hm => by
        show (β.b ++ _)[m]? = some x ↔ _
        rw [List.getElem?_append_left (by omega)]
      have gnew : ∀ j : Nat, j < bl1.length → β2.b[bl.length + j]? = some ((β1.b[nm R j]?).join) := fun j hj => by
        show (β.b ++ _)[_]? = _
        rw [List.getElem?_append_right (by omega), hlen, Nat.add_sub_cancel_left, List.getElem?_map, List.getElem?_eq_getElem (by omega)]
        simp [nm, List.getD_eq_getElem?_getD, List.getElem?_eq_getElem (show j < R.length by omega)]
      have tr : Tr β1 β2 (nm R) (bl.length + ·) bl1.length false :=
        ⟨fun l x hl hb => by show β2.b[bl.length + l]? = _; rw [gnew l hl, hb]; rfl, fun i cs hz => hz, fun h => by cases h⟩
      have hckE : β2.ck = β1.ck := by rw [h5.le.ck]; rfl
      have split : ∀ {m : Nat} {c : Ct}, (bl ++ shB bl.length bl1)[m]? = some (some c) → (m < bl.length ∧ bl[m]? = some (some c)) ∨ ∃ j c0, m = bl.length + j ∧ j < bl1.length ∧ bl1[j]? = some (some c0) ∧ c = renCt (bl.length + ·) c0 := by
        intro m c hm
        by_cases hlt : m < bl.length
        · rw [List.getElem?_append_left hlt] at hm; exact .inl ⟨hlt, hm⟩
        · rw [List.getElem?_append_right (by omega)] at hm
          obtain ⟨c0, h6, h7⟩ := shB_at hm
          exact .inr ⟨m - bl.length, c0, by omega, (List.getElem?_eq_some_iff.1 h6).1, h6, h7⟩
      have own2 : ∀ b, Owned β2 (bl ++ shB bl.length bl1) b → Owned β bl b ∨ Owned β1 bl'' b := by
        rintro b ⟨m, c, s, hm, hb⟩
        rcases split hm with ⟨hlt, h0⟩ | ⟨j, c0, rfl, hj, h0, rfl⟩
        · exact .inl ⟨m, c, s, h0, (gold hlt).1 hb⟩
        · right
          rw [gnew j hj] at hb
          refine ⟨nm R j, _, s, hR3 j c0 h0, ?_⟩
          cases e : β1.b[nm R j]? with
          | none => rw [e] at hb; cases hb
          | some y => rw [e] at hb; simpa using hb
      refine ⟨v, fr, β2, w', h1, h3, Den.ren tr hlr h4, le, ⟨?_, fun m c hm => ?_, fun m m' c c' b s s' hne hm hm' hb hb' => ?_, fun t b cs' hz => ?_⟩, h5.step.mono fun b ⟨l, c, s, hl, _⟩ => by simp at hl, fun b hb => (own2 b hb).imp_right (new b), fun b cs' hz => ?_, rfl⟩
      · show (β.b ++ _).length = _
        simp [hlen, shB_len, hR2]
      · rcases split hm with ⟨hlt, h0⟩ | ⟨j, c0, rfl, hj, h0, rfl⟩
        · obtain ⟨base, e, hin⟩ := hh.lv m c h0
          refine ⟨base, (gold hlt).2 e, (hin.mono le).same fun b s hb => ?_⟩
          subst hb
          exact kept b (hh.lt h0 e)
        · obtain ⟨base, e, hin⟩ := h5.heap.lv _ _ (hR3 j c0 h0)
          refine ⟨base, by rw [gnew j hj, e]; rfl, hin.ren tr hckE (okBls_at hok h0).2⟩
      · rcases split hm with ⟨l1, g1⟩ | ⟨j, c0, rfl, hj, g1, rfl⟩ <;> rcases split hm' with ⟨l2, g2⟩ | ⟨j', c0', rfl, hj', g2, rfl⟩
        · exact hh.sep m m' c c' b s s' hne g1 g2 ((gold l1).1 hb) ((gold l2).1 hb')
        · have a1 := hh.lt g1 ((gold l1).1 hb)
          have a2 := new b (by
            rw [gnew j' hj'] at hb'
            refine ⟨nm R j', _, s', hR3 j' c0' g2, ?_⟩
            cases e : β1.b[nm R j']? with
            | none => rw [e] at hb'; cases hb'
            | some y => rw [e] at hb'; simpa using hb')
          omega
        · have a1 := hh.lt g2 ((gold l2).1 hb')
          have a2 := new b (by
            rw [gnew j hj] at hb
            refine ⟨nm R j, _, s, hR3 j c0 g1, ?_⟩
            cases e : β1.b[nm R j]? with
            | none => rw [e] at hb; cases hb
            | some y => rw [e] at hb; simpa using hb)
          omega
        · have e1 : β1.b[nm R j]? = some (some (b, s)) := by
            rw [gnew j hj] at hb
            cases e : β1.b[nm R j]? with
            | none => rw [e] at hb; cases hb
            | some y => rw [e] at hb; simpa using hb
          have e2 : β1.b[nm R j']? = some (some (b, s')) := by
            rw [gnew j' hj'] at hb'
            cases e : β1.b[nm R j']? with
            | none => rw [e] at hb'; cases hb'
            | some y => rw [e] at hb'; simpa using hb'
          refine h5.heap.sep _ _ _ _ b s s' (fun e => ?_) (hR3 j c0 g1) (hR3 j' c0' g2) e1 e2
          have : j = j' := by
            have hj1 : j < R.length := by omega
            have hj2 : j' < R.length := by omega
            simp only [nm, List.getD_eq_getElem?_getD, List.getElem?_eq_getElem hj1, List.getElem?_eq_getElem hj2, Option.getD_some] at e
            exact nodup_inj hR1 hj1 hj2 e
          exact hne (by rw [this])
      · cases t with
        | false =>
          refine ⟨(h5.heap.frz false b cs' hz).1, fun ho => ?_⟩
          rcases own2 b ho with ho | ho
          · rcases h5.zn b cs' hz with h6 | ⟨l, c, s, hl, _⟩ | h6
            · exact (hh.frz false b cs' h6).2 ho
            · simp at hl
            · have := ho.lt hh; omega
          · exact (h5.heap.frz false b cs' hz).2 ho
        | true =>
          have hz' : β.fz true b = some cs' := hz
          obtain ⟨⟨T, fz, hg⟩, hno⟩ := hh.frz true b cs' hz'
          have hlt := hh.frz_lt hz'
          refine ⟨⟨T, fz, by rw [kept b hlt]; exact hg⟩, fun ho => ?_⟩
          rcases own2 b ho with ho | ho
          · exact hno ho
          · have := new b ho; omega
      · rcases h5.zn b cs' hz with h6 | ⟨l, c, s, hl, _⟩ | h6
        · exact .inl h6
        · simp at hl
        · exact .inr (.inr h6)
    · cases hc
  · cases hc

/-- Contracts, function by function. -/
def ktOf (L : List (FuncId × (List AV → Option (Bool × AV × Bls)))) (g : FuncId) : Option (List AV → Bls → Option (Bool × AV × Bls)) := match L with
  | [] => none
  | (k, s) :: r => if k = g then some (conK s) else ktOf r g

theorem ktOf_ok {P : Program} {pl : FuncId → Nat → Option Plan} (hpl : PlOk P pl) : ∀ {L : List (FuncId × (List AV → Option (Bool × AV × Bls)))}, (∀ x ∈ L, SpecOk P pl x.1 x.2) → KOk P pl (ktOf L)
  | [], _ => fun g c h => by simp [ktOf] at h
  | (k, s) :: r, h => fun g c hc => by
    simp only [ktOf] at hc
    split at hc
    · rename_i e
      subst e
      obtain rfl := Option.some.inj hc
      exact .inr (conK_ok hpl (h (k, s) (by simp)))
    · exact ktOf_ok hpl (fun x hx => h x (by simp [hx])) g c hc

end Go.SY
