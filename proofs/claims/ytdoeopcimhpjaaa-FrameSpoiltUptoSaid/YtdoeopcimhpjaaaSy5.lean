/-
  The symbolic machine: values held against each other, piece by piece.
-/
import Derived.Test.YtdoeopcimhpjaaaSy4
import Derived.Laws.StructEq
set_option linter.unusedSimpArgs false
set_option linter.unusedVariables false
namespace Go.SY
open Go

/-- Two lists of cells, leaf by leaf, and whether they are alike. -/
def EqRes : List Lf → List Value → List Value → Bool → Prop
  | [], us, vs, b => us = [] ∧ vs = [] ∧ b = true
  | .int k :: L, us, vs, b => ∃ x y us' vs' b', us = .int k x :: us' ∧ vs = .int k y :: vs' ∧ EqRes L us' vs' b' ∧ b = ((x == y) && b')
  | .str :: L, us, vs, b => ∃ x y us' vs' b', us = .string x :: us' ∧ vs = .string y :: vs' ∧ EqRes L us' vs' b' ∧ b = ((x.toList == y.toList) && b')
  | .bool :: L, us, vs, b => ∃ x y us' vs' b', us = .bool x :: us' ∧ vs = .bool y :: vs' ∧ EqRes L us' vs' b' ∧ b = ((x == y) && b')
  | .ints n k :: L, us, vs, b => ∃ (xs ys : List Int) (us' vs' : List Value) (b' : Bool), us = xs.map (.int k) ++ us' ∧ vs = ys.map (.int k) ++ vs' ∧ xs.length = n ∧ ys.length = n ∧ EqRes L us' vs' b' ∧ b = (decide (xs = ys) && b')

theorem EqRes.append : ∀ {L M : List Lf} {us vs us' vs' : List Value} {b c : Bool}, EqRes L us vs b → EqRes M us' vs' c → EqRes (L ++ M) (us ++ us') (vs ++ vs') (b && c)
  | [], M, us, vs, us', vs', b, c, h, g => by
    obtain ⟨rfl, rfl, rfl⟩ := h
    simpa using g
  | .int k :: L, M, _, _, _, _, _, _, h, g => by
    obtain ⟨x, y, u, v, b', rfl, rfl, h1, rfl⟩ := h
    exact ⟨x, y, _, _, _, rfl, rfl, h1.append g, by rw [Bool.and_assoc]⟩
  | .str :: L, M, _, _, _, _, _, _, h, g => by
    obtain ⟨x, y, u, v, b', rfl, rfl, h1, rfl⟩ := h
    exact ⟨x, y, _, _, _, rfl, rfl, h1.append g, by rw [Bool.and_assoc]⟩
  | .bool :: L, M, _, _, _, _, _, _, h, g => by
    obtain ⟨x, y, u, v, b', rfl, rfl, h1, rfl⟩ := h
    exact ⟨x, y, _, _, _, rfl, rfl, h1.append g, by rw [Bool.and_assoc]⟩
  | .ints n k :: L, M, _, _, _, _, _, _, h, g => by
    obtain ⟨xs, ys, u, v, b', rfl, rfl, h1, h2, h3, rfl⟩ := h
    exact ⟨xs, ys, _, _, _, by simp, by simp, h1, h2, h3.append g, by rw [Bool.and_assoc]⟩

/-- Taken apart. -/
theorem EqRes.split : ∀ {L M : List Lf} {us vs : List Value} {b : Bool}, EqRes (L ++ M) us vs b → ∃ u1 u2 v1 v2 b1 b2, us = u1 ++ u2 ∧ vs = v1 ++ v2 ∧ b = (b1 && b2) ∧ EqRes L u1 v1 b1 ∧ EqRes M u2 v2 b2
  | [], M, us, vs, b, h => ⟨[], us, [], vs, true, b, rfl, rfl, by simp, ⟨rfl, rfl, rfl⟩, h⟩
  | .int k :: L, M, _, _, _, h => by
    obtain ⟨x, y, u, v, b', rfl, rfl, h1, rfl⟩ := h
    obtain ⟨u1, u2, v1, v2, b1, b2, rfl, rfl, rfl, h2, h3⟩ := h1.split
    exact ⟨.int k x :: u1, u2, .int k y :: v1, v2, _, b2, rfl, rfl, by rw [← Bool.and_assoc], ⟨x, y, _, _, _, rfl, rfl, h2, rfl⟩, h3⟩
  | .str :: L, M, _, _, _, h => by
    obtain ⟨x, y, u, v, b', rfl, rfl, h1, rfl⟩ := h
    obtain ⟨u1, u2, v1, v2, b1, b2, rfl, rfl, rfl, h2, h3⟩ := h1.split
    exact ⟨.string x :: u1, u2, .string y :: v1, v2, _, b2, rfl, rfl, by rw [← Bool.and_assoc], ⟨x, y, _, _, _, rfl, rfl, h2, rfl⟩, h3⟩
  | .bool :: L, M, _, _, _, h => by
    obtain ⟨x, y, u, v, b', rfl, rfl, h1, rfl⟩ := h
    obtain ⟨u1, u2, v1, v2, b1, b2, rfl, rfl, rfl, h2, h3⟩ := h1.split
    exact ⟨.bool x :: u1, u2, .bool y :: v1, v2, _, b2, rfl, rfl, by rw [← Bool.and_assoc], ⟨x, y, _, _, _, rfl, rfl, h2, rfl⟩, h3⟩
  | .ints n k :: L, M, _, _, _, h => by
    obtain ⟨xs, ys, u, v, b', rfl, rfl, h0, h0', h1, rfl⟩ := h
    obtain ⟨u1, u2, v1, v2, b1, b2, rfl, rfl, rfl, h2, h3⟩ := h1.split
    exact ⟨xs.map (.int k) ++ u1, u2, ys.map (.int k) ++ v1, v2, _, b2, by simp, by simp, by rw [← Bool.and_assoc], ⟨xs, ys, _, _, _, rfl, rfl, h0, h0', h2, rfl⟩, h3⟩

theorem EqRes.len : ∀ {L : List Lf} {us vs : List Value} {b : Bool}, EqRes L us vs b → us.length = lfw L ∧ vs.length = lfw L
  | [], _, _, _, h => by obtain ⟨rfl, rfl, -⟩ := h; exact ⟨rfl, rfl⟩
  | .int k :: L, _, _, _, h => by
    obtain ⟨x, y, u, v, b', rfl, rfl, h1, rfl⟩ := h
    have := h1.len
    simp [lfw, Lf.wid]; omega
  | .str :: L, _, _, _, h => by
    obtain ⟨x, y, u, v, b', rfl, rfl, h1, rfl⟩ := h
    have := h1.len
    simp [lfw, Lf.wid]; omega
  | .bool :: L, _, _, _, h => by
    obtain ⟨x, y, u, v, b', rfl, rfl, h1, rfl⟩ := h
    have := h1.len
    simp [lfw, Lf.wid]; omega
  | .ints n k :: L, _, _, _, h => by
    obtain ⟨xs, ys, u, v, b', rfl, rfl, h0, h0', h1, rfl⟩ := h
    have := h1.len
    simp [lfw, Lf.wid]; omega

theorem eqPs_sound {β : Env} : ∀ {L : List Lf} {ps qs : List AV} {us vs : List Value} {b : Bool}, DenC β ps us → DenC β qs vs → eqPs L ps qs = some b → EqRes L us vs b
  | [], ps, qs, us, vs, b, h1, h2, h => by
    cases ps with
    | nil =>
      cases qs with
      | nil =>
        simp only [eqPs, Option.some.injEq] at h
        simp only [DenC] at h1 h2
        exact ⟨h1, h2, h.symm⟩
      | cons q qs => simp [eqPs] at h
    | cons p ps => simp [eqPs] at h
  | .int k :: L, ps, qs, us, vs, b, h1, h2, h => by
    obtain ⟨k1, x, ps', k2, y, qs', rfl, rfl⟩ : ∃ k1 x ps' k2 y qs', ps = .v (.int k1 x) :: ps' ∧ qs = .v (.int k2 y) :: qs' := by
      unfold eqPs at h
      split at h
      · rename_i he; cases he
      · exact ⟨_, _, _, _, _, _, rfl, rfl⟩
      · rename_i he; cases he
      · rename_i he; cases he
      · rename_i he; cases he
      · cases h
    simp only [eqPs] at h
    split at h
    · rename_i hk1
      split at h
      · rename_i hk2
        split at h
        · rename_i b' hb
          obtain rfl := Option.some.inj h
          subst hk1; subst hk2
          obtain ⟨y1, z1, rfl, g1, -, g2⟩ := (denC_cons (by rfl)).1 h1
          obtain ⟨y2, z2, rfl, g3, -, g4⟩ := (denC_cons (by rfl)).1 h2
          simp only [Den] at g1 g3
          obtain ⟨rfl, -⟩ := g1
          obtain ⟨rfl, -⟩ := g3
          exact ⟨_, _, _, _, _, rfl, rfl, eqPs_sound g2 g4 hb, rfl⟩
        · cases h
      · cases h
    · cases h
  | .str :: L, ps, qs, us, vs, b, h1, h2, h => by
    obtain ⟨x, ps', y, qs', rfl, rfl⟩ : ∃ x ps' y qs', ps = .v (.string x) :: ps' ∧ qs = .v (.string y) :: qs' := by
      unfold eqPs at h
      split at h
      · rename_i he; cases he
      · rename_i he; cases he
      · exact ⟨_, _, _, _, rfl, rfl⟩
      · rename_i he; cases he
      · rename_i he; cases he
      · cases h
    simp only [eqPs] at h
    split at h
    · rename_i b' hb
      obtain rfl := Option.some.inj h
      obtain ⟨y1, z1, rfl, g1, -, g2⟩ := (denC_cons (by rfl)).1 h1
      obtain ⟨y2, z2, rfl, g3, -, g4⟩ := (denC_cons (by rfl)).1 h2
      simp only [Den] at g1 g3
      obtain ⟨rfl, -⟩ := g1
      obtain ⟨rfl, -⟩ := g3
      exact ⟨_, _, _, _, _, rfl, rfl, eqPs_sound g2 g4 hb, rfl⟩
    · cases h
  | .bool :: L, ps, qs, us, vs, b, h1, h2, h => by
    obtain ⟨x, ps', y, qs', rfl, rfl⟩ : ∃ x ps' y qs', ps = .v (.bool x) :: ps' ∧ qs = .v (.bool y) :: qs' := by
      unfold eqPs at h
      split at h
      · rename_i he; cases he
      · rename_i he; cases he
      · rename_i he; cases he
      · exact ⟨_, _, _, _, rfl, rfl⟩
      · rename_i he; cases he
      · cases h
    simp only [eqPs] at h
    split at h
    · rename_i b' hb
      obtain rfl := Option.some.inj h
      obtain ⟨y1, z1, rfl, g1, -, g2⟩ := (denC_cons (by rfl)).1 h1
      obtain ⟨y2, z2, rfl, g3, -, g4⟩ := (denC_cons (by rfl)).1 h2
      simp only [Den] at g1 g3
      obtain ⟨rfl, -⟩ := g1
      obtain ⟨rfl, -⟩ := g3
      exact ⟨_, _, _, _, _, rfl, rfl, eqPs_sound g2 g4 hb, rfl⟩
    · cases h
  | .ints n k :: L, ps, qs, us, vs, b, h1, h2, h => by
    obtain ⟨n1, k1, xs, ps', n2, k2, ys, qs', rfl, rfl⟩ : ∃ n1 k1 xs ps' n2 k2 ys qs', ps = .ch n1 k1 xs :: ps' ∧ qs = .ch n2 k2 ys :: qs' := by
      unfold eqPs at h
      split at h
      · rename_i he; cases he
      · rename_i he; cases he
      · rename_i he; cases he
      · rename_i he; cases he
      · exact ⟨_, _, _, _, _, _, _, _, rfl, rfl⟩
      · cases h
    simp only [eqPs] at h
    split at h
    · rename_i hk1
      split at h
      · rename_i hk2
        split at h
        · rename_i hn1
          split at h
          · rename_i hn2
            split at h
            · rename_i b' hb
              obtain rfl := Option.some.inj h
              subst hk1; subst hk2
              obtain ⟨z1, rfl, g1, -, g2⟩ := denC_ch.1 h1
              obtain ⟨z2, rfl, g3, -, g4⟩ := denC_ch.1 h2
              exact ⟨_, _, _, _, _, rfl, rfl, g1.trans hn1, g3.trans hn2, eqPs_sound g2 g4 hb, rfl⟩
            · cases h
          · cases h
        · cases h
      · cases h
    · cases h

section
variable {P : Program} {w : World}

/-- The value of so many cells of a type. -/
def valOf (P : Program) (t : TypeId) (us : List Value) : Value := if agOf P t = true then .agg us.toArray else (us[0]?.getD undef)

theorem agOf_agg {t : TypeId} {d : TypeDesc} (hu : P.underlying t = some d) : agOf P t = aggD d := by simp [agOf, hu]

theorem isAgg_at {t : TypeId} {d : TypeDesc} (hu : P.underlying t = some d) : (isAgg t).run P w = .ok (agOf P t) w := by
  simp only [isAgg, Sem.run_bind, underlying_run w hu, Result.andThen_ok, agOf, hu]
  cases d <;> rfl

theorem part_val {t : TypeId} {d : TypeDesc} (hu : P.underlying t = some d) {us a b : List Value} {off : Nat} (hc : P.cellsOf t ≠ 0) (ha : a.length = off) (hl : us.length = P.cellsOf t) :
    (part t (a ++ (us ++ b)).toArray off).run P w = .ok (valOf P t us) w := by
  simp only [part, Sem.run_bind, isAgg_at hu, Result.andThen_ok, Sem.run_ite, sizeOf_pos w rfl hc, Sem.run_pure, valOf]
  split
  · congr 2
    apply Array.ext'
    simp [List.extract_eq_take_drop, List.drop_append, List.drop_of_length_le (Nat.le_of_eq ha), ← ha, ← hl, List.take_append]
  · have h0 : 0 < us.length := by omega
    have : ((a ++ (us ++ b)).toArray)[off]? = some us[0] := by
      simp only [List.getElem?_toArray]
      rw [List.getElem?_append_right (by omega), ha, Nat.sub_self, List.getElem?_append_left h0, List.getElem?_eq_getElem h0]
    rw [this, List.getElem?_eq_getElem h0]
    rfl

theorem eqItems_run (d : Nat) {e : TypeId} {k : IntKind} (hu : P.underlying e = some (.int k)) (hc : P.cellsOf e = 1) {xs ys : List Int} (hl : xs.length = ys.length) : ∀ (m i : Nat), i + m = xs.length →
    (Op.eqItems (d + 1) e (P.cellsOf e) (xs.map (.int k)).toArray (ys.map (.int k)).toArray (List.range' i m)).run P w = .ok (decide (xs.drop i = ys.drop i)) w
  | 0, i, h => by
    rw [List.drop_of_length_le (by omega), List.drop_of_length_le (by omega)]
    simp [Op.eqItems]
  | m + 1, i, h => by
    have hi : i < xs.length := by omega
    have hj : i < ys.length := by omega
    have pr : ∀ (zs : List Int) (hz : i < zs.length), (part e (zs.map (Value.int k)).toArray (i * P.cellsOf e)).run P w = .ok (.int k zs[i]) w := by
      intro zs hz
      simp only [part, Sem.run_bind, isAgg_at hu, Result.andThen_ok, agOf, hu, aggD, hc]
      simp [hz]
    rw [List.range'_succ]
    simp only [Op.eqItems, Sem.run_bind, pr xs hi, pr ys hj, Result.andThen_ok, run_equalIn_int w d e k k _ _ hu]
    have ih := eqItems_run d hu hc hl m (i + 1) (by omega)
    have e1 := List.drop_eq_getElem_cons hi
    have e2 := List.drop_eq_getElem_cons hj
    have e3 : decide (xs.drop i = ys.drop i) = (decide (xs[i] = ys[i]) && decide (xs.drop (i + 1) = ys.drop (i + 1))) := by
      rw [e1, e2]
      simp only [List.cons.injEq, Bool.decide_and]
    rw [e3]
    by_cases he : xs[i] = ys[i]
    · have : (xs[i] == ys[i]) = true := by simpa using he
      simp only [this, Bool.not_true, Bool.false_eq_true, if_false, ih]
      congr 1
      simp [he]
    · have : (xs[i] == ys[i]) = false := by simpa using he
      simp only [this, Bool.not_false, if_true, Sem.run_pure]
      congr 1
      simp [he]

/-- Pieces are held against each other as the model does. -/
theorem eq_run : ∀ (d : Nat) {t : TypeId} {L : List Lf} {us vs : List Value} {b : Bool}, eqLf P d t = some L → EqRes L us vs b → ∀ (m : Nat) (w : World), (Op.equalIn (m + (d + 1)) t (valOf P t us) (valOf P t vs)).run P w = .ok b w
  | 0, t, L, us, vs, b, hL, _, _, _ => by simp [eqLf] at hL
  | d + 1, t, L, us, vs, b, hL, h, m, w => by
    simp only [eqLf] at hL
    split at hL
    · rename_i k hu
      obtain rfl := Option.some.inj hL
      obtain ⟨x, y, u, v, b', rfl, rfl, ⟨rfl, rfl, rfl⟩, rfl⟩ := h
      simp only [valOf, agOf, hu, aggD, Bool.false_eq_true, if_false, List.getElem?_cons_zero, Option.getD_some, Bool.and_true]
      exact run_equalIn_int w _ t k k x y hu
    · rename_i hu
      obtain rfl := Option.some.inj hL
      obtain ⟨x, y, u, v, b', rfl, rfl, ⟨rfl, rfl, rfl⟩, rfl⟩ := h
      simp only [valOf, agOf, hu, aggD, Bool.false_eq_true, if_false, List.getElem?_cons_zero, Option.getD_some, Bool.and_true]
      exact run_equalIn_string w _ t x y hu
    · rename_i hu
      obtain rfl := Option.some.inj hL
      obtain ⟨x, y, u, v, b', rfl, rfl, ⟨rfl, rfl, rfl⟩, rfl⟩ := h
      simp only [valOf, agOf, hu, aggD, Bool.false_eq_true, if_false, List.getElem?_cons_zero, Option.getD_some, Bool.and_true]
      exact run_equalIn_bool' w _ t x y hu
    · rename_i n e hu
      split at hL
      · rename_i k he
        split at hL
        · rename_i hc
          obtain rfl := Option.some.inj hL
          obtain ⟨xs, ys, u, v, b', rfl, rfl, h1, h2, ⟨rfl, rfl, rfl⟩, rfl⟩ := h
          have hi : ∃ i, P.info? e = some i := by
            unfold Program.cellsOf at hc
            cases hi : P.info? e with
            | none => simp [hi] at hc
            | some i => exact ⟨i, rfl⟩
          obtain ⟨i, hi⟩ := hi
          simp only [valOf, agOf, hu, aggD, if_true, List.append_nil, Bool.and_true]
          rw [show m + (d + 1 + 1) = (m + d + 1) + 1 by omega, run_equalIn_array w _ _ _ hu hi, List.range_eq_range']
          have := eqItems_run (w := w) (m + d) he hc (h1.trans h2.symm) n 0 (by omega)
          simpa using this
        · cases hL
      · cases hL
    · rename_i fs hu
      split at hL
      · cases hL
      · rename_i hst
        have hst : P.stoodInHeld t = false := by simpa using hst
        have hf : P.fieldsOf t = fs := by simp [Program.fieldsOf, hu]
        simp only [valOf, agOf, hu, aggD, if_true]
        rw [show m + (d + 1 + 1) = (m + (d + 1)) + 1 by omega, run_equalIn_struct w _ t _ _ (by rw [hf]; exact hu) hst, hf]
        -- the fields, one behind the other
        have fields : ∀ (l : List Field) (o : Nat) (L : List Lf) (us vs pre pre' : List Value) (b : Bool), eqFs P (eqLf P d) l o = some L → EqRes L us vs b → pre.length = o → pre'.length = o →
            (Op.eqFields (m + (d + 1)) (pre ++ us).toArray (pre' ++ vs).toArray l).run P w = .ok b w := by
          intro l
          induction l with
          | nil =>
            intro o L us vs pre pre' b hL h _ _
            simp only [eqFs, Option.some.injEq] at hL
            subst hL
            obtain ⟨-, -, rfl⟩ := h
            simp [Op.eqFields]
          | cons f l ih =>
            intro o L us vs pre pre' b hL h hp hp'
            simp only [eqFs] at hL
            split at hL
            · rename_i hn
              obtain ⟨hn, ho⟩ := hn
              split at hL
              · rename_i L1 hL1
                split at hL
                · rename_i hw
                  obtain ⟨hw, hc⟩ := hw
                  split at hL
                  · rename_i L2 hL2
                    obtain rfl := Option.some.inj hL
                    obtain ⟨u1, u2, v1, v2, b1, b2, rfl, rfl, rfl, g1, g2⟩ := h.split
                    obtain ⟨e1, e2⟩ := g1.len
                    have hd : ∃ dd, P.underlying f.type = some dd := by
                      cases d with
                      | zero => simp [eqLf] at hL1
                      | succ d =>
                        simp only [eqLf] at hL1
                        cases hq : P.underlying f.type with
                        | none => simp [hq] at hL1
                        | some dd => exact ⟨dd, rfl⟩
                    obtain ⟨dd, hdd⟩ := hd
                    have p1 := part_val (w := w) hdd (us := u1) (a := pre) (b := u2) (off := f.offset) hc (by omega) (by omega)
                    have p2 := part_val (w := w) hdd (us := v1) (a := pre') (b := v2) (off := f.offset) hc (by omega) (by omega)
                    simp only [Op.eqFields, hn, ne_eq, not_false_eq_true, if_true, Sem.run_bind, p1, p2, Result.andThen_ok, eq_run d hL1 g1 m w]
                    have := ih (o + P.cellsOf f.type) L2 u2 v2 (pre ++ u1) (pre' ++ v1) b2 hL2 g2 (by simp; omega) (by simp; omega)
                    simp only [List.append_assoc] at this
                    cases b1
                    · simp
                    · simp [this]
                  · cases hL
                · cases hL
              · cases hL
            · cases hL
        have := fields fs.toList 0 L us vs [] [] b hL h rfl rfl
        simpa using this
    · cases hL

end

end Go.SY
