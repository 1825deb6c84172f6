/-
  The symbolic machine: the operations are sound.
-/
import Derived.Test.YtconldbakjfbhaaSx6
set_option linter.unusedSimpArgs false
set_option linter.unusedVariables false
namespace Go.SX
open Go

section
variable {P : Program} {β : Env} {n : Nat} {tm : List (Nat × AV)} {bl bl' : Bls} {a : Act} {w : World} {o : Oper} {vc : Prop} {r : AV}

theorem den_int {k : IntKind} {z : Int} {y : Value} (h : Den β (.v (.int k z)) y) : y = .int k z := by simp only [Den] at h; exact h.1

theorem binOp_exec {op : BinOp} {t u : TypeId} {x y : Operand} {v : Value} (hop : o.op = .binOp op t x y u) (h1 : one (a.eval x) = true) (h2 : a.eval x ≠ .nilIface)
    (h : (binOp op t (a.eval x) (a.eval y)).run P w = .ok v w) : (execOp a.eval o).run P w = .ok (.value v) w := by
  unfold execOp
  simp only [hop, Sem.run_bind, eqGuard_run h1 h2, Result.andThen_ok, h, Sem.run_pure]

theorem equal_unfold (t : TypeId) (x y : Value) : Op.equal t x y = Op.equalIn (9999 + 1) t x y := rfl

theorem equalIn_bool {t : TypeId} (hu : P.underlying t = some .bool) (m : Nat) (x y : Bool) : (Op.equalIn (m + 1) t (.bool x) (.bool y)).run P w = .ok (x == y) w := by
  simp only [Op.equalIn, Sem.run_bind, underlying_run w hu, Result.andThen_ok, Sem.run_pure]

theorem equalIn_nil1 {t e : TypeId} (hu : P.underlying t = some (.pointer e)) (m : Nat) (p : Option Addr) : (Op.equalIn (m + 1) t (.pointer none) (.pointer p)).run P w = .ok p.isNone w := by
  simp only [Op.equalIn, Sem.run_bind, underlying_run w hu, Result.andThen_ok, Sem.run_pure]

theorem equalIn_nil2 {t e : TypeId} (hu : P.underlying t = some (.pointer e)) (m : Nat) (p : Option Addr) : (Op.equalIn (m + 1) t (.pointer p) (.pointer none)).run P w = .ok p.isNone w := by
  cases p <;> simp only [Op.equalIn, Sem.run_bind, underlying_run w hu, Result.andThen_ok, Sem.run_pure] <;> rfl

theorem bop_sound {op : BinOp} {t : TypeId} {T : TI} {p q : AV} {x y : Value} (ht : ti P t = some T) (h : bop op T.kd p q = some (vc, r)) (hv : vc) (hp : Den β p x) (hq : Den β q y) :
    one x = true ∧ x ≠ .nilIface ∧ ∃ v, (∀ w : World, (binOp op t x y).run P w = .ok v w) ∧ Den β r v := by
  obtain ⟨i, d, hi, hu, -, -, -, hkd, -⟩ := ti_spec ht
  have hptr : ∀ (b : Bool) (x y : Value), bopNil op T.kd b = some (vc, r) →
      (∀ e, d = .pointer e → ∀ w : World, (Op.equalIn (9999 + 1) t x y).run P w = .ok b w) →
      (binOp .eql t x y = do pure (.bool (← Op.equal t x y))) → (binOp .neq t x y = do pure (.bool (!(← Op.equal t x y)))) →
      ∃ v, (∀ w : World, (binOp op t x y).run P w = .ok v w) ∧ Den β r v := by
    intro b x y hb he e1 e2
    unfold bopNil at hb
    split at hb
    · rename_i e hK
      obtain ⟨rfl, rfl⟩ := Prod.mk.inj (Option.some.inj hb)
      have hd : d = .pointer e := kdOf_ptr (hkd ▸ hK)
      exact ⟨.bool b, fun w => by rw [e1, equal_unfold]; simp only [Sem.run_bind, he e hd, Result.andThen_ok, Sem.run_pure], by simp [Den, one]⟩
    · rename_i e hK
      obtain ⟨rfl, rfl⟩ := Prod.mk.inj (Option.some.inj hb)
      have hd : d = .pointer e := kdOf_ptr (hkd ▸ hK)
      exact ⟨.bool !b, fun w => by rw [e2, equal_unfold]; simp only [Sem.run_bind, he e hd, Result.andThen_ok, Sem.run_pure], by simp [Den, one]⟩
    · cases hb
  unfold bop at h
  split at h
  · rename_i k x' k' y'
    obtain rfl := den_int hp
    obtain rfl := den_int hq
    refine ⟨rfl, by simp, ?_⟩
    split at h
    · obtain ⟨rfl, rfl⟩ := Prod.mk.inj (Option.some.inj h)
      have : ¬ y' < 0 := by omega
      exact ⟨_, fun w => by simp only [binOp, Op.shift, this, if_false]; rfl, by simp [Den, one]⟩
    · obtain ⟨rfl, rfl⟩ := Prod.mk.inj (Option.some.inj h)
      have : ¬ y' < 0 := by omega
      exact ⟨_, fun w => by simp only [binOp, Op.shift, this, if_false]; rfl, by simp [Den, one]⟩
    · rename_i n1 n2
      split at h
      · rename_i e
        subst e
        exact bopInt_sound ⟨n1, n2⟩ h hv
      · cases h
  · rename_i x' y'
    simp only [Den] at hp hq
    obtain ⟨rfl, -⟩ := hp
    obtain ⟨rfl, -⟩ := hq
    refine ⟨rfl, by simp, ?_⟩
    unfold bopStr at h
    split at h
    · obtain ⟨rfl, rfl⟩ := Prod.mk.inj (Option.some.inj h)
      exact ⟨_, fun w => by simp only [binOp, Op.stringOp]; rfl, by simp [Den, one]⟩
    · obtain ⟨rfl, rfl⟩ := Prod.mk.inj (Option.some.inj h)
      exact ⟨_, fun w => by simp only [binOp, Op.stringOp]; rfl, by simp [Den, one]⟩
    · obtain ⟨rfl, rfl⟩ := Prod.mk.inj (Option.some.inj h)
      have : ¬ (((x'.size + y'.size : Nat) : Int) > IntKind.i64.max) := by
        have e : IntKind.i64.max = 9223372036854775807 := by decide
        rw [e]; omega
      exact ⟨_, fun w => by simp only [binOp, Op.stringOp, this, if_false]; rfl, by simp [Den, one]⟩
    · cases h
  · rename_i x' y'
    simp only [Den] at hp hq
    obtain ⟨rfl, -⟩ := hp
    obtain ⟨rfl, -⟩ := hq
    refine ⟨rfl, by simp, ?_⟩
    unfold bopBool at h
    have hd : ∀ {op' : BinOp}, T.kd = .bool → d = .bool := fun {_} hK => kdOf_bool (hkd ▸ hK)
    split at h
    · rename_i hK
      obtain ⟨rfl, rfl⟩ := Prod.mk.inj (Option.some.inj h)
      have hd := hd (op' := .eql) hK
      subst hd
      exact ⟨.bool (x' == y'), fun w => by show (do pure (Value.bool (← Op.equal t _ _)) : Sem Value).run P w = _; rw [equal_unfold]; simp only [Sem.run_bind, equalIn_bool hu, Result.andThen_ok, Sem.run_pure], by simp [Den, one]⟩
    · rename_i hK
      obtain ⟨rfl, rfl⟩ := Prod.mk.inj (Option.some.inj h)
      have hd := hd (op' := .eql) hK
      subst hd
      exact ⟨.bool !(x' == y'), fun w => by show (do pure (Value.bool (!(← Op.equal t _ _))) : Sem Value).run P w = _; rw [equal_unfold]; simp only [Sem.run_bind, equalIn_bool hu, Result.andThen_ok, Sem.run_pure], by simp [Den, one]⟩
    · cases h
  · simp only [Den] at hp hq
    obtain ⟨b, o, -, rfl⟩ := hp
    obtain ⟨rfl, -⟩ := hq
    refine ⟨rfl, by simp, hptr false _ _ h (fun e he w => ?_) rfl rfl⟩
    subst he
    exact equalIn_nil2 hu _ _
  · simp only [Den] at hp hq
    obtain ⟨b, o, -, rfl⟩ := hq
    obtain ⟨rfl, -⟩ := hp
    refine ⟨rfl, by simp, hptr false _ _ h (fun e he w => ?_) rfl rfl⟩
    subst he
    exact equalIn_nil1 hu _ _
  · rename_i p'
    simp only [Den] at hp hq
    obtain ⟨rfl, -⟩ := hp
    obtain ⟨rfl, -⟩ := hq
    refine ⟨rfl, by simp, hptr p'.isNone _ _ h (fun e he w => ?_) (by cases p' <;> rfl) (by cases p' <;> rfl)⟩
    subst he
    exact equalIn_nil2 hu _ _
  · cases h

theorem fillA_sound {pl : Nat → Option (Nat × Nat)} : ∀ {parts : List (Nat × Operand)} {cs r : List AV} {ys : List Value}, TmOk β n tm a → DenC β cs ys →
    fillA pl cs (parts.map fun p => (p.1, ev tm p.2)) = some r → ∃ zs, DenC β r zs ∧ zs.length = ys.length ∧
      Instr.fill pl ys.toArray (parts.map fun p => (p.1, a.eval p.2)) = some zs.toArray
  | [], cs, r, ys, _, hd, h => by
    simp only [List.map_nil, fillA, Option.some.injEq] at h
    subst h
    exact ⟨ys, hd, rfl, rfl⟩
  | (i, x) :: parts, cs, r, ys, htm, hd, h => by
    simp only [List.map_cons, fillA] at h
    split at h
    · cases h
    · rename_i o s hpl
      split at h
      · cases h
      · rename_i f hf
        split at h
        · cases h
        · rename_i c1 h1
          split at h
          · cases h
          · rename_i c2 h2
            obtain ⟨hf1, hf2⟩ := den_flat (den_ev htm x) hf
            obtain ⟨g1, g2⟩ := denC_tk hd h1
            obtain ⟨g3, g4⟩ := denC_dr hd h2
            have hnew := denC_append g2 (denC_append hf1 g4)
            obtain ⟨zs, hz1, hz2, hz3⟩ := fillA_sound (pl := pl) htm hnew h
            have hlen : (ys.take o ++ ((a.eval x).cells.toList ++ ys.drop (o + s))).length = ys.length := by simp; simp at hf2; omega
            refine ⟨zs, hz1, hz2.trans hlen, ?_⟩
            simp only [List.map_cons, Instr.fill, hpl]
            have hs : (a.eval x).cells.size = s := by simpa using hf2
            rw [if_neg (by simp [hs]; simpa using g3)]
            rw [← hz3]
            congr 1
            -- the fold lays the cells at their place
            have fold : ∀ (l : List Value) (k : Nat) (cur : List Value), o + k + l.length ≤ cur.length →
                ((l.zipIdx k).foldl (fun (cs : Array Value) (x : Value × Nat) => cs.setIfInBounds (o + x.2) x.1) cur.toArray) = (cur.take (o + k) ++ (l ++ cur.drop (o + k + l.length))).toArray := by
              intro l
              induction l with
              | nil => intro k cur _; simp
              | cons v l ih =>
                intro k cur hk
                simp only [List.length_cons] at hk
                simp only [List.zipIdx_cons, List.foldl_cons, List.setIfInBounds_toArray]
                rw [ih (k + 1) _ (by simp; omega)]
                congr 1
                rw [List.set_eq_take_append_cons_drop, if_pos (by omega)]
                have e : (cur.take (o + k)).length = o + k := by simp; omega
                rw [show o + (k + 1) = (cur.take (o + k)).length + 1 by omega, List.take_length_add_append, show (cur.take (o + k)).length + 1 + l.length = (cur.take (o + k)).length + (1 + l.length) by omega, List.drop_length_add_append]
                simp only [List.take_succ_cons, List.take_zero, List.length_cons, e]
                rw [show 1 + l.length = l.length + 1 by omega, List.drop_succ_cons, List.drop_drop]
                simp only [List.append_assoc, List.cons_append, List.nil_append]
                congr 4
                omega
            have := fold (a.eval x).cells.toList 0 ys (by simp [hs]; simpa using g3)
            simp only [Nat.add_zero, Array.length_toList, hs] at this
            rw [← this, ← Array.foldl_toList, Array.toList_zipIdx]

theorem rep_sound {cs : List AV} {z : List Value} (h : DenC β cs z) : ∀ k : Nat, DenC β (rep k cs) (List.replicate k z).flatten
  | 0 => by simp [rep, DenC]
  | k + 1 => by simp only [rep, List.replicate_succ, List.flatten_cons]; exact denC_append h (rep_sound h k)

theorem rows_zero (z : List Value) (k : Nat) (hz : 0 < z.length) : ((Array.range (k * z.length)).map fun j => z.toArray[j % z.toArray.size]!) = (List.replicate k z).flatten.toArray := by
  apply Array.ext'
  simp only [Array.toList_map, Array.toList_range]
  apply List.ext_getElem?
  intro j
  rw [List.getElem?_map]
  have hrl : ∀ r ∈ List.replicate k z, r.length = z.length := fun r hr => by rw [List.eq_of_mem_replicate hr]
  by_cases hj : j < k * z.length
  · rw [List.getElem?_range hj]
    have hi : j / z.length < k := Nat.div_lt_of_lt_mul (by rwa [Nat.mul_comm])
    have e := flatten_get hrl (i := j / z.length) (k := j % z.length) (by simpa using hi) (Nat.mod_lt _ hz)
    have e0 : j / z.length * z.length + j % z.length = j := by rw [Nat.mul_comm]; exact Nat.div_add_mod j z.length
    rw [e0] at e
    rw [e]
    have hm : j % z.length < z.length := Nat.mod_lt _ hz
    simp [hi, hm]
  · rw [List.getElem?_eq_none (by simpa using hj), List.getElem?_eq_none (by rw [flatten_len hrl]; simpa using hj)]
    rfl

end

end Go.SX
