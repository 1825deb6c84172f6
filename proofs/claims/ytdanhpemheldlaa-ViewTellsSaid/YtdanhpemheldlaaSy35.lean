/-
  The symbolic machine: slices.overlaps.
-/
import Derived.Test.YtdanhpemheldlaaSy34
set_option linter.unusedSimpArgs false
set_option linter.unusedVariables false
namespace Go.SY
open Go
theorem shape_cells {w : World} {b : Nat} {cs : Array Value} {T : TypeId} {fz : Nat × Nat} (h : w.heap[b]? = some (.cells cs T fz)) : w.shape? b = some (T, cs.size) := by simp [World.shape?, h]
theorem frozen_off {w : World} {b o : Nat} {cs : Array Value} {T : TypeId} {fz : Nat × Nat} (h : w.heap[b]? = some (.cells cs T fz)) (hf : fz.1 = fz.2) : w.frozen? ⟨b, o, none⟩ = false := by
  obtain ⟨lo, hi⟩ := fz
  simp only at hf
  subst hf
  simp [World.frozen?, h]
theorem overlaps_run {P : Program} {w : World} {t e : TypeId} {size : Nat} {ts rs : Array TypeId} (ht : ts[0]? = some t) (hut : P.underlying t = some (.slice e)) (hcz : P.cellsOf e = size) (h0 : size ≠ 0) {a b oa ob la lb qa qb : Nat} (hne : a ≠ b) {ca cb : Array Value} {Ta Tb : TypeId} {fa fb : Nat × Nat}
    (ha : la ≠ 0 → w.heap[a]? = some (.cells ca Ta fa) ∧ ca.size ≠ 0) (hb : w.heap[b]? = some (.cells cb Tb fb)) (hfb : fb.1 = fb.2) :
    (Extern.SlicesOverlaps.overlaps ts rs #[.slice (some ⟨a, oa, none⟩) la qa, .slice (some ⟨b, ob, none⟩) lb qb]).run P w = .ok (.bool false) w := by
  delta Extern.SlicesOverlaps.overlaps
  conv => lhs; arg 2; whnf
  simp only [ht]
  by_cases hl : la = 0
  · simp [underlying_run w hut, sizeOf_pos w hcz h0, hl]
  obtain ⟨ha, hs⟩ := ha hl
  have hbe : (a == b) = false := by simpa using hne
  have h1 := shape_cells ha
  have h2 := shape_cells hb
  have h3 : ∀ o, w.frozen? ⟨b, o, none⟩ = false := fun o => frozen_off hb hfb
  by_cases hl2 : lb = 0
  · simp [underlying_run w hut, sizeOf_pos w hcz h0, hl2]
  have r1 : ∀ x : Addr, Sem.run P (Sem.frozen x Sem.pure) w = .ok (w.frozen? x) w := fun _ => rfl
  have r2 : ∀ x : Nat, Sem.run P (Sem.shape x Sem.pure) w = .ok (w.shape? x) w := fun _ => rfl
  obtain ⟨m, hm⟩ : ∃ m, ca.size = m + 1 := ⟨ca.size - 1, by omega⟩
  rw [hm] at h1
  simp [underlying_run w hut, sizeOf_pos w hcz h0, hl, hl2, h0, hbe, hne, frozen, h3, noView, viewAt, shape, h1, h2, mayBeOne, stringish, r1, r2]

/-- How wide the parts of a block are that bears no marks. -/
def rwz : Ct → Option Nat
  | .rows w _ => some w
  | .num k _ => (match k with
    | .u8 => none
    | _ => some 1)
  | _ => none
theorem rwz_spz {c : Ct} {n : Nat} (h : rwz c = some n) : spz c = true ∧ c.cell = true := by
  unfold rwz at h
  split at h
  · exact ⟨rfl, rfl⟩
  · rename_i k xs
    cases k <;> simp at h <;> exact ⟨rfl, rfl⟩
  · cases h
/-- Two slices that do not overlap: the second one's parts are one's own, the first one lies elsewhere. -/
def ovlK (args : List AV) (bl : Bls) : Option (Bool × AV × Bls) := match args with
  | [a, .sl l _ w n _] => (match lvl bl l with
    | some cb => (match rwz cb with
      | some w2 => if w = w2 ∧ w ≠ 0 then (match a with
        | .nil => some (true, .v (.bool false), bl)
        | .imr _ w' _ _ => if w' = w then some (true, .v (.bool false), bl) else none
        | .imn _ _ _ _ => some (true, .v (.bool false), bl)
        | .sl l' _ w' _ _ => if l' = l then none else (match lvl bl l' with
          | some ca => if ca.cell = true ∧ w' = w then some (true, .v (.bool false), bl) else none
          | _ => none)
        | _ => none) else none
      | none => none)
    | none => none)
  | _ => none

theorem ovl_ok {P : Program} {g : FuncId} {fn : Func} {t e : TypeId} {size : Nat} (hf : P.funcs[g]? = some fn) (hn : (fn.name == "runtime.NumGoroutine") = false) (hb : fn.body = none) (h1 : Extern.findNext fn = none) (h2 : Extern.find fn = some (Extern.SlicesOverlaps.overlaps fn.params fn.resultTypes))
    (ht : fn.params[0]? = some t) (hut : P.underlying t = some (.slice e)) (hcz : P.cellsOf e = size) (h0 : size ≠ 0) : ExtOk P g ovlK := by
  intro args bl r bl' hx
  unfold ovlK at hx
  split at hx
  · rename_i a l i w2 n c
    split at hx
    · rename_i cb hl
      split at hx
      rotate_left
      · cases hx
      rename_i w3 hrw
      obtain ⟨hspz, hcellb⟩ := rwz_spz hrw
      split at hx
      · rename_i hw
        obtain ⟨rfl, hw0⟩ := hw
        have fin : ∀ {β : Env} {w : World} {va vb : Value}, (Extern.SlicesOverlaps.overlaps fn.params fn.resultTypes #[va, vb]).run P w = .ok (.bool false) w → ∃ y, Den β (.v (.bool false)) y ∧ (callFunc g #[va, vb]).run P w = .ok (.value y) w := fun h => ⟨.bool false, by simp [Den, one, wfV], extern_run hf hn hb h1 h2 _ h⟩
        have nilc : ∀ {w : World} {la qa : Nat} {vb : Option Addr} {lb qb : Nat}, (Extern.SlicesOverlaps.overlaps fn.params fn.resultTypes #[.slice none la qa, .slice vb lb qb]).run P w = .ok (.bool false) w := fun {w la qa vb lb qb} => by
          delta Extern.SlicesOverlaps.overlaps
          conv => lhs; arg 2; whnf
          simp only [ht]
          simp [underlying_run w hut, sizeOf_pos w hcz h0]
        have nilc2 : ∀ {w : World} {la qa : Nat} {va : Option Addr} {lb qb : Nat}, (Extern.SlicesOverlaps.overlaps fn.params fn.resultTypes #[.slice va la qa, .slice none lb qb]).run P w = .ok (.bool false) w := fun {w la qa va lb qb} => by
          delta Extern.SlicesOverlaps.overlaps
          conv => lhs; arg 2; whnf
          simp only [ht]
          cases va <;> simp [underlying_run w hut, sizeOf_pos w hcz h0]
        have early : ∀ {w : World} {A B : Option Addr} {la qa lb qb : Nat}, la = 0 ∨ lb = 0 → (Extern.SlicesOverlaps.overlaps fn.params fn.resultTypes #[.slice A la qa, .slice B lb qb]).run P w = .ok (.bool false) w := fun {w A B la qa lb qb} h => by
          delta Extern.SlicesOverlaps.overlaps
          conv => lhs; arg 2; whnf
          simp only [ht]
          have h' : la = 0 ∨ lb = 0 ∨ size = 0 := by omega
          cases A <;> cases B <;> simp [underlying_run w hut, sizeOf_pos w hcz h0, h']
        -- with a first one that lies elsewhere
        have core : ∀ {β : Env} {w : World} {va vb : Value} {A : Option Addr} {la qa : Nat}, Heap β bl w → va = .slice A la qa → Den β (.sl l i w2 n c) vb → la ≤ qa →
            (qa ≠ 0 → ∃ b o, A = some ⟨b, o, none⟩ ∧ (∀ s, β.b[l]? ≠ some (some (b, s))) ∧ (la ≠ 0 → ∃ cs T fz, w.heap[b]? = some (.cells cs T fz) ∧ cs.size ≠ 0)) →
            (Extern.SlicesOverlaps.overlaps fn.params fn.resultTypes #[va, vb]).run P w = .ok (.bool false) w := by
          intro β w va vb A la qa hh hva hvb hla hA
          subst hva
          simp only [Den] at hvb
          obtain ⟨B, q, rfl, k1, k2, k3, k4⟩ := hvb
          cases A with
          | none => exact nilc
          | some A =>
            cases B with
            | none => exact nilc2
            | some B =>
              by_cases hq : q = 0
              · exact early (.inr (by omega))
              · by_cases hqa : qa = 0
                · exact early (.inl (by omega))
                · obtain ⟨b, s, hb1, hb2, hb3⟩ := k4 hq
                  obtain ⟨a', o', ha1, ha2, ha3⟩ := hA hqa
                  obtain rfl := Option.some.inj hb2
                  obtain rfl := Option.some.inj ha1
                  obtain ⟨ys, sp, T, fz, hg, hs, hc, hsp, hfz⟩ := heap_cells hh hl hb1 hcellb
                  have hne : a' ≠ b := fun e => ha2 s (by rw [e]; exact hb1)
                  by_cases hla0 : la = 0
                  · subst hla0
                    exact overlaps_run (ca := #[]) (Ta := 0) (fa := (0, 0)) ht hut hcz h0 hne (fun h => absurd rfl h) hg (hfz.2.2 hspz)
                  · obtain ⟨cs, T', fz', e1, e2⟩ := ha3 hla0
                    exact overlaps_run ht hut hcz h0 hne (fun _ => ⟨e1, e2⟩) hg (hfz.2.2 hspz)
        have go : ∀ {vc : Bool} (hq : some (vc, AV.v (.bool false), bl) = some (true, r, bl')), (∀ (β : Env) (w : World) (va vb : Value), Heap β bl w → Den β a va → Den β (.sl l i w2 n c) vb → (Extern.SlicesOverlaps.overlaps fn.params fn.resultTypes #[va, vb]).run P w = .ok (.bool false) w) →
            bl' = bl ∧ ∀ (β : Env) (w : World) (vs : List Value), Heap β bl w → DenL β [a, .sl l i w2 n c] vs → ∃ y, Den β r y ∧ (callFunc g vs.toArray).run P w = .ok (.value y) w := by
          intro vc hq h
          simp only [Option.some.injEq, Prod.mk.injEq] at hq
          obtain ⟨-, rfl, rfl⟩ := hq
          refine ⟨rfl, fun β w vs hh hd => ?_⟩
          simp only [DenL] at hd
          obtain ⟨va, z1, rfl, d1, vb, z2, rfl, d2, rfl⟩ := hd
          exact fin (h β w va vb hh d1 d2)
        split at hx
        · refine go hx fun β w va vb hh d1 d2 => ?_
          simp only [Den] at d1
          exact core hh d1 d2 (Nat.le_refl _) (fun h => absurd rfl h)
        · rename_i t' w' rs' c'
          split at hx
          · rename_i hw'
            subst hw'
            refine go hx fun β w va vb hh d1 d2 => ?_
            simp only [Den] at d1
            obtain ⟨A, q, ys, rfl, k1, k2, k3, k4, k5⟩ := d1
            refine core hh rfl d2 k1 fun hq => ?_
            obtain ⟨b, o, hA, cs, hz, hcs⟩ := k5 hq
            obtain ⟨⟨T, fz, hg⟩, hno⟩ := hh.frz t' b cs hz
            refine ⟨b, o, hA, fun s hs => hno ⟨l, _, s, lvl_get hl, hs⟩, fun hla => ⟨cs, T, fz, hg, fun he => ?_⟩⟩
            have hyl := denR_len k4
            have hpos : 0 < ys.length := by rw [hyl]; exact Nat.mul_pos (by omega) (by omega)
            have := hcs 0 ys[0] (List.getElem?_eq_getElem hpos)
            have := (Array.getElem?_eq_some_iff.1 this).1
            omega
          · cases hx
        · rename_i t' k' xs' c'
          refine go hx fun β w va vb hh d1 d2 => ?_
          simp only [Den] at d1
          obtain ⟨A, q, rfl, k1, k2, k3, k4, k5⟩ := d1
          refine core hh rfl d2 k1 fun hq => ?_
          obtain ⟨b, o, hA, cs, hz, hcs⟩ := k5 hq
          obtain ⟨⟨T, fz, hg⟩, hno⟩ := hh.frz t' b cs hz
          refine ⟨b, o, hA, fun s hs => hno ⟨l, _, s, lvl_get hl, hs⟩, fun hla => ⟨cs, T, fz, hg, fun he => ?_⟩⟩
          have hpos : 0 < (xs'.map (Value.int k')).length := by simp; omega
          have := hcs 0 _ (List.getElem?_eq_getElem hpos)
          have := (Array.getElem?_eq_some_iff.1 this).1
          omega
        · rename_i l' i' w' n' c'
          split at hx
          · cases hx
          · rename_i hll
            split at hx
            · rename_i ca hl'
              split at hx
              · rename_i hww
                obtain ⟨hca, hww⟩ := hww
                refine go hx fun β w va vb hh d1 d2 => ?_
                simp only [Den] at d1
                obtain ⟨A, q, rfl, k1, k2, k3, k4⟩ := d1
                refine core hh rfl d2 k1 fun hq => ?_
                obtain ⟨b, s, hb, hA, hfit⟩ := k4 hq
                refine ⟨b, _, hA, fun s' hs' => hh.sep l' l _ _ b s s' hll (lvl_get hl') (lvl_get hl) hb hs', fun hla => ?_⟩
                obtain ⟨ys, sp, T, fz, hg, hs, -, -, -⟩ := heap_cells hh hl' hb hca
                refine ⟨_, T, fz, hg, fun he => ?_⟩
                have hs0 : s = 0 := by simp at he; simp [he] at hs; omega
                rw [hs0] at hfit
                have : 0 < (i' + q) * w' := Nat.mul_pos (by omega) (by omega)
                omega
              · cases hx
            · cases hx
        · cases hx
      · cases hx
    · cases hx
  · cases hx
/-- Words of functions without a body that look at memory, ahead of another table. -/
def ktB (L : List (FuncId × (List AV → Bls → Option (Bool × AV × Bls)))) (K : KT) : KT := fun g => match L with
  | [] => K g
  | (k, x) :: r => if k = g then some x else ktB r K g
theorem ktB_ok {P : Program} {pl : FuncId → Nat → Option Plan} {K : KT} (hK : KOk P pl K) : ∀ {L : List (FuncId × (List AV → Bls → Option (Bool × AV × Bls)))}, (∀ x ∈ L, ExtOk P x.1 x.2) → KOk P pl (ktB L K)
  | [], _ => hK
  | (k, x) :: r, h => fun g c hc => by
    simp only [ktB] at hc
    split at hc
    · rename_i e
      subst e
      obtain rfl := Option.some.inj hc
      exact .inl (h (k, x) (by simp))
    · exact ktB_ok hK (fun x hx => h x (by simp [hx])) g c hc
end Go.SY
