/-
  The symbolic machine: slices that a row hands in, with what is known of their data (for statements with a bound on the bulk).
-/
import Derived.Test.YtdoeopcimhpjaaaSy45
set_option linter.unusedSimpArgs false
set_option linter.unusedVariables false
namespace Go.SY
open Go Go.RowKit Go.ChangeShapes Go.WideShapes Go.Deep

section
variable {H : Type} {enc : TypeId × Value → H} {P : Program} {pl : FuncId → Nat → Option Plan} {W : World} {base : Nat} {held : Bool}
def AllR {R D : Type} (rel : R → D → Prop) : List R → List D → Prop
  | [], [] => True
  | r :: rs, d :: ds => rel r d ∧ AllR rel rs ds
  | _, _ => False
theorem allR_map {I R D : Type} {rel : R → D → Prop} {f : I → R} {g : I → D} : ∀ (l : List I), (∀ i ∈ l, rel (f i) (g i)) → AllR rel (l.map f) (l.map g)
  | [], _ => trivial
  | i :: l, h => ⟨h i (List.mem_cons_self ..), allR_map l fun j hj => h j (List.mem_cons_of_mem _ hj)⟩
def OneInD (enc : TypeId × Value → H) (P : Program) (pl : FuncId → Nat → Option Plan) (W : World) (base : Nat) (held : Bool) (t : TypeId) {R : Type} (g : R → AV) (good : R → Prop) (rel : R → DataW H → Prop) : Prop :=
  ∀ n v y, DataW.trod enc P W base (fun _ => true) held n t [v] = some y → ∃ r : R, Den (ice P pl W) (g r) v ∧ one v = true ∧ (g r).scal = true ∧ good r ∧ rel r y.1
def ElInD (enc : TypeId × Value → H) (P : Program) (pl : FuncId → Nat → Option Plan) (W : World) (base : Nat) (held : Bool) (e : TypeId) {R : Type} (f : R → List AV) (good : R → Prop) (rel : R → DataW H → Prop) : Prop :=
  ∀ n cs y, cs.length = P.cellsOf e → DataW.trod enc P W base (fun _ => true) held n e cs = some y → ∃ r : R, DenC (ice P pl W) (f r) cs ∧ good r ∧ rel r y.1
/-- Numbers as they are read: so many places. -/
def relN (r : List Int × Nat) (d : DataW H) : Prop := r.1 = [] ∨ ∃ as bs, d = .slice as bs ∧ r.1.length ≤ as.length
theorem one_numsD {t e : TypeId} {k : IntKind} (ht : P.underlying t = some (.slice e)) (he : P.underlying e = some (.int k)) (hc : P.cellsOf e = 1) : OneInD enc P pl W base held t (fun r : List Int × Nat => .imn false k r.1 (some r.2)) (fun r => okN k r.1 ∧ r.1.length ≤ r.2 ∧ r.2 ≤ maxLen) relN := by
  intro n v y h
  rcases open_ints ht he hc h with ⟨hcs, _⟩ | ⟨x, l, c, zs, hcs, _, hl, hm, hz, hx, hcell, hwz⟩
  · obtain rfl := (List.cons.inj hcs).1
    have hr : IsRow k W none 0 0 [] := .inl ⟨rfl, rfl, rfl, rfl⟩
    exact ⟨([], 0), by simpa using hr.den, rfl, rfl, ⟨by simp [okN], by simp, by simp⟩, .inl rfl⟩
  · obtain rfl := (List.cons.inj hcs).1
    rw [if_pos rfl] at hz
    have hr : IsRow k W (some x) l c zs := .inr ⟨x, rfl, hl, hm, hz, hcell, hwz⟩
    refine ⟨(zs.take l, c), hr.den, rfl, rfl, ⟨fun z hz' => wf_inK (hwz z (List.mem_of_mem_take hz')), ?_, hm⟩, .inr ⟨_, _, by rw [hx], ?_⟩⟩
    · simp only [List.length_take]
      omega
    · rw [lits, List.length_map]
      exact Nat.le_refl _
theorem el_oneD {t : TypeId} {R : Type} {g : R → AV} {good : R → Prop} {rel : R → DataW H → Prop} (hc : P.cellsOf t = 1) (h : OneInD enc P pl W base held t g good rel) : ElInD enc P pl W base held t (fun r => [g r]) good rel := by
  intro n cs y hl ht
  rw [hc] at hl
  match cs, hl with
  | [v], _ =>
    obtain ⟨r, h1, h2, h3, h4, h5⟩ := h n v y ht
    exact ⟨r, (denC_cons h3).2 ⟨v, [], rfl, h1, h2, by simp only [DenC]⟩, h4, h5⟩
/-- A slice that came in, of whatever elements. -/
theorem slice_inD {t e : TypeId} {R : Type} [Inhabited R] {f : R → List AV} {good : R → Prop} {rel : R → DataW H → Prop} (ht : P.underlying t = some (.slice e)) (hpos : 0 < P.cellsOf e) (hel : ElInD enc P pl W base held e f good rel)
    {a : Option Addr} {len cap : Nat} {d : DataW H} {ps : List MemPlace} (h : DataW.Trod enc P W base (fun _ => true) held t (.slice a len cap) d ps) :
    ∃ rs : List R, rs.length = len ∧ len ≤ cap ∧ cap ≤ maxLen ∧ (∀ r ∈ rs, good r) ∧ Den (ice P pl W) (.imr false (P.cellsOf e) (rs.map f) (some cap)) (.slice a len cap) ∧ (cap = 0 ∨ ∃ as bs, d = .slice as bs ∧ as.length + bs.length = cap) ∧ (rs = [] ∨ ∃ as bs, d = .slice as bs ∧ AllR rel rs as) := by
  obtain ⟨fuel, hf⟩ := h
  rcases open_slice ht hf with ⟨hcs, _⟩ | ⟨x, l, c, m, n, D, Pl, hcs, hb, hl, hm, hmm, hx, hi⟩
  · simp only [Value.cells, List.cons.injEq, Value.slice.injEq, and_true] at hcs
    obtain ⟨rfl, rfl, rfl⟩ := hcs
    refine ⟨[], rfl, Nat.le_refl _, Nat.zero_le _, (fun r hr => by cases hr), ?_, .inl rfl, .inl rfl⟩
    simp only [Den]
    exact ⟨none, 0, [], rfl, Nat.le_refl _, by decide, fun m hm => by cases hm; rfl, by simp only [List.map_nil, DenR], fun h => absurd rfl h⟩
  · simp only [Value.cells, List.cons.injEq, Value.slice.injEq, and_true] at hcs
    obtain ⟨rfl, rfl, rfl⟩ := hcs
    rw [if_pos rfl] at hmm
    subst hmm
    have hmL : maxLen = 9223372036854775807 := rfl
    have each : ∀ i, i < len → ∃ p : R × List Value, DenC (ice P pl W) (f p.1) p.2 ∧ good p.1 ∧ rel p.1 (D i) ∧ p.2.length = P.cellsOf e ∧ ∀ j, j < P.cellsOf e → W.cell? (x.add (i * P.cellsOf e + j)) = p.2[j]? := fun i hil => by
      obtain ⟨cs', h1, h2⟩ := hi i (by omega)
      obtain ⟨_, hcl, hat⟩ := World.cells?_some h1
      obtain ⟨r, h3, h4, h5⟩ := hel n cs' _ hcl h2
      refine ⟨(r, cs'), h3, h4, h5, hcl, fun j hj => ?_⟩
      rw [← Go.Deep.add_add]
      exact hat j hj
    haveI : Inhabited (R × List Value) := ⟨(default, [])⟩
    obtain ⟨q, hq⟩ := choose_lt each
    obtain ⟨hd, _⟩ := Prod.mk.inj hx
    refine ⟨(List.range len).map fun i => (q i).1, by simp, hl, hm, fun r hr => ?_, ?_, .inr ⟨_, _, hd, by simp; omega⟩, .inr ⟨_, _, hd, allR_map _ fun i hi' => (hq i (List.mem_range.1 hi')).2.2.1⟩⟩
    · obtain ⟨i, hi', rfl⟩ := List.mem_map.1 hr
      exact (hq i (List.mem_range.1 hi')).2.1
    · simp only [Den]
      refine ⟨some x, m, (List.range len).flatMap fun i => (q i).2, by simp, by simpa using hl, by omega, fun m' hm' => by cases hm'; rfl, ?_, fun h0 => ?_⟩
      · have := denR_flat (β := ice P pl W) (f := f) (c := P.cellsOf e) ((List.range len).map q) (fun p hp => by
          obtain ⟨i, hi', rfl⟩ := List.mem_map.1 hp
          have := hq i (List.mem_range.1 hi')
          exact ⟨this.1, this.2.2.2.1⟩)
        simpa only [List.map_map, List.flatMap_map, Function.comp_def] using this
      · obtain ⟨b, o, sp⟩ := x
        obtain ⟨cs0, h1, _⟩ := hi 0 (by omega)
        obtain ⟨_, hcl, hat⟩ := World.cells?_some h1
        have h00 := hat 0 hpos
        simp only [Nat.zero_mul, Addr.add, if_true] at h00
        have hsome : cs0[0]? = some (cs0[0]'(by omega)) := List.getElem?_eq_getElem (by omega)
        rw [hsome] at h00
        simp only [World.cell?] at h00
        cases hbk : W.heap[b]? with
        | none => rw [hbk] at h00; simp at h00
        | some O =>
          rw [hbk] at h00
          cases O with
          | cells cs T fz =>
            cases sp with
            | some s => simp at h00
            | none =>
              refine ⟨b, o, rfl, cs, by simp only [Env.fz, ice, hbk], fun j v hj => ?_⟩
              obtain ⟨i, k, hi1, hk1, rfl, hgk⟩ := flat_at len (fun i hil => (hq i hil).2.2.2.1) j v hj
              have := (hq i hi1).2.2.2.2 k hk1
              rw [hgk] at this
              have hcell : W.cell? ((⟨b, o, none⟩ : Addr).add (i * P.cellsOf e + k)) = cs[o + (i * P.cellsOf e + k)]? := by
                unfold Addr.add
                split
                · rename_i e; rw [e]; simp [World.cell?, hbk]
                · simp [World.cell?, hbk]
              rw [hcell] at this
              exact this
          | _ => simp at h00
end
end Go.SY
