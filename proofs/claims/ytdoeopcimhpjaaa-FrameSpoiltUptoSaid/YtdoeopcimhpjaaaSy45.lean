/-
  The symbolic machine: slices of structs, of slices .. that a row hands in are frozen data.
-/
import Derived.Test.YtdoeopcimhpjaaaSm
import Derived.Deep.Slices
import Derived.Deep.Fields
import Derived.Lib.SmallJoins
set_option linter.unusedSimpArgs false
set_option linter.unusedVariables false
namespace Go.SY
open Go Go.RowKit Go.ChangeShapes Go.WideShapes Go.Deep

section
variable {H : Type} {enc : TypeId × Value → H} {P : Program} {pl : FuncId → Nat → Option Plan} {W : World} {base : Nat} {held : Bool}

/-- What reads as one cell of type t. -/
def OneIn (enc : TypeId × Value → H) (P : Program) (pl : FuncId → Nat → Option Plan) (W : World) (base : Nat) (held : Bool) (t : TypeId) {R : Type} (g : R → AV) (good : R → Prop) : Prop :=
  ∀ n v y, DataW.trod enc P W base (fun _ => true) held n t [v] = some y → ∃ r : R, Den (ice P pl W) (g r) v ∧ one v = true ∧ (g r).scal = true ∧ good r
/-- What reads as the cells of type e. -/
def ElIn (enc : TypeId × Value → H) (P : Program) (pl : FuncId → Nat → Option Plan) (W : World) (base : Nat) (held : Bool) (e : TypeId) {R : Type} (f : R → List AV) (good : R → Prop) : Prop :=
  ∀ n cs y, cs.length = P.cellsOf e → DataW.trod enc P W base (fun _ => true) held n e cs = some y → ∃ r : R, DenC (ice P pl W) (f r) cs ∧ good r

theorem one_int {t : TypeId} {k : IntKind} (ht : P.underlying t = some (.int k)) : OneIn enc P pl W base held t (fun z : Int => .v (.int k z)) (fun z => inK k z = true) := by
  intro n v y h
  obtain ⟨z, hz, -, hw⟩ := DataW.trod_int ht h
  obtain rfl := (List.cons.inj hz).1
  exact ⟨z, mk_int (wf_inK hw), rfl, rfl, wf_inK hw⟩
theorem one_bool {t : TypeId} (ht : P.underlying t = some .bool) : OneIn enc P pl W base held t (fun b : Bool => .v (.bool b)) (fun _ => True) := by
  intro n v y h
  obtain ⟨b, hb, -⟩ := DataW.trod_bool ht h
  obtain rfl := (List.cons.inj hb).1
  exact ⟨b, by simp [Den, one, wfV], rfl, rfl, trivial⟩
theorem one_nums {t e : TypeId} {k : IntKind} (ht : P.underlying t = some (.slice e)) (he : P.underlying e = some (.int k)) (hc : P.cellsOf e = 1) : OneIn enc P pl W base held t (fun r : List Int × Nat => .imn false k r.1 (some r.2)) (fun r => okN k r.1 ∧ r.1.length ≤ r.2 ∧ r.2 ≤ maxLen) := by
  intro n v y h
  rcases open_ints ht he hc h with ⟨hcs, _⟩ | ⟨x, l, c, zs, hcs, _, hl, hm, hz, hx, hcell, hwz⟩
  · obtain rfl := (List.cons.inj hcs).1
    have hr : IsRow k W none 0 0 [] := .inl ⟨rfl, rfl, rfl, rfl⟩
    exact ⟨([], 0), by simpa using hr.den, rfl, rfl, by simp [okN], by simp, by simp⟩
  · obtain rfl := (List.cons.inj hcs).1
    rw [if_pos rfl] at hz
    have hr : IsRow k W (some x) l c zs := .inr ⟨x, rfl, hl, hm, hz, hcell, hwz⟩
    refine ⟨(zs.take l, c), hr.den, rfl, rfl, fun z hz' => wf_inK (hwz z (List.mem_of_mem_take hz')), ?_, hm⟩
    simp only [List.length_take]
    omega
theorem el_one {t : TypeId} {R : Type} {g : R → AV} {good : R → Prop} (hc : P.cellsOf t = 1) (h : OneIn enc P pl W base held t g good) : ElIn enc P pl W base held t (fun r => [g r]) good := by
  intro n cs y hl ht
  rw [hc] at hl
  match cs, hl with
  | [v], _ =>
    obtain ⟨r, h1, h2, h3, h4⟩ := h n v y ht
    exact ⟨r, (denC_cons h3).2 ⟨v, [], rfl, h1, h2, by simp only [DenC]⟩, h4⟩
theorem el_struct3 {t : TypeId} {f0 f1 f2 : Field} {R0 R1 R2 : Type} {g0 : R0 → AV} {g1 : R1 → AV} {g2 : R2 → AV} {q0 : R0 → Prop} {q1 : R1 → Prop} {q2 : R2 → Prop}
    (hs : P.underlying t = some (.struct #[f0, f1, f2])) (hone : oneCellFields P #[f0, f1, f2] = true) (hC : P.cellsOf t = 3)
    (h0 : OneIn enc P pl W base held f0.type g0 q0) (h1 : OneIn enc P pl W base held f1.type g1 q1) (h2 : OneIn enc P pl W base held f2.type g2 q2) :
    ElIn enc P pl W base held t (fun r : R0 × R1 × R2 => [g0 r.1, g1 r.2.1, g2 r.2.2]) (fun r => q0 r.1 ∧ q1 r.2.1 ∧ q2 r.2.2) := by
  intro n cs y hl ht
  rw [hC] at hl
  match cs, hl with
  | [v0, v1, v2], _ =>
    obtain ⟨xs, m, _, _, _, hxl, hf⟩ := DataW.trod_struct hs ht
    match xs, hxl with
    | [y0, y1, y2], _ =>
      obtain ⟨o0, k0⟩ := hone_of hone 0 f0 rfl
      obtain ⟨o1, k1⟩ := hone_of hone 1 f1 rfl
      obtain ⟨o2, k2⟩ := hone_of hone 2 f2 rfl
      have e0 := hf 0 f0 rfl
      have e1 := hf 1 f1 rfl
      have e2 := hf 2 f2 rfl
      rw [o0, k0] at e0
      rw [o1, k1] at e1
      rw [o2, k2] at e2
      obtain ⟨r0, a0, b0, c0, d0⟩ := h0 m v0 y0 e0
      obtain ⟨r1, a1, b1, c1, d1⟩ := h1 m v1 y1 e1
      obtain ⟨r2, a2, b2, c2, d2⟩ := h2 m v2 y2 e2
      exact ⟨(r0, r1, r2), (denC_cons c0).2 ⟨_, _, rfl, a0, b0, (denC_cons c1).2 ⟨_, _, rfl, a1, b1, (denC_cons c2).2 ⟨_, _, rfl, a2, b2, by simp only [DenC]⟩⟩⟩, d0, d1, d2⟩

theorem denR_flat {β : Env} {R : Type} {f : R → List AV} {c : Nat} : ∀ (l : List (R × List Value)), (∀ p ∈ l, DenC β (f p.1) p.2 ∧ p.2.length = c) → DenR β c ((l.map (·.1)).map f) (l.flatMap (·.2))
  | [], _ => by simp only [List.map_nil, List.flatMap_nil, DenR]
  | p :: l, h => by
    simp only [List.map_cons, List.flatMap_cons, DenR]
    have := h p (List.mem_cons_self ..)
    exact ⟨p.2, _, rfl, this.2, this.1, denR_flat l fun q hq => h q (List.mem_cons_of_mem _ hq)⟩
theorem flat_at {g : Nat → List Value} {c : Nat} : ∀ (len : Nat), (∀ i, i < len → (g i).length = c) → ∀ j v, ((List.range len).flatMap g)[j]? = some v → ∃ i k, i < len ∧ k < c ∧ j = i * c + k ∧ (g i)[k]? = some v
  | 0, _, j, v, h => by simp at h
  | len + 1, hl, j, v, h => by
    rw [List.range_succ, List.flatMap_append] at h
    have hll : ∀ m, m ≤ len → ((List.range m).flatMap g).length = m * c := by
      intro m
      induction m with
      | zero => intro _; simp
      | succ m ih =>
        intro hm
        rw [List.range_succ, List.flatMap_append, List.length_append, ih (by omega)]
        simp only [List.flatMap_cons, List.flatMap_nil, List.append_nil]
        rw [hl m (by omega), Nat.succ_mul]
    by_cases hj : j < len * c
    · rw [List.getElem?_append_left (by rw [hll len (Nat.le_refl _)]; exact hj)] at h
      obtain ⟨i, k, h1, h2, h3, h4⟩ := flat_at len (fun i hi => hl i (by omega)) j v h
      exact ⟨i, k, by omega, h2, h3, h4⟩
    · rw [List.getElem?_append_right (by rw [hll len (Nat.le_refl _)]; omega), hll len (Nat.le_refl _)] at h
      simp only [List.flatMap_cons, List.flatMap_nil, List.append_nil] at h
      have hk := (List.getElem?_eq_some_iff.1 h).1
      rw [hl len (by omega)] at hk
      exact ⟨len, j - len * c, by omega, hk, by omega, h⟩

/-- A slice that came in, of whatever elements. -/
theorem slice_in {t e : TypeId} {R : Type} [Inhabited R] {f : R → List AV} {good : R → Prop} (ht : P.underlying t = some (.slice e)) (hpos : 0 < P.cellsOf e) (hel : ElIn enc P pl W base held e f good)
    {a : Option Addr} {len cap : Nat} {d : DataW H} {ps : List MemPlace} (h : DataW.Trod enc P W base (fun _ => true) held t (.slice a len cap) d ps) :
    ∃ rs : List R, rs.length = len ∧ len ≤ cap ∧ cap ≤ maxLen ∧ (∀ r ∈ rs, good r) ∧ Den (ice P pl W) (.imr false (P.cellsOf e) (rs.map f) (some cap)) (.slice a len cap) ∧ (cap = 0 ∨ ∃ as bs, d = .slice as bs ∧ as.length + bs.length = cap) := by
  obtain ⟨fuel, hf⟩ := h
  rcases open_slice ht hf with ⟨hcs, _⟩ | ⟨x, l, c, m, n, D, Pl, hcs, hb, hl, hm, hmm, hx, hi⟩
  · simp only [Value.cells, List.cons.injEq, Value.slice.injEq, and_true] at hcs
    obtain ⟨rfl, rfl, rfl⟩ := hcs
    refine ⟨[], rfl, Nat.le_refl _, Nat.zero_le _, (fun r hr => by cases hr), ?_, .inl rfl⟩
    simp only [Den]
    exact ⟨none, 0, [], rfl, Nat.le_refl _, by decide, fun m hm => by cases hm; rfl, by simp only [List.map_nil, DenR], fun h => absurd rfl h⟩
  · simp only [Value.cells, List.cons.injEq, Value.slice.injEq, and_true] at hcs
    obtain ⟨rfl, rfl, rfl⟩ := hcs
    rw [if_pos rfl] at hmm
    subst hmm
    have hmL : maxLen = 9223372036854775807 := rfl
    have each : ∀ i, i < len → ∃ p : R × List Value, DenC (ice P pl W) (f p.1) p.2 ∧ good p.1 ∧ p.2.length = P.cellsOf e ∧ ∀ j, j < P.cellsOf e → W.cell? (x.add (i * P.cellsOf e + j)) = p.2[j]? := fun i hil => by
      obtain ⟨cs', h1, h2⟩ := hi i (by omega)
      obtain ⟨_, hcl, hat⟩ := World.cells?_some h1
      obtain ⟨r, h3, h4⟩ := hel n cs' _ hcl h2
      refine ⟨(r, cs'), h3, h4, hcl, fun j hj => ?_⟩
      rw [← Go.Deep.add_add]
      exact hat j hj
    haveI : Inhabited (R × List Value) := ⟨(default, [])⟩
    obtain ⟨q, hq⟩ := choose_lt each
    obtain ⟨hd, _⟩ := Prod.mk.inj hx
    refine ⟨(List.range len).map fun i => (q i).1, by simp, hl, hm, fun r hr => ?_, ?_, .inr ⟨_, _, hd, by simp; omega⟩⟩
    · obtain ⟨i, hi', rfl⟩ := List.mem_map.1 hr
      exact (hq i (List.mem_range.1 hi')).2.1
    · simp only [Den]
      refine ⟨some x, m, (List.range len).flatMap fun i => (q i).2, by simp, by simpa using hl, by omega, fun m' hm' => by cases hm'; rfl, ?_, fun h0 => ?_⟩
      · have := denR_flat (β := ice P pl W) (f := f) (c := P.cellsOf e) ((List.range len).map q) (fun p hp => by
          obtain ⟨i, hi', rfl⟩ := List.mem_map.1 hp
          have := hq i (List.mem_range.1 hi')
          exact ⟨this.1, this.2.2.1⟩)
        simpa only [List.map_map, List.flatMap_map, Function.comp_def] using this
      · obtain ⟨b, o, sp⟩ := x
        obtain ⟨cs0, h1, _⟩ := hi 0 (by omega)
        obtain ⟨_, hcl, hat⟩ := World.cells?_some h1
        have h00 := hat 0 hpos
        simp only [Nat.zero_mul, Addr.add, if_true] at h00
        have hsome : cs0[0]? = some (cs0[0]'(by omega)) := List.getElem?_eq_getElem (by omega)
        rw [hsome] at h00
        simp only [World.cell?] at h00
        cases hbk : W.heap[b]? with
        | none => rw [hbk] at h00; simp at h00
        | some O =>
          rw [hbk] at h00
          cases O with
          | cells cs T fz =>
            cases sp with
            | some s => simp at h00
            | none =>
              refine ⟨b, o, rfl, cs, by simp only [Env.fz, ice, hbk], fun j v hj => ?_⟩
              obtain ⟨i, k, hi1, hk1, rfl, hgk⟩ := flat_at len (fun i hil => (hq i hil).2.2.1) j v hj
              have := (hq i hi1).2.2.2 k hk1
              rw [hgk] at this
              have hcell : W.cell? ((⟨b, o, none⟩ : Addr).add (i * P.cellsOf e + k)) = cs[o + (i * P.cellsOf e + k)]? := by
                unfold Addr.add
                split
                · rename_i e; rw [e]; simp [World.cell?, hbk]
                · simp [World.cell?, hbk]
              rw [hcell] at this
              exact this
          | _ => simp at h00
end
/-- Values with no level within. -/
def flatA : AV → Bool
  | .v _ => true
  | .imn false _ _ _ => true
  | .ch _ _ _ => true
  | _ => false
theorem flatA_ren {x : AV} (h : flatA x = true) (ρ : Nat → Nat) : ren ρ x = x := by
  cases x <;> first | rfl | (simp [flatA] at h; done)
theorem flatA_lv {x : AV} (h : flatA x = true) (N : Nat) (T : Bool) : lvB N T x = true := by
  cases x <;> first | rfl | (simp [flatA] at h; done) | skip
  rename_i t _ _ _
  cases t
  · cases T <;> rfl
  · simp [flatA] at h
theorem flatL_ren {xs : List AV} (h : xs.all flatA = true) (ρ : Nat → Nat) : renL ρ xs = xs := by
  induction xs with
  | nil => rfl
  | cons x r ih =>
    simp only [List.all_cons, Bool.and_eq_true] at h
    simp only [renL, flatA_ren h.1, ih h.2]
theorem flatL_lv {xs : List AV} (h : xs.all flatA = true) (N : Nat) (T : Bool) : lvL N T xs = true := by
  induction xs with
  | nil => rfl
  | cons x r ih =>
    simp only [List.all_cons, Bool.and_eq_true] at h
    simp only [lvL, flatA_lv h.1, ih h.2, Bool.and_self]
/-- Rows with no level within. -/
structure FlatR (rs : List (List AV)) : Prop where
  ren : ∀ ρ, renR ρ rs = rs
  lv : ∀ N T, lvR N T rs = true
theorem FlatR.of {rs : List (List AV)} (h : ∀ r ∈ rs, r.all flatA = true) : FlatR rs := by
  induction rs with
  | nil => exact ⟨fun _ => rfl, fun _ _ => rfl⟩
  | cons r rs ih =>
    have h1 := h r (List.mem_cons_self ..)
    have h2 := ih fun q hq => h q (List.mem_cons_of_mem _ hq)
    exact ⟨fun ρ => by simp only [renR, flatL_ren h1, h2.ren], fun N T => by simp only [lvR, flatL_lv h1, h2.lv, Bool.and_self]⟩
end Go.SY
