/-
  The symbolic machine: what a row hands in is frozen data.
-/
import Derived.Test.YtdanhpemheldlaaSy31
import Derived.SizedLaws
import Derived.ChangeSlices
set_option linter.unusedSimpArgs false
set_option linter.unusedVariables false
namespace Go.SY
open Go Go.RowKit Go.ChangeShapes Go.WideShapes

/-- A row of numbers that came in. -/
def IsRow (k : IntKind) (w : World) (a : Option Addr) (len cap : Nat) (zs : List Int) : Prop :=
  (a = none ∧ len = 0 ∧ cap = 0 ∧ zs = []) ∨
  ∃ x, a = some x ∧ len ≤ cap ∧ cap ≤ maxLen ∧ zs.length = cap ∧ (∀ i, i < zs.length → w.cell? (x.add i) = some (.int k (zs.getD i 0))) ∧ ∀ n ∈ zs, (Lit.int k n).wf = true

theorem row_in {H : Type} {enc : TypeId × Value → H} {P : Program} {W : World} {base : Nat} {held : Bool} {t e : TypeId} {k : IntKind} {a : Option Addr} {len cap : Nat} {d : DataW H} {ps : List MemPlace} {ts : List TypeId} {ds : List (DataW H)}
    (hsz : (DataW.weightsEach P ts ds).all (· ≤ reachBytes) = true) (j : Nat) (ht : ts[j]? = some t) (hd : ds[j]? = some d) (hu : P.underlying t = some (.slice e)) (he : P.underlying e = some (.int k)) (hc : P.cellsOf e = 1)
    (h : DataW.Trod enc P W base (fun _ => true) held t (.slice a len cap) d ps) : ∃ zs, IsRow k W a len cap zs ∧ cap * P.bytesOf e ≤ 140737488351232 := by
  obtain ⟨fuel, hf⟩ := h
  rcases open_ints hu he hc hf with ⟨hcs, _⟩ | ⟨x, l, c, zs, hcs, _, hl, hm, hz, hx, hcell, hwz⟩
  · simp only [Value.cells, List.cons.injEq, Value.slice.injEq, and_true] at hcs
    obtain ⟨rfl, rfl, rfl⟩ := hcs
    exact ⟨[], .inl ⟨rfl, rfl, rfl, rfl⟩, by simp⟩
  · simp only [Value.cells, List.cons.injEq, Value.slice.injEq, and_true] at hcs
    obtain ⟨rfl, rfl, rfl⟩ := hcs
    obtain ⟨rfl, -⟩ := Prod.mk.inj hx
    rw [if_pos rfl] at hz
    refine ⟨zs, .inr ⟨x, rfl, hl, hm, hz, hcell, hwz⟩, ?_⟩
    have w := sized_slice hsz ht hd hu
    have hlen : (lits (H := H) k (zs.take len)).length + (lits (H := H) k (zs.drop len)).length = cap := by
      simp only [lits, List.length_map, List.length_take, List.length_drop]
      omega
    rw [hlen] at w
    exact w

/-- All that lies in a world, frozen. -/
def ice (P : Program) (pl : FuncId → Nat → Option Plan) (w : World) : Env where
  b := []
  z := fun b => match w.heap[b]? with
    | some (.cells cs _ _) => some cs
    | _ => none
  y := fun _ => none
  ck := Ck P pl

theorem ice_heap (P : Program) (pl : FuncId → Nat → Option Plan) (w : World) : Heap (ice P pl w) [] w := by
  refine ⟨rfl, fun l c h => by simp at h, fun l l' c c' b s s' _ h => by simp at h, fun t b cs hz => ⟨?_, fun ⟨l, c, s, hl, _⟩ => by simp at hl⟩⟩
  cases t with
  | true => cases hz
  | false =>
    simp only [Env.fz, ice] at hz
    split at hz
    · rename_i cs' T fz e
      obtain rfl := Option.some.inj hz
      exact ⟨T, fz, e⟩
    · cases hz

theorem IsRow.le {k : IntKind} {w : World} {a : Option Addr} {len cap : Nat} {zs : List Int} (h : IsRow k w a len cap zs) : len ≤ cap ∧ cap ≤ maxLen ∧ zs.length = cap := by
  rcases h with ⟨-, rfl, rfl, rfl⟩ | ⟨x, -, h1, h2, h3, -⟩
  · exact ⟨Nat.le_refl _, Nat.zero_le _, rfl⟩
  · exact ⟨h1, h2, h3⟩

theorem wf_inK {k : IntKind} {n : Int} (h : (Lit.int k n).wf = true) : inK k n = true := by
  cases k <;> simp [Lit.wf, IntKind.min, IntKind.max, IntKind.bits, IntKind.signed] at h <;> simp [inK] <;> omega

/-- A row that came in, as frozen data. -/
theorem IsRow.den {P : Program} {pl : FuncId → Nat → Option Plan} {k : IntKind} {w : World} {a : Option Addr} {len cap : Nat} {zs : List Int} (h : IsRow k w a len cap zs) : Den (ice P pl w) (.imn false k (zs.take len) (some cap)) (.slice a len cap) := by
  have hle := h.le
  have hm : maxLen = 9223372036854775807 := rfl
  have hlen : (zs.take len).length = len := by rw [List.length_take]; omega
  simp only [Den]
  have hok : okN k (zs.take len) := fun z hz => by
    rcases h with ⟨-, -, -, rfl⟩ | ⟨x, -, -, -, -, -, hw⟩
    · simp at hz
    · exact wf_inK (hw z (List.mem_of_mem_take hz))
  refine ⟨a, cap, by rw [hlen], by rw [hlen]; exact hle.1, by omega, fun m hm => Option.some.inj hm, hok, fun hq => ?_⟩
  rcases h with ⟨-, -, rfl, -⟩ | ⟨x, rfl, h1, h2, h3, h4, -⟩
  · exact absurd rfl hq
  · obtain ⟨b, o, sp⟩ := x
    have h0 := h4 0 (by omega)
    simp only [Addr.add, if_true, World.cell?] at h0
    cases hb : w.heap[b]? with
    | none => rw [hb] at h0; simp at h0
    | some O =>
      rw [hb] at h0
      cases O with
      | cells cs T fz =>
        cases sp with
        | some s => simp at h0
        | none =>
          refine ⟨b, o, rfl, cs, by simp only [Env.fz, ice, hb], fun j v hj => ?_⟩
          have hjl := (List.getElem?_eq_some_iff.1 hj).1
          simp only [List.length_map] at hjl
          have := h4 j (by omega)
          have hcell : w.cell? ((⟨b, o, none⟩ : Addr).add j) = cs[o + j]? := by
            unfold Addr.add
            split
            · rename_i e; subst e; simp [World.cell?, hb]
            · simp [World.cell?, hb]
          rw [hcell] at this
          rw [this, ← hj, List.getElem?_map, List.getElem?_take, if_pos (by omega), List.getElem?_eq_getElem (by omega)]
          simp [List.getD_eq_getElem?_getD, List.getElem?_eq_getElem (show j < zs.length by omega)]
      | _ => simp at h0

/-- A law's run, its inputs frozen. -/
theorem law_calls {P : Program} {pl : FuncId → Nat → Option Plan} (hpl : PlOk P pl) {f : FuncId} {F : FI} {args : List AV} {S : AV → Bls → Prop} (hF : fi P f = some F) (hn : args.length ≤ F.n) (hS : ∀ r bl, S r bl → r = .v (.bool true)) {w : World} {vs : List Value} (hd : DenL (ice P pl w) args vs)
    (h : ∀ C : Ctx, C.β.b = [] → C.bl = [] → Rch P pl C (conf0 f F args []) S) : Calls P f vs.toArray w fun e w' => e = .returned (.bool true) ∧ Below w.heap.size w w' := by
  intro cs
  have hh := ice_heap P pl w
  have run := h ⟨ice P pl w, [], w, cs, f⟩ rfl rfl (ice P pl w) (lone (Frame.enter P f vs.toArray .normal) cs w) ⟨⟨_, [], _, [], w, rfl, rfl, enter_ok hF (hpl.ck f F hF) rfl hd hn, rfl, .refl hh⟩, rfl, rfl⟩
  obtain ⟨v, fr, β', r, bl', w', h1, h2, h3, h4, h5, h6⟩ := run
  have := hS _ _ h6
  subst this
  simp only [Den] at h4
  refine ⟨.returned v, w', fr, ⟨by rw [h4.1], ?_⟩, h1, h2, h3⟩
  refine ⟨h5.step.os, h5.step.tape, h5.step.output, h5.step.size, fun b hb => h5.step.kept b hb ?_⟩
  rintro ⟨l, c, s, hl, -⟩
  simp at hl

/-- A run on given inputs, told by its result. -/
def runA (P : Program) (K : KT) (T : Pls) (n : Nat) (f : FuncId) (args : List AV) : Option AV := match fi P f with
  | some F => (match decide (args.length ≤ F.n) with
    | true => (match runQ P K (plOf T) n (conf0 f F args []) with
      | some (r, _) => some r
      | none => none)
    | false => none)
  | none => none

/-- A law whose run hangs on no input. -/
theorem open_law {P : Program} {T : Pls} {K : KT} (hpl : PlOk P (plOf T)) (hK : KOk P (plOf T) K) {f : FuncId} {n : Nat} {args : List AV} (h : runA P K T n f args = some (.v (.bool true))) {w : World} {vs : List Value} (hd : DenL (ice P (plOf T) w) args vs) :
    Calls P f vs.toArray w fun e w' => e = .returned (.bool true) ∧ Below w.heap.size w w' := by
  unfold runA at h
  split at h
  · rename_i F hF
    split at h
    · rename_i hn
      split at h
      · rename_i r bl hr
        obtain rfl := Option.some.inj h
        rw [runQ_eq] at hr
        exact law_calls (S := fun r _ => r = .v (.bool true)) hpl hF (of_decide_eq_true hn) (fun r bl h => h) hd fun C _ _ => runK_ok hpl hK rfl hr
      · cases h
    · cases h
  · cases h

end Go.SY
