/- Inputs: elements that are structs of any fields (structs, arrays of numbers, slices of numbers among them). -/
import Derived.Test.YtfnnmkjlokjkhaaSe
set_option linter.unusedSimpArgs false
set_option linter.unusedVariables false
namespace Go.SY
open Go Go.ChangeShapes Go.RowKit
section
variable {H : Type} {enc : TypeId × Value → H} {P : Program} {pl : FuncId → Nat → Option Plan} {W : World} {base : Nat} {held : Bool}
theorem denC_two {β : Env} : ∀ {xs xs2 : List AV} {ys ys2 : List Value}, DenC β xs ys → DenC β xs2 ys2 → DenC β (xs ++ xs2) (ys ++ ys2)
  | [], xs2, ys, ys2, h, h2 => by
    simp only [DenC] at h
    subst h
    simpa using h2
  | x :: xs, xs2, ys, ys2, h, h2 => by
    rcases denC_case h with ⟨hp, y, zs, e, h1, h3, h4⟩ | ⟨n, k, ns, rfl, zs, e, h1, h3, h4⟩
    · subst e
      rw [List.cons_append, List.cons_append]
      exact (denC_cons hp).2 ⟨y, _, rfl, h1, h3, denC_two h4 h2⟩
    · subst e
      rw [List.cons_append, List.append_assoc]
      exact denC_ch.2 ⟨_, rfl, h1, h3, denC_two h4 h2⟩
def cellSum (P : Program) : List Field → Nat
  | [] => 0
  | f :: r => P.cellsOf f.type + cellSum P r
def offsOk (P : Program) : Nat → List Field → Bool
  | _, [] => true
  | o, f :: r => f.offset == o && offsOk P (o + P.cellsOf f.type) r
def FsIn (enc : TypeId × Value → H) (P : Program) (pl : FuncId → Nat → Option Plan) (W : World) (base : Nat) (held : Bool) (fs : List Field) {R : Type} (f : R → List AV) (good : R → Prop) : Prop :=
  ∀ o n (cs : List Value), offsOk P o fs = true → cs.length = o + cellSum P fs → (∀ (i : Nat) (fd : Field), fs[i]? = some fd → ∃ y, DataW.trod enc P W base (fun _ => true) held n fd.type ((cs.drop fd.offset).take (P.cellsOf fd.type)) = some y) → ∃ r : R, DenC (ice P pl W) (f r) (cs.drop o) ∧ good r
theorem fs_nil : FsIn enc P pl W base held [] (fun _ : Unit => []) (fun _ => True) := fun o n cs _ hl _ => ⟨(), by
  simp only [DenC]
  exact List.drop_eq_nil_of_le (by simp only [cellSum] at hl; omega), trivial⟩
theorem fs_cons {f0 : Field} {fs : List Field} {R0 R : Type} {g0 : R0 → List AV} {g : R → List AV} {q0 : R0 → Prop} {q : R → Prop} (h0 : ElIn enc P pl W base held f0.type g0 q0) (h : FsIn enc P pl W base held fs g q) :
    FsIn enc P pl W base held (f0 :: fs) (fun r : R0 × R => g0 r.1 ++ g r.2) (fun r => q0 r.1 ∧ q r.2) := by
  intro o n cs ho hl hf
  simp only [offsOk, Bool.and_eq_true, beq_iff_eq] at ho
  obtain ⟨rfl, ho⟩ := ho
  simp only [cellSum] at hl
  obtain ⟨y, hy⟩ := hf 0 f0 rfl
  obtain ⟨r0, a1, a2⟩ := h0 n _ y (by rw [List.length_take, List.length_drop]; omega) hy
  obtain ⟨r, b1, b2⟩ := h (f0.offset + P.cellsOf f0.type) n cs ho (by omega) fun i fd hi => hf (i + 1) fd (by simpa using hi)
  refine ⟨(r0, r), ?_, a2, b2⟩
  have e : cs.drop f0.offset = (cs.drop f0.offset).take (P.cellsOf f0.type) ++ cs.drop (f0.offset + P.cellsOf f0.type) := by
    rw [← List.drop_drop]
    exact (List.take_append_drop _ _).symm
  rw [e]
  exact denC_two a1 b1
theorem el_struct {t : TypeId} {fs : Array Field} {R : Type} {g : R → List AV} {q : R → Prop} (hs : P.underlying t = some (.struct fs)) (ho : (offsOk P 0 fs.toList && (P.cellsOf t == cellSum P fs.toList)) = true) (h : FsIn enc P pl W base held fs.toList g q) :
    ElIn enc P pl W base held t g q := by
  intro n cs y hl ht
  simp only [Bool.and_eq_true, beq_iff_eq] at ho
  obtain ⟨xs, m, _, _, _, hxl, hf⟩ := DataW.trod_struct hs ht
  obtain ⟨r, h1, h2⟩ := h 0 m cs ho.1 (by rw [hl, ho.2, Nat.zero_add]) fun i fd hi => by
    have hi2 : fs[i]? = some fd := by rw [← Array.getElem?_toList]; exact hi
    have := hf i fd hi2
    have hil : i < xs.length := by rw [hxl]; exact (Array.getElem?_eq_some_iff.1 hi2).1
    exact ⟨_, this.trans (List.getElem?_eq_getElem hil)⟩
  exact ⟨r, by simpa using h1, h2⟩
end
end Go.SY
