/-
  The symbolic machine: from a contract to a row.
-/
import Derived.Test.YtconldbakjfbhaaSx22
import Derived.Below
set_option linter.unusedSimpArgs false
set_option linter.unusedVariables false
namespace Go.SX
open Go Go.RowKit

/-- A row of numbers that came in. -/
def IsRow (k : IntKind) (w : World) (a : Option Addr) (len cap : Nat) (zs : List Int) : Prop :=
  (a = none ∧ len = 0 ∧ cap = 0 ∧ zs = []) ∨
  ∃ x, a = some x ∧ len ≤ cap ∧ cap ≤ maxLen ∧ zs.length = cap ∧ (∀ i, i < zs.length → w.cell? (x.add i) = some (.int k (zs.getD i 0))) ∧ ∀ n ∈ zs, (Lit.int k n).wf = true

theorem IsRow.le {k : IntKind} {w : World} {a : Option Addr} {len cap : Nat} {zs : List Int} (h : IsRow k w a len cap zs) : len ≤ cap ∧ cap ≤ maxLen ∧ zs.length = cap := by
  rcases h with ⟨-, rfl, rfl, rfl⟩ | ⟨x, -, h1, h2, h3, -⟩
  · exact ⟨Nat.le_refl _, Nat.zero_le _, rfl⟩
  · exact ⟨h1, h2, h3⟩

theorem IsRow.blk {k : IntKind} {w : World} {a : Option Addr} {len cap : Nat} {zs : List Int} (h : IsRow k w a len cap zs) (ty : TypeId) :
    ∃ base : Option (Nat × Nat), (∀ β, BlkIn β w base ⟨false, ty, .num k (zs.take len)⟩) ∧ ∀ (β : Env) (l : Nat), β[l]? = some base → Den β (.sl l 0 1 (zs.take len).length cap) (.slice a len cap) := by
  have hle := h.le
  have hlen : (zs.take len).length = len := by rw [List.length_take]; omega
  rw [hlen]
  rcases h with ⟨rfl, rfl, rfl, rfl⟩ | ⟨x, rfl, h1, h2, h3, h4, -⟩
  · refine ⟨none, fun β => ⟨[], by simp [CtDen], rfl⟩, fun β l hl => ?_⟩
    simp only [Den]
    exact ⟨none, rfl, Nat.le_refl _, fun h => absurd rfl h⟩
  · by_cases hc : cap = 0
    · subst hc
      have hz : zs = [] := List.length_eq_zero_iff.1 h3
      subst hz
      obtain rfl : len = 0 := by omega
      refine ⟨none, fun β => ⟨[], by simp [CtDen], rfl⟩, fun β l hl => ?_⟩
      simp only [Den]
      exact ⟨some x, rfl, Nat.le_refl _, fun h => absurd rfl h⟩
    · obtain ⟨b, o, sp⟩ := x
      have h0 := h4 0 (by omega)
      simp only [Addr.add, if_true, World.cell?] at h0
      cases hb : w.heap[b]? with
      | none => rw [hb] at h0; simp at h0
      | some O =>
        rw [hb] at h0
        cases O with
        | cells cs T fz =>
          cases sp with
          | some s => simp at h0
          | none =>
            refine ⟨some (b, o), fun β => ⟨(zs.take len).map (.int k), by simp [CtDen], cs, T, fz, hb, fun j hj => ?_, by simp⟩, fun β l hl => ?_⟩
            · rw [List.length_map, hlen] at hj
              have := h4 j (by omega)
              have hcell : w.cell? ((⟨b, o, none⟩ : Addr).add j) = cs[o + j]? := by
                unfold Addr.add
                split
                · rename_i e; subst e; simp [World.cell?, hb]
                · simp [World.cell?, hb]
              rw [hcell] at this
              rw [this, List.getElem?_map, List.getElem?_take, if_pos hj, List.getElem?_eq_getElem (by omega)]
              simp [List.getD_eq_getElem?_getD, List.getElem?_eq_getElem (show j < zs.length by omega)]
            · simp only [Den]
              exact ⟨some ⟨b, o, none⟩, rfl, h1, fun _ => ⟨b, o, hl, by simp⟩⟩
        | _ => simp at h0

theorem wf_range {k : IntKind} {n : Int} (h : (Lit.int k n).wf = true) : k.min ≤ n ∧ n ≤ k.max := by
  simpa [Lit.wf] using h

theorem heap_ro {β : Env} {bl : Bls} {w : World} (hlen : β.length = bl.length) (h : ∀ (l : Nat) (B : Blk), bl[l]? = some (some B) → B.own = false ∧ ∃ base, β[l]? = some base ∧ BlkIn β w base B) : Heap β bl w :=
  ⟨hlen, fun l B hl => (h l B hl).2, fun l l' B B' b o b' o' _ h1 _ h3 => by rw [(h l B h1).1] at h3; cases h3⟩

/-- A law's contract, told as a row wants it. -/
theorem SCW.law {P : Program} {f : FuncId} {args : List AV} {bl : Bls} {W : List Nat} {K : AV → Bls → Prop} (h : SCW P f args bl W K) (hK : ∀ r b, K r b → r = .v (.bool true)) (hro : ∀ (l : Nat) (B : Blk), bl[l]? = some (some B) → B.own = false)
    {β : Env} {w : World} {vs : List Value} (hh : Heap β bl w) (hd : DenL β args vs) : Calls P f vs.toArray w fun e w' => e = .returned (.bool true) ∧ Below w.heap.size w w' :=
  (h.2 β w vs hh hd).mono fun e w' ⟨v, r, bl', β', he, hd, hk, hb, hh', hst, _⟩ => by
    have := hK r bl' hk
    subst this
    simp only [Den] at hd
    obtain ⟨rfl, -⟩ := hd
    refine ⟨he, hst.os, hst.tape, hst.output, hst.size, fun b hb => hst.kept b hb fun ⟨l, B, o, _, h1, h2, _⟩ => ?_⟩
    rw [hro l B h1] at h2
    cases h2

end Go.SX
