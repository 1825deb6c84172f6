/-
  A symbolic machine over the model: values, blocks, what they stand for in a world. No program in sight.
-/
import Derived.Orders
import Derived.Tactics
set_option linter.unusedSimpArgs false
set_option linter.unusedVariables false
namespace Go.SX
open Go

/-- A symbolic value. Blocks are named by levels (places in a list). -/
inductive AV where
  | v (x : Value)
  | nil
  | ptr (l i w k : Nat)
  | sl (l i w n c : Nat)
  | fn (f : FuncId) (fst caps : List AV)
  | agg (xs : List AV)
  | ch (n : Nat) (xs : List Value)
  | tup (xs : List AV)
  | any

/-- What a block holds: written out; numbers of one kind; rows of so many cells. -/
inductive Ct where
  | lit (cs : List AV)
  | num (k : IntKind) (xs : List Int)
  | arr (w : Nat) (rs : List (List Value))

structure Blk where
  own : Bool
  ty : TypeId
  ct : Ct

abbrev Env := List (Option (Nat × Nat))
abbrev Bls := List (Option Blk)

/-- The value of one cell. -/
def one : Value → Bool
  | .agg _ => false
  | .tuple _ => false
  | _ => true

theorem one_cells {x : Value} (h : one x = true) : x.cells = #[x] := by
  cases x <;> simp_all [one, Value.cells]

mutual
def Den (β : Env) : AV → Value → Prop
  | .v x, y => y = x ∧ one x = true
  | .nil, y => y = .slice none 0 0
  | .ptr l i w k, y => ∃ b o, β[l]? = some (some (b, o)) ∧ y = .pointer (some ⟨b, o + (i * w + k), none⟩)
  | .sl l i w n c, y => ∃ A, y = .slice A n c ∧ n ≤ c ∧ (c ≠ 0 → ∃ b o, β[l]? = some (some (b, o)) ∧ A = some ⟨b, o + i * w, none⟩)
  | .fn f fst caps, y => ∃ xs ys : List Value, y = .func (.func f) xs.toArray ys.toArray ∧ DenL β fst xs ∧ DenL β caps ys
  | .agg xs, y => ∃ ys : List Value, y = .agg ys.toArray ∧ DenC β xs ys
  | .ch n xs, y => y = .agg xs.toArray ∧ xs.length = n ∧ (∀ x ∈ xs, one x = true)
  | .tup xs, y => ∃ ys : List Value, y = .tuple ys.toArray ∧ DenL β xs ys
  | .any, _ => True
def DenL (β : Env) : List AV → List Value → Prop
  | [], ys => ys = []
  | x :: xs, ys => ∃ y zs, ys = y :: zs ∧ Den β x y ∧ DenL β xs zs
def DenC (β : Env) : List AV → List Value → Prop
  | [], ys => ys = []
  | x :: xs, ys => ∃ ps zs, ys = ps ++ zs ∧ CellDen β x ps ∧ DenC β xs zs
def CellDen (β : Env) : AV → List Value → Prop
  | .ch n xs, ps => ps = xs ∧ xs.length = n ∧ (∀ x ∈ xs, one x = true)
  | .agg _, _ => False
  | .tup _, _ => False
  | .v x, ps => ps = [x] ∧ one x = true
  | .nil, ps => ps = [.slice none 0 0]
  | .any, ps => ∃ y, ps = [y] ∧ one y = true
  | .ptr l i w k, ps => ∃ y, ps = [y] ∧ (∃ b o, β[l]? = some (some (b, o)) ∧ y = .pointer (some ⟨b, o + (i * w + k), none⟩))
  | .sl l i w n c, ps => ∃ y, ps = [y] ∧ (∃ A, y = .slice A n c ∧ n ≤ c ∧ (c ≠ 0 → ∃ b o, β[l]? = some (some (b, o)) ∧ A = some ⟨b, o + i * w, none⟩))
  | .fn f fst caps, ps => ∃ y, ps = [y] ∧ (∃ xs ys : List Value, y = .func (.func f) xs.toArray ys.toArray ∧ DenL β fst xs ∧ DenL β caps ys)
end

/-- A symbolic value of one cell. -/
def AV.scal : AV → Bool
  | .ch _ _ => false
  | .agg _ => false
  | .tup _ => false
  | .any => false
  | _ => true

theorem den_one {β : Env} {x : AV} {y : Value} (hs : x.scal = true) (h : Den β x y) : one y = true := by
  cases x <;> simp [AV.scal] at hs <;> simp only [Den] at h
  · obtain ⟨rfl, h⟩ := h; exact h
  · subst h; rfl
  · obtain ⟨b, o, -, rfl⟩ := h; rfl
  · obtain ⟨A, rfl, -⟩ := h; rfl
  · obtain ⟨xs, ys, rfl, -⟩ := h; rfl

theorem cellDen_of_den {β : Env} {x : AV} {y : Value} (hs : x.scal = true) (h : Den β x y) : CellDen β x [y] := by
  cases x <;> simp [AV.scal] at hs <;> simp only [Den] at h <;> simp only [CellDen]
  · obtain ⟨rfl, h⟩ := h; exact ⟨rfl, h⟩
  · rw [h]
  · exact ⟨y, rfl, h⟩
  · exact ⟨y, rfl, h⟩
  · exact ⟨y, rfl, h⟩

theorem den_of_cellDen {β : Env} {x : AV} {ps : List Value} (hs : x.scal = true) (h : CellDen β x ps) : ∃ y, ps = [y] ∧ Den β x y := by
  cases x <;> simp [AV.scal] at hs <;> simp only [CellDen] at h <;> simp only [Den]
  · obtain ⟨rfl, h⟩ := h; exact ⟨_, rfl, rfl, h⟩
  · exact ⟨_, h, rfl⟩
  · exact h
  · exact h
  · exact h

theorem cellDen_ones {β : Env} {x : AV} {ps : List Value} (h : CellDen β x ps) : ∀ y ∈ ps, one y = true := by
  cases x <;> simp only [CellDen] at h
  · obtain ⟨rfl, h⟩ := h; simpa using h
  · subst h; simp [one]
  · obtain ⟨y, rfl, b, o, -, rfl⟩ := h; simp [one]
  · obtain ⟨y, rfl, A, rfl, -⟩ := h; simp [one]
  · obtain ⟨y, rfl, xs, ys, rfl, -⟩ := h; simp [one]
  · obtain ⟨rfl, -, h⟩ := h; exact h
  · obtain ⟨y, rfl, h⟩ := h; simpa using h

theorem denC_ones {β : Env} : ∀ {xs : List AV} {ys : List Value}, DenC β xs ys → ∀ y ∈ ys, one y = true
  | [], ys, h => by simp only [DenC] at h; subst h; simp
  | x :: xs, ys, h => by
    simp only [DenC] at h
    obtain ⟨ps, zs, rfl, h1, h2⟩ := h
    intro y hy
    rcases List.mem_append.1 hy with hy | hy
    · exact cellDen_ones h1 y hy
    · exact denC_ones h2 y hy

/-! ### more levels: what was denoted stays -/
theorem env_mono {β β' : Env} (h : β <+: β') {l : Nat} {x : Option (Nat × Nat)} (hx : β[l]? = some x) : β'[l]? = some x := by
  obtain ⟨t, rfl⟩ := h
  rw [List.getElem?_append_left]
  · exact hx
  · exact (List.getElem?_eq_some_iff.1 hx).1

mutual
theorem Den.mono {β β' : Env} (h : β <+: β') : ∀ {x : AV} {y : Value}, Den β x y → Den β' x y
  | .v _, _, hd => by simpa only [Den] using hd
  | .nil, _, hd => by simpa only [Den] using hd
  | .ptr .., _, hd => by
    simp only [Den] at hd ⊢
    obtain ⟨b, o, hb, e⟩ := hd
    exact ⟨b, o, env_mono h hb, e⟩
  | .sl .., _, hd => by
    simp only [Den] at hd ⊢
    obtain ⟨A, e, hn, hc⟩ := hd
    refine ⟨A, e, hn, fun h0 => ?_⟩
    obtain ⟨b, o, hb, e⟩ := hc h0
    exact ⟨b, o, env_mono h hb, e⟩
  | .fn f fst caps, _, hd => by
    simp only [Den] at hd ⊢
    obtain ⟨xs, ys, e, hl, hc⟩ := hd
    exact ⟨xs, ys, e, DenL.mono h hl, DenL.mono h hc⟩
  | .agg xs, _, hd => by
    simp only [Den] at hd ⊢
    obtain ⟨ys, e, hl⟩ := hd
    exact ⟨ys, e, DenC.mono h hl⟩
  | .ch .., _, hd => by simpa only [Den] using hd
  | .tup xs, _, hd => by
    simp only [Den] at hd ⊢
    obtain ⟨ys, e, hl⟩ := hd
    exact ⟨ys, e, DenL.mono h hl⟩
  | .any, _, _ => by simp only [Den]
theorem DenL.mono {β β' : Env} (h : β <+: β') : ∀ {xs : List AV} {ys : List Value}, DenL β xs ys → DenL β' xs ys
  | [], _, hd => by simpa only [DenL] using hd
  | x :: xs, _, hd => by
    simp only [DenL] at hd ⊢
    obtain ⟨y, zs, e, h1, h2⟩ := hd
    exact ⟨y, zs, e, Den.mono h h1, DenL.mono h h2⟩
theorem DenC.mono {β β' : Env} (h : β <+: β') : ∀ {xs : List AV} {ys : List Value}, DenC β xs ys → DenC β' xs ys
  | [], _, hd => by simpa only [DenC] using hd
  | x :: xs, _, hd => by
    simp only [DenC] at hd ⊢
    obtain ⟨ps, zs, e, h1, h2⟩ := hd
    exact ⟨ps, zs, e, CellDen.mono h h1, DenC.mono h h2⟩
theorem CellDen.mono {β β' : Env} (h : β <+: β') : ∀ {x : AV} {ps : List Value}, CellDen β x ps → CellDen β' x ps
  | .v _, _, hd => by simpa only [CellDen] using hd
  | .nil, _, hd => by simpa only [CellDen] using hd
  | .ptr .., _, hd => by
    simp only [CellDen] at hd ⊢
    obtain ⟨y, e0, b, o, hb, e⟩ := hd
    exact ⟨y, e0, b, o, env_mono h hb, e⟩
  | .sl .., _, hd => by
    simp only [CellDen] at hd ⊢
    obtain ⟨y, e0, A, e, hn, hc⟩ := hd
    refine ⟨y, e0, A, e, hn, fun h0 => ?_⟩
    obtain ⟨b, o, hb, e⟩ := hc h0
    exact ⟨b, o, env_mono h hb, e⟩
  | .fn f fst caps, _, hd => by
    simp only [CellDen] at hd ⊢
    obtain ⟨y, e0, xs, ys, e, hl, hc⟩ := hd
    exact ⟨y, e0, xs, ys, e, DenL.mono h hl, DenL.mono h hc⟩
  | .agg _, _, hd => by simp only [CellDen] at hd
  | .ch .., _, hd => by simpa only [CellDen] using hd
  | .tup _, _, hd => by simp only [CellDen] at hd
  | .any, _, hd => by simpa only [CellDen] using hd
end

/-! ### blocks -/
def CtDen (β : Env) : Ct → List Value → Prop
  | .lit cs, ys => DenC β cs ys
  | .num k xs, ys => ys = xs.map (.int k)
  | .arr w rs, ys => ys = rs.flatten ∧ ∀ r ∈ rs, r.length = w ∧ ∀ x ∈ r, one x = true

theorem ctDen_ones {β : Env} {c : Ct} {ys : List Value} (h : CtDen β c ys) : ∀ y ∈ ys, one y = true := by
  cases c with
  | lit cs => exact denC_ones h
  | num k xs => simp only [CtDen] at h; subst h; simp [one]
  | arr w rs =>
    simp only [CtDen] at h
    obtain ⟨rfl, h⟩ := h
    intro y hy
    obtain ⟨r, hr, hy⟩ := List.mem_flatten.1 hy
    exact (h r hr).2 y hy

theorem CtDen.mono {β β' : Env} (h : β <+: β') {c : Ct} {ys : List Value} (hd : CtDen β c ys) : CtDen β' c ys := by
  cases c with
  | lit cs => exact DenC.mono h hd
  | num k xs => exact hd
  | arr w rs => exact hd

/-- A block lies in a world. -/
def BlkIn (β : Env) (w : World) (base : Option (Nat × Nat)) (B : Blk) : Prop :=
  ∃ ys, CtDen β B.ct ys ∧
    match base with
    | some (b, o) => ∃ cs T fz, w.heap[b]? = some (.cells cs T fz) ∧ (∀ j, j < ys.length → cs[o + j]? = ys[j]?) ∧
        (B.own = true → o = 0 ∧ cs = ys.toArray ∧ T = B.ty ∧ ∀ j, fz.1 ≤ j → j < fz.2 → ys.length ≤ j)
    | none => ys = []

theorem BlkIn.mono {β β' : Env} (h : β <+: β') {w : World} {base : Option (Nat × Nat)} {B : Blk} (hd : BlkIn β w base B) : BlkIn β' w base B := by
  obtain ⟨ys, h1, h2⟩ := hd
  exact ⟨ys, h1.mono h, h2⟩

theorem BlkIn.same {β : Env} {w w' : World} {base : Option (Nat × Nat)} {B : Blk} (hd : BlkIn β w base B)
    (h : ∀ b o, base = some (b, o) → w'.heap[b]? = w.heap[b]?) : BlkIn β w' base B := by
  obtain ⟨ys, h1, h2⟩ := hd
  refine ⟨ys, h1, ?_⟩
  match base, h, h2 with
  | some (b, o), h, ⟨cs, T, fz, e, r⟩ => exact ⟨cs, T, fz, (h b o rfl).trans e, r⟩
  | none, _, h2 => exact h2

/-- The blocks of a list lie in a world, one apart from the other where one of them may be written. -/
structure Heap (β : Env) (bl : Bls) (w : World) : Prop where
  len : β.length = bl.length
  lv : ∀ (l : Nat) (B : Blk), bl[l]? = some (some B) → ∃ base, β[l]? = some base ∧ BlkIn β w base B
  sep : ∀ (l l' : Nat) (B B' : Blk) (b o b' o' : Nat), l ≠ l' → bl[l]? = some (some B) → bl[l']? = some (some B') → B.own = true →
    β[l]? = some (some (b, o)) → β[l']? = some (some (b', o')) → b ≠ b'

/-- The blocks that may be written. -/
def Owned (β : Env) (bl : Bls) (b : Nat) : Prop := ∃ (l : Nat) (B : Blk) (o : Nat), bl[l]? = some (some B) ∧ B.own = true ∧ β[l]? = some (some (b, o))

theorem Heap.lt {β : Env} {bl : Bls} {w : World} (h : Heap β bl w) {l : Nat} {B : Blk} {b o : Nat} (hl : bl[l]? = some (some B)) (hb : β[l]? = some (some (b, o))) :
    b < w.heap.size := by
  obtain ⟨base, e, hin⟩ := h.lv l B hl
  rw [hb] at e
  obtain rfl := Option.some.inj e
  obtain ⟨ys, -, cs, T, fz, e, -⟩ := hin
  exact (Array.getElem?_eq_some_iff.1 e).1

theorem Owned.lt {β : Env} {bl : Bls} {w : World} (h : Heap β bl w) {b : Nat} (ho : Owned β bl b) : b < w.heap.size := by
  obtain ⟨l, B, o, hl, -, hb⟩ := ho
  exact h.lt hl hb

/-- From one world to a later one, by what may write the blocks of O alone. -/
structure Step (O : Nat → Prop) (w w' : World) : Prop where
  os : w'.os = w.os
  tape : w'.tape = w.tape
  output : w'.output = w.output
  size : w.heap.size ≤ w'.heap.size
  kept : ∀ b, b < w.heap.size → ¬ O b → w'.heap[b]? = w.heap[b]?

theorem Step.refl (O : Nat → Prop) (w : World) : Step O w w := ⟨rfl, rfl, rfl, Nat.le_refl _, fun _ _ _ => rfl⟩

theorem Step.trans {O : Nat → Prop} {a b c : World} (h : Step O a b) (k : Step O b c) : Step O a c :=
  ⟨k.os.trans h.os, k.tape.trans h.tape, k.output.trans h.output, Nat.le_trans h.size k.size,
    fun i hi ho => (k.kept i (Nat.lt_of_lt_of_le hi h.size) ho).trans (h.kept i hi ho)⟩

/-- A step that writes blocks of O or new ones, after another. -/
theorem Step.trans' {O O' : Nat → Prop} {a b c : World} (h : Step O a b) (k : Step O' b c) (hO : ∀ i, O' i → O i ∨ a.heap.size ≤ i) : Step O a c :=
  ⟨k.os.trans h.os, k.tape.trans h.tape, k.output.trans h.output, Nat.le_trans h.size k.size,
    fun i hi ho => (k.kept i (Nat.lt_of_lt_of_le hi h.size) (fun o => (hO i o).elim ho (fun h' => by omega))).trans (h.kept i hi ho)⟩

end Go.SX
