/-
  A symbolic machine over the model's own steps: values, memory, what they stand for. No program in sight.
-/
import Derived.Orders
import Derived.Tactics
set_option linter.unusedSimpArgs false
set_option linter.unusedVariables false
namespace Go.SY
open Go

/-- Blocks by levels, with how many cells they have; cells of blocks that nobody writes any more (z), that nobody writes for a while (y); what is known of code (ck). -/
structure Env where
  b : List (Option (Nat × Nat))
  z : Nat → Option (Array Value)
  y : Nat → Option (Array Value)
  ck : FuncId → Code → Prop

def Env.fz (β : Env) (t : Bool) : Nat → Option (Array Value) := match t with
  | true => β.y
  | false => β.z

structure Env.le (β β' : Env) : Prop where
  b : β.b <+: β'.b
  z : ∀ i cs, β.z i = some cs → β'.z i = some cs
  y : ∀ i cs, β.y i = some cs → β'.y i = some cs
  ck : β'.ck = β.ck

theorem Env.le.refl (β : Env) : β.le β := ⟨List.prefix_refl _, fun _ _ h => h, fun _ _ h => h, rfl⟩
theorem Env.le.trans {α β γ : Env} (h : α.le β) (k : β.le γ) : α.le γ := ⟨h.b.trans k.b, fun i cs e => k.z i cs (h.z i cs e), fun i cs e => k.y i cs (h.y i cs e), k.ck.trans h.ck⟩
theorem Env.le.fz {β β' : Env} (h : β.le β') {t : Bool} {i : Nat} {cs : Array Value} (e : β.fz t i = some cs) : β'.fz t i = some cs := by
  cases t with
  | true => exact h.y i cs e
  | false => exact h.z i cs e
theorem Env.le.at {β β' : Env} (h : β.le β') {l : Nat} {x : Option (Nat × Nat)} (hx : β.b[l]? = some x) : β'.b[l]? = some x := by
  obtain ⟨t, ht⟩ := h.b
  rw [← ht, List.getElem?_append_left]
  · exact hx
  · exact (List.getElem?_eq_some_iff.1 hx).1

/-- A symbolic value. -/
inductive AV where
  | v (x : Value)
  | nil
  | ptr (l i w k : Nat)
  | sl (l i w n : Nat) (c : Option Nat)
  | imn (t : Bool) (k : IntKind) (xs : List Int) (c : Option Nat)
  | imr (t : Bool) (w : Nat) (rs : List (List AV)) (c : Option Nat)
  | ip (t : Bool) (row : List AV) (k : Nat)
  | mp (l : Nat)
  | yld (l : Nat)
  | fn (f : FuncId) (fst caps : List AV)
  | agg (xs : List AV)
  | ch (n : Nat) (k : IntKind) (xs : List Int)
  | tup (xs : List AV)
  | any

/-- The value of one cell. -/
def one : Value → Bool
  | .agg _ => false
  | .tuple _ => false
  | _ => true

theorem one_cells {x : Value} (h : one x = true) : x.cells = #[x] := by
  cases x <;> simp_all [one, Value.cells]

def big : Nat := 9223372036854775808

/-- A number fits its kind. -/
def inK : IntKind → Int → Bool
  | .i8, z => decide (-128 ≤ z) && decide (z ≤ 127)
  | .i16, z => decide (-32768 ≤ z) && decide (z ≤ 32767)
  | .i32, z => decide (-2147483648 ≤ z) && decide (z ≤ 2147483647)
  | .i64, z => decide (-9223372036854775808 ≤ z) && decide (z ≤ 9223372036854775807)
  | .u8, z => decide (0 ≤ z) && decide (z ≤ 255)
  | .u16, z => decide (0 ≤ z) && decide (z ≤ 65535)
  | .u32, z => decide (0 ≤ z) && decide (z ≤ 4294967295)
  | .u64, z => decide (0 ≤ z) && decide (z ≤ 18446744073709551615)

def wfV : Value → Prop
  | .int k z => inK k z = true
  | .string s => s.size < 9223372036854775808
  | _ => True

def okN (k : IntKind) (xs : List Int) : Prop := ∀ x ∈ xs, inK k x = true

/-- Cells of a block from a place on. -/
def Cells (m : Nat → Option (Array Value)) (b o : Nat) (ys : List Value) : Prop :=
  ∃ cs, m b = some cs ∧ ∀ (j : Nat) (v : Value), ys[j]? = some v → cs[o + j]? = some v

def capIs (c : Option Nat) (q : Nat) : Prop := ∀ m, c = some m → q = m

/-- A symbolic value of one cell. -/
def AV.scal : AV → Bool
  | .ch _ _ _ => false
  | .agg _ => false
  | .tup _ => false
  | _ => true

mutual
def Den (β : Env) : AV → Value → Prop
  | .v x, y => y = x ∧ one x = true ∧ wfV x
  | .nil, y => y = .slice none 0 0
  | .ptr l i w k, y => ∃ b s, β.b[l]? = some (some (b, s)) ∧ y = .pointer (some ⟨b, i * w + k, none⟩)
  | .sl l i w n c, y => ∃ A q, y = .slice A n q ∧ n ≤ q ∧ q < 9223372036854775808 ∧ capIs c q ∧ (q ≠ 0 → ∃ b s, β.b[l]? = some (some (b, s)) ∧ A = some ⟨b, i * w, none⟩ ∧ (i + q) * w ≤ s)
  | .imn t k xs c, y => ∃ A q, y = .slice A xs.length q ∧ xs.length ≤ q ∧ q < 9223372036854775808 ∧ capIs c q ∧ okN k xs ∧ (q ≠ 0 → ∃ b o, A = some ⟨b, o, none⟩ ∧ Cells (β.fz t) b o (xs.map (.int k)))
  | .imr t w rs c, y => ∃ A q ys, y = .slice A rs.length q ∧ rs.length ≤ q ∧ q < 9223372036854775808 ∧ capIs c q ∧ DenR β w rs ys ∧ (q ≠ 0 → ∃ b o, A = some ⟨b, o, none⟩ ∧ Cells (β.fz t) b o ys)
  | .ip t row k, y => ∃ b o ys, y = .pointer (some ⟨b, o + k, none⟩) ∧ DenC β row ys ∧ Cells (β.fz t) b o ys
  | .mp l, y => ∃ b s, β.b[l]? = some (some (b, s)) ∧ y = .map (some b)
  | .yld l, y => ∃ b s, β.b[l]? = some (some (b, s)) ∧ y = .func (.yield b) #[] #[]
  | .fn f fst caps, y => ∃ xs ys : List Value, y = .func (.func f) xs.toArray ys.toArray ∧ DenL β fst xs ∧ DenL β caps ys
  | .agg xs, y => ∃ ys : List Value, y = .agg ys.toArray ∧ DenC β xs ys
  | .ch n k xs, y => y = .agg (xs.map (.int k)).toArray ∧ xs.length = n ∧ okN k xs
  | .tup xs, y => ∃ ys : List Value, y = .tuple ys.toArray ∧ DenL β xs ys
  | .any, _ => True
def DenL (β : Env) : List AV → List Value → Prop
  | [], ys => ys = []
  | x :: xs, ys => ∃ y zs, ys = y :: zs ∧ Den β x y ∧ DenL β xs zs
def DenC (β : Env) : List AV → List Value → Prop
  | [], ys => ys = []
  | x :: xs, ys => if x.scal = true then ∃ y zs, ys = y :: zs ∧ Den β x y ∧ one y = true ∧ DenC β xs zs
      else match x with
        | .ch n k ns => ∃ zs, ys = ns.map (.int k) ++ zs ∧ ns.length = n ∧ okN k ns ∧ DenC β xs zs
        | _ => False
def DenR (β : Env) (w : Nat) : List (List AV) → List Value → Prop
  | [], ys => ys = []
  | r :: rs, ys => ∃ us zs, ys = us ++ zs ∧ us.length = w ∧ DenC β r us ∧ DenR β w rs zs
end

theorem den_one {β : Env} {x : AV} {y : Value} (hs : x.scal = true) (ha : x ≠ .any) (h : Den β x y) : one y = true := by
  cases x <;> simp [AV.scal] at hs <;> simp only [Den] at h
  · obtain ⟨rfl, h, -⟩ := h; exact h
  · subst h; rfl
  · obtain ⟨b, s, -, rfl⟩ := h; rfl
  · obtain ⟨A, q, rfl, -⟩ := h; rfl
  · obtain ⟨A, q, rfl, -⟩ := h; rfl
  · obtain ⟨A, q, ys, rfl, -⟩ := h; rfl
  · obtain ⟨b, o, ys, rfl, -⟩ := h; rfl
  · obtain ⟨b, s, -, rfl⟩ := h; rfl
  · obtain ⟨b, s, -, rfl⟩ := h; rfl
  · obtain ⟨xs, ys, rfl, -⟩ := h; rfl
  · exact absurd rfl ha

theorem denC_cons {β : Env} {x : AV} {xs : List AV} {ys : List Value} (hs : x.scal = true) : DenC β (x :: xs) ys ↔ ∃ y zs, ys = y :: zs ∧ Den β x y ∧ one y = true ∧ DenC β xs zs := by
  simp only [DenC, hs, if_true]

theorem denC_ch {β : Env} {n : Nat} {k : IntKind} {ns : List Int} {xs : List AV} {ys : List Value} : DenC β (.ch n k ns :: xs) ys ↔ ∃ zs, ys = ns.map (.int k) ++ zs ∧ ns.length = n ∧ okN k ns ∧ DenC β xs zs := by
  simp [DenC, AV.scal]

/-- The pieces of cells: scalars and chunks. -/
theorem denC_case {β : Env} {x : AV} {xs : List AV} {ys : List Value} (h : DenC β (x :: xs) ys) : (x.scal = true ∧ ∃ y zs, ys = y :: zs ∧ Den β x y ∧ one y = true ∧ DenC β xs zs) ∨
    (∃ n k ns, x = .ch n k ns ∧ ∃ zs, ys = ns.map (.int k) ++ zs ∧ ns.length = n ∧ okN k ns ∧ DenC β xs zs) := by
  by_cases hs : x.scal = true
  · exact .inl ⟨hs, (denC_cons hs).1 h⟩
  · cases x <;> simp only [AV.scal, not_true_eq_false] at hs
    · simp [DenC, AV.scal] at h
    · exact .inr ⟨_, _, _, rfl, denC_ch.1 h⟩
    · simp [DenC, AV.scal] at h

theorem denC_ones {β : Env} : ∀ {xs : List AV} {ys : List Value}, DenC β xs ys → ∀ y ∈ ys, one y = true
  | [], ys, h => by simp only [DenC] at h; subst h; simp
  | x :: xs, ys, h => by
    rcases denC_case h with ⟨-, y, zs, rfl, -, h1, h2⟩ | ⟨n, k, ns, rfl, zs, rfl, -, -, h2⟩
    · intro u hu
      rcases List.mem_cons.1 hu with rfl | hu
      · exact h1
      · exact denC_ones h2 u hu
    · intro u hu
      rcases List.mem_append.1 hu with hu | hu
      · obtain ⟨z, -, rfl⟩ := List.mem_map.1 hu; rfl
      · exact denC_ones h2 u hu

theorem denR_ones {β : Env} {w : Nat} : ∀ {rs : List (List AV)} {ys : List Value}, DenR β w rs ys → ∀ y ∈ ys, one y = true
  | [], ys, h => by simp only [DenR] at h; subst h; simp
  | r :: rs, ys, h => by
    simp only [DenR] at h
    obtain ⟨us, zs, rfl, -, h1, h2⟩ := h
    intro u hu
    rcases List.mem_append.1 hu with hu | hu
    · exact denC_ones h1 u hu
    · exact denR_ones h2 u hu

theorem denR_len {β : Env} {w : Nat} : ∀ {rs : List (List AV)} {ys : List Value}, DenR β w rs ys → ys.length = rs.length * w
  | [], ys, h => by simp only [DenR] at h; subst h; simp
  | r :: rs, ys, h => by
    simp only [DenR] at h
    obtain ⟨us, zs, rfl, h0, h1, h2⟩ := h
    have := denR_len h2
    simp [this, h0, Nat.add_mul, Nat.add_comm]

theorem Cells.mono {β β' : Env} (h : β.le β') {t : Bool} {b o : Nat} {ys : List Value} (hc : Cells (β.fz t) b o ys) : Cells (β'.fz t) b o ys := by
  obtain ⟨cs, h1, h2⟩ := hc
  exact ⟨cs, h.fz h1, h2⟩

/-! ### more levels: what was denoted stays -/
mutual
theorem Den.mono {β β' : Env} (h : β.le β') : ∀ {x : AV} {y : Value}, Den β x y → Den β' x y
  | .v _, _, hd => by simpa only [Den] using hd
  | .nil, _, hd => by simpa only [Den] using hd
  | .ptr .., _, hd => by
    simp only [Den] at hd ⊢
    obtain ⟨b, s, hb, e⟩ := hd
    exact ⟨b, s, h.at hb, e⟩
  | .sl .., _, hd => by
    simp only [Den] at hd ⊢
    obtain ⟨A, q, e, h1, h2, h3, hc⟩ := hd
    refine ⟨A, q, e, h1, h2, h3, fun h0 => ?_⟩
    obtain ⟨b, s, hb, e⟩ := hc h0
    exact ⟨b, s, h.at hb, e⟩
  | .imn .., _, hd => by
    simp only [Den] at hd ⊢
    obtain ⟨A, q, e, h1, h2, h3, h4, hc⟩ := hd
    refine ⟨A, q, e, h1, h2, h3, h4, fun h0 => ?_⟩
    obtain ⟨b, o, e, hb⟩ := hc h0
    exact ⟨b, o, e, hb.mono h⟩
  | .imr .., _, hd => by
    simp only [Den] at hd ⊢
    obtain ⟨A, q, ys, e, h1, h2, h3, h4, hc⟩ := hd
    refine ⟨A, q, ys, e, h1, h2, h3, DenR.mono h h4, fun h0 => ?_⟩
    obtain ⟨b, o, e, hb⟩ := hc h0
    exact ⟨b, o, e, hb.mono h⟩
  | .ip .., _, hd => by
    simp only [Den] at hd ⊢
    obtain ⟨b, o, ys, e, h1, h2⟩ := hd
    exact ⟨b, o, ys, e, DenC.mono h h1, h2.mono h⟩
  | .mp .., _, hd => by
    simp only [Den] at hd ⊢
    obtain ⟨b, s, hb, e⟩ := hd
    exact ⟨b, s, h.at hb, e⟩
  | .yld .., _, hd => by
    simp only [Den] at hd ⊢
    obtain ⟨b, s, hb, e⟩ := hd
    exact ⟨b, s, h.at hb, e⟩
  | .fn f fst caps, _, hd => by
    simp only [Den] at hd ⊢
    obtain ⟨xs, ys, e, hl, hc⟩ := hd
    exact ⟨xs, ys, e, DenL.mono h hl, DenL.mono h hc⟩
  | .agg xs, _, hd => by
    simp only [Den] at hd ⊢
    obtain ⟨ys, e, hl⟩ := hd
    exact ⟨ys, e, DenC.mono h hl⟩
  | .ch .., _, hd => by simpa only [Den] using hd
  | .tup xs, _, hd => by
    simp only [Den] at hd ⊢
    obtain ⟨ys, e, hl⟩ := hd
    exact ⟨ys, e, DenL.mono h hl⟩
  | .any, _, _ => by simp only [Den]
theorem DenL.mono {β β' : Env} (h : β.le β') : ∀ {xs : List AV} {ys : List Value}, DenL β xs ys → DenL β' xs ys
  | [], _, hd => by simpa only [DenL] using hd
  | x :: xs, _, hd => by
    simp only [DenL] at hd ⊢
    obtain ⟨y, zs, e, h1, h2⟩ := hd
    exact ⟨y, zs, e, Den.mono h h1, DenL.mono h h2⟩
theorem DenC.mono {β β' : Env} (h : β.le β') : ∀ {xs : List AV} {ys : List Value}, DenC β xs ys → DenC β' xs ys
  | [], _, hd => by simpa only [DenC] using hd
  | x :: xs, _, hd => by
    rcases denC_case hd with ⟨hs, y, zs, rfl, h1, h2, h3⟩ | ⟨n, k, ns, rfl, zs, rfl, h1, h2, h3⟩
    · exact (denC_cons hs).2 ⟨y, zs, rfl, Den.mono h h1, h2, DenC.mono h h3⟩
    · exact denC_ch.2 ⟨zs, rfl, h1, h2, DenC.mono h h3⟩
theorem DenR.mono {β β' : Env} (h : β.le β') {w : Nat} : ∀ {rs : List (List AV)} {ys : List Value}, DenR β w rs ys → DenR β' w rs ys
  | [], _, hd => by simpa only [DenR] using hd
  | r :: rs, _, hd => by
    simp only [DenR] at hd ⊢
    obtain ⟨us, zs, e, h0, h1, h2⟩ := hd
    exact ⟨us, zs, e, h0, DenC.mono h h1, DenR.mono h h2⟩
end

/-! ### blocks -/
/-- What a block holds: written out; numbers of one kind; rows of so many cells; a loop over a function; marks; a map's entries. More cells may lie behind what is told. -/
inductive Ct where
  | lit (cs : List AV)
  | num (k : IntKind) (xs : List Int)
  | rows (w : Nat) (rs : List (List AV))
  | loop (st : LoopState) (pend : Option Code) (fn : FuncId) (n : Nat) (tm : List (Nat × AV)) (ps : List Nat) (assign body : Code) (df : Nat)
  | defs
  | map (es : List (AV × AV))

abbrev Bls := List (Option Ct)

def CsDen (β : Env) : Ct → List Value → Prop
  | .lit cs, ys => DenC β cs ys
  | .num k xs, ys => ys = xs.map (.int k) ∧ okN k xs
  | .rows w rs, ys => DenR β w rs ys
  | _, _ => False

theorem CsDen.ones {β : Env} {c : Ct} {ys : List Value} (h : CsDen β c ys) : ∀ y ∈ ys, one y = true := by
  cases c with
  | lit cs => exact denC_ones h
  | num k xs => simp only [CsDen] at h; obtain ⟨rfl, -⟩ := h; simp [one]
  | rows w rs => exact denR_ones h
  | _ => exact h.elim

theorem CsDen.mono {β β' : Env} (h : β.le β') {c : Ct} {ys : List Value} (hd : CsDen β c ys) : CsDen β' c ys := by
  cases c with
  | lit cs => exact DenC.mono h hd
  | num k xs => exact hd
  | rows w rs => exact DenR.mono h hd
  | _ => exact hd.elim

def Ct.cell : Ct → Bool
  | .lit _ => true
  | .num _ _ => true
  | .rows _ _ => true
  | _ => false

/-- The value of slot t. -/
def get : List (Nat × AV) → Nat → AV
  | [], _ => .any
  | (k, x) :: r, t => if k = t then x else get r t

def TmOk (β : Env) (n : Nat) (tm : List (Nat × AV)) (tmps : Array Value) : Prop :=
  tmps.size = n ∧ ∀ s, Den β (get tm s) (tmps.getD s undef)

theorem TmOk.mono {β β' : Env} (h : β.le β') {n : Nat} {tm : List (Nat × AV)} {a : Array Value} (ht : TmOk β n tm a) : TmOk β' n tm a := ⟨ht.1, fun s => (ht.2 s).mono h⟩

/-- Entries of a map: keys and values, as they were laid. -/
def EsDen (β : Env) : List (AV × AV) → List MapEntry → Prop
  | [], es => es = []
  | (a, b) :: r, es => ∃ e q, es = e :: q ∧ Den β a e.key ∧ Den β b e.val ∧ EsDen β r q

theorem EsDen.mono {β β' : Env} (h : β.le β') : ∀ {xs : List (AV × AV)} {es : List MapEntry}, EsDen β xs es → EsDen β' xs es
  | [], _, hd => hd
  | (_, _) :: _, _, ⟨e, q, he, h1, h2, h3⟩ => ⟨e, q, he, h1.mono h, h2.mono h, h3.mono h⟩

/-- What lies in a block that is no row of cells. -/
def ObDen (β : Env) : Ct → Obj → Prop
  | .loop st pend fn n tm ps assign body df, o => ∃ tmps b s, o = .loop { state := st, pending := pend, fn := fn, tmps := tmps, params := ps.toArray, assign := assign, body := body, defers := b } ∧
      TmOk β n tm tmps ∧ β.b[df]? = some (some (b, s)) ∧ β.ck fn assign ∧ β.ck fn body ∧ ∀ c, pend = some c → ∀ f, β.ck f c
  | .defs, o => o = .deferred (some [])
  | .map es, o => ∃ ms clock, o = .map ms clock ∧ EsDen β es ms.toList
  | _, _ => False

theorem ObDen.mono {β β' : Env} (h : β.le β') {c : Ct} {o : Obj} (hd : ObDen β c o) : ObDen β' c o := by
  cases c with
  | loop st pend fn n tm ps assign body df =>
    obtain ⟨tmps, b, s, e, h1, h2, h3⟩ := hd
    exact ⟨tmps, b, s, e, h1.mono h, h.at h2, by rw [h.ck]; exact h3⟩
  | defs => exact hd
  | map es => obtain ⟨ms, c, e, h1⟩ := hd; exact ⟨ms, c, e, h1.mono h⟩
  | _ => exact hd.elim

/-- Nothing within is frozen. -/
def FzOk (z : Bool) (fz : Nat × Nat) (s : Nat) : Prop := fz.1 ≤ fz.2 ∧ (∀ j, fz.1 ≤ j → j < fz.2 → s ≤ j) ∧ (z = true → fz.1 = fz.2)

/-- Blocks that bear no marks. -/
def spz : Ct → Bool
  | .rows _ _ => true
  | .num k _ => (match k with
    | .u8 => false
    | _ => true)
  | _ => false
/-- Of which kind of numbers a block is; what lies in it behind what is told. -/
def spk : Ct → Option IntKind
  | .num k _ => some k
  | _ => none
def SpV (k : Option IntKind) (x : Value) : Prop := one x = true ∧ ∀ kk, k = some kk → ∃ z, x = .int kk z ∧ inK kk z = true
theorem SpV.ones {k : Option IntKind} {ys : List Value} (h : ∀ x ∈ ys, SpV k x) : ∀ x ∈ ys, one x = true := fun x hx => (h x hx).1
theorem SpV.none {x : Value} (h : one x = true) : SpV .none x := ⟨h, fun _ e => by cases e⟩
theorem SpV.num {k : IntKind} {xs : List Int} (h : okN k xs) : ∀ x ∈ xs.map (Value.int k), SpV (some k) x := fun x hx => by
  obtain ⟨z, hz, rfl⟩ := List.mem_map.1 hx
  exact ⟨rfl, fun kk e => by cases e; exact ⟨z, rfl, h z hz⟩⟩
/-- A block lies in a world. -/
def CtIn (β : Env) (w : World) (base : Option (Nat × Nat)) (c : Ct) : Prop :=
  match base with
  | none => CsDen β c []
  | some (b, s) => (c.cell = true ∧ ∃ ys sp T fz, w.heap[b]? = some (.cells (ys ++ sp).toArray T fz) ∧ ys.length + sp.length = s ∧ CsDen β c ys ∧ (∀ x ∈ sp, SpV (spk c) x) ∧ FzOk (spz c) fz s) ∨
      (c.cell = false ∧ ∃ o, w.heap[b]? = some o ∧ ObDen β c o)

theorem CtIn.mono {β β' : Env} (h : β.le β') {w : World} {base : Option (Nat × Nat)} {c : Ct} (hd : CtIn β w base c) : CtIn β' w base c := by
  unfold CtIn at *
  cases base with
  | none => exact CsDen.mono h hd
  | some p =>
    rcases hd with ⟨h1, ys, sp, T, fz, h2, h3, h4, h5⟩ | ⟨h1, o, h2, h3⟩
    · exact .inl ⟨h1, ys, sp, T, fz, h2, h3, h4.mono h, h5⟩
    · exact .inr ⟨h1, o, h2, h3.mono h⟩

theorem CtIn.same {β : Env} {w w' : World} {base : Option (Nat × Nat)} {c : Ct} (hd : CtIn β w base c) (h : ∀ b s, base = some (b, s) → w'.heap[b]? = w.heap[b]?) : CtIn β w' base c := by
  unfold CtIn at *
  cases base with
  | none => exact hd
  | some p => obtain ⟨b, s⟩ := p; simp only at hd ⊢; rw [h b s rfl]; exact hd

/-- The blocks of levels: they are one's own. -/
def Owned (β : Env) (bl : Bls) (b : Nat) : Prop := ∃ (l : Nat) (c : Ct) (s : Nat), bl[l]? = some (some c) ∧ β.b[l]? = some (some (b, s))

/-- The blocks of a list lie in a world, one apart from the other, and apart from all that is frozen. -/
structure Heap (β : Env) (bl : Bls) (w : World) : Prop where
  len : β.b.length = bl.length
  lv : ∀ (l : Nat) (c : Ct), bl[l]? = some (some c) → ∃ base, β.b[l]? = some base ∧ CtIn β w base c
  sep : ∀ (l l' : Nat) (c c' : Ct) (b s s' : Nat), l ≠ l' → bl[l]? = some (some c) → bl[l']? = some (some c') → β.b[l]? = some (some (b, s)) → β.b[l']? ≠ some (some (b, s'))
  frz : ∀ t b cs, β.fz t b = some cs → (∃ T fz, w.heap[b]? = some (.cells cs T fz)) ∧ ¬ Owned β bl b

theorem Heap.lt {β : Env} {bl : Bls} {w : World} (h : Heap β bl w) {l : Nat} {c : Ct} {b s : Nat} (hl : bl[l]? = some (some c)) (hb : β.b[l]? = some (some (b, s))) : b < w.heap.size := by
  obtain ⟨base, e, hin⟩ := h.lv l c hl
  rw [hb] at e
  obtain rfl := Option.some.inj e
  rcases hin with ⟨-, ys, sp, T, fz, e, -⟩ | ⟨-, o, e, -⟩ <;> exact (Array.getElem?_eq_some_iff.1 e).1

theorem Owned.lt {β : Env} {bl : Bls} {w : World} (h : Heap β bl w) {b : Nat} (ho : Owned β bl b) : b < w.heap.size := by
  obtain ⟨l, c, s, hl, hb⟩ := ho
  exact h.lt hl hb

theorem Heap.frz_lt {β : Env} {bl : Bls} {w : World} (h : Heap β bl w) {t : Bool} {b : Nat} {cs : Array Value} (hz : β.fz t b = some cs) : b < w.heap.size := by
  obtain ⟨⟨T, fz, e⟩, -⟩ := h.frz t b cs hz
  exact (Array.getElem?_eq_some_iff.1 e).1

/-- From one world to a later one, by what may write the blocks of O alone. -/
structure Step (O : Nat → Prop) (w w' : World) : Prop where
  os : w'.os = w.os
  tape : w'.tape = w.tape
  output : w'.output = w.output
  size : w.heap.size ≤ w'.heap.size
  kept : ∀ b, b < w.heap.size → ¬ O b → w'.heap[b]? = w.heap[b]?

theorem Step.refl (O : Nat → Prop) (w : World) : Step O w w := ⟨rfl, rfl, rfl, Nat.le_refl _, fun _ _ _ => rfl⟩

/-- A step that writes blocks of O or new ones, after another. -/
theorem Step.trans {O O' : Nat → Prop} {a b c : World} (h : Step O a b) (k : Step O' b c) (hO : ∀ i, O' i → O i ∨ a.heap.size ≤ i) : Step O a c :=
  ⟨k.os.trans h.os, k.tape.trans h.tape, k.output.trans h.output, Nat.le_trans h.size k.size,
    fun i hi ho => (k.kept i (Nat.lt_of_lt_of_le hi h.size) (fun o => (hO i o).elim ho (fun h' => by omega))).trans (h.kept i hi ho)⟩

theorem Step.mono {O O' : Nat → Prop} {w w' : World} (h : Step O w w') (hO : ∀ b, O b → O' b) : Step O' w w' :=
  ⟨h.os, h.tape, h.output, h.size, fun b hb hn => h.kept b hb fun ho => hn (hO b ho)⟩

/-- From memory to later memory. -/
structure Ext (β : Env) (bl : Bls) (w : World) (β' : Env) (bl' : Bls) (w' : World) : Prop where
  le : β.le β'
  heap : Heap β' bl' w'
  step : Step (Owned β bl) w w'
  own : ∀ b, Owned β' bl' b → Owned β bl b ∨ w.heap.size ≤ b
  zn : ∀ b cs, β'.z b = some cs → β.z b = some cs ∨ Owned β bl b ∨ w.heap.size ≤ b
  y : β'.y = β.y

theorem Ext.refl {β : Env} {bl : Bls} {w : World} (h : Heap β bl w) : Ext β bl w β bl w := ⟨.refl _, h, .refl _ _, fun _ h => .inl h, fun _ _ h => .inl h, rfl⟩

theorem Ext.trans {β₀ β₁ β₂ : Env} {bl₀ bl₁ bl₂ : Bls} {w₀ w₁ w₂ : World} (h : Ext β₀ bl₀ w₀ β₁ bl₁ w₁) (k : Ext β₁ bl₁ w₁ β₂ bl₂ w₂) : Ext β₀ bl₀ w₀ β₂ bl₂ w₂ where
  le := h.le.trans k.le
  heap := k.heap
  step := h.step.trans k.step h.own
  own := fun b hb => (k.own b hb).elim (h.own b) (fun h' => .inr (Nat.le_trans h.step.size h'))
  zn := fun b cs hb => (k.zn b cs hb).elim (h.zn b cs) (fun h' => h'.elim (fun h' => .inr (h.own b h')) (fun h' => .inr (.inr (Nat.le_trans h.step.size h'))))
  y := k.y.trans h.y

end Go.SY
