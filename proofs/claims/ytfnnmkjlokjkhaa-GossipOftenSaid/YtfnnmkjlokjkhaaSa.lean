/- The symbolic machine (Sy1, Sy2, Sy3, Sy4, Sy5, Sy6, Sy7, Sy8, Sy9). -/
import Derived.Orders
import Derived.Tactics
import Derived.Laws.CopyRow
import Derived.ChangeKeysEq
import Derived.Laws.StructEq
set_option linter.unusedSimpArgs false
set_option linter.unusedVariables false
/-
  A symbolic machine over the model's own steps: values, memory, what they stand for. No program in sight.
-/
namespace Go.SY
open Go
structure Env where
  b : List (Option (Nat × Nat))
  z : Nat → Option (Array Value)
  y : Nat → Option (Array Value)
  ck : FuncId → Code → Prop
def Env.fz (β : Env) (t : Bool) : Nat → Option (Array Value) := match t with
  | true => β.y
  | false => β.z
structure Env.le (β β' : Env) : Prop where
  b : β.b <+: β'.b
  z : ∀ i cs, β.z i = some cs → β'.z i = some cs
  y : ∀ i cs, β.y i = some cs → β'.y i = some cs
  ck : β'.ck = β.ck
theorem Env.le.refl (β : Env) : β.le β := ⟨List.prefix_refl _, fun _ _ h => h, fun _ _ h => h, rfl⟩
theorem Env.le.trans {α β γ : Env} (h : α.le β) (k : β.le γ) : α.le γ := ⟨h.b.trans k.b, fun i cs e => k.z i cs (h.z i cs e), fun i cs e => k.y i cs (h.y i cs e), k.ck.trans h.ck⟩
theorem Env.le.fz {β β' : Env} (h : β.le β') {t : Bool} {i : Nat} {cs : Array Value} (e : β.fz t i = some cs) : β'.fz t i = some cs := by
  cases t with
  | true => exact h.y i cs e
  | false => exact h.z i cs e
theorem Env.le.at {β β' : Env} (h : β.le β') {l : Nat} {x : Option (Nat × Nat)} (hx : β.b[l]? = some x) : β'.b[l]? = some x := by
  obtain ⟨t, ht⟩ := h.b
  rw [← ht, List.getElem?_append_left]
  · exact hx
  · exact (List.getElem?_eq_some_iff.1 hx).1
inductive AV where
  | v (x : Value)
  | nil
  | ptr (l i w k : Nat)
  | sl (l i w n : Nat) (c : Option Nat)
  | imn (t : Bool) (k : IntKind) (xs : List Int) (c : Option Nat)
  | imr (t : Bool) (w : Nat) (rs : List (List AV)) (c : Option Nat)
  | ip (t : Bool) (row : List AV) (k : Nat)
  | mp (l : Nat)
  | yld (l : Nat)
  | fn (f : FuncId) (fst caps : List AV)
  | agg (xs : List AV)
  | ch (n : Nat) (k : IntKind) (xs : List Int)
  | tup (xs : List AV)
  | any
def one : Value → Bool
  | .agg _ => false
  | .tuple _ => false
  | _ => true
theorem one_cells {x : Value} (h : one x = true) : x.cells = #[x] := by
  cases x <;> simp_all [one, Value.cells]
def inK : IntKind → Int → Bool
  | .i8, z => decide (-128 ≤ z) && decide (z ≤ 127)
  | .i16, z => decide (-32768 ≤ z) && decide (z ≤ 32767)
  | .i32, z => decide (-2147483648 ≤ z) && decide (z ≤ 2147483647)
  | .i64, z => decide (-9223372036854775808 ≤ z) && decide (z ≤ 9223372036854775807)
  | .u8, z => decide (0 ≤ z) && decide (z ≤ 255)
  | .u16, z => decide (0 ≤ z) && decide (z ≤ 65535)
  | .u32, z => decide (0 ≤ z) && decide (z ≤ 4294967295)
  | .u64, z => decide (0 ≤ z) && decide (z ≤ 18446744073709551615)
def wfV : Value → Prop
  | .int k z => inK k z = true
  | .string s => s.size < 9223372036854775808
  | _ => True
def okN (k : IntKind) (xs : List Int) : Prop := ∀ x ∈ xs, inK k x = true
def Cells (m : Nat → Option (Array Value)) (b o : Nat) (ys : List Value) : Prop :=
  ∃ cs, m b = some cs ∧ ∀ (j : Nat) (v : Value), ys[j]? = some v → cs[o + j]? = some v
def capIs (c : Option Nat) (q : Nat) : Prop := ∀ m, c = some m → q = m
def AV.scal : AV → Bool
  | .ch _ _ _ => false
  | .agg _ => false
  | .tup _ => false
  | _ => true
mutual
def Den (β : Env) : AV → Value → Prop
  | .v x, y => y = x ∧ one x = true ∧ wfV x
  | .nil, y => y = .slice none 0 0
  | .ptr l i w k, y => ∃ b s, β.b[l]? = some (some (b, s)) ∧ y = .pointer (some ⟨b, i * w + k, none⟩)
  | .sl l i w n c, y => ∃ A q, y = .slice A n q ∧ n ≤ q ∧ q < 9223372036854775808 ∧ capIs c q ∧ (q ≠ 0 → ∃ b s, β.b[l]? = some (some (b, s)) ∧ A = some ⟨b, i * w, none⟩ ∧ (i + q) * w ≤ s)
  | .imn t k xs c, y => ∃ A q, y = .slice A xs.length q ∧ xs.length ≤ q ∧ q < 9223372036854775808 ∧ capIs c q ∧ okN k xs ∧ (q ≠ 0 → ∃ b o, A = some ⟨b, o, none⟩ ∧ Cells (β.fz t) b o (xs.map (.int k)))
  | .imr t w rs c, y => ∃ A q ys, y = .slice A rs.length q ∧ rs.length ≤ q ∧ q < 9223372036854775808 ∧ capIs c q ∧ DenR β w rs ys ∧ (q ≠ 0 → ∃ b o, A = some ⟨b, o, none⟩ ∧ Cells (β.fz t) b o ys)
  | .ip t row k, y => ∃ b o ys, y = .pointer (some ⟨b, o + k, none⟩) ∧ DenC β row ys ∧ Cells (β.fz t) b o ys
  | .mp l, y => ∃ b s, β.b[l]? = some (some (b, s)) ∧ y = .map (some b)
  | .yld l, y => ∃ b s, β.b[l]? = some (some (b, s)) ∧ y = .func (.yield b) #[] #[]
  | .fn f fst caps, y => ∃ xs ys : List Value, y = .func (.func f) xs.toArray ys.toArray ∧ DenL β fst xs ∧ DenL β caps ys
  | .agg xs, y => ∃ ys : List Value, y = .agg ys.toArray ∧ DenC β xs ys
  | .ch n k xs, y => y = .agg (xs.map (.int k)).toArray ∧ xs.length = n ∧ okN k xs
  | .tup xs, y => ∃ ys : List Value, y = .tuple ys.toArray ∧ DenL β xs ys
  | .any, _ => True
def DenL (β : Env) : List AV → List Value → Prop
  | [], ys => ys = []
  | x :: xs, ys => ∃ y zs, ys = y :: zs ∧ Den β x y ∧ DenL β xs zs
def DenC (β : Env) : List AV → List Value → Prop
  | [], ys => ys = []
  | x :: xs, ys => if x.scal = true then ∃ y zs, ys = y :: zs ∧ Den β x y ∧ one y = true ∧ DenC β xs zs
      else match x with
        | .ch n k ns => ∃ zs, ys = ns.map (.int k) ++ zs ∧ ns.length = n ∧ okN k ns ∧ DenC β xs zs
        | _ => False
def DenR (β : Env) (w : Nat) : List (List AV) → List Value → Prop
  | [], ys => ys = []
  | r :: rs, ys => ∃ us zs, ys = us ++ zs ∧ us.length = w ∧ DenC β r us ∧ DenR β w rs zs
end
theorem den_one {β : Env} {x : AV} {y : Value} (hs : x.scal = true) (ha : x ≠ .any) (h : Den β x y) : one y = true := by
  cases x <;> simp [AV.scal] at hs <;> simp only [Den] at h
  · obtain ⟨rfl, h, -⟩ := h; exact h
  · subst h; rfl
  · obtain ⟨b, s, -, rfl⟩ := h; rfl
  · obtain ⟨A, q, rfl, -⟩ := h; rfl
  · obtain ⟨A, q, rfl, -⟩ := h; rfl
  · obtain ⟨A, q, ys, rfl, -⟩ := h; rfl
  · obtain ⟨b, o, ys, rfl, -⟩ := h; rfl
  · obtain ⟨b, s, -, rfl⟩ := h; rfl
  · obtain ⟨b, s, -, rfl⟩ := h; rfl
  · obtain ⟨xs, ys, rfl, -⟩ := h; rfl
  · exact absurd rfl ha
theorem denC_cons {β : Env} {x : AV} {xs : List AV} {ys : List Value} (hs : x.scal = true) : DenC β (x :: xs) ys ↔ ∃ y zs, ys = y :: zs ∧ Den β x y ∧ one y = true ∧ DenC β xs zs := by
  simp only [DenC, hs, if_true]
theorem denC_ch {β : Env} {n : Nat} {k : IntKind} {ns : List Int} {xs : List AV} {ys : List Value} : DenC β (.ch n k ns :: xs) ys ↔ ∃ zs, ys = ns.map (.int k) ++ zs ∧ ns.length = n ∧ okN k ns ∧ DenC β xs zs := by
  simp [DenC, AV.scal]
theorem denC_case {β : Env} {x : AV} {xs : List AV} {ys : List Value} (h : DenC β (x :: xs) ys) : (x.scal = true ∧ ∃ y zs, ys = y :: zs ∧ Den β x y ∧ one y = true ∧ DenC β xs zs) ∨
    (∃ n k ns, x = .ch n k ns ∧ ∃ zs, ys = ns.map (.int k) ++ zs ∧ ns.length = n ∧ okN k ns ∧ DenC β xs zs) := by
  by_cases hs : x.scal = true
  · exact .inl ⟨hs, (denC_cons hs).1 h⟩
  · cases x <;> simp only [AV.scal, not_true_eq_false] at hs
    · simp [DenC, AV.scal] at h
    · exact .inr ⟨_, _, _, rfl, denC_ch.1 h⟩
    · simp [DenC, AV.scal] at h
theorem denC_ones {β : Env} : ∀ {xs : List AV} {ys : List Value}, DenC β xs ys → ∀ y ∈ ys, one y = true
  | [], ys, h => by simp only [DenC] at h; subst h; simp
  | x :: xs, ys, h => by
    rcases denC_case h with ⟨-, y, zs, rfl, -, h1, h2⟩ | ⟨n, k, ns, rfl, zs, rfl, -, -, h2⟩
    · intro u hu
      rcases List.mem_cons.1 hu with rfl | hu
      · exact h1
      · exact denC_ones h2 u hu
    · intro u hu
      rcases List.mem_append.1 hu with hu | hu
      · obtain ⟨z, -, rfl⟩ := List.mem_map.1 hu; rfl
      · exact denC_ones h2 u hu
theorem denR_ones {β : Env} {w : Nat} : ∀ {rs : List (List AV)} {ys : List Value}, DenR β w rs ys → ∀ y ∈ ys, one y = true
  | [], ys, h => by simp only [DenR] at h; subst h; simp
  | r :: rs, ys, h => by
    simp only [DenR] at h
    obtain ⟨us, zs, rfl, -, h1, h2⟩ := h
    intro u hu
    rcases List.mem_append.1 hu with hu | hu
    · exact denC_ones h1 u hu
    · exact denR_ones h2 u hu
theorem denR_len {β : Env} {w : Nat} : ∀ {rs : List (List AV)} {ys : List Value}, DenR β w rs ys → ys.length = rs.length * w
  | [], ys, h => by simp only [DenR] at h; subst h; simp
  | r :: rs, ys, h => by
    simp only [DenR] at h
    obtain ⟨us, zs, rfl, h0, h1, h2⟩ := h
    have := denR_len h2
    simp [this, h0, Nat.add_mul, Nat.add_comm]
theorem Cells.mono {β β' : Env} (h : β.le β') {t : Bool} {b o : Nat} {ys : List Value} (hc : Cells (β.fz t) b o ys) : Cells (β'.fz t) b o ys := by
  obtain ⟨cs, h1, h2⟩ := hc
  exact ⟨cs, h.fz h1, h2⟩
mutual
theorem Den.mono {β β' : Env} (h : β.le β') : ∀ {x : AV} {y : Value}, Den β x y → Den β' x y
  | .v _, _, hd => by simpa only [Den] using hd
  | .nil, _, hd => by simpa only [Den] using hd
  | .ptr .., _, hd => by
    simp only [Den] at hd ⊢
    obtain ⟨b, s, hb, e⟩ := hd
    exact ⟨b, s, h.at hb, e⟩
  | .sl .., _, hd => by
    simp only [Den] at hd ⊢
    obtain ⟨A, q, e, h1, h2, h3, hc⟩ := hd
    refine ⟨A, q, e, h1, h2, h3, fun h0 => ?_⟩
    obtain ⟨b, s, hb, e⟩ := hc h0
    exact ⟨b, s, h.at hb, e⟩
  | .imn .., _, hd => by
    simp only [Den] at hd ⊢
    obtain ⟨A, q, e, h1, h2, h3, h4, hc⟩ := hd
    refine ⟨A, q, e, h1, h2, h3, h4, fun h0 => ?_⟩
    obtain ⟨b, o, e, hb⟩ := hc h0
    exact ⟨b, o, e, hb.mono h⟩
  | .imr .., _, hd => by
    simp only [Den] at hd ⊢
    obtain ⟨A, q, ys, e, h1, h2, h3, h4, hc⟩ := hd
    refine ⟨A, q, ys, e, h1, h2, h3, DenR.mono h h4, fun h0 => ?_⟩
    obtain ⟨b, o, e, hb⟩ := hc h0
    exact ⟨b, o, e, hb.mono h⟩
  | .ip .., _, hd => by
    simp only [Den] at hd ⊢
    obtain ⟨b, o, ys, e, h1, h2⟩ := hd
    exact ⟨b, o, ys, e, DenC.mono h h1, h2.mono h⟩
  | .mp .., _, hd => by
    simp only [Den] at hd ⊢
    obtain ⟨b, s, hb, e⟩ := hd
    exact ⟨b, s, h.at hb, e⟩
  | .yld .., _, hd => by
    simp only [Den] at hd ⊢
    obtain ⟨b, s, hb, e⟩ := hd
    exact ⟨b, s, h.at hb, e⟩
  | .fn f fst caps, _, hd => by
    simp only [Den] at hd ⊢
    obtain ⟨xs, ys, e, hl, hc⟩ := hd
    exact ⟨xs, ys, e, DenL.mono h hl, DenL.mono h hc⟩
  | .agg xs, _, hd => by
    simp only [Den] at hd ⊢
    obtain ⟨ys, e, hl⟩ := hd
    exact ⟨ys, e, DenC.mono h hl⟩
  | .ch .., _, hd => by simpa only [Den] using hd
  | .tup xs, _, hd => by
    simp only [Den] at hd ⊢
    obtain ⟨ys, e, hl⟩ := hd
    exact ⟨ys, e, DenL.mono h hl⟩
  | .any, _, _ => by simp only [Den]
theorem DenL.mono {β β' : Env} (h : β.le β') : ∀ {xs : List AV} {ys : List Value}, DenL β xs ys → DenL β' xs ys
  | [], _, hd => by simpa only [DenL] using hd
  | x :: xs, _, hd => by
    simp only [DenL] at hd ⊢
    obtain ⟨y, zs, e, h1, h2⟩ := hd
    exact ⟨y, zs, e, Den.mono h h1, DenL.mono h h2⟩
theorem DenC.mono {β β' : Env} (h : β.le β') : ∀ {xs : List AV} {ys : List Value}, DenC β xs ys → DenC β' xs ys
  | [], _, hd => by simpa only [DenC] using hd
  | x :: xs, _, hd => by
    rcases denC_case hd with ⟨hs, y, zs, rfl, h1, h2, h3⟩ | ⟨n, k, ns, rfl, zs, rfl, h1, h2, h3⟩
    · exact (denC_cons hs).2 ⟨y, zs, rfl, Den.mono h h1, h2, DenC.mono h h3⟩
    · exact denC_ch.2 ⟨zs, rfl, h1, h2, DenC.mono h h3⟩
theorem DenR.mono {β β' : Env} (h : β.le β') {w : Nat} : ∀ {rs : List (List AV)} {ys : List Value}, DenR β w rs ys → DenR β' w rs ys
  | [], _, hd => by simpa only [DenR] using hd
  | r :: rs, _, hd => by
    simp only [DenR] at hd ⊢
    obtain ⟨us, zs, e, h0, h1, h2⟩ := hd
    exact ⟨us, zs, e, h0, DenC.mono h h1, DenR.mono h h2⟩
end
inductive Ct where
  | lit (cs : List AV)
  | num (k : IntKind) (xs : List Int)
  | rows (w : Nat) (rs : List (List AV))
  | loop (st : LoopState) (pend : Option Code) (fn : FuncId) (n : Nat) (tm : List (Nat × AV)) (ps : List Nat) (assign body : Code) (df : Nat)
  | defs
  | map (es : List (AV × AV))
abbrev Bls := List (Option Ct)
def CsDen (β : Env) : Ct → List Value → Prop
  | .lit cs, ys => DenC β cs ys
  | .num k xs, ys => ys = xs.map (.int k) ∧ okN k xs
  | .rows w rs, ys => DenR β w rs ys
  | _, _ => False
theorem CsDen.ones {β : Env} {c : Ct} {ys : List Value} (h : CsDen β c ys) : ∀ y ∈ ys, one y = true := by
  cases c with
  | lit cs => exact denC_ones h
  | num k xs => simp only [CsDen] at h; obtain ⟨rfl, -⟩ := h; simp [one]
  | rows w rs => exact denR_ones h
  | _ => exact h.elim
theorem CsDen.mono {β β' : Env} (h : β.le β') {c : Ct} {ys : List Value} (hd : CsDen β c ys) : CsDen β' c ys := by
  cases c with
  | lit cs => exact DenC.mono h hd
  | num k xs => exact hd
  | rows w rs => exact DenR.mono h hd
  | _ => exact hd.elim
def Ct.cell : Ct → Bool
  | .lit _ => true
  | .num _ _ => true
  | .rows _ _ => true
  | _ => false
def get : List (Nat × AV) → Nat → AV
  | [], _ => .any
  | (k, x) :: r, t => if k = t then x else get r t
def TmOk (β : Env) (n : Nat) (tm : List (Nat × AV)) (tmps : Array Value) : Prop :=
  tmps.size = n ∧ ∀ s, Den β (get tm s) (tmps.getD s undef)
theorem TmOk.mono {β β' : Env} (h : β.le β') {n : Nat} {tm : List (Nat × AV)} {a : Array Value} (ht : TmOk β n tm a) : TmOk β' n tm a := ⟨ht.1, fun s => (ht.2 s).mono h⟩
def EsDen (β : Env) : List (AV × AV) → List MapEntry → Prop
  | [], es => es = []
  | (a, b) :: r, es => ∃ e q, es = e :: q ∧ Den β a e.key ∧ Den β b e.val ∧ EsDen β r q
theorem EsDen.mono {β β' : Env} (h : β.le β') : ∀ {xs : List (AV × AV)} {es : List MapEntry}, EsDen β xs es → EsDen β' xs es
  | [], _, hd => hd
  | (_, _) :: _, _, ⟨e, q, he, h1, h2, h3⟩ => ⟨e, q, he, h1.mono h, h2.mono h, h3.mono h⟩
def ObDen (β : Env) : Ct → Obj → Prop
  | .loop st pend fn n tm ps assign body df, o => ∃ tmps b s, o = .loop { state := st, pending := pend, fn := fn, tmps := tmps, params := ps.toArray, assign := assign, body := body, defers := b } ∧
      TmOk β n tm tmps ∧ β.b[df]? = some (some (b, s)) ∧ β.ck fn assign ∧ β.ck fn body ∧ ∀ c, pend = some c → ∀ f, β.ck f c
  | .defs, o => o = .deferred (some [])
  | .map es, o => ∃ ms clock, o = .map ms clock ∧ EsDen β es ms.toList
  | _, _ => False
theorem ObDen.mono {β β' : Env} (h : β.le β') {c : Ct} {o : Obj} (hd : ObDen β c o) : ObDen β' c o := by
  cases c with
  | loop st pend fn n tm ps assign body df =>
    obtain ⟨tmps, b, s, e, h1, h2, h3⟩ := hd
    exact ⟨tmps, b, s, e, h1.mono h, h.at h2, by rw [h.ck]; exact h3⟩
  | defs => exact hd
  | map es => obtain ⟨ms, c, e, h1⟩ := hd; exact ⟨ms, c, e, h1.mono h⟩
  | _ => exact hd.elim
def FzOk (z : Bool) (fz : Nat × Nat) (s : Nat) : Prop := fz.1 ≤ fz.2 ∧ (∀ j, fz.1 ≤ j → j < fz.2 → s ≤ j) ∧ (z = true → fz.1 = fz.2)
def spz : Ct → Bool
  | .rows _ _ => true
  | .num k _ => (match k with
    | .u8 => false
    | _ => true)
  | _ => false
def spk : Ct → Option IntKind
  | .num k _ => some k
  | _ => none
def SpV (k : Option IntKind) (x : Value) : Prop := one x = true ∧ ∀ kk, k = some kk → ∃ z, x = .int kk z ∧ inK kk z = true
theorem SpV.ones {k : Option IntKind} {ys : List Value} (h : ∀ x ∈ ys, SpV k x) : ∀ x ∈ ys, one x = true := fun x hx => (h x hx).1
theorem SpV.none {x : Value} (h : one x = true) : SpV .none x := ⟨h, fun _ e => by cases e⟩
theorem SpV.num {k : IntKind} {xs : List Int} (h : okN k xs) : ∀ x ∈ xs.map (Value.int k), SpV (some k) x := fun x hx => by
  obtain ⟨z, hz, rfl⟩ := List.mem_map.1 hx
  exact ⟨rfl, fun kk e => by cases e; exact ⟨z, rfl, h z hz⟩⟩
def CtIn (β : Env) (w : World) (base : Option (Nat × Nat)) (c : Ct) : Prop :=
  match base with
  | none => CsDen β c []
  | some (b, s) => (c.cell = true ∧ ∃ ys sp T fz, w.heap[b]? = some (.cells (ys ++ sp).toArray T fz) ∧ ys.length + sp.length = s ∧ CsDen β c ys ∧ (∀ x ∈ sp, SpV (spk c) x) ∧ FzOk (spz c) fz s) ∨
      (c.cell = false ∧ ∃ o, w.heap[b]? = some o ∧ ObDen β c o)
theorem CtIn.mono {β β' : Env} (h : β.le β') {w : World} {base : Option (Nat × Nat)} {c : Ct} (hd : CtIn β w base c) : CtIn β' w base c := by
  unfold CtIn at *
  cases base with
  | none => exact CsDen.mono h hd
  | some p =>
    rcases hd with ⟨h1, ys, sp, T, fz, h2, h3, h4, h5⟩ | ⟨h1, o, h2, h3⟩
    · exact .inl ⟨h1, ys, sp, T, fz, h2, h3, h4.mono h, h5⟩
    · exact .inr ⟨h1, o, h2, h3.mono h⟩
theorem CtIn.same {β : Env} {w w' : World} {base : Option (Nat × Nat)} {c : Ct} (hd : CtIn β w base c) (h : ∀ b s, base = some (b, s) → w'.heap[b]? = w.heap[b]?) : CtIn β w' base c := by
  unfold CtIn at *
  cases base with
  | none => exact hd
  | some p => obtain ⟨b, s⟩ := p; simp only at hd ⊢; rw [h b s rfl]; exact hd
def Owned (β : Env) (bl : Bls) (b : Nat) : Prop := ∃ (l : Nat) (c : Ct) (s : Nat), bl[l]? = some (some c) ∧ β.b[l]? = some (some (b, s))
structure Heap (β : Env) (bl : Bls) (w : World) : Prop where
  len : β.b.length = bl.length
  lv : ∀ (l : Nat) (c : Ct), bl[l]? = some (some c) → ∃ base, β.b[l]? = some base ∧ CtIn β w base c
  sep : ∀ (l l' : Nat) (c c' : Ct) (b s s' : Nat), l ≠ l' → bl[l]? = some (some c) → bl[l']? = some (some c') → β.b[l]? = some (some (b, s)) → β.b[l']? ≠ some (some (b, s'))
  frz : ∀ t b cs, β.fz t b = some cs → (∃ T fz, w.heap[b]? = some (.cells cs T fz)) ∧ ¬ Owned β bl b
theorem Heap.lt {β : Env} {bl : Bls} {w : World} (h : Heap β bl w) {l : Nat} {c : Ct} {b s : Nat} (hl : bl[l]? = some (some c)) (hb : β.b[l]? = some (some (b, s))) : b < w.heap.size := by
  obtain ⟨base, e, hin⟩ := h.lv l c hl
  rw [hb] at e
  obtain rfl := Option.some.inj e
  rcases hin with ⟨-, ys, sp, T, fz, e, -⟩ | ⟨-, o, e, -⟩ <;> exact (Array.getElem?_eq_some_iff.1 e).1
theorem Owned.lt {β : Env} {bl : Bls} {w : World} (h : Heap β bl w) {b : Nat} (ho : Owned β bl b) : b < w.heap.size := by
  obtain ⟨l, c, s, hl, hb⟩ := ho
  exact h.lt hl hb
theorem Heap.frz_lt {β : Env} {bl : Bls} {w : World} (h : Heap β bl w) {t : Bool} {b : Nat} {cs : Array Value} (hz : β.fz t b = some cs) : b < w.heap.size := by
  obtain ⟨⟨T, fz, e⟩, -⟩ := h.frz t b cs hz
  exact (Array.getElem?_eq_some_iff.1 e).1
structure Step (O : Nat → Prop) (w w' : World) : Prop where
  os : w'.os = w.os
  tape : w'.tape = w.tape
  output : w'.output = w.output
  size : w.heap.size ≤ w'.heap.size
  kept : ∀ b, b < w.heap.size → ¬ O b → w'.heap[b]? = w.heap[b]?
theorem Step.refl (O : Nat → Prop) (w : World) : Step O w w := ⟨rfl, rfl, rfl, Nat.le_refl _, fun _ _ _ => rfl⟩
theorem Step.trans {O O' : Nat → Prop} {a b c : World} (h : Step O a b) (k : Step O' b c) (hO : ∀ i, O' i → O i ∨ a.heap.size ≤ i) : Step O a c :=
  ⟨k.os.trans h.os, k.tape.trans h.tape, k.output.trans h.output, Nat.le_trans h.size k.size,
    fun i hi ho => (k.kept i (Nat.lt_of_lt_of_le hi h.size) (fun o => (hO i o).elim ho (fun h' => by omega))).trans (h.kept i hi ho)⟩
theorem Step.mono {O O' : Nat → Prop} {w w' : World} (h : Step O w w') (hO : ∀ b, O b → O' b) : Step O' w w' :=
  ⟨h.os, h.tape, h.output, h.size, fun b hb hn => h.kept b hb fun ho => hn (hO b ho)⟩
structure Ext (β : Env) (bl : Bls) (w : World) (β' : Env) (bl' : Bls) (w' : World) : Prop where
  le : β.le β'
  heap : Heap β' bl' w'
  step : Step (Owned β bl) w w'
  own : ∀ b, Owned β' bl' b → Owned β bl b ∨ w.heap.size ≤ b
  zn : ∀ b cs, β'.z b = some cs → β.z b = some cs ∨ Owned β bl b ∨ w.heap.size ≤ b
  y : β'.y = β.y
theorem Ext.refl {β : Env} {bl : Bls} {w : World} (h : Heap β bl w) : Ext β bl w β bl w := ⟨.refl _, h, .refl _ _, fun _ h => .inl h, fun _ _ h => .inl h, rfl⟩
theorem Ext.trans {β₀ β₁ β₂ : Env} {bl₀ bl₁ bl₂ : Bls} {w₀ w₁ w₂ : World} (h : Ext β₀ bl₀ w₀ β₁ bl₁ w₁) (k : Ext β₁ bl₁ w₁ β₂ bl₂ w₂) : Ext β₀ bl₀ w₀ β₂ bl₂ w₂ where
  le := h.le.trans k.le
  heap := k.heap
  step := h.step.trans k.step h.own
  own := fun b hb => (k.own b hb).elim (h.own b) (fun h' => .inr (Nat.le_trans h.step.size h'))
  zn := fun b cs hb => (k.zn b cs hb).elim (h.zn b cs) (fun h' => h'.elim (fun h' => .inr (h.own b h')) (fun h' => .inr (.inr (Nat.le_trans h.step.size h'))))
  y := k.y.trans h.y
end Go.SY
/-
  The symbolic machine: what types say, cells taken apart, read and written.
-/
namespace Go.SY
open Go
def nth {α : Type} : List α → Nat → Option α
  | [], _ => none
  | a :: r, i => if i = 0 then some a else nth r (i - 1)
theorem nth_eq {α : Type} : ∀ (l : List α) (i : Nat), nth l i = l[i]?
  | [], _ => by simp [nth]
  | a :: r, 0 => by simp [nth]
  | a :: r, i + 1 => by simp [nth, nth_eq r i]
def lvl : Bls → Nat → Option Ct
  | [], _ => none
  | b :: r, l => if l = 0 then b else lvl r (l - 1)
def setl : Bls → Nat → Option Ct → Bls
  | [], _, _ => []
  | b :: r, l, x => if l = 0 then x :: r else b :: setl r (l - 1) x
theorem lvl_get : ∀ {bl : Bls} {l : Nat} {c : Ct}, lvl bl l = some c → bl[l]? = some (some c)
  | [], _, _, h => by simp [lvl] at h
  | b :: r, 0, c, h => by simp [lvl] at h; simp [h]
  | b :: r, l + 1, c, h => by simp [lvl] at h; simpa using lvl_get h
theorem setl_set : ∀ (bl : Bls) (l : Nat) (x : Option Ct), setl bl l x = bl.set l x
  | [], _, _ => by simp [setl]
  | b :: r, 0, x => by simp [setl]
  | b :: r, l + 1, x => by simp [setl, setl_set r l x]
inductive KD where
  | int (k : IntKind)
  | bool
  | str
  | ptr (e : TypeId)
  | slice (e : TypeId) (sz by_ : Nat)
  | arr (n : Nat) (e : TypeId) (sz : Nat)
  | struct (fs : List (Nat × Nat × Bool))
  | map (k e : TypeId)
  | other
inductive Lf where
  | int (k : IntKind)
  | str
  | bool
  | ints (n : Nat) (k : IntKind)
def Lf.wid : Lf → Nat
  | .ints n _ => n
  | _ => 1
def lfw : List Lf → Nat
  | [] => 0
  | l :: r => l.wid + lfw r
def eqFs (P : Program) (g : TypeId → Option (List Lf)) : List Field → Nat → Option (List Lf)
  | [], _ => some []
  | f :: fs, o => if f.name ≠ "_" ∧ f.offset = o then (match g f.type with
      | some L => if lfw L = P.cellsOf f.type ∧ P.cellsOf f.type ≠ 0 then (match eqFs P g fs (o + P.cellsOf f.type) with
        | some r => some (L ++ r)
        | none => none) else none
      | none => none) else none
def eqLf (P : Program) : Nat → TypeId → Option (List Lf)
  | 0, _ => none
  | d + 1, t => match P.underlying t with
    | some (.int k) => some [.int k]
    | some .string => some [.str]
    | some .bool => some [.bool]
    | some (.array n e) => (match P.underlying e with
      | some (.int k) => if P.cellsOf e = 1 then some [.ints n k] else none
      | _ => none)
    | some (.struct fs) => if P.stoodInHeld t = true then none else eqFs P (eqLf P d) fs.toList 0
    | _ => none
structure TI where
  sz : Nat
  by_ : Nat
  ag : Bool
  kd : KD
  ik : Option IntKind
  zc : Option (List AV)
  eq : Option (List Lf)
def aggD : TypeDesc → Bool
  | .struct _ => true
  | .array _ _ => true
  | _ => false
def agOf (P : Program) (t : TypeId) : Bool := match P.underlying t with
  | some d => aggD d
  | none => false
def kdOf (P : Program) : TypeDesc → KD
  | .int k => .int k
  | .bool => .bool
  | .string => .str
  | .pointer e => .ptr e
  | .slice e => .slice e (P.cellsOf e) (P.bytesOf e)
  | .array n e => .arr n e (P.cellsOf e)
  | .struct fs => if fs.toList.all (fun f => (P.underlying f.type).isSome) = true then .struct (fs.toList.map fun f => (f.offset, P.cellsOf f.type, agOf P f.type)) else .other
  | .map k e => .map k e
  | _ => .other
theorem kdOf_ptr {P : Program} {d : TypeDesc} {e : TypeId} (h : kdOf P d = .ptr e) : d = .pointer e := by
  cases d <;> simp only [kdOf] at h <;> first | (cases h; done) | (split at h <;> cases h; done) | (rw [KD.ptr.inj h])
theorem kdOf_bool {P : Program} {d : TypeDesc} (h : kdOf P d = .bool) : d = .bool := by
  cases d <;> simp only [kdOf] at h <;> first | rfl | (cases h; done) | (split at h <;> cases h; done)
theorem kdOf_str {P : Program} {d : TypeDesc} (h : kdOf P d = .str) : d = .string := by
  cases d <;> simp only [kdOf] at h <;> first | rfl | (cases h; done) | (split at h <;> cases h; done)
theorem kdOf_int {P : Program} {d : TypeDesc} {k : IntKind} (h : kdOf P d = .int k) : d = .int k := by
  cases d <;> simp only [kdOf] at h <;> first | (cases h; done) | (split at h <;> cases h; done) | (rw [KD.int.inj h])
theorem kdOf_slice {P : Program} {d : TypeDesc} {e : TypeId} {sz b : Nat} (h : kdOf P d = .slice e sz b) : d = .slice e ∧ P.cellsOf e = sz ∧ P.bytesOf e = b := by
  cases d <;> simp only [kdOf] at h <;> first | (cases h; done) | (split at h <;> cases h; done) | (obtain ⟨rfl, h1, h2⟩ := KD.slice.inj h; exact ⟨rfl, h1, h2⟩)
theorem kdOf_arr {P : Program} {d : TypeDesc} {e : TypeId} {n sz : Nat} (h : kdOf P d = .arr n e sz) : d = .array n e ∧ P.cellsOf e = sz := by
  cases d <;> simp only [kdOf] at h <;> first | (cases h; done) | (split at h <;> cases h; done) | (obtain ⟨rfl, rfl, h1⟩ := KD.arr.inj h; exact ⟨rfl, h1⟩)
def segsOf (P : Program) : Nat → TypeId → List (Option (Nat × IntKind))
  | 0, t => List.replicate (P.cellsOf t) none
  | d + 1, t => match P.underlying t with
    | some (.struct fs) => fs.toList.flatMap fun f => segsOf P d f.type
    | some (.array n e) => (match P.underlying e with
      | some (.int k) => if P.cellsOf t = n then [some (n, k)] else List.replicate (P.cellsOf t) none
      | _ => List.replicate (P.cellsOf t) none)
    | _ => List.replicate (P.cellsOf t) none
def mk : Value → AV
  | .agg _ => .any
  | .tuple xs => if xs.size = 0 then .tup [] else .any
  | .slice none 0 0 => .nil
  | .int k z => if inK k z = true then .v (.int k z) else .any
  | .string s => if s.size < 9223372036854775808 then .v (.string s) else .any
  | x => .v x
def numsV (k : IntKind) : List Value → Option (List Int)
  | [] => some []
  | .int k' z :: r => if k' = k ∧ inK k z = true then (match numsV k r with
      | some zs => some (z :: zs)
      | none => none) else none
  | _ :: _ => none
def chunk : List (Option (Nat × IntKind)) → List Value → Option (List AV)
  | [], [] => some []
  | [], _ :: _ => none
  | none :: ss, vs => (match vs with
      | [] => none
      | v :: r => (match chunk ss r with
        | some q => some (mk v :: q)
        | none => none))
  | some (n, k) :: ss, vs => if n ≤ vs.length then (match numsV k (vs.take n) with
      | some zs => (match chunk ss (vs.drop n) with
        | some q => some (.ch n k zs :: q)
        | none => none)
      | none => none) else none
def ikOf (P : Program) (t : TypeId) : Option IntKind := match P.underlying t with
  | some (.int k) => some k
  | some (.array _ e) => (match P.underlying e with
    | some (.int k) => some k
    | _ => none)
  | some (.slice e) => (match P.underlying e with
    | some (.int k) => some k
    | _ => none)
  | _ => none
def zcOf (P : Program) (t : TypeId) (i : TypeInfo) : Option (List AV) := match i.zero with
  | none => none
  | some v => if v.cells.toList.all one = true then chunk (segsOf P 8 t) v.cells.toList else none
def ti (P : Program) (t : TypeId) : Option TI :=
  match P.info? t, P.underlying t with
  | some i, some d => some { sz := i.size, by_ := i.bytes, ag := aggD d, kd := kdOf P d, ik := ikOf P t, zc := zcOf P t i, eq := eqLf P 8 t }
  | _, _ => none
theorem ti_spec {P : Program} {t : TypeId} {T : TI} (h : ti P t = some T) : ∃ i d, P.info? t = some i ∧ P.underlying t = some d ∧ T.sz = i.size ∧ T.by_ = i.bytes ∧ T.ag = aggD d ∧
    T.kd = kdOf P d ∧ T.ik = ikOf P t ∧ T.zc = zcOf P t i ∧ T.eq = eqLf P 8 t := by
  unfold ti at h
  split at h
  · rename_i i d h1 h2
    obtain rfl := Option.some.inj h
    exact ⟨i, d, h1, h2, rfl, rfl, rfl, rfl, rfl, rfl, rfl⟩
  · cases h
section
variable {P : Program} (w : World)
theorem ti_sizeOf {t : TypeId} {T : TI} (h : ti P t = some T) : (sizeOf t).run P w = .ok T.sz w := by
  obtain ⟨i, d, hi, -, hs, -⟩ := ti_spec h
  simp [sizeOf, typeInfo, hi, hs]
theorem ti_isAgg {t : TypeId} {T : TI} (h : ti P t = some T) : (isAgg t).run P w = .ok T.ag w := by
  obtain ⟨i, d, -, hd, -, -, hs, -⟩ := ti_spec h
  simp only [isAgg, underlying, Sem.run_bind, run_program, Result.andThen_ok, hd, hs]
  cases d <;> rfl
theorem underlying_run {t : TypeId} {d : TypeDesc} (h : P.underlying t = some d) : (underlying t).run P w = .ok d w := by
  simp [underlying, h]
theorem sizeOf_pos {t : TypeId} {n : Nat} (h : P.cellsOf t = n) (hn : n ≠ 0) : (sizeOf t).run P w = .ok n w := by
  unfold Program.cellsOf at h
  cases hi : P.info? t with
  | none => simp [hi] at h; omega
  | some i => simp [hi] at h; simp [sizeOf, typeInfo, hi, h]
end
theorem den_mk (β : Env) (x : Value) : Den β (mk x) x := by
  unfold mk
  split
  · simp only [Den]
  · split
    · rename_i xs h
      simp only [Den]
      exact ⟨[], by rw [Array.eq_empty_of_size_eq_zero h], by simp only [DenL]⟩
    · simp only [Den]
  · simp only [Den]
  · split
    · rename_i h; simp only [Den, one, wfV, true_and]; exact h
    · simp only [Den]
  · split
    · rename_i h; simp only [Den, one, wfV, true_and]; exact h
    · simp only [Den]
  · rename_i h1 h2 h3 h4 h5
    simp only [Den, true_and]
    cases x <;> simp_all [one, wfV]
theorem mk_scal {x : Value} (h : one x = true) : (mk x).scal = true := by
  unfold mk
  split
  · simp [one] at h
  · simp [one] at h
  · rfl
  · split <;> rfl
  · split <;> rfl
  · rfl
def wid : AV → Nat
  | .ch n _ _ => n
  | _ => 1
def wids : List AV → Nat
  | [] => 0
  | c :: cs => wid c + wids cs
def dr : List AV → Nat → Option (List AV)
  | [], o => if o = 0 then some [] else none
  | c :: cs, o => if o = 0 then some (c :: cs) else match c with
    | .ch n k xs => if n ≤ o then dr cs (o - n) else some (.ch (n - o) k (xs.drop o) :: cs)
    | _ => dr cs (o - 1)
def tk : List AV → Nat → Option (List AV)
  | [], s => if s = 0 then some [] else none
  | c :: cs, s => if s = 0 then some [] else match c with
    | .ch n k xs => if n ≤ s then (match tk cs (s - n) with | some r => some (.ch n k xs :: r) | none => none) else some [.ch s k (xs.take s)]
    | c => match tk cs (s - 1) with | some r => some (c :: r) | none => none
theorem okN_sub {k : IntKind} {xs ys : List Int} (h : okN k xs) (hs : ∀ y ∈ ys, y ∈ xs) : okN k ys := fun y hy => h y (hs y hy)
theorem okN_take {k : IntKind} {xs : List Int} (h : okN k xs) (n : Nat) : okN k (xs.take n) := okN_sub h fun _ hy => List.mem_of_mem_take hy
theorem okN_drop {k : IntKind} {xs : List Int} (h : okN k xs) (n : Nat) : okN k (xs.drop n) := okN_sub h fun _ hy => List.mem_of_mem_drop hy
theorem okN_append {k : IntKind} {xs ys : List Int} (h : okN k xs) (g : okN k ys) : okN k (xs ++ ys) := fun y hy => (List.mem_append.1 hy).elim (h y) (g y)
theorem okN_set {k : IntKind} {xs : List Int} (h : okN k xs) {i : Nat} {z : Int} (hz : inK k z = true) : okN k (xs.set i z) := fun y hy => by
  rcases List.mem_or_eq_of_mem_set hy with hy | rfl
  · exact h y hy
  · exact hz
theorem okN_get {k : IntKind} {xs : List Int} (h : okN k xs) {i : Nat} (hi : i < xs.length) : inK k (xs[i]?.getD 0) = true := by
  rw [List.getElem?_eq_getElem hi]; exact h _ (List.getElem_mem hi)
theorem denC_len {β : Env} : ∀ {cs : List AV} {ys : List Value}, DenC β cs ys → ys.length = wids cs
  | [], _, h => by simp only [DenC] at h; subst h; rfl
  | c :: cs, _, h => by
    rcases denC_case h with ⟨hs, y, zs, rfl, h1, h2, h3⟩ | ⟨n, k, ns, rfl, zs, rfl, h1, h2, h3⟩
    · have : wid c = 1 := by cases c <;> first | rfl | (simp [AV.scal] at hs)
      simp [wids, this, denC_len h3, Nat.add_comm]
    · simp [wids, wid, h1, denC_len h3]
theorem denC_append {β : Env} : ∀ {cs ds : List AV} {ys zs : List Value}, DenC β cs ys → DenC β ds zs → DenC β (cs ++ ds) (ys ++ zs)
  | [], _, _, _, h1, h2 => by simp only [DenC] at h1; subst h1; exact h2
  | c :: cs, _, _, _, h, h2 => by
    rcases denC_case h with ⟨hs, y, zs, rfl, h3, h4, h5⟩ | ⟨n, k, ns, rfl, zs, rfl, h3, h4, h5⟩
    · exact (denC_cons hs).2 ⟨y, _, rfl, h3, h4, denC_append h5 h2⟩
    · exact denC_ch.2 ⟨_, by simp, h3, h4, denC_append h5 h2⟩
theorem denC_dr {β : Env} : ∀ {cs cs' : List AV} {ys : List Value} {o : Nat}, DenC β cs ys → dr cs o = some cs' → o ≤ ys.length ∧ DenC β cs' (ys.drop o)
  | [], cs', ys, o, h, he => by
    simp only [dr] at he
    split at he
    · rename_i h0; subst h0; obtain rfl := Option.some.inj he; exact ⟨Nat.zero_le _, by simpa using h⟩
    · cases he
  | c :: cs, cs', ys, o, h, he => by
    simp only [dr] at he
    split at he
    · rename_i h0; subst h0; obtain rfl := Option.some.inj he; exact ⟨Nat.zero_le _, by simpa using h⟩
    · rename_i h0
      rcases denC_case h with ⟨hs, y, zs, rfl, h1, h2, h3⟩ | ⟨n, k, ns, rfl, zs, rfl, h1, h2, h3⟩
      · split at he
        · simp [AV.scal] at hs
        · obtain ⟨h4, h5⟩ := denC_dr h3 he
          refine ⟨by simp; omega, ?_⟩
          obtain ⟨o', rfl⟩ : ∃ o', o = o' + 1 := ⟨o - 1, by omega⟩
          simpa using h5
      · simp only at he
        split at he
        · rename_i hle
          obtain ⟨h4, h5⟩ := denC_dr h3 he
          refine ⟨by simp [h1]; omega, ?_⟩
          rw [List.drop_append, List.drop_of_length_le (by simp; omega)]
          simpa [h1] using h5
        · rename_i hle
          obtain rfl := Option.some.inj he
          refine ⟨by simp [h1]; omega, ?_⟩
          rw [List.drop_append_of_le_length (by simp; omega)]
          exact denC_ch.2 ⟨zs, by simp, by simp [h1], okN_drop h2 _, h3⟩
theorem denC_tk {β : Env} : ∀ {cs cs' : List AV} {ys : List Value} {s : Nat}, DenC β cs ys → tk cs s = some cs' → s ≤ ys.length ∧ DenC β cs' (ys.take s)
  | [], cs', ys, s, h, he => by
    simp only [tk] at he
    split at he
    · rename_i h0; subst h0; obtain rfl := Option.some.inj he; exact ⟨Nat.zero_le _, by simp [DenC]⟩
    · cases he
  | c :: cs, cs', ys, s, h, he => by
    simp only [tk] at he
    split at he
    · rename_i h0; subst h0; obtain rfl := Option.some.inj he; exact ⟨Nat.zero_le _, by simp [DenC]⟩
    · rename_i h0
      rcases denC_case h with ⟨hs, y, zs, rfl, h1, h2, h3⟩ | ⟨n, k, ns, rfl, zs, rfl, h1, h2, h3⟩
      · split at he
        · simp [AV.scal] at hs
        · split at he
          · rename_i r hr
            obtain rfl := Option.some.inj he
            obtain ⟨h4, h5⟩ := denC_tk h3 hr
            refine ⟨by simp; omega, ?_⟩
            obtain ⟨s', rfl⟩ : ∃ s', s = s' + 1 := ⟨s - 1, by omega⟩
            exact (denC_cons hs).2 ⟨y, _, rfl, h1, h2, by simpa using h5⟩
          · cases he
      · simp only at he
        split at he
        · rename_i hle
          split at he
          · rename_i r hr
            obtain rfl := Option.some.inj he
            obtain ⟨h4, h5⟩ := denC_tk h3 hr
            refine ⟨by simp [h1]; omega, ?_⟩
            rw [List.take_append, List.take_of_length_le (by simp; omega)]
            exact denC_ch.2 ⟨_, rfl, h1, h2, by simpa [h1] using h5⟩
          · cases he
        · rename_i hle
          obtain rfl := Option.some.inj he
          refine ⟨by simp [h1]; omega, ?_⟩
          rw [List.take_append_of_le_length (by simp; omega)]
          exact denC_ch.2 ⟨[], by simp, by simp [h1]; omega, okN_take h2 _, by simp [DenC]⟩
def flat : AV → Nat → Option (List AV)
  | .agg xs, sz => if wids xs = sz then some xs else none
  | .ch n k xs, sz => if n = sz then some [.ch n k xs] else none
  | .tup _, _ => none
  | .any, _ => none
  | x, sz => if sz = 1 then some [x] else none
theorem den_flat {β : Env} {x : AV} {y : Value} {sz : Nat} {cs : List AV} (hd : Den β x y) (h : flat x sz = some cs) : DenC β cs y.cells.toList ∧ y.cells.toList.length = sz := by
  have scal : x.scal = true → x ≠ .any → (if sz = 1 then some [x] else none) = some cs → DenC β cs y.cells.toList ∧ y.cells.toList.length = sz := by
    intro hs ha h
    split at h
    · rename_i h1
      obtain rfl := Option.some.inj h
      have ho := den_one hs ha hd
      rw [one_cells ho]
      exact ⟨(denC_cons hs).2 ⟨y, [], rfl, hd, ho, by simp [DenC]⟩, h1.symm⟩
    · cases h
  cases x with
  | agg xs =>
    simp only [flat] at h
    split at h
    · rename_i hw
      obtain rfl := Option.some.inj h
      simp only [Den] at hd
      obtain ⟨ys, rfl, hc⟩ := hd
      exact ⟨hc, by rw [← hw]; exact denC_len hc⟩
    · cases h
  | ch n k xs =>
    simp only [flat] at h
    split at h
    · rename_i hw
      obtain rfl := Option.some.inj h
      simp only [Den] at hd
      obtain ⟨rfl, hn, ho⟩ := hd
      exact ⟨denC_ch.2 ⟨[], by simp [Value.cells], hn, ho, by simp [DenC]⟩, by simp [Value.cells, hn, hw]⟩
    · cases h
  | tup xs => simp [flat] at h
  | any => simp [flat] at h
  | _ => exact scal rfl (by simp) h
def at1 (cs : List AV) (o : Nat) : Option AV :=
  match dr cs o with
  | some (.ch n k xs :: _) => if 0 < n then some (.v (.int k (xs[0]?.getD 0))) else none
  | some (c :: _) => if c.scal = true then some c else none
  | _ => none
theorem at1_sound {β : Env} {cs : List AV} {ys : List Value} {o : Nat} {r : AV} (hc : DenC β cs ys) (h : at1 cs o = some r) : ∃ y, ys[o]? = some y ∧ Den β r y := by
  unfold at1 at h
  split at h
  · rename_i n k xs rest hd
    split at h
    · rename_i hn
      obtain rfl := Option.some.inj h
      obtain ⟨h1, h2⟩ := denC_dr hc hd
      obtain ⟨zs, h3, h4, h5, -⟩ := denC_ch.1 h2
      have hlt : 0 < xs.length := by omega
      refine ⟨.int k xs[0], ?_, ?_⟩
      · have := congrArg (fun l => l[0]?) h3
        simpa [List.getElem?_append_left, hlt] using this
      · simp only [Den, List.getElem?_eq_getElem hlt, Option.getD_some, one, wfV, true_and]
        exact h5 _ (List.getElem_mem hlt)
    · cases h
  · rename_i c rest hnc hd
    split at h
    · rename_i hs
      obtain rfl := Option.some.inj h
      obtain ⟨h1, h2⟩ := denC_dr hc hd
      obtain ⟨y, zs, h3, h4, h5, -⟩ := (denC_cons hs).1 h2
      refine ⟨y, ?_, h4⟩
      have := congrArg (fun l => l[0]?) h3
      simpa using this
    · cases h
  · cases h
def pack (ps : List AV) : AV := match ps with
  | [.ch n k xs] => .ch n k xs
  | ps => .agg ps
theorem pack_sound {β : Env} {ps : List AV} {ys : List Value} (h : DenC β ps ys) : Den β (pack ps) (.agg ys.toArray) := by
  unfold pack
  split
  · obtain ⟨zs, rfl, h1, h2, h3⟩ := denC_ch.1 h
    simp only [DenC] at h3
    subst h3
    simp only [Den, List.append_nil, true_and]
    exact ⟨h1, h2⟩
  · simp only [Den]; exact ⟨ys, rfl, h⟩
def parts : AV → Option (List AV)
  | .agg xs => some xs
  | .ch n k xs => some [.ch n k xs]
  | _ => none
theorem parts_sound {β : Env} {x : AV} {ps : List AV} {y : Value} (hd : Den β x y) (h : parts x = some ps) : ∃ ys : List Value, y = .agg ys.toArray ∧ DenC β ps ys := by
  cases x <;> simp only [parts, Option.some.injEq] at h <;> try (cases h; done)
  · subst h; simpa only [Den] using hd
  · subst h
    simp only [Den] at hd
    obtain ⟨rfl, h1, h2⟩ := hd
    exact ⟨_, rfl, denC_ch.2 ⟨[], by simp, h1, h2, by simp [DenC]⟩⟩
def rdC (cs : List AV) (o : Nat) (T : TI) : Option AV :=
  match T.ag with
  | true => (match dr cs o with
      | some c1 => (match tk c1 T.sz with
        | some c2 => some (pack c2)
        | none => none)
      | none => none)
  | false => at1 cs o
def Rd (β : Env) (ys : List Value) (o : Nat) (T : TI) (r : AV) : Prop :=
  (T.ag = true ∧ o + T.sz ≤ ys.length ∧ Den β r (.agg ((ys.drop o).take T.sz).toArray)) ∨ (T.ag = false ∧ ∃ y, ys[o]? = some y ∧ Den β r y)
theorem rdC_sound {β : Env} {cs : List AV} {ys : List Value} {o : Nat} {T : TI} {r : AV} (hc : DenC β cs ys) (h : rdC cs o T = some r) : Rd β ys o T r := by
  unfold rdC at h
  cases hag : T.ag with
  | true =>
    simp only [hag] at h
    split at h
    · rename_i c1 h1
      split at h
      · rename_i c2 h2
        obtain rfl := Option.some.inj h
        obtain ⟨h3, h4⟩ := denC_dr hc h1
        obtain ⟨h5, h6⟩ := denC_tk h4 h2
        exact .inl ⟨hag, by simp at h5; omega, pack_sound h6⟩
      · cases h
    · cases h
  | false =>
    simp only [hag] at h
    exact .inr ⟨hag, at1_sound hc h⟩
theorem Rd.mono_at {β : Env} {us ys zs : List Value} {o k w : Nat} {T : TI} {r : AV} (h : Rd β us k T r) (hu : us.length = w) (ho : ∀ j, j < w → ys[o + j]? = us[j]?) (hl : o + w ≤ ys.length) : Rd β ys (o + k) T r := by
  rcases h with ⟨h1, h2, h3⟩ | ⟨h1, y, h2, h3⟩
  · refine .inl ⟨h1, by omega, ?_⟩
    have e : (ys.drop (o + k)).take T.sz = (us.drop k).take T.sz := by
      apply List.ext_getElem?
      intro j
      by_cases hj : j < T.sz
      · rw [List.getElem?_take_of_lt hj, List.getElem?_take_of_lt hj, List.getElem?_drop, List.getElem?_drop, Nat.add_assoc, ho _ (by omega)]
      · rw [List.getElem?_eq_none (by simp; omega), List.getElem?_eq_none (by simp; omega)]
    rw [e]; exact h3
  · refine .inr ⟨h1, y, ?_, h3⟩
    rw [ho k (by have := (List.getElem?_eq_some_iff.1 h2).1; omega)]; exact h2
theorem denR_row {β : Env} {w : Nat} : ∀ {rs : List (List AV)} {ys : List Value} {i : Nat}, DenR β w rs ys → i < rs.length → ∃ us, DenC β (rs[i]?.getD []) us ∧ us.length = w ∧ (∀ j, j < w → ys[i * w + j]? = us[j]?) ∧ i * w + w ≤ ys.length
  | [], _, i, _, h => by simp at h
  | r :: rs, ys, 0, h, _ => by
    simp only [DenR] at h
    obtain ⟨us, zs, rfl, h0, h1, h2⟩ := h
    refine ⟨us, by simpa using h1, h0, fun j hj => ?_, by simp [h0]⟩
    rw [Nat.zero_mul, Nat.zero_add, List.getElem?_append_left (by omega)]
  | r :: rs, ys, i + 1, h, hi => by
    simp only [DenR] at h
    obtain ⟨us, zs, rfl, h0, h1, h2⟩ := h
    obtain ⟨vs, h3, h4, h5, h6⟩ := denR_row (i := i) h2 (by simpa using hi)
    refine ⟨vs, by simpa using h3, h4, fun j hj => ?_, by simp [h0, Nat.add_mul]; omega⟩
    rw [List.getElem?_append_right (by rw [h0, Nat.add_mul]; omega), ← h5 j hj]
    congr 1
    rw [h0, Nat.add_mul]; omega
def rdCt (c : Ct) (i w k : Nat) (T : TI) : Option (Bool × AV) :=
  match c with
  | .lit cs => (match rdC cs (i * w + k) T with
    | some r => some (true, r)
    | none => none)
  | .num kk xs => (match T.ag with
    | true => if i * w + k = 0 then some (decide (xs.length = T.sz), .ch T.sz kk xs) else none
    | false => if k = 0 then (if w = 1 then some (decide (i < xs.length), .v (.int kk (xs[i]?.getD 0))) else none) else none)
  | .rows w' rs => if w = w' then (match rdC (rs[i]?.getD []) k T with
      | some r => some (decide (i < rs.length), r)
      | none => none) else none
  | _ => none
theorem rdCt_sound {β : Env} {c : Ct} {i w k : Nat} {T : TI} {vc : Bool} {r : AV} {ys : List Value} (hc : CsDen β c ys) (h : rdCt c i w k T = some (vc, r)) (hvc : vc = true) : Rd β ys (i * w + k) T r := by
  cases c with
  | lit cs =>
    simp only [rdCt] at h
    split at h
    · rename_i r' hr
      obtain ⟨rfl, rfl⟩ := Prod.mk.inj (Option.some.inj h)
      exact rdC_sound hc hr
    · cases h
  | num kk xs =>
    simp only [CsDen] at hc
    obtain ⟨rfl, hok⟩ := hc
    simp only [rdCt] at h
    cases hag : T.ag with
    | true =>
      simp only [hag] at h
      split at h
      · rename_i h0
        obtain ⟨rfl, rfl⟩ := Prod.mk.inj (Option.some.inj h)
        have hl : xs.length = T.sz := by simpa using hvc
        refine .inl ⟨hag, by rw [h0]; simp [hl], ?_⟩
        rw [h0, List.drop_zero, List.take_of_length_le (by simp [hl])]
        simp only [Den, true_and]
        exact ⟨hl, hok⟩
      · cases h
    | false =>
      simp only [hag] at h
      split at h
      · rename_i h0
        split at h
        · rename_i h1
          obtain ⟨rfl, rfl⟩ := Prod.mk.inj (Option.some.inj h)
          have hlt : i < xs.length := by simpa using hvc
          subst h0; subst h1
          refine .inr ⟨hag, .int kk xs[i], by simp [hlt], ?_⟩
          simp only [Den, List.getElem?_eq_getElem hlt, Option.getD_some, one, wfV, true_and]
          exact hok _ (List.getElem_mem hlt)
        · cases h
      · cases h
  | rows w' rs =>
    simp only [CsDen] at hc
    simp only [rdCt] at h
    split at h
    · rename_i hw
      subst hw
      split at h
      · rename_i r' hr
        obtain ⟨rfl, rfl⟩ := Prod.mk.inj (Option.some.inj h)
        have hlt : i < rs.length := by simpa using hvc
        obtain ⟨us, h1, h2, h3, h4⟩ := denR_row hc hlt
        exact (rdC_sound h1 hr).mono_at (zs := []) h2 h3 h4
      · cases h
    · cases h
  | _ => exact hc.elim
end Go.SY
/-
  The symbolic machine: what is written; memory read, written, made, given up and frozen in a world.
-/
namespace Go.SY
open Go
def wrC : List AV → Nat → List AV → Nat → Option (List AV)
  | [], o, fs, sz => if o = 0 then (if sz = 0 then some fs else none) else none
  | c :: cs, o, fs, sz => (match c with
    | .ch n k xs => if o < n then (match fs with
        | [.v (.int k' z)] => if k' = k then (if sz = 1 then some (.ch n k (xs.set o z) :: cs) else none) else none
        | [.ch m k' zs] => if k' = k then (if m = sz then (if o + m ≤ n then some (.ch n k (xs.take o ++ (zs ++ xs.drop (o + m))) :: cs) else none) else none) else none
        | fs => if o = 0 then (match dr (.ch n k xs :: cs) sz with
          | some b => some (fs ++ b)
          | none => none) else none)
      else (match wrC cs (o - n) fs sz with
        | some r => some (.ch n k xs :: r)
        | none => none)
    | c => if o = 0 then (match dr (c :: cs) sz with
        | some b => some (fs ++ b)
        | none => none)
      else (match wrC cs (o - 1) fs sz with
        | some r => some (c :: r)
        | none => none))
theorem wrC_sound {β : Env} {sz : Nat} {fs : List AV} {us : List Value} (hf : DenC β fs us) (hu : us.length = sz) : ∀ {cs r : List AV} {ys : List Value} {o : Nat}, DenC β cs ys → wrC cs o fs sz = some r →
    o + sz ≤ ys.length ∧ DenC β r (ys.take o ++ (us ++ ys.drop (o + sz)))
  | [], r, ys, o, h, he => by
    simp only [wrC] at he
    split at he
    · rename_i h0
      split at he
      · rename_i h1
        obtain rfl := Option.some.inj he
        simp only [DenC] at h
        subst h; subst h0
        exact ⟨by simp [h1], by simpa using hf⟩
      · cases he
    · cases he
  | c :: cs, r, ys, o, h, he => by
    have gen : o = 0 → (match dr (c :: cs) sz with
        | some b => some (fs ++ b)
        | none => none) = some r → o + sz ≤ ys.length ∧ DenC β r (ys.take o ++ (us ++ ys.drop (o + sz))) := by
      intro h0 he
      split at he
      · rename_i b hb
        obtain rfl := Option.some.inj he
        obtain ⟨h1, h2⟩ := denC_dr h hb
        subst h0
        exact ⟨by omega, by simpa using denC_append hf h2⟩
      · cases he
    rcases denC_case h with ⟨hs, y, zs, rfl, h1, h2, h3⟩ | ⟨n, k, ns, rfl, zs, rfl, h1, h2, h3⟩
    · have he' : (if o = 0 then (match dr (c :: cs) sz with
          | some b => some (fs ++ b)
          | none => none)
        else (match wrC cs (o - 1) fs sz with
          | some r => some (c :: r)
          | none => none)) = some r := by
        cases c <;> first | exact he | (simp [AV.scal] at hs)
      split at he'
      · rename_i h0
        exact gen h0 he'
      · rename_i h0
        split at he'
        · rename_i r' hr
          obtain rfl := Option.some.inj he'
          obtain ⟨h4, h5⟩ := wrC_sound hf hu h3 hr
          obtain ⟨o', rfl⟩ : ∃ o', o = o' + 1 := ⟨o - 1, by omega⟩
          refine ⟨by simp; omega, ?_⟩
          rw [show o' + 1 + sz = (o' + sz) + 1 by omega, List.take_succ_cons, List.drop_succ_cons, List.cons_append]
          exact (denC_cons hs).2 ⟨y, _, rfl, h1, h2, h5⟩
        · cases he'
    · simp only [wrC] at he
      split at he
      · rename_i hlt
        split at he
        · rename_i k' z
          split at he
          · rename_i hk
            subst hk
            split at he
            · rename_i hsz
              obtain rfl := Option.some.inj he
              subst hsz
              obtain ⟨y, zs', rfl, hy, -, h5⟩ := (denC_cons (by rfl)).1 hf
              simp only [DenC] at h5
              subst h5
              simp only [Den, wfV] at hy
              obtain ⟨rfl, -, hz⟩ := hy
              have hlt' : o < ns.length := by omega
              refine ⟨by simp; omega, ?_⟩
              refine denC_ch.2 ⟨zs, ?_, by simp [h1], okN_set h2 hz, h3⟩
              rw [List.map_set, List.set_eq_take_append_cons_drop, if_pos (by simpa using hlt'), List.take_append_of_le_length (by simp; omega), List.drop_append_of_le_length (by simp; omega)]
              simp
            · cases he
          · cases he
        · rename_i m k' ms
          split at he
          · rename_i hk
            subst hk
            split at he
            · rename_i hm
              split at he
              · rename_i hfit
                obtain rfl := Option.some.inj he
                subst hm
                obtain ⟨zs', h6, h7, h8, h9⟩ := denC_ch.1 hf
                simp only [DenC] at h9
                subst h9
                simp only [List.append_nil] at h6
                subst h6
                refine ⟨by simp [h1]; omega, ?_⟩
                refine denC_ch.2 ⟨zs, ?_, by simp [h1, h7]; omega, okN_append (okN_take h2 _) (okN_append h8 (okN_drop h2 _)), h3⟩
                rw [List.take_append_of_le_length (by simp [h1]; omega), List.drop_append_of_le_length (by simp [h1]; omega)]
                simp
              · cases he
            · cases he
          · cases he
        · rename_i q1 q2
          split at he
          · rename_i h0
            exact gen h0 he
          · cases he
      · rename_i hlt
        split at he
        · rename_i r' hr
          obtain rfl := Option.some.inj he
          obtain ⟨h4, h5⟩ := wrC_sound hf hu h3 hr
          refine ⟨by simp [h1]; omega, ?_⟩
          refine denC_ch.2 ⟨_, ?_, h1, h2, h5⟩
          rw [List.take_append, List.take_of_length_le (by simp; omega), List.drop_append, List.drop_of_length_le (by simp; omega)]
          simp only [List.length_map, h1, List.nil_append, List.append_assoc]
          rw [show o + sz - n = o - n + sz by omega]
        · cases he
def wrCt (c : Ct) (i w k : Nat) (x : AV) (sz : Nat) : Option (Bool × Ct) :=
  match c with
  | .lit cs => (match flat x sz with
    | some fs => (match wrC cs (i * w + k) fs sz with
      | some r => some (true, .lit r)
      | none => none)
    | none => none)
  | .num kk xs => (match x with
    | .v (.int k' z) => if k' = kk then (if k = 0 then (if w = 1 then (if sz = 1 then some (decide (i < xs.length), .num kk (xs.set i z)) else none) else none) else none) else none
    | .ch n k' zs => if k' = kk then (if n = sz then (if i * w + k = 0 then some (decide (xs.length = sz), .num kk zs) else none) else none) else none
    | _ => none)
  | .rows w' rs => if w = w' then (match flat x sz with
      | some fs => if k = 0 ∧ sz = w then some (decide (i < rs.length), .rows w (rs.set i fs))
          else (match wrC (rs[i]?.getD []) k fs sz with
            | some r => some (decide (i < rs.length), .rows w (rs.set i r))
            | none => none)
      | none => none) else none
  | _ => none
theorem denR_set {β : Env} {w : Nat} {r : List AV} {us : List Value} (hr : DenC β r us) (hu : us.length = w) : ∀ {rs : List (List AV)} {ys : List Value} {i : Nat}, DenR β w rs ys → i < rs.length →
    DenR β w (rs.set i r) (ys.take (i * w) ++ (us ++ ys.drop (i * w + w)))
  | [], _, i, _, h => by simp at h
  | r0 :: rs, ys, 0, h, _ => by
    simp only [DenR] at h
    obtain ⟨vs, zs, rfl, h0, h1, h2⟩ := h
    simp only [List.set_cons_zero, DenR, Nat.zero_mul, List.take_zero, List.nil_append, Nat.zero_add]
    exact ⟨us, zs, by rw [List.drop_append, List.drop_of_length_le (by omega), h0]; simp, hu, hr, h2⟩
  | r0 :: rs, ys, i + 1, h, hi => by
    simp only [DenR] at h
    obtain ⟨vs, zs, rfl, h0, h1, h2⟩ := h
    have ih := denR_set hr hu (i := i) h2 (by simpa using hi)
    simp only [List.set_cons_succ, DenR]
    refine ⟨vs, _, ?_, h0, h1, ih⟩
    have e : (i + 1) * w = vs.length + i * w := by rw [h0, Nat.add_mul]; omega
    rw [e, List.take_length_add_append, show vs.length + i * w + w = vs.length + (i * w + w) by omega, List.drop_length_add_append]
    simp
theorem take_row {ys us : List Value} {p w k sz : Nat} {vs : List Value} (hj : ∀ j, j < w → ys[p + j]? = us[j]?) (hu : us.length = w) (hl : p + w ≤ ys.length) (hks : k + sz ≤ w) (hv : vs.length = sz) :
    ys.take (p + k) ++ (vs ++ ys.drop (p + k + sz)) = ys.take p ++ ((us.take k ++ (vs ++ us.drop (k + sz))) ++ ys.drop (p + w)) := by
  have e0 : (ys.drop p).take w = us := by
    apply List.ext_getElem?
    intro j
    by_cases h : j < w
    · rw [List.getElem?_take_of_lt h, List.getElem?_drop, hj j h]
    · rw [List.getElem?_eq_none (by simp; omega), List.getElem?_eq_none (by omega)]
  have e1 : ys.take (p + k) = ys.take p ++ us.take k := by
    rw [List.take_add, ← e0, List.take_take, Nat.min_eq_left (by omega)]
  have e2 : ys.drop (p + k + sz) = us.drop (k + sz) ++ ys.drop (p + w) := by
    have : ys.drop p = us ++ ys.drop (p + w) := by rw [← e0, ← List.drop_drop, List.take_append_drop]
    rw [Nat.add_assoc, ← List.drop_drop, this, List.drop_append_of_le_length (by omega)]
  rw [e1, e2]; simp
theorem wrCt_sound {β : Env} {c c' : Ct} {i w k sz : Nat} {x : AV} {y : Value} {vc : Bool} {ys : List Value} (hc : CsDen β c ys) (hx : Den β x y) (h : wrCt c i w k x sz = some (vc, c')) (hvc : vc = true) :
    y.cells.toList.length = sz ∧ (∀ u ∈ y.cells.toList, one u = true) ∧ i * w + k + sz ≤ ys.length ∧ c'.cell = true ∧ CsDen β c' (ys.take (i * w + k) ++ (y.cells.toList ++ ys.drop (i * w + k + sz))) := by
  cases c with
  | lit cs =>
    simp only [CsDen] at hc
    simp only [wrCt] at h
    split at h
    · rename_i fs hf
      split at h
      · rename_i r hr
        obtain ⟨rfl, rfl⟩ := Prod.mk.inj (Option.some.inj h)
        obtain ⟨h1, h2⟩ := den_flat hx hf
        obtain ⟨h3, h4⟩ := wrC_sound h1 h2 hc hr
        exact ⟨h2, denC_ones h1, h3, rfl, h4⟩
      · cases h
    · cases h
  | num kk xs =>
    simp only [CsDen] at hc
    obtain ⟨rfl, hok⟩ := hc
    simp only [wrCt] at h
    split at h
    · rename_i k' z
      split at h
      · rename_i hk'
        split at h
        · rename_i hk0
          split at h
          · rename_i hw1
            split at h
            · rename_i hs1
              obtain ⟨rfl, rfl⟩ := Prod.mk.inj (Option.some.inj h)
              subst hk'; subst hk0; subst hw1; subst hs1
              have hlt : i < xs.length := by simpa using hvc
              simp only [Den, wfV] at hx
              obtain ⟨rfl, -, hz⟩ := hx
              refine ⟨by simp [Value.cells], by simp [Value.cells, one], by simp; omega, rfl, ?_⟩
              simp only [CsDen, Nat.mul_one, Nat.add_zero, Value.cells]
              rw [List.map_set, List.set_eq_take_append_cons_drop, if_pos (by simpa using hlt)]
              exact ⟨by simp, okN_set hok hz⟩
            · cases h
          · cases h
        · cases h
      · cases h
    · rename_i n k' zs
      split at h
      · rename_i hk'
        split at h
        · rename_i hn
          split at h
          · rename_i h0
            obtain ⟨rfl, rfl⟩ := Prod.mk.inj (Option.some.inj h)
            have hl : xs.length = sz := by simpa using hvc
            subst hk'
            simp only [Den] at hx
            obtain ⟨rfl, h1, h2⟩ := hx
            refine ⟨by simp [Value.cells, h1, hn], by simp [Value.cells, one], by rw [h0]; simp [hl], rfl, ?_⟩
            rw [h0, List.take_zero, List.nil_append, Nat.zero_add, List.drop_of_length_le (by simp [hl]), List.append_nil]
            exact ⟨by simp [Value.cells], h2⟩
          · cases h
        · cases h
      · cases h
    · cases h
  | rows w' rs =>
    simp only [CsDen] at hc
    simp only [wrCt] at h
    split at h
    · rename_i hw
      subst hw
      split at h
      · rename_i fs hf
        obtain ⟨h1, h2⟩ := den_flat hx hf
        split at h
        · rename_i hk
          obtain ⟨rfl, rfl⟩ := hk
          obtain ⟨rfl, rfl⟩ := Prod.mk.inj (Option.some.inj h)
          have hlt : i < rs.length := by simpa using hvc
          obtain ⟨us, -, h4, h5, h6⟩ := denR_row hc hlt
          exact ⟨h2, denC_ones h1, by omega, rfl, denR_set h1 h2 hc hlt⟩
        · split at h
          · rename_i r hr
            obtain ⟨rfl, rfl⟩ := Prod.mk.inj (Option.some.inj h)
            have hlt : i < rs.length := by simpa using hvc
            obtain ⟨us, h3, h4, h5, h6⟩ := denR_row hc hlt
            obtain ⟨h7, h8⟩ := wrC_sound h1 h2 h3 hr
            refine ⟨h2, denC_ones h1, by omega, rfl, ?_⟩
            simp only [CsDen]
            rw [take_row h5 h4 h6 (by omega) h2]
            exact denR_set h8 (by simp [h2, h4]; simp at h2; omega) hc hlt
          · cases h
      · cases h
    · cases h
  | _ => exact hc.elim
theorem one_oneCell {v : Value} (h : one v = true) : v.oneCell' = true := by cases v <;> simp_all [one, Value.oneCell']
theorem add_lit (b o n : Nat) : (⟨b, o, none⟩ : Addr).add n = ⟨b, o + n, none⟩ := by unfold Addr.add; split <;> simp_all
section
variable {P : Program} {β : Env} {w : World}
def InW (w : World) (b o : Nat) (ys : List Value) : Prop := ∃ cs T fz, w.heap[b]? = some (.cells cs T fz) ∧ ∀ (j : Nat) (v : Value), ys[j]? = some v → cs[o + j]? = some v
theorem cell_of {b o j : Nat} {ys : List Value} {v : Value} (h : InW w b o ys) (hj : ys[j]? = some v) : w.cell? ⟨b, o + j, none⟩ = some v := by
  obtain ⟨cs, T, fz, hg, hcs⟩ := h
  simp [World.cell?, hg, hcs j v hj]
theorem InW.of_heap {bl : Bls} (hh : Heap β bl w) {t : Bool} {b o : Nat} {ys : List Value} (h : Cells (β.fz t) b o ys) : InW w b o ys := by
  obtain ⟨cs, h1, h2⟩ := h
  obtain ⟨⟨T, fz, h3⟩, -⟩ := hh.frz t b cs h1
  exact ⟨cs, T, fz, h3, h2⟩
theorem heap_cells {bl : Bls} (hh : Heap β bl w) {l b s : Nat} {c : Ct} (hl : lvl bl l = some c) (hb : β.b[l]? = some (some (b, s))) (hcell : c.cell = true) :
    ∃ ys sp T fz, w.heap[b]? = some (.cells (ys ++ sp).toArray T fz) ∧ ys.length + sp.length = s ∧ CsDen β c ys ∧ (∀ x ∈ sp, SpV (spk c) x) ∧ FzOk (spz c) fz s := by
  obtain ⟨base, e, hin⟩ := hh.lv l c (lvl_get hl)
  rw [hb] at e
  obtain rfl := Option.some.inj e
  rcases hin with ⟨-, h⟩ | ⟨h, -⟩
  · exact h
  · rw [hcell] at h; cases h
theorem InW.of_cells {b : Nat} {ys sp : List Value} {T : TypeId} {fz : Nat × Nat} (h : w.heap[b]? = some (.cells (ys ++ sp).toArray T fz)) : InW w b 0 ys :=
  ⟨_, T, fz, h, fun j v hj => by
    have := (List.getElem?_eq_some_iff.1 hj).1
    simp only [Nat.zero_add, List.getElem?_toArray]
    rw [List.getElem?_append_left this, hj]⟩
theorem csDen_cell {c : Ct} {ys : List Value} (h : CsDen β c ys) : c.cell = true := by cases c <;> first | rfl | exact h.elim
theorem load_rd {t : TypeId} {T : TI} {b o0 o : Nat} {ys : List Value} {r : AV} (ht : ti P t = some T) (hg : InW w b o0 ys) (hr : Rd β ys o T r) :
    ∃ y, (loadVar t ⟨b, o0 + o, none⟩).run P w = .ok y w ∧ Den β r y := by
  rcases hr with ⟨hag, hp, hd⟩ | ⟨hag, y, hy, hd⟩
  · have hl : ((ys.drop o).take T.sz).length = T.sz := by simp; omega
    have hload := run_loadCells_list (P := P) w ⟨b, o0 + o, none⟩ ((ys.drop o).take T.sz) (fun j v hj => by
      rw [add_lit, Nat.add_assoc]
      refine cell_of hg ?_
      have hjlt : j < T.sz := by have := (List.getElem?_eq_some_iff.1 hj).1; omega
      rw [List.getElem?_take_of_lt hjlt, List.getElem?_drop] at hj
      exact hj)
    rw [hl] at hload
    exact ⟨_, by simp only [loadVar, Sem.run_bind, ti_isAgg w ht, Result.andThen_ok, hag, if_true, ti_sizeOf w ht, hload, Sem.run_pure], hd⟩
  · exact ⟨y, by simp [loadVar, ti_isAgg w ht, hag, cell_of hg hy], hd⟩
theorem storeCells_run (g o : Nat) (t : TypeId) (fz : Nat × Nat) : ∀ (vs : List Value) (i : Nat) (cur : Array Value) (w : World), w.heap[g]? = some (.cells cur t fz) →
    (∀ j, fz.1 ≤ j → j < fz.2 → cur.size ≤ j) → o + i + vs.length ≤ cur.size → (∀ v ∈ vs, one v = true) →
    (storeCells ⟨g, o, none⟩ vs i).run P w = .ok () (w.setRow g (cur.toList.take (o + i) ++ vs ++ cur.toList.drop (o + i + vs.length)).toArray)
  | [], i, cur, w, hg, _, _, _ => by
    simp only [storeCells, List.append_nil, List.length_nil, Nat.add_zero, List.take_append_drop, Array.toArray_toList]
    rw [setRow_self w g cur t fz hg]
    rfl
  | v :: rest, i, cur, w, hg, hfz, hl, h1 => by
    have hi : o + i < cur.size := by simp at hl; omega
    have hcell : w.cell? ⟨g, o + i, none⟩ = some cur[o + i] := by simp [World.cell?, hg, hi]
    have hfro : w.frozen? ⟨g, o + i, none⟩ = false := by
      obtain ⟨lo, hi'⟩ := fz
      simp only [World.frozen?, hg, Bool.and_eq_false_iff, decide_eq_false_iff_not]
      have := hfz (o + i)
      simp only at this
      omega
    have hst : (store ((⟨g, o, none⟩ : Addr).add i) v).run P w = .ok () (w.setRow g (cur.setIfInBounds (o + i) v)) := by
      rw [add_lit, run_store P w _ v _ (one_oneCell (h1 v (by simp))), hcell]
      simp [hfro, setCell_eq_setRow w g (o + i) cur t fz v hg]
    have ih := storeCells_run g o t fz rest (i + 1) (cur.setIfInBounds (o + i) v) (w.setRow g (cur.setIfInBounds (o + i) v)) (setRow_heap w g cur _ t _ hg)
      (by simpa using hfz) (by simp at hl ⊢; omega) (fun x hx => h1 x (by simp [hx]))
    simp only [storeCells, Sem.run_bind, hst, Result.andThen_ok, ih, setRow_setRow]
    congr 3
    have e := list_seg_step cur.toList (o + i) v rest (by simp at hl ⊢; omega)
    simpa [Array.toList_setIfInBounds, Nat.add_assoc] using e
theorem storeVar_run {t : TypeId} {T : TI} {b p : Nat} {U : TypeId} {fz : Nat × Nat} {ys : List Value} {y : Value} (ht : ti P t = some T)
    (hg : w.heap[b]? = some (.cells ys.toArray U fz)) (hfz : ∀ j, fz.1 ≤ j → j < fz.2 → ys.length ≤ j) (hsz : y.cells.toList.length = T.sz) (h1 : ∀ u ∈ y.cells.toList, one u = true)
    (hp : p + T.sz ≤ ys.length) :
    (storeVar t ⟨b, p, none⟩ y).run P w = .ok () (w.setRow b (ys.take p ++ (y.cells.toList ++ ys.drop (p + T.sz))).toArray) := by
  have hst := storeCells_run (P := P) b p U fz y.cells.toList 0 ys.toArray w hg (by simpa using hfz) (by simp [hsz]; simpa using hp) h1
  have hs : y.cells.size = T.sz := by simpa using hsz
  simp only [storeVar, Sem.run_bind, ti_sizeOf w ht, Result.andThen_ok, hs, ne_eq, not_true_eq_false, if_false]
  simpa [hs] using hst
theorem get_kill {bl : Bls} {l m : Nat} {c : Ct} (h : (bl.set l none)[m]? = some (some c)) : m ≠ l ∧ bl[m]? = some (some c) := by
  rw [List.getElem?_set] at h
  split at h
  · split at h <;> simp at h
  · rename_i hne
    exact ⟨fun e => hne e.symm, h⟩
theorem Owned.kill {bl : Bls} {l b : Nat} (h : Owned β (bl.set l none) b) : Owned β bl b := by
  obtain ⟨m, c, s, hm, hb⟩ := h
  exact ⟨m, c, s, (get_kill hm).2, hb⟩
theorem Heap.kill {bl : Bls} (h : Heap β bl w) (l : Nat) : Ext β bl w β (bl.set l none) w where
  le := .refl _
  heap := {
    len := by simpa using h.len
    lv := fun m c hm => h.lv m c (get_kill hm).2
    sep := fun m m' c c' b s s' hne h1 h2 => h.sep m m' c c' b s s' hne (get_kill h1).2 (get_kill h2).2
    frz := fun t b cs hz => ⟨(h.frz t b cs hz).1, fun ho => (h.frz t b cs hz).2 ho.kill⟩ }
  step := .refl _ _
  own := fun b hb => .inl hb.kill
  zn := fun b cs hz => .inl hz
  y := rfl
theorem Heap.freeze {bl : Bls} (h : Heap β bl w) {l b s : Nat} {c : Ct} {cs : Array Value} {T : TypeId} {fz : Nat × Nat} (hl : bl[l]? = some (some c)) (hb : β.b[l]? = some (some (b, s))) (hg : w.heap[b]? = some (.cells cs T fz)) :
    Ext β bl w { β with z := fun i => if i = b then some cs else β.z i } (bl.set l none) w := by
  have hz0 : ∀ cs', β.z b ≠ some cs' := fun cs' e => (h.frz false b cs' e).2 ⟨l, c, s, hl, hb⟩
  have le : β.le { β with z := fun i => if i = b then some cs else β.z i } := ⟨List.prefix_refl _, fun i cs' e => by
    by_cases hi : i = b
    · subst hi; exact absurd e (hz0 cs')
    · simpa [hi] using e, fun _ _ e => e, rfl⟩
  have ownk : ∀ b', Owned { β with z := fun i => if i = b then some cs else β.z i } (bl.set l none) b' → Owned β bl b' ∧ b' ≠ b := by
    rintro b' ⟨m, c', s', hm, hb'⟩
    obtain ⟨hne, hm⟩ := get_kill hm
    exact ⟨⟨m, c', s', hm, hb'⟩, fun e => by subst e; exact h.sep m l c' c b' s' s hne hm hl hb' hb⟩
  refine ⟨le, ⟨by simpa using h.len, fun m c' hm => ?_, fun m m' c c' b s s' hne h1 h2 => h.sep m m' c c' b s s' hne (get_kill h1).2 (get_kill h2).2, fun t b' cs' hz => ?_⟩, .refl _ _, fun b' hb' => .inl (ownk b' hb').1, fun b' cs' hz => ?_, rfl⟩
  · obtain ⟨base, e, hin⟩ := h.lv m c' (get_kill hm).2
    exact ⟨base, e, hin.mono le⟩
  · cases t with
    | true => exact ⟨(h.frz true b' cs' hz).1, fun ho => (h.frz true b' cs' hz).2 (ownk b' ho).1⟩
    | false =>
      simp only [Env.fz] at hz
      split at hz
      · rename_i e
        subst e
        obtain rfl := Option.some.inj hz
        exact ⟨⟨T, fz, hg⟩, fun ho => (ownk _ ho).2 rfl⟩
      · exact ⟨(h.frz false b' cs' hz).1, fun ho => (h.frz false b' cs' hz).2 (ownk b' ho).1⟩
  · simp only at hz
    split at hz
    · rename_i e
      exact .inr (.inl ⟨l, c, s, hl, e ▸ hb⟩)
    · exact .inl hz
theorem Heap.write {bl : Bls} {l b s : Nat} {c c' : Ct} {ys sp ys' : List Value} {T : TypeId} {fz : Nat × Nat} (h : Heap β bl w) (hl : bl[l]? = some (some c)) (hb : β.b[l]? = some (some (b, s)))
    (hg : w.heap[b]? = some (.cells (ys ++ sp).toArray T fz)) (hs : ys.length + sp.length = s) (hsp : ∀ x ∈ sp, SpV (spk c) x) (hfz : FzOk (spz c) fz s) (hkd : spk c' = spk c ∧ spz c' = spz c)
    (hc : CsDen β c' ys') (hlen : ys'.length = ys.length) :
    Ext β bl w β (bl.set l (some c')) (w.setRow b (ys' ++ sp).toArray) := by
  have hllt : l < bl.length := (List.getElem?_eq_some_iff.1 hl).1
  have get : ∀ {m : Nat} {c0 : Ct}, (bl.set l (some c'))[m]? = some (some c0) → (m = l ∧ c0 = c') ∨ (m ≠ l ∧ bl[m]? = some (some c0)) := by
    intro m c0 hm
    rw [List.getElem?_set] at hm
    split at hm
    · rename_i e
      subst e
      try rw [if_pos hllt] at hm
      exact .inl ⟨rfl, (Option.some.inj (Option.some.inj hm)).symm⟩
    · rename_i e
      exact .inr ⟨fun h => e h.symm, hm⟩
  have old : ∀ {m : Nat} {c0 : Ct}, (bl.set l (some c'))[m]? = some (some c0) → ∃ c1, bl[m]? = some (some c1) := by
    intro m c0 hm
    rcases get hm with ⟨rfl, -⟩ | ⟨-, h⟩
    · exact ⟨c, hl⟩
    · exact ⟨c0, h⟩
  have ownk : ∀ b', Owned β (bl.set l (some c')) b' → Owned β bl b' := by
    rintro b' ⟨m, c0, s', hm, hb'⟩
    obtain ⟨c1, h1⟩ := old hm
    exact ⟨m, c1, s', h1, hb'⟩
  refine ⟨.refl _, ⟨by simpa using h.len, fun m c0 hm => ?_, fun m m' c0 c1 b0 s0 s1 hne h1 h2 => ?_, fun t b' cs' hz => ?_⟩, ⟨rfl, rfl, rfl, ?_, fun b' _ hno => ?_⟩, fun b' hb' => .inl (ownk b' hb'), fun b' cs' hz => .inl hz, rfl⟩
  · rcases get hm with ⟨rfl, rfl⟩ | ⟨hne, hm⟩
    · exact ⟨_, hb, .inl ⟨csDen_cell hc, ys', sp, T, fz, setRow_heap w b _ _ _ _ hg, by omega, hc, (by rw [hkd.1]; exact hsp), (by rw [hkd.2]; exact hfz)⟩⟩
    · obtain ⟨base, e, hin⟩ := h.lv m c0 hm
      refine ⟨base, e, hin.same fun b' s' hb' => ?_⟩
      subst hb'
      exact setRow_other w b b' _ (fun e3 => h.sep l m c c0 b s s' (fun e4 => hne e4.symm) hl hm hb (by rw [e, e3]))
  · obtain ⟨c2, g1⟩ := old h1
    obtain ⟨c3, g2⟩ := old h2
    exact h.sep m m' c2 c3 b0 s0 s1 hne g1 g2
  · obtain ⟨⟨T', fz', e⟩, hno⟩ := h.frz t b' cs' hz
    refine ⟨⟨T', fz', ?_⟩, fun ho => hno (ownk b' ho)⟩
    rw [setRow_other w b b' _ (fun e3 => hno ⟨l, c, s, hl, e3 ▸ hb⟩)]
    exact e
  · show w.heap.size ≤ (w.heap.modify b _).size
    rw [Array.size_modify]; exact Nat.le_refl _
  · refine setRow_other w b b' _ (fun e => hno ⟨l, c, s, hl, ?_⟩)
    rw [e]; exact hb
theorem Heap.make {bl : Bls} {c : Ct} {o : Obj} {s : Nat} (h : Heap β bl w) {w' : World} (hw : w'.heap = w.heap.push o) (hos : w'.os = w.os) (htape : w'.tape = w.tape) (hout : w'.output = w.output)
    (hc : CtIn { β with b := β.b ++ [some (w.heap.size, s)] } w' (some (w.heap.size, s)) c) :
    Ext β bl w { β with b := β.b ++ [some (w.heap.size, s)] } (bl ++ [some c]) w' := by
  have le : β.le { β with b := β.b ++ [some (w.heap.size, s)] } := ⟨List.prefix_append _ _, fun _ _ e => e, fun _ _ e => e, rfl⟩
  have hlen := h.len
  have old : ∀ b, b < w.heap.size → w'.heap[b]? = w.heap[b]? := fun b hb => by
    rw [hw, Array.getElem?_push, if_neg (by omega)]
  have get : ∀ {m : Nat} {c' : Ct}, (bl ++ [some c])[m]? = some (some c') → (m < bl.length ∧ bl[m]? = some (some c')) ∨ (m = bl.length ∧ c' = c) := by
    intro m c' hm
    by_cases hlt : m < bl.length
    · rw [List.getElem?_append_left hlt] at hm; exact .inl ⟨hlt, hm⟩
    · have hmm : m = bl.length := by
        have := (List.getElem?_eq_some_iff.1 hm).1
        simp at this; omega
      subst hmm
      simp at hm
      exact .inr ⟨rfl, hm.symm⟩
  have gb : ∀ {m : Nat} {x}, m < bl.length → (β.b ++ [some (w.heap.size, s)])[m]? = some x → β.b[m]? = some x := by
    intro m x hm hx
    rwa [List.getElem?_append_left (by omega)] at hx
  have gn : ∀ {x}, (β.b ++ [some (w.heap.size, s)])[bl.length]? = some x → x = some (w.heap.size, s) := by
    intro x hx
    rw [← hlen] at hx
    simp at hx
    exact hx.symm
  have ownk : ∀ b', Owned { β with b := β.b ++ [some (w.heap.size, s)] } (bl ++ [some c]) b' → Owned β bl b' ∨ w.heap.size ≤ b' := by
    rintro b' ⟨m, c', s', hm, hb'⟩
    rcases get hm with ⟨hlt, h0⟩ | ⟨rfl, rfl⟩
    · exact .inl ⟨m, c', s', h0, gb hlt hb'⟩
    · have e := gn hb'
      simp at e; exact .inr (by omega)
  refine ⟨le, ⟨by simp [hlen], fun m c' hm => ?_, fun m m' c1 c2 b1 s1 s2 hne h1 h2 hb1 hb2 => ?_, fun t b' cs' hz => ?_⟩, ⟨hos, htape, hout, by rw [hw]; simp, fun b hb _ => old b hb⟩, ownk, fun b' cs' hz => .inl hz, rfl⟩
  · rcases get hm with ⟨hlt, h0⟩ | ⟨rfl, rfl⟩
    · obtain ⟨base, hbase, hin⟩ := h.lv m c' h0
      refine ⟨base, by simp only; rw [List.getElem?_append_left (by omega)]; exact hbase, (hin.mono le).same fun b s e => ?_⟩
      subst e
      exact old b (h.lt h0 hbase)
    · exact ⟨some (w.heap.size, s), by simp only; rw [← hlen]; simp, hc⟩
  · rcases get h1 with ⟨l1, g1⟩ | ⟨rfl, rfl⟩ <;> rcases get h2 with ⟨l2, g2⟩ | ⟨rfl, rfl⟩
    · exact h.sep m m' c1 c2 b1 s1 s2 hne g1 g2 (gb l1 hb1) (gb l2 hb2)
    · have e := gn hb2
      have := h.lt g1 (gb l1 hb1)
      simp at e; omega
    · have e := gn hb1
      have := h.lt g2 (gb l2 hb2)
      simp at e; omega
    · exact absurd rfl hne
  · have hz' : β.fz t b' = some cs' := by cases t <;> exact hz
    have hlt := h.frz_lt hz'
    obtain ⟨⟨T, fz, e⟩, hno⟩ := h.frz t b' cs' hz'
    refine ⟨⟨T, fz, by rw [old b' hlt]; exact e⟩, fun ho => ?_⟩
    rcases ownk b' ho with ho | ho
    · exact hno ho
    · omega
theorem nofz {L : Nat} (j : Nat) (_ : (0, 0).1 ≤ j) (h : j < (0, 0).2) : L ≤ j := by simp at h
theorem Heap.row {bl : Bls} {c : Ct} {ys sp : List Value} (h : Heap β bl w) (ty : TypeId) (hc : CsDen β c ys) (hsp : ∀ x ∈ sp, SpV (spk c) x) {w' : World} (hw : w'.heap = w.heap.push (.cells (ys ++ sp).toArray ty)) (hos : w'.os = w.os)
    (htape : w'.tape = w.tape) (hout : w'.output = w.output) :
    Ext β bl w { β with b := β.b ++ [some (w.heap.size, ys.length + sp.length)] } (bl ++ [some c]) w' := by
  have le : β.le { β with b := β.b ++ [some (w.heap.size, ys.length + sp.length)] } := ⟨List.prefix_append _ _, fun _ _ e => e, fun _ _ e => e, rfl⟩
  exact h.make hw hos htape hout (.inl ⟨csDen_cell hc, ys, sp, ty, (0, 0), by rw [hw]; simp, rfl, hc.mono le, hsp, Nat.le_refl _, nofz, fun _ => rfl⟩)
theorem at_new {bl : Bls} (h : Heap β bl w) {s : Nat} : ({ β with b := β.b ++ [some (w.heap.size, s)] } : Env).b[bl.length]? = some (some (w.heap.size, s)) := by
  simp only; rw [← h.len]; simp
theorem Heap.nothing {bl : Bls} {c : Ct} (h : Heap β bl w) (hc : CsDen β c []) : Ext β bl w { β with b := β.b ++ [none] } (bl ++ [some c]) w := by
  have le : β.le { β with b := β.b ++ [Option.none] } := ⟨List.prefix_append _ _, fun _ _ e => e, fun _ _ e => e, rfl⟩
  have hlen := h.len
  have get : ∀ {m : Nat} {c' : Ct}, (bl ++ [some c])[m]? = some (some c') → (m < bl.length ∧ bl[m]? = some (some c')) ∨ (m = bl.length ∧ c' = c) := by
    intro m c' hm
    by_cases hlt : m < bl.length
    · rw [List.getElem?_append_left hlt] at hm; exact .inl ⟨hlt, hm⟩
    · have hmm : m = bl.length := by
        have := (List.getElem?_eq_some_iff.1 hm).1
        simp at this; omega
      subst hmm
      simp at hm
      exact .inr ⟨rfl, hm.symm⟩
  have gb : ∀ {m : Nat} {x}, m < bl.length → (β.b ++ [Option.none])[m]? = some x → β.b[m]? = some x := by
    intro m x hm hx
    rwa [List.getElem?_append_left (by omega)] at hx
  have gn : (β.b ++ [Option.none])[bl.length]? = some Option.none := by rw [← hlen]; simp
  have ownk : ∀ b', Owned { β with b := β.b ++ [Option.none] } (bl ++ [some c]) b' → Owned β bl b' := by
    rintro b' ⟨m, c', s', hm, hb'⟩
    rcases get hm with ⟨hlt, h0⟩ | ⟨rfl, rfl⟩
    · exact ⟨m, c', s', h0, gb hlt hb'⟩
    · simp only at hb'; rw [gn] at hb'; simp at hb'
  refine ⟨le, ⟨by simp [hlen], fun m c' hm => ?_, fun m m' c1 c2 b1 s1 s2 hne h1 h2 hb1 hb2 => ?_, fun t b' cs' hz => ?_⟩, .refl _ _, fun b' hb' => .inl (ownk b' hb'), fun b' cs' hz => .inl hz, rfl⟩
  · rcases get hm with ⟨hlt, h0⟩ | ⟨rfl, rfl⟩
    · obtain ⟨base, hbase, hin⟩ := h.lv m c' h0
      exact ⟨base, by simp only; rw [List.getElem?_append_left (by omega)]; exact hbase, hin.mono le⟩
    · exact ⟨Option.none, gn, hc.mono le⟩
  · rcases get h1 with ⟨l1, g1⟩ | ⟨rfl, rfl⟩
    · rcases get h2 with ⟨l2, g2⟩ | ⟨rfl, rfl⟩
      · exact h.sep m m' c1 c2 b1 s1 s2 hne g1 g2 (gb l1 hb1) (gb l2 hb2)
      · simp only at hb2; rw [gn] at hb2; simp at hb2
    · simp only at hb1; rw [gn] at hb1; simp at hb1
  · have hz' : β.fz t b' = some cs' := by cases t <;> exact hz
    exact ⟨(h.frz t b' cs' hz').1, fun ho => (h.frz t b' cs' hz').2 (ownk b' ho)⟩
end
end Go.SY
/-
  The symbolic machine: numbers, comparisons, what operations that look at no memory come to.
-/
namespace Go.SY
open Go
theorem inK_wrap (k : IntKind) (z : Int) : inK k (k.wrap z) = true := by
  cases k <;> simp [inK, IntKind.wrap, IntKind.bits, IntKind.signed] <;> (try split) <;> omega
theorem wrap64_id {z : Int} (h : inK .i64 z = true) : IntKind.i64.wrap z = z := by
  simp only [inK, Bool.and_eq_true, decide_eq_true_eq] at h
  rw [IntKind.wrap_i64]; omega
theorem inK_between {k : IntKind} {x z : Int} (h : inK k x = true) (h1 : 0 ≤ x → 0 ≤ z ∧ z ≤ x) (h2 : x < 0 → x ≤ z ∧ z ≤ 0) : inK k z = true := by
  rcases Int.lt_or_le x 0 with h0 | h0
  · have := h2 h0
    cases k <;> simp only [inK, Bool.and_eq_true, decide_eq_true_eq] at h ⊢ <;> omega
  · have := h1 h0
    cases k <;> simp only [inK, Bool.and_eq_true, decide_eq_true_eq] at h ⊢ <;> omega
theorem inK_tmod {k : IntKind} {x : Int} (h : inK k x = true) (y : Int) : inK k (x.tmod y) = true := by
  refine inK_between h (fun h0 => ?_) (fun h0 => ?_)
  · refine ⟨Int.tmod_nonneg _ h0, ?_⟩
    obtain ⟨n, rfl⟩ := Int.eq_ofNat_of_zero_le h0
    have h3 : ((n : Int).tmod y).natAbs ≤ n := by rw [Int.natAbs_tmod]; exact Nat.mod_le _ _
    have := Int.tmod_nonneg y h0
    omega
  · have e : x.tmod y = -((-x).tmod y) := by rw [Int.neg_tmod]; omega
    have h1 : 0 ≤ -x := by omega
    obtain ⟨n, hn⟩ := Int.eq_ofNat_of_zero_le h1
    have h3 : ((-x).tmod y).natAbs ≤ n := by rw [hn, Int.natAbs_tmod]; exact Nat.mod_le _ _
    have := Int.tmod_nonneg y h1
    omega
theorem inK_fdiv {k : IntKind} {x : Int} (h : inK k x = true) (n : Nat) : inK k (x.fdiv (2 ^ n)) = true := by
  have hp : (0 : Int) < 2 ^ n := by
    have : (0 : Nat) < 2 ^ n := Nat.pos_of_ne_zero (by simp)
    exact_mod_cast this
  refine inK_between h (fun h0 => ?_) (fun h0 => ?_)
  · rw [Int.fdiv_eq_ediv_of_nonneg _ (by omega)]
    exact ⟨Int.ediv_nonneg h0 (by omega), Int.ediv_le_self _ h0⟩
  · rw [Int.fdiv_eq_ediv_of_nonneg _ (by omega)]
    have h1 := Int.emod_add_mul_ediv x (2 ^ n)
    have h2 := Int.emod_nonneg x (show (2 : Int) ^ n ≠ 0 by omega)
    have h3 := Int.emod_lt_of_pos x hp
    have h4 : x / 2 ^ n < 0 := Int.ediv_neg_of_neg_of_pos h0 hp
    refine ⟨?_, by omega⟩
    have h5 : (2 ^ n : Int) * (x / 2 ^ n + 1) ≤ 1 * (x / 2 ^ n + 1) := Int.mul_le_mul_of_nonpos_right (by omega) (by omega)
    rw [Int.mul_add] at h5
    omega
def put (n : Nat) (tm : List (Nat × AV)) (d : Option Nat) (x : AV) : List (Nat × AV) :=
  match d with
  | none => tm
  | some d => if d < n then (d, x) :: tm else tm
def ev (tm : List (Nat × AV)) : Operand → AV
  | .tmp t => get tm t
  | .const x => mk x
  | .global g => .v (.pointer (some ⟨g, 0, none⟩))
  | .func f => .fn f [] []
def EvOk (β : Env) (tm : List (Nat × AV)) (ρ : Operand → Value) : Prop := ∀ x, Den β (ev tm x) (ρ x)
def evT (tmps : Array Value) : Operand → Value
  | .tmp t => tmps.getD t undef
  | .const v => v
  | .global g => .pointer (some ⟨g, 0, none⟩)
  | .func f => .func (.func f) #[] #[]
theorem TmOk.ev {β : Env} {n : Nat} {tm : List (Nat × AV)} {tmps : Array Value} (h : TmOk β n tm tmps) : EvOk β tm (evT tmps) := fun x => by
  cases x with
  | tmp t => exact h.2 t
  | const x => exact den_mk β x
  | global g => simp [SY.ev, Den, evT, one, wfV]
  | func f => simp only [SY.ev, Den, evT]; exact ⟨[], [], rfl, by simp [DenL], by simp [DenL]⟩
def ar (k : IntKind) (z : Int) : Bool × AV :=
  match k with
  | .i64 => (inK .i64 z, .v (.int .i64 z))
  | k => (true, .v (.int k (k.wrap z)))
theorem ar_wrap {k : IntKind} {z : Int} {vc : Bool} {r : AV} (h : ar k z = (vc, r)) (hv : vc = true) : r = .v (.int k (k.wrap z)) := by
  unfold ar at h
  split at h
  · obtain ⟨rfl, rfl⟩ := Prod.mk.inj h
    rw [wrap64_id hv]
  · obtain ⟨rfl, rfl⟩ := Prod.mk.inj h
    rfl
def bits2 (op : BinOp) (k : IntKind) (x y : Int) : Int :=
  let a := BitVec.ofInt k.bits x
  let b := BitVec.ofInt k.bits y
  match op with
  | .and => k.wrap (a &&& b).toNat
  | .or => k.wrap (a ||| b).toNat
  | .xor => k.wrap (a ^^^ b).toNat
  | _ => k.wrap (a &&& ~~~b).toNat
def bopInt (op : BinOp) (k : IntKind) (x y : Int) : Option (Bool × AV) :=
  match op with
  | .add => some (ar k (x + y))
  | .sub => some (ar k (x - y))
  | .mul => some (ar k (x * y))
  | .quo => some (decide (y ≠ 0), .v (.int k (k.wrap (x.tdiv y))))
  | .rem => some (decide (y ≠ 0), .v (.int k (x.tmod y)))
  | .and => some (true, .v (.int k (bits2 .and k x y)))
  | .or => some (true, .v (.int k (bits2 .or k x y)))
  | .xor => some (true, .v (.int k (bits2 .xor k x y)))
  | .andNot => some (true, .v (.int k (bits2 .andNot k x y)))
  | .eql => some (true, .v (.bool (decide (x = y))))
  | .neq => some (true, .v (.bool (decide (¬ x = y))))
  | .lss => some (true, .v (.bool (decide (x < y))))
  | .leq => some (true, .v (.bool (decide (x ≤ y))))
  | .gtr => some (true, .v (.bool (decide (y < x))))
  | .geq => some (true, .v (.bool (decide (y ≤ x))))
  | _ => none
def bopStr (op : BinOp) (x y : ByteArray) : Option (Bool × AV) :=
  match op with
  | .eql => some (true, .v (.bool (x.toList == y.toList)))
  | .neq => some (true, .v (.bool (!(x.toList == y.toList))))
  | .add => some (decide (x.size + y.size < 9223372036854775808), .v (.string (x ++ y)))
  | _ => none
def bopEq (op : BinOp) (vc b : Bool) : Option (Bool × AV) :=
  match op with
  | .eql => some (vc, .v (.bool b))
  | .neq => some (vc, .v (.bool (!b)))
  | _ => none
def isPtr : KD → Bool
  | .ptr _ => true
  | _ => false
def isSl : KD → Bool
  | .slice _ _ _ => true
  | _ => false
def isBl : KD → Bool
  | .bool => true
  | _ => false
def eqPs : List Lf → List AV → List AV → Option Bool
  | [], [], [] => some true
  | .int k :: L, .v (.int k1 x) :: ps, .v (.int k2 y) :: qs => if k1 = k then (if k2 = k then (match eqPs L ps qs with
      | some b => some (decide (x = y) && b)
      | none => none) else none) else none
  | .str :: L, .v (.string x) :: ps, .v (.string y) :: qs => (match eqPs L ps qs with
      | some b => some ((x.toList == y.toList) && b)
      | none => none)
  | .bool :: L, .v (.bool x) :: ps, .v (.bool y) :: qs => (match eqPs L ps qs with
      | some b => some ((x == y) && b)
      | none => none)
  | .ints n k :: L, .ch n1 k1 xs :: ps, .ch n2 k2 ys :: qs => if k1 = k then (if k2 = k then (if n1 = n then (if n2 = n then (match eqPs L ps qs with
      | some b => some (decide (xs = ys) && b)
      | none => none) else none) else none) else none) else none
  | _, _, _ => none
def bop (op : BinOp) (T : TI) (a b : AV) : Option (Bool × AV) :=
  match a, b with
  | .v (.int k x), .v (.int k' y) =>
    (match op with
    | .shl => some (decide (0 ≤ y), .v (.int k (k.wrap (x * 2 ^ (min y.toNat k.bits)))))
    | .shr => some (decide (0 ≤ y), .v (.int k (x.fdiv (2 ^ (min y.toNat k.bits)))))
    | op => if k = k' then bopInt op k x y else none)
  | .v (.string x), .v (.string y) => bopStr op x y
  | .v (.bool x), .v (.bool y) => if isBl T.kd = true then bopEq op true (x == y) else none
  | .ptr _ _ _ _, .v (.pointer none) => if isPtr T.kd = true then bopEq op true false else none
  | .v (.pointer none), .ptr _ _ _ _ => if isPtr T.kd = true then bopEq op true false else none
  | .v (.pointer p), .v (.pointer none) => if isPtr T.kd = true then bopEq op true p.isNone else none
  | .nil, .nil => if isSl T.kd = true then bopEq op true true else none
  | .sl _ _ _ n _, .nil => if isSl T.kd = true then bopEq op (decide (0 < n)) false else none
  | .imn _ _ xs _, .nil => if isSl T.kd = true then bopEq op (decide (0 < xs.length)) false else none
  | .imr _ _ rs _, .nil => if isSl T.kd = true then bopEq op (decide (0 < rs.length)) false else none
  | a, b => (match T.eq, parts a, parts b with
    | some L, some ps, some qs => if T.ag = true then (match eqPs L ps qs with
        | some r => bopEq op true r
        | none => none) else none
    | _, _, _ => none)
section
variable {P : Program} {w : World}
theorem eqGuard_run {op : BinOp} {t : TypeId} {x y : Operand} {a b : Value} (h1 : op ≠ .eql ∧ op ≠ .neq ∨ (one a = true ∧ a ≠ .nilIface)) : (eqGuard op t x y a b).run P w = .ok () w := by
  unfold eqGuard
  cases op <;> first
    | rfl
    | (rcases h1 with ⟨h1, h2⟩ | ⟨h1, h2⟩
       · first | exact absurd rfl h1 | exact absurd rfl h2
       · cases a <;> first | rfl | (simp [one] at h1; done) | exact absurd rfl h2)
theorem bopInt_sound {β : Env} {op : BinOp} {k : IntKind} {t : TypeId} {x y : Int} {vc : Bool} {r : AV} (hop : op ≠ .shl ∧ op ≠ .shr) (hx : inK k x = true) (h : bopInt op k x y = some (vc, r)) (hv : vc = true) :
    ∃ v, (∀ w : World, (binOp op t (.int k x) (.int k y)).run P w = .ok v w) ∧ Den β r v := by
  have dw : ∀ z, inK k z = true → Den β (.v (.int k z)) (.int k z) := fun z hz => by simp only [Den, one, wfV, true_and]; exact hz
  have arr : ∀ z, ar k z = (vc, r) → Den β r (.int k (k.wrap z)) := fun z hz => by
    rw [ar_wrap hz hv]; exact dw _ (inK_wrap k z)
  have db : ∀ b, Den β (.v (.bool b)) (.bool b) := fun b => by simp [Den, one, wfV]
  have b2 : ∀ op, inK k (bits2 op k x y) = true := fun op => by cases op <;> exact inK_wrap k _
  cases op <;> simp only [bopInt, Option.some.injEq] at h
  case add => exact ⟨_, fun w => by simp [binOp, Op.intArith], arr _ h⟩
  case sub => exact ⟨_, fun w => by simp [binOp, Op.intArith], arr _ h⟩
  case mul => exact ⟨_, fun w => by simp [binOp, Op.intArith], arr _ h⟩
  case quo => obtain ⟨rfl, rfl⟩ := Prod.mk.inj h; have hv := of_decide_eq_true hv; exact ⟨.int k (k.wrap (x.tdiv y)), fun w => by simp [binOp, Op.intDiv, hv], dw _ (inK_wrap k _)⟩
  case rem => obtain ⟨rfl, rfl⟩ := Prod.mk.inj h; have hv := of_decide_eq_true hv; exact ⟨.int k (x.tmod y), fun w => by simp [binOp, Op.intDiv, hv], dw _ (inK_tmod hx y)⟩
  case and => obtain ⟨rfl, rfl⟩ := Prod.mk.inj h; exact ⟨.int k (bits2 .and k x y), fun w => by simp only [binOp, ne_eq, not_true_eq_false, if_false, Op.intBits]; rfl, dw _ (b2 _)⟩
  case or => obtain ⟨rfl, rfl⟩ := Prod.mk.inj h; exact ⟨.int k (bits2 .or k x y), fun w => by simp only [binOp, ne_eq, not_true_eq_false, if_false, Op.intBits]; rfl, dw _ (b2 _)⟩
  case xor => obtain ⟨rfl, rfl⟩ := Prod.mk.inj h; exact ⟨.int k (bits2 .xor k x y), fun w => by simp only [binOp, ne_eq, not_true_eq_false, if_false, Op.intBits]; rfl, dw _ (b2 _)⟩
  case andNot => obtain ⟨rfl, rfl⟩ := Prod.mk.inj h; exact ⟨.int k (bits2 .andNot k x y), fun w => by simp only [binOp, ne_eq, not_true_eq_false, if_false, Op.intBits]; rfl, dw _ (b2 _)⟩
  case eql => obtain ⟨rfl, rfl⟩ := Prod.mk.inj h; exact ⟨.bool (decide (x = y)), fun w => by simp [binOp, Op.intCmp]; rfl, db _⟩
  case neq => obtain ⟨rfl, rfl⟩ := Prod.mk.inj h; exact ⟨.bool (decide (¬ x = y)), fun w => by simp [binOp, Op.intCmp, bne]; rfl, db _⟩
  case lss => obtain ⟨rfl, rfl⟩ := Prod.mk.inj h; exact ⟨.bool (decide (x < y)), fun w => by simp [binOp, Op.intCmp], db _⟩
  case leq => obtain ⟨rfl, rfl⟩ := Prod.mk.inj h; exact ⟨.bool (decide (x ≤ y)), fun w => by simp [binOp, Op.intCmp], db _⟩
  case gtr => obtain ⟨rfl, rfl⟩ := Prod.mk.inj h; exact ⟨.bool (decide (y < x)), fun w => by simp [binOp, Op.intCmp], db _⟩
  case geq => obtain ⟨rfl, rfl⟩ := Prod.mk.inj h; exact ⟨.bool (decide (y ≤ x)), fun w => by simp [binOp, Op.intCmp], db _⟩
  case shl => exact absurd rfl hop.1
  case shr => exact absurd rfl hop.2
end
end Go.SY
/-
  The symbolic machine: values held against each other, piece by piece.
-/
namespace Go.SY
open Go
def EqRes : List Lf → List Value → List Value → Bool → Prop
  | [], us, vs, b => us = [] ∧ vs = [] ∧ b = true
  | .int k :: L, us, vs, b => ∃ x y us' vs' b', us = .int k x :: us' ∧ vs = .int k y :: vs' ∧ EqRes L us' vs' b' ∧ b = ((x == y) && b')
  | .str :: L, us, vs, b => ∃ x y us' vs' b', us = .string x :: us' ∧ vs = .string y :: vs' ∧ EqRes L us' vs' b' ∧ b = ((x.toList == y.toList) && b')
  | .bool :: L, us, vs, b => ∃ x y us' vs' b', us = .bool x :: us' ∧ vs = .bool y :: vs' ∧ EqRes L us' vs' b' ∧ b = ((x == y) && b')
  | .ints n k :: L, us, vs, b => ∃ (xs ys : List Int) (us' vs' : List Value) (b' : Bool), us = xs.map (.int k) ++ us' ∧ vs = ys.map (.int k) ++ vs' ∧ xs.length = n ∧ ys.length = n ∧ EqRes L us' vs' b' ∧ b = (decide (xs = ys) && b')
theorem EqRes.append : ∀ {L M : List Lf} {us vs us' vs' : List Value} {b c : Bool}, EqRes L us vs b → EqRes M us' vs' c → EqRes (L ++ M) (us ++ us') (vs ++ vs') (b && c)
  | [], M, us, vs, us', vs', b, c, h, g => by
    obtain ⟨rfl, rfl, rfl⟩ := h
    simpa using g
  | .int k :: L, M, _, _, _, _, _, _, h, g => by
    obtain ⟨x, y, u, v, b', rfl, rfl, h1, rfl⟩ := h
    exact ⟨x, y, _, _, _, rfl, rfl, h1.append g, by rw [Bool.and_assoc]⟩
  | .str :: L, M, _, _, _, _, _, _, h, g => by
    obtain ⟨x, y, u, v, b', rfl, rfl, h1, rfl⟩ := h
    exact ⟨x, y, _, _, _, rfl, rfl, h1.append g, by rw [Bool.and_assoc]⟩
  | .bool :: L, M, _, _, _, _, _, _, h, g => by
    obtain ⟨x, y, u, v, b', rfl, rfl, h1, rfl⟩ := h
    exact ⟨x, y, _, _, _, rfl, rfl, h1.append g, by rw [Bool.and_assoc]⟩
  | .ints n k :: L, M, _, _, _, _, _, _, h, g => by
    obtain ⟨xs, ys, u, v, b', rfl, rfl, h1, h2, h3, rfl⟩ := h
    exact ⟨xs, ys, _, _, _, by simp, by simp, h1, h2, h3.append g, by rw [Bool.and_assoc]⟩
theorem EqRes.split : ∀ {L M : List Lf} {us vs : List Value} {b : Bool}, EqRes (L ++ M) us vs b → ∃ u1 u2 v1 v2 b1 b2, us = u1 ++ u2 ∧ vs = v1 ++ v2 ∧ b = (b1 && b2) ∧ EqRes L u1 v1 b1 ∧ EqRes M u2 v2 b2
  | [], M, us, vs, b, h => ⟨[], us, [], vs, true, b, rfl, rfl, by simp, ⟨rfl, rfl, rfl⟩, h⟩
  | .int k :: L, M, _, _, _, h => by
    obtain ⟨x, y, u, v, b', rfl, rfl, h1, rfl⟩ := h
    obtain ⟨u1, u2, v1, v2, b1, b2, rfl, rfl, rfl, h2, h3⟩ := h1.split
    exact ⟨.int k x :: u1, u2, .int k y :: v1, v2, _, b2, rfl, rfl, by rw [← Bool.and_assoc], ⟨x, y, _, _, _, rfl, rfl, h2, rfl⟩, h3⟩
  | .str :: L, M, _, _, _, h => by
    obtain ⟨x, y, u, v, b', rfl, rfl, h1, rfl⟩ := h
    obtain ⟨u1, u2, v1, v2, b1, b2, rfl, rfl, rfl, h2, h3⟩ := h1.split
    exact ⟨.string x :: u1, u2, .string y :: v1, v2, _, b2, rfl, rfl, by rw [← Bool.and_assoc], ⟨x, y, _, _, _, rfl, rfl, h2, rfl⟩, h3⟩
  | .bool :: L, M, _, _, _, h => by
    obtain ⟨x, y, u, v, b', rfl, rfl, h1, rfl⟩ := h
    obtain ⟨u1, u2, v1, v2, b1, b2, rfl, rfl, rfl, h2, h3⟩ := h1.split
    exact ⟨.bool x :: u1, u2, .bool y :: v1, v2, _, b2, rfl, rfl, by rw [← Bool.and_assoc], ⟨x, y, _, _, _, rfl, rfl, h2, rfl⟩, h3⟩
  | .ints n k :: L, M, _, _, _, h => by
    obtain ⟨xs, ys, u, v, b', rfl, rfl, h0, h0', h1, rfl⟩ := h
    obtain ⟨u1, u2, v1, v2, b1, b2, rfl, rfl, rfl, h2, h3⟩ := h1.split
    exact ⟨xs.map (.int k) ++ u1, u2, ys.map (.int k) ++ v1, v2, _, b2, by simp, by simp, by rw [← Bool.and_assoc], ⟨xs, ys, _, _, _, rfl, rfl, h0, h0', h2, rfl⟩, h3⟩
theorem EqRes.len : ∀ {L : List Lf} {us vs : List Value} {b : Bool}, EqRes L us vs b → us.length = lfw L ∧ vs.length = lfw L
  | [], _, _, _, h => by obtain ⟨rfl, rfl, -⟩ := h; exact ⟨rfl, rfl⟩
  | .int k :: L, _, _, _, h => by
    obtain ⟨x, y, u, v, b', rfl, rfl, h1, rfl⟩ := h
    have := h1.len
    simp [lfw, Lf.wid]; omega
  | .str :: L, _, _, _, h => by
    obtain ⟨x, y, u, v, b', rfl, rfl, h1, rfl⟩ := h
    have := h1.len
    simp [lfw, Lf.wid]; omega
  | .bool :: L, _, _, _, h => by
    obtain ⟨x, y, u, v, b', rfl, rfl, h1, rfl⟩ := h
    have := h1.len
    simp [lfw, Lf.wid]; omega
  | .ints n k :: L, _, _, _, h => by
    obtain ⟨xs, ys, u, v, b', rfl, rfl, h0, h0', h1, rfl⟩ := h
    have := h1.len
    simp [lfw, Lf.wid]; omega
theorem eqPs_sound {β : Env} : ∀ {L : List Lf} {ps qs : List AV} {us vs : List Value} {b : Bool}, DenC β ps us → DenC β qs vs → eqPs L ps qs = some b → EqRes L us vs b
  | [], ps, qs, us, vs, b, h1, h2, h => by
    cases ps with
    | nil =>
      cases qs with
      | nil =>
        simp only [eqPs, Option.some.injEq] at h
        simp only [DenC] at h1 h2
        exact ⟨h1, h2, h.symm⟩
      | cons q qs => simp [eqPs] at h
    | cons p ps => simp [eqPs] at h
  | .int k :: L, ps, qs, us, vs, b, h1, h2, h => by
    obtain ⟨k1, x, ps', k2, y, qs', rfl, rfl⟩ : ∃ k1 x ps' k2 y qs', ps = .v (.int k1 x) :: ps' ∧ qs = .v (.int k2 y) :: qs' := by
      unfold eqPs at h
      split at h
      · rename_i he; cases he
      · exact ⟨_, _, _, _, _, _, rfl, rfl⟩
      · rename_i he; cases he
      · rename_i he; cases he
      · rename_i he; cases he
      · cases h
    simp only [eqPs] at h
    split at h
    · rename_i hk1
      split at h
      · rename_i hk2
        split at h
        · rename_i b' hb
          obtain rfl := Option.some.inj h
          subst hk1; subst hk2
          obtain ⟨y1, z1, rfl, g1, -, g2⟩ := (denC_cons (by rfl)).1 h1
          obtain ⟨y2, z2, rfl, g3, -, g4⟩ := (denC_cons (by rfl)).1 h2
          simp only [Den] at g1 g3
          obtain ⟨rfl, -⟩ := g1
          obtain ⟨rfl, -⟩ := g3
          exact ⟨_, _, _, _, _, rfl, rfl, eqPs_sound g2 g4 hb, rfl⟩
        · cases h
      · cases h
    · cases h
  | .str :: L, ps, qs, us, vs, b, h1, h2, h => by
    obtain ⟨x, ps', y, qs', rfl, rfl⟩ : ∃ x ps' y qs', ps = .v (.string x) :: ps' ∧ qs = .v (.string y) :: qs' := by
      unfold eqPs at h
      split at h
      · rename_i he; cases he
      · rename_i he; cases he
      · exact ⟨_, _, _, _, rfl, rfl⟩
      · rename_i he; cases he
      · rename_i he; cases he
      · cases h
    simp only [eqPs] at h
    split at h
    · rename_i b' hb
      obtain rfl := Option.some.inj h
      obtain ⟨y1, z1, rfl, g1, -, g2⟩ := (denC_cons (by rfl)).1 h1
      obtain ⟨y2, z2, rfl, g3, -, g4⟩ := (denC_cons (by rfl)).1 h2
      simp only [Den] at g1 g3
      obtain ⟨rfl, -⟩ := g1
      obtain ⟨rfl, -⟩ := g3
      exact ⟨_, _, _, _, _, rfl, rfl, eqPs_sound g2 g4 hb, rfl⟩
    · cases h
  | .bool :: L, ps, qs, us, vs, b, h1, h2, h => by
    obtain ⟨x, ps', y, qs', rfl, rfl⟩ : ∃ x ps' y qs', ps = .v (.bool x) :: ps' ∧ qs = .v (.bool y) :: qs' := by
      unfold eqPs at h
      split at h
      · rename_i he; cases he
      · rename_i he; cases he
      · rename_i he; cases he
      · exact ⟨_, _, _, _, rfl, rfl⟩
      · rename_i he; cases he
      · cases h
    simp only [eqPs] at h
    split at h
    · rename_i b' hb
      obtain rfl := Option.some.inj h
      obtain ⟨y1, z1, rfl, g1, -, g2⟩ := (denC_cons (by rfl)).1 h1
      obtain ⟨y2, z2, rfl, g3, -, g4⟩ := (denC_cons (by rfl)).1 h2
      simp only [Den] at g1 g3
      obtain ⟨rfl, -⟩ := g1
      obtain ⟨rfl, -⟩ := g3
      exact ⟨_, _, _, _, _, rfl, rfl, eqPs_sound g2 g4 hb, rfl⟩
    · cases h
  | .ints n k :: L, ps, qs, us, vs, b, h1, h2, h => by
    obtain ⟨n1, k1, xs, ps', n2, k2, ys, qs', rfl, rfl⟩ : ∃ n1 k1 xs ps' n2 k2 ys qs', ps = .ch n1 k1 xs :: ps' ∧ qs = .ch n2 k2 ys :: qs' := by
      unfold eqPs at h
      split at h
      · rename_i he; cases he
      · rename_i he; cases he
      · rename_i he; cases he
      · rename_i he; cases he
      · exact ⟨_, _, _, _, _, _, _, _, rfl, rfl⟩
      · cases h
    simp only [eqPs] at h
    split at h
    · rename_i hk1
      split at h
      · rename_i hk2
        split at h
        · rename_i hn1
          split at h
          · rename_i hn2
            split at h
            · rename_i b' hb
              obtain rfl := Option.some.inj h
              subst hk1; subst hk2
              obtain ⟨z1, rfl, g1, -, g2⟩ := denC_ch.1 h1
              obtain ⟨z2, rfl, g3, -, g4⟩ := denC_ch.1 h2
              exact ⟨_, _, _, _, _, rfl, rfl, g1.trans hn1, g3.trans hn2, eqPs_sound g2 g4 hb, rfl⟩
            · cases h
          · cases h
        · cases h
      · cases h
    · cases h
section
variable {P : Program} {w : World}
def valOf (P : Program) (t : TypeId) (us : List Value) : Value := if agOf P t = true then .agg us.toArray else (us[0]?.getD undef)
theorem agOf_agg {t : TypeId} {d : TypeDesc} (hu : P.underlying t = some d) : agOf P t = aggD d := by simp [agOf, hu]
theorem isAgg_at {t : TypeId} {d : TypeDesc} (hu : P.underlying t = some d) : (isAgg t).run P w = .ok (agOf P t) w := by
  simp only [isAgg, Sem.run_bind, underlying_run w hu, Result.andThen_ok, agOf, hu]
  cases d <;> rfl
theorem part_val {t : TypeId} {d : TypeDesc} (hu : P.underlying t = some d) {us a b : List Value} {off : Nat} (hc : P.cellsOf t ≠ 0) (ha : a.length = off) (hl : us.length = P.cellsOf t) :
    (part t (a ++ (us ++ b)).toArray off).run P w = .ok (valOf P t us) w := by
  simp only [part, Sem.run_bind, isAgg_at hu, Result.andThen_ok, Sem.run_ite, sizeOf_pos w rfl hc, Sem.run_pure, valOf]
  split
  · congr 2
    apply Array.ext'
    simp [List.extract_eq_take_drop, List.drop_append, List.drop_of_length_le (Nat.le_of_eq ha), ← ha, ← hl, List.take_append]
  · have h0 : 0 < us.length := by omega
    have : ((a ++ (us ++ b)).toArray)[off]? = some us[0] := by
      simp only [List.getElem?_toArray]
      rw [List.getElem?_append_right (by omega), ha, Nat.sub_self, List.getElem?_append_left h0, List.getElem?_eq_getElem h0]
    rw [this, List.getElem?_eq_getElem h0]
    rfl
theorem eqItems_run (d : Nat) {e : TypeId} {k : IntKind} (hu : P.underlying e = some (.int k)) (hc : P.cellsOf e = 1) {xs ys : List Int} (hl : xs.length = ys.length) : ∀ (m i : Nat), i + m = xs.length →
    (Op.eqItems (d + 1) e (P.cellsOf e) (xs.map (.int k)).toArray (ys.map (.int k)).toArray (List.range' i m)).run P w = .ok (decide (xs.drop i = ys.drop i)) w
  | 0, i, h => by
    rw [List.drop_of_length_le (by omega), List.drop_of_length_le (by omega)]
    simp [Op.eqItems]
  | m + 1, i, h => by
    have hi : i < xs.length := by omega
    have hj : i < ys.length := by omega
    have pr : ∀ (zs : List Int) (hz : i < zs.length), (part e (zs.map (Value.int k)).toArray (i * P.cellsOf e)).run P w = .ok (.int k zs[i]) w := by
      intro zs hz
      simp only [part, Sem.run_bind, isAgg_at hu, Result.andThen_ok, agOf, hu, aggD, hc]
      simp [hz]
    rw [List.range'_succ]
    simp only [Op.eqItems, Sem.run_bind, pr xs hi, pr ys hj, Result.andThen_ok, run_equalIn_int w d e k k _ _ hu]
    have ih := eqItems_run d hu hc hl m (i + 1) (by omega)
    have e1 := List.drop_eq_getElem_cons hi
    have e2 := List.drop_eq_getElem_cons hj
    have e3 : decide (xs.drop i = ys.drop i) = (decide (xs[i] = ys[i]) && decide (xs.drop (i + 1) = ys.drop (i + 1))) := by
      rw [e1, e2]
      simp only [List.cons.injEq, Bool.decide_and]
    rw [e3]
    by_cases he : xs[i] = ys[i]
    · have : (xs[i] == ys[i]) = true := by simpa using he
      simp only [this, Bool.not_true, Bool.false_eq_true, if_false, ih]
      congr 1
      simp [he]
    · have : (xs[i] == ys[i]) = false := by simpa using he
      simp only [this, Bool.not_false, if_true, Sem.run_pure]
      congr 1
      simp [he]
theorem eq_run : ∀ (d : Nat) {t : TypeId} {L : List Lf} {us vs : List Value} {b : Bool}, eqLf P d t = some L → EqRes L us vs b → ∀ (m : Nat) (w : World), (Op.equalIn (m + (d + 1)) t (valOf P t us) (valOf P t vs)).run P w = .ok b w
  | 0, t, L, us, vs, b, hL, _, _, _ => by simp [eqLf] at hL
  | d + 1, t, L, us, vs, b, hL, h, m, w => by
    simp only [eqLf] at hL
    split at hL
    · rename_i k hu
      obtain rfl := Option.some.inj hL
      obtain ⟨x, y, u, v, b', rfl, rfl, ⟨rfl, rfl, rfl⟩, rfl⟩ := h
      simp only [valOf, agOf, hu, aggD, Bool.false_eq_true, if_false, List.getElem?_cons_zero, Option.getD_some, Bool.and_true]
      exact run_equalIn_int w _ t k k x y hu
    · rename_i hu
      obtain rfl := Option.some.inj hL
      obtain ⟨x, y, u, v, b', rfl, rfl, ⟨rfl, rfl, rfl⟩, rfl⟩ := h
      simp only [valOf, agOf, hu, aggD, Bool.false_eq_true, if_false, List.getElem?_cons_zero, Option.getD_some, Bool.and_true]
      exact run_equalIn_string w _ t x y hu
    · rename_i hu
      obtain rfl := Option.some.inj hL
      obtain ⟨x, y, u, v, b', rfl, rfl, ⟨rfl, rfl, rfl⟩, rfl⟩ := h
      simp only [valOf, agOf, hu, aggD, Bool.false_eq_true, if_false, List.getElem?_cons_zero, Option.getD_some, Bool.and_true]
      exact run_equalIn_bool' w _ t x y hu
    · rename_i n e hu
      split at hL
      · rename_i k he
        split at hL
        · rename_i hc
          obtain rfl := Option.some.inj hL
          obtain ⟨xs, ys, u, v, b', rfl, rfl, h1, h2, ⟨rfl, rfl, rfl⟩, rfl⟩ := h
          have hi : ∃ i, P.info? e = some i := by
            unfold Program.cellsOf at hc
            cases hi : P.info? e with
            | none => simp [hi] at hc
            | some i => exact ⟨i, rfl⟩
          obtain ⟨i, hi⟩ := hi
          simp only [valOf, agOf, hu, aggD, if_true, List.append_nil, Bool.and_true]
          rw [show m + (d + 1 + 1) = (m + d + 1) + 1 by omega, run_equalIn_array w _ _ _ hu hi, List.range_eq_range']
          have := eqItems_run (w := w) (m + d) he hc (h1.trans h2.symm) n 0 (by omega)
          simpa using this
        · cases hL
      · cases hL
    · rename_i fs hu
      split at hL
      · cases hL
      · rename_i hst
        have hst : P.stoodInHeld t = false := by simpa using hst
        have hf : P.fieldsOf t = fs := by simp [Program.fieldsOf, hu]
        simp only [valOf, agOf, hu, aggD, if_true]
        rw [show m + (d + 1 + 1) = (m + (d + 1)) + 1 by omega, run_equalIn_struct w _ t _ _ (by rw [hf]; exact hu) hst, hf]
        -- the fields, one behind the other
        have fields : ∀ (l : List Field) (o : Nat) (L : List Lf) (us vs pre pre' : List Value) (b : Bool), eqFs P (eqLf P d) l o = some L → EqRes L us vs b → pre.length = o → pre'.length = o →
            (Op.eqFields (m + (d + 1)) (pre ++ us).toArray (pre' ++ vs).toArray l).run P w = .ok b w := by
          intro l
          induction l with
          | nil =>
            intro o L us vs pre pre' b hL h _ _
            simp only [eqFs, Option.some.injEq] at hL
            subst hL
            obtain ⟨-, -, rfl⟩ := h
            simp [Op.eqFields]
          | cons f l ih =>
            intro o L us vs pre pre' b hL h hp hp'
            simp only [eqFs] at hL
            split at hL
            · rename_i hn
              obtain ⟨hn, ho⟩ := hn
              split at hL
              · rename_i L1 hL1
                split at hL
                · rename_i hw
                  obtain ⟨hw, hc⟩ := hw
                  split at hL
                  · rename_i L2 hL2
                    obtain rfl := Option.some.inj hL
                    obtain ⟨u1, u2, v1, v2, b1, b2, rfl, rfl, rfl, g1, g2⟩ := h.split
                    obtain ⟨e1, e2⟩ := g1.len
                    have hd : ∃ dd, P.underlying f.type = some dd := by
                      cases d with
                      | zero => simp [eqLf] at hL1
                      | succ d =>
                        simp only [eqLf] at hL1
                        cases hq : P.underlying f.type with
                        | none => simp [hq] at hL1
                        | some dd => exact ⟨dd, rfl⟩
                    obtain ⟨dd, hdd⟩ := hd
                    have p1 := part_val (w := w) hdd (us := u1) (a := pre) (b := u2) (off := f.offset) hc (by omega) (by omega)
                    have p2 := part_val (w := w) hdd (us := v1) (a := pre') (b := v2) (off := f.offset) hc (by omega) (by omega)
                    simp only [Op.eqFields, hn, ne_eq, not_false_eq_true, if_true, Sem.run_bind, p1, p2, Result.andThen_ok, eq_run d hL1 g1 m w]
                    have := ih (o + P.cellsOf f.type) L2 u2 v2 (pre ++ u1) (pre' ++ v1) b2 hL2 g2 (by simp; omega) (by simp; omega)
                    simp only [List.append_assoc] at this
                    cases b1
                    · simp
                    · simp [this]
                  · cases hL
                · cases hL
              · cases hL
            · cases hL
        have := fields fs.toList 0 L us vs [] [] b hL h rfl rfl
        simpa using this
    · cases hL
end
end Go.SY
/-
  The symbolic machine: operations that look at no memory, and that they are sound.
-/
namespace Go.SY
open Go
def pickAV (t : Bool) (a b : AV) : AV := match t with
  | true => a
  | false => b
def bytesL (s : ByteArray) : List Int := s.data.toList.map fun b => (b.toNat : Int)
theorem bytesL_len (s : ByteArray) : (bytesL s).length = s.size := by simp [bytesL]
theorem bytesL_ok (s : ByteArray) : okN .u8 (bytesL s) := fun x hx => by
  obtain ⟨b, -, rfl⟩ := List.mem_map.1 hx
  have := b.toNat_lt
  simp [inK]; omega
def bnd (x : Option AV) (d : Nat) : Option (Bool × Nat) :=
  match x with
  | none => some (true, d)
  | some (.v (.int _ z)) => some (decide (0 ≤ z), z.toNat)
  | _ => none
def subO (c : Option Nat) (s : Nat) : Option Nat := match c with
  | some q => some (q - s)
  | none => none
def cutOf (n : Nat) (c : Option Nat) (lo hi mx : Option AV) : Option (Bool × Nat × Nat × Option Nat) :=
  match bnd lo 0, bnd hi n with
  | some (p3, s), some (p2, h) => (match mx with
    | none => some (p2 && (p3 && (decide (s ≤ h) && decide (h ≤ c.getD n))), s, h - s, subO c s)
    | some m => (match bnd (some m) 0 with
      | some (p1, m) => some (p1 && (p2 && (p3 && (decide (s ≤ h) && (decide (h ≤ m) && decide (m ≤ c.getD n))))), s, h - s, some (m - s))
      | none => none))
  | _, _ => none
def okMx (hi mx : Option Operand) : Bool := match mx, hi with
  | some _, none => false
  | _, _ => true
def fillA (pl : Nat → Option (Nat × Nat)) : List AV → List (Nat × AV) → Option (List AV)
  | cs, [] => some cs
  | cs, (i, x) :: r => (match pl i with
    | none => none
    | some (o, s) => (match flat x s with
      | none => none
      | some f => (match wrC cs o f s with
        | none => none
        | some b => fillA pl b r)))
def plFs (fs : List (Nat × Nat × Bool)) (i : Nat) : Option (Nat × Nat) := match nth fs i with
  | some (o, s, _) => some (o, s)
  | none => none
def nz : List (Nat × Nat × Bool) → Bool
  | [] => true
  | (_, s, _) :: r => if s = 0 then false else nz r
def minI (f : Int → Int → Int) (k : IntKind) : Int → List AV → Option Int
  | x, [] => some x
  | x, .v (.int k' y) :: r => if k' = k then minI f k (f x y) r else none
  | _, _ :: _ => none
def pop (P : Program) (tm : List (Nat × AV)) (o : Op) : Option (Bool × AV) :=
  match o with
  | .move x => some (true, ev tm x)
  | .assign x => some (true, ev tm x)
  | .pick c a b => (match ev tm c with
    | .v (.bool t) => some (true, pickAV t (ev tm a) (ev tm b))
    | _ => none)
  | .nilCheck x => (match ev tm x with
    | .ptr l i w k => some (true, .ptr l i w k)
    | .ip t r k => some (true, .ip t r k)
    | .fn f a b => some (true, .fn f a b)
    | .yld l => some (true, .yld l)
    | .v (.pointer p) => some (p.isSome, .v (.pointer p))
    | _ => none)
  | .binOp op t x y _ => (match ti P t with
    | some T => bop op T (ev tm x) (ev tm y)
    | none => none)
  | .unOp op _ x => (match op, ev tm x with
    | .not, .v (.bool b) => some (true, .v (.bool (!b)))
    | .neg, .v (.int k z) => some (ar k (0 - z))
    | .xor, .v (.int k z) => some (true, .v (.int k (bits2 .xor k (if k.signed then -1 else k.max) z)))
    | _, _ => none)
  | .convert src dst x => (match ti P src, ti P dst with
    | some _, some D => (match D.kd, ev tm x with
      | .int k, .v (.int _ z) => some (true, .v (.int k (k.wrap z)))
      | .str, .v (.string s) => some (true, .v (.string s))
      | _, _ => none)
    | _, _ => none)
  | .fieldAddr s x f => (match ti P s with
    | some T => (match T.kd with
      | .struct fs => (match nth fs f with
        | some (o, sz, _) => if sz = 0 then none else (match ev tm x with
          | .ptr l i w k => some (true, .ptr l i w (k + o))
          | .ip t r k => some (true, .ip t r (k + o))
          | _ => none)
        | none => none)
      | _ => none)
    | none => none)
  | .indexAddr t x ix => (match ti P t with
    | some T => (match ev tm ix with
      | .v (.int _ j) => (match T.kd, ev tm x with
        | .slice _ sz _, .sl l i w n _ => if sz = 0 then none else if w = sz then some (decide (0 ≤ j) && decide (j < n), .ptr l (i + j.toNat) w 0) else none
        | .slice _ sz _, .imn t k xs _ => if sz = 1 then some (decide (0 ≤ j) && decide (j < xs.length), .ip t [.v (.int k (xs[j.toNat]?.getD 0))] 0) else none
        | .slice _ sz _, .imr t w rs _ => if sz = 0 then none else if w = sz then some (decide (0 ≤ j) && decide (j < rs.length), .ip t (rs[j.toNat]?.getD []) 0) else none
        | .arr n _ sz, .ptr l i w k => if sz = 1 then some (decide (0 ≤ j) && decide (j < n), .ptr l (i * w + k + j.toNat) 1 0) else if sz = 0 then none
            else if i * w + k = 0 then some (decide (0 ≤ j) && decide (j < n), .ptr l j.toNat sz 0) else none
        | .arr n _ sz, .ip t r k => if sz = 1 then (match dr r k with
          | some (.ch m kk xs :: _) => if m = n then some (decide (0 ≤ j) && decide (j < n), .ip t [.v (.int kk (xs[j.toNat]?.getD 0))] 0) else none
          | _ => none) else none
        | _, _ => none)
      | _ => none)
    | none => none)
  | .index t x ix => (match ti P t with
    | some T => (match ev tm ix with
      | .v (.int _ j) => (match T.kd, ev tm x with
        | .str, .v (.string s) => some (decide (0 ≤ j) && decide (j < (bytesL s).length), .v (.int .u8 ((bytesL s)[j.toNat]?.getD 0)))
        | .arr n e _, .ch m k xs => (match ti P e with
          | some E => (match E.kd with
            | .int _ => if E.sz = 1 then (if m = n then some (decide (0 ≤ j) && decide (j < n), .v (.int k (xs[j.toNat]?.getD 0))) else none) else none
            | _ => none)
          | none => none)
        | _, _ => none)
      | _ => none)
    | none => none)
  | .slice t x lo hi mx => if okMx hi mx = true then (match ti P t with
    | some T => (match T.kd, ev tm x with
      | .str, .v (.string s) => (match mx with
        | none => (match cutOf s.size (some s.size) (lo.map (ev tm)) (hi.map (ev tm)) none with
          | some (vc, b, n, _) => some (vc, .v (.string (s.extract b (b + n))))
          | none => none)
        | some _ => none)
      | .slice _ sz _, .sl l i w n c => if sz = 0 then none else if w = sz then (match cutOf n c (lo.map (ev tm)) (hi.map (ev tm)) (mx.map (ev tm)) with
        | some (vc, b, n', c') => some (vc, .sl l (i + b) w n' c')
        | none => none) else none
      | .slice _ sz _, .imn t k xs c => if sz = 1 then (match cutOf xs.length none (lo.map (ev tm)) (hi.map (ev tm)) (mx.map (ev tm)) with
        | some (vc, b, n', c') => some (vc, .imn t k ((xs.drop b).take n') (match mx with
          | none => subO c b
          | some _ => c'))
        | none => none) else none
      | .slice _ sz _, .imr t w rs c => if sz = 0 then none else if w = sz then (match cutOf rs.length none (lo.map (ev tm)) (hi.map (ev tm)) (mx.map (ev tm)) with
        | some (vc, b, n', c') => some (vc, .imr t w ((rs.drop b).take n') (match mx with
          | none => subO c b
          | some _ => c'))
        | none => none) else none
      | .slice _ sz _, .nil => if sz = 0 then none else (match cutOf 0 (some 0) (lo.map (ev tm)) (hi.map (ev tm)) (mx.map (ev tm)) with
        | some (vc, _, _, _) => some (vc, .nil)
        | none => none)
      | _, _ => none)
    | none => none) else none
  | .makeFunc fn fst cap => (match fn with
    | .func f => some (true, .fn f (fst.toList.map (ev tm)) (cap.toList.map (ev tm)))
    | _ => none)
  | .extract t i => (match ev tm t with
    | .tup xs => (match nth xs i with
      | some x => some (true, x)
      | none => none)
    | _ => none)
  | .field t x f => (match ti P t with
    | some T => (match T.kd, parts (ev tm x) with
      | .struct fs, some xs => (match nth fs f with
        | some (o, sz, ag) => if sz = 0 then none else (match ag with
          | true => (match dr xs o with
            | some c1 => (match tk c1 sz with
              | some c2 => some (true, pack c2)
              | none => none)
            | none => none)
          | false => (match at1 xs o with
            | some r => some (true, r)
            | none => none))
        | none => none)
      | _, _ => none)
    | none => none)
  | .build t ps => (match ti P t with
    | some T => (match T.kd, T.zc with
      | .struct fs, some cs => (match fillA (plFs fs) cs (ps.toList.map fun p => (p.1, ev tm p.2)) with
          | some r => if nz fs = true then some (true, pack r) else none
          | none => none)
      | .arr _ _ sz, some cs => if sz = 0 then none else (match fillA (fun i => some (i * sz, sz)) cs (ps.toList.map fun p => (p.1, ev tm p.2)) with
          | some r => some (true, pack r)
          | none => none)
      | _, _ => none)
    | none => none)
  | .call { callee := .builtin .len, args, argTypes } => (match args.toList, argTypes.toList with
    | [x], [t] => (match ti P t with
      | some T => (match T.kd with
        | .slice _ _ _ => (match ev tm x with
          | .sl _ _ _ n _ => some (true, .v (.int .i64 n))
          | .imn _ _ xs _ => some (true, .v (.int .i64 xs.length))
          | .imr _ _ rs _ => some (true, .v (.int .i64 rs.length))
          | .nil => some (true, .v (.int .i64 0))
          | _ => none)
        | .str => (match ev tm x with
          | .v (.string s) => some (true, .v (.int .i64 s.size))
          | _ => none)
        | .arr n _ _ => if n < 9223372036854775808 then some (true, .v (.int .i64 n)) else none
        | _ => none)
      | none => none)
    | _, _ => none)
  | .call { callee := .builtin .cap, args, argTypes } => (match args.toList, argTypes.toList with
    | [x], [t] => (match ti P t with
      | some T => (match T.kd, ev tm x with
        | .slice _ _ _, .sl _ _ _ _ (some c) => some (true, .v (.int .i64 c))
        | .slice _ _ _, .imn _ _ _ (some c) => some (true, .v (.int .i64 c))
        | .slice _ _ _, .imr _ _ _ (some c) => some (true, .v (.int .i64 c))
        | .slice _ _ _, .nil => some (true, .v (.int .i64 0))
        | _, _ => none)
      | none => none)
    | _, _ => none)
  | .call { callee := .builtin .min, args, argTypes := _ } => (match args.toList.map (ev tm) with
    | .v (.int k x) :: r => (match minI min k x r with
      | some z => some (true, .v (.int k z))
      | none => none)
    | _ => none)
  | .call { callee := .builtin .max, args, argTypes := _ } => (match args.toList.map (ev tm) with
    | .v (.int k x) :: r => (match minI max k x r with
      | some z => some (true, .v (.int k z))
      | none => none)
    | _ => none)
  | _ => none
def Pur (P : Program) (β : Env) (ρ : Operand → Value) (o : Oper) (r : AV) : Prop := ∃ y, Den β r y ∧ ∀ w : World, (execOp ρ o).run P w = .ok (.value y) w
section
variable {P : Program} {β : Env} {tm : List (Nat × AV)} {ρ : Operand → Value} {o : Oper} {vc : Bool} {r : AV}
theorem den_int {k : IntKind} {z : Int} {y : Value} (h : Den β (.v (.int k z)) y) : y = .int k z ∧ inK k z = true := by simp only [Den, wfV] at h; exact ⟨h.1, h.2.2⟩
theorem mk_int {k : IntKind} {z : Int} (h : inK k z = true) : Den β (.v (.int k z)) (.int k z) := by simp only [Den, one, wfV, true_and]; exact h
theorem mk_bool (b : Bool) : Den β (.v (.bool b)) (.bool b) := by simp [Den, one, wfV]
theorem mk_len {n : Nat} (h : n < 9223372036854775808) : Den β (.v (.int .i64 n)) (.int .i64 n) := mk_int (by simp [inK]; omega)
theorem denL_append : ∀ {xs ys : List AV} {us vs : List Value}, DenL β xs us → DenL β ys vs → DenL β (xs ++ ys) (us ++ vs)
  | [], _, _, _, h1, h2 => by simp only [DenL] at h1; subst h1; exact h2
  | x :: xs, _, _, _, h1, h2 => by
    simp only [DenL] at h1
    obtain ⟨y, zs, rfl, h3, h4⟩ := h1
    simp only [List.cons_append, DenL]
    exact ⟨y, _, rfl, h3, denL_append h4 h2⟩
theorem denL_map (h : EvOk β tm ρ) : ∀ xs : List Operand, DenL β (xs.map (ev tm)) (xs.map ρ)
  | [] => by simp [DenL]
  | x :: xs => by simp only [List.map_cons, DenL]; exact ⟨_, _, rfl, h x, denL_map h xs⟩
theorem denL_length : ∀ {xs : List AV} {us : List Value}, DenL β xs us → us.length = xs.length
  | [], _, h => by simp only [DenL] at h; subst h; rfl
  | x :: xs, _, h => by
    simp only [DenL] at h
    obtain ⟨y, zs, rfl, -, h4⟩ := h
    simp [denL_length h4]
theorem denL_get : ∀ {xs : List AV} {ys : List Value} {i : Nat} {x : AV}, DenL β xs ys → xs[i]? = some x → ∃ y, ys[i]? = some y ∧ Den β x y
  | [], _, _, _, _, h => by simp at h
  | c :: cs, _, 0, x, hd, h => by
    simp only [DenL] at hd
    obtain ⟨y, zs, rfl, h1, -⟩ := hd
    simp at h; subst h
    exact ⟨y, by simp, h1⟩
  | c :: cs, _, i + 1, x, hd, h => by
    simp only [DenL] at hd
    obtain ⟨y, zs, rfl, -, h2⟩ := hd
    obtain ⟨y', h3, h4⟩ := denL_get h2 (by simpa using h)
    exact ⟨y', by simpa using h3, h4⟩
theorem kd_struct {T : TI} {t : TypeId} {fs : List (Nat × Nat × Bool)} (ht : ti P t = some T) (hk : T.kd = .struct fs) : ∃ fields : Array Field, P.underlying t = some (.struct fields) ∧
    (fs = fields.toList.map fun f => (f.offset, P.cellsOf f.type, agOf P f.type)) ∧ ∀ f ∈ fields.toList, (P.underlying f.type).isSome = true := by
  obtain ⟨i, d, -, hu, -, -, -, hkd, -⟩ := ti_spec ht
  rw [hkd] at hk
  cases d <;> simp only [kdOf] at hk <;> try (cases hk; done)
  rename_i fields
  split at hk
  · rename_i hall
    exact ⟨fields, hu, (KD.struct.inj hk).symm, fun f hf => List.all_eq_true.1 hall f hf⟩
  · cases hk
theorem kd_slice {T : TI} {t e : TypeId} {sz b : Nat} (ht : ti P t = some T) (hk : T.kd = .slice e sz b) : P.underlying t = some (.slice e) ∧ P.cellsOf e = sz ∧ P.bytesOf e = b := by
  obtain ⟨i, d, -, hu, -, -, -, hkd, -⟩ := ti_spec ht
  rw [hkd] at hk
  obtain ⟨rfl, h1, h2⟩ := kdOf_slice hk
  exact ⟨hu, h1, h2⟩
theorem kd_arr {T : TI} {t e : TypeId} {m sz : Nat} (ht : ti P t = some T) (hk : T.kd = .arr m e sz) : P.underlying t = some (.array m e) ∧ P.cellsOf e = sz := by
  obtain ⟨i, d, -, hu, -, -, -, hkd, -⟩ := ti_spec ht
  rw [hkd] at hk
  obtain ⟨rfl, h1⟩ := kdOf_arr hk
  exact ⟨hu, h1⟩
theorem kd_str {T : TI} {t : TypeId} (ht : ti P t = some T) (hk : T.kd = .str) : P.underlying t = some .string := by
  obtain ⟨i, d, -, hu, -, -, -, hkd, -⟩ := ti_spec ht
  rw [hkd] at hk
  obtain rfl := kdOf_str hk
  exact hu
theorem kd_int {T : TI} {t : TypeId} {k : IntKind} (ht : ti P t = some T) (hk : T.kd = .int k) : P.underlying t = some (.int k) := by
  obtain ⟨i, d, -, hu, -, -, -, hkd, -⟩ := ti_spec ht
  rw [hkd] at hk
  obtain rfl := kdOf_int hk
  exact hu
theorem fields_at {fields : Array Field} {fs : List (Nat × Nat × Bool)} (hfs : fs = fields.toList.map fun f => (f.offset, P.cellsOf f.type, agOf P f.type)) {f o sz : Nat} {ag : Bool}
    (h : nth fs f = some (o, sz, ag)) : ∃ fl : Field, fields[f]? = some fl ∧ fl.offset = o ∧ P.cellsOf fl.type = sz ∧ agOf P fl.type = ag := by
  subst hfs
  rw [nth_eq, List.getElem?_map] at h
  cases hf : fields.toList[f]? with
  | none => simp [hf] at h
  | some fl =>
    simp only [hf, Option.map_some, Option.some.injEq, Prod.mk.injEq] at h
    exact ⟨fl, by simpa using hf, h.1, h.2.1, h.2.2⟩
theorem binOp_exec {op : BinOp} {t u : TypeId} {x y : Operand} {v : Value} {w : World} (hop : o.op = .binOp op t x y u) (h1 : (eqGuard op t x y (ρ x) (ρ y)).run P w = .ok () w)
    (h : (binOp op t (ρ x) (ρ y)).run P w = .ok v w) : (execOp ρ o).run P w = .ok (.value v) w := by
  unfold execOp
  simp only [hop, Sem.run_bind, h1, Result.andThen_ok, h, Sem.run_pure]
theorem equal_unfold (t : TypeId) (x y : Value) : Op.equal t x y = Op.equalIn (9999 + 1) t x y := rfl
theorem bopEq_sound {op : BinOp} {t : TypeId} {x y : Value} {vc' b : Bool} (h : bopEq op vc' b = some (vc, r)) (hv : vc = true) (he : vc' = true → ∀ w : World, (Op.equalIn (9999 + 1) t x y).run P w = .ok b w)
    (e1 : binOp .eql t x y = do pure (.bool (← Op.equal t x y))) (e2 : binOp .neq t x y = do pure (.bool (!(← Op.equal t x y)))) :
    ∃ v, (∀ w : World, (binOp op t x y).run P w = .ok v w) ∧ Den β r v := by
  unfold bopEq at h
  split at h
  · obtain ⟨rfl, rfl⟩ := Prod.mk.inj (Option.some.inj h)
    exact ⟨.bool b, fun w => by rw [e1, equal_unfold]; simp only [Sem.run_bind, he hv, Result.andThen_ok, Sem.run_pure], mk_bool _⟩
  · obtain ⟨rfl, rfl⟩ := Prod.mk.inj (Option.some.inj h)
    exact ⟨.bool !b, fun w => by rw [e2, equal_unfold]; simp only [Sem.run_bind, he hv, Result.andThen_ok, Sem.run_pure], mk_bool _⟩
  · cases h
theorem isPtr_spec {d : TypeDesc} (h : isPtr (kdOf P d) = true) : ∃ e, d = .pointer e := by
  unfold isPtr at h
  split at h
  · rename_i e hk; exact ⟨e, kdOf_ptr hk⟩
  · cases h
theorem isSl_spec {d : TypeDesc} (h : isSl (kdOf P d) = true) : ∃ e, d = .slice e := by
  unfold isSl at h
  split at h
  · rename_i e s b hk; exact ⟨e, (kdOf_slice hk).1⟩
  · cases h
theorem isBl_spec {d : TypeDesc} (h : isBl (kdOf P d) = true) : d = .bool := by
  unfold isBl at h
  split at h
  · rename_i hk; exact kdOf_bool hk
  · cases h
theorem slice_nil_run {t e : TypeId} (hu : P.underlying t = some (.slice e)) (m : Nat) (A : Option Addr) (n q : Nat) (w : World) : (Op.equalIn (m + 1) t (.slice A n q) (.slice none 0 0)).run P w = .ok A.isNone w := by
  cases A <;> simp only [Op.equalIn, Sem.run_bind, underlying_run w hu, Result.andThen_ok, Sem.run_pure] <;> rfl
theorem ptr_nil_run {t e : TypeId} (hu : P.underlying t = some (.pointer e)) (m : Nat) (p : Option Addr) (w : World) : (Op.equalIn (m + 1) t (.pointer p) (.pointer none)).run P w = .ok p.isNone w := by
  cases p <;> simp only [Op.equalIn, Sem.run_bind, underlying_run w hu, Result.andThen_ok, Sem.run_pure] <;> rfl
theorem nil_ptr_run {t e : TypeId} (hu : P.underlying t = some (.pointer e)) (m : Nat) (p : Option Addr) (w : World) : (Op.equalIn (m + 1) t (.pointer none) (.pointer p)).run P w = .ok p.isNone w := by
  simp only [Op.equalIn, Sem.run_bind, underlying_run w hu, Result.andThen_ok, Sem.run_pure]
theorem eqFs_any {m : Nat} {g : TypeId → Option (List Lf)} (hg : ∀ t L, g t = some L → P.eqGuardType m t = false) : ∀ (fs : List Field) (o : Nat) (L : List Lf), eqFs P g fs o = some L → (fs.any fun f => f.name != "_" && P.eqGuardType m f.type) = false
  | [], _, _, _ => rfl
  | f :: fs, o, L, h => by
    simp only [eqFs] at h
    split at h
    · split at h
      · rename_i L1 h1
        split at h
        · split at h
          · rename_i L2 h2
            simp only [List.any_cons, hg _ _ h1, Bool.and_false, Bool.false_or]
            exact eqFs_any hg fs _ _ h2
          · cases h
        · cases h
      · cases h
    · cases h
theorem eqLf_guard : ∀ (d : Nat) {t : TypeId} {L : List Lf}, eqLf P d t = some L → ∀ m, P.eqGuardType (m + d + 1) t = false
  | 0, t, L, h, m => by simp [eqLf] at h
  | d + 1, t, L, h, m => by
    simp only [eqLf] at h
    unfold Program.eqGuardType
    split at h
    · rename_i k hu; simp only [hu]
    · rename_i hu; simp only [hu]
    · rename_i hu; simp only [hu]
    · rename_i n e hu
      simp only [hu]
      split at h
      · rename_i k he
        rw [← Nat.add_assoc]
        unfold Program.eqGuardType
        simp only [he]
      · cases h
    · rename_i fs hu
      simp only [hu]
      split at h
      · cases h
      · rw [← Array.any_toList]
        exact eqFs_any (fun t' L' h' => eqLf_guard d h' m) _ _ _ h
    · cases h
theorem bop_sound {op : BinOp} {t u : TypeId} {T : TI} {x y : Operand} (hop : o.op = .binOp op t x y u) (hev : EvOk β tm ρ) (ht : ti P t = some T) (h : bop op T (ev tm x) (ev tm y) = some (vc, r)) (hv : vc = true) :
    Pur P β ρ o r := by
  obtain ⟨i, d, hi, hu, -, -, hag, hkd, -, -, heq⟩ := ti_spec ht
  have hp := hev x
  have hq := hev y
  -- what is to be shown of the operands' values
  have fin : (∀ w : World, (eqGuard op t x y (ρ x) (ρ y)).run P w = .ok () w) → (∃ v, (∀ w : World, (binOp op t (ρ x) (ρ y)).run P w = .ok v w) ∧ Den β r v) → Pur P β ρ o r := fun hg ⟨v, h1, h2⟩ => ⟨v, h2, fun w => binOp_exec hop (hg w) (h1 w)⟩
  have guard : ∀ a b : Value, one a = true ∧ a ≠ .nilIface → ∀ w : World, (eqGuard op t x y a b).run P w = .ok () w := fun a b h w => eqGuard_run (.inr h)
  unfold bop at h
  split at h
  · -- numbers
    rename_i k x' k' y' ex ey
    rw [ex] at hp; rw [ey] at hq
    obtain ⟨hp, hx⟩ := den_int hp
    obtain ⟨hq, hy⟩ := den_int hq
    rw [hp, hq] at fin
    refine fin (guard _ _ ⟨rfl, by simp⟩) ?_
    split at h
    · obtain ⟨rfl, rfl⟩ := Prod.mk.inj (Option.some.inj h)
      have hv := of_decide_eq_true hv
      have : ¬ y' < 0 := by omega
      exact ⟨_, fun w => by simp only [binOp, Op.shift, this, if_false]; rfl, mk_int (inK_wrap _ _)⟩
    · obtain ⟨rfl, rfl⟩ := Prod.mk.inj (Option.some.inj h)
      have hv := of_decide_eq_true hv
      have : ¬ y' < 0 := by omega
      exact ⟨_, fun w => by simp only [binOp, Op.shift, this, if_false]; rfl, mk_int (inK_fdiv hx _)⟩
    · rename_i n1 n2
      split at h
      · rename_i e
        subst e
        exact bopInt_sound ⟨n1, n2⟩ hx h hv
      · cases h
  · -- strings
    rename_i x' y' ex ey
    rw [ex] at hp; rw [ey] at hq
    simp only [Den] at hp hq
    obtain ⟨hp, -, hx⟩ := hp
    obtain ⟨hq, -, hy⟩ := hq
    rw [hp, hq] at fin
    refine fin (guard _ _ ⟨rfl, by simp⟩) ?_
    unfold bopStr at h
    split at h
    · obtain ⟨rfl, rfl⟩ := Prod.mk.inj (Option.some.inj h)
      exact ⟨_, fun w => by simp only [binOp, Op.stringOp]; rfl, mk_bool _⟩
    · obtain ⟨rfl, rfl⟩ := Prod.mk.inj (Option.some.inj h)
      exact ⟨_, fun w => by simp only [binOp, Op.stringOp]; rfl, mk_bool _⟩
    · obtain ⟨rfl, rfl⟩ := Prod.mk.inj (Option.some.inj h)
      have hv := of_decide_eq_true hv
      have : ¬ (((x'.size + y'.size : Nat) : Int) > IntKind.i64.max) := by
        have e : IntKind.i64.max = 9223372036854775807 := by decide
        rw [e]; omega
      exact ⟨_, fun w => by simp only [binOp, Op.stringOp, this, if_false]; rfl, by simp only [Den, one, wfV, ByteArray.size_append, true_and]; exact hv⟩
    · cases h
  · -- bools
    rename_i x' y' ex ey
    rw [ex] at hp; rw [ey] at hq
    simp only [Den] at hp hq
    obtain ⟨hp, -⟩ := hp
    obtain ⟨hq, -⟩ := hq
    rw [hp, hq] at fin
    refine fin (guard _ _ ⟨rfl, by simp⟩) ?_
    split at h
    · rename_i hk
      have hd := isBl_spec (hkd ▸ hk)
      subst hd
      exact bopEq_sound h hv (fun _ w => run_equalIn_bool' w 9999 t x' y' hu) rfl rfl
    · cases h
  · rename_i ex ey
    rw [ex] at hp; rw [ey] at hq
    simp only [Den] at hp hq
    obtain ⟨b, s, -, hp⟩ := hp
    obtain ⟨hq, -⟩ := hq
    rw [hp, hq] at fin
    refine fin (guard _ _ ⟨rfl, by simp⟩) ?_
    split at h
    · rename_i hk
      obtain ⟨e, rfl⟩ := isPtr_spec (hkd ▸ hk)
      exact bopEq_sound h hv (fun _ w => ptr_nil_run hu 9999 _ w) rfl rfl
    · cases h
  · rename_i ex ey
    rw [ex] at hp; rw [ey] at hq
    simp only [Den] at hp hq
    obtain ⟨b, s, -, hq⟩ := hq
    obtain ⟨hp, -⟩ := hp
    rw [hp, hq] at fin
    refine fin (guard _ _ ⟨rfl, by simp⟩) ?_
    split at h
    · rename_i hk
      obtain ⟨e, rfl⟩ := isPtr_spec (hkd ▸ hk)
      exact bopEq_sound h hv (fun _ w => nil_ptr_run hu 9999 _ w) rfl rfl
    · cases h
  · rename_i p' ex ey
    rw [ex] at hp; rw [ey] at hq
    simp only [Den] at hp hq
    obtain ⟨hp, -⟩ := hp
    obtain ⟨hq, -⟩ := hq
    rw [hp, hq] at fin
    refine fin (guard _ _ ⟨rfl, by simp⟩) ?_
    split at h
    · rename_i hk
      obtain ⟨e, rfl⟩ := isPtr_spec (hkd ▸ hk)
      exact bopEq_sound h hv (fun _ w => ptr_nil_run hu 9999 _ w) (by cases p' <;> rfl) (by cases p' <;> rfl)
    · cases h
  · -- slices against nil
    rename_i ex ey
    rw [ex] at hp; rw [ey] at hq
    simp only [Den] at hp hq
    rw [hp, hq] at fin
    refine fin (guard _ _ ⟨rfl, by simp⟩) ?_
    split at h
    · rename_i hk
      obtain ⟨e, rfl⟩ := isSl_spec (hkd ▸ hk)
      exact bopEq_sound h hv (fun _ w => slice_nil_run hu _ _ _ _ w) rfl rfl
    · cases h
  · rename_i ex ey
    rw [ex] at hp; rw [ey] at hq
    simp only [Den] at hp hq
    obtain ⟨A, q, hp, h1, h2, h3, h4⟩ := hp
    rw [hp, hq] at fin
    refine fin (guard _ _ ⟨rfl, by simp⟩) ?_
    split at h
    · rename_i hk
      obtain ⟨e, rfl⟩ := isSl_spec (hkd ▸ hk)
      refine bopEq_sound h hv (fun hn w => ?_) rfl rfl
      have hn := of_decide_eq_true hn
      obtain ⟨b, s, -, rfl, -⟩ := h4 (by omega)
      exact slice_nil_run hu _ _ _ _ w
    · cases h
  · rename_i ex ey
    rw [ex] at hp; rw [ey] at hq
    simp only [Den] at hp hq
    obtain ⟨A, q, hp, h1, h2, h3, h4, h5⟩ := hp
    rw [hp, hq] at fin
    refine fin (guard _ _ ⟨rfl, by simp⟩) ?_
    split at h
    · rename_i hk
      obtain ⟨e, rfl⟩ := isSl_spec (hkd ▸ hk)
      refine bopEq_sound h hv (fun hn w => ?_) rfl rfl
      have hn := of_decide_eq_true hn
      obtain ⟨b, s, rfl, -⟩ := h5 (by omega)
      exact slice_nil_run hu _ _ _ _ w
    · cases h
  · rename_i ex ey
    rw [ex] at hp; rw [ey] at hq
    simp only [Den] at hp hq
    obtain ⟨A, q, ys, hp, h1, h2, h3, h4, h5⟩ := hp
    rw [hp, hq] at fin
    refine fin (guard _ _ ⟨rfl, by simp⟩) ?_
    split at h
    · rename_i hk
      obtain ⟨e, rfl⟩ := isSl_spec (hkd ▸ hk)
      refine bopEq_sound h hv (fun hn w => ?_) rfl rfl
      have hn := of_decide_eq_true hn
      obtain ⟨b, s, rfl, -⟩ := h5 (by omega)
      exact slice_nil_run hu _ _ _ _ w
    · cases h
  · -- values of many cells
    split at h
    · rename_i L ps qs hL hps hqs
      split at h
      · rename_i hagt
        split at h
        · rename_i rb hb
          obtain ⟨us, hp, h1⟩ := parts_sound hp hps
          obtain ⟨vs, hq, h2⟩ := parts_sound hq hqs
          have hres := eqPs_sound h1 h2 hb
          have hL8 : eqLf P 8 t = some L := heq ▸ hL
          have run := fun w : World => eq_run 8 hL8 hres 9991 w
          have hag' : agOf P t = true := by rw [agOf_agg hu, ← hag]; exact hagt
          simp only [valOf, hag', if_true] at run
          rw [hp, hq] at fin
          have hnb : op = .eql ∨ op = .neq := by
            unfold bopEq at h
            split at h
            · exact .inl rfl
            · exact .inr rfl
            · cases h
          refine fin (fun w => ?_) (bopEq_sound h hv (fun _ w => run w) rfl rfl)
          have hgd : P.eqGuardType P.depth t = false := by
            have h8 : 9 ≤ P.depth := by unfold Program.depth Made.depth; omega
            have := eqLf_guard 8 hL8 (P.depth - 9)
            rwa [show P.depth - 9 + 8 + 1 = P.depth by omega] at this
          unfold eqGuard
          rcases hnb with rfl | rfl <;> simp [hgd]
        · cases h
      · cases h
    · cases h
end
end Go.SY
/-
  The symbolic machine: the operations that look at no memory are sound.
-/
namespace Go.SY
open Go
section
variable {P : Program} {β : Env} {tm : List (Nat × AV)} {ρ : Operand → Value} {o : Oper} {vc : Bool} {r : AV}
theorem pur_of {y : Value} (hd : Den β r y) (h : ∀ w : World, (execOp ρ o).run P w = .ok (.value y) w) : Pur P β ρ o r := ⟨y, hd, h⟩
theorem move_sound {x : Operand} (hev : EvOk β tm ρ) (hop : o.op = .move x ∨ o.op = .assign x) : Pur P β ρ o (ev tm x) := by
  refine pur_of (hev x) fun w => ?_
  unfold execOp
  rcases hop with hop | hop <;> simp only [hop, Sem.run_pure]
theorem pick_sound {c x y : Operand} (hev : EvOk β tm ρ) (hop : o.op = .pick c x y) (h : pop P tm o.op = some (vc, r)) : Pur P β ρ o r := by
  rw [hop] at h
  simp only [pop] at h
  split at h
  · rename_i t he
    obtain ⟨rfl, rfl⟩ := Prod.mk.inj (Option.some.inj h)
    have hd := hev c
    rw [he] at hd
    simp only [Den] at hd
    refine pur_of (y := if t = true then ρ x else ρ y) ?_ fun w => ?_
    · cases t
      · exact hev y
      · exact hev x
    · unfold execOp
      simp only [hop, hd.1, asBool, Sem.run_bind, Sem.run_pure, Result.andThen_ok]
  · cases h
theorem nilCheck_sound {x : Operand} (hev : EvOk β tm ρ) (hop : o.op = .nilCheck x) (h : pop P tm o.op = some (vc, r)) (hv : vc = true) : Pur P β ρ o r := by
  rw [hop] at h
  simp only [pop] at h
  have hd := hev x
  split at h <;> try (cases h; done)
  · rename_i he
    obtain ⟨rfl, rfl⟩ := Prod.mk.inj (Option.some.inj h)
    rw [he] at hd
    refine pur_of hd fun w => ?_
    simp only [Den] at hd
    obtain ⟨b, s, -, ha⟩ := hd
    unfold execOp
    simp only [hop, ha, Sem.run_pure]
  · rename_i he
    obtain ⟨rfl, rfl⟩ := Prod.mk.inj (Option.some.inj h)
    rw [he] at hd
    refine pur_of hd fun w => ?_
    simp only [Den] at hd
    obtain ⟨b, s, ys, ha, -⟩ := hd
    unfold execOp
    simp only [hop, ha, Sem.run_pure]
  · rename_i he
    obtain ⟨rfl, rfl⟩ := Prod.mk.inj (Option.some.inj h)
    rw [he] at hd
    refine pur_of hd fun w => ?_
    simp only [Den] at hd
    obtain ⟨xs, ys, ha, -⟩ := hd
    unfold execOp
    simp only [hop, ha, Sem.run_pure]
  · rename_i he
    obtain ⟨rfl, rfl⟩ := Prod.mk.inj (Option.some.inj h)
    rw [he] at hd
    refine pur_of hd fun w => ?_
    simp only [Den] at hd
    obtain ⟨b, s, -, ha⟩ := hd
    unfold execOp
    simp only [hop, ha, Sem.run_pure]
  · rename_i p he
    obtain ⟨rfl, rfl⟩ := Prod.mk.inj (Option.some.inj h)
    rw [he] at hd
    refine pur_of hd fun w => ?_
    simp only [Den] at hd
    cases p with
    | none => cases hv
    | some p =>
      unfold execOp
      simp only [hop, hd.1, Sem.run_pure]
theorem unOp_sound {op : UnOp} {t : TypeId} {x : Operand} (hev : EvOk β tm ρ) (hop : o.op = .unOp op t x) (h : pop P tm o.op = some (vc, r)) (hv : vc = true) : Pur P β ρ o r := by
  rw [hop] at h
  simp only [pop] at h
  have hd := hev x
  split at h
  · rename_i b he
    obtain ⟨rfl, rfl⟩ := Prod.mk.inj (Option.some.inj h)
    rw [he] at hd
    simp only [Den] at hd
    refine pur_of (mk_bool _) fun w => ?_
    unfold execOp
    simp only [hop, hd.1, Op.unary, Sem.run_bind, Sem.run_pure, Result.andThen_ok]
  · rename_i k z he
    rw [he] at hd
    obtain ⟨hz, -⟩ := den_int hd
    have har := Option.some.inj h
    refine pur_of (y := .int k (k.wrap (0 - z))) (by rw [ar_wrap har hv]; exact mk_int (inK_wrap _ _)) fun w => ?_
    unfold execOp
    simp only [hop, hz, Op.unary, Op.intArith, Sem.run_bind, Sem.run_pure, Result.andThen_ok]
  · rename_i k z he
    rw [he] at hd
    obtain ⟨hz, -⟩ := den_int hd
    obtain ⟨rfl, rfl⟩ := Prod.mk.inj (Option.some.inj h)
    refine pur_of (y := .int k (bits2 .xor k (if k.signed then -1 else k.max) z)) (mk_int (inK_wrap k _)) fun w => ?_
    unfold execOp
    simp only [hop, hz, Op.unary, Op.intBits, Sem.run_bind]
    rfl
  · cases h
theorem convert_sound {src dst : TypeId} {x : Operand} (hev : EvOk β tm ρ) (hop : o.op = .convert src dst x) (h : pop P tm o.op = some (vc, r)) : Pur P β ρ o r := by
  rw [hop] at h
  simp only [pop] at h
  split at h
  · rename_i S D hs ht
    obtain ⟨i, d, -, hu, -⟩ := ti_spec hs
    have hd := hev x
    split at h
    · rename_i k _ z hk he
      obtain ⟨rfl, rfl⟩ := Prod.mk.inj (Option.some.inj h)
      rw [he] at hd
      obtain ⟨hz, -⟩ := den_int hd
      refine pur_of (mk_int (inK_wrap k z)) fun w => ?_
      unfold execOp
      simp only [hop, hz, convert, Sem.run_bind, underlying_run w hu, underlying_run w (kd_int ht hk), Result.andThen_ok, Conv.intToInt, Sem.run_pure]
    · rename_i s hk he
      obtain ⟨rfl, rfl⟩ := Prod.mk.inj (Option.some.inj h)
      rw [he] at hd
      refine pur_of hd fun w => ?_
      simp only [Den] at hd
      unfold execOp
      simp only [hop, hd.1, convert, Sem.run_bind, underlying_run w hu, underlying_run w (kd_str ht hk), Result.andThen_ok, Sem.run_pure]
    · cases h
  · cases h
theorem fieldAddr_sound {s : TypeId} {x : Operand} {f : Nat} (hev : EvOk β tm ρ) (hop : o.op = .fieldAddr s x f) (h : pop P tm o.op = some (vc, r)) : Pur P β ρ o r := by
  rw [hop] at h
  simp only [pop] at h
  split at h
  · rename_i T ht
    split at h
    · rename_i fs hk
      split at h
      · rename_i off sz ag hf
        split at h
        · cases h
        · rename_i hsz
          obtain ⟨fields, hu, hfs, -⟩ := kd_struct ht hk
          obtain ⟨fl, h1, rfl, h3, -⟩ := fields_at hfs hf
          have hd := hev x
          have run : ∀ (b p : Nat), ρ x = .pointer (some ⟨b, p, none⟩) → ∀ w : World, (execOp ρ o).run P w = .ok (.value (.pointer (some ⟨b, p + fl.offset, none⟩))) w := by
            intro b p hx w
            unfold execOp
            simp only [hop, Instr.fieldAt, hx, Instr.sureAddr, Sem.run_bind, underlying_run w hu, Result.andThen_ok, h1, Sem.run_pure, fieldPlace, sizeOf_pos w h3 hsz, hsz, if_false, add_lit]
          split at h
          · rename_i l i w' k he
            obtain ⟨rfl, rfl⟩ := Prod.mk.inj (Option.some.inj h)
            rw [he] at hd
            simp only [Den] at hd
            obtain ⟨b, s, hb, ha⟩ := hd
            refine pur_of (by simp only [Den]; exact ⟨b, s, hb, rfl⟩) fun w => ?_
            rw [← Nat.add_assoc]
            exact run _ _ ha w
          · rename_i t' row k he
            obtain ⟨rfl, rfl⟩ := Prod.mk.inj (Option.some.inj h)
            rw [he] at hd
            simp only [Den] at hd
            obtain ⟨b, o0, ys, ha, h4, h5⟩ := hd
            refine pur_of (by simp only [Den]; exact ⟨b, o0, ys, rfl, h4, h5⟩) fun w => ?_
            rw [← Nat.add_assoc]
            exact run _ _ ha w
          · cases h
      · cases h
    · cases h
  · cases h
theorem cells_drop {m : Nat → Option (Array Value)} {b o : Nat} {ys : List Value} (h : Cells m b o ys) (k : Nat) : Cells m b (o + k) (ys.drop k) := by
  obtain ⟨cs, h1, h2⟩ := h
  exact ⟨cs, h1, fun j v hj => by rw [Nat.add_assoc]; exact h2 _ _ (by rw [List.getElem?_drop] at hj; exact hj)⟩
theorem cells_take {m : Nat → Option (Array Value)} {b o : Nat} {ys : List Value} (h : Cells m b o ys) (k : Nat) : Cells m b o (ys.take k) := by
  obtain ⟨cs, h1, h2⟩ := h
  exact ⟨cs, h1, fun j v hj => h2 _ _ (by
    have := (List.getElem?_eq_some_iff.1 hj).1
    rw [List.getElem?_take_of_lt (by simp at this; omega)] at hj; exact hj)⟩
theorem cells_of_eq {m : Nat → Option (Array Value)} {b o : Nat} {ys us : List Value} (h : Cells m b o ys) (he : ∀ (j : Nat) (v : Value), us[j]? = some v → ys[j]? = some v) : Cells m b o us := by
  obtain ⟨cs, h1, h2⟩ := h
  exact ⟨cs, h1, fun j v hj => h2 _ _ (he j v hj)⟩
theorem denC_one {x : AV} {y : Value} (hs : x.scal = true) (h : Den β x y) (ho : one y = true) : DenC β [x] [y] := (denC_cons hs).2 ⟨y, [], rfl, h, ho, by simp [DenC]⟩
theorem den_ip_num {t : Bool} {k : IntKind} {xs : List Int} {b o j : Nat} (hc : Cells (β.fz t) b o (xs.map (.int k))) (hok : okN k xs) (hj : j < xs.length) :
    Den β (.ip t [.v (.int k (xs[j]?.getD 0))] 0) (.pointer (some ⟨b, o + j, none⟩)) := by
  simp only [Den]
  refine ⟨b, o + j, [.int k (xs[j]?.getD 0)], rfl, denC_one rfl (mk_int (okN_get hok hj)) rfl, ?_⟩
  refine cells_of_eq (cells_drop hc j) fun i v hi => ?_
  match i, hi with
  | 0, hi =>
    simp at hi
    subst hi
    simp [hj]
  | i + 1, hi => simp at hi
theorem dr_chunk {row : List AV} {k m : Nat} {kk : IntKind} {xs : List Int} {rest : List AV} {ys : List Value} (hc : DenC β row ys) (h : dr row k = some (.ch m kk xs :: rest)) :
    ∃ zs, ys.drop k = xs.map (.int kk) ++ zs ∧ xs.length = m ∧ okN kk xs := by
  obtain ⟨h1, h2⟩ := denC_dr hc h
  obtain ⟨zs, h3, h4, h5, -⟩ := denC_ch.1 h2
  exact ⟨zs, h3, h4, h5⟩
theorem indexAddr_sound {t : TypeId} {x ix : Operand} (hev : EvOk β tm ρ) (hop : o.op = .indexAddr t x ix) (h : pop P tm o.op = some (vc, r)) (hv : vc = true) : Pur P β ρ o r := by
  rw [hop] at h
  simp only [pop] at h
  split at h
  · rename_i T ht
    split at h
    · rename_i kj j hj
      have hdj := hev ix
      rw [hj] at hdj
      obtain ⟨hji, -⟩ := den_int hdj
      have hd := hev x
      split at h
      · -- a slice of one's own
        rename_i e sz b l i w' m c hk he
        split at h
        · cases h
        · rename_i hsz
          split at h
          · rename_i hw
            subst hw
            obtain ⟨rfl, rfl⟩ := Prod.mk.inj (Option.some.inj h)
            simp only [Bool.and_eq_true, decide_eq_true_eq] at hv
            obtain ⟨hu, hcz, -⟩ := kd_slice ht hk
            rw [he] at hd
            simp only [Den] at hd
            obtain ⟨A, q, ha, hmc, -, -, hA⟩ := hd
            obtain ⟨b', s, hb, rfl, -⟩ := hA (by omega)
            refine pur_of (y := .pointer (some ⟨b', (i + j.toNat) * w' + 0, none⟩)) (by simp only [Den]; exact ⟨b', s, hb, rfl⟩) fun w => ?_
            unfold execOp
            simp only [hop, Instr.indexAt, ha, hji, asIntOf, Sem.run_bind, Sem.run_pure, Result.andThen_ok, underlying_run w hu, hv, and_self, if_true, sizeOf_pos w hcz hsz, add_lit]
            rw [Nat.add_mul, Nat.add_zero]
          · cases h
      · -- numbers that are frozen
        rename_i e sz b t' k xs c hk he
        split at h
        · rename_i hsz
          subst hsz
          obtain ⟨rfl, rfl⟩ := Prod.mk.inj (Option.some.inj h)
          simp only [Bool.and_eq_true, decide_eq_true_eq] at hv
          obtain ⟨hu, hcz, -⟩ := kd_slice ht hk
          rw [he] at hd
          simp only [Den] at hd
          obtain ⟨A, q, ha, hmc, -, -, hok, hA⟩ := hd
          obtain ⟨b', o0, rfl, hc⟩ := hA (by omega)
          refine pur_of (den_ip_num hc hok (by omega)) fun w => ?_
          unfold execOp
          simp only [hop, Instr.indexAt, ha, hji, asIntOf, Sem.run_bind, Sem.run_pure, Result.andThen_ok, underlying_run w hu, hv, and_self, if_true, sizeOf_pos w hcz (by decide : (1 : Nat) ≠ 0), add_lit, Nat.mul_one]
        · cases h
      · -- rows that are frozen
        rename_i e sz b t' w' rs c hk he
        split at h
        · cases h
        · rename_i hsz
          split at h
          · rename_i hw
            subst hw
            obtain ⟨rfl, rfl⟩ := Prod.mk.inj (Option.some.inj h)
            simp only [Bool.and_eq_true, decide_eq_true_eq] at hv
            obtain ⟨hu, hcz, -⟩ := kd_slice ht hk
            rw [he] at hd
            simp only [Den] at hd
            obtain ⟨A, q, ys, ha, hmc, -, -, hr, hA⟩ := hd
            obtain ⟨b', o0, rfl, hc⟩ := hA (by omega)
            obtain ⟨us, h1, h2, h3, h4⟩ := denR_row hr (i := j.toNat) (by omega)
            refine pur_of (y := .pointer (some ⟨b', o0 + j.toNat * w' + 0, none⟩)) ?_ fun w => ?_
            · simp only [Den]
              refine ⟨b', o0 + j.toNat * w', us, rfl, h1, cells_of_eq (cells_drop hc _) fun q v hq => ?_⟩
              have hlt := (List.getElem?_eq_some_iff.1 hq).1
              rw [List.getElem?_drop, h3 q (by omega)]; exact hq
            · unfold execOp
              simp only [hop, Instr.indexAt, ha, hji, asIntOf, Sem.run_bind, Sem.run_pure, Result.andThen_ok, underlying_run w hu, hv, and_self, if_true, sizeOf_pos w hcz hsz, add_lit, Nat.add_zero]
          · cases h
      · -- an array of one's own
        rename_i n e sz l i w' k hk he
        obtain ⟨hu, hcz⟩ := kd_arr ht hk
        rw [he] at hd
        simp only [Den] at hd
        obtain ⟨b', s, hb, ha⟩ := hd
        split at h
        · rename_i hsz
          subst hsz
          obtain ⟨rfl, rfl⟩ := Prod.mk.inj (Option.some.inj h)
          simp only [Bool.and_eq_true, decide_eq_true_eq] at hv
          refine pur_of (y := .pointer (some ⟨b', (i * w' + k + j.toNat) * 1 + 0, none⟩)) (by simp only [Den]; exact ⟨b', s, hb, rfl⟩) fun w => ?_
          unfold execOp
          simp only [hop, Instr.indexAt, ha, hji, asIntOf, Instr.sureAddr, Sem.run_bind, Sem.run_pure, Result.andThen_ok, underlying_run w hu, hv, and_self, if_true, sizeOf_pos w hcz (by decide : (1 : Nat) ≠ 0), add_lit, Nat.mul_one, Nat.add_zero]
        · split at h
          · cases h
          · rename_i hsz
            split at h
            · rename_i h0
              obtain ⟨rfl, rfl⟩ := Prod.mk.inj (Option.some.inj h)
              simp only [Bool.and_eq_true, decide_eq_true_eq] at hv
              refine pur_of (y := .pointer (some ⟨b', j.toNat * sz + 0, none⟩)) (by simp only [Den]; exact ⟨b', s, hb, rfl⟩) fun w => ?_
              unfold execOp
              simp only [hop, Instr.indexAt, ha, hji, asIntOf, Instr.sureAddr, Sem.run_bind, Sem.run_pure, Result.andThen_ok, underlying_run w hu, hv, and_self, if_true, sizeOf_pos w hcz hsz, add_lit, h0, Nat.zero_add, Nat.add_zero]
            · cases h
      · -- an array that is frozen
        rename_i n e sz t' row k hk he
        split at h
        · rename_i hsz
          subst hsz
          split at h
          · rename_i m kk xs rest hdr
            split at h
            · rename_i hm
              obtain ⟨rfl, rfl⟩ := Prod.mk.inj (Option.some.inj h)
              simp only [Bool.and_eq_true, decide_eq_true_eq] at hv
              obtain ⟨hu, hcz⟩ := kd_arr ht hk
              rw [he] at hd
              simp only [Den] at hd
              obtain ⟨b', o0, ys, ha, h4, h5⟩ := hd
              obtain ⟨zs, h6, h7, h8⟩ := dr_chunk h4 hdr
              have hc : Cells (β.fz t') b' (o0 + k) (xs.map (.int kk)) := cells_of_eq (cells_drop h5 k) fun q v hq => by
                rw [h6, List.getElem?_append_left (List.getElem?_eq_some_iff.1 hq).1]; exact hq
              refine pur_of (den_ip_num hc h8 (by omega)) fun w => ?_
              unfold execOp
              simp only [hop, Instr.indexAt, ha, hji, asIntOf, Instr.sureAddr, Sem.run_bind, Sem.run_pure, Result.andThen_ok, underlying_run w hu, hv, and_self, if_true, sizeOf_pos w hcz (by decide : (1 : Nat) ≠ 0), add_lit, Nat.mul_one]
            · cases h
          · cases h
        · cases h
      · cases h
    · cases h
  · cases h
theorem isAgg_run {t : TypeId} {n : Nat} {w : World} (h : P.cellsOf t = n) (hn : n ≠ 0) (hu : P.underlying t ≠ none) : (isAgg t).run P w = .ok (agOf P t) w := by
  cases hd : P.underlying t with
  | none => exact absurd hd hu
  | some d => exact isAgg_at hd
theorem part_run {t : TypeId} {sz : Nat} {w : World} (hc : P.cellsOf t = sz) (hsz : sz ≠ 0) (hu : (P.underlying t).isSome = true) (cs : Array Value) (off : Nat) :
    (part t cs off).run P w = if agOf P t = true then .ok (.agg (cs.extract off (off + sz))) w else (match cs[off]? with
      | some v => .ok v w
      | none => (stuck "part: no such cell" : Sem Value).run P w) := by
  have h1 := isAgg_run (w := w) hc hsz (by intro h; rw [h] at hu; cases hu)
  simp only [part, Sem.run_bind, h1, Result.andThen_ok, Sem.run_ite, sizeOf_pos w hc hsz, Sem.run_pure]
  split
  · rfl
  · cases cs[off]? <;> rfl
theorem bytes_at (s : ByteArray) (j : Nat) (h : j < s.size) : ((bytesL s)[j]?.getD 0) = (s[j].toNat : Int) := by
  simp only [bytesL, List.getElem?_map]
  have : s.data.toList[j]? = some s[j] := by
    rw [Array.getElem?_toList, Array.getElem?_eq_getElem (by simpa using h)]; rfl
  rw [this]; rfl
theorem index_sound {t : TypeId} {x ix : Operand} (hev : EvOk β tm ρ) (hop : o.op = .index t x ix) (h : pop P tm o.op = some (vc, r)) (hv : vc = true) : Pur P β ρ o r := by
  rw [hop] at h
  simp only [pop] at h
  split at h
  · rename_i T ht
    split at h
    · rename_i kj j hj
      have hdj := hev ix
      rw [hj] at hdj
      obtain ⟨hji, -⟩ := den_int hdj
      have hd := hev x
      split at h
      · rename_i s hk he
        obtain ⟨rfl, rfl⟩ := Prod.mk.inj (Option.some.inj h)
        simp only [Bool.and_eq_true, decide_eq_true_eq, bytesL_len] at hv
        have hu := kd_str ht hk
        rw [he] at hd
        simp only [Den] at hd
        have hlt : j.toNat < s.size := by omega
        have hb := bytes_at s j.toNat hlt
        refine pur_of (y := .int .u8 (s[j.toNat].toNat : Int)) (by rw [hb]; exact mk_int (by have := s[j.toNat].toNat_lt; simp [inK]; omega)) fun w => ?_
        have h0 : (0 : Int) ≤ j := hv.1
        unfold execOp
        simp only [hop, Instr.index, hd.1, hji, asIntOf, Sem.run_bind, Sem.run_pure, Result.andThen_ok, underlying_run w hu, h0, if_true]
        rw [getElem?_pos s j.toNat hlt]
        rfl
      · rename_i n e sz m k xs hk he
        split at h
        · rename_i E hE
          split at h
          · rename_i k' hEk
            split at h
            · rename_i hsz
              split at h
              · rename_i hm
                obtain ⟨rfl, rfl⟩ := Prod.mk.inj (Option.some.inj h)
                simp only [Bool.and_eq_true, decide_eq_true_eq] at hv
                obtain ⟨hu, -⟩ := kd_arr ht hk
                have hue := kd_int hE hEk
                obtain ⟨i, d, hi, -, hs, -⟩ := ti_spec hE
                have hce : P.cellsOf e = 1 := by simp [Program.cellsOf, hi, ← hs, hsz]
                rw [he] at hd
                simp only [Den] at hd
                obtain ⟨ha, h1, h2⟩ := hd
                have hlt : j.toNat < xs.length := by omega
                refine pur_of (mk_int (okN_get h2 hlt)) fun w => ?_
                have hp := part_run (P := P) (w := w) hce (by decide) (by rw [hue]; rfl) (xs.map (Value.int k)).toArray j.toNat
                simp only [agOf, hue, aggD, Bool.false_eq_true, if_false] at hp
                unfold execOp
                simp only [hop, Instr.index, ha, hji, asIntOf, Sem.run_bind, Sem.run_pure, Result.andThen_ok, underlying_run w hu, hv, and_self, if_true, sizeOf_pos w hce (by decide), Nat.mul_one, hp]
                simp [hlt]
              · cases h
            · cases h
          · cases h
        · cases h
      · cases h
    · cases h
  · cases h
theorem bnd_run {x : Option Operand} {d m : Nat} {p : Bool} (hev : EvOk β tm ρ) (h : bnd (x.map (ev tm)) d = some (p, m)) (hp : p = true) :
    (x = none ∧ m = d) ∨ ∃ o k, x = some o ∧ ρ o = .int k (m : Int) := by
  cases x with
  | none => simp only [Option.map_none, bnd, Option.some.injEq, Prod.mk.injEq] at h; exact .inl ⟨rfl, h.2.symm⟩
  | some o =>
    simp only [Option.map_some] at h
    have hd := hev o
    cases he : ev tm o <;> rw [he] at h hd <;> simp only [bnd] at h <;> try (cases h; done)
    rename_i v
    cases v <;> simp only [bnd] at h <;> try (cases h; done)
    rename_i k z
    simp only [Option.some.injEq, Prod.mk.injEq] at h
    obtain ⟨hz, -⟩ := den_int hd
    have h0 : 0 ≤ z := by rw [← h.1] at hp; exact of_decide_eq_true hp
    exact .inr ⟨o, k, rfl, by rw [hz, ← h.2, Int.toNat_of_nonneg h0]⟩
theorem sliceBound_run {k : IntKind} {m y : Nat} {code : BoundsCode} {w : World} (h1 : m ≤ y) :
    (Instr.sliceBound (.int k (m : Int)) y code).run P w = .ok m w := by
  have : (m : Int) ≤ (y : Int) := by omega
  simp [Instr.sliceBound, asIntOf, h1]
theorem getD_capIs {c : Option Nat} {n q : Nat} (hn : n ≤ q) (hc : capIs c q) : c.getD n ≤ q := by
  cases c with
  | none => exact hn
  | some m => rw [hc m rfl]; exact Nat.le_refl _
theorem cutOf_run {b : Bool} {n q s m : Nat} {c c' : Option Nat} {lo hi mx : Option Operand} (hev : EvOk β tm ρ) (hmx : mx = none ∨ hi ≠ none) (hn : n ≤ q) (hc : capIs c q)
    (h : cutOf n c (lo.map (ev tm)) (hi.map (ev tm)) (mx.map (ev tm)) = some (vc, s, m, c')) (hv : vc = true) :
    ∃ h M, (∀ w : World, (Instr.sliceBounds b n q (lo.map ρ) (hi.map ρ) (mx.map ρ)).run P w = .ok (s, h, M) w) ∧ m = h - s ∧ s ≤ h ∧ h ≤ M ∧ M ≤ q ∧ (mx = none → M = q ∧ h ≤ c.getD n ∧ c' = subO c s) ∧
      (mx ≠ none → M ≤ c.getD n ∧ c' = some (M - s)) := by
  have hcq := getD_capIs hn hc
  unfold cutOf at h
  split at h
  · rename_i p3 s' p2 h' h3 h2
    split at h
    · rename_i hmn
      simp only [Option.some.injEq, Prod.mk.injEq] at h
      obtain ⟨rfl, rfl, rfl, rfl⟩ := h
      simp only [Bool.and_eq_true, decide_eq_true_eq] at hv
      obtain ⟨q2, q3, g1, g2⟩ := hv
      have hmn : mx = none := by cases mx <;> simp_all
      subst hmn
      refine ⟨h', q, fun w => ?_, rfl, g1, by omega, Nat.le_refl _, fun _ => ⟨rfl, g2, rfl⟩, fun h => absurd rfl h⟩
      rcases bnd_run hev h2 q2 with ⟨rfl, rfl⟩ | ⟨o2, k2, rfl, e2⟩ <;> rcases bnd_run hev h3 q3 with ⟨rfl, rfl⟩ | ⟨o3, k3, rfl, e3⟩ <;> clear h2 h3
      · simp [Instr.sliceBounds]
      · simp [Instr.sliceBounds, e3, sliceBound_run (show s' ≤ h' by omega)]
      · simp [Instr.sliceBounds, e2, sliceBound_run (show h' ≤ q by omega)]
      · simp [Instr.sliceBounds, e2, e3, sliceBound_run (show h' ≤ q by omega), sliceBound_run (show s' ≤ h' by omega)]
    · rename_i mo hms
      split at h
      · rename_i p1 M h1
        simp only [Option.some.injEq, Prod.mk.injEq] at h
        obtain ⟨rfl, rfl, rfl, rfl⟩ := h
        simp only [Bool.and_eq_true, decide_eq_true_eq] at hv
        obtain ⟨q1, q2, q3, g1, g2, g3⟩ := hv
        obtain ⟨mx, rfl⟩ : ∃ m, mx = some m := by cases mx <;> simp_all
        obtain ⟨hi, rfl⟩ : ∃ h, hi = some h := by
          cases hi with
          | none => rcases hmx with h | h
                    · cases h
                    · exact absurd rfl h
          | some h => exact ⟨h, rfl⟩
        simp only [Option.map_some, Option.some.injEq] at hms
        subst hms
        refine ⟨h', M, fun w => ?_, rfl, g1, g2, by omega, (fun h => by cases h), fun _ => ⟨g3, rfl⟩⟩
        rcases bnd_run (x := some mx) hev h1 q1 with ⟨h, -⟩ | ⟨o1, k1, rfl', e1⟩
        · cases h
        cases rfl'
        rcases bnd_run (x := some hi) hev h2 q2 with ⟨h, -⟩ | ⟨o2, k2, rfl', e2⟩
        · cases h
        cases rfl'
        rcases bnd_run hev h3 q3 with ⟨rfl, rfl⟩ | ⟨o3, k3, rfl, e3⟩ <;> clear h1 h2 h3
        · simp [Instr.sliceBounds, e1, e2, sliceBound_run (show M ≤ q by omega), sliceBound_run g2]
        · simp [Instr.sliceBounds, e1, e2, e3, sliceBound_run (show M ≤ q by omega), sliceBound_run g2, sliceBound_run g1]
      · cases h
  · cases h
theorem capIs_sub {c : Option Nat} {q s : Nat} (h : capIs c q) : capIs (subO c s) (q - s) := by
  intro m hm
  cases c with
  | none => cases hm
  | some c => simp only [subO, Option.some.injEq] at hm; rw [← hm, h c rfl]
theorem denR_drop {w : Nat} : ∀ {rs : List (List AV)} {ys : List Value} (b : Nat), DenR β w rs ys → DenR β w (rs.drop b) (ys.drop (b * w))
  | [], ys, b, h => by simp only [DenR] at h; subst h; simp [DenR]
  | r :: rs, ys, 0, h => by simpa using h
  | r :: rs, ys, b + 1, h => by
    simp only [DenR] at h
    obtain ⟨us, zs, rfl, h0, h1, h2⟩ := h
    have := denR_drop b h2
    have e : (us ++ zs).drop ((b + 1) * w) = zs.drop (b * w) := by
      have e2 : (b + 1) * w = us.length + b * w := by rw [h0, Nat.add_mul]; omega
      rw [e2, List.drop_length_add_append]
    simpa [e] using this
theorem denR_take {w : Nat} : ∀ {rs : List (List AV)} {ys : List Value} (b : Nat), DenR β w rs ys → DenR β w (rs.take b) (ys.take (b * w))
  | [], ys, b, h => by simp only [DenR] at h; subst h; simp [DenR]
  | r :: rs, ys, 0, h => by simp [DenR]
  | r :: rs, ys, b + 1, h => by
    simp only [DenR] at h
    obtain ⟨us, zs, rfl, h0, h1, h2⟩ := h
    have := denR_take b h2
    simp only [List.take_succ_cons, DenR]
    refine ⟨us, _, ?_, h0, h1, this⟩
    have e2 : (b + 1) * w = us.length + b * w := by rw [h0, Nat.add_mul]; omega
    rw [e2, List.take_length_add_append]
theorem slice_sound {t : TypeId} {x : Operand} {lo hi mx : Option Operand} (hev : EvOk β tm ρ) (hop : o.op = .slice t x lo hi mx) (h : pop P tm o.op = some (vc, r)) (hv : vc = true) : Pur P β ρ o r := by
  rw [hop] at h
  simp only [pop] at h
  split at h
  case isFalse => cases h
  rename_i hok
  have hmx : mx = none ∨ hi ≠ none := by
    clear h
    rcases mx with _ | m
    · exact .inl rfl
    · rcases hi with _ | q
      · exfalso; revert hok; simp [okMx]
      · exact .inr (by simp)
  have exec : ∀ {e : TypeId} {sz n q s h' M : Nat} {A : Option Addr}, P.underlying t = some (.slice e) → P.cellsOf e = sz → sz ≠ 0 → ρ x = .slice A n q →
      (∀ w : World, (Instr.sliceBounds true n q (lo.map ρ) (hi.map ρ) (mx.map ρ)).run P w = .ok (s, h', M) w) →
      ∀ w : World, (execOp ρ o).run P w = .ok (.value (.slice (if M = s then A else A.map (·.add (s * sz))) (h' - s) (M - s))) w := by
    intro e sz n q s h' M A hu hcz hsz ha hrun w
    unfold execOp
    simp only [hop, Instr.sliceAt, ha, Sem.run_bind, underlying_run w hu, Result.andThen_ok, Instr.slice, hrun, sizeOf_pos w hcz hsz, Sem.run_pure]
  split at h
  · rename_i T ht
    have hd := hev x
    split at h
    · -- a string
      rename_i s hk he
      split at h
      · split at h
        · rename_i vc' b n' c' hcut
          obtain ⟨rfl, rfl⟩ := Prod.mk.inj (Option.some.inj h)
          rw [he] at hd
          simp only [Den, wfV] at hd
          obtain ⟨ha, -, hs⟩ := hd
          have hcut' : cutOf s.size (some s.size) (lo.map (ev tm)) (hi.map (ev tm)) ((none : Option Operand).map (ev tm)) = some (vc', b, n', c') := hcut
          obtain ⟨h', M, hrun, rfl, g1, g2, g3, -, -⟩ := cutOf_run (P := P) (b := false) (q := s.size) hev (.inl rfl) (Nat.le_refl _) (fun m hm => Option.some.inj hm) hcut' hv
          have hu := kd_str ht hk
          refine pur_of (y := .string (s.extract b (b + (h' - b)))) (by simp only [Den, one, wfV, true_and]; rw [ByteArray.size_extract, Nat.min_eq_left (by omega)]; omega) fun w => ?_
          simp only [Option.map_none] at hrun
          unfold execOp
          simp only [hop, Instr.sliceAt, ha, Sem.run_bind, underlying_run w hu, Result.andThen_ok, Instr.slice, Option.map_none, Option.isSome_none, Bool.false_eq_true, if_false, hrun, Sem.run_pure]
          rw [show b + (h' - b) = h' by omega]
        · cases h
      · cases h
    · -- a slice of one's own
      rename_i e sz b0 l i w' n c hk he
      split at h
      · cases h
      · rename_i hsz
        split at h
        · rename_i hw
          subst hw
          split at h
          · rename_i vc' b n' c' hcut
            obtain ⟨rfl, rfl⟩ := Prod.mk.inj (Option.some.inj h)
            obtain ⟨hu, hcz, -⟩ := kd_slice ht hk
            rw [he] at hd
            simp only [Den] at hd
            obtain ⟨A, q, ha, hmc, hq, hcap, hA⟩ := hd
            obtain ⟨h', M, hrun, rfl, g1, g2, g3, g4, g5⟩ := cutOf_run (P := P) (b := true) hev hmx hmc hcap hcut hv
            refine pur_of ?_ (exec hu hcz hsz ha hrun)
            simp only [Den]
            refine ⟨_, M - b, rfl, by omega, by omega, ?_, fun hne => ?_⟩
            · by_cases hm : mx = none
              · obtain ⟨rfl, -, rfl⟩ := g4 hm; exact capIs_sub hcap
              · obtain ⟨-, rfl⟩ := g5 hm; intro m hm; exact Option.some.inj hm
            · obtain ⟨b', s, hb, rfl, hle⟩ := hA (by omega)
              refine ⟨b', s, hb, ?_, ?_⟩
              · rw [if_neg (by omega)]
                simp only [Option.map_some, add_lit, Nat.add_mul]
              · rw [show i + b + (M - b) = i + M by omega]
                exact Nat.le_trans (Nat.mul_le_mul_right _ (by omega)) hle
          · cases h
        · cases h
    · -- numbers that are frozen
      rename_i e sz b0 t' k xs c hk he
      split at h
      · rename_i hsz
        subst hsz
        split at h
        · rename_i vc' b n' c' hcut
          obtain ⟨rfl, rfl⟩ := Prod.mk.inj (Option.some.inj h)
          obtain ⟨hu, hcz, -⟩ := kd_slice ht hk
          rw [he] at hd
          simp only [Den] at hd
          obtain ⟨A, q, ha, hmc, hq, hcap, hok, hA⟩ := hd
          obtain ⟨h', M, hrun, rfl, g1, g2, g3, g4, g5⟩ := cutOf_run (P := P) (b := true) hev hmx hmc (c := none) (fun m hm => by cases hm) hcut hv
          have hh : h' ≤ xs.length := by
            by_cases hm : mx = none
            · exact (g4 hm).2.1
            · have := (g5 hm).1; simp only [Option.getD_none] at this; omega
          have hlen : ((xs.drop b).take (h' - b)).length = h' - b := by simp; omega
          refine pur_of ?_ (exec hu hcz (by decide) ha hrun)
          simp only [Den]
          refine ⟨_, M - b, by rw [hlen], by omega, by omega, ?_, okN_take (okN_drop hok _) _, fun hne => ?_⟩
          · cases mx with
            | none => obtain ⟨rfl, -, -⟩ := g4 rfl; exact capIs_sub hcap
            | some m => obtain ⟨-, rfl⟩ := g5 (by simp); intro m hm; exact Option.some.inj hm
          · obtain ⟨b', o0, rfl, hc⟩ := hA (by omega)
            refine ⟨b', o0 + b, ?_, ?_⟩
            · rw [if_neg (by omega)]
              simp only [Option.map_some, add_lit, Nat.mul_one]
            · rw [List.map_take, List.map_drop]
              exact cells_take (cells_drop hc b) _
        · cases h
      · cases h
    · -- rows that are frozen
      rename_i e sz b0 t' w' rs c hk he
      split at h
      · cases h
      · rename_i hsz
        split at h
        · rename_i hw
          subst hw
          split at h
          · rename_i vc' b n' c' hcut
            obtain ⟨rfl, rfl⟩ := Prod.mk.inj (Option.some.inj h)
            obtain ⟨hu, hcz, -⟩ := kd_slice ht hk
            rw [he] at hd
            simp only [Den] at hd
            obtain ⟨A, q, ys, ha, hmc, hq, hcap, hr, hA⟩ := hd
            obtain ⟨h', M, hrun, rfl, g1, g2, g3, g4, g5⟩ := cutOf_run (P := P) (b := true) hev hmx hmc (c := none) (fun m hm => by cases hm) hcut hv
            have hh : h' ≤ rs.length := by
              by_cases hm : mx = none
              · exact (g4 hm).2.1
              · have := (g5 hm).1; simp only [Option.getD_none] at this; omega
            have hlen : ((rs.drop b).take (h' - b)).length = h' - b := by simp; omega
            refine pur_of ?_ (exec hu hcz hsz ha hrun)
            simp only [Den]
            refine ⟨_, M - b, (ys.drop (b * w')).take ((h' - b) * w'), by rw [hlen], by omega, by omega, ?_, denR_take _ (denR_drop _ hr), fun hne => ?_⟩
            · cases mx with
              | none => obtain ⟨rfl, -, -⟩ := g4 rfl; exact capIs_sub hcap
              | some m => obtain ⟨-, rfl⟩ := g5 (by simp); intro m hm; exact Option.some.inj hm
            · obtain ⟨b', o0, rfl, hc⟩ := hA (by omega)
              refine ⟨b', o0 + b * w', ?_, cells_take (cells_drop hc _) _⟩
              rw [if_neg (by omega)]
              simp only [Option.map_some, add_lit]
          · cases h
        · cases h
    · -- a nil slice
      rename_i e sz b0 hk he
      split at h
      · cases h
      · rename_i hsz
        split at h
        · rename_i vc' b n' c' hcut
          obtain ⟨rfl, rfl⟩ := Prod.mk.inj (Option.some.inj h)
          obtain ⟨hu, hcz, -⟩ := kd_slice ht hk
          rw [he] at hd
          simp only [Den] at hd
          obtain ⟨h', M, hrun, rfl, g1, g2, g3, g4, g5⟩ := cutOf_run (P := P) (b := true) (n := 0) (q := 0) hev hmx (Nat.le_refl _) (fun m hm => (Option.some.inj hm).symm ▸ rfl) hcut hv
          refine pur_of ?_ (exec hu hcz hsz hd hrun)
          obtain rfl : M = 0 := by omega
          obtain rfl : h' = 0 := by omega
          obtain rfl : b = 0 := by omega
          simp [Den]
        · cases h
    · cases h
  · cases h
end
end Go.SY
/-
  The symbolic machine: the rest of the operations that look at no memory; all of them.
-/
namespace Go.SY
open Go
section
variable {P : Program} {β : Env} {tm : List (Nat × AV)} {ρ : Operand → Value} {o : Oper} {vc : Bool} {r : AV}
theorem makeFunc_sound {fn : Fn} {fst cap : Array Operand} (hev : EvOk β tm ρ) (hop : o.op = .makeFunc fn fst cap) (h : pop P tm o.op = some (vc, r)) : Pur P β ρ o r := by
  rw [hop] at h
  simp only [pop] at h
  split at h
  · rename_i f
    obtain ⟨rfl, rfl⟩ := Prod.mk.inj (Option.some.inj h)
    refine pur_of (y := .func (.func f) (fst.map ρ) (cap.map ρ)) ?_ fun w => ?_
    · simp only [Den]
      have e1 : ∀ q : Array Operand, q.map ρ = (q.toList.map ρ).toArray := fun q => by apply Array.ext'; simp
      exact ⟨fst.toList.map ρ, cap.toList.map ρ, by rw [e1, e1], denL_map hev _, denL_map hev _⟩
    · unfold execOp
      simp only [hop, Instr.makeFunc, Sem.run_bind, Sem.run_pure, Result.andThen_ok]
  · cases h
theorem extract_sound {x : Operand} {i : Nat} (hev : EvOk β tm ρ) (hop : o.op = .extract x i) (h : pop P tm o.op = some (vc, r)) : Pur P β ρ o r := by
  rw [hop] at h
  simp only [pop] at h
  split at h
  · rename_i xs he
    split at h
    · rename_i x' hx
      obtain ⟨rfl, rfl⟩ := Prod.mk.inj (Option.some.inj h)
      have hd := hev x
      rw [he] at hd
      simp only [Den] at hd
      obtain ⟨ys, hy, hl⟩ := hd
      rw [nth_eq] at hx
      obtain ⟨y, h1, h2⟩ := denL_get hl hx
      refine pur_of h2 fun w => ?_
      unfold execOp
      simp [hop, Instr.extract, hy, h1]
    · cases h
  · cases h
theorem field_sound {t : TypeId} {x : Operand} {f : Nat} (hev : EvOk β tm ρ) (hop : o.op = .field t x f) (h : pop P tm o.op = some (vc, r)) : Pur P β ρ o r := by
  rw [hop] at h
  simp only [pop] at h
  split at h
  · rename_i T ht
    split at h
    · rename_i fs xs hk he
      split at h
      · rename_i off sz ag hf
        split at h
        · cases h
        · rename_i hsz
          obtain ⟨fields, hu, hfs, hall⟩ := kd_struct ht hk
          obtain ⟨fl, h1, rfl, h3, h4⟩ := fields_at hfs hf
          obtain ⟨ys, ha, hc⟩ := parts_sound (hev x) he
          have hus : (P.underlying fl.type).isSome = true := hall fl (List.mem_of_getElem? (by simpa using h1))
          have hp := fun w : World => part_run (w := w) h3 hsz hus ys.toArray fl.offset
          have run : ∀ (w : World) y, (part fl.type ys.toArray fl.offset).run P w = .ok y w → (execOp ρ o).run P w = .ok (.value y) w := by
            intro w y hy
            unfold execOp
            simp only [hop, ha, Instr.field, Sem.run_bind, underlying_run w hu, Result.andThen_ok, h1, asAgg, Sem.run_pure, hy]
          cases hag : ag with
          | true =>
            simp only [hag] at h h4
            simp only [if_pos h4] at hp
            split at h
            · rename_i c1 hc1
              split at h
              · rename_i c2 hc2
                obtain ⟨rfl, rfl⟩ := Prod.mk.inj (Option.some.inj h)
                obtain ⟨-, g1⟩ := denC_dr hc hc1
                obtain ⟨-, g2⟩ := denC_tk g1 hc2
                refine pur_of (pack_sound g2) fun w => run w _ ?_
                rw [hp w]
                congr 2
                apply Array.ext'
                simp [List.extract_eq_take_drop]
              · cases h
            · cases h
          | false =>
            simp only [hag] at h h4
            simp only [h4, Bool.false_eq_true, if_false] at hp
            split at h
            · rename_i r' hr
              obtain ⟨rfl, rfl⟩ := Prod.mk.inj (Option.some.inj h)
              obtain ⟨y, g1, g2⟩ := at1_sound hc hr
              simp only [show ys.toArray[fl.offset]? = some y by simpa using g1] at hp
              exact pur_of g2 fun w => run w _ (hp w)
            · cases h
      · cases h
    · cases h
  · cases h
theorem fillA_sound {pl : Nat → Option (Nat × Nat)} : ∀ {parts : List (Nat × Operand)} {cs r : List AV} {ys : List Value}, EvOk β tm ρ → DenC β cs ys →
    fillA pl cs (parts.map fun p => (p.1, ev tm p.2)) = some r → ∃ zs, DenC β r zs ∧ zs.length = ys.length ∧
      Instr.fill pl ys.toArray (parts.map fun p => (p.1, ρ p.2)) = some zs.toArray
  | [], cs, r, ys, _, hd, h => by
    simp only [List.map_nil, fillA, Option.some.injEq] at h
    subst h
    exact ⟨ys, hd, rfl, rfl⟩
  | (i, x) :: parts, cs, r, ys, hev, hd, h => by
    simp only [List.map_cons, fillA] at h
    split at h
    · cases h
    · rename_i o s hpl
      split at h
      · cases h
      · rename_i f hf
        split at h
        · cases h
        · rename_i c1 h1
          obtain ⟨hf1, hf2⟩ := den_flat (hev x) hf
          obtain ⟨g3, hnew⟩ := wrC_sound hf1 hf2 hd h1
          obtain ⟨zs, hz1, hz2, hz3⟩ := fillA_sound (pl := pl) hev hnew h
          have hlen : (ys.take o ++ ((ρ x).cells.toList ++ ys.drop (o + s))).length = ys.length := by simp; simp at hf2; omega
          refine ⟨zs, hz1, hz2.trans hlen, ?_⟩
          simp only [List.map_cons, Instr.fill, hpl]
          have hs : (ρ x).cells.size = s := by simpa using hf2
          rw [if_neg (by simp [hs]; simpa using g3)]
          rw [← hz3]
          congr 1
          -- the fold lays the cells at their place
          have fold : ∀ (l : List Value) (k : Nat) (cur : List Value), o + k + l.length ≤ cur.length →
              ((l.zipIdx k).foldl (fun (cs : Array Value) (x : Value × Nat) => cs.setIfInBounds (o + x.2) x.1) cur.toArray) = (cur.take (o + k) ++ (l ++ cur.drop (o + k + l.length))).toArray := by
            intro l
            induction l with
            | nil => intro k cur _; simp
            | cons v l ih =>
              intro k cur hk
              simp only [List.length_cons] at hk
              simp only [List.zipIdx_cons, List.foldl_cons, List.setIfInBounds_toArray]
              rw [ih (k + 1) _ (by simp; omega)]
              congr 1
              rw [List.set_eq_take_append_cons_drop, if_pos (by omega)]
              have e : (cur.take (o + k)).length = o + k := by simp; omega
              rw [show o + (k + 1) = (cur.take (o + k)).length + 1 by omega, List.take_length_add_append, show (cur.take (o + k)).length + 1 + l.length = (cur.take (o + k)).length + (1 + l.length) by omega, List.drop_length_add_append]
              simp only [List.take_succ_cons, List.take_zero, List.length_cons, e]
              rw [show 1 + l.length = l.length + 1 by omega, List.drop_succ_cons, List.drop_drop]
              simp only [List.append_assoc, List.cons_append, List.nil_append]
              congr 4
              omega
          have := fold (ρ x).cells.toList 0 ys (by simp [hs]; simpa using g3)
          simp only [Nat.add_zero, Array.length_toList, hs] at this
          rw [← this, ← Array.foldl_toList, Array.toList_zipIdx]
theorem numsV_sound {k : IntKind} : ∀ {vs : List Value} {xs : List Int}, numsV k vs = some xs → vs = xs.map (.int k) ∧ okN k xs
  | [], xs, h => by simp only [numsV, Option.some.injEq] at h; subst h; exact ⟨rfl, fun _ h => by cases h⟩
  | v :: r, xs, h => by
    obtain ⟨k', z, rfl⟩ : ∃ k' z, v = .int k' z := by
      cases v <;> first | exact ⟨_, _, rfl⟩ | (simp [numsV] at h)
    simp only [numsV] at h
    split at h
    · rename_i e
      split at h
      · rename_i zs hz
        obtain rfl := Option.some.inj h
        obtain ⟨h1, h2⟩ := numsV_sound hz
        refine ⟨by rw [h1, e.1]; rfl, fun y hy => ?_⟩
        rcases List.mem_cons.1 hy with rfl | hy
        · exact e.2
        · exact h2 y hy
      · cases h
    · cases h
theorem chunk_sound : ∀ {segs : List (Option (Nat × IntKind))} {vs : List Value} {cs : List AV}, (∀ v ∈ vs, one v = true) → chunk segs vs = some cs → DenC β cs vs
  | [], [], cs, _, h => by simp only [chunk, Option.some.injEq] at h; subst h; simp [DenC]
  | [], _ :: _, cs, _, h => by simp [chunk] at h
  | none :: ss, vs, cs, ho, h => by
    simp only [chunk] at h
    split at h
    · cases h
    · rename_i v r
      split at h
      · rename_i q hq
        obtain rfl := Option.some.inj h
        have h1 := ho v (by simp)
        exact (denC_cons (mk_scal h1)).2 ⟨v, r, rfl, den_mk β v, h1, chunk_sound (fun x hx => ho x (by simp [hx])) hq⟩
      · cases h
  | some (n, k) :: ss, vs, cs, ho, h => by
    simp only [chunk] at h
    split at h
    · rename_i hs
      split at h
      · rename_i zs hz
        split at h
        · rename_i q hq
          obtain rfl := Option.some.inj h
          obtain ⟨h1, h2⟩ := numsV_sound hz
          refine denC_ch.2 ⟨vs.drop n, by rw [← h1]; simp, ?_, h2, chunk_sound (fun x hx => ho x (List.mem_of_mem_drop hx)) hq⟩
          have := congrArg List.length h1
          simp at this; omega
        · cases h
      · cases h
    · cases h
theorem zc_spec {t : TypeId} {T : TI} {cs : List AV} (ht : ti P t = some T) (hz : T.zc = some cs) : ∃ i v, P.info? t = some i ∧ i.zero = some v ∧ DenC β cs v.cells.toList ∧ ∀ x ∈ v.cells.toList, one x = true := by
  obtain ⟨i, d, hi, -, -, -, -, -, -, hzc, -⟩ := ti_spec ht
  rw [hzc] at hz
  unfold zcOf at hz
  split at hz
  · cases hz
  · rename_i v hv
    split at hz
    · rename_i hone
      exact ⟨i, v, hi, hv, chunk_sound (fun x hx => List.all_eq_true.1 hone x hx) hz, fun x hx => List.all_eq_true.1 hone x hx⟩
    · cases hz
theorem places_run {w : World} : ∀ (l : List Field), nz (l.map fun f => (f.offset, P.cellsOf f.type, agOf P f.type)) = true →
    (l.mapM (m := Sem) fun f => do pure (f.offset, ← sizeOf f.type)).run P w = .ok (l.map fun f => (f.offset, P.cellsOf f.type)) w
  | [], _ => rfl
  | f :: l, h => by
    simp only [List.map_cons, nz] at h
    split at h
    · cases h
    · rename_i h0
      rw [List.mapM_cons]
      simp only [Sem.run_bind, sizeOf_pos w rfl h0, Result.andThen_ok, Sem.run_pure, List.map_cons, places_run l h]
theorem build_sound {t : TypeId} {ps : Array (Nat × Operand)} (hev : EvOk β tm ρ) (hop : o.op = .build t ps) (h : pop P tm o.op = some (vc, r)) : Pur P β ρ o r := by
  rw [hop] at h
  simp only [pop] at h
  split at h
  · rename_i T ht
    split at h
    · rename_i fs cs hk hz
      split at h
      · rename_i r' hf
        split at h
        · rename_i hnz
          obtain ⟨rfl, rfl⟩ := Prod.mk.inj (Option.some.inj h)
          obtain ⟨fields, hu, hfs, -⟩ := kd_struct ht hk
          obtain ⟨i, v, hi, hzz, hc, -⟩ := zc_spec (β := β) ht hz
          obtain ⟨zs, h1, h2, h3⟩ := fillA_sound hev hc hf
          refine pur_of (pack_sound h1) fun w => ?_
          have places := fun w : World => places_run (P := P) (w := w) fields.toList (by rw [← hfs]; exact hnz)
          have hpl : (fun j => (fields.toList.map fun f => (f.offset, P.cellsOf f.type)).toArray[j]?) = plFs fs := by
            funext j
            simp only [plFs, nth_eq, hfs, List.getElem?_map, List.getElem?_toArray]
            cases fields.toList[j]? <;> rfl
          unfold execOp
          simp only [hop, Instr.build, Sem.run_bind, zeroValue, typeInfo, hi, run_program, Result.andThen_ok, Sem.run_pure, hzz, underlying_run w hu]
          rw [← Array.toArray_toList (xs := fields), List.mapM_toArray]
          simp only [Sem.run_map, places, Result.andThen_ok]
          rw [hpl]
          have e : v.cells = v.cells.toList.toArray := by simp
          have e2 : (ps.map fun x => (x.1, ρ x.2)).toList = ps.toList.map fun p => (p.1, ρ p.2) := by simp
          rw [e, e2, h3]
          rfl
        · cases h
      · cases h
    · rename_i n e sz cs hk hz
      split at h
      · cases h
      · rename_i hsz
        split at h
        · rename_i r' hf
          obtain ⟨rfl, rfl⟩ := Prod.mk.inj (Option.some.inj h)
          obtain ⟨hu, hcz⟩ := kd_arr ht hk
          obtain ⟨i, v, hi, hzz, hc, -⟩ := zc_spec (β := β) ht hz
          obtain ⟨zs, h1, h2, h3⟩ := fillA_sound hev hc hf
          refine pur_of (pack_sound h1) fun w => ?_
          unfold execOp
          simp only [hop, Instr.build, Sem.run_bind, zeroValue, typeInfo, hi, run_program, Result.andThen_ok, Sem.run_pure, hzz, underlying_run w hu, sizeOf_pos w hcz hsz]
          have e : v.cells = v.cells.toList.toArray := by simp
          have e2 : (ps.map fun x => (x.1, ρ x.2)).toList = ps.toList.map fun p => (p.1, ρ p.2) := by simp
          rw [e, e2, h3]
          rfl
        · cases h
    · cases h
  · cases h
theorem one_arg {α : Type} {args : Array α} {x : α} (h : args.toList = [x]) : args = #[x] := by apply Array.ext'; simpa using h
theorem call_exec {b : Builtin} {args : Array Operand} {ats : Array TypeId} (hop : o.op = .call { callee := .builtin b, args := args, argTypes := ats }) {nx : Next} {w w' : World}
    (h : (builtin b ats o.type (args.map fun | .const _ => true | _ => false) (args.map ρ)).run P w = .ok nx w') : (execOp ρ o).run P w = .ok nx w' := by
  unfold execOp
  simp only [hop, Sem.run_bind, resolve, Sem.run_pure, Result.andThen_ok, invoke]
  exact h
theorem len_sound {args : Array Operand} {ats : Array TypeId} (hev : EvOk β tm ρ) (hop : o.op = .call { callee := .builtin .len, args, argTypes := ats }) (h : pop P tm o.op = some (vc, r)) : Pur P β ρ o r := by
  rw [hop] at h
  simp only [pop] at h
  split at h
  · rename_i x t hx htl
    obtain rfl := one_arg hx
    obtain rfl := one_arg htl
    split at h
    · rename_i T ht
      have hd := hev x
      have run : ∀ (m : Nat), m < 9223372036854775808 → (∀ w : World, (Builtin.len_ #[t] o.type #[ρ x]).run P w = .ok (goInt m) w) → Pur P β ρ o (.v (.int .i64 m)) := by
        intro m hlt hm
        refine pur_of (mk_len hlt) fun w => call_exec hop ?_
        simp only [builtin, List.map_toArray, List.map_cons, List.map_nil, Sem.run_bind, hm, Result.andThen_ok, Sem.run_pure]
        rfl
      split at h
      · rename_i hk
        obtain ⟨hu, -, -⟩ := kd_slice ht hk
        split at h
        · rename_i he
          obtain ⟨rfl, rfl⟩ := Prod.mk.inj (Option.some.inj h)
          rw [he] at hd
          simp only [Den] at hd
          obtain ⟨A, q, ha, h1, h2, -⟩ := hd
          exact run _ (by omega) fun w => by simp [Builtin.len_, ha, underlying_run w hu]
        · rename_i he
          obtain ⟨rfl, rfl⟩ := Prod.mk.inj (Option.some.inj h)
          rw [he] at hd
          simp only [Den] at hd
          obtain ⟨A, q, ha, h1, h2, -⟩ := hd
          exact run _ (by omega) fun w => by simp [Builtin.len_, ha, underlying_run w hu]
        · rename_i he
          obtain ⟨rfl, rfl⟩ := Prod.mk.inj (Option.some.inj h)
          rw [he] at hd
          simp only [Den] at hd
          obtain ⟨A, q, ys, ha, h1, h2, -⟩ := hd
          exact run _ (by omega) fun w => by simp [Builtin.len_, ha, underlying_run w hu]
        · rename_i he
          obtain ⟨rfl, rfl⟩ := Prod.mk.inj (Option.some.inj h)
          rw [he] at hd
          simp only [Den] at hd
          exact run 0 (by decide) fun w => by simp [Builtin.len_, hd, underlying_run w hu]
        · cases h
      · rename_i hk
        split at h
        · rename_i s he
          obtain ⟨rfl, rfl⟩ := Prod.mk.inj (Option.some.inj h)
          have hu := kd_str ht hk
          rw [he] at hd
          simp only [Den, wfV] at hd
          exact run _ hd.2.2 fun w => by simp [Builtin.len_, hd.1, underlying_run w hu]
        · cases h
      · rename_i hk
        split at h
        · rename_i hlt
          obtain ⟨rfl, rfl⟩ := Prod.mk.inj (Option.some.inj h)
          obtain ⟨hu, -⟩ := kd_arr ht hk
          exact run _ hlt fun w => by simp [Builtin.len_, underlying_run w hu]
        · cases h
      · cases h
    · cases h
  · cases h
theorem cap_sound {args : Array Operand} {ats : Array TypeId} (hev : EvOk β tm ρ) (hop : o.op = .call { callee := .builtin .cap, args, argTypes := ats }) (h : pop P tm o.op = some (vc, r)) : Pur P β ρ o r := by
  rw [hop] at h
  simp only [pop] at h
  split at h
  · rename_i x t hx htl
    obtain rfl := one_arg hx
    obtain rfl := one_arg htl
    split at h
    · rename_i T ht
      have hd := hev x
      have run : ∀ (m : Nat), m < 9223372036854775808 → (∀ w : World, (Builtin.cap_ #[t] o.type #[ρ x]).run P w = .ok (goInt m) w) → Pur P β ρ o (.v (.int .i64 m)) := by
        intro m hlt hm
        refine pur_of (mk_len hlt) fun w => call_exec hop ?_
        simp only [builtin, List.map_toArray, List.map_cons, List.map_nil, Sem.run_bind, hm, Result.andThen_ok, Sem.run_pure]
        rfl
      split at h
      · rename_i hk he
        obtain ⟨rfl, rfl⟩ := Prod.mk.inj (Option.some.inj h)
        obtain ⟨hu, -, -⟩ := kd_slice ht hk
        rw [he] at hd
        simp only [Den] at hd
        obtain ⟨A, q, ha, h1, h2, h3, -⟩ := hd
        obtain rfl := h3 _ rfl
        exact run _ (by omega) fun w => by simp [Builtin.cap_, ha, underlying_run w hu]
      · rename_i hk he
        obtain ⟨rfl, rfl⟩ := Prod.mk.inj (Option.some.inj h)
        obtain ⟨hu, -, -⟩ := kd_slice ht hk
        rw [he] at hd
        simp only [Den] at hd
        obtain ⟨A, q, ha, h1, h2, h3, -⟩ := hd
        obtain rfl := h3 _ rfl
        exact run _ (by omega) fun w => by simp [Builtin.cap_, ha, underlying_run w hu]
      · rename_i hk he
        obtain ⟨rfl, rfl⟩ := Prod.mk.inj (Option.some.inj h)
        obtain ⟨hu, -, -⟩ := kd_slice ht hk
        rw [he] at hd
        simp only [Den] at hd
        obtain ⟨A, q, ys, ha, h1, h2, h3, -⟩ := hd
        obtain rfl := h3 _ rfl
        exact run _ (by omega) fun w => by simp [Builtin.cap_, ha, underlying_run w hu]
      · rename_i hk he
        obtain ⟨rfl, rfl⟩ := Prod.mk.inj (Option.some.inj h)
        obtain ⟨hu, -, -⟩ := kd_slice ht hk
        rw [he] at hd
        simp only [Den] at hd
        exact run 0 (by decide) fun w => by simp [Builtin.cap_, hd, underlying_run w hu]
      · cases h
    · cases h
  · cases h
theorem minI_run {f : Int → Int → Int} {g : Value → Value → Sem Value} {k : IntKind} (hf : ∀ x y, f x y = x ∨ f x y = y) (hg : ∀ x y (w : World), (g (.int k x) (.int k y)).run P w = .ok (.int k (f x y)) w) :
    ∀ {xs : List AV} {ys : List Value} {x z : Int}, DenL β xs ys → inK k x = true → minI f k x xs = some z → inK k z = true ∧ ∀ w : World, (ys.foldlM g (.int k x)).run P w = .ok (.int k z) w
  | [], ys, x, z, hd, hx, h => by
    simp only [minI, Option.some.injEq] at h
    simp only [DenL] at hd
    subst h; subst hd
    exact ⟨hx, fun w => by simp⟩
  | a :: xs, ys, x, z, hd, hx, h => by
    simp only [DenL] at hd
    obtain ⟨y, zs, rfl, h1, h2⟩ := hd
    obtain ⟨k', v, rfl⟩ : ∃ k' v, a = .v (.int k' v) := by
      cases a with
      | v q => cases q <;> first | exact ⟨_, _, rfl⟩ | (simp [minI] at h)
      | _ => simp [minI] at h
    simp only [minI] at h
    split at h
    · rename_i hk
      subst hk
      obtain ⟨rfl, hv⟩ := den_int h1
      have hxy : inK k' (f x v) = true := by rcases hf x v with e | e <;> rw [e] <;> assumption
      obtain ⟨h3, h4⟩ := minI_run hf hg h2 hxy h
      exact ⟨h3, fun w => by simp only [List.foldlM_cons, Sem.run_bind, hg, Result.andThen_ok, h4]⟩
    · cases h
theorem minmax_sound {b : Builtin} {f : Int → Int → Int} {g : Value → Value → Sem Value} {args : Array Operand} {ats : Array TypeId} (hev : EvOk β tm ρ) (hop : o.op = .call { callee := .builtin b, args, argTypes := ats })
    (hf : ∀ x y, f x y = x ∨ f x y = y) (hg : ∀ k x y (w : World), (g (.int k x) (.int k y)).run P w = .ok (.int k (f x y)) w)
    (hb : ∀ (a c : Array Value) (t : TypeId) (ts : Array TypeId) (cs : Array Bool) (x : Value) (r : List Value), a.toList = x :: r → builtin b ts t cs a = do pure (.value (← r.foldlM g x)))
    (h : (match args.toList.map (ev tm) with
    | .v (.int k x) :: r => (match minI f k x r with
      | some z => some (true, AV.v (.int k z))
      | none => none)
    | _ => none) = some (vc, r)) : Pur P β ρ o r := by
  split at h
  · rename_i k x rest he
    split at h
    · rename_i z hz
      obtain ⟨rfl, rfl⟩ := Prod.mk.inj (Option.some.inj h)
      have hl := denL_map hev args.toList
      rw [he] at hl
      simp only [DenL] at hl
      obtain ⟨y, zs, h1, h2, h3⟩ := hl
      obtain ⟨rfl, hx⟩ := den_int h2
      obtain ⟨h4, h5⟩ := minI_run hf (hg k) h3 hx hz
      refine pur_of (mk_int h4) fun w => call_exec hop ?_
      rw [hb (args.map ρ) #[] _ _ _ _ _ (by simpa using h1)]
      simp only [Sem.run_bind, h5, Result.andThen_ok, Sem.run_pure]
    · cases h
  · cases h
theorem pop_sound (hev : EvOk β tm ρ) (h : pop P tm o.op = some (vc, r)) (hv : vc = true) : Pur P β ρ o r := by
  cases hop : o.op with
  | move x => rw [hop] at h; simp only [pop] at h; obtain ⟨-, rfl⟩ := Prod.mk.inj (Option.some.inj h); exact move_sound hev (.inl hop)
  | assign x => rw [hop] at h; simp only [pop] at h; obtain ⟨-, rfl⟩ := Prod.mk.inj (Option.some.inj h); exact move_sound hev (.inr hop)
  | pick c x y => exact pick_sound hev hop h
  | build t parts => exact build_sound hev hop h
  | nilCheck x => exact nilCheck_sound hev hop h hv
  | binOp op t x y u =>
    rw [hop] at h
    simp only [pop] at h
    split at h
    · rename_i T ht; exact bop_sound hop hev ht h hv
    · cases h
  | unOp op t x => exact unOp_sound hev hop h hv
  | convert src dst x => exact convert_sound hev hop h
  | makeFunc fn fst cap => exact makeFunc_sound hev hop h
  | fieldAddr s x f => exact fieldAddr_sound hev hop h
  | indexAddr t x ix => exact indexAddr_sound hev hop h hv
  | index t x ix => exact index_sound hev hop h hv
  | slice t x lo hi mx => exact slice_sound hev hop h hv
  | extract x i => exact extract_sound hev hop h
  | field t x f => exact field_sound hev hop h
  | call c =>
    obtain ⟨cal, args, ats⟩ := c
    cases cal with
    | builtin b =>
      cases b with
      | len => exact len_sound hev hop h
      | cap => exact cap_sound hev hop h
      | min =>
        rw [hop] at h
        refine minmax_sound (g := Builtin.min2) hev hop (fun x y => by omega) (fun k x y w => ?_) (fun a c t ts cs x r ha => ?_) h
        · simp only [Builtin.min2, Sem.run_pure]
          congr 2
          split <;> omega
        · simp only [builtin, Builtin.min_, ha]
      | max =>
        rw [hop] at h
        refine minmax_sound (g := Builtin.max2) hev hop (fun x y => by omega) (fun k x y w => ?_) (fun a c t ts cs x r ha => ?_) h
        · simp only [Builtin.max2, Sem.run_pure]
          congr 2
          split <;> omega
        · simp only [builtin, Builtin.max_, ha]
      | _ => rw [hop] at h; simp [pop] at h
    | _ => rw [hop] at h; simp [pop] at h
  | _ => rw [hop] at h; simp [pop] at h
end
end Go.SY
/-
  The symbolic machine: operations that read memory; slices and parts of one's own that are frozen; stores; variables made.
-/
namespace Go.SY
open Go
def strOf (xs : List Int) : ByteArray := ⟨(xs.map fun z => UInt8.ofNat z.toNat).toArray⟩
def numsAt (k : IntKind) (bl : Bls) : AV → Option (Bool × List Int)
  | .nil => some (true, [])
  | .imn _ k' xs _ => if k' = k then some (true, xs) else none
  | .sl l i w n _ => (match lvl bl l with
    | some (.num k' xs) => if k' = k then (if w = 1 then some (decide (i + n ≤ xs.length), (xs.drop i).take n) else none) else none
    | _ => none)
  | _ => none
def aOf (P : Program) (T : TI) : Option (Nat × Nat) := match T.kd with
  | .ptr a => (match ti P a with
    | some A => (match A.kd with
      | .arr n _ sz => some (n, sz)
      | _ => none)
    | none => none)
  | .arr n _ sz => some (n, sz)
  | _ => none
def lop (P : Program) (tm : List (Nat × AV)) (bl : Bls) (o : Op) : Option (Bool × AV) :=
  match o with
  | .load t a => (match ti P t with
    | some T => (match ev tm a with
      | .ptr l i w k => (match lvl bl l with
        | some c => rdCt c i w k T
        | none => none)
      | .ip _ row k => (match rdC row k T with
        | some r => some (true, r)
        | none => none)
      | _ => none)
    | none => none)
  | .convert src dst x => (match ti P src, ti P dst with
    | some S, some D => (match S.kd, S.ik, D.kd with
      | .slice _ sz _, some .u8, .str => if sz = 1 then (match numsAt .u8 bl (ev tm x) with
        | some (vc, xs) => some (vc, .v (.string (strOf xs)))
        | none => none) else none
      | _, _, _ => none)
    | _, _ => none)
  | .slice t x lo hi mx => if okMx hi mx = true then (match ti P t with
    | some T => (match aOf P T with
      | some (n, sz) => if sz = 1 then (match ev tm x with
        | .ptr l i w k => (match lvl bl l with
            | some c => (match (match c with
                | .num _ xs => some xs.length
                | .lit cs => some (wids cs)
                | _ => none) with
              | some m => (match cutOf n (some n) (lo.map (ev tm)) (hi.map (ev tm)) (mx.map (ev tm)) with
                | some (vc, b, n', c') => some (decide (i * w + k + n ≤ m) && (decide (n < 9223372036854775808) && vc), .sl l (i * w + k + b) 1 n' c')
                | none => none)
              | none => none)
            | none => none)
        | .ip t' row k => (match dr row k with
            | some (.ch m kk xs :: _) => if m = n then (match cutOf n (some n) (lo.map (ev tm)) (hi.map (ev tm)) (mx.map (ev tm)) with
                | some (vc, b, n', c') => some (decide (n < 9223372036854775808) && vc, .imn t' kk ((xs.drop b).take n') c')
                | none => none) else none
            | _ => none)
        | _ => none) else none
      | none => none)
    | none => none) else none
  | _ => none
def rdl (tm : List (Nat × AV)) (o : Op) : List Nat :=
  match o with
  | .load _ a => (match ev tm a with
    | .ptr l _ _ _ => [l]
    | _ => [])
  | .convert _ _ x => (match ev tm x with
    | .sl l _ _ _ _ => [l]
    | _ => [])
  | .slice _ x _ _ _ => (match ev tm x with
    | .ptr l _ _ _ => [l]
    | _ => [])
  | _ => []
def Lod (P : Program) (β : Env) (w : World) (ρ : Operand → Value) (o : Oper) (r : AV) : Prop := ∃ y, Den β r y ∧ (execOp ρ o).run P w = .ok (.value y) w
section
variable {P : Program} {β : Env} {tm : List (Nat × AV)} {ρ : Operand → Value} {o : Oper} {vc : Bool} {r : AV} {bl : Bls} {w : World}
theorem load_sound {t : TypeId} {x : Operand} (hev : EvOk β tm ρ) (hh : Heap β bl w) (hop : o.op = .load t x) (h : lop P tm bl o.op = some (vc, r)) (hv : vc = true) : Lod P β w ρ o r := by
  rw [hop] at h
  simp only [lop] at h
  have hd := hev x
  have exec : ∀ {b p : Nat} {y : Value}, ρ x = .pointer (some ⟨b, p, none⟩) → (loadVar t ⟨b, p, none⟩).run P w = .ok y w → (execOp ρ o).run P w = .ok (.value y) w := by
    intro b p y ha hy
    unfold execOp
    simp only [hop, Instr.loadAt, ha, Instr.sureAddr, Sem.run_bind, Sem.run_pure, Result.andThen_ok, hy]
  split at h
  · rename_i T ht
    split at h
    · rename_i l i w' k he
      split at h
      · rename_i c hc
        rw [he] at hd
        simp only [Den] at hd
        obtain ⟨b, s, hb, ha⟩ := hd
        have hcell : c.cell = true := by cases c <;> first | rfl | (simp [rdCt] at h)
        obtain ⟨ys, sp, U, fz, hg, -, hcs, -⟩ := heap_cells hh hc hb hcell
        have hr := rdCt_sound hcs h hv
        obtain ⟨y, h1, h2⟩ := load_rd ht (InW.of_cells hg) hr
        rw [Nat.zero_add] at h1
        exact ⟨y, h2, exec ha h1⟩
      · cases h
    · rename_i t' row k he
      split at h
      · rename_i r' hr
        obtain ⟨rfl, rfl⟩ := Prod.mk.inj (Option.some.inj h)
        rw [he] at hd
        simp only [Den] at hd
        obtain ⟨b, o0, ys, ha, hc, hz⟩ := hd
        obtain ⟨y, h1, h2⟩ := load_rd ht (InW.of_heap hh hz) (rdC_sound hc hr)
        exact ⟨y, h2, exec ha h1⟩
      · cases h
    · cases h
  · cases h
theorem strOf_size (xs : List Int) : (strOf xs).size = xs.length := by simp [strOf, ByteArray.size]
theorem numsAt_run {k : IntKind} {x : AV} {y : Value} {xs : List Int} (hh : Heap β bl w) (hd : Den β x y) (h : numsAt k bl x = some (vc, xs)) (hv : vc = true) :
    ∃ A q, y = .slice A xs.length q ∧ xs.length ≤ q ∧ q < 9223372036854775808 ∧ okN k xs ∧ (q ≠ 0 → ∃ b o, A = some ⟨b, o, none⟩ ∧ InW w b o (xs.map (.int k))) := by
  cases x <;> simp only [numsAt] at h <;> try (cases h; done)
  · obtain ⟨rfl, rfl⟩ := Prod.mk.inj (Option.some.inj h)
    simp only [Den] at hd
    exact ⟨none, 0, hd, Nat.le_refl _, by decide, fun _ h => by simp at h, fun h => absurd rfl h⟩
  · rename_i l i w' n c
    split at h
    · rename_i k' ns hl
      split at h
      · rename_i hk
        split at h
        · rename_i hw
          obtain ⟨rfl, rfl⟩ := Prod.mk.inj (Option.some.inj h)
          subst hk; subst hw
          have hv := of_decide_eq_true hv
          have hlen : ((ns.drop i).take n).length = n := by simp; omega
          simp only [Den] at hd
          obtain ⟨A, q, rfl, h1, h2, -, h3⟩ := hd
          obtain ⟨base, hbase, hin⟩ := hh.lv l _ (lvl_get hl)
          have hok : okN k' ns := by
            unfold CtIn at hin
            cases base with
            | none => exact hin.2
            | some p =>
              rcases hin with ⟨-, ys, sp, T, fz, -, -, hc, -⟩ | ⟨hf, -⟩
              · exact hc.2
              · cases hf
          refine ⟨A, q, by rw [hlen], by omega, h2, okN_take (okN_drop hok _) _, fun hq => ?_⟩
          obtain ⟨b, s, hb, rfl, -⟩ := h3 hq
          obtain ⟨ys, sp, T, fz, hg, -, hc, -⟩ := heap_cells hh hl hb rfl
          simp only [CsDen] at hc
          obtain ⟨rfl, -⟩ := hc
          refine ⟨b, i * 1, rfl, _, T, fz, hg, fun j v hj => ?_⟩
          have hlt := (List.getElem?_eq_some_iff.1 hj).1
          rw [List.length_map, hlen] at hlt
          rw [List.map_take, List.map_drop, List.getElem?_take_of_lt hlt, List.getElem?_drop] at hj
          simp only [List.getElem?_toArray, Nat.mul_one]
          rw [List.getElem?_append_left (by simp; omega), hj]
        · cases h
      · cases h
    · cases h
  · rename_i t k' ns c
    split at h
    · rename_i hk
      obtain ⟨rfl, rfl⟩ := Prod.mk.inj (Option.some.inj h)
      subst hk
      simp only [Den] at hd
      obtain ⟨A, q, rfl, h1, h2, -, h3, h4⟩ := hd
      refine ⟨A, q, rfl, h1, h2, h3, fun hq => ?_⟩
      obtain ⟨b, o0, rfl, hc⟩ := h4 hq
      exact ⟨b, o0, rfl, InW.of_heap hh hc⟩
    · cases h
theorem loadCells_inW {b o0 : Nat} {ys : List Value} (h : InW w b o0 ys) : (loadCells ⟨b, o0, none⟩ ys.length).run P w = .ok ys.toArray w :=
  run_loadCells_list (P := P) w ⟨b, o0, none⟩ ys (fun j v hj => by rw [add_lit]; exact cell_of h hj)
theorem toStr_run {A : Option Addr} {q : Nat} {xs : List Int} (hq : xs.length ≤ q) (h : q ≠ 0 → ∃ b o, A = some ⟨b, o, none⟩ ∧ InW w b o (xs.map (.int .u8))) :
    (Conv.bytesToString (.slice A xs.length q)).run P w = .ok (.string (strOf xs)) w := by
  have fold : ∀ (f : Value → ByteArray → Sem (ForInStep ByteArray)), (∀ z s, f (.int .u8 z) s = pure (ForInStep.yield (s.push (UInt8.ofNat z.toNat)))) → ∀ (l : List Int) (s : ByteArray), (forIn (l.map (Value.int .u8)) s f).run P w = .ok (l.foldl (fun s z => s.push (UInt8.ofNat z.toNat)) s) w := by
    intro f hf l
    induction l with
    | nil => intro s; simp
    | cons z l ih =>
      intro s
      simp only [List.map_cons, List.forIn_cons, hf, Sem.run_bind, Sem.run_pure, Result.andThen_ok, List.foldl_cons]
      exact ih _
  have push : ∀ (l : List Int) (s : ByteArray), (l.foldl (fun s z => s.push (UInt8.ofNat z.toNat)) s).data = s.data ++ (l.map fun z => UInt8.ofNat z.toNat).toArray := by
    intro l
    induction l with
    | nil => intro s; simp
    | cons z l ih =>
      intro s
      rw [List.foldl_cons, ih]
      apply Array.ext'
      simp [ByteArray.push]
  have e : xs.foldl (fun s z => s.push (UInt8.ofNat z.toNat)) ByteArray.empty = strOf xs := by
    have := push xs ByteArray.empty
    unfold strOf
    generalize xs.foldl (fun s z => s.push (UInt8.ofNat z.toNat)) ByteArray.empty = q at this
    cases q
    simp only at this
    rw [this]
    congr 1
    apply Array.ext'
    simp [ByteArray.empty, ByteArray.emptyWithCapacity]
    try rfl
  cases A with
  | none =>
    have hx : xs = [] := by
      by_cases h0 : q = 0
      · exact List.length_eq_zero_iff.1 (by omega)
      · obtain ⟨b, o, h1, -⟩ := h h0; cases h1
    subst hx
    simp only [Conv.bytesToString, Sem.run_pure]
    rfl
  | some A =>
    have hl : (loadCells A xs.length).run P w = .ok (xs.map (Value.int .u8)).toArray w := by
      by_cases h0 : q = 0
      · obtain rfl : xs = [] := List.length_eq_zero_iff.1 (by omega)
        simp [loadCells, loadCellsFrom]
      · obtain ⟨b, o0, h1, h2⟩ := h h0
        cases h1
        have := loadCells_inW (P := P) h2
        simpa using this
    simp only [Conv.bytesToString, Sem.run_bind, hl, Result.andThen_ok]
    rw [← Array.forIn_toList]
    rw [fold _ (fun z s => rfl) xs ByteArray.empty]
    simp only [Result.andThen_ok, Sem.run_pure, e]
theorem conv_sound {src dst : TypeId} {x : Operand} (hev : EvOk β tm ρ) (hh : Heap β bl w) (hop : o.op = .convert src dst x) (h : lop P tm bl o.op = some (vc, r)) (hv : vc = true) : Lod P β w ρ o r := by
  rw [hop] at h
  simp only [lop] at h
  split at h
  · rename_i S D hs hd'
    split at h
    · rename_i e sz b0 hk hik hkd
      split at h
      · rename_i hsz
        split at h
        · rename_i vc' xs hn
          obtain ⟨rfl, rfl⟩ := Prod.mk.inj (Option.some.inj h)
          obtain ⟨A, q, ha, h1, h2, h3, h4⟩ := numsAt_run hh (hev x) hn hv
          obtain ⟨hu, -, -⟩ := kd_slice hs hk
          have hud := kd_str hd' hkd
          have hue : P.underlying e = some (.int .u8) := by
            obtain ⟨i, d, -, hu', -, -, -, -, hik', -⟩ := ti_spec hs
            rw [hik'] at hik
            unfold ikOf at hik
            rw [hu] at hik
            simp only at hik
            cases hq : P.underlying e with
            | none => simp [hq] at hik
            | some d => cases d <;> simp [hq] at hik <;> rw [hik]
          refine ⟨.string (strOf xs), by simp only [Den, one, wfV, strOf_size, true_and]; omega, ?_⟩
          unfold execOp
          simp only [hop, ha, convert, Sem.run_bind, underlying_run w hu, underlying_run w hud, underlying_run w hue, Result.andThen_ok, toStr_run h1 h4, Sem.run_pure]
        · cases h
      · cases h
    · cases h
  · cases h
theorem slc_sound {t : TypeId} {x : Operand} {lo hi mx : Option Operand} (hev : EvOk β tm ρ) (hh : Heap β bl w) (hop : o.op = .slice t x lo hi mx) (h : lop P tm bl o.op = some (vc, r)) (hv : vc = true) : Lod P β w ρ o r := by
  rw [hop] at h
  simp only [lop] at h
  split at h
  case isFalse => cases h
  rename_i hok
  have hmx : mx = none ∨ hi ≠ none := by
    clear h
    rcases mx with _ | m
    · exact .inl rfl
    · rcases hi with _ | q
      · exfalso; revert hok; simp [okMx]
      · exact .inr (by simp)
  split at h
  · rename_i T ht
    have hd := hev x
    split at h
    · rename_i n sz hA
      split at h
      · rename_i hsz
        subst hsz
        have exec : ∀ {b p s h' M : Nat}, ρ x = .pointer (some ⟨b, p, none⟩) →
            (∀ w : World, (Instr.sliceBounds false n n (lo.map ρ) (hi.map ρ) (mx.map ρ)).run P w = .ok (s, h', M) w) →
            (execOp ρ o).run P w = .ok (.value (.slice (some (if M = s then ⟨b, p, none⟩ else ⟨b, p + s, none⟩)) (h' - s) (M - s))) w := by
          intro b p s h' M ha hrun
          unfold aOf at hA
          split at hA
          · rename_i a hk
            split at hA
            · rename_i A hA'
              split at hA
              · rename_i n0 e sz0 hkA
                simp only [Option.some.injEq, Prod.mk.injEq] at hA
                obtain ⟨rfl, rfl⟩ := hA
                obtain ⟨hua, hcz⟩ := kd_arr hA' hkA
                have hu : P.underlying t = some (.pointer a) := by
                  obtain ⟨i, d, -, hu, -, -, -, hkd, -⟩ := ti_spec ht
                  rw [hkd] at hk
                  obtain rfl := kdOf_ptr hk
                  exact hu
                unfold execOp
                simp only [hop, Instr.sliceAt, ha, Sem.run_bind, underlying_run w hu, underlying_run w hua, Result.andThen_ok, Instr.slice, asAddr, Sem.run_pure, hrun, sizeOf_pos w hcz (by decide : (1 : Nat) ≠ 0), add_lit, Nat.mul_one]
              · cases hA
            · cases hA
          · rename_i n0 e sz0 hk
            simp only [Option.some.injEq, Prod.mk.injEq] at hA
            obtain ⟨rfl, rfl⟩ := hA
            obtain ⟨hua, hcz⟩ := kd_arr ht hk
            unfold execOp
            simp only [hop, Instr.sliceAt, ha, Sem.run_bind, underlying_run w hua, Result.andThen_ok, Instr.sureAddr, Sem.run_pure, hrun, sizeOf_pos w hcz (by decide : (1 : Nat) ≠ 0), add_lit, Nat.mul_one]
          · cases hA
        split at h
        · rename_i l i w' k he
          split at h
          · rename_i c hc
            split at h
            · rename_i m hm
              split at h
              · rename_i vc' b n' c' hcut
                obtain ⟨rfl, rfl⟩ := Prod.mk.inj (Option.some.inj h)
                simp only [Bool.and_eq_true, decide_eq_true_eq] at hv
                obtain ⟨hfit, hbig, hv⟩ := hv
                rw [he] at hd
                simp only [Den] at hd
                obtain ⟨bb, s, hb, ha⟩ := hd
                have hcell : c.cell = true := by cases c <;> first | rfl | (simp at hm)
                obtain ⟨ys, sp, U, fz, hg, hs, hcs, -⟩ := heap_cells hh hc hb hcell
                have hms : m ≤ s := by
                  cases c with
                  | num k' xs => simp only [Option.some.injEq] at hm; simp only [CsDen] at hcs; have := congrArg List.length hcs.1; simp at this; omega
                  | lit cs => simp only [Option.some.injEq] at hm; have := denC_len hcs; omega
                  | _ => simp at hm
                obtain ⟨h', M, hrun, rfl, g1, g2, g3, g4, g5⟩ := cutOf_run (P := P) (b := false) (q := n) hev hmx (Nat.le_refl _) (fun m hm => Option.some.inj hm) hcut hv
                refine ⟨_, ?_, exec ha hrun⟩
                simp only [Den]
                refine ⟨_, M - b, rfl, by omega, by omega, ?_, fun hne => ⟨bb, s, hb, ?_, ?_⟩⟩
                · by_cases hm : mx = none
                  · obtain ⟨rfl, -, rfl⟩ := g4 hm; exact capIs_sub fun m hm => Option.some.inj hm
                  · obtain ⟨-, rfl⟩ := g5 hm; intro m hm; exact Option.some.inj hm
                · rw [if_neg (by omega), Nat.mul_one]
                · simp only [Option.getD_some] at g4 g5
                  omega
              · cases h
            · cases h
          · cases h
        · rename_i t' row k he
          split at h
          · rename_i m kk xs rest hdr
            split at h
            · rename_i hm
              split at h
              · rename_i vc' b n' c' hcut
                obtain ⟨rfl, rfl⟩ := Prod.mk.inj (Option.some.inj h)
                simp only [Bool.and_eq_true, decide_eq_true_eq] at hv
                obtain ⟨hbig, hv⟩ := hv
                rw [he] at hd
                simp only [Den] at hd
                obtain ⟨bb, o0, ys, ha, h4, h5⟩ := hd
                obtain ⟨zs, h6, h7, h8⟩ := dr_chunk h4 hdr
                have hc : Cells (β.fz t') bb (o0 + k) (xs.map (.int kk)) := cells_of_eq (cells_drop h5 k) fun q v hq => by
                  rw [h6, List.getElem?_append_left (List.getElem?_eq_some_iff.1 hq).1]; exact hq
                obtain ⟨h', M, hrun, rfl, g1, g2, g3, g4, g5⟩ := cutOf_run (P := P) (b := false) (q := n) hev hmx (Nat.le_refl _) (fun m hm => Option.some.inj hm) hcut hv
                have hlen : ((xs.drop b).take (h' - b)).length = h' - b := by simp; omega
                refine ⟨_, ?_, exec ha hrun⟩
                simp only [Den]
                refine ⟨_, M - b, by rw [hlen], by omega, by omega, ?_, okN_take (okN_drop h8 _) _, fun hne => ⟨bb, o0 + k + b, by rw [if_neg (by omega)], ?_⟩⟩
                · by_cases hm : mx = none
                  · obtain ⟨rfl, -, rfl⟩ := g4 hm; exact capIs_sub fun m hm => Option.some.inj hm
                  · obtain ⟨-, rfl⟩ := g5 hm; intro m hm; exact Option.some.inj hm
                · rw [List.map_take, List.map_drop]
                  exact cells_take (cells_drop hc b) _
              · cases h
            · cases h
          · cases h
        · cases h
      · cases h
    · cases h
  · cases h
theorem lop_sound (hev : EvOk β tm ρ) (hh : Heap β bl w) (h : lop P tm bl o.op = some (vc, r)) (hv : vc = true) : Lod P β w ρ o r := by
  cases hop : o.op with
  | load t x => exact load_sound hev hh hop h hv
  | convert src dst x => exact conv_sound hev hh hop h hv
  | slice t x lo hi mx => exact slc_sound hev hh hop h hv
  | _ => rw [hop] at h; simp [lop] at h
theorem lop_congr {bl' : Bls} {o : Op} (h : ∀ l ∈ rdl tm o, lvl bl' l = lvl bl l) : lop P tm bl' o = lop P tm bl o := by
  cases o with
  | load t a =>
    simp only [rdl] at h
    simp only [lop]
    split
    · split
      · rename_i he; simp only [he, List.mem_singleton, forall_eq] at h; rw [h]
      · rfl
      · rfl
    · rfl
  | convert s d x =>
    simp only [rdl] at h
    have : ∀ k, numsAt k bl' (ev tm x) = numsAt k bl (ev tm x) := fun k => by
      cases he : ev tm x <;> simp only [numsAt]
      simp only [he, List.mem_singleton, forall_eq] at h; rw [h]
    simp only [lop, this]
  | slice t x lo hi mx =>
    simp only [rdl] at h
    simp only [lop]
    split
    · split
      · split
        · split
          · split
            · rename_i he; simp only [he, List.mem_singleton, forall_eq] at h; rw [h]
            · rfl
            · rfl
          · rfl
        · rfl
      · rfl
    · rfl
  | _ => rfl
end
end Go.SY
