/-
  The symbolic machine: levels under other names.
-/
import Derived.Test.YtdoeopcimhpjaaaSy25
set_option linter.unusedSimpArgs false
set_option linter.unusedVariables false
namespace Go.SY
open Go

mutual
def ren (ρ : Nat → Nat) : AV → AV
  | .ptr l i w k => .ptr (ρ l) i w k
  | .sl l i w n c => .sl (ρ l) i w n c
  | .mp l => .mp (ρ l)
  | .yld l => .yld (ρ l)
  | .fn f a b => .fn f (renL ρ a) (renL ρ b)
  | .agg xs => .agg (renL ρ xs)
  | .tup xs => .tup (renL ρ xs)
  | .imr t w rs c => .imr t w (renR ρ rs) c
  | .ip t row k => .ip t (renL ρ row) k
  | .v x => .v x
  | .nil => .nil
  | .imn t k xs c => .imn t k xs c
  | .ch n k xs => .ch n k xs
  | .any => .any
def renL (ρ : Nat → Nat) : List AV → List AV
  | [] => []
  | x :: r => ren ρ x :: renL ρ r
def renR (ρ : Nat → Nat) : List (List AV) → List (List AV)
  | [] => []
  | x :: r => renL ρ x :: renR ρ r
end

/-- Levels below N; what is borrowed only if T. -/
def tB (T t : Bool) : Bool := match t with
  | true => T
  | false => true

mutual
def lvB (N : Nat) (T : Bool) : AV → Bool
  | .ptr l _ _ _ => decide (l < N)
  | .sl l _ _ _ _ => decide (l < N)
  | .mp l => decide (l < N)
  | .yld l => decide (l < N)
  | .fn _ a b => lvL N T a && lvL N T b
  | .agg xs => lvL N T xs
  | .tup xs => lvL N T xs
  | .imr t _ rs _ => tB T t && lvR N T rs
  | .ip t row _ => tB T t && lvL N T row
  | .imn t _ _ _ => tB T t
  | .v _ => true
  | .nil => true
  | .ch _ _ _ => true
  | .any => true
def lvL (N : Nat) (T : Bool) : List AV → Bool
  | [] => true
  | x :: r => lvB N T x && lvL N T r
def lvR (N : Nat) (T : Bool) : List (List AV) → Bool
  | [] => true
  | x :: r => lvL N T x && lvR N T r
end

theorem renL_map (ρ : Nat → Nat) : ∀ xs : List AV, renL ρ xs = xs.map (ren ρ)
  | [] => rfl
  | x :: r => by simp [renL, renL_map ρ r]

theorem renR_map (ρ : Nat → Nat) : ∀ xs : List (List AV), renR ρ xs = xs.map (renL ρ)
  | [] => rfl
  | x :: r => by simp [renR, renR_map ρ r]

theorem ren_scal (ρ : Nat → Nat) (x : AV) : (ren ρ x).scal = x.scal := by cases x <;> rfl

mutual
theorem ren_id : ∀ x : AV, ren (fun l => l) x = x
  | .ptr .. => rfl
  | .sl .. => rfl
  | .mp _ => rfl
  | .yld _ => rfl
  | .fn f a b => by simp only [ren, renL_id a, renL_id b]
  | .agg xs => by simp only [ren, renL_id xs]
  | .tup xs => by simp only [ren, renL_id xs]
  | .imr t w rs c => by simp only [ren, renR_id rs]
  | .ip t row k => by simp only [ren, renL_id row]
  | .v _ => rfl
  | .nil => rfl
  | .imn .. => rfl
  | .ch .. => rfl
  | .any => rfl
theorem renL_id : ∀ x : List AV, renL (fun l => l) x = x
  | [] => rfl
  | x :: r => by simp only [renL, ren_id x, renL_id r]
theorem renR_id : ∀ x : List (List AV), renR (fun l => l) x = x
  | [] => rfl
  | x :: r => by simp only [renR, renL_id x, renR_id r]
end

/-- From one set of names to another. -/
structure Tr (β β' : Env) (ρ σ : Nat → Nat) (N : Nat) (T : Bool) : Prop where
  b : ∀ l x, l < N → β.b[ρ l]? = some (some x) → β'.b[σ l]? = some (some x)
  z : ∀ i cs, β.z i = some cs → β'.z i = some cs
  y : T = true → ∀ i cs, β.y i = some cs → β'.y i = some cs

theorem Tr.cells {β β' : Env} {ρ σ : Nat → Nat} {N : Nat} {T : Bool} (h : Tr β β' ρ σ N T) {t : Bool} (ht : tB T t = true) {b o : Nat} {ys : List Value} (hc : Cells (β.fz t) b o ys) : Cells (β'.fz t) b o ys := by
  obtain ⟨cs, h1, h2⟩ := hc
  refine ⟨cs, ?_, h2⟩
  cases t with
  | true => exact h.y ht b cs h1
  | false => exact h.z b cs h1

mutual
theorem Den.ren {β β' : Env} {ρ σ : Nat → Nat} {N : Nat} {T : Bool} (h : Tr β β' ρ σ N T) : ∀ {x : AV} {v : Value}, lvB N T x = true → Den β (SY.ren ρ x) v → Den β' (SY.ren σ x) v
  | .v _, _, _, hd => by simpa only [SY.ren, Den] using hd
  | .nil, _, _, hd => by simpa only [SY.ren, Den] using hd
  | .ptr .., _, hl, hd => by
    simp only [lvB, decide_eq_true_eq] at hl
    simp only [SY.ren, Den] at hd ⊢
    obtain ⟨b, s, hb, e⟩ := hd
    exact ⟨b, s, h.b _ _ hl hb, e⟩
  | .sl .., _, hl, hd => by
    simp only [lvB, decide_eq_true_eq] at hl
    simp only [SY.ren, Den] at hd ⊢
    obtain ⟨A, q, e, h1, h2, h3, hc⟩ := hd
    refine ⟨A, q, e, h1, h2, h3, fun h0 => ?_⟩
    obtain ⟨b, s, hb, e⟩ := hc h0
    exact ⟨b, s, h.b _ _ hl hb, e⟩
  | .imn .., _, hl, hd => by
    simp only [lvB] at hl
    simp only [SY.ren, Den] at hd ⊢
    obtain ⟨A, q, e, h1, h2, h3, h4, hc⟩ := hd
    refine ⟨A, q, e, h1, h2, h3, h4, fun h0 => ?_⟩
    obtain ⟨b, o, e, hb⟩ := hc h0
    exact ⟨b, o, e, h.cells hl hb⟩
  | .imr .., _, hl, hd => by
    simp only [lvB, Bool.and_eq_true] at hl
    simp only [SY.ren, Den] at hd ⊢
    obtain ⟨A, q, ys, e, h1, h2, h3, h4, hc⟩ := hd
    rw [renR_map, List.length_map] at e h1 ⊢
    rw [← renR_map] at *
    refine ⟨A, q, ys, e, h1, h2, h3, DenR.ren h hl.2 h4, fun h0 => ?_⟩
    obtain ⟨b, o, e, hb⟩ := hc h0
    exact ⟨b, o, e, h.cells hl.1 hb⟩
  | .ip .., _, hl, hd => by
    simp only [lvB, Bool.and_eq_true] at hl
    simp only [SY.ren, Den] at hd ⊢
    obtain ⟨b, o, ys, e, h1, h2⟩ := hd
    exact ⟨b, o, ys, e, DenC.ren h hl.2 h1, h.cells hl.1 h2⟩
  | .mp .., _, hl, hd => by
    simp only [lvB, decide_eq_true_eq] at hl
    simp only [SY.ren, Den] at hd ⊢
    obtain ⟨b, s, hb, e⟩ := hd
    exact ⟨b, s, h.b _ _ hl hb, e⟩
  | .yld .., _, hl, hd => by
    simp only [lvB, decide_eq_true_eq] at hl
    simp only [SY.ren, Den] at hd ⊢
    obtain ⟨b, s, hb, e⟩ := hd
    exact ⟨b, s, h.b _ _ hl hb, e⟩
  | .fn f fst caps, _, hl, hd => by
    simp only [lvB, Bool.and_eq_true] at hl
    simp only [SY.ren, Den] at hd ⊢
    obtain ⟨xs, ys, e, h1, h2⟩ := hd
    exact ⟨xs, ys, e, DenL.ren h hl.1 h1, DenL.ren h hl.2 h2⟩
  | .agg xs, _, hl, hd => by
    simp only [lvB] at hl
    simp only [SY.ren, Den] at hd ⊢
    obtain ⟨ys, e, h1⟩ := hd
    exact ⟨ys, e, DenC.ren h hl h1⟩
  | .ch .., _, _, hd => by simpa only [SY.ren, Den] using hd
  | .tup xs, _, hl, hd => by
    simp only [lvB] at hl
    simp only [SY.ren, Den] at hd ⊢
    obtain ⟨ys, e, h1⟩ := hd
    exact ⟨ys, e, DenL.ren h hl h1⟩
  | .any, _, _, _ => by simp only [SY.ren, Den]
theorem DenL.ren {β β' : Env} {ρ σ : Nat → Nat} {N : Nat} {T : Bool} (h : Tr β β' ρ σ N T) : ∀ {x : List AV} {v : List Value}, lvL N T x = true → DenL β (renL ρ x) v → DenL β' (renL σ x) v
  | [], _, _, hd => by simpa only [renL, DenL] using hd
  | x :: r, _, hl, hd => by
    simp only [lvL, Bool.and_eq_true] at hl
    simp only [renL, DenL] at hd ⊢
    obtain ⟨y, zs, e, h1, h2⟩ := hd
    exact ⟨y, zs, e, Den.ren h hl.1 h1, DenL.ren h hl.2 h2⟩
theorem DenC.ren {β β' : Env} {ρ σ : Nat → Nat} {N : Nat} {T : Bool} (h : Tr β β' ρ σ N T) : ∀ {x : List AV} {v : List Value}, lvL N T x = true → DenC β (renL ρ x) v → DenC β' (renL σ x) v
  | [], _, _, hd => by simpa only [renL, DenC] using hd
  | x :: r, _, hl, hd => by
    simp only [lvL, Bool.and_eq_true] at hl
    simp only [renL] at hd ⊢
    rcases denC_case hd with ⟨hs, y, zs, rfl, h1, h2, h3⟩ | ⟨n, k, ns, he, zs, rfl, h1, h2, h3⟩
    · have hs' : (SY.ren σ x).scal = true := by rw [ren_scal] at hs ⊢; exact hs
      exact (denC_cons hs').2 ⟨y, zs, rfl, Den.ren h hl.1 h1, h2, DenC.ren h hl.2 h3⟩
    · have hx : x = .ch n k ns := by cases x <;> simp only [SY.ren] at he <;> first | exact he | cases he
      subst hx
      exact denC_ch.2 ⟨zs, rfl, h1, h2, DenC.ren h hl.2 h3⟩
theorem DenR.ren {β β' : Env} {ρ σ : Nat → Nat} {N : Nat} {T : Bool} (h : Tr β β' ρ σ N T) {w : Nat} : ∀ {x : List (List AV)} {v : List Value}, lvR N T x = true → DenR β w (renR ρ x) v → DenR β' w (renR σ x) v
  | [], _, _, hd => by simpa only [renR, DenR] using hd
  | x :: r, _, hl, hd => by
    simp only [lvR, Bool.and_eq_true] at hl
    simp only [renR, DenR] at hd ⊢
    obtain ⟨us, zs, e, h0, h1, h2⟩ := hd
    exact ⟨us, zs, e, h0, DenC.ren h hl.1 h1, DenR.ren h hl.2 h2⟩
end

/-! ### slots, blocks -/
def renT (ρ : Nat → Nat) : TM → TM
  | [] => []
  | (d, x) :: r => (d, ren ρ x) :: renT ρ r

def lvT (N : Nat) (T : Bool) : TM → Bool
  | [] => true
  | (_, x) :: r => lvB N T x && lvT N T r

theorem get_renT {ρ : Nat → Nat} : ∀ {tm : TM} {s : Nat}, get (renT ρ tm) s = ren ρ (get tm s)
  | [], _ => rfl
  | (d, x) :: r, s => by
    simp only [renT, get]
    split
    · rfl
    · exact get_renT

theorem lvT_get {N : Nat} {T : Bool} : ∀ {tm : TM} {s : Nat}, lvT N T tm = true → lvB N T (get tm s) = true
  | [], _, _ => rfl
  | (d, x) :: r, s, h => by
    simp only [lvT, Bool.and_eq_true] at h
    simp only [get]
    split
    · exact h.1
    · exact lvT_get h.2

theorem TmOk.ren {β β' : Env} {ρ σ : Nat → Nat} {N : Nat} {T : Bool} (h : Tr β β' ρ σ N T) {n : Nat} {tm : TM} {tmps : Array Value} (hl : lvT N T tm = true) (ht : TmOk β n (renT ρ tm) tmps) : TmOk β' n (renT σ tm) tmps :=
  ⟨ht.1, fun s => by rw [get_renT]; exact Den.ren h (lvT_get hl) (by rw [← get_renT]; exact ht.2 s)⟩

theorem renT_id : ∀ tm : TM, renT (fun l => l) tm = tm
  | [] => rfl
  | (d, x) :: r => by simp only [renT, ren_id, renT_id r]

def renE (ρ : Nat → Nat) : List (AV × AV) → List (AV × AV)
  | [] => []
  | (a, b) :: r => (ren ρ a, ren ρ b) :: renE ρ r

def lvE (N : Nat) (T : Bool) : List (AV × AV) → Bool
  | [] => true
  | (a, b) :: r => lvB N T a && (lvB N T b && lvE N T r)

def renCt (ρ : Nat → Nat) : Ct → Ct
  | .lit cs => .lit (renL ρ cs)
  | .num k xs => .num k xs
  | .rows w rs => .rows w (renR ρ rs)
  | .loop st pend fn n tm ps a b df => .loop st pend fn n (renT ρ tm) ps a b (ρ df)
  | .defs => .defs
  | .map es => .map (renE ρ es)

def lvCt (N : Nat) (T : Bool) : Ct → Bool
  | .lit cs => lvL N T cs
  | .num _ _ => true
  | .rows _ rs => lvR N T rs
  | .loop _ _ _ _ tm _ _ _ df => lvT N T tm && decide (df < N)
  | .defs => true
  | .map es => lvE N T es

theorem renCt_cell (ρ : Nat → Nat) (c : Ct) : (renCt ρ c).cell = c.cell := by cases c <;> rfl

theorem EsDen.ren {β β' : Env} {ρ σ : Nat → Nat} {N : Nat} {T : Bool} (h : Tr β β' ρ σ N T) : ∀ {xs : List (AV × AV)} {es : List MapEntry}, lvE N T xs = true → EsDen β (renE ρ xs) es → EsDen β' (renE σ xs) es
  | [], _, _, hd => hd
  | (a, b) :: r, _, hl, hd => by
    simp only [lvE, Bool.and_eq_true] at hl
    obtain ⟨e, q, he, h1, h2, h3⟩ := hd
    exact ⟨e, q, he, h1.ren h hl.1, h2.ren h hl.2.1, EsDen.ren h hl.2.2 h3⟩

theorem CsDen.ren {β β' : Env} {ρ σ : Nat → Nat} {N : Nat} {T : Bool} (h : Tr β β' ρ σ N T) {c : Ct} {ys : List Value} (hl : lvCt N T c = true) (hd : CsDen β (renCt ρ c) ys) : CsDen β' (renCt σ c) ys := by
  cases c with
  | lit cs => exact DenC.ren h hl hd
  | num k xs => exact hd
  | rows w rs => exact DenR.ren h hl hd
  | _ => exact hd.elim

theorem ObDen.ren {β β' : Env} {ρ σ : Nat → Nat} {N : Nat} {T : Bool} (h : Tr β β' ρ σ N T) (hck : β'.ck = β.ck) {c : Ct} {o : Obj} (hl : lvCt N T c = true) (hd : ObDen β (renCt ρ c) o) : ObDen β' (renCt σ c) o := by
  cases c with
  | loop st pend fn n tm ps a b df =>
    simp only [lvCt, Bool.and_eq_true, decide_eq_true_eq] at hl
    obtain ⟨tmps, b', s, e, h1, h2, h3⟩ := hd
    exact ⟨tmps, b', s, e, h1.ren h hl.1, h.b _ _ hl.2 h2, by rw [hck]; exact h3⟩
  | defs => exact hd
  | map es =>
    obtain ⟨ms, c, e, h1⟩ := hd
    exact ⟨ms, c, e, h1.ren h hl⟩
  | _ => exact hd.elim

theorem spk_ren (ρ : Nat → Nat) (c : Ct) : spk (renCt ρ c) = spk c := by cases c <;> rfl
theorem spz_ren (ρ : Nat → Nat) (c : Ct) : spz (renCt ρ c) = spz c := by cases c <;> rfl
theorem CtIn.ren {β β' : Env} {ρ σ : Nat → Nat} {N : Nat} {T : Bool} (h : Tr β β' ρ σ N T) (hck : β'.ck = β.ck) {w : World} {base : Option (Nat × Nat)} {c : Ct} (hl : lvCt N T c = true) (hd : CtIn β w base (renCt ρ c)) : CtIn β' w base (renCt σ c) := by
  unfold CtIn at *
  cases base with
  | none => exact CsDen.ren h hl hd
  | some p =>
    obtain ⟨b, s⟩ := p
    simp only [renCt_cell] at hd ⊢
    rcases hd with ⟨h1, ys, sp, T', fz, h2, h3, h4, h5⟩ | ⟨h1, o, h2, h3⟩
    · exact .inl ⟨h1, ys, sp, T', fz, h2, h3, h4.ren h hl, by rw [spk_ren, spz_ren] at h5 ⊢; exact h5⟩
    · exact .inr ⟨h1, o, h2, h3.ren h hck hl⟩

end Go.SY
