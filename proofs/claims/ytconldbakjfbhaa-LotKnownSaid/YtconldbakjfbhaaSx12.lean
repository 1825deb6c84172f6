/-
  The symbolic machine: a contract over few blocks serves where there are more.
-/
import Derived.Test.YtconldbakjfbhaaSx11
set_option linter.unusedSimpArgs false
set_option linter.unusedVariables false
namespace Go.SX
open Go

def newOwnB : Nat → Bls → Bool
  | _, [] => true
  | n, b :: r => if n = 0 then (match b with
      | some B => B.own
      | none => true) && newOwnB 0 r else newOwnB (n - 1) r

theorem newOwn_of : ∀ {n : Nat} {bl : Bls}, newOwnB n bl = true → NewOwn n bl
  | _, [], _ => fun l B _ h => by simp at h
  | 0, b :: r, h => fun l B _ hl => by
    simp only [newOwnB, if_true, Bool.and_eq_true] at h
    cases l with
    | zero =>
      simp only [List.getElem?_cons_zero, Option.some.injEq] at hl
      subst hl; exact h.1
    | succ l => exact newOwn_of (n := 0) h.2 l B (Nat.zero_le _) (by simpa using hl)
  | n + 1, b :: r, h => fun l B hn hl => by
    simp only [newOwnB, Nat.add_eq_zero_iff, Nat.one_ne_zero, and_false, if_false, Nat.add_sub_cancel] at h
    obtain ⟨l, rfl⟩ : ∃ l', l = l' + 1 := ⟨l - 1, by omega⟩
    exact newOwn_of h l B (by omega) (by simpa using hl)

/-- A window: a level of the caller's, from cell o on; may the callee write it? -/
structure Win where
  l : Nat
  o : Nat
  w : Nat
  own : Bool

/-- The callee's levels by the caller's names: its first ones through windows, the others behind the caller's own. -/
def wname (σ : List Win) (base : Nat) (l : Nat) : Win :=
  match nth σ l with
  | some W => W
  | none => ⟨base + (l - σ.length), 0, 0, true⟩

def rn1 (σ : List Win) (base : Nat) : AV → AV
  | .ptr l i w k => let W := wname σ base l
    if W.o = 0 then .ptr W.l i w k else if w = W.w then .ptr W.l (W.o + i) w k else .any
  | .sl l i w n c => let W := wname σ base l
    if W.o = 0 then .sl W.l i w n c else if w = W.w then .sl W.l (W.o + i) w n c else .any
  | .v x => .v x
  | .nil => .nil
  | .ch n xs => .ch n xs
  | _ => .any

def rnc (σ : List Win) (base : Nat) : AV → AV
  | .fn f xs ys => .fn f (xs.map (rn1 σ base)) (ys.map (rn1 σ base))
  | x => rn1 σ base x

def rnr (σ : List Win) (base : Nat) : AV → AV
  | .agg xs => .agg (xs.map (rnc σ base))
  | x => rnc σ base x

def rn (σ : List Win) (base : Nat) : AV → AV
  | .tup xs => .tup (xs.map (rnr σ base))
  | x => rnr σ base x

def rnCt (σ : List Win) (base : Nat) : Ct → Ct
  | .lit cs => .lit (cs.map (rnc σ base))
  | c => c

def ok1 (σ : List Win) : AV → Bool
  | .ptr l _ w _ => (match nth σ l with
    | some W => if W.o = 0 then true else decide (w = W.w)
    | none => false)
  | .sl l _ w _ _ => (match nth σ l with
    | some W => if W.o = 0 then true else decide (w = W.w)
    | none => false)
  | .v _ => true
  | .nil => true
  | .ch _ _ => true
  | .any => true
  | _ => false

def okL (σ : List Win) : List AV → Bool
  | [] => true
  | x :: xs => if ok1 σ x = true then okL σ xs else false

def okc (σ : List Win) : AV → Bool
  | .fn _ xs ys => okL σ xs && okL σ ys
  | x => ok1 σ x

def okCs (σ : List Win) : List AV → Bool
  | [] => true
  | x :: xs => if okc σ x = true then okCs σ xs else false

def okr (σ : List Win) : AV → Bool
  | .agg xs => okCs σ xs
  | x => okc σ x

def okArgs (σ : List Win) : List AV → Bool
  | [] => true
  | x :: xs => if okr σ x = true then okArgs σ xs else false

def okCt (σ : List Win) : Ct → Bool
  | .lit cs => okCs σ cs
  | _ => true

/-- How the callee's first levels look behind the call, laid back. -/
def back (σ : List Win) (base : Nat) : List Win → Bls → Bls → Bls
  | [], _, bl => bl
  | _ :: _, [], bl => bl
  | W :: ws, b :: bs, bl => back σ base ws bs (if W.own = true then setl bl W.l (match b with
      | some B => some ⟨B.own, B.ty, rnCt σ base B.ct⟩
      | none => none) else bl)

def rnNew (σ : List Win) (base : Nat) : Bls → Bls
  | [] => []
  | b :: bs => (match b with
      | some B => some ⟨B.own, B.ty, rnCt σ base B.ct⟩
      | none => none) :: rnNew σ base bs

/-- The caller's blocks behind the call. -/
def after (σ : List Win) (bl bl0' : Bls) : Bls := back σ bl.length σ bl0' bl ++ rnNew σ bl.length (bl0'.drop σ.length)

/-- What a window shows. -/
def Shows (B : Blk) (W : Win) (c0 : Ct) : Prop :=
  ∀ β ys, CtDen β B.ct ys → ∃ zs us, ys.drop (W.o * W.w) = zs ++ us ∧ CtDen β c0 zs

/-- The caller's level fits what the callee asks of it. -/
def Fits (σ : List Win) (bl : Bls) (W : Win) (b : Option Blk) : Prop :=
  match b with
  | none => False
  | some B0 => okCt σ B0.ct = true ∧ ∃ B, lvl bl W.l = some B ∧
      if B0.own = true then W.own = true ∧ W.o = 0 ∧ B.own = true ∧ B.ty = B0.ty ∧ B.ct = rnCt σ bl.length B0.ct
      else W.own = false ∧ Shows B W (rnCt σ bl.length B0.ct)

def FitsL (σ0 : List Win) (bl : Bls) : List Win → Bls → Prop
  | [], [] => True
  | W :: ws, b :: bs => Fits σ0 bl W b ∧ FitsL σ0 bl ws bs
  | _, _ => False

/-- What is written is named once. -/
def apartB : List Win → Bool
  | [] => true
  | W :: ws => (ws.all fun V => if W.own || V.own then decide (W.l ≠ V.l) else true) && apartB ws

section
variable {P : Program}

def envOf (σ : List Win) (β : Env) : Env := σ.map fun W => ((β[W.l]?).getD none).map fun p => (p.1, p.2 + W.o * W.w)

theorem envOf_get {σ : List Win} {β : Env} {l : Nat} {b o : Nat} (h : (envOf σ β)[l]? = some (some (b, o))) :
    ∃ W o', σ[l]? = some W ∧ β[W.l]? = some (some (b, o')) ∧ o = o' + W.o * W.w := by
  simp only [envOf, List.getElem?_map, Option.map_eq_some_iff] at h
  obtain ⟨W, h1, h2⟩ := h
  cases hb : β[W.l]? with
  | none => simp [hb] at h2
  | some x =>
    cases x with
    | none => simp [hb] at h2
    | some p =>
      obtain ⟨b', o'⟩ := p
      simp only [hb, Option.getD_some, Option.map_some, Option.some.injEq, Prod.mk.injEq] at h2
      obtain ⟨q, rfl, rfl, rfl⟩ := h2
      exact ⟨W, o', h1, hb, rfl⟩

/-- β0: the callee's names at the end; β: the caller's. -/
structure Tie (σ : List Win) (base : Nat) (β0 β : Env) : Prop where
  old : ∀ (l : Nat) (W : Win) (b o : Nat), σ[l]? = some W → β0[l]? = some (some (b, o)) → ∃ o', β[W.l]? = some (some (b, o')) ∧ o = o' + W.o * W.w
  new : ∀ (l : Nat) (x : Option (Nat × Nat)), σ.length ≤ l → β0[l]? = some x → β[base + (l - σ.length)]? = some x

theorem Tie.at {σ : List Win} {base : Nat} {β0 β : Env} (h : Tie σ base β0 β) {l b o : Nat} (hl : β0[l]? = some (some (b, o))) :
    ∃ o', β[(wname σ base l).l]? = some (some (b, o')) ∧ o = o' + (wname σ base l).o * (wname σ base l).w := by
  unfold wname
  rw [nth_eq]
  cases hs : σ[l]? with
  | some W => exact h.old l W b o hs hl
  | none =>
    have : σ.length ≤ l := List.getElem?_eq_none_iff.1 hs
    exact ⟨o, h.new l _ this hl, by simp⟩

theorem den_rn1 {σ : List Win} {base : Nat} {β0 β : Env} (h : Tie σ base β0 β) {x : AV} {y : Value} (hd : Den β0 x y) : Den β (rn1 σ base x) y := by
  cases x with
  | ptr l i w k =>
    simp only [Den] at hd
    obtain ⟨b, o, hb, rfl⟩ := hd
    obtain ⟨o', h1, rfl⟩ := h.at hb
    simp only [rn1]
    split
    · rename_i h0
      simp only [Den]
      exact ⟨b, o', h1, by rw [h0]; simp⟩
    · split
      · rename_i hw
        simp only [Den]
        refine ⟨b, o', h1, ?_⟩
        rw [Nat.add_mul, ← hw]
        simp [Nat.add_assoc]
      · simp only [Den]
  | sl l i w n c =>
    simp only [Den] at hd
    obtain ⟨A, rfl, hn, hc⟩ := hd
    simp only [rn1]
    split
    · rename_i h0
      simp only [Den]
      refine ⟨A, rfl, hn, fun hne => ?_⟩
      obtain ⟨b, o, hb, rfl⟩ := hc hne
      obtain ⟨o', h1, rfl⟩ := h.at hb
      exact ⟨b, o', h1, by rw [h0]; simp⟩
    · split
      · rename_i hw
        simp only [Den]
        refine ⟨A, rfl, hn, fun hne => ?_⟩
        obtain ⟨b, o, hb, rfl⟩ := hc hne
        obtain ⟨o', h1, rfl⟩ := h.at hb
        refine ⟨b, o', h1, ?_⟩
        rw [Nat.add_mul, ← hw]
        simp [Nat.add_assoc]
      · simp only [Den]
  | v x => simpa only [rn1, Den] using hd
  | nil => simpa only [rn1, Den] using hd
  | ch n xs => simpa only [rn1, Den] using hd
  | _ => simp only [rn1, Den]

theorem denL_rn1 {σ : List Win} {base : Nat} {β0 β : Env} (h : Tie σ base β0 β) : ∀ {xs : List AV} {ys : List Value}, DenL β0 xs ys → DenL β (xs.map (rn1 σ base)) ys
  | [], _, hd => by simpa only [List.map_nil, DenL] using hd
  | x :: xs, _, hd => by
    simp only [DenL] at hd
    obtain ⟨y, zs, rfl, h1, h2⟩ := hd
    simp only [List.map_cons, DenL]
    exact ⟨y, zs, rfl, den_rn1 h h1, denL_rn1 h h2⟩

theorem cellDen_rnc {σ : List Win} {base : Nat} {β0 β : Env} (h : Tie σ base β0 β) {x : AV} {ps : List Value} (hd : CellDen β0 x ps) : CellDen β (rnc σ base x) ps := by
  have scal : ∀ x' : AV, x'.scal = true → CellDen β0 x' ps → (rn1 σ base x').scal = true ∨ rn1 σ base x' = .any → CellDen β (rn1 σ base x') ps := by
    intro x' hs hd hor
    obtain ⟨y, rfl, hy⟩ := den_of_cellDen hs hd
    rcases hor with hor | hor
    · exact cellDen_of_den hor (den_rn1 h hy)
    · rw [hor]; simp only [CellDen]; exact ⟨y, rfl, den_one hs hy⟩
  cases x with
  | ptr l i w k =>
    refine scal _ rfl hd ?_
    simp only [rn1]
    split
    · exact .inl rfl
    · split
      · exact .inl rfl
      · exact .inr rfl
  | sl l i w n c =>
    refine scal _ rfl hd ?_
    simp only [rn1]
    split
    · exact .inl rfl
    · split
      · exact .inl rfl
      · exact .inr rfl
  | fn f a b =>
    simp only [rnc]
    simp only [CellDen] at hd ⊢
    obtain ⟨y, rfl, xs, ys, rfl, h1, h2⟩ := hd
    exact ⟨_, rfl, xs, ys, rfl, denL_rn1 h h1, denL_rn1 h h2⟩
  | v x => simpa only [rnc, rn1, CellDen] using hd
  | nil => simpa only [rnc, rn1, CellDen] using hd
  | ch n xs => simpa only [rnc, rn1, CellDen] using hd
  | any => simpa only [rnc, rn1, CellDen] using hd
  | agg xs => simp only [CellDen] at hd
  | tup xs => simp only [CellDen] at hd

theorem denC_rnc {σ : List Win} {base : Nat} {β0 β : Env} (h : Tie σ base β0 β) : ∀ {xs : List AV} {ys : List Value}, DenC β0 xs ys → DenC β (xs.map (rnc σ base)) ys
  | [], _, hd => by simpa only [List.map_nil, DenC] using hd
  | x :: xs, _, hd => by
    simp only [DenC] at hd
    obtain ⟨ps, zs, rfl, h1, h2⟩ := hd
    simp only [List.map_cons, DenC]
    exact ⟨ps, zs, rfl, cellDen_rnc h h1, denC_rnc h h2⟩

theorem den_rnr {σ : List Win} {base : Nat} {β0 β : Env} (h : Tie σ base β0 β) {x : AV} {y : Value} (hd : Den β0 x y) : Den β (rnr σ base x) y := by
  cases x with
  | agg xs =>
    simp only [rnr]
    simp only [Den] at hd ⊢
    obtain ⟨ys, e, h1⟩ := hd
    exact ⟨ys, e, denC_rnc h h1⟩
  | fn f a b =>
    simp only [rnr, rnc]
    simp only [Den] at hd ⊢
    obtain ⟨xs, ys, e, h1, h2⟩ := hd
    exact ⟨xs, ys, e, denL_rn1 h h1, denL_rn1 h h2⟩
  | _ => exact den_rn1 h hd

theorem den_rn {σ : List Win} {base : Nat} {β0 β : Env} (h : Tie σ base β0 β) {x : AV} {y : Value} (hd : Den β0 x y) : Den β (rn σ base x) y := by
  cases x with
  | tup xs =>
    simp only [rn]
    simp only [Den] at hd ⊢
    obtain ⟨ys, e, h1⟩ := hd
    refine ⟨ys, e, ?_⟩
    clear e y
    induction xs generalizing ys with
    | nil => simpa only [List.map_nil, DenL] using h1
    | cons x xs ih =>
      simp only [DenL] at h1
      obtain ⟨y, zs, rfl, h2, h3⟩ := h1
      simp only [List.map_cons, DenL]
      exact ⟨y, zs, rfl, den_rnr h h2, ih zs h3⟩
  | _ => exact den_rnr h hd

theorem ctDen_rn {σ : List Win} {base : Nat} {β0 β : Env} (h : Tie σ base β0 β) {c : Ct} {ys : List Value} (hd : CtDen β0 c ys) : CtDen β (rnCt σ base c) ys := by
  cases c with
  | lit cs => exact denC_rnc h hd
  | num k xs => exact hd
  | arr w rs => exact hd


theorem wname_of {σ : List Win} {l : Nat} {W : Win} (h : nth σ l = some W) (base : Nat) : wname σ base l = W := by
  unfold wname; rw [h]

theorem envOf_at {σ : List Win} {β : Env} {l : Nat} {W : Win} (h : nth σ l = some W) {b o : Nat} (hb : β[W.l]? = some (some (b, o))) : (envOf σ β)[l]? = some (some (b, o + W.o * W.w)) := by
  rw [nth_eq] at h
  simp [envOf, h, hb]

theorem den_bk1 {σ : List Win} {base : Nat} {β : Env} {x : AV} {y : Value} (hok : ok1 σ x = true) (hd : Den β (rn1 σ base x) y) : Den (envOf σ β) x y := by
  cases x with
  | ptr l i w k =>
    simp only [ok1] at hok
    split at hok
    · rename_i W hW
      simp only [rn1, wname_of hW] at hd
      by_cases h0 : W.o = 0
      · rw [if_pos h0] at hd
        simp only [Den] at hd ⊢
        obtain ⟨b, o, hb, rfl⟩ := hd
        exact ⟨b, _, envOf_at hW hb, by rw [h0]; simp⟩
      · rw [if_neg h0] at hok hd
        have hw := of_decide_eq_true hok
        rw [if_pos hw] at hd
        simp only [Den] at hd ⊢
        obtain ⟨b, o, hb, rfl⟩ := hd
        refine ⟨b, _, envOf_at hW hb, ?_⟩
        rw [Nat.add_mul, hw]
        simp [Nat.add_assoc]
    · cases hok
  | sl l i w n c =>
    simp only [ok1] at hok
    split at hok
    · rename_i W hW
      simp only [rn1, wname_of hW] at hd
      by_cases h0 : W.o = 0
      · rw [if_pos h0] at hd
        simp only [Den] at hd ⊢
        obtain ⟨A, rfl, hn, hc⟩ := hd
        refine ⟨A, rfl, hn, fun hne => ?_⟩
        obtain ⟨b, o, hb, rfl⟩ := hc hne
        exact ⟨b, _, envOf_at hW hb, by rw [h0]; simp⟩
      · rw [if_neg h0] at hok hd
        have hw := of_decide_eq_true hok
        rw [if_pos hw] at hd
        simp only [Den] at hd ⊢
        obtain ⟨A, rfl, hn, hc⟩ := hd
        refine ⟨A, rfl, hn, fun hne => ?_⟩
        obtain ⟨b, o, hb, rfl⟩ := hc hne
        refine ⟨b, _, envOf_at hW hb, ?_⟩
        rw [Nat.add_mul, hw]
        simp [Nat.add_assoc]
    · cases hok
  | v x => simpa only [rn1, Den] using hd
  | nil => simpa only [rn1, Den] using hd
  | ch n xs => simpa only [rn1, Den] using hd
  | any => simp only [Den]
  | fn f a b => simp [ok1] at hok
  | agg xs => simp [ok1] at hok
  | tup xs => simp [ok1] at hok

theorem denL_bk1 {σ : List Win} {base : Nat} {β : Env} : ∀ {xs : List AV} {ys : List Value}, okL σ xs = true → DenL β (xs.map (rn1 σ base)) ys → DenL (envOf σ β) xs ys
  | [], _, _, hd => by simpa only [List.map_nil, DenL] using hd
  | x :: xs, _, hok, hd => by
    simp only [okL] at hok
    split at hok
    · rename_i h1
      simp only [List.map_cons, DenL] at hd ⊢
      obtain ⟨y, zs, rfl, h2, h3⟩ := hd
      exact ⟨y, zs, rfl, den_bk1 h1 h2, denL_bk1 hok h3⟩
    · cases hok

theorem cellDen_bk {σ : List Win} {base : Nat} {β : Env} {x : AV} {ps : List Value} (hok : okc σ x = true) (hd : CellDen β (rnc σ base x) ps) : CellDen (envOf σ β) x ps := by
  have scal : ∀ x' : AV, x'.scal = true → ok1 σ x' = true → (rn1 σ base x').scal = true → CellDen β (rn1 σ base x') ps → CellDen (envOf σ β) x' ps := by
    intro x' hs hok hs' hd
    obtain ⟨y, rfl, hy⟩ := den_of_cellDen hs' hd
    exact cellDen_of_den hs (den_bk1 hok hy)
  cases x with
  | ptr l i w k =>
    refine scal _ rfl hok ?_ hd
    simp only [okc, ok1] at hok
    split at hok
    · rename_i W hW
      simp only [rn1, wname_of hW]
      by_cases h0 : W.o = 0
      · rw [if_pos h0]; rfl
      · rw [if_neg h0] at hok ⊢
        rw [if_pos (of_decide_eq_true hok)]; rfl
    · cases hok
  | sl l i w n c =>
    refine scal _ rfl hok ?_ hd
    simp only [okc, ok1] at hok
    split at hok
    · rename_i W hW
      simp only [rn1, wname_of hW]
      by_cases h0 : W.o = 0
      · rw [if_pos h0]; rfl
      · rw [if_neg h0] at hok ⊢
        rw [if_pos (of_decide_eq_true hok)]; rfl
    · cases hok
  | fn f a b =>
    simp only [okc, Bool.and_eq_true] at hok
    simp only [rnc] at hd
    simp only [CellDen] at hd ⊢
    obtain ⟨y, rfl, xs, ys, rfl, h1, h2⟩ := hd
    exact ⟨_, rfl, xs, ys, rfl, denL_bk1 hok.1 h1, denL_bk1 hok.2 h2⟩
  | v x => simpa only [rnc, rn1, CellDen] using hd
  | nil => simpa only [rnc, rn1, CellDen] using hd
  | ch n xs => simpa only [rnc, rn1, CellDen] using hd
  | any => simpa only [rnc, rn1, CellDen] using hd
  | agg xs => simp [okc, ok1] at hok
  | tup xs => simp [okc, ok1] at hok

theorem denC_bk {σ : List Win} {base : Nat} {β : Env} : ∀ {xs : List AV} {ys : List Value}, okCs σ xs = true → DenC β (xs.map (rnc σ base)) ys → DenC (envOf σ β) xs ys
  | [], _, _, hd => by simpa only [List.map_nil, DenC] using hd
  | x :: xs, _, hok, hd => by
    simp only [okCs] at hok
    split at hok
    · rename_i h1
      simp only [List.map_cons, DenC] at hd ⊢
      obtain ⟨ps, zs, rfl, h2, h3⟩ := hd
      exact ⟨ps, zs, rfl, cellDen_bk h1 h2, denC_bk hok h3⟩
    · cases hok

theorem den_bk {σ : List Win} {base : Nat} {β : Env} {x : AV} {y : Value} (hok : okr σ x = true) (hd : Den β (rnr σ base x) y) : Den (envOf σ β) x y := by
  cases x with
  | agg xs =>
    simp only [okr] at hok
    simp only [rnr] at hd
    simp only [Den] at hd ⊢
    obtain ⟨ys, e, h1⟩ := hd
    exact ⟨ys, e, denC_bk hok h1⟩
  | fn f a b =>
    simp only [okr, okc, Bool.and_eq_true] at hok
    simp only [rnr, rnc] at hd
    simp only [Den] at hd ⊢
    obtain ⟨xs, ys, e, h1, h2⟩ := hd
    exact ⟨xs, ys, e, denL_bk1 hok.1 h1, denL_bk1 hok.2 h2⟩
  | _ => exact den_bk1 (base := base) hok hd

theorem denL_bk {σ : List Win} {base : Nat} {β : Env} : ∀ {xs : List AV} {ys : List Value}, okArgs σ xs = true → DenL β (xs.map (rnr σ base)) ys → DenL (envOf σ β) xs ys
  | [], _, _, hd => by simpa only [List.map_nil, DenL] using hd
  | x :: xs, _, hok, hd => by
    simp only [okArgs] at hok
    split at hok
    · rename_i h1
      simp only [List.map_cons, DenL] at hd ⊢
      obtain ⟨y, zs, rfl, h2, h3⟩ := hd
      exact ⟨y, zs, rfl, den_bk h1 h2, denL_bk hok h3⟩
    · cases hok

theorem ctDen_bk {σ : List Win} {base : Nat} {β : Env} {c : Ct} {ys : List Value} (hok : okCt σ c = true) (hd : CtDen β (rnCt σ base c) ys) : CtDen (envOf σ β) c ys := by
  cases c with
  | lit cs => exact denC_bk hok hd
  | num k xs => exact hd
  | arr w rs => exact hd

theorem fits_at {σ0 : List Win} {bl : Bls} : ∀ {σ : List Win} {bl0 : Bls}, FitsL σ0 bl σ bl0 → σ.length = bl0.length ∧ ∀ (l : Nat) (W : Win), σ[l]? = some W → ∃ b, bl0[l]? = some b ∧ Fits σ0 bl W b
  | [], [], _ => ⟨rfl, fun l W h => by simp at h⟩
  | [], _ :: _, h => h.elim
  | _ :: _, [], h => h.elim
  | W :: ws, b :: bs, h => by
    obtain ⟨h1, h2⟩ := fits_at h.2
    refine ⟨by simp [h1], fun l W' hl => ?_⟩
    cases l with
    | zero => simp at hl; subst hl; exact ⟨b, rfl, h.1⟩
    | succ l => simpa using h2 l W' (by simpa using hl)

theorem apart_at : ∀ {σ : List Win}, apartB σ = true → ∀ (l l' : Nat) (W V : Win), l ≠ l' → σ[l]? = some W → σ[l']? = some V → W.own = true ∨ V.own = true → W.l ≠ V.l
  | [], _, l, _, W, _, _, h, _, _ => by simp at h
  | U :: us, h, l, l', W, V, hne, h1, h2, ho => by
    simp only [apartB, Bool.and_eq_true, List.all_eq_true] at h
    obtain ⟨ha, hb⟩ := h
    have head : ∀ X : Win, X ∈ us → U.own = true ∨ X.own = true → U.l ≠ X.l := by
      intro X hX ho
      have := ha X hX
      rw [if_pos (by rcases ho with ho | ho <;> simp [ho])] at this
      exact of_decide_eq_true this
    cases l with
    | zero =>
      cases l' with
      | zero => exact absurd rfl hne
      | succ l' =>
        simp at h1 h2; subst h1
        exact head V (List.mem_of_getElem? h2) ho
    | succ l =>
      cases l' with
      | zero =>
        simp at h1 h2; subst h2
        exact fun e => head W (List.mem_of_getElem? h1) ho.symm e.symm
      | succ l' => exact apart_at hb l l' W V (by omega) (by simpa using h1) (by simpa using h2) ho

end

end Go.SX
