/- A symbolic machine: words for what is less known; nil slices as slices of nothing; rows that are one slice of bytes. -/
import Derived.Test.YtdoeopcimhpjaaaSy45
import Derived.Test.YtdoeopcimhpjaaaSy46
set_option linter.unusedSimpArgs false
set_option linter.unusedVariables false
namespace Go.SY
open Go
theorem Rch.tms {P : Program} {pl : FuncId → Nat → Option Plan} {C : Ctx} {S : AV → Bls → Prop} {fn : FuncId} {n : Nat} {tm tm' : TM} {k : List SI} {rd : Option Nat} {ms lk : List Nat} {fs : List Fr} {bl : Bls}
    (hx : ∀ (β : Env) s v, Den β (get tm s) v → Den β (get tm' s) v) (hk : hdPlain k = true)
    (h : Rch P pl C ⟨⟨fn, n, tm', k, rd, ms, lk⟩ :: fs, bl⟩ S) : Rch P pl C ⟨⟨fn, n, tm, k, rd, ms, lk⟩ :: fs, bl⟩ S := by
  rintro β m ⟨⟨f, fs0, fr, ts, w, e, rfl, h1, h2, h3⟩, h4, h5⟩
  simp only [List.cons.injEq] at e
  obtain ⟨rfl, rfl⟩ := e
  obtain ⟨tmps, ds, t, ro, rfl, g1, g2, g3⟩ := h1
  simp only at g1 g2 g3 h2
  have ht := (todo_tm (tm' := tm) hk g3).1
  have ht' : TmOk β n tm' tmps := ⟨ht.1, fun s' => hx β s' _ (ht.2 s')⟩
  exact h β _ ⟨⟨_, _, _, ts, w, rfl, rfl, ⟨tmps, ds, t, ro, rfl, g1, g2, (todo_tm hk g3).2 ht'⟩, h2, h3⟩, Bot.same h4 rfl, h5⟩
def mapI (φ : Nat → AV → AV) : Nat → List AV → List AV
  | _, [] => []
  | i, x :: r => φ i x :: mapI φ (i + 1) r
theorem mapI_len {φ : Nat → AV → AV} : ∀ {i : Nat} {xs : List AV}, (mapI φ i xs).length = xs.length
  | _, [] => rfl
  | _, _ :: _ => by simp [mapI, mapI_len]
theorem get_mapI {φ : Nat → AV → AV} {β : Env} (hφ : ∀ i x v, Den β x v → Den β (φ i x) v) {s : Nat} {v : Value} : ∀ {i : Nat} {xs : List AV}, Den β (get (ini i xs) s) v → Den β (get (ini i (mapI φ i xs)) s) v
  | _, [], h => h
  | i, x :: xs, h => by
    simp only [mapI, ini, get] at h ⊢
    split
    · rename_i e
      rw [if_pos e] at h
      exact hφ _ _ _ h
    · rename_i e
      rw [if_neg e] at h
      exact get_mapI hφ h
/-- A word holds of what is less known of its inputs. -/
theorem SpecOk.weak {P : Program} {pl : FuncId → Nat → Option Plan} {g : FuncId} {spec : List AV → Option (Bool × AV × Bls)} (h : SpecOk P pl g spec) (φ : Nat → AV → AV) (hφ : ∀ β i x v, Den β x v → Den β (φ i x) v) : SpecOk P pl g (fun args => spec (mapI φ 0 args)) := by
  obtain ⟨F, hF, h2⟩ := h
  refine ⟨F, hF, fun args r bl1 e => ?_⟩
  obtain ⟨h3, h4⟩ := h2 _ r bl1 e
  rw [mapI_len] at h3
  exact ⟨h3, fun C hC hb => Rch.tms (fun β s v hd => get_mapI (hφ β) hd) rfl (h4 C hC hb)⟩
def nilN (k : IntKind) : AV → AV
  | .nil => .imn false k [] none
  | x => x
def nilR (w : Nat) : AV → AV
  | .nil => .imr false w [] none
  | x => x
theorem nilN_den {β : Env} (k : IntKind) {x : AV} {v : Value} (h : Den β x v) : Den β (nilN k x) v := by
  unfold nilN
  split
  · simp only [Den] at h ⊢
    exact ⟨none, 0, h, Nat.le_refl _, by decide, (fun m hm => by cases hm), (fun z hz => by simp at hz), fun h => absurd rfl h⟩
  · exact h
theorem nilR_den {β : Env} (w : Nat) {x : AV} {v : Value} (h : Den β x v) : Den β (nilR w x) v := by
  unfold nilR
  split
  · simp only [Den] at h ⊢
    exact ⟨none, 0, [], h, Nat.le_refl _, by decide, (fun m hm => by cases hm), (by simp only [DenR]), fun h => absurd rfl h⟩
  · exact h
/-- A row that is one slice of bytes. -/
def isB : List AV → Bool
  | [.imn false .u8 _ _] => true
  | _ => false
def byR : List AV → List Int
  | [.imn false .u8 xs _] => xs
  | _ => []
def kpR : List AV → Option Nat
  | [.imn false .u8 _ c] => c
  | _ => none
theorem isB_eq {r : List AV} (h : isB r = true) : r = [.imn false .u8 (byR r) (kpR r)] := by
  unfold isB at h
  split at h
  · rfl
  · cases h
theorem isB_flat {rs : List (List AV)} (h : rs.all isB = true) : FlatR rs := FlatR.of fun r hr => by
  rw [isB_eq (List.all_eq_true.1 h r hr)]
  rfl
def byA (rs : List (List AV)) (i : Nat) : List Int := byR (rs[i]?.getD [])
def kpA (rs : List (List AV)) (i : Nat) : Option Nat := kpR (rs[i]?.getD [])
theorem isB_row {rs : List (List AV)} (h : rs.all isB = true) {i : Nat} (hi : i < rs.length) : rs[i]?.getD [] = [.imn false .u8 (byA rs i) (kpA rs i)] := by
  have : rs[i]?.getD [] = rs[i] := by rw [List.getElem?_eq_getElem hi]; rfl
  rw [byA, kpA, this]
  exact isB_eq (List.all_eq_true.1 h _ (List.getElem_mem hi))
/-- The bytes of rows. -/
def bys (rs : List (List AV)) : List (List Int) := rs.map byR
theorem bys_len {rs : List (List AV)} : (bys rs).length = rs.length := by simp [bys]
theorem bys_get {rs : List (List AV)} {i : Nat} (hi : i < rs.length) : (bys rs)[i]? = some (byA rs i) := by
  rw [bys, List.getElem?_map, byA, List.getElem?_eq_getElem hi]
  rfl
end Go.SY
