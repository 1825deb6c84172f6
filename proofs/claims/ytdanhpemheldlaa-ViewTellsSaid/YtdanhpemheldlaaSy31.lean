/-
  The symbolic machine: what memory tells that the state does not.
-/
import Derived.Test.YtdanhpemheldlaaSy30
set_option linter.unusedSimpArgs false
set_option linter.unusedVariables false
namespace Go.SY
open Go

def hdPlain : List SI → Bool
  | .dr _ _ _ _ :: _ => false
  | .ops _ _ (some _) :: _ => false
  | _ => true

theorem todo_tm {P : Program} {β : Env} {bl : Bls} {pr : Option (List Nat)} {fn : FuncId} {n : Nat} {tm tm' : TM} {k : List SI} {tmps : Array Value} {t : List Item} (hk : hdPlain k = true) (h : TodoR P β bl pr fn n tm k tmps t) :
    TmOk β n tm tmps ∧ (TmOk β n tm' tmps → TodoR P β bl pr fn n tm' k tmps t) := by
  cases k with
  | nil => exact ⟨h.1, fun h' => ⟨h', h.2⟩⟩
  | cons x k =>
    cases x with
    | dr all p A g => simp [hdPlain] at hk
    | ops all os g =>
      cases g with
      | some b => simp [hdPlain] at hk
      | none => exact ⟨h.1, fun h' => ⟨h', h.2.1, fun b hb => by cases hb⟩⟩
    | _ => exact ⟨h.1, fun h' => ⟨h', h.2⟩⟩

/-- What a slot's value has is known of it. -/
theorem Rch.know {P : Program} {pl : FuncId → Nat → Option Plan} {C : Ctx} {S : AV → Bls → Prop} {α : Type} {fn : FuncId} {n : Nat} {tm : TM} {k : List SI} {rd : Option Nat} {ms lk : List Nat} {fs : List Fr} {bl : Bls} (s : Nat) (x : α → AV) (p : α → Prop)
    (hx : ∀ (β : Env) v, Den β (get tm s) v → ∃ a, p a ∧ Den β (x a) v) (hk : hdPlain k = true)
    (h : ∀ a, p a → Rch P pl C ⟨⟨fn, n, (s, x a) :: tm, k, rd, ms, lk⟩ :: fs, bl⟩ S) : Rch P pl C ⟨⟨fn, n, tm, k, rd, ms, lk⟩ :: fs, bl⟩ S := by
  rintro β m ⟨⟨f, fs0, fr, ts, w, e, rfl, h1, h2, h3⟩, h4, h5⟩
  simp only [List.cons.injEq] at e
  obtain ⟨rfl, rfl⟩ := e
  obtain ⟨tmps, ds, t, ro, rfl, g1, g2, g3⟩ := h1
  simp only at g1 g2 g3 h2
  have ht := (todo_tm (tm' := tm) hk g3).1
  obtain ⟨a, ha, hd⟩ := hx β _ (ht.2 s)
  have ht' : TmOk β n ((s, x a) :: tm) tmps := ⟨ht.1, fun s' => by
    simp only [get]
    split
    · rename_i e; subst e; exact hd
    · exact ht.2 s'⟩
  exact h a ha β _ ⟨⟨_, _, _, ts, w, rfl, rfl, ⟨tmps, ds, t, ro, rfl, g1, g2, (todo_tm hk g3).2 ht'⟩, h2, h3⟩, Bot.same h4 rfl, h5⟩

/-- A slice has some capacity. -/
theorem Rch.cap {P : Program} {pl : FuncId → Nat → Option Plan} {C : Ctx} {S : AV → Bls → Prop} {fn : FuncId} {n : Nat} {tm : TM} {k : List SI} {rd : Option Nat} {ms lk : List Nat} {fs : List Fr} {bl : Bls} (s : Nat) {l i w nn : Nat} (hs : get tm s = .sl l i w nn none) (hk : hdPlain k = true)
    (h : ∀ q, nn ≤ q → q < 9223372036854775808 → Rch P pl C ⟨⟨fn, n, (s, .sl l i w nn (some q)) :: tm, k, rd, ms, lk⟩ :: fs, bl⟩ S) : Rch P pl C ⟨⟨fn, n, tm, k, rd, ms, lk⟩ :: fs, bl⟩ S :=
  Rch.know s (fun q : Nat => .sl l i w nn (some q)) (fun q => nn ≤ q ∧ q < 9223372036854775808) (fun β v hd => by
    rw [hs] at hd
    simp only [Den] at hd ⊢
    obtain ⟨A, q, e, h1, h2, -, h4⟩ := hd
    exact ⟨q, ⟨h1, h2⟩, A, q, e, h1, h2, fun m hm => Option.some.inj hm, h4⟩) hk fun q hq => h q hq.1 hq.2

/-- A number is in its kind's range. -/
theorem Rch.range {P : Program} {pl : FuncId → Nat → Option Plan} {C : Ctx} {S : AV → Bls → Prop} {fn : FuncId} {n : Nat} {tm : TM} {k : List SI} {rd : Option Nat} {ms lk : List Nat} {fs : List Fr} {bl : Bls} (s : Nat) {kk : IntKind} {z : Int} (hs : get tm s = .v (.int kk z)) (hk : hdPlain k = true)
    (h : inK kk z = true → Rch P pl C ⟨⟨fn, n, (s, .v (.int kk z)) :: tm, k, rd, ms, lk⟩ :: fs, bl⟩ S) : Rch P pl C ⟨⟨fn, n, tm, k, rd, ms, lk⟩ :: fs, bl⟩ S :=
  Rch.know s (fun _ : Unit => .v (.int kk z)) (fun _ => inK kk z = true) (fun β v hd => by
    rw [hs] at hd
    exact ⟨(), (den_int hd).2, hd⟩) hk fun _ hq => h hq

/-- A slice is no longer than numbers go. -/
theorem Rch.len {P : Program} {pl : FuncId → Nat → Option Plan} {C : Ctx} {S : AV → Bls → Prop} {fn : FuncId} {n : Nat} {tm : TM} {k : List SI} {rd : Option Nat} {ms lk : List Nat} {fs : List Fr} {bl : Bls} (s : Nat) {t : Bool} {kk : IntKind} {xs : List Int} {c : Option Nat} (hs : get tm s = .imn t kk xs c) (hk : hdPlain k = true)
    (h : xs.length < 9223372036854775808 → okN kk xs → Rch P pl C ⟨⟨fn, n, (s, .imn t kk xs c) :: tm, k, rd, ms, lk⟩ :: fs, bl⟩ S) : Rch P pl C ⟨⟨fn, n, tm, k, rd, ms, lk⟩ :: fs, bl⟩ S :=
  Rch.know s (fun _ : Unit => .imn t kk xs c) (fun _ => xs.length < 9223372036854775808 ∧ okN kk xs) (fun β v hd => by
    rw [hs] at hd
    have hd' := hd
    simp only [Den] at hd'
    obtain ⟨A, q, e, h1, h2, -, h4, -⟩ := hd'
    exact ⟨(), ⟨by omega, h4⟩, hd⟩) hk fun _ hq => h hq.1 hq.2

end Go.SY
