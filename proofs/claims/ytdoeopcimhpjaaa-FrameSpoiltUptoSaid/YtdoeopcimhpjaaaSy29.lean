/-
  The symbolic machine: loops.
-/
import Derived.Test.YtdoeopcimhpjaaaSy28
set_option linter.unusedSimpArgs false
set_option linter.unusedVariables false
namespace Go.SY
open Go

def plainSI : SI → Bool
  | .rf _ => false
  | .erf _ => false
  | .dr _ _ _ _ => false
  | .ops _ _ (some _) => false
  | _ => true

theorem plain_ren {ρ : Nat → Nat} {N : Nat} : ∀ {k : List SI}, k.all plainSI = true → k = k.map (renSI ρ) ∧ k.all (okSI N) = true
  | [], _ => ⟨rfl, rfl⟩
  | x :: k, h => by
    simp only [List.all_cons, Bool.and_eq_true] at h
    obtain ⟨h1, h2⟩ := plain_ren (ρ := ρ) (N := N) h.2
    have hx : renSI ρ x = x ∧ okSI N x = true := by
      cases x with
      | ops all os g => cases g with
        | none => exact ⟨rfl, rfl⟩
        | some b => simp [plainSI] at h
      | rf l => simp [plainSI] at h
      | erf l => simp [plainSI] at h
      | dr all p A g => simp [plainSI] at h
      | _ => exact ⟨rfl, rfl⟩
    refine ⟨?_, ?_⟩
    · simp only [List.map_cons, hx.1, ← h1]
    · simp only [List.all_cons, hx.2, h2, Bool.and_self]

/-- One frame, under other names, its slots told anew. -/
theorem Rch.fit1 {P : Program} {pl : FuncId → Nat → Option Plan} {C : Ctx} (hC : C.β.b = []) {S : AV → Bls → Prop} {fn : FuncId} {n : Nat} {tm tm' : TM} {k : List SI} {bl bl' : Bls} (R : List Nat) (hp : k.all plainSI = true) (hn : R.Nodup) (hl : R.length = bl'.length)
    (ht : fitT (nm R) tm tm') (hlt : lvT bl'.length true tm' = true) (hb : FitB (nm R) bl'.length bl 0 bl') (h : Rch P pl C ⟨[⟨fn, n, tm', k, none, [], []⟩], bl'⟩ S) : Rch P pl C ⟨[⟨fn, n, tm, k, none, [], []⟩], bl⟩ S := by
  refine Rch.fit hC R ⟨hn, hl, ?_, hb⟩ h
  obtain ⟨h1, h2⟩ := plain_ren (ρ := nm R) (N := bl'.length) hp
  exact ⟨_, [], rfl, ⟨rfl, rfl, ht, hlt, h1, h2, rfl, (fun l h => by cases h), rfl, rfl, rfl, rfl⟩, rfl⟩

/-- A loop, by what gets less. -/
theorem loop_ind {P : Program} {pl : FuncId → Nat → Option Plan} (hpl : PlOk P pl) {C : Ctx} {α : Type} (m : α → Nat) (tm : α → TM) (bl : α → Bls) (S : α → AV → Bls → Prop) {fn : FuncId} {n : Nat} {body : Code} {k : List SI} {rd : Option Nat} {ms lk : List Nat} {fs : List Fr}
    (step : ∀ a, (∀ a', m a' < m a → Rch P pl C ⟨⟨fn, n, tm a', .lp body :: k, rd, ms, lk⟩ :: fs, bl a'⟩ (S a')) → Rch P pl C ⟨⟨fn, n, tm a, .code body :: .lp body :: k, rd, ms, lk⟩ :: fs, bl a⟩ (S a)) :
    ∀ a, Rch P pl C ⟨⟨fn, n, tm a, .code body :: .lp body :: k, rd, ms, lk⟩ :: fs, bl a⟩ (S a) := by
  have key : ∀ (N : Nat) (a : α), m a < N → Rch P pl C ⟨⟨fn, n, tm a, .code body :: .lp body :: k, rd, ms, lk⟩ :: fs, bl a⟩ (S a) := by
    intro N
    induction N with
    | zero => intro a h; exact absurd h (Nat.not_lt_zero _)
    | succ N ih => intro a h; exact step a fun a' h' => Rch.round hpl (ih a' (by omega))
  exact fun a => key (m a + 1) a (Nat.lt_succ_self _)

/-- A word that holds of every end. -/
theorem Rch.mono {P : Program} {pl : FuncId → Nat → Option Plan} {C : Ctx} {S S' : AV → Bls → Prop} {c : Conf} (h : Rch P pl C c S) (hs : ∀ r bl, S r bl → S' r bl) : Rch P pl C c S' := fun β m hm => by
  obtain ⟨v, fr, β', r, bl', w', h1, h2, h3, h4, h5, h6⟩ := h β m hm
  exact ⟨v, fr, β', r, bl', w', h1, h2, h3, h4, h5, hs _ _ h6⟩

/-- A plain number is no level's. -/
theorem Res.val (x : Value) (bl : Bls) : Res (.v x) [] (.v x) bl := ⟨[], List.nodup_nil, rfl, rfl, fun l c h => by simp at h⟩

/-- A closed function's word, its result free of levels. -/
def runV (P : Program) (K : KT) (T : Pls) (n : Nat) (f : FuncId) : Option AV := match fi P f with
  | some F => (match runQ P K (plOf T) n (conf0 f F [] []) with
    | some (r, _) => some r
    | none => none)
  | none => none

theorem spec_val {P : Program} {T : Pls} {K : KT} (hpl : PlOk P (plOf T)) (hK : KOk P (plOf T) K) {g : FuncId} {n : Nat} {r : AV} (hr : runV P K T n g = some r) (he : r = ren (nm []) r) :
    SpecOk P (plOf T) g (fun args => match args with
      | [] => some (true, r, [])
      | _ => none) := by
  unfold runV at hr
  split at hr
  · rename_i F hF
    split at hr
    · rename_i r' bl' e
      obtain rfl := Option.some.inj hr
      refine ⟨F, hF, fun args r0 bl0 h => ?_⟩
      dsimp only at h
      split at h
      · simp only [Option.some.injEq, Prod.mk.injEq, true_and] at h
        obtain ⟨rfl, rfl⟩ := h
        rw [runQ_eq] at e
        exact ⟨Nat.zero_le _, fun C _ _ => runK_ok hpl hK ⟨[], List.nodup_nil, rfl, he, fun l c h => by simp at h⟩ e⟩
      · cases h
    · cases hr
  · cases hr

end Go.SY
