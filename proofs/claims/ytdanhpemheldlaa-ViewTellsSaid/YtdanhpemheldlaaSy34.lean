/-
  The symbolic machine: regions of which two effects may be drawn in either order; runs that go both ways.
-/
import Derived.Test.YtdanhpemheldlaaSy33
set_option linter.unusedSimpArgs false
set_option linter.unusedVariables false
namespace Go.SY
open Go Go.RowKit
/-- Plans of a region: of two that no edge orders, the first ahead; or the second ahead. -/
inductive PT where
  | leaf (p : Plan)
  | br (a b : Nat) (l r : PT)
def okPT (P : Program) (all : Array Oper) : Pairs → PT → Bool
  | X, .leaf p => ordXB P X all p
  | X, .br a b l r => !Nat.beq a b && (decide (a < all.size) && (decide (b < all.size) && (okPT P all ((a, b) :: X) l && okPT P all ((b, a) :: X) r)))
def leaves : PT → List Plan
  | .leaf p => [p]
  | .br _ _ l r => leaves l ++ leaves r

theorem pick_plan {P : Program} {all : Array Oper} {L : List Nat} : ∀ {t : PT} {X : Pairs}, okPT P all X t = true → Sched X all (Array.replicate all.size false) L → ∃ p ∈ leaves t, ∃ X', OrdX P X' all p ∧ Sched X' all (Array.replicate all.size false) L
  | .leaf p, X, h, hs => ⟨p, by simp [leaves], X, ordXB_ok h, hs⟩
  | .br a b l r, X, h, hs => by
    simp only [okPT, Bool.and_eq_true, Bool.not_eq_true', decide_eq_true_eq] at h
    obtain ⟨h1, h2, h3, h4, h5⟩ := h
    have hab : a ≠ b := fun e => by subst e; simp at h1
    rcases hs.either hab (by simp) (by simp [h2]) (by simp [h3]) with g | g
    · obtain ⟨p, hp, q⟩ := pick_plan h4 g
      exact ⟨p, List.mem_append_left _ hp, q⟩
    · obtain ⟨p, hp, q⟩ := pick_plan h5 g
      exact ⟨p, List.mem_append_right _ hp, q⟩

section
variable {P : Program} {pl : FuncId → Nat → Option Plan} {C : Ctx} {S : AV → Bls → Prop} {fn : FuncId} {n : Nat} {tm : TM} {k : List SI} {rd : Option Nat} {ms lk : List Nat} {fs : List Fr} {bl : Bls}
/-- A region with several plans. -/
theorem Rch.alts (hpl : PlOk P pl) {id : Nat} {all : Array Oper} {t : PT} (ht : okPT P all [] t = true) (h : ∀ p ∈ leaves t, Rch P pl C ⟨⟨fn, n, tm, .dr all p [] none :: k, rd, ms, lk⟩ :: fs, bl⟩ S) :
    Rch P pl C ⟨⟨fn, n, tm, .code (.region id all true) :: k, rd, ms, lk⟩ :: fs, bl⟩ S := by
  rintro β m ⟨⟨f, fs', fr, ts, w, e, rfl, h1, h2, h3⟩, h4, h5⟩
  simp only [List.cons.injEq] at e
  obtain ⟨rfl, rfl⟩ := e
  obtain ⟨tmps, ds, y, t0, ro, rfl, g1, g2, g3, ⟨rfl, hc⟩, g5⟩ := h1.plain (by simp) (by simp)
  have hs : ∀ all : Array Oper, Region.schedule (P.follows .mixedOrders) all = Region.linearise .any all := fun all => by funext t; simp [Region.schedule, hpl.mix]
  have hext := Ext.drawn h3.heap (w.drawn + 1)
  refine Fin.steps (.one stepR_region_draw) ?_
  rw [hs]
  obtain ⟨p, hp, X, hX1, hX2⟩ := pick_plan ht (sched_init (all := all) _)
  exact h p hp β _ ⟨⟨_, fs, _, ts, _, rfl, rfl, ⟨tmps, ds, _, ro, rfl, g1, g2, ⟨_, t0, rfl, g5, DrR.startX hX1 g3 hX2, fun b hb => by cases hb⟩⟩, h2.mono (.refl _) (.refl _ _), h3.trans hext⟩, Bot.same (f := ⟨fn, n, tm, .code (.region id all true) :: k, rd, ms, lk⟩) h4 rfl, h5⟩
end

/-- Trees of plans, function by function. -/
abbrev Pts := List (Nat × List (Nat × PT))
def ptk : List (Nat × PT) → Nat → Option PT
  | [], _ => none
  | (k, p) :: r, i => if k = i then some p else ptk r i
def ptt : Pts → FuncId → List (Nat × PT)
  | [], _ => []
  | (k, p) :: r, f => if k = f then p else ptt r f
def altsOf (P : Program) (T : Pts) (c : Conf) : List Conf := match c with
  | ⟨⟨fn, n, tm, k, rd, ms, lk⟩ :: fs, bl⟩ => (match k with
    | .code (.region id all true) :: k => (match ptk (ptt T fn) id with
      | some t => (match okPT P all [] t with
        | true => (leaves t).map fun p => ⟨⟨fn, n, tm, .dr all p [] none :: k, rd, ms, lk⟩ :: fs, bl⟩
        | false => [])
      | none => [])
    | _ => [])
  | _ => []
def allC (f : Conf → Bool) : List Conf → Bool
  | [] => true
  | c :: r => (match f c with
    | true => allC f r
    | false => false)
theorem allC_ok {f : Conf → Bool} : ∀ {l : List Conf}, allC f l = true → ∀ c ∈ l, f c = true
  | [], _, c, hc => by cases hc
  | x :: r, h, c, hc => by
    simp only [allC] at h
    split at h
    · rename_i e
      rcases List.mem_cons.1 hc with rfl | hc
      · exact e
      · exact allC_ok h c hc
    · cases h
/-- A run that goes both ways at some splits (told by how many were ahead), and every way where plans are several. -/
def runB (P : Program) (K : KT) (pl : FuncId → Nat → Option Plan) (T : Pts) (tst : AV → Bool) (bs : List Nat) : Nat → Nat → Conf → Bool
  | _, 0, _ => false
  | j, n + 1, c => (match stepF P K pl true c with
    | .next vc c' => (match vc with
      | true => runB P K pl T tst bs j n c'
      | false => false)
    | .split b c1 c2 => (match bs.contains j with
      | true => (match runB P K pl T tst bs (j + 1) n c1 with
        | true => runB P K pl T tst bs (j + 1) n c2
        | false => false)
      | false => (match b with
        | true => runB P K pl T tst bs (j + 1) n c1
        | false => runB P K pl T tst bs (j + 1) n c2))
    | .fin vc r _ => (match vc with
      | true => tst r
      | false => false)
    | .stop => (match altsOf P T c with
      | [] => false
      | x :: r => allC (runB P K pl T tst bs j n) (x :: r)))

theorem alts_rch {P : Program} {pl : FuncId → Nat → Option Plan} (hpl : PlOk P pl) {T : Pts} {C : Ctx} {S : AV → Bls → Prop} {c : Conf} (hne : altsOf P T c ≠ []) (h : ∀ c' ∈ altsOf P T c, Rch P pl C c' S) : Rch P pl C c S := by
  unfold altsOf at hne h
  split at hne
  · rename_i fn n tm k rd ms lk fs bl
    simp only at h
    split at hne
    · rename_i id all k'
      simp only at h
      split at hne
      · rename_i t e
        simp only [e] at h
        split at hne
        · rename_i e2
          simp only [e2] at h
          exact Rch.alts hpl e2 fun p hp => h _ (List.mem_map.2 ⟨p, hp, rfl⟩)
        · exact absurd rfl hne
      · exact absurd rfl hne
    · exact absurd rfl hne
  · exact absurd rfl hne

theorem runB_ok {P : Program} {K : KT} {pl : FuncId → Nat → Option Plan} (hpl : PlOk P pl) (hK : KOk P pl K) {T : Pts} {tst : AV → Bool} {bs : List Nat} {C : Ctx} {S : AV → Bls → Prop} (hS : ∀ r bl, tst r = true → S r bl) : ∀ {n j : Nat} {c : Conf}, runB P K pl T tst bs j n c = true → Rch P pl C c S
  | 0, _, _, h => by simp [runB] at h
  | n + 1, j, c, h => by
    have hok := stp_ok (C := C) hpl hK true (clean c)
    simp only [runB, stepF_eq, pre] at h
    split at h
    · rename_i vc c' e
      rw [e] at hok
      split at h
      · exact (clean_to P pl C c).rch ((hok rfl).rch (runB_ok hpl hK hS h))
      · cases h
    · rename_i b c1 c2 e
      rw [e] at hok
      split at h
      · split at h
        · rename_i h1
          cases b with
          | true => exact (clean_to P pl C c).rch ((hok.1 rfl).rch (runB_ok hpl hK hS h1))
          | false => exact (clean_to P pl C c).rch ((hok.2 rfl).rch (runB_ok hpl hK hS h))
        · cases h
      · split at h
        · exact (clean_to P pl C c).rch ((hok.1 rfl).rch (runB_ok hpl hK hS h))
        · exact (clean_to P pl C c).rch ((hok.2 rfl).rch (runB_ok hpl hK hS h))
    · rename_i vc r bl e
      rw [e] at hok
      split at h
      · exact (clean_to P pl C c).rch (hok rfl S (hS _ _ h))
      · cases h
    · split at h
      · cases h
      · rename_i x r e
        exact alts_rch (T := T) hpl (by rw [e]; simp) fun c' hc' => runB_ok hpl hK hS (allC_ok h c' (by rw [← e]; exact hc'))

def isTrue : AV → Bool
  | .v (.bool true) => true
  | _ => false
theorem isTrue_eq {r : AV} (h : isTrue r = true) : r = .v (.bool true) := by
  unfold isTrue at h
  split at h
  · rfl
  · cases h
/-- A run on given inputs comes to 'true'. -/
def runX (P : Program) (K : KT) (T : Pls) (T2 : Pts) (bs : List Nat) (n : Nat) (f : FuncId) (args : List AV) : Bool := match fi P f with
  | some F => (match decide (args.length ≤ F.n) with
    | true => runB P K (plOf T) T2 isTrue bs 0 n (conf0 f F args [])
    | false => false)
  | none => false
/-- A law's run, all ways gone. -/
theorem open_lawT {P : Program} {T : Pls} {K : KT} (hpl : PlOk P (plOf T)) (hK : KOk P (plOf T) K) {T2 : Pts} {bs : List Nat} {f : FuncId} {n : Nat} {args : List AV} (h : runX P K T T2 bs n f args = true) {w : World} {vs : List Value} (hd : DenL (ice P (plOf T) w) args vs) :
    Calls P f vs.toArray w fun e w' => e = .returned (.bool true) ∧ Below w.heap.size w w' := by
  unfold runX at h
  split at h
  · rename_i F hF
    split at h
    · rename_i hn
      exact law_calls (S := fun r _ => r = .v (.bool true)) hpl hF (of_decide_eq_true hn) (fun r bl h => h) hd fun C _ _ => runB_ok (tst := isTrue) hpl hK (fun r bl h => isTrue_eq h) h
    · cases h
  · cases h
/-- A function that comes to 'true': its word. -/
def specT : List AV → Option (Bool × AV × Bls) := fun args => match args with
  | [] => some (true, .v (.bool true), [])
  | _ => none
theorem spec_true {P : Program} {T : Pls} {K : KT} (hpl : PlOk P (plOf T)) (hK : KOk P (plOf T) K) {T2 : Pts} {bs : List Nat} {f : FuncId} {n : Nat} (h : runX P K T T2 bs n f [] = true) : SpecOk P (plOf T) f specT := by
  unfold runX at h
  split at h
  · rename_i F hF
    split at h
    · refine ⟨F, hF, fun args r0 bl0 h0 => ?_⟩
      unfold specT at h0
      split at h0
      · simp only [Option.some.injEq, Prod.mk.injEq, true_and] at h0
        obtain ⟨rfl, rfl⟩ := h0
        exact ⟨Nat.zero_le _, fun C _ _ => runB_ok hpl hK (fun r bl h => by rw [isTrue_eq h]; exact Res.val _ _) h⟩
      · cases h0
    · cases h
  · cases h
end Go.SY
