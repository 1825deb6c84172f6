/-
  The symbolic machine: a level of numbers told in whole.
-/
import Derived.Test.YtmdepmhamefheaaSy37
set_option linter.unusedSimpArgs false
set_option linter.unusedVariables false
namespace Go.SY
open Go
theorem tB_tt (t : Bool) : tB true t = true := by cases t <;> rfl
theorem tB_ft : tB false true = false := rfl
theorem tB_ff : tB false false = true := rfl
theorem todo_bl {P : Program} {β : Env} {bl bl' : Bls} {pr : Option (List Nat)} {fn : FuncId} {n : Nat} {tm : TM} {k : List SI} {tmps : Array Value} {t : List Item} (hk : hdPlain k = true) (h : TodoR P β bl pr fn n tm k tmps t) : TodoR P β bl' pr fn n tm k tmps t := by
  cases k with
  | nil => exact h
  | cons x k => cases x with
    | dr all p A g => simp [hdPlain] at hk
    | _ => exact h
theorem nums_of {k : IntKind} : ∀ {sp : List Value}, (∀ x ∈ sp, SpV (some k) x) → ∃ zs : List Int, sp = zs.map (.int k) ∧ okN k zs
  | [], _ => ⟨[], rfl, fun _ h => by cases h⟩
  | x :: sp, h => by
    obtain ⟨-, h1⟩ := h x (by simp)
    obtain ⟨z, rfl, hz⟩ := h1 k rfl
    obtain ⟨zs, rfl, hzs⟩ := nums_of (sp := sp) fun y hy => h y (by simp [hy])
    exact ⟨z :: zs, rfl, fun y hy => by
      rcases List.mem_cons.1 hy with rfl | hy
      · exact hz
      · exact hzs y hy⟩
section
variable {P : Program} {pl : FuncId → Nat → Option Plan} {C : Ctx} {S : AV → Bls → Prop} {fn : FuncId} {n : Nat} {tm : TM} {k : List SI} {rd : Option Nat} {ms : List Nat} {fs : List Fr} {bl : Bls}
/-- What lies behind numbers are numbers: told in whole. -/
theorem Rch.whole (s : Nat) {l i nn q : Nat} {kk : IntKind} {xs : List Int} (hs : get tm s = .sl l i 1 nn (some q)) (hl : lvl bl l = some (.num kk xs)) (hk : hdPlain k = true)
    (h : ∀ ys, okN kk (xs ++ ys) → (q = 0 ∨ i + q ≤ (xs ++ ys).length) → Rch P pl C ⟨⟨fn, n, tm, k, rd, ms, []⟩ :: fs, setl bl l (some (.num kk (xs ++ ys)))⟩ S) :
    Rch P pl C ⟨⟨fn, n, tm, k, rd, ms, []⟩ :: fs, bl⟩ S := by
  rintro β m ⟨⟨f, fs', fr, ts, w, e, rfl, h1, h2, h3⟩, h4, h5⟩
  simp only [List.cons.injEq] at e
  obtain ⟨rfl, rfl⟩ := e
  have hh := h3.heap
  obtain ⟨tmps, ds, t, ro, rfl, g1, g2, g3⟩ := h1
  simp only at g1 g2 g3 h4 h2 h3 hh
  have hd := (todo_tm (tm' := tm) hk g3).1.2 s
  rw [hs] at hd
  simp only [Den] at hd
  obtain ⟨A, q', -, -, -, hq', hA⟩ := hd
  obtain rfl := hq' _ rfl
  have fin : ∀ ys, okN kk (xs ++ ys) → (q' = 0 ∨ i + q' ≤ (xs ++ ys).length) → Ext β bl w β (setl bl l (some (.num kk (xs ++ ys)))) w → _root_.Go.SY.Fin P C S (lone ((fr0 fn ro).atR ⟨tmps, ds⟩ t) (ts ++ C.cs) w) := fun ys hy1 hy2 hx =>
    h ys hy1 hy2 β _ ⟨⟨_, fs, _, ts, w, rfl, rfl, ⟨tmps, ds, t, ro, rfl, g1, g2, todo_bl hk g3⟩, h2.mono (.refl _) (fun q hq => by cases hq), h3.trans hx⟩, Bot.same (f := ⟨fn, n, tm, k, rd, ms, []⟩) h4 rfl, h5⟩
  obtain ⟨base, hbase, hin⟩ := hh.lv l _ (lvl_get hl)
  cases base with
  | none =>
    have hq0 : q' = 0 := by
      apply Decidable.byContradiction
      intro hne
      obtain ⟨b, sz, hb, -⟩ := hA hne
      rw [hb] at hbase; cases hbase
    have hok : okN kk xs := hin.2
    refine fin [] (by simpa using hok) (.inl hq0) ?_
    rw [List.append_nil, setl_same hl]
    exact .refl hh
  | some p =>
    obtain ⟨b, sz⟩ := p
    obtain ⟨ys, sp, T, fz, hg, hsz, hc, hsp, hfz⟩ := heap_cells hh hl hbase rfl
    simp only [CsDen] at hc
    obtain ⟨rfl, hok⟩ := hc
    obtain ⟨zs, rfl, hzs⟩ := nums_of hsp
    refine fin zs (okN_append hok hzs) ?_ ?_
    · by_cases hq0 : q' = 0
      · exact .inl hq0
      · obtain ⟨b', sz', hb, -, hf⟩ := hA hq0
        rw [hbase] at hb
        simp only [Option.some.injEq, Prod.mk.injEq] at hb
        obtain ⟨rfl, rfl⟩ := hb
        simp only [List.length_map] at hsz
        simp only [List.length_append]
        omega
    · have hwr := hh.write2 (c' := .num kk (xs ++ zs)) (ys' := (xs ++ zs).map (Value.int kk)) (sp' := []) (lvl_get hl) hbase hg (by simpa using hsz) (fun x hx => by cases hx) hfz ⟨rfl, okN_append hok hzs⟩
      have e1 : (xs ++ zs).map (Value.int kk) ++ [] = xs.map (Value.int kk) ++ zs.map (Value.int kk) := by simp
      rw [e1, setRow_self w b _ T fz hg, ← setl_set] at hwr
      exact hwr
end
end Go.SY
