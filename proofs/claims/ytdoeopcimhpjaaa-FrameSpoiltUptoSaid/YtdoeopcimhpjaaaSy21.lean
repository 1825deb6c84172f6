/-
  The symbolic machine: its steps are steps of the model's machine.
-/
import Derived.Test.YtdoeopcimhpjaaaSy20
set_option linter.unusedSimpArgs false
set_option linter.unusedVariables false
namespace Go.SY
open Go

section
variable {P : Program} {pl : FuncId → Nat → Option Plan} {C : Ctx} {fn : FuncId} {n : Nat} {tm : TM} {k k' : List SI} {rd : Option Nat} {ms lk : List Nat} {fs : List Fr} {bl bl' : Bls} {K : KT} {x : SI}

theorem to_plain (h1 : ∀ all plan A g, x ≠ .dr all plan A g) (h2 : ∀ all os g, x ≠ .ops all os g)
    (h : ∀ β tmps ds ro y t cs w, TmOk β n tm tmps → RoR β rd ro → IR β fn x y → KR β fn k t → Heap β bl w → β.ck = Ck P pl →
      ∃ t', step P (lone ((fr0 fn ro).atR ⟨tmps, ds⟩ (y :: t)) cs w) = .next (lone ((fr0 fn ro).atR ⟨tmps, ds⟩ t') cs w) ∧ TodoR P β bl none fn n tm k' tmps t') :
    To P pl C ⟨⟨fn, n, tm, x :: k, rd, ms, lk⟩ :: fs, bl⟩ ⟨⟨fn, n, tm, k', rd, ms, lk⟩ :: fs, bl⟩ :=
  to_top rfl rfl fun β fr cs w hf hh hck => by
    obtain ⟨tmps, ds, y, t, ro, rfl, g1, g2, g3, g4, g5⟩ := hf.plain h1 h2
    obtain ⟨t', e, ht⟩ := h β tmps ds ro y t cs w g3 g2 g4 g5 hh hck
    exact ⟨β, _, w, .one e, ⟨tmps, ds, t', ro, rfl, g1, g2, ht⟩, .refl hh, .refl _ _⟩

theorem Ext.drawn {β : Env} {w : World} (h : Heap β bl w) (d : Nat) : Ext β bl w β bl { w with drawn := d } :=
  ⟨.refl _, ⟨h.len, fun l c hl => by obtain ⟨b, e, hi⟩ := h.lv l c hl; exact ⟨b, e, hi.same fun _ _ _ => rfl⟩, h.sep, h.frz⟩, ⟨rfl, rfl, rfl, Nat.le_refl _, fun _ _ _ => rfl⟩, fun _ h => .inl h, fun _ _ h => .inl h, rfl⟩

theorem to_draw (hpl : PlOk P pl) {id : Nat} {all : Array Oper} {p : Plan} (hp : pl fn id = some p) :
    To P pl C ⟨⟨fn, n, tm, .code (.region id all true) :: k, rd, ms, lk⟩ :: fs, bl⟩ ⟨⟨fn, n, tm, .dr all p [] none :: k, rd, ms, lk⟩ :: fs, bl⟩ :=
  to_top rfl rfl fun β fr cs w hf hh hck => by
    obtain ⟨tmps, ds, y, t, ro, rfl, g1, g2, g3, ⟨rfl, hc⟩, g5⟩ := hf.plain (by simp) (by simp)
    rw [hck] at hc
    have hext := Ext.drawn hh (w.drawn + 1)
    refine ⟨β, _, _, .one stepR_region_draw, ⟨tmps, ds, _, ro, rfl, g1, g2, ⟨_, t, rfl, g5, ?_, fun b hb => by cases hb⟩⟩, hext, .refl _ _⟩
    have hs : Region.schedule (P.follows .mixedOrders) all = Region.linearise .any all := by funext t; simp [Region.schedule, hpl.mix]
    rw [hs]
    exact DrR.start (hc rfl p hp) g3 _

theorem to_self {f : Fr} {f' : Fr} (hfn : f'.fn = f.fn) (hlk : f'.lk = f.lk) (h : ∀ β fr, FrR P β bl none f fr → β.ck = Ck P pl → FrR P β bl none f' fr) : To P pl C ⟨f :: fs, bl⟩ ⟨f' :: fs, bl⟩ :=
  to_top hfn hlk fun β fr cs w hf hh hck => ⟨β, fr, w, .refl _ _, h β fr hf hck, .refl hh, .refl _ _⟩

/-- An operation in program order: where it stands. -/
theorem ops_at {β : Env} {all : Array Oper} {o : Oper} {os : List Oper} {g : Option Bool} {fr : Frame} (h : FrR P β bl none ⟨fn, n, tm, .ops all (o :: os) g :: k, rd, ms, lk⟩ fr) :
    ∃ tmps ds m t ro, fr = (fr0 fn ro).atR ⟨tmps, ds⟩ (.inRegion all (m :: List.range' (m + 1) (all.size - (m + 1))) :: t) ∧ all[m]? = some o ∧ os = all.toList.drop (m + 1) ∧ TmOk β n tm tmps ∧ MsR β ms ds ∧ RoR β rd ro ∧ KR β fn k t ∧
      (m :: List.range' (m + 1) (all.size - (m + 1)) = List.range' m (all.size - m)) ∧ o :: os = all.toList.drop m ∧ ∀ b, g = some b → WS all n tm o.guard b := by
  obtain ⟨tmps, ds, t, ro, rfl, g1, g2, g3, ⟨y, t', rfl, ⟨-, m, hm, rfl⟩, g4⟩, g5⟩ := h
  have hlt : m < all.size := by
    apply Decidable.byContradiction
    intro hn
    rw [List.drop_of_length_le (by simp; omega)] at hm
    cases hm
  have ho : all[m]? = some o := by
    have := congrArg (·[0]?) hm
    simp only [List.getElem?_cons_zero, List.getElem?_drop, Nat.add_zero] at this
    rw [← Array.getElem?_toList]; exact this.symm
  have hr : List.range' m (all.size - m) = m :: List.range' (m + 1) (all.size - (m + 1)) := by
    have : all.size - m = (all.size - (m + 1)) + 1 := by omega
    rw [this, List.range'_succ]
  refine ⟨tmps, ds, m, t', ro, by rw [hr], ho, ?_, g3, g1, g2, g4, hr.symm, hm, fun b hb => ?_⟩
  · have := congrArg List.tail hm
    simpa using this
  · obtain ⟨o', os', e, hw⟩ := g5 b hb
    simp only [List.cons.injEq] at e
    rw [e.1]; exact hw

theorem KR.ops {β : Env} {all : Array Oper} {os : List Oper} {m : Nat} {t : List Item} (hos : os = all.toList.drop m) (hk : KR β fn k t) : KR β fn (.ops all os none :: k) (.inRegion all (List.range' m (all.size - m)) :: t) :=
  ⟨_, _, rfl, ⟨rfl, m, hos, rfl⟩, hk⟩

theorem ops_ok (hpl : PlOk P pl) (hK : KOk P pl K) {all : Array Oper} {os : List Oper} {g : Option Bool} {u : Bool} {drS} :
    OutOk P pl C ⟨⟨fn, n, tm, .ops all os g :: k, rd, ms, lk⟩ :: fs, bl⟩ (stepS P K pl u drS ⟨⟨fn, n, tm, .ops all os g :: k, rd, ms, lk⟩ :: fs, bl⟩) := by
  unfold stepS
  simp only
  split
  · -- all done
    intro _
    refine to_top rfl rfl fun β fr cs w hf hh hck => ?_
    obtain ⟨tmps, ds, t, ro, rfl, g1, g2, g3, ⟨y, t', rfl, ⟨-, m, hm, rfl⟩, g4⟩, g5⟩ := hf
    have hle : all.size ≤ m := by
      have := congrArg List.length hm
      simp at this; omega
    have e : List.range' m (all.size - m) = [] := by
      have : all.size - m = 0 := by omega
      rw [this]; rfl
    rw [e]
    exact ⟨β, _, w, .one stepR_region_end, ⟨tmps, ds, t', ro, rfl, g1, g2, todo_of g3 g4⟩, .refl hh, .refl _ _⟩
  · rename_i o os
    split
    · -- wanted
      rename_i hw
      refine opS_ok hpl hK rfl rfl (fun q hq => hq) fun β fr cs w hf hck hh => ?_
      obtain ⟨tmps, ds, m, t, ro, rfl, ho, hos, g3, g1, g2, g4, hr, hos', g5⟩ := ops_at hf
      have hws := wtS_yes hw g5
      refine ⟨_, .refl _ _, tmps, ds, all, m, _, t, ro, rfl, ho, g3.poised all o, hws, g1, g2, fun β' bl' r y hle hy hk => ?_, ?_⟩
      · exact ⟨(g3.mono hle).put hy _, KR.ops hos (g4.mono hle), fun b hb => by cases hb⟩
      · refine ⟨tmps, ds, _, ro, rfl, g1, g2, g3, ?_, fun b hb => ⟨o, os, rfl, ?_⟩⟩
        · rw [hr]; exact KR.ops hos' g4
        · obtain rfl := Option.some.inj hb; exact hws
    · -- not wanted
      rename_i hw
      intro _
      refine to_top rfl rfl fun β fr cs w hf hh hck => ?_
      obtain ⟨tmps, ds, m, t, ro, rfl, ho, hos, g3, g1, g2, g4, hr, hos', g5⟩ := ops_at hf
      have hws := wtS_no hw g5
      have hwt := (g3.poised all o).wt false hws
      have hst := stepR_op_skip (P := P) (b := fr0 fn ro) (a := ⟨tmps, ds⟩) (k := t) (cs := cs) (w := w) (ops := all) (i := m) (rest := List.range' (m + 1) (all.size - (m + 1))) (by simp [ho, hwt])
      rw [ho] at hst
      simp only [Option.bind_some, put_act] at hst
      have hu : Den β (.tup []) undef := by simp only [Den, DenL]; exact ⟨[], rfl, rfl⟩
      exact ⟨β, _, w, .one hst, ⟨_, ds, _, ro, rfl, g1, g2, ⟨g3.put hu _, KR.ops hos g4, fun b hb => by cases hb⟩⟩, .refl hh, .refl _ _⟩
    · -- the guard is told
      rename_i b want d hw
      obtain ⟨⟨j, hg, hj⟩, hlt, he⟩ := wtS_spl hw
      have gen : ∀ c, b = c → To P pl C ⟨⟨fn, n, tm, .ops all (o :: os) g :: k, rd, ms, lk⟩ :: fs, bl⟩ ⟨⟨fn, n, (d, .v (.bool c)) :: tm, .ops all (o :: os) (some (if c = true then want else !want)) :: k, rd, ms, lk⟩ :: fs, bl⟩ := by
        rintro c rfl
        refine to_self rfl rfl fun β fr hf hck => ?_
        obtain ⟨tmps, ds, t, ro, rfl, g1, g2, g3, g4, g5⟩ := hf
        refine ⟨tmps, ds, t, ro, rfl, g1, g2, (imp_told he).tm g3, g4, fun b' hb' => ⟨o, os, rfl, ?_⟩⟩
        obtain rfl := Option.some.inj hb'
        rw [hg]
        exact WS.told hj hlt
      exact ⟨fun hb => gen true hb, fun hb => gen false hb⟩
    · trivial

theorem dr_ok (hpl : PlOk P pl) (hK : KOk P pl K) {all : Array Oper} {plan : Plan} {A : List (Nat × List Nat)} {g : Option Bool} :
    OutOk P pl C ⟨⟨fn, n, tm, .dr all plan A g :: k, rd, ms, lk⟩ :: fs, bl⟩ (drS P K ⟨fn, n, tm, .dr all plan A g :: k, rd, ms, lk⟩ all plan A g k fs bl) := by
  unfold drS
  simp only
  split
  · intro _
    refine to_top rfl rfl fun β fr cs w hf hh hck => ?_
    obtain ⟨tmps, ds, t, ro, rfl, g1, g2, ⟨L, t', rfl, g3, g4, g5⟩⟩ := hf
    obtain ⟨tmps', hs, ht⟩ := g4.last hh fn ro ds t' cs
    exact ⟨β, _, w, hs, ⟨tmps', ds, t', ro, rfl, g1, g2, todo_of ht g3⟩, .refl hh, .refl _ _⟩
  · rename_i i un rest
    split
    · trivial
    · rename_i o ho
      rw [nth_eq] at ho
      have ho' : all[i]? = some o := by simpa using ho
      have known : ∀ {β : Env} {fr : Frame}, FrR P β bl none ⟨fn, n, tm, .dr all ((i, un) :: rest) A g :: k, rd, ms, lk⟩ fr → ∀ b, g = some b → WS all n tm o.guard b := by
        rintro β fr ⟨tmps, ds, t, ro, rfl, g1, g2, ⟨L, t', rfl, g3, g4, g5⟩⟩ b hb
        obtain ⟨i', un', rest', o', e, h1, h2⟩ := g5 b hb
        simp only [List.cons.injEq, Prod.mk.injEq] at e
        obtain ⟨⟨rfl, rfl⟩, rfl⟩ := e
        rw [ho'] at h1
        rw [Option.some.inj h1]; exact h2
      -- an operation executed here, done by the machine at some time
      have flt : ∀ {A' : List (Nat × List Nat)} {r : AV}, (∀ p ∈ A, p ∈ A') → (∀ β fr, FrR P β bl none ⟨fn, n, tm, .dr all ((i, un) :: rest) A g :: k, rd, ms, lk⟩ fr → FactP P bl n all tm i o A' r) →
          (∀ (β : Env) (w : World) (gt : Array Value), Heap β bl w → TmOk β n tm gt → ∃ y, Den β r y) →
          To P pl C ⟨⟨fn, n, tm, .dr all ((i, un) :: rest) A g :: k, rd, ms, lk⟩ :: fs, bl⟩ ⟨⟨fn, n, put n tm o.dst r, .dr all rest A' none :: k, rd, ms, lk⟩ :: fs, bl⟩ := by
        intro A' r hA hf hy
        refine to_top rfl rfl fun β fr cs w hfr hh hck => ?_
        have hfact := hf β fr hfr
        obtain ⟨tmps, ds, t, ro, rfl, g1, g2, ⟨L, t', rfl, g3, g4, g5⟩⟩ := hfr
        obtain ⟨X, tm0, hi, l, a1, a2, a3, a4, a5, a6, a7, a8, ⟨gt, hgt⟩, a9⟩ := g4
        exact ⟨β, _, w, .refl _ _, ⟨tmps, ds, _, ro, rfl, g1, g2, ⟨L, t', rfl, g3, DrR.float ⟨X, tm0, hi, l, a1, a2, a3, a4, a5, a6, a7, a8, ⟨gt, hgt⟩, a9⟩ ho' hfact hA (hy β w gt hh hgt), fun b hb => by cases hb⟩⟩, .refl hh, .refl _ _⟩
      have purY : ∀ {r : AV}, pop P tm o.op = some (true, r) → ∀ (β : Env) (w : World) (gt : Array Value), Heap β bl w → TmOk β n tm gt → ∃ y, Den β r y := by
        intro r hp β w gt _ hgt
        obtain ⟨y, hy, -⟩ := pop_sound hgt.ev hp rfl
        exact ⟨y, hy⟩
      split
      · rename_i hw
        split
        · split
          · rename_i hcl vc r hp
            intro hv
            subst hv
            exact flt (fun _ h => h) (fun β fr hf => .inl ⟨wtS_yes hw (known hf), .inl hp⟩) (purY hp)
          · trivial
        · split
          · rename_i hcl vc r hp
            intro hv
            subst hv
            exact flt (fun _ h => h) (fun β fr hf => .inl ⟨wtS_yes hw (known hf), .inl hp⟩) (purY hp)
          · split
            · rename_i hcl _ vc r hp
              intro hv
              subst hv
              refine flt (fun _ h => List.mem_cons_of_mem _ h) (fun β fr hf => .inl ⟨wtS_yes hw (known hf), .inr ⟨hp, by assumption, List.mem_cons_self⟩⟩) fun β w gt hh hgt => ?_
              obtain ⟨y, hy, -⟩ := lop_sound hgt.ev hh hp rfl
              exact ⟨y, hy⟩
            · trivial
        · rename_i hcl
          refine opS_ok hpl hK rfl rfl (fun q hq => List.mem_append_right _ hq) fun β fr cs w hf hck hh => ?_
          have hws := wtS_yes hw (known hf)
          obtain ⟨tmps, ds, t, ro, rfl, g1, g2, ⟨L, t', rfl, g3, g4, g5⟩⟩ := hf
          obtain ⟨tmps', L', hs, h4⟩ := DrR.catch hh ho' hcl fn ro ds t' cs L tmps g4
          refine ⟨_, hs, tmps', ds, all, i, L', t', ro, rfl, ho', h4.poised ho', hws, g1, g2, fun β' bl' r y hle hy hk => ?_, ?_⟩
          · exact ⟨L', t', rfl, g3.mono hle, h4.done ho' hcl hle hy (.inl ⟨rfl, hk.sub fun q hq => List.mem_append_left _ hq⟩), fun b hb => by cases hb⟩
          · refine ⟨tmps', ds, _, ro, rfl, g1, g2, ⟨i :: L', t', rfl, g3, h4.wait ho' hcl fun q hq => List.mem_append_left _ hq, fun b hb => ⟨i, un, rest, o, rfl, ho', ?_⟩⟩⟩
            obtain rfl := Option.some.inj hb
            exact hws
      · rename_i hw
        intro _
        exact flt (fun _ h => h) (fun β fr hf => .inr ⟨wtS_no hw (known hf), rfl⟩) fun β w gt _ _ => ⟨.tuple #[], by simp only [Den, DenL]; exact ⟨[], rfl, rfl⟩⟩
      · rename_i b want d hw
        obtain ⟨⟨j, hg, hj⟩, hlt, he⟩ := wtS_spl hw
        have gen : ∀ c, b = c → To P pl C ⟨⟨fn, n, tm, .dr all ((i, un) :: rest) A g :: k, rd, ms, lk⟩ :: fs, bl⟩ ⟨⟨fn, n, (d, .v (.bool c)) :: tm, .dr all ((i, un) :: rest) A (some (if c = true then want else !want)) :: k, rd, ms, lk⟩ :: fs, bl⟩ := by
          rintro c rfl
          refine to_self rfl rfl fun β fr hf hck => ?_
          obtain ⟨tmps, ds, t, ro, rfl, g1, g2, ⟨L, t', rfl, g3, g4, g5⟩⟩ := hf
          refine ⟨tmps, ds, _, ro, rfl, g1, g2, ⟨L, t', rfl, g3, g4.imp (imp_told he), fun b' hb' => ⟨i, un, rest, o, rfl, ho', ?_⟩⟩⟩
          obtain rfl := Option.some.inj hb'
          rw [hg]
          exact WS.told hj hlt
        exact ⟨fun hb => gen true hb, fun hb => gen false hb⟩
      · trivial

end

end Go.SY
