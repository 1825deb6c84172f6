/-
  The symbolic machine: records in memory; operations, all of them: what they are run to.
-/
import Derived.Test.YtdoeopcimhpjaaaSy16
set_option linter.unusedSimpArgs false
set_option linter.unusedVariables false
namespace Go.SY
open Go

theorem lvl_join : ∀ (bl : Bls) (l : Nat), lvl bl l = (bl[l]?).join
  | [], _ => by simp [lvl]
  | b :: r, 0 => by simp [lvl]
  | b :: r, l + 1 => by simp [lvl, lvl_join r l]

theorem lvl_ne {bl : Bls} {l q : Nat} {x : Option Ct} (h : q ≠ l) : lvl (setl bl l x) q = lvl bl q := by
  rw [lvl_join, lvl_join, setl_set, List.getElem?_set_ne (Ne.symm h)]

theorem lvl_app {bl bs : Bls} {q : Nat} {c : Ct} (h : lvl bl q = some c) : lvl (bl ++ bs) q = some c := by
  have h1 := lvl_get h
  rw [lvl_join, List.getElem?_append_left (List.getElem?_eq_some_iff.1 h1).1, h1]; rfl

theorem Kp.app (lk : List Nat) (bl bs : Bls) : Kp lk bl (bl ++ bs) := fun _ _ _ _ h => lvl_app h

theorem Kp.rec {lk : List Nat} {bl : Bls} {l : Nat} {c : Ct} {x : Option Ct} (hl : lvl bl l = some c) (hc : c.cell = false) : Kp lk bl (setl bl l x) := fun q _ c' hc' h => by
  by_cases e : q = l
  · subst e
    rw [hl] at h
    obtain rfl := Option.some.inj h
    rw [hc] at hc'; cases hc'
  · rw [lvl_ne e]; exact h

theorem Kp.out {lk : List Nat} {bl : Bls} {l : Nat} {x : Option Ct} (hl : l ∉ lk) : Kp lk bl (setl bl l x) := fun q hq c' _ h => by
  rw [lvl_ne (fun e => hl (by rw [← e]; exact hq))]; exact h

/-- A record rewritten or given up. -/
theorem Heap.put {β : Env} {bl : Bls} {w : World} {l b s : Nat} {c : Ct} {o : Obj} {x : Option Ct} (h : Heap β bl w) (hl : bl[l]? = some (some c)) (hb : β.b[l]? = some (some (b, s))) (hx : ∀ c', x = some c' → c'.cell = false ∧ ObDen β c' o) :
    Ext β bl w β (bl.set l x) (w.putObj b o) := by
  have hllt : l < bl.length := (List.getElem?_eq_some_iff.1 hl).1
  have hblt := h.lt hl hb
  have get : ∀ {m : Nat} {c0 : Ct}, (bl.set l x)[m]? = some (some c0) → (m = l ∧ x = some c0) ∨ (m ≠ l ∧ bl[m]? = some (some c0)) := by
    intro m c0 hm
    rw [List.getElem?_set] at hm
    split at hm
    · rename_i e
      subst e
      try rw [if_pos hllt] at hm
      exact .inl ⟨rfl, Option.some.inj hm⟩
    · rename_i e
      exact .inr ⟨fun h => e h.symm, hm⟩
  have old : ∀ {m : Nat} {c0 : Ct}, (bl.set l x)[m]? = some (some c0) → ∃ c1, bl[m]? = some (some c1) := by
    intro m c0 hm
    rcases get hm with ⟨rfl, -⟩ | ⟨-, h⟩
    · exact ⟨c, hl⟩
    · exact ⟨c0, h⟩
  have ownk : ∀ b', Owned β (bl.set l x) b' → Owned β bl b' := by
    rintro b' ⟨m, c0, s', hm, hb'⟩
    obtain ⟨c1, h1⟩ := old hm
    exact ⟨m, c1, s', h1, hb'⟩
  refine ⟨.refl _, ⟨by simpa using h.len, fun m c0 hm => ?_, fun m m' c0 c1 b0 s0 s1 hne h1 h2 => ?_, fun t b' cs' hz => ?_⟩, ⟨rfl, rfl, rfl, by simp, fun b' _ hno => ?_⟩, fun b' hb' => .inl (ownk b' hb'), fun b' cs' hz => .inl hz, rfl⟩
  · rcases get hm with ⟨rfl, hx'⟩ | ⟨hne, hm⟩
    · obtain ⟨h1, h2⟩ := hx _ hx'
      exact ⟨_, hb, .inr ⟨h1, o, World.putObj_heap_same hblt, h2⟩⟩
    · obtain ⟨base, e, hin⟩ := h.lv m c0 hm
      refine ⟨base, e, hin.same fun b' s' hb' => ?_⟩
      subst hb'
      exact World.putObj_heap_other (fun e3 => h.sep l m c c0 b s s' (fun e4 => hne e4.symm) hl hm hb (by rw [e, e3]))
  · obtain ⟨c2, g1⟩ := old h1
    obtain ⟨c3, g2⟩ := old h2
    exact h.sep m m' c2 c3 b0 s0 s1 hne g1 g2
  · obtain ⟨⟨T', fz', e⟩, hno⟩ := h.frz t b' cs' hz
    refine ⟨⟨T', fz', ?_⟩, fun ho => hno (ownk b' ho)⟩
    rw [World.putObj_heap_other (r := b) (k := b') (fun e3 => hno ⟨l, c, s, hl, by rw [e3]; exact hb⟩)]
    exact e
  · refine World.putObj_heap_other (fun e => hno ⟨l, c, s, hl, ?_⟩)
    rw [e]; exact hb

/-- What a record's level stands for. -/
theorem heap_rec {β : Env} {bl : Bls} {w : World} (hh : Heap β bl w) {l b s : Nat} {c : Ct} (hl : lvl bl l = some c) (hb : β.b[l]? = some (some (b, s))) (hc : c.cell = false) : ∃ o, w.heap[b]? = some o ∧ ObDen β c o := by
  obtain ⟨base, e, hin⟩ := hh.lv l c (lvl_get hl)
  rw [hb] at e
  obtain rfl := Option.some.inj e
  rcases hin with ⟨h1, -⟩ | ⟨-, o, h1, h2⟩
  · rw [hc] at h1; cases h1
  · exact ⟨o, h1, h2⟩

theorem csDen_not {β : Env} {c : Ct} {ys : List Value} (hc : c.cell = false) (h : CsDen β c ys) : False := by
  cases c <;> first | exact h | cases hc

theorem heap_base {β : Env} {bl : Bls} {w : World} (hh : Heap β bl w) {l : Nat} {c : Ct} (hl : lvl bl l = some c) (hc : c.cell = false) : ∃ b s, β.b[l]? = some (some (b, s)) := by
  obtain ⟨base, e, hin⟩ := hh.lv l c (lvl_get hl)
  cases base with
  | none => exact (csDen_not hc hin).elim
  | some p => exact ⟨p.1, p.2, e⟩

/-! ### operations -/
section
variable {P : Program} {β : Env} {tm : TM} {ρ : Operand → Value} {o : Oper} {vc : Bool} {r : AV} {bl bl' : Bls} {w : World} {lk : List Nat}

/-- Levels stay, or are given up. -/
def Kl (bl bl' : Bls) : Prop := ∀ q c, lvl bl q = some c → lvl bl' q = some c ∨ lvl bl' q = none

theorem Kl.refl (bl : Bls) : Kl bl bl := fun _ _ h => .inl h
theorem Kl.kill (bl : Bls) (l : Nat) : Kl bl (setl bl l none) := fun q c h => by
  by_cases e : q = l
  · subst e
    right
    rw [lvl_join, setl_set, List.getElem?_set, if_pos rfl]
    split <;> rfl
  · left; rw [lvl_ne e]; exact h
theorem Kl.none_of {bl bl' : Bls} (h : bl'.length = bl.length) {q : Nat} {c : Ct} (hq : lvl bl q = some c) : q < bl'.length := by
  rw [h]; exact (List.getElem?_eq_some_iff.1 (lvl_get hq)).1

structure Kll (bl bl' : Bls) : Prop where
  k : Kl bl bl'
  n : ∀ q, q < bl.length → lvl bl q = none → lvl bl' q = none
  len : bl'.length = bl.length

theorem Kll.refl (bl : Bls) : Kll bl bl := ⟨.refl _, fun _ _ h => h, rfl⟩
theorem Kll.kill (bl : Bls) (l : Nat) : Kll bl (setl bl l none) := by
  refine ⟨.kill _ _, fun q _ h => ?_, by rw [setl_set]; simp⟩
  by_cases e : q = l
  · subst e
    rw [lvl_join, setl_set, List.getElem?_set, if_pos rfl]
    split <;> rfl
  · rw [lvl_ne e]; exact h
theorem Kll.trans {a b c : Bls} (h : Kll a b) (k : Kll b c) : Kll a c := by
  refine ⟨fun q x hx => ?_, fun q hq hn => k.n q (by rw [h.len]; exact hq) (h.n q hq hn), k.len.trans h.len⟩
  rcases h.k q x hx with h1 | h1
  · exact k.k q x h1
  · exact .inr (k.n q (Kl.none_of h.len hx) h1)

theorem Kll.app {a b : Bls} (h : Kll a b) (bs : Bls) : Kl a (b ++ bs) := fun q c hq => by
  have hlt := Kl.none_of h.len hq
  rcases h.k q c hq with h1 | h1
  · exact .inl (lvl_app h1)
  · right
    rw [lvl_join, List.getElem?_append_left hlt, ← lvl_join]; exact h1

theorem kll_killO (l : Option Nat) (bl : Bls) : Kll bl (killO l bl) := by
  cases l with
  | none => exact .refl _
  | some l => exact .kill _ _

theorem kll_hd1 {x x' : AV} {vc : Bool} {bl bl' : Bls} (h : hd1 bl x = some (vc, x', bl')) : Kll bl bl' := by
  unfold hd1 at h
  repeat' split at h
  all_goals first
    | cases h; done
    | (simp only [Option.some.injEq, Prod.mk.injEq] at h; rw [← h.2.2]; first | exact .refl _ | exact .kill _ _)

theorem kll_hdL : ∀ {xs xs' : List AV} {vc : Bool} {bl bl' : Bls}, hdL bl xs = some (vc, xs', bl') → Kll bl bl'
  | [], _, _, _, _, h => by
    simp only [hdL, Option.some.injEq, Prod.mk.injEq] at h
    rw [← h.2.2]; exact .refl _
  | x :: xs, _, _, _, _, h => by
    simp only [hdL] at h
    split at h
    · rename_i e1
      split at h
      · rename_i e2
        simp only [Option.some.injEq, Prod.mk.injEq] at h
        rw [← h.2.2]
        exact (kll_hd1 e1).trans (kll_hdL e2)
      · cases h
    · cases h

theorem kll_srcR {w : Nat} {x : AV} {vc : Bool} {rs : List (List AV)} {bl bl' : Bls} (h : srcR w bl x = some (vc, rs, bl')) : Kll bl bl' := by
  unfold srcR at h
  repeat' split at h
  all_goals first
    | cases h; done
    | (simp only [Option.some.injEq, Prod.mk.injEq] at h; rw [← h.2.2]; first | exact .refl _ | exact kll_hdL (by assumption))

theorem alive_keep {bl bl' : Bls} (hk : Kl bl bl') : ∀ {lk : List Nat}, alive bl bl' lk = true → Kp lk bl bl'
  | [], _ => fun q hq => by cases hq
  | q0 :: lk, h => fun q hq c hc hl => by
    simp only [alive] at h
    rcases List.mem_cons.1 hq with rfl | hq
    · rw [hl] at h
      simp only at h
      split at h
      · rename_i c' e
        rcases hk q c hl with h1 | h1
        · exact h1
        · rw [h1] at e; cases e
      · cases h
    · have h' : alive bl bl' lk = true := by
        split at h
        · exact h
        · split at h
          · exact h
          · cases h
      exact alive_keep hk h' q hq c hc hl

theorem kl_appRR {sz by_ : Nat} {c1 c2 : Bool} {l : Option Nat} {olds news : List (List AV)} {bl1 : Bls} {rm : Option (Nat × List (List AV))} (hk : Kll bl bl1) (h : appRR sz by_ c1 c2 l olds news bl1 rm = some (vc, r, bl')) : Kl bl bl' := by
  unfold appRR at h
  repeat' split at h
  all_goals
    simp only [Option.some.injEq, Prod.mk.injEq] at h
    rw [← h.2.2]
    first | exact (hk.trans (kll_killO _ _)).app _ | exact hk.app _
theorem kl_appNN {k : IntKind} {by_ : Nat} {c1 c2 : Bool} {l : Option Nat} {olds news : List Int} {rm : Option (Nat × List Int)} (h : appNN k by_ c1 c2 l olds news bl rm = some (vc, r, bl')) : Kl bl bl' := by
  unfold appNN at h
  repeat' split at h
  all_goals
    simp only [Option.some.injEq, Prod.mk.injEq] at h
    rw [← h.2.2]
    first | exact (kll_killO _ _).app _ | exact (Kll.refl _).app _
theorem quiet_keep (h : eop1 P tm bl o.op = some (vc, r, bl') ∨ eop2 P tm bl o.op = some (vc, r, bl')) (hq : quiet tm bl lk bl' o.op = true) : Kp lk bl bl' := by
  cases lk with
  | nil => intro q hq; cases hq
  | cons q0 lk =>
    simp only [quiet] at hq
    split at hq
    · rename_i t hop
      rw [hop] at h
      rcases h with h | h
      · simp only [eop1] at h
        split at h
        · split at h
          · simp only [Option.some.injEq, Prod.mk.injEq] at h
            rw [← h.2.2]; exact Kp.app _ _ _
          · cases h
        · cases h
      · simp [eop2] at h
    · rename_i t x hop
      rw [hop] at h
      rcases h with h | h
      · simp only [eop1] at h
        split at h
        · split at h
          · simp only [Option.some.injEq, Prod.mk.injEq] at h
            rw [← h.2.2]; exact Kp.app _ _ _
          · cases h
        · cases h
      · simp [eop2] at h
    · rename_i t n ps hop
      rw [hop] at h
      rcases h with h | h
      · simp only [eop1] at h
        repeat' split at h
        all_goals first
          | cases h; done
          | (simp only [Option.some.injEq, Prod.mk.injEq] at h; rw [← h.2.2]; exact Kp.app _ _ _)
      · simp [eop2] at h
    · rename_i t x y hop
      rw [hop] at h
      rcases h with h | h
      · simp only [eop1] at h
        repeat' split at h
        all_goals first
          | cases h; done
          | (simp only [Option.some.injEq, Prod.mk.injEq] at h; rw [← h.2.2]; exact Kp.app _ _ _)
      · simp [eop2] at h
    · rename_i s d x hop
      rw [hop] at h
      rcases h with h | h
      · simp [eop1] at h
      · simp only [eop2] at h
        repeat' split at h
        all_goals first
          | cases h; done
          | (simp only [Option.some.injEq, Prod.mk.injEq] at h; rw [← h.2.2]; first | exact Kp.app _ _ _ | exact Kp.refl _ _)
    · rename_i c hop
      split at hq
      · rename_i hcal
        obtain ⟨callee, args, argTypes⟩ := c
        simp only at hcal
        subst hcal
        rw [hop] at h
        rcases h with h | h
        · simp [eop1] at h
        · refine alive_keep ?_ hq
          simp only [eop2] at h
          repeat' split at h
          all_goals first
            | cases h; done
            | exact kl_appRR (kll_srcR (by assumption)) h
            | exact kl_appRR (Kll.refl _) h
            | exact kl_appNN h
            | (simp only [Option.some.injEq, Prod.mk.injEq] at h; rw [← h.2.2]; first | exact (kll_killO _ _).app _ | exact ((kll_srcR (by assumption)).trans (kll_killO _ _)).app _)
      · cases hq
    · rename_i t a x hop
      rw [hop] at h
      rcases h with h | h
      · split at hq
        · rename_i l i w' k he
          simp only [Bool.and_eq_true, Bool.not_eq_true'] at hq
          have hnot : l ∉ q0 :: lk := fun hm => by
            have := List.contains_iff_mem.2 hm
            rw [hq.1] at this; cases this
          simp only [eop1, he] at h
          split at h
          · split at h
            · rename_i hl
              simp [hl] at hq
            · split at h
              · simp only [Option.some.injEq, Prod.mk.injEq] at h
                rw [← h.2.2]; exact Kp.out hnot
              · cases h
            · cases h
          · cases h
        · cases hq
      · simp [eop2] at h
    · cases hq

theorem sop_val (h : sop P tm bl lk o.op = .val vc r bl') (hv : vc = true) : (pop P tm o.op = some (true, r) ∧ bl' = bl) ∨ (lop P tm bl o.op = some (true, r) ∧ bl' = bl) ∨
    ((eop1 P tm bl o.op = some (true, r, bl') ∨ eop2 P tm bl o.op = some (true, r, bl')) ∧ quiet tm bl lk bl' o.op = true) := by
  subst hv
  have hM : ∀ {op : Op}, sopM P tm bl lk op = .val true r bl' → ((eop1 P tm bl op = some (true, r, bl') ∨ eop2 P tm bl op = some (true, r, bl')) ∧ quiet tm bl lk bl' op = true) := by
    intro op h
    unfold sopM at h
    split at h
    · rename_i vc' r' bl2 e
      simp only [SO.val.injEq, Bool.and_eq_true] at h
      obtain ⟨⟨rfl, hq⟩, rfl, rfl⟩ := h
      exact ⟨.inl e, hq⟩
    · split at h
      · rename_i vc' r' bl2 e
        simp only [SO.val.injEq, Bool.and_eq_true] at h
        obtain ⟨⟨rfl, hq⟩, rfl, rfl⟩ := h
        exact ⟨.inr e, hq⟩
      · cases h
  have hR : ∀ {op : Op}, sopR P tm bl lk op = .val true r bl' → (lop P tm bl op = some (true, r) ∧ bl' = bl) ∨ ((eop1 P tm bl op = some (true, r, bl') ∨ eop2 P tm bl op = some (true, r, bl')) ∧ quiet tm bl lk bl' op = true) := by
    intro op h
    unfold sopR at h
    split at h
    · rename_i vc' r' e
      simp only [SO.val.injEq] at h
      obtain ⟨rfl, rfl, rfl⟩ := h
      exact .inl ⟨e, rfl⟩
    · exact .inr (hM h)
  generalize o.op = op at *
  unfold sop at h
  split at h
  · rename_i c
    split at h
    · rename_i f hc
      unfold calleeS at h
      simp only [hc] at h
      split at h <;> cases h
    · split at h
      · rename_i vc' r' e
        simp only [SO.val.injEq] at h
        obtain ⟨rfl, rfl, rfl⟩ := h
        exact .inl ⟨e, rfl⟩
      · exact .inr (.inr (hM h))
  · split at h
    · rename_i vc' r' e
      simp only [SO.val.injEq] at h
      obtain ⟨rfl, rfl, rfl⟩ := h
      exact .inl ⟨e, rfl⟩
    · exact .inr (hR h)

theorem Eff.of_val {y : Value} (hh : Heap β bl w) (hy : Den β r y) (hr : (execOp ρ o).run P w = .ok (.value y) w) : Eff P β bl w ρ o r bl := ⟨y, w, β, .inl hr, hy, .refl hh⟩

theorem sop_val_sound (hev : EvOk β tm ρ) (hh : Heap β bl w) (h : sop P tm bl lk o.op = .val vc r bl') (hv : vc = true) : Eff P β bl w ρ o r bl' ∧ Kp lk bl bl' := by
  rcases sop_val h hv with ⟨h', rfl⟩ | ⟨h', rfl⟩ | ⟨h, hq⟩
  · obtain ⟨y, hy, hr⟩ := pop_sound hev h' rfl
    exact ⟨.of_val hh hy (hr w), .refl _ _⟩
  · obtain ⟨y, hy, hr⟩ := lop_sound hev hh h' rfl
    exact ⟨.of_val hh hy hr, .refl _ _⟩
  · refine ⟨?_, quiet_keep h hq⟩
    rcases h with h | h
    · exact eop1_sound hev hh h rfl
    · exact eop2_sound hev hh h rfl

theorem sop_callee {so : SO} (h : sop P tm bl lk o.op = so) (hn : ∀ vc r bl', so ≠ .val vc r bl') (hs : so ≠ .stop) : ∃ c f, o.op = .call c ∧ c.callee = .value f ∧ calleeS tm c = so := by
  have hM : ∀ {op : Op}, sopM P tm bl lk op = so → False := by
    intro op h
    unfold sopM at h
    split at h
    · exact hn _ _ _ h.symm
    · split at h
      · exact hn _ _ _ h.symm
      · exact hs h.symm
  have hR : ∀ {op : Op}, sopR P tm bl lk op = so → False := by
    intro op h
    unfold sopR at h
    split at h
    · exact hn _ _ _ h.symm
    · exact hM h
  generalize o.op = op at *
  unfold sop at h
  split at h
  · rename_i c
    split at h
    · rename_i f hc
      exact ⟨c, f, rfl, hc, h⟩
    · split at h
      · exact (hn _ _ _ h.symm).elim
      · exact (hM h).elim
  · split at h
    · exact (hn _ _ _ h.symm).elim
    · exact (hR h).elim

theorem fi_enter {g : FuncId} {F : FI} (hf : fi P g = some F) (args : Array Value) : (callFunc g args).run P w = .ok (.enter g args) w := by
  unfold fi at hf
  split at hf
  · rename_i fn hfn
    split at hf
    · rename_i c hc
      split at hf
      · cases hf
      · rename_i hne
        unfold callFunc
        have hne' : (fn.name == "runtime.NumGoroutine") = false := by simpa using hne
        have hne2 : ¬ fn.name = "runtime.NumGoroutine" := by simpa using hne
        simp [Sem.run, Sem.run_bind, program, hfn, hne', hne2, hc, Result.andThen]
    · cases hf
  · cases hf

theorem sop_callF {g : FuncId} {args : List AV} (hev : EvOk β tm ρ) (h : sop P tm bl lk o.op = .call g args) :
    ∃ vs : List Value, DenL β args vs ∧ (execOp ρ o).run P w = (callFunc g vs.toArray).run P w := by
  obtain ⟨c, f, hop, hc, hs⟩ := sop_callee h (by simp) (by simp)
  unfold calleeS at hs
  simp only [hc] at hs
  split at hs
  · rename_i g' fst caps he
    simp only [SO.call.injEq] at hs
    obtain ⟨rfl, rfl⟩ := hs
    have hd := hev f
    rw [he] at hd
    simp only [Den] at hd
    obtain ⟨xs, ys, hv, h1, h2⟩ := hd
    refine ⟨xs ++ (c.args.toList.map ρ ++ ys), denL_append h1 (denL_append (denL_map hev _) h2), ?_⟩
    have harr : (xs ++ (c.args.toList.map ρ ++ ys)).toArray = xs.toArray ++ c.args.map ρ ++ ys.toArray := by
      apply Array.ext'; simp
    rw [harr]
    unfold execOp
    simp only [hop, resolve, hc, hv]
    simp [Deferred.ofValue, Sem.run_bind, Sem.run_pure, Result.andThen, invoke]
  · cases hs
  · cases hs

theorem sop_call {g : FuncId} {args : List AV} {F : FI} (hev : EvOk β tm ρ) (h : sop P tm bl lk o.op = .call g args) (hf : fi P g = some F) :
    ∃ vs : List Value, DenL β args vs ∧ (execOp ρ o).run P w = .ok (.enter g vs.toArray) w := by
  obtain ⟨vs, h1, h2⟩ := sop_callF (w := w) hev h
  exact ⟨vs, h1, h2.trans (fi_enter hf _)⟩

theorem sop_yld {l : Nat} {args : List AV} (hev : EvOk β tm ρ) (h : sop P tm bl lk o.op = .yld l args) :
    ∃ (vs : List Value) (b s : Nat), DenL β args vs ∧ β.b[l]? = some (some (b, s)) ∧ (execOp ρ o).run P w = (Instr.yield b vs.toArray).run P w := by
  obtain ⟨c, f, hop, hc, hs⟩ := sop_callee h (by simp) (by simp)
  unfold calleeS at hs
  simp only [hc] at hs
  split at hs
  · cases hs
  · rename_i l' he
    simp only [SO.yld.injEq] at hs
    obtain ⟨rfl, rfl⟩ := hs
    have hd := hev f
    rw [he] at hd
    simp only [Den] at hd
    obtain ⟨b, s, hb, hv⟩ := hd
    refine ⟨c.args.toList.map ρ, b, s, denL_map hev _, hb, ?_⟩
    have harr : (c.args.toList.map ρ).toArray = c.args.map ρ := by apply Array.ext'; simp
    rw [harr]
    unfold execOp
    simp only [hop, resolve, hc, hv]
    simp [Deferred.ofValue, Sem.run_bind, Sem.run_pure, Result.andThen, invoke]
  · cases hs

theorem sop_not_defer {so : SO} (h : sop P tm bl lk o.op = so) (hs : so ≠ .stop) : ∀ c, o.op ≠ .defer c := by
  intro c e
  rw [e] at h
  simp only [sop, pop, sopR, lop, sopM, eop1, eop2] at h
  exact hs h.symm

end

end Go.SY
