/-
  The symbolic machine: what is written; memory read, written, made, given up and frozen in a world.
-/
import Derived.Test.YtdoeopcimhpjaaaSy2
set_option linter.unusedSimpArgs false
set_option linter.unusedVariables false
namespace Go.SY
open Go

/-- Cells laid over others, from cell o on. -/
def wrC : List AV → Nat → List AV → Nat → Option (List AV)
  | [], o, fs, sz => if o = 0 then (if sz = 0 then some fs else none) else none
  | c :: cs, o, fs, sz => (match c with
    | .ch n k xs => if o < n then (match fs with
        | [.v (.int k' z)] => if k' = k then (if sz = 1 then some (.ch n k (xs.set o z) :: cs) else none) else none
        | [.ch m k' zs] => if k' = k then (if m = sz then (if o + m ≤ n then some (.ch n k (xs.take o ++ (zs ++ xs.drop (o + m))) :: cs) else none) else none) else none
        | fs => if o = 0 then (match dr (.ch n k xs :: cs) sz with
          | some b => some (fs ++ b)
          | none => none) else none)
      else (match wrC cs (o - n) fs sz with
        | some r => some (.ch n k xs :: r)
        | none => none)
    | c => if o = 0 then (match dr (c :: cs) sz with
        | some b => some (fs ++ b)
        | none => none)
      else (match wrC cs (o - 1) fs sz with
        | some r => some (c :: r)
        | none => none))

theorem wrC_sound {β : Env} {sz : Nat} {fs : List AV} {us : List Value} (hf : DenC β fs us) (hu : us.length = sz) : ∀ {cs r : List AV} {ys : List Value} {o : Nat}, DenC β cs ys → wrC cs o fs sz = some r →
    o + sz ≤ ys.length ∧ DenC β r (ys.take o ++ (us ++ ys.drop (o + sz)))
  | [], r, ys, o, h, he => by
    simp only [wrC] at he
    split at he
    · rename_i h0
      split at he
      · rename_i h1
        obtain rfl := Option.some.inj he
        simp only [DenC] at h
        subst h; subst h0
        exact ⟨by simp [h1], by simpa using hf⟩
      · cases he
    · cases he
  | c :: cs, r, ys, o, h, he => by
    have gen : o = 0 → (match dr (c :: cs) sz with
        | some b => some (fs ++ b)
        | none => none) = some r → o + sz ≤ ys.length ∧ DenC β r (ys.take o ++ (us ++ ys.drop (o + sz))) := by
      intro h0 he
      split at he
      · rename_i b hb
        obtain rfl := Option.some.inj he
        obtain ⟨h1, h2⟩ := denC_dr h hb
        subst h0
        exact ⟨by omega, by simpa using denC_append hf h2⟩
      · cases he
    rcases denC_case h with ⟨hs, y, zs, rfl, h1, h2, h3⟩ | ⟨n, k, ns, rfl, zs, rfl, h1, h2, h3⟩
    · have he' : (if o = 0 then (match dr (c :: cs) sz with
          | some b => some (fs ++ b)
          | none => none)
        else (match wrC cs (o - 1) fs sz with
          | some r => some (c :: r)
          | none => none)) = some r := by
        cases c <;> first | exact he | (simp [AV.scal] at hs)
      split at he'
      · rename_i h0
        exact gen h0 he'
      · rename_i h0
        split at he'
        · rename_i r' hr
          obtain rfl := Option.some.inj he'
          obtain ⟨h4, h5⟩ := wrC_sound hf hu h3 hr
          obtain ⟨o', rfl⟩ : ∃ o', o = o' + 1 := ⟨o - 1, by omega⟩
          refine ⟨by simp; omega, ?_⟩
          rw [show o' + 1 + sz = (o' + sz) + 1 by omega, List.take_succ_cons, List.drop_succ_cons, List.cons_append]
          exact (denC_cons hs).2 ⟨y, _, rfl, h1, h2, h5⟩
        · cases he'
    · simp only [wrC] at he
      split at he
      · rename_i hlt
        split at he
        · rename_i k' z
          split at he
          · rename_i hk
            subst hk
            split at he
            · rename_i hsz
              obtain rfl := Option.some.inj he
              subst hsz
              obtain ⟨y, zs', rfl, hy, -, h5⟩ := (denC_cons (by rfl)).1 hf
              simp only [DenC] at h5
              subst h5
              simp only [Den, wfV] at hy
              obtain ⟨rfl, -, hz⟩ := hy
              have hlt' : o < ns.length := by omega
              refine ⟨by simp; omega, ?_⟩
              refine denC_ch.2 ⟨zs, ?_, by simp [h1], okN_set h2 hz, h3⟩
              rw [List.map_set, List.set_eq_take_append_cons_drop, if_pos (by simpa using hlt'), List.take_append_of_le_length (by simp; omega), List.drop_append_of_le_length (by simp; omega)]
              simp
            · cases he
          · cases he
        · rename_i m k' ms
          split at he
          · rename_i hk
            subst hk
            split at he
            · rename_i hm
              split at he
              · rename_i hfit
                obtain rfl := Option.some.inj he
                subst hm
                obtain ⟨zs', h6, h7, h8, h9⟩ := denC_ch.1 hf
                simp only [DenC] at h9
                subst h9
                simp only [List.append_nil] at h6
                subst h6
                refine ⟨by simp [h1]; omega, ?_⟩
                refine denC_ch.2 ⟨zs, ?_, by simp [h1, h7]; omega, okN_append (okN_take h2 _) (okN_append h8 (okN_drop h2 _)), h3⟩
                rw [List.take_append_of_le_length (by simp [h1]; omega), List.drop_append_of_le_length (by simp [h1]; omega)]
                simp
              · cases he
            · cases he
          · cases he
        · rename_i q1 q2
          split at he
          · rename_i h0
            exact gen h0 he
          · cases he
      · rename_i hlt
        split at he
        · rename_i r' hr
          obtain rfl := Option.some.inj he
          obtain ⟨h4, h5⟩ := wrC_sound hf hu h3 hr
          refine ⟨by simp [h1]; omega, ?_⟩
          refine denC_ch.2 ⟨_, ?_, h1, h2, h5⟩
          rw [List.take_append, List.take_of_length_le (by simp; omega), List.drop_append, List.drop_of_length_le (by simp; omega)]
          simp only [List.length_map, h1, List.nil_append, List.append_assoc]
          rw [show o + sz - n = o - n + sz by omega]
        · cases he

def wrCt (c : Ct) (i w k : Nat) (x : AV) (sz : Nat) : Option (Bool × Ct) :=
  match c with
  | .lit cs => (match flat x sz with
    | some fs => (match wrC cs (i * w + k) fs sz with
      | some r => some (true, .lit r)
      | none => none)
    | none => none)
  | .num kk xs => (match x with
    | .v (.int k' z) => if k' = kk then (if k = 0 then (if w = 1 then (if sz = 1 then some (decide (i < xs.length), .num kk (xs.set i z)) else none) else none) else none) else none
    | .ch n k' zs => if k' = kk then (if n = sz then (if i * w + k = 0 then some (decide (xs.length = sz), .num kk zs) else none) else none) else none
    | _ => none)
  | .rows w' rs => if w = w' then (match flat x sz with
      | some fs => if k = 0 ∧ sz = w then some (decide (i < rs.length), .rows w (rs.set i fs))
          else (match wrC (rs[i]?.getD []) k fs sz with
            | some r => some (decide (i < rs.length), .rows w (rs.set i r))
            | none => none)
      | none => none) else none
  | _ => none

theorem denR_set {β : Env} {w : Nat} {r : List AV} {us : List Value} (hr : DenC β r us) (hu : us.length = w) : ∀ {rs : List (List AV)} {ys : List Value} {i : Nat}, DenR β w rs ys → i < rs.length →
    DenR β w (rs.set i r) (ys.take (i * w) ++ (us ++ ys.drop (i * w + w)))
  | [], _, i, _, h => by simp at h
  | r0 :: rs, ys, 0, h, _ => by
    simp only [DenR] at h
    obtain ⟨vs, zs, rfl, h0, h1, h2⟩ := h
    simp only [List.set_cons_zero, DenR, Nat.zero_mul, List.take_zero, List.nil_append, Nat.zero_add]
    exact ⟨us, zs, by rw [List.drop_append, List.drop_of_length_le (by omega), h0]; simp, hu, hr, h2⟩
  | r0 :: rs, ys, i + 1, h, hi => by
    simp only [DenR] at h
    obtain ⟨vs, zs, rfl, h0, h1, h2⟩ := h
    have ih := denR_set hr hu (i := i) h2 (by simpa using hi)
    simp only [List.set_cons_succ, DenR]
    refine ⟨vs, _, ?_, h0, h1, ih⟩
    have e : (i + 1) * w = vs.length + i * w := by rw [h0, Nat.add_mul]; omega
    rw [e, List.take_length_add_append, show vs.length + i * w + w = vs.length + (i * w + w) by omega, List.drop_length_add_append]
    simp

theorem take_row {ys us : List Value} {p w k sz : Nat} {vs : List Value} (hj : ∀ j, j < w → ys[p + j]? = us[j]?) (hu : us.length = w) (hl : p + w ≤ ys.length) (hks : k + sz ≤ w) (hv : vs.length = sz) :
    ys.take (p + k) ++ (vs ++ ys.drop (p + k + sz)) = ys.take p ++ ((us.take k ++ (vs ++ us.drop (k + sz))) ++ ys.drop (p + w)) := by
  have e0 : (ys.drop p).take w = us := by
    apply List.ext_getElem?
    intro j
    by_cases h : j < w
    · rw [List.getElem?_take_of_lt h, List.getElem?_drop, hj j h]
    · rw [List.getElem?_eq_none (by simp; omega), List.getElem?_eq_none (by omega)]
  have e1 : ys.take (p + k) = ys.take p ++ us.take k := by
    rw [List.take_add, ← e0, List.take_take, Nat.min_eq_left (by omega)]
  have e2 : ys.drop (p + k + sz) = us.drop (k + sz) ++ ys.drop (p + w) := by
    have : ys.drop p = us ++ ys.drop (p + w) := by rw [← e0, ← List.drop_drop, List.take_append_drop]
    rw [Nat.add_assoc, ← List.drop_drop, this, List.drop_append_of_le_length (by omega)]
  rw [e1, e2]; simp

theorem wrCt_sound {β : Env} {c c' : Ct} {i w k sz : Nat} {x : AV} {y : Value} {vc : Bool} {ys : List Value} (hc : CsDen β c ys) (hx : Den β x y) (h : wrCt c i w k x sz = some (vc, c')) (hvc : vc = true) :
    y.cells.toList.length = sz ∧ (∀ u ∈ y.cells.toList, one u = true) ∧ i * w + k + sz ≤ ys.length ∧ c'.cell = true ∧ CsDen β c' (ys.take (i * w + k) ++ (y.cells.toList ++ ys.drop (i * w + k + sz))) := by
  cases c with
  | lit cs =>
    simp only [CsDen] at hc
    simp only [wrCt] at h
    split at h
    · rename_i fs hf
      split at h
      · rename_i r hr
        obtain ⟨rfl, rfl⟩ := Prod.mk.inj (Option.some.inj h)
        obtain ⟨h1, h2⟩ := den_flat hx hf
        obtain ⟨h3, h4⟩ := wrC_sound h1 h2 hc hr
        exact ⟨h2, denC_ones h1, h3, rfl, h4⟩
      · cases h
    · cases h
  | num kk xs =>
    simp only [CsDen] at hc
    obtain ⟨rfl, hok⟩ := hc
    simp only [wrCt] at h
    split at h
    · rename_i k' z
      split at h
      · rename_i hk'
        split at h
        · rename_i hk0
          split at h
          · rename_i hw1
            split at h
            · rename_i hs1
              obtain ⟨rfl, rfl⟩ := Prod.mk.inj (Option.some.inj h)
              subst hk'; subst hk0; subst hw1; subst hs1
              have hlt : i < xs.length := by simpa using hvc
              simp only [Den, wfV] at hx
              obtain ⟨rfl, -, hz⟩ := hx
              refine ⟨by simp [Value.cells], by simp [Value.cells, one], by simp; omega, rfl, ?_⟩
              simp only [CsDen, Nat.mul_one, Nat.add_zero, Value.cells]
              rw [List.map_set, List.set_eq_take_append_cons_drop, if_pos (by simpa using hlt)]
              exact ⟨by simp, okN_set hok hz⟩
            · cases h
          · cases h
        · cases h
      · cases h
    · rename_i n k' zs
      split at h
      · rename_i hk'
        split at h
        · rename_i hn
          split at h
          · rename_i h0
            obtain ⟨rfl, rfl⟩ := Prod.mk.inj (Option.some.inj h)
            have hl : xs.length = sz := by simpa using hvc
            subst hk'
            simp only [Den] at hx
            obtain ⟨rfl, h1, h2⟩ := hx
            refine ⟨by simp [Value.cells, h1, hn], by simp [Value.cells, one], by rw [h0]; simp [hl], rfl, ?_⟩
            rw [h0, List.take_zero, List.nil_append, Nat.zero_add, List.drop_of_length_le (by simp [hl]), List.append_nil]
            exact ⟨by simp [Value.cells], h2⟩
          · cases h
        · cases h
      · cases h
    · cases h
  | rows w' rs =>
    simp only [CsDen] at hc
    simp only [wrCt] at h
    split at h
    · rename_i hw
      subst hw
      split at h
      · rename_i fs hf
        obtain ⟨h1, h2⟩ := den_flat hx hf
        split at h
        · rename_i hk
          obtain ⟨rfl, rfl⟩ := hk
          obtain ⟨rfl, rfl⟩ := Prod.mk.inj (Option.some.inj h)
          have hlt : i < rs.length := by simpa using hvc
          obtain ⟨us, -, h4, h5, h6⟩ := denR_row hc hlt
          exact ⟨h2, denC_ones h1, by omega, rfl, denR_set h1 h2 hc hlt⟩
        · split at h
          · rename_i r hr
            obtain ⟨rfl, rfl⟩ := Prod.mk.inj (Option.some.inj h)
            have hlt : i < rs.length := by simpa using hvc
            obtain ⟨us, h3, h4, h5, h6⟩ := denR_row hc hlt
            obtain ⟨h7, h8⟩ := wrC_sound h1 h2 h3 hr
            refine ⟨h2, denC_ones h1, by omega, rfl, ?_⟩
            simp only [CsDen]
            rw [take_row h5 h4 h6 (by omega) h2]
            exact denR_set h8 (by simp [h2, h4]; simp at h2; omega) hc hlt
          · cases h
      · cases h
    · cases h
  | _ => exact hc.elim

/-! ### memory -/
theorem one_oneCell {v : Value} (h : one v = true) : v.oneCell' = true := by cases v <;> simp_all [one, Value.oneCell']

theorem add_lit (b o n : Nat) : (⟨b, o, none⟩ : Addr).add n = ⟨b, o + n, none⟩ := by unfold Addr.add; split <;> simp_all

section
variable {P : Program} {β : Env} {w : World}

/-- Cells that lie in a world. -/
def InW (w : World) (b o : Nat) (ys : List Value) : Prop := ∃ cs T fz, w.heap[b]? = some (.cells cs T fz) ∧ ∀ (j : Nat) (v : Value), ys[j]? = some v → cs[o + j]? = some v

theorem cell_of {b o j : Nat} {ys : List Value} {v : Value} (h : InW w b o ys) (hj : ys[j]? = some v) : w.cell? ⟨b, o + j, none⟩ = some v := by
  obtain ⟨cs, T, fz, hg, hcs⟩ := h
  simp [World.cell?, hg, hcs j v hj]

theorem InW.of_heap {bl : Bls} (hh : Heap β bl w) {t : Bool} {b o : Nat} {ys : List Value} (h : Cells (β.fz t) b o ys) : InW w b o ys := by
  obtain ⟨cs, h1, h2⟩ := h
  obtain ⟨⟨T, fz, h3⟩, -⟩ := hh.frz t b cs h1
  exact ⟨cs, T, fz, h3, h2⟩

/-- A level's cells. -/
theorem heap_cells {bl : Bls} (hh : Heap β bl w) {l b s : Nat} {c : Ct} (hl : lvl bl l = some c) (hb : β.b[l]? = some (some (b, s))) (hcell : c.cell = true) :
    ∃ ys sp T fz, w.heap[b]? = some (.cells (ys ++ sp).toArray T fz) ∧ ys.length + sp.length = s ∧ CsDen β c ys ∧ (∀ x ∈ sp, SpV (spk c) x) ∧ FzOk (spz c) fz s := by
  obtain ⟨base, e, hin⟩ := hh.lv l c (lvl_get hl)
  rw [hb] at e
  obtain rfl := Option.some.inj e
  rcases hin with ⟨-, h⟩ | ⟨h, -⟩
  · exact h
  · rw [hcell] at h; cases h

theorem InW.of_cells {b : Nat} {ys sp : List Value} {T : TypeId} {fz : Nat × Nat} (h : w.heap[b]? = some (.cells (ys ++ sp).toArray T fz)) : InW w b 0 ys :=
  ⟨_, T, fz, h, fun j v hj => by
    have := (List.getElem?_eq_some_iff.1 hj).1
    simp only [Nat.zero_add, List.getElem?_toArray]
    rw [List.getElem?_append_left this, hj]⟩

/-- Behind the end of what is told nothing can be told. -/
theorem csDen_cell {c : Ct} {ys : List Value} (h : CsDen β c ys) : c.cell = true := by cases c <;> first | rfl | exact h.elim

theorem load_rd {t : TypeId} {T : TI} {b o0 o : Nat} {ys : List Value} {r : AV} (ht : ti P t = some T) (hg : InW w b o0 ys) (hr : Rd β ys o T r) :
    ∃ y, (loadVar t ⟨b, o0 + o, none⟩).run P w = .ok y w ∧ Den β r y := by
  rcases hr with ⟨hag, hp, hd⟩ | ⟨hag, y, hy, hd⟩
  · have hl : ((ys.drop o).take T.sz).length = T.sz := by simp; omega
    have hload := run_loadCells_list (P := P) w ⟨b, o0 + o, none⟩ ((ys.drop o).take T.sz) (fun j v hj => by
      rw [add_lit, Nat.add_assoc]
      refine cell_of hg ?_
      have hjlt : j < T.sz := by have := (List.getElem?_eq_some_iff.1 hj).1; omega
      rw [List.getElem?_take_of_lt hjlt, List.getElem?_drop] at hj
      exact hj)
    rw [hl] at hload
    exact ⟨_, by simp only [loadVar, Sem.run_bind, ti_isAgg w ht, Result.andThen_ok, hag, if_true, ti_sizeOf w ht, hload, Sem.run_pure], hd⟩
  · exact ⟨y, by simp [loadVar, ti_isAgg w ht, hag, cell_of hg hy], hd⟩

/-- Cells stored one behind the other. -/
theorem storeCells_run (g o : Nat) (t : TypeId) (fz : Nat × Nat) : ∀ (vs : List Value) (i : Nat) (cur : Array Value) (w : World), w.heap[g]? = some (.cells cur t fz) →
    (∀ j, fz.1 ≤ j → j < fz.2 → cur.size ≤ j) → o + i + vs.length ≤ cur.size → (∀ v ∈ vs, one v = true) →
    (storeCells ⟨g, o, none⟩ vs i).run P w = .ok () (w.setRow g (cur.toList.take (o + i) ++ vs ++ cur.toList.drop (o + i + vs.length)).toArray)
  | [], i, cur, w, hg, _, _, _ => by
    simp only [storeCells, List.append_nil, List.length_nil, Nat.add_zero, List.take_append_drop, Array.toArray_toList]
    rw [setRow_self w g cur t fz hg]
    rfl
  | v :: rest, i, cur, w, hg, hfz, hl, h1 => by
    have hi : o + i < cur.size := by simp at hl; omega
    have hcell : w.cell? ⟨g, o + i, none⟩ = some cur[o + i] := by simp [World.cell?, hg, hi]
    have hfro : w.frozen? ⟨g, o + i, none⟩ = false := by
      obtain ⟨lo, hi'⟩ := fz
      simp only [World.frozen?, hg, Bool.and_eq_false_iff, decide_eq_false_iff_not]
      have := hfz (o + i)
      simp only at this
      omega
    have hst : (store ((⟨g, o, none⟩ : Addr).add i) v).run P w = .ok () (w.setRow g (cur.setIfInBounds (o + i) v)) := by
      rw [add_lit, run_store P w _ v _ (one_oneCell (h1 v (by simp))), hcell]
      simp [hfro, setCell_eq_setRow w g (o + i) cur t fz v hg]
    have ih := storeCells_run g o t fz rest (i + 1) (cur.setIfInBounds (o + i) v) (w.setRow g (cur.setIfInBounds (o + i) v)) (setRow_heap w g cur _ t _ hg)
      (by simpa using hfz) (by simp at hl ⊢; omega) (fun x hx => h1 x (by simp [hx]))
    simp only [storeCells, Sem.run_bind, hst, Result.andThen_ok, ih, setRow_setRow]
    congr 3
    have e := list_seg_step cur.toList (o + i) v rest (by simp at hl ⊢; omega)
    simpa [Array.toList_setIfInBounds, Nat.add_assoc] using e

theorem storeVar_run {t : TypeId} {T : TI} {b p : Nat} {U : TypeId} {fz : Nat × Nat} {ys : List Value} {y : Value} (ht : ti P t = some T)
    (hg : w.heap[b]? = some (.cells ys.toArray U fz)) (hfz : ∀ j, fz.1 ≤ j → j < fz.2 → ys.length ≤ j) (hsz : y.cells.toList.length = T.sz) (h1 : ∀ u ∈ y.cells.toList, one u = true)
    (hp : p + T.sz ≤ ys.length) :
    (storeVar t ⟨b, p, none⟩ y).run P w = .ok () (w.setRow b (ys.take p ++ (y.cells.toList ++ ys.drop (p + T.sz))).toArray) := by
  have hst := storeCells_run (P := P) b p U fz y.cells.toList 0 ys.toArray w hg (by simpa using hfz) (by simp [hsz]; simpa using hp) h1
  have hs : y.cells.size = T.sz := by simpa using hsz
  simp only [storeVar, Sem.run_bind, ti_sizeOf w ht, Result.andThen_ok, hs, ne_eq, not_true_eq_false, if_false]
  simpa [hs] using hst

/-- Levels given up. -/
theorem get_kill {bl : Bls} {l m : Nat} {c : Ct} (h : (bl.set l none)[m]? = some (some c)) : m ≠ l ∧ bl[m]? = some (some c) := by
  rw [List.getElem?_set] at h
  split at h
  · split at h <;> simp at h
  · rename_i hne
    exact ⟨fun e => hne e.symm, h⟩

theorem Owned.kill {bl : Bls} {l b : Nat} (h : Owned β (bl.set l none) b) : Owned β bl b := by
  obtain ⟨m, c, s, hm, hb⟩ := h
  exact ⟨m, c, s, (get_kill hm).2, hb⟩

theorem Heap.kill {bl : Bls} (h : Heap β bl w) (l : Nat) : Ext β bl w β (bl.set l none) w where
  le := .refl _
  heap := {
    len := by simpa using h.len
    lv := fun m c hm => h.lv m c (get_kill hm).2
    sep := fun m m' c c' b s s' hne h1 h2 => h.sep m m' c c' b s s' hne (get_kill h1).2 (get_kill h2).2
    frz := fun t b cs hz => ⟨(h.frz t b cs hz).1, fun ho => (h.frz t b cs hz).2 ho.kill⟩ }
  step := .refl _ _
  own := fun b hb => .inl hb.kill
  zn := fun b cs hz => .inl hz
  y := rfl

/-- A level frozen: nobody writes it any more. -/
theorem Heap.freeze {bl : Bls} (h : Heap β bl w) {l b s : Nat} {c : Ct} {cs : Array Value} {T : TypeId} {fz : Nat × Nat} (hl : bl[l]? = some (some c)) (hb : β.b[l]? = some (some (b, s))) (hg : w.heap[b]? = some (.cells cs T fz)) :
    Ext β bl w { β with z := fun i => if i = b then some cs else β.z i } (bl.set l none) w := by
  have hz0 : ∀ cs', β.z b ≠ some cs' := fun cs' e => (h.frz false b cs' e).2 ⟨l, c, s, hl, hb⟩
  have le : β.le { β with z := fun i => if i = b then some cs else β.z i } := ⟨List.prefix_refl _, fun i cs' e => by
    by_cases hi : i = b
    · subst hi; exact absurd e (hz0 cs')
    · simpa [hi] using e, fun _ _ e => e, rfl⟩
  have ownk : ∀ b', Owned { β with z := fun i => if i = b then some cs else β.z i } (bl.set l none) b' → Owned β bl b' ∧ b' ≠ b := by
    rintro b' ⟨m, c', s', hm, hb'⟩
    obtain ⟨hne, hm⟩ := get_kill hm
    exact ⟨⟨m, c', s', hm, hb'⟩, fun e => by subst e; exact h.sep m l c' c b' s' s hne hm hl hb' hb⟩
  refine ⟨le, ⟨by simpa using h.len, fun m c' hm => ?_, fun m m' c c' b s s' hne h1 h2 => h.sep m m' c c' b s s' hne (get_kill h1).2 (get_kill h2).2, fun t b' cs' hz => ?_⟩, .refl _ _, fun b' hb' => .inl (ownk b' hb').1, fun b' cs' hz => ?_, rfl⟩
  · obtain ⟨base, e, hin⟩ := h.lv m c' (get_kill hm).2
    exact ⟨base, e, hin.mono le⟩
  · cases t with
    | true => exact ⟨(h.frz true b' cs' hz).1, fun ho => (h.frz true b' cs' hz).2 (ownk b' ho).1⟩
    | false =>
      simp only [Env.fz] at hz
      split at hz
      · rename_i e
        subst e
        obtain rfl := Option.some.inj hz
        exact ⟨⟨T, fz, hg⟩, fun ho => (ownk _ ho).2 rfl⟩
      · exact ⟨(h.frz false b' cs' hz).1, fun ho => (h.frz false b' cs' hz).2 (ownk b' ho).1⟩
  · simp only at hz
    split at hz
    · rename_i e
      exact .inr (.inl ⟨l, c, s, hl, e ▸ hb⟩)
    · exact .inl hz

/-- A level written. -/
theorem Heap.write {bl : Bls} {l b s : Nat} {c c' : Ct} {ys sp ys' : List Value} {T : TypeId} {fz : Nat × Nat} (h : Heap β bl w) (hl : bl[l]? = some (some c)) (hb : β.b[l]? = some (some (b, s)))
    (hg : w.heap[b]? = some (.cells (ys ++ sp).toArray T fz)) (hs : ys.length + sp.length = s) (hsp : ∀ x ∈ sp, SpV (spk c) x) (hfz : FzOk (spz c) fz s) (hkd : spk c' = spk c ∧ spz c' = spz c)
    (hc : CsDen β c' ys') (hlen : ys'.length = ys.length) :
    Ext β bl w β (bl.set l (some c')) (w.setRow b (ys' ++ sp).toArray) := by
  have hllt : l < bl.length := (List.getElem?_eq_some_iff.1 hl).1
  have get : ∀ {m : Nat} {c0 : Ct}, (bl.set l (some c'))[m]? = some (some c0) → (m = l ∧ c0 = c') ∨ (m ≠ l ∧ bl[m]? = some (some c0)) := by
    intro m c0 hm
    rw [List.getElem?_set] at hm
    split at hm
    · rename_i e
      subst e
      try rw [if_pos hllt] at hm
      exact .inl ⟨rfl, (Option.some.inj (Option.some.inj hm)).symm⟩
    · rename_i e
      exact .inr ⟨fun h => e h.symm, hm⟩
  have old : ∀ {m : Nat} {c0 : Ct}, (bl.set l (some c'))[m]? = some (some c0) → ∃ c1, bl[m]? = some (some c1) := by
    intro m c0 hm
    rcases get hm with ⟨rfl, -⟩ | ⟨-, h⟩
    · exact ⟨c, hl⟩
    · exact ⟨c0, h⟩
  have ownk : ∀ b', Owned β (bl.set l (some c')) b' → Owned β bl b' := by
    rintro b' ⟨m, c0, s', hm, hb'⟩
    obtain ⟨c1, h1⟩ := old hm
    exact ⟨m, c1, s', h1, hb'⟩
  refine ⟨.refl _, ⟨by simpa using h.len, fun m c0 hm => ?_, fun m m' c0 c1 b0 s0 s1 hne h1 h2 => ?_, fun t b' cs' hz => ?_⟩, ⟨rfl, rfl, rfl, ?_, fun b' _ hno => ?_⟩, fun b' hb' => .inl (ownk b' hb'), fun b' cs' hz => .inl hz, rfl⟩
  · rcases get hm with ⟨rfl, rfl⟩ | ⟨hne, hm⟩
    · exact ⟨_, hb, .inl ⟨csDen_cell hc, ys', sp, T, fz, setRow_heap w b _ _ _ _ hg, by omega, hc, (by rw [hkd.1]; exact hsp), (by rw [hkd.2]; exact hfz)⟩⟩
    · obtain ⟨base, e, hin⟩ := h.lv m c0 hm
      refine ⟨base, e, hin.same fun b' s' hb' => ?_⟩
      subst hb'
      exact setRow_other w b b' _ (fun e3 => h.sep l m c c0 b s s' (fun e4 => hne e4.symm) hl hm hb (by rw [e, e3]))
  · obtain ⟨c2, g1⟩ := old h1
    obtain ⟨c3, g2⟩ := old h2
    exact h.sep m m' c2 c3 b0 s0 s1 hne g1 g2
  · obtain ⟨⟨T', fz', e⟩, hno⟩ := h.frz t b' cs' hz
    refine ⟨⟨T', fz', ?_⟩, fun ho => hno (ownk b' ho)⟩
    rw [setRow_other w b b' _ (fun e3 => hno ⟨l, c, s, hl, e3 ▸ hb⟩)]
    exact e
  · show w.heap.size ≤ (w.heap.modify b _).size
    rw [Array.size_modify]; exact Nat.le_refl _
  · refine setRow_other w b b' _ (fun e => hno ⟨l, c, s, hl, ?_⟩)
    rw [e]; exact hb

/-- A block made. -/
theorem Heap.make {bl : Bls} {c : Ct} {o : Obj} {s : Nat} (h : Heap β bl w) {w' : World} (hw : w'.heap = w.heap.push o) (hos : w'.os = w.os) (htape : w'.tape = w.tape) (hout : w'.output = w.output)
    (hc : CtIn { β with b := β.b ++ [some (w.heap.size, s)] } w' (some (w.heap.size, s)) c) :
    Ext β bl w { β with b := β.b ++ [some (w.heap.size, s)] } (bl ++ [some c]) w' := by
  have le : β.le { β with b := β.b ++ [some (w.heap.size, s)] } := ⟨List.prefix_append _ _, fun _ _ e => e, fun _ _ e => e, rfl⟩
  have hlen := h.len
  have old : ∀ b, b < w.heap.size → w'.heap[b]? = w.heap[b]? := fun b hb => by
    rw [hw, Array.getElem?_push, if_neg (by omega)]
  have get : ∀ {m : Nat} {c' : Ct}, (bl ++ [some c])[m]? = some (some c') → (m < bl.length ∧ bl[m]? = some (some c')) ∨ (m = bl.length ∧ c' = c) := by
    intro m c' hm
    by_cases hlt : m < bl.length
    · rw [List.getElem?_append_left hlt] at hm; exact .inl ⟨hlt, hm⟩
    · have hmm : m = bl.length := by
        have := (List.getElem?_eq_some_iff.1 hm).1
        simp at this; omega
      subst hmm
      simp at hm
      exact .inr ⟨rfl, hm.symm⟩
  have gb : ∀ {m : Nat} {x}, m < bl.length → (β.b ++ [some (w.heap.size, s)])[m]? = some x → β.b[m]? = some x := by
    intro m x hm hx
    rwa [List.getElem?_append_left (by omega)] at hx
  have gn : ∀ {x}, (β.b ++ [some (w.heap.size, s)])[bl.length]? = some x → x = some (w.heap.size, s) := by
    intro x hx
    rw [← hlen] at hx
    simp at hx
    exact hx.symm
  have ownk : ∀ b', Owned { β with b := β.b ++ [some (w.heap.size, s)] } (bl ++ [some c]) b' → Owned β bl b' ∨ w.heap.size ≤ b' := by
    rintro b' ⟨m, c', s', hm, hb'⟩
    rcases get hm with ⟨hlt, h0⟩ | ⟨rfl, rfl⟩
    · exact .inl ⟨m, c', s', h0, gb hlt hb'⟩
    · have e := gn hb'
      simp at e; exact .inr (by omega)
  refine ⟨le, ⟨by simp [hlen], fun m c' hm => ?_, fun m m' c1 c2 b1 s1 s2 hne h1 h2 hb1 hb2 => ?_, fun t b' cs' hz => ?_⟩, ⟨hos, htape, hout, by rw [hw]; simp, fun b hb _ => old b hb⟩, ownk, fun b' cs' hz => .inl hz, rfl⟩
  · rcases get hm with ⟨hlt, h0⟩ | ⟨rfl, rfl⟩
    · obtain ⟨base, hbase, hin⟩ := h.lv m c' h0
      refine ⟨base, by simp only; rw [List.getElem?_append_left (by omega)]; exact hbase, (hin.mono le).same fun b s e => ?_⟩
      subst e
      exact old b (h.lt h0 hbase)
    · exact ⟨some (w.heap.size, s), by simp only; rw [← hlen]; simp, hc⟩
  · rcases get h1 with ⟨l1, g1⟩ | ⟨rfl, rfl⟩ <;> rcases get h2 with ⟨l2, g2⟩ | ⟨rfl, rfl⟩
    · exact h.sep m m' c1 c2 b1 s1 s2 hne g1 g2 (gb l1 hb1) (gb l2 hb2)
    · have e := gn hb2
      have := h.lt g1 (gb l1 hb1)
      simp at e; omega
    · have e := gn hb1
      have := h.lt g2 (gb l2 hb2)
      simp at e; omega
    · exact absurd rfl hne
  · have hz' : β.fz t b' = some cs' := by cases t <;> exact hz
    have hlt := h.frz_lt hz'
    obtain ⟨⟨T, fz, e⟩, hno⟩ := h.frz t b' cs' hz'
    refine ⟨⟨T, fz, by rw [old b' hlt]; exact e⟩, fun ho => ?_⟩
    rcases ownk b' ho with ho | ho
    · exact hno ho
    · omega

theorem nofz {L : Nat} (j : Nat) (_ : (0, 0).1 ≤ j) (h : j < (0, 0).2) : L ≤ j := by simp at h

/-- A row of cells made. -/
theorem Heap.row {bl : Bls} {c : Ct} {ys sp : List Value} (h : Heap β bl w) (ty : TypeId) (hc : CsDen β c ys) (hsp : ∀ x ∈ sp, SpV (spk c) x) {w' : World} (hw : w'.heap = w.heap.push (.cells (ys ++ sp).toArray ty)) (hos : w'.os = w.os)
    (htape : w'.tape = w.tape) (hout : w'.output = w.output) :
    Ext β bl w { β with b := β.b ++ [some (w.heap.size, ys.length + sp.length)] } (bl ++ [some c]) w' := by
  have le : β.le { β with b := β.b ++ [some (w.heap.size, ys.length + sp.length)] } := ⟨List.prefix_append _ _, fun _ _ e => e, fun _ _ e => e, rfl⟩
  exact h.make hw hos htape hout (.inl ⟨csDen_cell hc, ys, sp, ty, (0, 0), by rw [hw]; simp, rfl, hc.mono le, hsp, Nat.le_refl _, nofz, fun _ => rfl⟩)

theorem at_new {bl : Bls} (h : Heap β bl w) {s : Nat} : ({ β with b := β.b ++ [some (w.heap.size, s)] } : Env).b[bl.length]? = some (some (w.heap.size, s)) := by
  simp only; rw [← h.len]; simp

/-- An empty level: no block. -/
theorem Heap.nothing {bl : Bls} {c : Ct} (h : Heap β bl w) (hc : CsDen β c []) : Ext β bl w { β with b := β.b ++ [none] } (bl ++ [some c]) w := by
  have le : β.le { β with b := β.b ++ [Option.none] } := ⟨List.prefix_append _ _, fun _ _ e => e, fun _ _ e => e, rfl⟩
  have hlen := h.len
  have get : ∀ {m : Nat} {c' : Ct}, (bl ++ [some c])[m]? = some (some c') → (m < bl.length ∧ bl[m]? = some (some c')) ∨ (m = bl.length ∧ c' = c) := by
    intro m c' hm
    by_cases hlt : m < bl.length
    · rw [List.getElem?_append_left hlt] at hm; exact .inl ⟨hlt, hm⟩
    · have hmm : m = bl.length := by
        have := (List.getElem?_eq_some_iff.1 hm).1
        simp at this; omega
      subst hmm
      simp at hm
      exact .inr ⟨rfl, hm.symm⟩
  have gb : ∀ {m : Nat} {x}, m < bl.length → (β.b ++ [Option.none])[m]? = some x → β.b[m]? = some x := by
    intro m x hm hx
    rwa [List.getElem?_append_left (by omega)] at hx
  have gn : (β.b ++ [Option.none])[bl.length]? = some Option.none := by rw [← hlen]; simp
  have ownk : ∀ b', Owned { β with b := β.b ++ [Option.none] } (bl ++ [some c]) b' → Owned β bl b' := by
    rintro b' ⟨m, c', s', hm, hb'⟩
    rcases get hm with ⟨hlt, h0⟩ | ⟨rfl, rfl⟩
    · exact ⟨m, c', s', h0, gb hlt hb'⟩
    · simp only at hb'; rw [gn] at hb'; simp at hb'
  refine ⟨le, ⟨by simp [hlen], fun m c' hm => ?_, fun m m' c1 c2 b1 s1 s2 hne h1 h2 hb1 hb2 => ?_, fun t b' cs' hz => ?_⟩, .refl _ _, fun b' hb' => .inl (ownk b' hb'), fun b' cs' hz => .inl hz, rfl⟩
  · rcases get hm with ⟨hlt, h0⟩ | ⟨rfl, rfl⟩
    · obtain ⟨base, hbase, hin⟩ := h.lv m c' h0
      exact ⟨base, by simp only; rw [List.getElem?_append_left (by omega)]; exact hbase, hin.mono le⟩
    · exact ⟨Option.none, gn, hc.mono le⟩
  · rcases get h1 with ⟨l1, g1⟩ | ⟨rfl, rfl⟩
    · rcases get h2 with ⟨l2, g2⟩ | ⟨rfl, rfl⟩
      · exact h.sep m m' c1 c2 b1 s1 s2 hne g1 g2 (gb l1 hb1) (gb l2 hb2)
      · simp only at hb2; rw [gn] at hb2; simp at hb2
    · simp only at hb1; rw [gn] at hb1; simp at hb1
  · have hz' : β.fz t b' = some cs' := by cases t <;> exact hz
    exact ⟨(h.frz t b' cs' hz').1, fun ho => (h.frz t b' cs' hz').2 (ownk b' ho)⟩

end

end Go.SY
