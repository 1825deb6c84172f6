/-
  The symbolic machine: what is written; memory read, written and made in a world.
-/
import Derived.Test.YtconldbakjfbhaaSx3
set_option linter.unusedSimpArgs false
set_option linter.unusedVariables false
namespace Go.SX
open Go

def val1 : AV → Option (List Value)
  | .v x => some [x]
  | .nil => some [.slice none 0 0]
  | .ch _ xs => some xs
  | _ => none

def valsL : List AV → Option (List Value)
  | [] => some []
  | c :: cs => match val1 c with
    | some a => (match valsL cs with
      | some b => some (a ++ b)
      | none => none)
    | none => none

def vals : AV → Option (List Value)
  | .agg xs => valsL xs
  | x => val1 x

theorem cellDen_val1 {β : Env} {x : AV} {ps us : List Value} (h : CellDen β x ps) (hv : val1 x = some us) : ps = us := by
  cases x <;> simp only [val1, Option.some.injEq] at hv <;> simp only [CellDen] at h
  · rw [h.1, hv]
  · rw [h, hv]
  · cases hv
  · cases hv
  · cases hv
  · rw [h.1, hv]
  · cases hv

theorem denC_valsL {β : Env} : ∀ {xs : List AV} {ys us : List Value}, DenC β xs ys → valsL xs = some us → ys = us
  | [], _, _, h, hv => by simp only [DenC] at h; simp only [valsL, Option.some.injEq] at hv; rw [h, hv]
  | c :: cs, _, _, h, hv => by
    simp only [DenC] at h
    obtain ⟨ps, zs, rfl, h1, h2⟩ := h
    simp only [valsL] at hv
    split at hv
    · rename_i a ha
      split at hv
      · rename_i b hb
        obtain rfl := Option.some.inj hv
        rw [cellDen_val1 h1 ha, denC_valsL h2 hb]
      · cases hv
    · cases hv

theorem den_vals {β : Env} {x : AV} {y : Value} {us : List Value} (h : Den β x y) (hv : vals x = some us) : y.cells.toList = us ∧ ∀ u ∈ us, one u = true := by
  cases x with
  | agg xs =>
    simp only [vals] at hv
    simp only [Den] at h
    obtain ⟨ys, rfl, hc⟩ := h
    obtain rfl := denC_valsL hc hv
    exact ⟨by simp [Value.cells], denC_ones hc⟩
  | ch n xs =>
    simp only [vals, val1, Option.some.injEq] at hv
    simp only [Den] at h
    obtain ⟨rfl, -, ho⟩ := h
    subst hv
    exact ⟨by simp [Value.cells], ho⟩
  | v x =>
    simp only [vals, val1, Option.some.injEq] at hv
    simp only [Den] at h
    obtain ⟨rfl, ho⟩ := h
    subst hv
    exact ⟨by rw [one_cells ho], by simpa using ho⟩
  | nil =>
    simp only [vals, val1, Option.some.injEq] at hv
    simp only [Den] at h
    subst h; subst hv
    exact ⟨by simp [Value.cells], by simp [one]⟩
  | _ => simp [vals, val1] at hv

/-- One cell written into a block that is one piece. -/
def wrCh (cs : List AV) (o : Nat) (x : AV) : Option (Prop × Ct) :=
  match cs with
  | [.ch n ys] => (match val1 x with
    | some [y] => some (o < n, .lit [.ch n (ys.set o y)])
    | _ => none)
  | _ => none

def wrCt (c : Ct) (i w k : Nat) (x : AV) (sz : Nat) : Option (Prop × Ct) :=
  match c with
  | .lit cs => (match wrCh cs (i * w + k) x with
    | some r => if sz = 1 then some r else none
    | none => (match flat x sz with
      | some fs => (match tk cs (i * w + k) with
        | some a => (match dr cs (i * w + k + sz) with
          | some b => some (True, .lit (a ++ (fs ++ b)))
          | none => none)
        | none => none)
      | none => none))
  | .num kk xs => (match x with
    | .v (.int k' z) => if k' = kk then (if k = 0 then (if w = 1 then (if sz = 1 then some (i < xs.length, .num kk (xs.set i z)) else none) else none) else none) else none
    | x => (match flat x sz with
      | some fs => if i * w + k = 0 then some (xs.length = sz, .lit fs) else none
      | none => none))
  | .arr w' rs => if w = w' then (match vals x with
      | some vs => if k = 0 ∧ sz = w then some (i < rs.length ∧ vs.length = w, .arr w (rs.set i vs))
          else if k + sz ≤ w then some (i < rs.length ∧ vs.length = sz, .arr w (rs.set i ((rs[i]?.getD []).take k ++ (vs ++ (rs[i]?.getD []).drop (k + sz))))) else none
      | none => none) else none

theorem flatten_set {w : Nat} : ∀ {rs : List (List Value)} {i : Nat} {r' : List Value}, (∀ r ∈ rs, r.length = w) → r'.length = w → i < rs.length →
    (rs.set i r').flatten = rs.flatten.take (i * w) ++ (r' ++ rs.flatten.drop (i * w + w))
  | [], i, _, _, _, h => by simp at h
  | r :: rs, 0, r', hr, hr', _ => by
    have h0 := hr r (by simp)
    simp only [List.set_cons_zero, List.flatten_cons, Nat.zero_mul, List.take_zero, List.nil_append, Nat.zero_add]
    rw [List.drop_append, List.drop_of_length_le (by omega), h0]
    simp
  | r :: rs, i + 1, r', hr, hr', hi => by
    have h0 := hr r (by simp)
    have ih := flatten_set (rs := rs) (i := i) (fun r hr'' => hr r (by simp [hr''])) hr' (by simpa using hi)
    simp only [List.set_cons_succ, List.flatten_cons, ih]
    have e : (i + 1) * w = r.length + i * w := by rw [h0, Nat.add_mul]; omega
    rw [e, List.take_length_add_append, show r.length + i * w + w = r.length + (i * w + w) by omega, List.drop_length_add_append]
    simp

theorem wrCt_sound {β : Env} {c c' : Ct} {i w k sz : Nat} {x : AV} {y : Value} {vc : Prop} {ys : List Value} (hc : CtDen β c ys) (hx : Den β x y) (h : wrCt c i w k x sz = some (vc, c')) (hvc : vc) :
    y.cells.toList.length = sz ∧ (∀ u ∈ y.cells.toList, one u = true) ∧ i * w + k + sz ≤ ys.length ∧ CtDen β c' (ys.take (i * w + k) ++ (y.cells.toList ++ ys.drop (i * w + k + sz))) := by
  cases c with
  | lit cs =>
    simp only [CtDen] at hc
    simp only [wrCt] at h
    split at h
    · rename_i r hr
      split at h
      · rename_i hsz
        subst hsz
        obtain rfl := Option.some.inj h
        unfold wrCh at hr
        split at hr
        · rename_i n xs
          split at hr
          · rename_i y0 hv
            obtain ⟨rfl, rfl⟩ := Prod.mk.inj (Option.some.inj hr)
            have hvs : vals x = some [y0] := by
              cases x <;> first | exact hv | (simp [val1] at hv)
            obtain ⟨h1, h2⟩ := den_vals hx hvs
            simp only [DenC, CellDen] at hc
            obtain ⟨ps, zs, rfl, ⟨rfl, hn, ho⟩, rfl⟩ := hc
            have hlt : i * w + k < ps.length := by rw [hn]; exact hvc
            refine ⟨by rw [h1]; rfl, by rw [h1]; exact h2, by simp; omega, ?_⟩
            simp only [CtDen, DenC, CellDen]
            refine ⟨ps.set (i * w + k) y0, [], ?_, ⟨rfl, by simp [hn], ?_⟩, rfl⟩
            · rw [h1, List.set_eq_take_append_cons_drop, if_pos hlt]; simp
            · intro u hu
              rcases List.mem_or_eq_of_mem_set hu with hu | rfl
              · exact ho u hu
              · exact h2 _ (by simp)
          · cases hr
        · cases hr
      · cases h
    · split at h
      · rename_i fs hf
        split at h
        · rename_i a ha
          split at h
          · rename_i b hb
            obtain ⟨rfl, rfl⟩ := Prod.mk.inj (Option.some.inj h)
            obtain ⟨h1, h2⟩ := den_flat hx hf
            obtain ⟨h3, h4⟩ := denC_tk hc ha
            obtain ⟨h5, h6⟩ := denC_dr hc hb
            refine ⟨h2, denC_ones h1, h5, ?_⟩
            simp only [CtDen]
            exact denC_append h4 (denC_append h1 h6)
          · cases h
        · cases h
      · cases h
  | num kk xs =>
    simp only [CtDen] at hc
    subst hc
    simp only [wrCt] at h
    split at h
    · rename_i k' z
      split at h
      · rename_i hk'
        split at h
        · rename_i hk0
          split at h
          · rename_i hw1
            split at h
            · rename_i hs1
              obtain ⟨rfl, rfl⟩ := Prod.mk.inj (Option.some.inj h)
              subst hk'; subst hk0; subst hw1; subst hs1
              have hlt : i < xs.length := hvc
              simp only [Den] at hx
              obtain ⟨rfl, -⟩ := hx
              refine ⟨by simp [Value.cells], by simp [Value.cells, one], by simp; omega, ?_⟩
              simp only [CtDen, Nat.mul_one, Nat.add_zero, Value.cells]
              rw [List.map_set, List.set_eq_take_append_cons_drop, if_pos (by simpa using hlt)]
              simp
            · cases h
          · cases h
        · cases h
      · cases h
    · split at h
      · rename_i fs hf
        split at h
        · rename_i h0
          obtain ⟨rfl, rfl⟩ := Prod.mk.inj (Option.some.inj h)
          have hl : xs.length = sz := hvc
          obtain ⟨h1, h2⟩ := den_flat hx hf
          refine ⟨h2, denC_ones h1, by rw [h0]; simp [hl], ?_⟩
          rw [h0, List.take_zero, List.nil_append, Nat.zero_add, List.drop_of_length_le (by simp [hl]), List.append_nil]
          exact h1
        · cases h
      · cases h
  | arr w' rs =>
    simp only [CtDen] at hc
    obtain ⟨rfl, hrs⟩ := hc
    simp only [wrCt] at h
    split at h
    · rename_i hw
      subst hw
      have hlen : ∀ r ∈ rs, r.length = w := fun r hr => (hrs r hr).1
      have hfl := flatten_len hlen
      split at h
      · rename_i vs hv
        obtain ⟨h1, h2⟩ := den_vals hx hv
        split at h
        · rename_i hk
          obtain ⟨hk0, hsz⟩ := hk
          subst hk0; subst hsz
          obtain ⟨rfl, rfl⟩ := Prod.mk.inj (Option.some.inj h)
          obtain ⟨hlt, hl⟩ := hvc
          have hmul : (i + 1) * sz ≤ rs.length * sz := Nat.mul_le_mul_right sz hlt
          rw [Nat.add_mul] at hmul
          rw [h1]
          refine ⟨hl, h2, by rw [hfl]; omega, ?_⟩
          simp only [CtDen, Nat.add_zero]
          refine ⟨(flatten_set hlen hl hlt).symm, fun r hr => ?_⟩
          rcases List.mem_or_eq_of_mem_set hr with hr | rfl
          · exact hrs r hr
          · exact ⟨hl, h2⟩
        · split at h
          · rename_i hks
            obtain ⟨rfl, rfl⟩ := Prod.mk.inj (Option.some.inj h)
            obtain ⟨hlt, hl⟩ := hvc
            have hrow : (rs[i]?.getD []) ∈ rs := by rw [List.getElem?_eq_getElem hlt]; exact List.getElem_mem hlt
            have hrl := hlen _ hrow
            have hmul : (i + 1) * w ≤ rs.length * w := Nat.mul_le_mul_right w hlt
            rw [Nat.add_mul] at hmul
            have hnl : ((rs[i]?.getD []).take k ++ (vs ++ (rs[i]?.getD []).drop (k + sz))).length = w := by simp [hl, hrl]; omega
            rw [h1]
            refine ⟨hl, h2, by rw [hfl]; omega, ?_⟩
            simp only [CtDen]
            refine ⟨?_, fun r hr => ?_⟩
            · rw [flatten_set hlen hnl hlt]
              have hd := flatten_drop hlen hlt
              have e1 : rs.flatten.take (i * w + k) = rs.flatten.take (i * w) ++ (rs[i]?.getD []).take k := by
                rw [List.take_add, hd, List.take_append_of_le_length (by omega)]
              have e2 : rs.flatten.drop (i * w + k + sz) = (rs[i]?.getD []).drop (k + sz) ++ rs.flatten.drop (i * w + w) := by
                have tl : (rs.drop (i + 1)).flatten = rs.flatten.drop (i * w + w) := by
                  have e3 := congrArg (List.drop w) hd
                  rw [List.drop_drop, List.drop_append, List.drop_of_length_le (Nat.le_of_eq hrl), hrl, Nat.sub_self, List.nil_append, List.drop_zero] at e3
                  exact e3.symm
                rw [Nat.add_assoc, ← List.drop_drop, hd, List.drop_append_of_le_length (by omega), tl]
              rw [e1, e2]
              simp
            · rcases List.mem_or_eq_of_mem_set hr with hr | rfl
              · exact hrs r hr
              · refine ⟨hnl, fun u hu => ?_⟩
                rcases List.mem_append.1 hu with hu | hu
                · exact (hrs _ hrow).2 u (List.mem_of_mem_take hu)
                · rcases List.mem_append.1 hu with hu | hu
                  · exact h2 u hu
                  · exact (hrs _ hrow).2 u (List.mem_of_mem_drop hu)
          · cases h
      · cases h
    · cases h

/-! ### memory -/
theorem one_oneCell {v : Value} (h : one v = true) : v.oneCell' = true := by cases v <;> simp_all [one, Value.oneCell']

theorem add_lit (b o n : Nat) : (⟨b, o, none⟩ : Addr).add n = ⟨b, o + n, none⟩ := by unfold Addr.add; split <;> simp_all

section
variable {P : Program} {β : Env} {w : World}

theorem cell_of {b o0 : Nat} {cs : Array Value} {T : TypeId} {fz : Nat × Nat} {ys : List Value} (hg : w.heap[b]? = some (.cells cs T fz)) (hcs : ∀ j, j < ys.length → cs[o0 + j]? = ys[j]?)
    {j : Nat} {v : Value} (hj : ys[j]? = some v) : w.cell? ⟨b, o0 + j, none⟩ = some v := by
  have hlt : j < ys.length := (List.getElem?_eq_some_iff.1 hj).1
  simp [World.cell?, hg, hcs j hlt, hj]

theorem loadVar_agg {t : TypeId} {T : TI} {b o0 p : Nat} {cs : Array Value} {U : TypeId} {fz : Nat × Nat} {ys : List Value} (ht : ti P t = some T) (hag : T.ag = true)
    (hg : w.heap[b]? = some (.cells cs U fz)) (hcs : ∀ j, j < ys.length → cs[o0 + j]? = ys[j]?) (hp : p + T.sz ≤ ys.length) :
    (loadVar t ⟨b, o0 + p, none⟩).run P w = .ok (.agg ((ys.drop p).take T.sz).toArray) w := by
  have hl : ((ys.drop p).take T.sz).length = T.sz := by simp; omega
  have hload := run_loadCells_list (P := P) w ⟨b, o0 + p, none⟩ ((ys.drop p).take T.sz) (fun j v hj => by
    rw [add_lit, Nat.add_assoc]
    refine cell_of hg hcs ?_
    have hjlt : j < T.sz := by have := (List.getElem?_eq_some_iff.1 hj).1; omega
    rw [List.getElem?_take_of_lt hjlt, List.getElem?_drop] at hj
    exact hj)
  rw [hl] at hload
  simp only [loadVar, Sem.run_bind, ti_isAgg w ht, Result.andThen_ok, hag, if_true, ti_sizeOf w ht, hload, Sem.run_pure]

theorem loadVar_one {t : TypeId} {T : TI} {b o0 p : Nat} {cs : Array Value} {U : TypeId} {fz : Nat × Nat} {ys : List Value} {v : Value} (ht : ti P t = some T) (hag : T.ag = false)
    (hg : w.heap[b]? = some (.cells cs U fz)) (hcs : ∀ j, j < ys.length → cs[o0 + j]? = ys[j]?) (hp : ys[p]? = some v) :
    (loadVar t ⟨b, o0 + p, none⟩).run P w = .ok v w := by
  simp [loadVar, ti_isAgg w ht, hag, cell_of hg hcs hp]

/-- Cells stored one behind the other. -/
theorem storeCells_run (g o : Nat) (t : TypeId) (fz : Nat × Nat) : ∀ (vs : List Value) (i : Nat) (cur : Array Value) (w : World), w.heap[g]? = some (.cells cur t fz) →
    (∀ j, fz.1 ≤ j → j < fz.2 → cur.size ≤ j) → o + i + vs.length ≤ cur.size → (∀ v ∈ vs, one v = true) →
    (storeCells ⟨g, o, none⟩ vs i).run P w = .ok () (w.setRow g (cur.toList.take (o + i) ++ vs ++ cur.toList.drop (o + i + vs.length)).toArray)
  | [], i, cur, w, hg, _, _, _ => by
    simp only [storeCells, List.append_nil, List.length_nil, Nat.add_zero, List.take_append_drop, Array.toArray_toList]
    rw [setRow_self w g cur t fz hg]
    rfl
  | v :: rest, i, cur, w, hg, hfz, hl, h1 => by
    have hi : o + i < cur.size := by simp at hl; omega
    have hcell : w.cell? ⟨g, o + i, none⟩ = some cur[o + i] := by simp [World.cell?, hg, hi]
    have hfro : w.frozen? ⟨g, o + i, none⟩ = false := by
      obtain ⟨lo, hi'⟩ := fz
      simp only [World.frozen?, hg, Bool.and_eq_false_iff, decide_eq_false_iff_not]
      have := hfz (o + i)
      simp only at this
      omega
    have hst : (store ((⟨g, o, none⟩ : Addr).add i) v).run P w = .ok () (w.setRow g (cur.setIfInBounds (o + i) v)) := by
      rw [add_lit, run_store P w _ v _ (one_oneCell (h1 v (by simp))), hcell]
      simp [hfro, setCell_eq_setRow w g (o + i) cur t fz v hg]
    have ih := storeCells_run g o t fz rest (i + 1) (cur.setIfInBounds (o + i) v) (w.setRow g (cur.setIfInBounds (o + i) v)) (setRow_heap w g cur _ t _ hg)
      (by simpa using hfz) (by simp at hl ⊢; omega) (fun x hx => h1 x (by simp [hx]))
    simp only [storeCells, Sem.run_bind, hst, Result.andThen_ok, ih, setRow_setRow]
    congr 3
    have e := list_seg_step cur.toList (o + i) v rest (by simp at hl ⊢; omega)
    simpa [Array.toList_setIfInBounds, Nat.add_assoc] using e

theorem storeVar_run {t : TypeId} {T : TI} {b p : Nat} {U : TypeId} {fz : Nat × Nat} {ys : List Value} {y : Value} (ht : ti P t = some T)
    (hg : w.heap[b]? = some (.cells ys.toArray U fz)) (hfz : ∀ j, fz.1 ≤ j → j < fz.2 → ys.length ≤ j) (hsz : y.cells.toList.length = T.sz) (h1 : ∀ u ∈ y.cells.toList, one u = true)
    (hp : p + T.sz ≤ ys.length) :
    (storeVar t ⟨b, p, none⟩ y).run P w = .ok () (w.setRow b (ys.take p ++ (y.cells.toList ++ ys.drop (p + T.sz))).toArray) := by
  have hst := storeCells_run (P := P) b p U fz y.cells.toList 0 ys.toArray w hg (by simpa using hfz) (by simp [hsz]; simpa using hp) h1
  have hs : y.cells.size = T.sz := by simpa using hsz
  simp only [storeVar, Sem.run_bind, ti_sizeOf w ht, Result.andThen_ok, hs, ne_eq, not_true_eq_false, if_false]
  simpa [hs] using hst

/-- A block written. -/
theorem Heap.write {bl : Bls} {l : Nat} {B : Blk} {b : Nat} {ys' : List Value} {c' : Ct} (h : Heap β bl w) (hl : bl[l]? = some (some B)) (hown : B.own = true) (hb : β[l]? = some (some (b, 0)))
    {ys : List Value} (hy : CtDen β B.ct ys) (hg : ∃ fz, w.heap[b]? = some (.cells ys.toArray B.ty fz) ∧ ∀ j, fz.1 ≤ j → j < fz.2 → ys.length ≤ j)
    (hc : CtDen β c' ys') (hlen : ys'.length = ys.length) :
    Heap β (bl.set l (some { B with ct := c' })) (w.setRow b ys'.toArray) ∧ Step (OwnedIn β bl [l]) w (w.setRow b ys'.toArray) ∧
      (∀ b', Owned β (bl.set l (some { B with ct := c' })) b' → Owned β bl b') := by
  have hllt : l < bl.length := (List.getElem?_eq_some_iff.1 hl).1
  have get : ∀ {m : Nat} {B' : Blk}, (bl.set l (some { B with ct := c' }))[m]? = some (some B') → ∃ B0 : Blk, bl[m]? = some (some B0) ∧ B0.own = B'.own ∧ (m = l → B' = { B with ct := c' }) ∧ (m ≠ l → B' = B0) := by
    intro m B' hm
    rw [List.getElem?_set] at hm
    split at hm
    · rename_i e
      subst e
      try rw [if_pos hllt] at hm
      obtain rfl := Option.some.inj (Option.some.inj hm)
      exact ⟨B, hl, rfl, fun _ => rfl, fun h => absurd rfl h⟩
    · rename_i e
      exact ⟨B', hm, rfl, fun h => absurd h.symm e, fun _ => rfl⟩
  refine ⟨⟨by simpa using h.len, ?_, ?_⟩, ⟨rfl, rfl, rfl, ?_, ?_⟩, ?_⟩
  · intro m B' hm
    obtain ⟨B0, h0, ho, e1, e2⟩ := get hm
    by_cases e : m = l
    · have e0 := e1 e
      subst e0; subst e
      obtain ⟨fz, hg, hfz⟩ := hg
      refine ⟨_, hb, ys', hc, ys'.toArray, B.ty, fz, setRow_heap w b _ _ _ _ hg, fun j hj => by simp, fun _ => ⟨rfl, rfl, rfl, fun j h1 h2 => ?_⟩⟩
      rw [hlen]; exact hfz j h1 h2
    · have e0 := e2 e
      subst e0
      obtain ⟨base, hbase, hin⟩ := h.lv m B' h0
      refine ⟨base, hbase, hin.same fun b' o' hb' => ?_⟩
      subst hb'
      exact setRow_other w b b' _ (fun e3 => h.sep l m B B' b 0 b' o' (fun e4 => e e4.symm) hl h0 hown hb hbase e3.symm)
  · intro m m' B1 B2 b1 o1 b2 o2 hne h1 h2 ho hb1 hb2
    obtain ⟨B1', g1, o1', -, -⟩ := get h1
    obtain ⟨B2', g2, o2', -, -⟩ := get h2
    exact h.sep m m' B1' B2' b1 o1 b2 o2 hne g1 g2 (by rw [o1']; exact ho) hb1 hb2
  · show w.heap.size ≤ (w.heap.modify b _).size
    rw [Array.size_modify]; exact Nat.le_refl _
  · intro b' _ hno
    refine setRow_other w b b' _ (fun e => hno ⟨l, B, 0, by simp, hl, hown, ?_⟩)
    rw [e]; exact hb
  · rintro b' ⟨m, B', o', hm, ho, hb'⟩
    obtain ⟨B0, g, o0, -, -⟩ := get hm
    exact ⟨m, B0, o', g, by rw [o0]; exact ho, hb'⟩

/-- A block made. -/
theorem Heap.make {bl : Bls} {c : Ct} {ys : List Value} (h : Heap β bl w) (ty : TypeId) (fz : Nat × Nat) (hfz : ∀ j, fz.1 ≤ j → j < fz.2 → ys.length ≤ j) (hc : CtDen β c ys) {w' : World}
    (hw : w'.heap = w.heap.push (.cells ys.toArray ty fz)) (hos : w'.os = w.os) (htape : w'.tape = w.tape) (hout : w'.output = w.output) :
    Heap (β ++ [some (w.heap.size, 0)]) (bl ++ [some ⟨true, ty, c⟩]) w' ∧ Step (fun _ => False) w w' ∧
      (∀ b', Owned (β ++ [some (w.heap.size, 0)]) (bl ++ [some ⟨true, ty, c⟩]) b' → Owned β bl b' ∨ w.heap.size ≤ b') ∧ β <+: β ++ [some (w.heap.size, 0)] := by
  have hpre : β <+: β ++ [some (w.heap.size, 0)] := List.prefix_append _ _
  have hlen := h.len
  have old : ∀ b, b < w.heap.size → w'.heap[b]? = w.heap[b]? := fun b hb => by
    rw [hw, Array.getElem?_push, if_neg (by omega)]
  have new : w'.heap[w.heap.size]? = some (.cells ys.toArray ty fz) := by rw [hw]; simp
  have get : ∀ {m : Nat} {B' : Blk}, (bl ++ [some ⟨true, ty, c⟩])[m]? = some (some B') → (m < bl.length ∧ bl[m]? = some (some B')) ∨ (m = bl.length ∧ B' = ⟨true, ty, c⟩) := by
    intro m B' hm
    by_cases hlt : m < bl.length
    · rw [List.getElem?_append_left hlt] at hm; exact .inl ⟨hlt, hm⟩
    · have hmm : m = bl.length := by
        have := (List.getElem?_eq_some_iff.1 hm).1
        simp at this; omega
      subst hmm
      simp at hm
      exact .inr ⟨rfl, hm.symm⟩
  have gb : ∀ {m : Nat} {x}, m < bl.length → (β ++ [some (w.heap.size, 0)])[m]? = some x → β[m]? = some x := by
    intro m x hm hx
    rwa [List.getElem?_append_left (by omega)] at hx
  have gn : ∀ {x}, (β ++ [some (w.heap.size, 0)])[bl.length]? = some x → x = some (w.heap.size, 0) := by
    intro x hx
    rw [← hlen] at hx
    simp at hx
    exact hx.symm
  refine ⟨⟨by simp [hlen], ?_, ?_⟩, ⟨hos, htape, hout, by rw [hw]; simp, fun b hb _ => old b hb⟩, ?_, hpre⟩
  · intro m B' hm
    rcases get hm with ⟨hlt, h0⟩ | ⟨rfl, rfl⟩
    · obtain ⟨base, hbase, hin⟩ := h.lv m B' h0
      refine ⟨base, by rw [List.getElem?_append_left (by omega)]; exact hbase, (hin.mono hpre).same fun b o e => ?_⟩
      subst e
      exact old b (h.lt h0 hbase)
    · refine ⟨some (w.heap.size, 0), by rw [← hlen]; simp, ys, hc.mono hpre, ys.toArray, ty, fz, new, fun j hj => by simp, fun _ => ⟨rfl, rfl, rfl, hfz⟩⟩
  · intro m m' B1 B2 b1 o1 b2 o2 hne h1 h2 ho hb1 hb2
    rcases get h1 with ⟨l1, g1⟩ | ⟨rfl, rfl⟩ <;> rcases get h2 with ⟨l2, g2⟩ | ⟨rfl, rfl⟩
    · exact h.sep m m' B1 B2 b1 o1 b2 o2 hne g1 g2 ho (gb l1 hb1) (gb l2 hb2)
    · have e := gn hb2
      have := h.lt g1 (gb l1 hb1)
      simp at e; omega
    · have e := gn hb1
      have := h.lt g2 (gb l2 hb2)
      simp at e; omega
    · exact absurd rfl hne
  · rintro b' ⟨m, B', o', hm, ho, hb'⟩
    rcases get hm with ⟨hlt, h0⟩ | ⟨rfl, rfl⟩
    · exact .inl ⟨m, B', o', h0, ho, gb hlt hb'⟩
    · have e := gn hb'
      simp at e; exact .inr (by omega)

end

end Go.SX
