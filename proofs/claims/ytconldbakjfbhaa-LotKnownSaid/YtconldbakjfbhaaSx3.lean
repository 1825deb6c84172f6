/-
  The symbolic machine: what types say, cells read and written, blocks made.
-/
import Derived.Test.YtconldbakjfbhaaSx2
import Derived.Laws.CopyRow
import Derived.ChangeKeysEq
set_option linter.unusedSimpArgs false
set_option linter.unusedVariables false
namespace Go.SX
open Go

inductive KD where
  | int (k : IntKind)
  | bool
  | str
  | ptr (e : TypeId)
  | slice (e : TypeId) (sz by_ : Nat)
  | arr (n : Nat) (e : TypeId) (sz : Nat)
  | struct (fs : List (Nat × Nat × Bool))
  | other

structure TI where
  sz : Nat
  by_ : Nat
  ag : Bool
  kd : KD
  z : Option (List Value)
  segs : List Nat

def aggD : TypeDesc → Bool
  | .struct _ => true
  | .array _ _ => true
  | _ => false

def agOf (P : Program) (t : TypeId) : Bool := match P.underlying t with
  | some d => aggD d
  | none => false

def kdOf (P : Program) : TypeDesc → KD
  | .int k => .int k
  | .bool => .bool
  | .string => .str
  | .pointer e => .ptr e
  | .slice e => .slice e (P.cellsOf e) (P.bytesOf e)
  | .array n e => .arr n e (P.cellsOf e)
  | .struct fs => if fs.toList.all (fun f => (P.underlying f.type).isSome) = true then .struct (fs.toList.map fun f => (f.offset, P.cellsOf f.type, agOf P f.type)) else .other
  | _ => .other

theorem kdOf_ptr {P : Program} {d : TypeDesc} {e : TypeId} (h : kdOf P d = .ptr e) : d = .pointer e := by
  cases d <;> simp only [kdOf] at h <;> first | (cases h; done) | (split at h <;> cases h; done) | (rw [KD.ptr.inj h])
theorem kdOf_bool {P : Program} {d : TypeDesc} (h : kdOf P d = .bool) : d = .bool := by
  cases d <;> simp only [kdOf] at h <;> first | rfl | (cases h; done) | (split at h <;> cases h; done)
theorem kdOf_str {P : Program} {d : TypeDesc} (h : kdOf P d = .str) : d = .string := by
  cases d <;> simp only [kdOf] at h <;> first | rfl | (cases h; done) | (split at h <;> cases h; done)
theorem kdOf_int {P : Program} {d : TypeDesc} {k : IntKind} (h : kdOf P d = .int k) : d = .int k := by
  cases d <;> simp only [kdOf] at h <;> first | (cases h; done) | (split at h <;> cases h; done) | (rw [KD.int.inj h])
theorem kdOf_slice {P : Program} {d : TypeDesc} {e : TypeId} {sz b : Nat} (h : kdOf P d = .slice e sz b) : d = .slice e ∧ P.cellsOf e = sz ∧ P.bytesOf e = b := by
  cases d <;> simp only [kdOf] at h <;> first | (cases h; done) | (split at h <;> cases h; done) | (obtain ⟨rfl, h1, h2⟩ := KD.slice.inj h; exact ⟨rfl, h1, h2⟩)
theorem kdOf_arr {P : Program} {d : TypeDesc} {e : TypeId} {n sz : Nat} (h : kdOf P d = .arr n e sz) : d = .array n e ∧ P.cellsOf e = sz := by
  cases d <;> simp only [kdOf] at h <;> first | (cases h; done) | (split at h <;> cases h; done) | (obtain ⟨rfl, rfl, h1⟩ := KD.arr.inj h; exact ⟨rfl, h1⟩)

def segsOf (P : Program) : Nat → TypeId → List Nat
  | 0, t => [P.cellsOf t]
  | d + 1, t => match P.underlying t with
    | some (.struct fs) => fs.toList.flatMap fun f => segsOf P d f.type
    | _ => [P.cellsOf t]

def ti (P : Program) (t : TypeId) : Option TI :=
  match P.info? t, P.underlying t with
  | some i, some d => some { sz := i.size, by_ := i.bytes, ag := aggD d, kd := kdOf P d, z := i.zero.map fun v => v.cells.toList, segs := segsOf P 8 t }
  | _, _ => none

theorem ti_spec {P : Program} {t : TypeId} {T : TI} (h : ti P t = some T) : ∃ i d, P.info? t = some i ∧ P.underlying t = some d ∧ T.sz = i.size ∧ T.by_ = i.bytes ∧ T.ag = aggD d ∧
    T.kd = kdOf P d ∧ T.z = i.zero.map (fun v => v.cells.toList) := by
  unfold ti at h
  split at h
  · rename_i i d h1 h2
    obtain rfl := Option.some.inj h
    exact ⟨i, d, h1, h2, rfl, rfl, rfl, rfl, rfl⟩
  · cases h

section
variable {P : Program} (w : World)

theorem ti_sizeOf {t : TypeId} {T : TI} (h : ti P t = some T) : (sizeOf t).run P w = .ok T.sz w := by
  obtain ⟨i, d, hi, -, hs, -⟩ := ti_spec h
  simp [sizeOf, typeInfo, hi, hs]

theorem ti_isAgg {t : TypeId} {T : TI} (h : ti P t = some T) : (isAgg t).run P w = .ok T.ag w := by
  obtain ⟨i, d, -, hd, -, -, hs, -⟩ := ti_spec h
  simp only [isAgg, underlying, Sem.run_bind, run_program, Result.andThen_ok, hd, hs]
  cases d <;> rfl

theorem underlying_run {t : TypeId} {d : TypeDesc} (h : P.underlying t = some d) : (underlying t).run P w = .ok d w := by
  simp [underlying, h]

theorem sizeOf_pos {t : TypeId} {n : Nat} (h : P.cellsOf t = n) (hn : n ≠ 0) : (sizeOf t).run P w = .ok n w := by
  unfold Program.cellsOf at h
  cases hi : P.info? t with
  | none => simp [hi] at h; omega
  | some i => simp [hi] at h; simp [sizeOf, typeInfo, hi, h]

end

/-! ### cells, symbolically -/
def wid : AV → Nat
  | .ch n _ => n
  | _ => 1

def wids : List AV → Nat
  | [] => 0
  | c :: cs => wid c + wids cs

def dr : List AV → Nat → Option (List AV)
  | [], o => if o = 0 then some [] else none
  | c :: cs, o => if o = 0 then some (c :: cs) else match c with
    | .ch n xs => if n ≤ o then dr cs (o - n) else some (.ch (n - o) (xs.drop o) :: cs)
    | _ => dr cs (o - 1)

def tk : List AV → Nat → Option (List AV)
  | [], s => if s = 0 then some [] else none
  | c :: cs, s => if s = 0 then some [] else match c with
    | .ch n xs => if n ≤ s then (match tk cs (s - n) with | some r => some (.ch n xs :: r) | none => none) else some [.ch s (xs.take s)]
    | c => match tk cs (s - 1) with | some r => some (c :: r) | none => none

theorem cellDen_len {β : Env} {x : AV} {ps : List Value} (h : CellDen β x ps) : ps.length = wid x := by
  cases x <;> simp only [CellDen] at h <;> simp only [wid]
  · obtain ⟨rfl, -⟩ := h; rfl
  · subst h; rfl
  · obtain ⟨y, rfl, -⟩ := h; rfl
  · obtain ⟨y, rfl, -⟩ := h; rfl
  · obtain ⟨y, rfl, -⟩ := h; rfl
  · obtain ⟨rfl, h, -⟩ := h; exact h
  · obtain ⟨y, rfl, -⟩ := h; rfl

theorem denC_len {β : Env} : ∀ {cs : List AV} {ys : List Value}, DenC β cs ys → ys.length = wids cs
  | [], _, h => by simp only [DenC] at h; subst h; rfl
  | c :: cs, _, h => by
    simp only [DenC] at h
    obtain ⟨ps, zs, rfl, h1, h2⟩ := h
    simp [wids, cellDen_len h1, denC_len h2]

theorem denC_append {β : Env} : ∀ {cs ds : List AV} {ys zs : List Value}, DenC β cs ys → DenC β ds zs → DenC β (cs ++ ds) (ys ++ zs)
  | [], _, _, _, h1, h2 => by simp only [DenC] at h1; subst h1; exact h2
  | c :: cs, _, _, _, h1, h2 => by
    simp only [DenC] at h1
    obtain ⟨ps, qs, rfl, h3, h4⟩ := h1
    simp only [List.cons_append, DenC]
    exact ⟨ps, qs ++ _, by simp, h3, denC_append h4 h2⟩

theorem denC_dr {β : Env} : ∀ {cs cs' : List AV} {ys : List Value} {o : Nat}, DenC β cs ys → dr cs o = some cs' → o ≤ ys.length ∧ DenC β cs' (ys.drop o)
  | [], cs', ys, o, h, he => by
    simp only [dr] at he
    split at he
    · rename_i h0; subst h0; obtain rfl := Option.some.inj he; exact ⟨Nat.zero_le _, by simpa using h⟩
    · cases he
  | c :: cs, cs', ys, o, h, he => by
    simp only [dr] at he
    split at he
    · rename_i h0; subst h0; obtain rfl := Option.some.inj he; exact ⟨Nat.zero_le _, by simpa using h⟩
    · rename_i h0
      simp only [DenC] at h
      obtain ⟨ps, zs, rfl, h1, h2⟩ := h
      have hl := cellDen_len h1
      split at he
      · rename_i n xs
        simp only [CellDen] at h1
        obtain ⟨rfl, hn, ho⟩ := h1
        split at he
        · rename_i hle
          obtain ⟨h3, h4⟩ := denC_dr h2 he
          refine ⟨by simp [hn]; omega, ?_⟩
          rw [List.drop_append, List.drop_of_length_le (by omega), hn]
          simpa using h4
        · rename_i hle
          obtain rfl := Option.some.inj he
          refine ⟨by simp [hn]; omega, ?_⟩
          rw [List.drop_append_of_le_length (by omega)]
          simp only [DenC]
          refine ⟨ps.drop o, zs, rfl, ?_, h2⟩
          simp only [CellDen, true_and]
          exact ⟨by simp [hn], fun x hx => ho x (List.mem_of_mem_drop hx)⟩
      · rename_i hnc
        have hw : wid c = 1 := by cases c <;> first | rfl | exact absurd rfl (hnc _ _)
        rw [hw] at hl
        obtain ⟨y, rfl⟩ := List.length_eq_one_iff.1 hl
        obtain ⟨h3, h4⟩ := denC_dr h2 he
        refine ⟨by simp; omega, ?_⟩
        obtain ⟨o', rfl⟩ : ∃ o', o = o' + 1 := ⟨o - 1, by omega⟩
        simpa using h4

theorem denC_tk {β : Env} : ∀ {cs cs' : List AV} {ys : List Value} {s : Nat}, DenC β cs ys → tk cs s = some cs' → s ≤ ys.length ∧ DenC β cs' (ys.take s)
  | [], cs', ys, s, h, he => by
    simp only [tk] at he
    split at he
    · rename_i h0; subst h0; obtain rfl := Option.some.inj he; exact ⟨Nat.zero_le _, by simp [DenC]⟩
    · cases he
  | c :: cs, cs', ys, s, h, he => by
    simp only [tk] at he
    split at he
    · rename_i h0; subst h0; obtain rfl := Option.some.inj he; exact ⟨Nat.zero_le _, by simp [DenC]⟩
    · rename_i h0
      simp only [DenC] at h
      obtain ⟨ps, zs, rfl, h1, h2⟩ := h
      have hl := cellDen_len h1
      split at he
      · rename_i n xs
        have h1' := h1
        simp only [CellDen] at h1
        obtain ⟨rfl, hn, ho⟩ := h1
        split at he
        · rename_i hle
          split at he
          · rename_i r hr
            obtain rfl := Option.some.inj he
            obtain ⟨h3, h4⟩ := denC_tk h2 hr
            refine ⟨by simp [hn]; omega, ?_⟩
            rw [List.take_append, List.take_of_length_le (by omega), hn]
            simp only [DenC]
            exact ⟨_, _, rfl, h1', h4⟩
          · cases he
        · rename_i hle
          obtain rfl := Option.some.inj he
          refine ⟨by simp [hn]; omega, ?_⟩
          rw [List.take_append_of_le_length (by omega)]
          simp only [DenC]
          refine ⟨ps.take s, [], by simp, ?_, rfl⟩
          simp only [CellDen, true_and]
          exact ⟨by simp [hn]; omega, fun x hx => ho x (List.mem_of_mem_take hx)⟩
      · rename_i hnc
        have hw : wid c = 1 := by cases c <;> first | rfl | exact absurd rfl (hnc _ _)
        rw [hw] at hl
        obtain ⟨y, rfl⟩ := List.length_eq_one_iff.1 hl
        split at he
        · rename_i r hr
          obtain rfl := Option.some.inj he
          obtain ⟨h3, h4⟩ := denC_tk h2 hr
          refine ⟨by simp; omega, ?_⟩
          obtain ⟨s', rfl⟩ : ∃ s', s = s' + 1 := ⟨s - 1, by omega⟩
          simp only [DenC, List.cons_append, List.nil_append, List.take_succ_cons]
          exact ⟨[y], _, rfl, h1, by simpa using h4⟩
        · cases he

/-- A value laid flat. -/
def flat : AV → Nat → Option (List AV)
  | .agg xs, sz => if wids xs = sz then some xs else none
  | .ch n xs, sz => if n = sz then some [.ch n xs] else none
  | .tup _, _ => none
  | .any, _ => none
  | x, sz => if sz = 1 then some [x] else none

theorem den_flat {β : Env} {x : AV} {y : Value} {sz : Nat} {cs : List AV} (hd : Den β x y) (h : flat x sz = some cs) : DenC β cs y.cells.toList ∧ y.cells.toList.length = sz := by
  have scal : x.scal = true → sz = 1 → cs = [x] → DenC β cs y.cells.toList ∧ y.cells.toList.length = sz := by
    intro hs h1 h2
    subst h1; subst h2
    rw [one_cells (den_one hs hd)]
    simp only [DenC]
    exact ⟨⟨[y], [], rfl, cellDen_of_den hs hd, rfl⟩, rfl⟩
  cases x with
  | agg xs =>
    simp only [flat] at h
    split at h
    · rename_i hw
      obtain rfl := Option.some.inj h
      simp only [Den] at hd
      obtain ⟨ys, rfl, hc⟩ := hd
      exact ⟨hc, by rw [← hw]; exact denC_len hc⟩
    · cases h
  | ch n xs =>
    simp only [flat] at h
    split at h
    · rename_i hw
      obtain rfl := Option.some.inj h
      simp only [Den] at hd
      obtain ⟨rfl, hn, ho⟩ := hd
      simp only [DenC, CellDen]
      exact ⟨⟨xs, [], by simp [Value.cells], ⟨rfl, hn, ho⟩, rfl⟩, by simp [Value.cells, hn, hw]⟩
    · cases h
  | tup xs => simp [flat] at h
  | any => simp [flat] at h
  | v x => simp only [flat] at h; split at h <;> first | (cases h; done) | exact scal rfl ‹_› (Option.some.inj h).symm
  | nil => simp only [flat] at h; split at h <;> first | (cases h; done) | exact scal rfl ‹_› (Option.some.inj h).symm
  | ptr l i w k => simp only [flat] at h; split at h <;> first | (cases h; done) | exact scal rfl ‹_› (Option.some.inj h).symm
  | sl l i w n c => simp only [flat] at h; split at h <;> first | (cases h; done) | exact scal rfl ‹_› (Option.some.inj h).symm
  | fn f a b => simp only [flat] at h; split at h <;> first | (cases h; done) | exact scal rfl ‹_› (Option.some.inj h).symm

/-! ### one variable read -/
def at1 (cs : List AV) (o : Nat) : Option AV :=
  match dr cs o with
  | some (.ch n xs :: _) => if 0 < n then some (.v (xs[0]?.getD undef)) else none
  | some (c :: _) => some c
  | _ => none

def rowSegs (row : List Value) : Nat → List Nat → List AV
  | _, [] => []
  | o, s :: ss => (if s = 1 then .v (row[o]?.getD undef) else .ch s ((row.drop o).take s)) :: rowSegs row (o + s) ss

def sums : List Nat → Nat
  | [] => 0
  | s :: ss => s + sums ss

def rdCt (c : Ct) (i w k : Nat) (T : TI) : Option (Prop × AV) :=
  match c with
  | .lit cs =>
    if T.ag = true then (match dr cs (i * w + k) with
      | some c1 => (match tk c1 T.sz with
        | some c2 => some (True, .agg c2)
        | none => none)
      | none => none)
    else match cs with
      | [.ch n ys] => some (i * w + k < n, .v (ys[i * w + k]?.getD undef))
      | cs => (match at1 cs (i * w + k) with
        | some x => some (True, x)
        | none => none)
  | .num kk xs =>
    if T.ag = true then (if i * w + k = 0 then some (xs.length = T.sz, .agg [.ch T.sz (xs.map (.int kk))]) else none)
    else if k = 0 then (if w = 1 then some (i < xs.length, .v (.int kk (xs[i]?.getD 0))) else none) else none
  | .arr w' rs =>
    if w = w' then
      if T.ag = true then
        if sums T.segs = T.sz then (if k + T.sz ≤ w then some (i < rs.length, .agg (rowSegs (rs[i]?.getD []) k T.segs)) else none) else none
      else if k < w then some (i < rs.length, .v ((rs[i]?.getD [])[k]?.getD undef)) else none
    else none

theorem denC_rowSegs {β : Env} {row : List Value} (ho : ∀ x ∈ row, one x = true) : ∀ (segs : List Nat) (o : Nat), o + sums segs ≤ row.length → DenC β (rowSegs row o segs) ((row.drop o).take (sums segs))
  | [], o, _ => by simp [rowSegs, DenC, sums]
  | s :: ss, o, h => by
    simp only [sums] at h
    have ih := denC_rowSegs (β := β) ho ss (o + s) (by omega)
    simp only [rowSegs, DenC]
    refine ⟨(row.drop o).take s, _, ?_, ?_, ih⟩
    · rw [sums, List.take_add, List.drop_drop]
    · split
      · rename_i h1
        subst h1
        have hlt : o < row.length := by omega
        simp only [CellDen]
        rw [List.getElem?_eq_getElem hlt, Option.getD_some, List.drop_eq_getElem_cons hlt]
        simp only [List.take_succ_cons, List.take_zero, true_and]
        exact ho _ (List.getElem_mem hlt)
      · simp only [CellDen, true_and]
        exact ⟨by simp; omega, fun x hx => ho x (List.mem_of_mem_drop (List.mem_of_mem_take hx))⟩

theorem flatten_get {w : Nat} : ∀ {rs : List (List Value)} {i k : Nat}, (∀ r ∈ rs, r.length = w) → i < rs.length → k < w → rs.flatten[i * w + k]? = (rs[i]?.getD [])[k]?
  | [], i, k, _, h, _ => by simp at h
  | r :: rs, 0, k, hr, _, hk => by
    have h0 := hr r (by simp)
    simp only [List.flatten_cons, Nat.zero_mul, Nat.zero_add, List.getElem?_cons_zero, Option.getD_some]
    rw [List.getElem?_append_left (by omega)]
  | r :: rs, i + 1, k, hr, hi, hk => by
    have h0 := hr r (by simp)
    have ih := flatten_get (rs := rs) (i := i) (k := k) (fun r hr' => hr r (by simp [hr'])) (by simpa using hi) hk
    simp only [List.flatten_cons, List.getElem?_cons_succ]
    rw [List.getElem?_append_right (by rw [h0, Nat.add_mul]; omega), ← ih]
    congr 1
    rw [h0, Nat.add_mul]; omega

theorem flatten_len {w : Nat} : ∀ {rs : List (List Value)}, (∀ r ∈ rs, r.length = w) → rs.flatten.length = rs.length * w
  | [], _ => by simp
  | r :: rs, h => by
    have := flatten_len (rs := rs) (fun r hr => h r (by simp [hr]))
    simp [this, h r (by simp), Nat.add_mul, Nat.add_comm]

theorem flatten_drop {w : Nat} : ∀ {rs : List (List Value)} {i : Nat}, (∀ r ∈ rs, r.length = w) → i < rs.length → rs.flatten.drop (i * w) = (rs[i]?.getD []) ++ (rs.drop (i + 1)).flatten
  | [], i, _, h => by simp at h
  | r :: rs, 0, hr, _ => by simp
  | r :: rs, i + 1, hr, hi => by
    have h0 := hr r (by simp)
    have ih := flatten_drop (rs := rs) (i := i) (fun r hr' => hr r (by simp [hr'])) (by simpa using hi)
    simp only [List.flatten_cons, List.getElem?_cons_succ, List.drop_succ_cons]
    rw [← ih, List.drop_append, List.drop_of_length_le (by rw [h0, Nat.add_mul]; omega), List.nil_append]
    congr 1
    rw [h0, Nat.add_mul]; omega

/-- What is read, as values. -/
theorem rdCt_sound {β : Env} {c : Ct} {i w k : Nat} {T : TI} {vc : Prop} {r : AV} {ys : List Value} (hc : CtDen β c ys) (h : rdCt c i w k T = some (vc, r)) (hvc : vc) :
    if T.ag = true then i * w + k + T.sz ≤ ys.length ∧ Den β r (.agg ((ys.drop (i * w + k)).take T.sz).toArray)
    else ∃ y, ys[i * w + k]? = some y ∧ Den β r y := by
  cases c with
  | lit cs =>
    simp only [CtDen] at hc
    simp only [rdCt] at h
    by_cases hag : T.ag = true
    · rw [if_pos hag] at h ⊢
      split at h
      · rename_i c1 h1
        split at h
        · rename_i c2 h2
          obtain ⟨rfl, rfl⟩ := Prod.mk.inj (Option.some.inj h)
          obtain ⟨h3, h4⟩ := denC_dr hc h1
          obtain ⟨h5, h6⟩ := denC_tk h4 h2
          refine ⟨by simp at h5; omega, ?_⟩
          simp only [Den]
          exact ⟨_, rfl, h6⟩
        · cases h
      · cases h
    · rw [if_neg hag] at h ⊢
      split at h
      · rename_i n xs
        obtain ⟨rfl, rfl⟩ := Prod.mk.inj (Option.some.inj h)
        simp only [DenC, CellDen] at hc
        obtain ⟨ps, zs, rfl, ⟨rfl, hn, ho⟩, rfl⟩ := hc
        have hlt : i * w + k < ps.length := by rw [hn]; exact hvc
        refine ⟨ps[i * w + k], by simp [hlt], ?_⟩
        simp only [Den, List.getElem?_eq_getElem hlt, Option.getD_some, true_and]
        exact ho _ (List.getElem_mem hlt)
      · rename_i hns
        split at h
        · rename_i x hx
          obtain ⟨rfl, rfl⟩ := Prod.mk.inj (Option.some.inj h)
          unfold at1 at hx
          split at hx
          · rename_i n xs rest hd
            split at hx
            · rename_i hn0
              obtain rfl := Option.some.inj hx
              obtain ⟨h3, h4⟩ := denC_dr hc hd
              simp only [DenC, CellDen] at h4
              obtain ⟨ps, zs, h5, ⟨rfl, hn, ho⟩, -⟩ := h4
              have hlt : 0 < ps.length := by omega
              refine ⟨ps[0], ?_, ?_⟩
              · have := congrArg (fun l => l[0]?) h5
                simpa [List.getElem?_append_left hlt, List.getElem?_eq_getElem hlt] using this
              · simp only [Den, List.getElem?_eq_getElem hlt, Option.getD_some, true_and]
                exact ho _ (List.getElem_mem hlt)
            · cases hx
          · rename_i c0 rest hnc hd
            obtain rfl := Option.some.inj hx
            obtain ⟨h3, h4⟩ := denC_dr hc hd
            simp only [DenC] at h4
            obtain ⟨ps, zs, h5, h6, -⟩ := h4
            have hw : wid c0 = 1 := by cases c0 <;> first | rfl | exact absurd rfl (hnc _ _)
            have hl := cellDen_len h6
            rw [hw] at hl
            obtain ⟨y, rfl⟩ := List.length_eq_one_iff.1 hl
            refine ⟨y, ?_, ?_⟩
            · have := congrArg (fun l => l[0]?) h5
              simpa using this
            · cases c0 with
              | any => simp only [Den]
              | agg xs => simp only [CellDen] at h6
              | tup xs => simp only [CellDen] at h6
              | ch n xs => exact absurd rfl (hnc _ _)
              | _ =>
                obtain ⟨y', he, hd⟩ := den_of_cellDen rfl h6
                obtain rfl := List.cons.inj he |>.1
                exact hd
          · cases hx
        · cases h
  | num kk xs =>
    simp only [CtDen] at hc
    subst hc
    simp only [rdCt] at h
    by_cases hag : T.ag = true
    · rw [if_pos hag] at h ⊢
      split at h
      · rename_i h0
        obtain ⟨rfl, rfl⟩ := Prod.mk.inj (Option.some.inj h)
        have hl : xs.length = T.sz := hvc
        refine ⟨by rw [h0]; simp [hl], ?_⟩
        rw [h0, List.drop_zero, List.take_of_length_le (by simp [hl])]
        simp only [Den, DenC, CellDen]
        exact ⟨_, rfl, _, [], by simp, ⟨rfl, by simp [hl], by simp [one]⟩, rfl⟩
      · cases h
    · rw [if_neg hag] at h ⊢
      split at h
      · rename_i h0
        split at h
        · rename_i h1
          obtain ⟨rfl, rfl⟩ := Prod.mk.inj (Option.some.inj h)
          have hlt : i < xs.length := hvc
          subst h0; subst h1
          refine ⟨.int kk xs[i], by simp [hlt], ?_⟩
          simp [Den, one, hlt]
        · cases h
      · cases h
  | arr w' rs =>
    simp only [CtDen] at hc
    obtain ⟨rfl, hrs⟩ := hc
    simp only [rdCt] at h
    split at h
    · rename_i hw
      subst hw
      have hlen : ∀ r ∈ rs, r.length = w := fun r hr => (hrs r hr).1
      by_cases hag : T.ag = true
      · rw [if_pos hag] at h ⊢
        split at h
        · rename_i hsum
          split at h
          · rename_i hks
            obtain ⟨rfl, rfl⟩ := Prod.mk.inj (Option.some.inj h)
            have hlt : i < rs.length := hvc
            have hrow : (rs[i]?.getD []) ∈ rs := by rw [List.getElem?_eq_getElem hlt]; exact List.getElem_mem hlt
            have hrl := hlen _ hrow
            have hfl := flatten_len hlen
            have hmul : (i + 1) * w ≤ rs.length * w := Nat.mul_le_mul_right w hlt
            rw [Nat.add_mul] at hmul
            refine ⟨by rw [hfl]; omega, ?_⟩
            simp only [Den]
            refine ⟨_, rfl, ?_⟩
            have := denC_rowSegs (β := β) (hrs _ hrow).2 T.segs k (by rw [hsum, hrl]; exact hks)
            rw [hsum] at this
            rw [← List.drop_drop, flatten_drop hlen hlt, List.drop_append_of_le_length (by omega), List.take_append_of_le_length (by simp; omega)]
            exact this
          · cases h
        · cases h
      · rw [if_neg hag] at h ⊢
        split at h
        · rename_i hk
          obtain ⟨rfl, rfl⟩ := Prod.mk.inj (Option.some.inj h)
          have hlt : i < rs.length := hvc
          have hrow : (rs[i]?.getD []) ∈ rs := by rw [List.getElem?_eq_getElem hlt]; exact List.getElem_mem hlt
          have hrl := hlen _ hrow
          have hk' : k < (rs[i]?.getD []).length := by rw [hrl]; exact hk
          refine ⟨(rs[i]?.getD [])[k], ?_, ?_⟩
          · rw [flatten_get hlen hlt hk, List.getElem?_eq_getElem hk']
          · simp only [Den]
            rw [List.getElem?_eq_getElem hk', Option.getD_some]
            exact ⟨rfl, (hrs _ hrow).2 _ (List.getElem_mem hk')⟩
        · cases h
    · cases h

end Go.SX
