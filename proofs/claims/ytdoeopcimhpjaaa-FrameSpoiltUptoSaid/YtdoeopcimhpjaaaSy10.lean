/-
  The symbolic machine: stores; variables, values and slices that are made; parts of one's own that are frozen.
-/
import Derived.Test.YtdoeopcimhpjaaaSy9
import Derived.Laws.MakeOwn
set_option linter.unusedSimpArgs false
set_option linter.unusedVariables false
namespace Go.SY
open Go

/-- A value that is handed over for good: what was one's own is frozen. -/
def hd1 (bl : Bls) : AV → Option (Bool × AV × Bls)
  | .sl l i w n _ => (match lvl bl l with
    | some (.num k xs) => if w = 1 then some (decide (i + n ≤ xs.length), .imn false k ((xs.drop i).take n) none, setl bl l none) else none
    | some (.rows w' rs) => if w = w' then some (decide (i + n ≤ rs.length), .imr false w ((rs.drop i).take n) none, setl bl l none) else none
    | _ => none)
  | .v x => some (true, .v x, bl)
  | .nil => some (true, .nil, bl)
  | .imn t k xs c => some (true, .imn t k xs c, bl)
  | .imr t w rs c => some (true, .imr t w rs c, bl)
  | .ch n k xs => some (true, .ch n k xs, bl)
  | _ => none

def hdL (bl : Bls) : List AV → Option (Bool × List AV × Bls)
  | [] => some (true, [], bl)
  | x :: xs => (match hd1 bl x with
    | some (c1, y, bl1) => (match hdL bl1 xs with
      | some (c2, ys, bl2) => some (c1 && c2, y :: ys, bl2)
      | none => none)
    | none => none)

def immL : List AV → Bool
  | [] => true
  | .v _ :: r => immL r
  | .nil :: r => immL r
  | .imn _ _ _ _ :: r => immL r
  | .imr _ _ _ _ :: r => immL r
  | .ch _ _ _ :: r => immL r
  | _ => false

def isArr : KD → Bool
  | .arr _ _ _ => true
  | _ => false

def ctOf (a : Bool) (cs : List AV) : Ct := match a, cs with
  | true, [.ch _ k xs] => .num k xs
  | _, cs => .lit cs

def rowsOf (sz : Nat) : Nat → List AV → Option (List (List AV))
  | 0, _ => some []
  | n + 1, cs => (match tk cs sz, dr cs sz with
    | some a, some b => (match rowsOf sz n b with
      | some r => some (a :: r)
      | none => none)
    | _, _ => none)

/-- Numbers of one kind. -/
def numsAV (k : IntKind) : List AV → Option (List Int)
  | [] => some []
  | .v (.int k' z) :: r => if k' = k then (match numsAV k r with
      | some zs => some (z :: zs)
      | none => none) else none
  | _ :: _ => none

def rep (n : Nat) (cs : List AV) : List AV := match n with
  | 0 => []
  | n + 1 => cs ++ rep n cs

/-- What a slice's cells, written out, are kept as. -/
def elCt (E : TI) (sz n : Nat) (r : List AV) : Option Ct := match E.kd with
  | .int k => (match numsAV k r with
    | some xs => some (.num k xs)
    | none => none)
  | _ => if immL r = true then (match rowsOf sz n r with
      | some rs => some (.rows sz rs)
      | none => none) else some (.lit r)

/-- Cells laid into a row. -/
def wrRow (w : Nat) (rs : List (List AV)) (i k : Nat) (fs : List AV) (sz : Nat) : Option (Bool × Ct) :=
  if k = 0 ∧ sz = w then some (decide (i < rs.length), .rows w (rs.set i fs))
  else (match wrC (rs[i]?.getD []) k fs sz with
    | some r => some (decide (i < rs.length), .rows w (rs.set i r))
    | none => none)

/-- Operations that write or make memory: stores, variables, slices made. -/
def eop1 (P : Program) (tm : List (Nat × AV)) (bl : Bls) (o : Op) : Option (Bool × AV × Bls) :=
  match o with
  | .store t a x => (match ti P t with
    | some T => (match ev tm a with
      | .ptr l i w k => (match lvl bl l with
        | some (.rows w' _) => if w = w' then (match flat (ev tm x) T.sz with
          | some fs => (match hdL bl fs with
            | some (c1, gs, bl1) => (match lvl bl1 l with
              | some (.rows w2 rs) => if w = w2 then (match wrRow w rs i k gs T.sz with
                | some (c2, c) => some (c1 && c2, .any, setl bl1 l (some c))
                | none => none) else none
              | _ => none)
            | none => none)
          | none => none) else none
        | some c => (match wrCt c i w k (ev tm x) T.sz with
          | some (vc, c') => some (vc, .any, setl bl l (some c'))
          | none => none)
        | none => none)
      | _ => none)
    | none => none)
  | .alloc t => (match ti P t with
    | some T => (match T.zc with
      | some cs => some (true, .ptr bl.length 0 T.sz 0, bl ++ [some (ctOf (isArr T.kd) cs)])
      | none => none)
    | none => none)
  | .box t x => (match ti P t with
    | some T => (match flat (ev tm x) T.sz with
      | some fs => some (true, .ptr bl.length 0 T.sz 0, bl ++ [some (ctOf (isArr T.kd) fs)])
      | none => none)
    | none => none)
  | .buildSlice t n ps => (match ti P t with
    | some T => (match T.kd with
      | .slice e sz _ => if sz = 0 then none else (match ti P e with
        | some E => (match E.zc with
          | some cs => if n * sz ≤ 16777216 then (if wids cs = sz then (match fillA (fun i => some (i * sz, sz)) (rep n cs) (ps.toList.map fun p => (p.1, ev tm p.2)) with
              | some r => (match elCt E sz n r with
                | some c => some (true, .sl bl.length 0 sz n (some n), bl ++ [some c])
                | none => none)
              | none => none) else none) else none
          | none => none)
        | none => none)
      | _ => none)
    | none => none)
  | .makeSlice t x y => (match ti P t with
    | some T => (match T.kd with
      | .slice e sz by_ => if sz = 0 then none else (match ti P e with
        | some E => (match E.zc with
          | some cs => if wids cs = sz then (match ev tm x, ev tm y with
            | .v (.int _ n), .v (.int _ c) => (match (match E.kd, cs with
                | .int k, [.v (.int k' z)] => if k' = k then some (Ct.num k (List.replicate c.toNat z)) else none
                | .int _, _ => none
                | _, cs => some (Ct.rows sz (List.replicate c.toNat cs))) with
              | some ct => some (decide (0 ≤ n) && (decide (n ≤ c) && (decide ((by_ : Int) * c ≤ 281474976710656) && decide (c < 9223372036854775808))), .sl bl.length 0 sz n.toNat (some c.toNat), bl ++ [some ct])
              | none => none)
            | _, _ => none) else none
          | none => none)
        | none => none)
      | _ => none)
    | none => none)
  | _ => none

/-- An operation that writes or makes memory. -/
def Eff (P : Program) (β : Env) (bl : Bls) (w : World) (ρ : Operand → Value) (o : Oper) (r : AV) (bl' : Bls) : Prop :=
  ∃ y w' β', ((execOp ρ o).run P w = .ok (.value y) w' ∨ (y = undef ∧ (execOp ρ o).run P w = .ok .skip w')) ∧ Den β' r y ∧ Ext β bl w β' bl' w'

section
variable {P : Program} {β : Env} {tm : List (Nat × AV)} {ρ : Operand → Value} {o : Oper} {vc : Bool} {r : AV} {bl bl' : Bls} {w : World}

theorem EvOk.mono {β' : Env} (h : β.le β') (hev : EvOk β tm ρ) : EvOk β' tm ρ := fun x => (hev x).mono h

theorem hd1_sound {x x' : AV} {y : Value} (hh : Heap β bl w) (hd : Den β x y) (ho : one y = true) (h : hd1 bl x = some (vc, x', bl')) (hv : vc = true) (hs : x.scal = true) :
    x'.scal = true ∧ ∃ β', Ext β bl w β' bl' w ∧ Den β' x' y := by
  cases x <;> simp only [hd1] at h <;> try (cases h; done)
  · simp only [Option.some.injEq, Prod.mk.injEq] at h
    obtain ⟨-, rfl, rfl⟩ := h
    exact ⟨rfl, β, .refl hh, hd⟩
  · simp only [Option.some.injEq, Prod.mk.injEq] at h
    obtain ⟨-, rfl, rfl⟩ := h
    exact ⟨rfl, β, .refl hh, hd⟩
  · rename_i l i w' n c
    simp only [Den] at hd
    obtain ⟨A, q, rfl, h1, h2, -, h3⟩ := hd
    split at h
    · rename_i k xs hl
      split at h
      · rename_i hw
        subst hw
        simp only [Option.some.injEq, Prod.mk.injEq] at h
        obtain ⟨rfl, rfl, rfl⟩ := h
        have hv := of_decide_eq_true hv
        have hlen : ((xs.drop i).take n).length = n := by simp; omega
        refine ⟨rfl, ?_⟩
        rw [setl_set]
        obtain ⟨base, hbase, hin⟩ := hh.lv l _ (lvl_get hl)
        cases base with
        | none =>
          have hq : q = 0 := by
            apply Decidable.byContradiction
            intro hne
            obtain ⟨b, s, hb, -⟩ := h3 hne
            rw [hb] at hbase; cases hbase
          have hok : okN k xs := hin.2
          refine ⟨β, hh.kill l, ?_⟩
          simp only [Den]
          exact ⟨A, q, by rw [hlen], by omega, h2, (fun m hm => by cases hm), okN_take (okN_drop hok _) _, fun h => absurd hq h⟩
        | some p =>
          obtain ⟨b, s⟩ := p
          obtain ⟨ys, sp, T, fz, hg, -, hc, -⟩ := heap_cells hh hl hbase rfl
          simp only [CsDen] at hc
          obtain ⟨rfl, hok⟩ := hc
          refine ⟨_, hh.freeze (lvl_get hl) hbase hg, ?_⟩
          simp only [Den]
          refine ⟨A, q, by rw [hlen], by omega, h2, (fun m hm => by cases hm), okN_take (okN_drop hok _) _, fun hq => ?_⟩
          obtain ⟨b', s', hb', rfl, -⟩ := h3 hq
          rw [hbase] at hb'
          cases hb'
          refine ⟨b, i * 1, rfl, _, by simp only [Env.fz, if_true]; exact rfl, fun j v hj => ?_⟩
          have hlt := (List.getElem?_eq_some_iff.1 hj).1
          rw [List.length_map, hlen] at hlt
          rw [List.map_take, List.map_drop, List.getElem?_take_of_lt hlt, List.getElem?_drop] at hj
          simp only [List.getElem?_toArray, Nat.mul_one]
          rw [List.getElem?_append_left (by simp; omega), hj]
      · cases h
    · rename_i wr rs hl
      split at h
      · rename_i hw
        subst hw
        simp only [Option.some.injEq, Prod.mk.injEq] at h
        obtain ⟨rfl, rfl, rfl⟩ := h
        have hv := of_decide_eq_true hv
        have hlen : ((rs.drop i).take n).length = n := by simp; omega
        refine ⟨rfl, ?_⟩
        rw [setl_set]
        obtain ⟨base, hbase, hin⟩ := hh.lv l _ (lvl_get hl)
        cases base with
        | none =>
          have hq : q = 0 := by
            apply Decidable.byContradiction
            intro hne
            obtain ⟨b, s, hb, -⟩ := h3 hne
            rw [hb] at hbase; cases hbase
          have hr : DenR β w' rs [] := hin
          refine ⟨β, hh.kill l, ?_⟩
          simp only [Den]
          exact ⟨A, q, _, by rw [hlen], by omega, h2, (fun m hm => by cases hm), denR_take n (denR_drop i hr), fun h => absurd hq h⟩
        | some p =>
          obtain ⟨b, s⟩ := p
          obtain ⟨ys, sp, T, fz, hg, -, hc, -⟩ := heap_cells hh hl hbase rfl
          simp only [CsDen] at hc
          have hfr := hh.freeze (lvl_get hl) hbase hg
          refine ⟨_, hfr, ?_⟩
          simp only [Den]
          refine ⟨A, q, (ys.drop (i * w')).take (n * w'), by rw [hlen], by omega, h2, (fun m hm => by cases hm), denR_take n (denR_drop i (hc.mono hfr.le)), fun hq => ?_⟩
          obtain ⟨b', s', hb', rfl, -⟩ := h3 hq
          rw [hbase] at hb'
          cases hb'
          refine ⟨b, i * w', rfl, _, by simp only [Env.fz, if_true]; exact rfl, fun j v hj => ?_⟩
          have hlt := (List.getElem?_eq_some_iff.1 hj).1
          simp only [List.length_take, List.length_drop] at hlt
          rw [List.getElem?_take_of_lt (by omega), List.getElem?_drop] at hj
          have hlt2 := (List.getElem?_eq_some_iff.1 hj).1
          simp only [List.getElem?_toArray]
          rw [List.getElem?_append_left hlt2, hj]
      · cases h
    · cases h
  · simp only [Option.some.injEq, Prod.mk.injEq] at h
    obtain ⟨-, rfl, rfl⟩ := h
    exact ⟨rfl, β, .refl hh, hd⟩
  · simp only [Option.some.injEq, Prod.mk.injEq] at h
    obtain ⟨-, rfl, rfl⟩ := h
    exact ⟨rfl, β, .refl hh, hd⟩
  · simp [AV.scal] at hs

theorem hdL_sound : ∀ {cs cs' : List AV} {β : Env} {bl bl' : Bls} {ys : List Value} {vc : Bool}, Heap β bl w → DenC β cs ys → hdL bl cs = some (vc, cs', bl') → vc = true → ∃ β', Ext β bl w β' bl' w ∧ DenC β' cs' ys
  | [], cs', β, bl, bl', ys, vc, hh, hd, h, hv => by
    simp only [hdL, Option.some.injEq, Prod.mk.injEq] at h
    obtain ⟨-, rfl, rfl⟩ := h
    exact ⟨β, .refl hh, hd⟩
  | x :: xs, cs', β, bl, bl', ys, vc, hh, hd, h, hv => by
    simp only [hdL] at h
    split at h
    · rename_i c1 x' bl1 h1
      split at h
      · rename_i c2 xs' bl2 h2
        simp only [Option.some.injEq, Prod.mk.injEq] at h
        obtain ⟨rfl, rfl, rfl⟩ := h
        simp only [Bool.and_eq_true] at hv
        rcases denC_case hd with ⟨hs, y, zs, rfl, g1, g2, g3⟩ | ⟨n, k, ns, rfl, zs, rfl, g1, g2, g3⟩
        · obtain ⟨hs', β1, e1, d1⟩ := hd1_sound hh g1 g2 h1 hv.1 hs
          obtain ⟨β2, e2, d2⟩ := hdL_sound e1.heap (DenC.mono e1.le g3) h2 hv.2
          exact ⟨β2, e1.trans e2, (denC_cons hs').2 ⟨y, zs, rfl, d1.mono e2.le, g2, d2⟩⟩
        · simp only [hd1, Option.some.injEq, Prod.mk.injEq] at h1
          obtain ⟨-, rfl, rfl⟩ := h1
          obtain ⟨β2, e2, d2⟩ := hdL_sound hh g3 h2 hv.2
          exact ⟨β2, e2, denC_ch.2 ⟨zs, rfl, g1, g2, d2⟩⟩
      · cases h
    · cases h

theorem wrRow_sound {w' : Nat} {rs : List (List AV)} {i k sz : Nat} {fs : List AV} {us ys : List Value} {c : Ct} (hf : DenC β fs us) (hu : us.length = sz) (hc : DenR β w' rs ys) (h : wrRow w' rs i k fs sz = some (vc, c)) (hv : vc = true) :
    i * w' + k + sz ≤ ys.length ∧ CsDen β c (ys.take (i * w' + k) ++ (us ++ ys.drop (i * w' + k + sz))) := by
  unfold wrRow at h
  split at h
  · rename_i hk
    obtain ⟨rfl, rfl⟩ := hk
    obtain ⟨rfl, rfl⟩ := Prod.mk.inj (Option.some.inj h)
    have hlt : i < rs.length := by simpa using hv
    obtain ⟨vs, -, h4, h5, h6⟩ := denR_row hc hlt
    exact ⟨by omega, denR_set hf hu hc hlt⟩
  · split at h
    · rename_i r hr
      obtain ⟨rfl, rfl⟩ := Prod.mk.inj (Option.some.inj h)
      have hlt : i < rs.length := by simpa using hv
      obtain ⟨vs, h3, h4, h5, h6⟩ := denR_row hc hlt
      obtain ⟨h7, h8⟩ := wrC_sound hf hu h3 hr
      refine ⟨by omega, ?_⟩
      simp only [CsDen]
      rw [take_row h5 h4 h6 (by omega) hu]
      exact denR_set h8 (by simp [hu, h4]; omega) hc hlt
    · cases h

theorem wrRow_spk {w' : Nat} {rs : List (List AV)} {i k sz : Nat} {fs : List AV} {c : Ct} (h : wrRow w' rs i k fs sz = some (vc, c)) : spk c = spk (.rows w' rs) ∧ spz c = spz (.rows w' rs) := by
  unfold wrRow at h
  repeat' split at h
  all_goals first
    | cases h; done
    | (simp only [Option.some.injEq, Prod.mk.injEq] at h; rw [← h.2]; exact ⟨rfl, rfl⟩)
theorem wrCt_spk {c c' : Ct} {i w' k sz : Nat} {x : AV} (h : wrCt c i w' k x sz = some (vc, c')) : spk c' = spk c ∧ spz c' = spz c := by
  unfold wrCt at h
  repeat' split at h
  all_goals first
    | cases h; done
    | (simp only [Option.some.injEq, Prod.mk.injEq] at h; rw [← h.2]; exact ⟨rfl, rfl⟩)
    | (simp only [Option.some.injEq, Prod.mk.injEq] at h; obtain ⟨-, rfl⟩ := h; first | exact ⟨rfl, rfl⟩ | simp_all [spk, spz])

/-- Cells stored into a level. -/
theorem stored {t : TypeId} {T : TI} {l b s p : Nat} {c c' : Ct} {x : Operand} {y : Value} {a : Operand} (hh : Heap β bl w) (hop : o.op = .store t a x) (ht : ti P t = some T) (hl : lvl bl l = some c) (hb : β.b[l]? = some (some (b, s)))
    (ha : ρ a = .pointer (some ⟨b, p, none⟩)) (hy : ρ x = y) (hlen : y.cells.toList.length = T.sz) (hone : ∀ u ∈ y.cells.toList, one u = true)
    (h : ∀ ys, CsDen β c ys → p + T.sz ≤ ys.length ∧ CsDen β c' (ys.take p ++ (y.cells.toList ++ ys.drop (p + T.sz)))) (hcell : c.cell = true) (hkd : spk c' = spk c ∧ spz c' = spz c) : Eff P β bl w ρ o .any (bl.set l (some c')) := by
  obtain ⟨ys, sp, U, fz, hg, hs, hcs, hsp, hfz⟩ := heap_cells hh hl hb hcell
  obtain ⟨h1, h2⟩ := h ys hcs
  have hst := storeVar_run (P := P) (w := w) (b := b) (p := p) (y := y) ht hg (by simpa [hs] using hfz.2.1) hlen hone (by simp; omega)
  have e : (ys ++ sp).take p ++ (y.cells.toList ++ (ys ++ sp).drop (p + T.sz)) = (ys.take p ++ (y.cells.toList ++ ys.drop (p + T.sz))) ++ sp := by
    rw [List.take_append_of_le_length (by omega), List.drop_append_of_le_length (by omega)]; simp
  rw [e] at hst
  have hw := hh.write (lvl_get hl) hb hg hs hsp hfz hkd h2 (by simp; simp at hlen; omega)
  refine ⟨undef, _, β, .inr ⟨rfl, ?_⟩, by simp [Den], hw⟩
  unfold execOp
  simp only [hop, Instr.storeAt, ha, hy, Instr.sureAddr, Sem.run_bind, Sem.run_pure, Result.andThen_ok, hst]

theorem store_sound {t : TypeId} {a x : Operand} (hev : EvOk β tm ρ) (hh : Heap β bl w) (hop : o.op = .store t a x) (h : eop1 P tm bl o.op = some (vc, r, bl')) (hv : vc = true) : Eff P β bl w ρ o r bl' := by
  rw [hop] at h
  simp only [eop1] at h
  split at h
  · rename_i T ht
    have hd := hev a
    split at h
    · rename_i l i w' k he
      rw [he] at hd
      simp only [Den] at hd
      obtain ⟨b, s, hb, ha⟩ := hd
      split at h
      · rename_i w2 rs0 hl0
        split at h
        · split at h
          · rename_i fs hf
            split at h
            · rename_i c1 gs bl1 hhd
              split at h
              · rename_i w3 rs hl
                split at h
                · rename_i hw3
                  subst hw3
                  split at h
                  · rename_i c2 c hwr
                    simp only [Option.some.injEq, Prod.mk.injEq] at h
                    obtain ⟨rfl, rfl, rfl⟩ := h
                    simp only [Bool.and_eq_true] at hv
                    obtain ⟨h1, h2⟩ := den_flat (hev x) hf
                    obtain ⟨β1, e1, d1⟩ := hdL_sound hh h1 hhd hv.1
                    obtain ⟨y, w', β', h3, h4, h5⟩ := stored (P := P) (p := i * w' + k) (s := s) (c' := c) e1.heap hop ht hl (e1.le.at hb) ha rfl h2 (denC_ones h1) (fun ys hys => wrRow_sound d1 h2 hys hwr hv.2) rfl (wrRow_spk hwr)
                    rw [setl_set]
                    exact ⟨y, w', β', h3, h4, e1.trans h5⟩
                  · cases h
                · cases h
              · cases h
            · cases h
          · cases h
        · cases h
      · rename_i c hnr hl
        split at h
        · rename_i vc' c' hwr
          simp only [Option.some.injEq, Prod.mk.injEq] at h
          obtain ⟨rfl, rfl, rfl⟩ := h
          rw [setl_set]
          have hcell : c.cell = true := by cases c <;> first | rfl | (simp [wrCt] at hwr)
          have hsz : ∃ ys, CsDen β c ys := by
            obtain ⟨ys, sp, U, fz, -, -, hcs, -⟩ := heap_cells hh hl hb hcell
            exact ⟨ys, hcs⟩
          obtain ⟨ys0, hys0⟩ := hsz
          obtain ⟨g1, g2, -, -, -⟩ := wrCt_sound hys0 (hev x) hwr hv
          refine stored (P := P) (p := i * w' + k) (s := s) hh hop ht hl hb ha rfl g1 g2 (fun ys hys => ?_) hcell (wrCt_spk hwr)
          obtain ⟨-, -, g3, -, g5⟩ := wrCt_sound hys (hev x) hwr hv
          exact ⟨g3, g5⟩
        · cases h
      · cases h
    · cases h
  · cases h

theorem ctOf_den {a : Bool} {cs : List AV} {ys : List Value} (h : DenC β cs ys) : CsDen β (ctOf a cs) ys := by
  unfold ctOf
  split
  · obtain ⟨zs, rfl, -, h2, h3⟩ := denC_ch.1 h
    simp only [DenC] at h3
    subst h3
    simp only [CsDen, List.append_nil, true_and]
    exact h2
  · exact h

/-- A variable that is made. -/
theorem made {t : TypeId} {sz : Nat} {c : Ct} {y : Value} (hh : Heap β bl w) (hc : CsDen β c y.cells.toList) (hrun : (execOp ρ o).run P w = .ok (.value (.pointer (some ⟨w.heap.size, 0, none⟩))) { w with heap := w.heap.push (.cells y.cells t) }) :
    Eff P β bl w ρ o (.ptr bl.length 0 sz 0) (bl ++ [some c]) := by
  have hm := hh.row (c := c) (ys := y.cells.toList) (sp := []) t hc (fun _ h => by cases h) (w' := { w with heap := w.heap.push (.cells y.cells t) }) (by simp) rfl rfl rfl
  refine ⟨_, _, _, .inl hrun, ?_, hm⟩
  simp only [Den]
  exact ⟨w.heap.size, _, at_new hh, by simp⟩

theorem alloc_sound {t : TypeId} (hh : Heap β bl w) (hop : o.op = .alloc t) (h : eop1 P tm bl o.op = some (vc, r, bl')) : Eff P β bl w ρ o r bl' := by
  rw [hop] at h
  simp only [eop1] at h
  split at h
  · rename_i T ht
    split at h
    · rename_i cs hz
      simp only [Option.some.injEq, Prod.mk.injEq] at h
      obtain ⟨-, rfl, rfl⟩ := h
      obtain ⟨i, v, hi, hzz, hc, -⟩ := zc_spec (β := β) ht hz
      refine made (y := v) (t := t) hh (ctOf_den hc) ?_
      unfold execOp
      simp only [hop, Instr.alloc, Sem.run_bind, zeroValue, typeInfo, hi, run_program, Result.andThen_ok, hzz, newVar, newRow, run_newObj, Sem.run_pure]
    · cases h
  · cases h

theorem box_sound {t : TypeId} {x : Operand} (hev : EvOk β tm ρ) (hh : Heap β bl w) (hop : o.op = .box t x) (h : eop1 P tm bl o.op = some (vc, r, bl')) : Eff P β bl w ρ o r bl' := by
  rw [hop] at h
  simp only [eop1] at h
  split at h
  · rename_i T ht
    split at h
    · rename_i fs hf
      simp only [Option.some.injEq, Prod.mk.injEq] at h
      obtain ⟨-, rfl, rfl⟩ := h
      obtain ⟨hd, -⟩ := den_flat (hev x) hf
      refine made (y := ρ x) (t := t) hh (ctOf_den hd) ?_
      unfold execOp
      simp only [hop, Instr.box, Sem.run_bind, Result.andThen_ok, newVar, newRow, run_newObj, Sem.run_pure]
    · cases h
  · cases h

theorem numsAV_sound {k : IntKind} : ∀ {cs : List AV} {ys : List Value} {xs : List Int}, DenC β cs ys → numsAV k cs = some xs → ys = xs.map (.int k) ∧ okN k xs
  | [], ys, xs, hd, h => by simp only [numsAV, Option.some.injEq] at h; subst h; simp only [DenC] at hd; subst hd; exact ⟨rfl, fun _ h => by cases h⟩
  | c :: r, ys, xs, hd, h => by
    obtain ⟨k', z, rfl⟩ : ∃ k' z, c = .v (.int k' z) := by
      cases c with
      | v v => cases v <;> first | exact ⟨_, _, rfl⟩ | (simp [numsAV] at h)
      | _ => simp [numsAV] at h
    obtain ⟨y, zs, rfl, h1, -, h2⟩ := (denC_cons (by rfl)).1 hd
    simp only [numsAV] at h
    split at h
    · rename_i e
      split at h
      · rename_i zs' hz
        obtain rfl := Option.some.inj h
        obtain ⟨g1, g2⟩ := numsAV_sound h2 hz
        obtain ⟨rfl, hk⟩ := den_int h1
        subst e
        refine ⟨by rw [g1]; rfl, fun q hq => ?_⟩
        rcases List.mem_cons.1 hq with rfl | hq
        · exact hk
        · exact g2 q hq
      · cases h
    · cases h

theorem rep_sound {cs : List AV} {z : List Value} (h : DenC β cs z) : ∀ k : Nat, DenC β (rep k cs) (List.replicate k z).flatten
  | 0 => by simp [rep, DenC]
  | k + 1 => by simp only [rep, List.replicate_succ, List.flatten_cons]; exact denC_append h (rep_sound h k)

theorem denR_rep {cs : List AV} {z : List Value} {sz : Nat} (h : DenC β cs z) (hz : z.length = sz) : ∀ k : Nat, DenR β sz (List.replicate k cs) (List.replicate k z).flatten
  | 0 => by simp [DenR]
  | k + 1 => by simp only [List.replicate_succ, List.flatten_cons, DenR]; exact ⟨z, _, rfl, hz, h, denR_rep h hz k⟩

theorem rowsOf_sound {sz : Nat} : ∀ {n : Nat} {cs : List AV} {rs : List (List AV)} {ys : List Value}, DenC β cs ys → rowsOf sz n cs = some rs → ys.length = n * sz → DenR β sz rs ys
  | 0, cs, rs, ys, _, h, hl => by
    simp only [rowsOf, Option.some.injEq] at h
    subst h
    simp only [DenR]
    exact List.length_eq_zero_iff.1 (by omega)
  | n + 1, cs, rs, ys, hd, h, hl => by
    simp only [rowsOf] at h
    split at h
    · rename_i a b ha hb
      split at h
      · rename_i r hr
        obtain rfl := Option.some.inj h
        obtain ⟨h1, h2⟩ := denC_tk hd ha
        obtain ⟨h3, h4⟩ := denC_dr hd hb
        simp only [DenR]
        refine ⟨ys.take sz, ys.drop sz, by simp, by simp; omega, h2, rowsOf_sound h4 hr ?_⟩
        simp only [List.length_drop]
        rw [Nat.add_mul] at hl; omega
      · cases h
    · cases h

theorem elCt_sound {E : TI} {sz n : Nat} {r : List AV} {c : Ct} {ys : List Value} (hd : DenC β r ys) (h : elCt E sz n r = some c) (hl : ys.length = n * sz) : CsDen β c ys := by
  unfold elCt at h
  split at h
  · split at h
    · rename_i xs hx
      obtain rfl := Option.some.inj h
      exact numsAV_sound hd hx
    · cases h
  · split at h
    · split at h
      · rename_i rs hr
        obtain rfl := Option.some.inj h
        exact rowsOf_sound hd hr hl
      · cases h
    · obtain rfl := Option.some.inj h
      exact hd

theorem flatten_get {w : Nat} : ∀ {rs : List (List Value)} {i k : Nat}, (∀ r ∈ rs, r.length = w) → i < rs.length → k < w → rs.flatten[i * w + k]? = (rs[i]?.getD [])[k]?
  | [], i, k, _, h, _ => by simp at h
  | r :: rs, 0, k, hr, _, hk => by
    have h0 := hr r (by simp)
    simp only [List.flatten_cons, Nat.zero_mul, Nat.zero_add, List.getElem?_cons_zero, Option.getD_some]
    rw [List.getElem?_append_left (by omega)]
  | r :: rs, i + 1, k, hr, hi, hk => by
    have h0 := hr r (by simp)
    have ih := flatten_get (rs := rs) (i := i) (k := k) (fun r hr' => hr r (by simp [hr'])) (by simpa using hi) hk
    simp only [List.flatten_cons, List.getElem?_cons_succ]
    rw [List.getElem?_append_right (by rw [h0, Nat.add_mul]; omega), ← ih]
    congr 1
    rw [h0, Nat.add_mul]; omega

theorem flatten_len {w : Nat} : ∀ {rs : List (List Value)}, (∀ r ∈ rs, r.length = w) → rs.flatten.length = rs.length * w
  | [], _ => by simp
  | r :: rs, h => by
    have := flatten_len (rs := rs) (fun r hr => h r (by simp [hr]))
    simp [this, h r (by simp), Nat.add_mul, Nat.add_comm]

theorem rows_zero (z : List Value) (k : Nat) (hz : 0 < z.length) : ((Array.range (k * z.length)).map fun j => z.toArray[j % z.toArray.size]!) = (List.replicate k z).flatten.toArray := by
  apply Array.ext'
  simp only [Array.toList_map, Array.toList_range]
  apply List.ext_getElem?
  intro j
  rw [List.getElem?_map]
  have hrl : ∀ r ∈ List.replicate k z, r.length = z.length := fun r hr => by rw [List.eq_of_mem_replicate hr]
  by_cases hj : j < k * z.length
  · rw [List.getElem?_range hj]
    have hi : j / z.length < k := Nat.div_lt_of_lt_mul (by rwa [Nat.mul_comm])
    have e := flatten_get hrl (i := j / z.length) (k := j % z.length) (by simpa using hi) (Nat.mod_lt _ hz)
    have e0 : j / z.length * z.length + j % z.length = j := by rw [Nat.mul_comm]; exact Nat.div_add_mod j z.length
    rw [e0] at e
    rw [e]
    have hm : j % z.length < z.length := Nat.mod_lt _ hz
    simp [hi, hm]
  · rw [List.getElem?_eq_none (by simpa using hj), List.getElem?_eq_none (by rw [flatten_len hrl]; simpa using hj)]
    rfl

/-- A slice that is made. -/
theorem madeSl {e : TypeId} {sz n m : Nat} {c : Ct} {ys : List Value} (hh : Heap β bl w) (hc : CsDen β c ys) (hn : n ≤ m) (hm : m < 9223372036854775808) (hl : ys.length = m * sz)
    (hrun : (execOp ρ o).run P w = .ok (.value (.slice (some ⟨w.heap.size, 0, none⟩) n m)) { w with heap := w.heap.push (.cells ys.toArray e) }) :
    Eff P β bl w ρ o (.sl bl.length 0 sz n (some m)) (bl ++ [some c]) := by
  have hm' := hh.row (c := c) (ys := ys) (sp := []) e hc (fun _ h => by cases h) (w' := { w with heap := w.heap.push (.cells ys.toArray e) }) (by simp) rfl rfl rfl
  refine ⟨_, _, _, .inl hrun, ?_, hm'⟩
  simp only [Den]
  exact ⟨_, m, rfl, hn, hm, fun _ h => Option.some.inj h, fun _ => ⟨w.heap.size, _, at_new hh, by simp, by simp [hl]⟩⟩

theorem buildSlice_sound {t : TypeId} {m : Nat} {ps : Array (Nat × Operand)} (hev : EvOk β tm ρ) (hh : Heap β bl w) (hop : o.op = .buildSlice t m ps) (h : eop1 P tm bl o.op = some (vc, r, bl')) : Eff P β bl w ρ o r bl' := by
  rw [hop] at h
  simp only [eop1] at h
  split at h
  · rename_i T ht
    split at h
    · rename_i e sz b hk
      split at h
      · cases h
      · rename_i hsz
        split at h
        · rename_i E hE
          split at h
          · rename_i cs hz
            split at h
            · rename_i hbig
              split at h
              · rename_i hzl
                split at h
                · rename_i r' hf
                  split at h
                  · rename_i c hel
                    simp only [Option.some.injEq, Prod.mk.injEq] at h
                    obtain ⟨-, rfl, rfl⟩ := h
                    obtain ⟨hu, hcz, -⟩ := kd_slice ht hk
                    obtain ⟨i, v, hi, hzz, hc, -⟩ := zc_spec (β := β) hE hz
                    have hvl : v.cells.toList.length = sz := by rw [← hzl]; exact denC_len hc
                    obtain ⟨zs, h1, h2, h3⟩ := fillA_sound hev (rep_sound hc m) hf
                    have hrl : ∀ r ∈ List.replicate m v.cells.toList, r.length = sz := fun r hr => by rw [List.eq_of_mem_replicate hr]; exact hvl
                    have hzn : zs.length = m * sz := by rw [h2, flatten_len hrl]; simp
                    have hm : m ≤ 16777216 := Nat.le_trans (Nat.le_mul_of_pos_right m (by omega)) hbig
                    refine madeSl (e := e) hh (elCt_sound h1 hel hzn) (Nat.le_refl _) (by omega) hzn ?_
                    have e2 : (ps.map fun x => (x.1, ρ x.2)).toList = ps.toList.map fun p => (p.1, ρ p.2) := by simp
                    have hnb : ¬ (m * sz > 2 ^ 24) := by
                      have : (2 : Nat) ^ 24 = 16777216 := by decide
                      omega
                    have ec : v.cells = v.cells.toList.toArray := by simp
                    unfold execOp
                    simp only [hop, Instr.buildSlice, Sem.run_bind, underlying_run w hu, Result.andThen_ok, sizeOf_pos w hcz hsz, hnb, if_false, Sem.run_pure]
                    by_cases h0 : m * sz = 0
                    · have hm0 : m = 0 := by
                        rcases Nat.mul_eq_zero.1 h0 with h | h
                        · exact h
                        · exact absurd h hsz
                      subst hm0
                      simp only [List.replicate_zero, List.flatten_nil] at h3
                      simp only [Nat.zero_mul, if_true, Sem.run_bind, Sem.run_pure, Result.andThen_ok]
                      rw [show ((Array.range 0).map fun j => (#[] : Array Value)[j % (#[] : Array Value).size]!) = #[] by simp, e2]
                      rw [show (#[] : Array Value) = ([] : List Value).toArray from rfl, h3]
                      simp only [newRow, Sem.run_bind, run_newObj, Result.andThen_ok, Sem.run_pure]
                    · simp only [h0, if_false, Sem.run_bind, zeroValue, typeInfo, hi, run_program, Result.andThen_ok, Sem.run_pure, hzz]
                      rw [ec, ← hvl, rows_zero _ m (by omega), e2, hvl, h3]
                      simp only [newRow, Sem.run_bind, run_newObj, Result.andThen_ok, Sem.run_pure]
                  · cases h
                · cases h
              · cases h
            · cases h
          · cases h
        · cases h
    · cases h
  · cases h

theorem makeSlice_sound {t : TypeId} {x y : Operand} (hev : EvOk β tm ρ) (hh : Heap β bl w) (hop : o.op = .makeSlice t x y) (h : eop1 P tm bl o.op = some (vc, r, bl')) (hv : vc = true) : Eff P β bl w ρ o r bl' := by
  rw [hop] at h
  simp only [eop1] at h
  split at h
  · rename_i T ht
    split at h
    · rename_i e sz by_ hk
      split at h
      · cases h
      · rename_i hsz
        split at h
        · rename_i E hE
          split at h
          · rename_i cs hz
            split at h
            · rename_i hzl
              split at h
              · rename_i k1 n k2 c hx hy
                split at h
                · rename_i ct hct
                  simp only [Option.some.injEq, Prod.mk.injEq] at h
                  obtain ⟨rfl, rfl, rfl⟩ := h
                  simp only [Bool.and_eq_true, decide_eq_true_eq] at hv
                  obtain ⟨q1, q2, q3, q4⟩ := hv
                  obtain ⟨hu, hcz, hby⟩ := kd_slice ht hk
                  obtain ⟨i, v, hi, hzz, hc, -⟩ := zc_spec (β := β) hE hz
                  have hvl : v.cells.toList.length = sz := by rw [← hzl]; exact denC_len hc
                  have hx' := hev x
                  have hy' := hev y
                  rw [hx] at hx'; rw [hy] at hy'
                  obtain ⟨hx', -⟩ := den_int hx'
                  obtain ⟨hy', -⟩ := den_int hy'
                  have hib : i.bytes = by_ := by rw [← hby]; simp [Program.bytesOf, hi]
                  obtain ⟨n, rfl⟩ := Int.eq_ofNat_of_zero_le q1
                  obtain ⟨c, rfl⟩ := Int.eq_ofNat_of_zero_le (show 0 ≤ c by omega)
                  simp only [Int.toNat_natCast] at hct ⊢
                  have hden : CsDen β ct (List.replicate c v.cells.toList).flatten := by
                    split at hct
                    · rename_i k k' z hEk
                      split at hct
                      · rename_i hk'
                        obtain rfl := Option.some.inj hct
                        obtain ⟨y', zs, e1, e2, -, e3⟩ := (denC_cons (by rfl)).1 hc
                        simp only [DenC] at e3
                        obtain ⟨rfl, hok⟩ := den_int e2
                        subst e3
                        rw [e1]
                        subst hk'
                        refine ⟨?_, fun q hq => by rw [List.eq_of_mem_replicate hq]; exact hok⟩
                        simp
                      · cases hct
                    · cases hct
                    · obtain rfl := Option.some.inj hct
                      exact denR_rep hc hvl c
                  have hrl : ∀ r ∈ List.replicate c v.cells.toList, r.length = sz := fun r hr => by rw [List.eq_of_mem_replicate hr]; exact hvl
                  have hfl : (List.replicate c v.cells.toList).flatten.length = c * sz := by rw [flatten_len hrl]; simp
                  refine madeSl (e := e) hh hden (by omega) (by omega) hfl ?_
                  have his : i.size = sz := by rw [← hcz]; simp [Program.cellsOf, hi]
                  have hrun := run_make (P := P) w t e i v hu hi hzz k1 k2 n c q1 q2 (by rw [hib]; exact q3) (by omega)
                  have cells : madeCells v.cells (c * sz) = (List.replicate c v.cells.toList).flatten.toArray := by
                    have := rows_zero v.cells.toList c (by omega)
                    rw [hvl] at this
                    unfold madeCells
                    simpa [hvl] using this
                  simp only [Int.toNat_natCast] at hrun
                  rw [his, cells] at hrun
                  unfold execOp
                  simp only [hop, hx', hy', Sem.run_bind, hrun, Result.andThen_ok, Sem.run_pure]
                  rfl
                · cases h
              · cases h
            · cases h
          · cases h
        · cases h
    · cases h
  · cases h

end

end Go.SY
