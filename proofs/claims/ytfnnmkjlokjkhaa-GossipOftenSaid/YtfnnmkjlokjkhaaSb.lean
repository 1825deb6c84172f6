/- The symbolic machine (Sy10, Sy11, Sy12, Sy13). -/
import Derived.Test.YtfnnmkjlokjkhaaSa
import Derived.Laws.MakeOwn
import Derived.Laws.Append
import Derived.Laws.IdiomStrings
set_option linter.unusedSimpArgs false
set_option linter.unusedVariables false
/-
  The symbolic machine: stores; variables, values and slices that are made; parts of one's own that are frozen.
-/
namespace Go.SY
open Go
def hd1 (bl : Bls) : AV → Option (Bool × AV × Bls)
  | .sl l i w n _ => (match lvl bl l with
    | some (.num k xs) => if w = 1 then some (decide (i + n ≤ xs.length), .imn false k ((xs.drop i).take n) none, setl bl l none) else none
    | some (.rows w' rs) => if w = w' then some (decide (i + n ≤ rs.length), .imr false w ((rs.drop i).take n) none, setl bl l none) else none
    | _ => none)
  | .v x => some (true, .v x, bl)
  | .nil => some (true, .nil, bl)
  | .imn t k xs c => some (true, .imn t k xs c, bl)
  | .imr t w rs c => some (true, .imr t w rs c, bl)
  | .ch n k xs => some (true, .ch n k xs, bl)
  | _ => none
def hdL (bl : Bls) : List AV → Option (Bool × List AV × Bls)
  | [] => some (true, [], bl)
  | x :: xs => (match hd1 bl x with
    | some (c1, y, bl1) => (match hdL bl1 xs with
      | some (c2, ys, bl2) => some (c1 && c2, y :: ys, bl2)
      | none => none)
    | none => none)
def immL : List AV → Bool
  | [] => true
  | .v _ :: r => immL r
  | .nil :: r => immL r
  | .imn _ _ _ _ :: r => immL r
  | .imr _ _ _ _ :: r => immL r
  | .ch _ _ _ :: r => immL r
  | _ => false
def isArr : KD → Bool
  | .arr _ _ _ => true
  | _ => false
def ctOf (a : Bool) (cs : List AV) : Ct := match a, cs with
  | true, [.ch _ k xs] => .num k xs
  | _, cs => .lit cs
def rowsOf (sz : Nat) : Nat → List AV → Option (List (List AV))
  | 0, _ => some []
  | n + 1, cs => (match tk cs sz, dr cs sz with
    | some a, some b => (match rowsOf sz n b with
      | some r => some (a :: r)
      | none => none)
    | _, _ => none)
def numsAV (k : IntKind) : List AV → Option (List Int)
  | [] => some []
  | .v (.int k' z) :: r => if k' = k then (match numsAV k r with
      | some zs => some (z :: zs)
      | none => none) else none
  | _ :: _ => none
def rep (n : Nat) (cs : List AV) : List AV := match n with
  | 0 => []
  | n + 1 => cs ++ rep n cs
def elCt (E : TI) (sz n : Nat) (r : List AV) : Option Ct := match E.kd with
  | .int k => (match numsAV k r with
    | some xs => some (.num k xs)
    | none => none)
  | _ => if immL r = true then (match rowsOf sz n r with
      | some rs => some (.rows sz rs)
      | none => none) else some (.lit r)
def wrRow (w : Nat) (rs : List (List AV)) (i k : Nat) (fs : List AV) (sz : Nat) : Option (Bool × Ct) :=
  if k = 0 ∧ sz = w then some (decide (i < rs.length), .rows w (rs.set i fs))
  else (match wrC (rs[i]?.getD []) k fs sz with
    | some r => some (decide (i < rs.length), .rows w (rs.set i r))
    | none => none)
def eop1 (P : Program) (tm : List (Nat × AV)) (bl : Bls) (o : Op) : Option (Bool × AV × Bls) :=
  match o with
  | .store t a x => (match ti P t with
    | some T => (match ev tm a with
      | .ptr l i w k => (match lvl bl l with
        | some (.rows w' _) => if w = w' then (match flat (ev tm x) T.sz with
          | some fs => (match hdL bl fs with
            | some (c1, gs, bl1) => (match lvl bl1 l with
              | some (.rows w2 rs) => if w = w2 then (match wrRow w rs i k gs T.sz with
                | some (c2, c) => some (c1 && c2, .any, setl bl1 l (some c))
                | none => none) else none
              | _ => none)
            | none => none)
          | none => none) else none
        | some c => (match wrCt c i w k (ev tm x) T.sz with
          | some (vc, c') => some (vc, .any, setl bl l (some c'))
          | none => none)
        | none => none)
      | _ => none)
    | none => none)
  | .alloc t => (match ti P t with
    | some T => (match T.zc with
      | some cs => some (true, .ptr bl.length 0 T.sz 0, bl ++ [some (ctOf (isArr T.kd) cs)])
      | none => none)
    | none => none)
  | .box t x => (match ti P t with
    | some T => (match flat (ev tm x) T.sz with
      | some fs => some (true, .ptr bl.length 0 T.sz 0, bl ++ [some (ctOf (isArr T.kd) fs)])
      | none => none)
    | none => none)
  | .buildSlice t n ps => (match ti P t with
    | some T => (match T.kd with
      | .slice e sz _ => if sz = 0 then none else (match ti P e with
        | some E => (match E.zc with
          | some cs => if n * sz ≤ 16777216 then (if wids cs = sz then (match fillA (fun i => some (i * sz, sz)) (rep n cs) (ps.toList.map fun p => (p.1, ev tm p.2)) with
              | some r => (match elCt E sz n r with
                | some c => some (true, .sl bl.length 0 sz n (some n), bl ++ [some c])
                | none => none)
              | none => none) else none) else none
          | none => none)
        | none => none)
      | _ => none)
    | none => none)
  | .makeSlice t x y => (match ti P t with
    | some T => (match T.kd with
      | .slice e sz by_ => if sz = 0 then none else (match ti P e with
        | some E => (match E.zc with
          | some cs => if wids cs = sz then (match ev tm x, ev tm y with
            | .v (.int _ n), .v (.int _ c) => (match (match E.kd, cs with
                | .int k, [.v (.int k' z)] => if k' = k then some (Ct.num k (List.replicate c.toNat z)) else none
                | .int _, _ => none
                | _, cs => some (Ct.rows sz (List.replicate c.toNat cs))) with
              | some ct => some (decide (0 ≤ n) && (decide (n ≤ c) && (decide ((by_ : Int) * c ≤ 281474976710656) && decide (c < 9223372036854775808))), .sl bl.length 0 sz n.toNat (some c.toNat), bl ++ [some ct])
              | none => none)
            | _, _ => none) else none
          | none => none)
        | none => none)
      | _ => none)
    | none => none)
  | _ => none
def Eff (P : Program) (β : Env) (bl : Bls) (w : World) (ρ : Operand → Value) (o : Oper) (r : AV) (bl' : Bls) : Prop :=
  ∃ y w' β', ((execOp ρ o).run P w = .ok (.value y) w' ∨ (y = undef ∧ (execOp ρ o).run P w = .ok .skip w')) ∧ Den β' r y ∧ Ext β bl w β' bl' w'
section
variable {P : Program} {β : Env} {tm : List (Nat × AV)} {ρ : Operand → Value} {o : Oper} {vc : Bool} {r : AV} {bl bl' : Bls} {w : World}
theorem EvOk.mono {β' : Env} (h : β.le β') (hev : EvOk β tm ρ) : EvOk β' tm ρ := fun x => (hev x).mono h
theorem hd1_sound {x x' : AV} {y : Value} (hh : Heap β bl w) (hd : Den β x y) (ho : one y = true) (h : hd1 bl x = some (vc, x', bl')) (hv : vc = true) (hs : x.scal = true) :
    x'.scal = true ∧ ∃ β', Ext β bl w β' bl' w ∧ Den β' x' y := by
  cases x <;> simp only [hd1] at h <;> try (cases h; done)
  · simp only [Option.some.injEq, Prod.mk.injEq] at h
    obtain ⟨-, rfl, rfl⟩ := h
    exact ⟨rfl, β, .refl hh, hd⟩
  · simp only [Option.some.injEq, Prod.mk.injEq] at h
    obtain ⟨-, rfl, rfl⟩ := h
    exact ⟨rfl, β, .refl hh, hd⟩
  · rename_i l i w' n c
    simp only [Den] at hd
    obtain ⟨A, q, rfl, h1, h2, -, h3⟩ := hd
    split at h
    · rename_i k xs hl
      split at h
      · rename_i hw
        subst hw
        simp only [Option.some.injEq, Prod.mk.injEq] at h
        obtain ⟨rfl, rfl, rfl⟩ := h
        have hv := of_decide_eq_true hv
        have hlen : ((xs.drop i).take n).length = n := by simp; omega
        refine ⟨rfl, ?_⟩
        rw [setl_set]
        obtain ⟨base, hbase, hin⟩ := hh.lv l _ (lvl_get hl)
        cases base with
        | none =>
          have hq : q = 0 := by
            apply Decidable.byContradiction
            intro hne
            obtain ⟨b, s, hb, -⟩ := h3 hne
            rw [hb] at hbase; cases hbase
          have hok : okN k xs := hin.2
          refine ⟨β, hh.kill l, ?_⟩
          simp only [Den]
          exact ⟨A, q, by rw [hlen], by omega, h2, (fun m hm => by cases hm), okN_take (okN_drop hok _) _, fun h => absurd hq h⟩
        | some p =>
          obtain ⟨b, s⟩ := p
          obtain ⟨ys, sp, T, fz, hg, -, hc, -⟩ := heap_cells hh hl hbase rfl
          simp only [CsDen] at hc
          obtain ⟨rfl, hok⟩ := hc
          refine ⟨_, hh.freeze (lvl_get hl) hbase hg, ?_⟩
          simp only [Den]
          refine ⟨A, q, by rw [hlen], by omega, h2, (fun m hm => by cases hm), okN_take (okN_drop hok _) _, fun hq => ?_⟩
          obtain ⟨b', s', hb', rfl, -⟩ := h3 hq
          rw [hbase] at hb'
          cases hb'
          refine ⟨b, i * 1, rfl, _, by simp only [Env.fz, if_true]; exact rfl, fun j v hj => ?_⟩
          have hlt := (List.getElem?_eq_some_iff.1 hj).1
          rw [List.length_map, hlen] at hlt
          rw [List.map_take, List.map_drop, List.getElem?_take_of_lt hlt, List.getElem?_drop] at hj
          simp only [List.getElem?_toArray, Nat.mul_one]
          rw [List.getElem?_append_left (by simp; omega), hj]
      · cases h
    · rename_i wr rs hl
      split at h
      · rename_i hw
        subst hw
        simp only [Option.some.injEq, Prod.mk.injEq] at h
        obtain ⟨rfl, rfl, rfl⟩ := h
        have hv := of_decide_eq_true hv
        have hlen : ((rs.drop i).take n).length = n := by simp; omega
        refine ⟨rfl, ?_⟩
        rw [setl_set]
        obtain ⟨base, hbase, hin⟩ := hh.lv l _ (lvl_get hl)
        cases base with
        | none =>
          have hq : q = 0 := by
            apply Decidable.byContradiction
            intro hne
            obtain ⟨b, s, hb, -⟩ := h3 hne
            rw [hb] at hbase; cases hbase
          have hr : DenR β w' rs [] := hin
          refine ⟨β, hh.kill l, ?_⟩
          simp only [Den]
          exact ⟨A, q, _, by rw [hlen], by omega, h2, (fun m hm => by cases hm), denR_take n (denR_drop i hr), fun h => absurd hq h⟩
        | some p =>
          obtain ⟨b, s⟩ := p
          obtain ⟨ys, sp, T, fz, hg, -, hc, -⟩ := heap_cells hh hl hbase rfl
          simp only [CsDen] at hc
          have hfr := hh.freeze (lvl_get hl) hbase hg
          refine ⟨_, hfr, ?_⟩
          simp only [Den]
          refine ⟨A, q, (ys.drop (i * w')).take (n * w'), by rw [hlen], by omega, h2, (fun m hm => by cases hm), denR_take n (denR_drop i (hc.mono hfr.le)), fun hq => ?_⟩
          obtain ⟨b', s', hb', rfl, -⟩ := h3 hq
          rw [hbase] at hb'
          cases hb'
          refine ⟨b, i * w', rfl, _, by simp only [Env.fz, if_true]; exact rfl, fun j v hj => ?_⟩
          have hlt := (List.getElem?_eq_some_iff.1 hj).1
          simp only [List.length_take, List.length_drop] at hlt
          rw [List.getElem?_take_of_lt (by omega), List.getElem?_drop] at hj
          have hlt2 := (List.getElem?_eq_some_iff.1 hj).1
          simp only [List.getElem?_toArray]
          rw [List.getElem?_append_left hlt2, hj]
      · cases h
    · cases h
  · simp only [Option.some.injEq, Prod.mk.injEq] at h
    obtain ⟨-, rfl, rfl⟩ := h
    exact ⟨rfl, β, .refl hh, hd⟩
  · simp only [Option.some.injEq, Prod.mk.injEq] at h
    obtain ⟨-, rfl, rfl⟩ := h
    exact ⟨rfl, β, .refl hh, hd⟩
  · simp [AV.scal] at hs
theorem hdL_sound : ∀ {cs cs' : List AV} {β : Env} {bl bl' : Bls} {ys : List Value} {vc : Bool}, Heap β bl w → DenC β cs ys → hdL bl cs = some (vc, cs', bl') → vc = true → ∃ β', Ext β bl w β' bl' w ∧ DenC β' cs' ys
  | [], cs', β, bl, bl', ys, vc, hh, hd, h, hv => by
    simp only [hdL, Option.some.injEq, Prod.mk.injEq] at h
    obtain ⟨-, rfl, rfl⟩ := h
    exact ⟨β, .refl hh, hd⟩
  | x :: xs, cs', β, bl, bl', ys, vc, hh, hd, h, hv => by
    simp only [hdL] at h
    split at h
    · rename_i c1 x' bl1 h1
      split at h
      · rename_i c2 xs' bl2 h2
        simp only [Option.some.injEq, Prod.mk.injEq] at h
        obtain ⟨rfl, rfl, rfl⟩ := h
        simp only [Bool.and_eq_true] at hv
        rcases denC_case hd with ⟨hs, y, zs, rfl, g1, g2, g3⟩ | ⟨n, k, ns, rfl, zs, rfl, g1, g2, g3⟩
        · obtain ⟨hs', β1, e1, d1⟩ := hd1_sound hh g1 g2 h1 hv.1 hs
          obtain ⟨β2, e2, d2⟩ := hdL_sound e1.heap (DenC.mono e1.le g3) h2 hv.2
          exact ⟨β2, e1.trans e2, (denC_cons hs').2 ⟨y, zs, rfl, d1.mono e2.le, g2, d2⟩⟩
        · simp only [hd1, Option.some.injEq, Prod.mk.injEq] at h1
          obtain ⟨-, rfl, rfl⟩ := h1
          obtain ⟨β2, e2, d2⟩ := hdL_sound hh g3 h2 hv.2
          exact ⟨β2, e2, denC_ch.2 ⟨zs, rfl, g1, g2, d2⟩⟩
      · cases h
    · cases h
theorem wrRow_sound {w' : Nat} {rs : List (List AV)} {i k sz : Nat} {fs : List AV} {us ys : List Value} {c : Ct} (hf : DenC β fs us) (hu : us.length = sz) (hc : DenR β w' rs ys) (h : wrRow w' rs i k fs sz = some (vc, c)) (hv : vc = true) :
    i * w' + k + sz ≤ ys.length ∧ CsDen β c (ys.take (i * w' + k) ++ (us ++ ys.drop (i * w' + k + sz))) := by
  unfold wrRow at h
  split at h
  · rename_i hk
    obtain ⟨rfl, rfl⟩ := hk
    obtain ⟨rfl, rfl⟩ := Prod.mk.inj (Option.some.inj h)
    have hlt : i < rs.length := by simpa using hv
    obtain ⟨vs, -, h4, h5, h6⟩ := denR_row hc hlt
    exact ⟨by omega, denR_set hf hu hc hlt⟩
  · split at h
    · rename_i r hr
      obtain ⟨rfl, rfl⟩ := Prod.mk.inj (Option.some.inj h)
      have hlt : i < rs.length := by simpa using hv
      obtain ⟨vs, h3, h4, h5, h6⟩ := denR_row hc hlt
      obtain ⟨h7, h8⟩ := wrC_sound hf hu h3 hr
      refine ⟨by omega, ?_⟩
      simp only [CsDen]
      rw [take_row h5 h4 h6 (by omega) hu]
      exact denR_set h8 (by simp [hu, h4]; omega) hc hlt
    · cases h
theorem wrRow_spk {w' : Nat} {rs : List (List AV)} {i k sz : Nat} {fs : List AV} {c : Ct} (h : wrRow w' rs i k fs sz = some (vc, c)) : spk c = spk (.rows w' rs) ∧ spz c = spz (.rows w' rs) := by
  unfold wrRow at h
  repeat' split at h
  all_goals first
    | cases h; done
    | (simp only [Option.some.injEq, Prod.mk.injEq] at h; rw [← h.2]; exact ⟨rfl, rfl⟩)
theorem wrCt_spk {c c' : Ct} {i w' k sz : Nat} {x : AV} (h : wrCt c i w' k x sz = some (vc, c')) : spk c' = spk c ∧ spz c' = spz c := by
  unfold wrCt at h
  repeat' split at h
  all_goals first
    | cases h; done
    | (simp only [Option.some.injEq, Prod.mk.injEq] at h; rw [← h.2]; exact ⟨rfl, rfl⟩)
    | (simp only [Option.some.injEq, Prod.mk.injEq] at h; obtain ⟨-, rfl⟩ := h; first | exact ⟨rfl, rfl⟩ | simp_all [spk, spz])
theorem stored {t : TypeId} {T : TI} {l b s p : Nat} {c c' : Ct} {x : Operand} {y : Value} {a : Operand} (hh : Heap β bl w) (hop : o.op = .store t a x) (ht : ti P t = some T) (hl : lvl bl l = some c) (hb : β.b[l]? = some (some (b, s)))
    (ha : ρ a = .pointer (some ⟨b, p, none⟩)) (hy : ρ x = y) (hlen : y.cells.toList.length = T.sz) (hone : ∀ u ∈ y.cells.toList, one u = true)
    (h : ∀ ys, CsDen β c ys → p + T.sz ≤ ys.length ∧ CsDen β c' (ys.take p ++ (y.cells.toList ++ ys.drop (p + T.sz)))) (hcell : c.cell = true) (hkd : spk c' = spk c ∧ spz c' = spz c) : Eff P β bl w ρ o .any (bl.set l (some c')) := by
  obtain ⟨ys, sp, U, fz, hg, hs, hcs, hsp, hfz⟩ := heap_cells hh hl hb hcell
  obtain ⟨h1, h2⟩ := h ys hcs
  have hst := storeVar_run (P := P) (w := w) (b := b) (p := p) (y := y) ht hg (by simpa [hs] using hfz.2.1) hlen hone (by simp; omega)
  have e : (ys ++ sp).take p ++ (y.cells.toList ++ (ys ++ sp).drop (p + T.sz)) = (ys.take p ++ (y.cells.toList ++ ys.drop (p + T.sz))) ++ sp := by
    rw [List.take_append_of_le_length (by omega), List.drop_append_of_le_length (by omega)]; simp
  rw [e] at hst
  have hw := hh.write (lvl_get hl) hb hg hs hsp hfz hkd h2 (by simp; simp at hlen; omega)
  refine ⟨undef, _, β, .inr ⟨rfl, ?_⟩, by simp [Den], hw⟩
  unfold execOp
  simp only [hop, Instr.storeAt, ha, hy, Instr.sureAddr, Sem.run_bind, Sem.run_pure, Result.andThen_ok, hst]
theorem store_sound {t : TypeId} {a x : Operand} (hev : EvOk β tm ρ) (hh : Heap β bl w) (hop : o.op = .store t a x) (h : eop1 P tm bl o.op = some (vc, r, bl')) (hv : vc = true) : Eff P β bl w ρ o r bl' := by
  rw [hop] at h
  simp only [eop1] at h
  split at h
  · rename_i T ht
    have hd := hev a
    split at h
    · rename_i l i w' k he
      rw [he] at hd
      simp only [Den] at hd
      obtain ⟨b, s, hb, ha⟩ := hd
      split at h
      · rename_i w2 rs0 hl0
        split at h
        · split at h
          · rename_i fs hf
            split at h
            · rename_i c1 gs bl1 hhd
              split at h
              · rename_i w3 rs hl
                split at h
                · rename_i hw3
                  subst hw3
                  split at h
                  · rename_i c2 c hwr
                    simp only [Option.some.injEq, Prod.mk.injEq] at h
                    obtain ⟨rfl, rfl, rfl⟩ := h
                    simp only [Bool.and_eq_true] at hv
                    obtain ⟨h1, h2⟩ := den_flat (hev x) hf
                    obtain ⟨β1, e1, d1⟩ := hdL_sound hh h1 hhd hv.1
                    obtain ⟨y, w', β', h3, h4, h5⟩ := stored (P := P) (p := i * w' + k) (s := s) (c' := c) e1.heap hop ht hl (e1.le.at hb) ha rfl h2 (denC_ones h1) (fun ys hys => wrRow_sound d1 h2 hys hwr hv.2) rfl (wrRow_spk hwr)
                    rw [setl_set]
                    exact ⟨y, w', β', h3, h4, e1.trans h5⟩
                  · cases h
                · cases h
              · cases h
            · cases h
          · cases h
        · cases h
      · rename_i c hnr hl
        split at h
        · rename_i vc' c' hwr
          simp only [Option.some.injEq, Prod.mk.injEq] at h
          obtain ⟨rfl, rfl, rfl⟩ := h
          rw [setl_set]
          have hcell : c.cell = true := by cases c <;> first | rfl | (simp [wrCt] at hwr)
          have hsz : ∃ ys, CsDen β c ys := by
            obtain ⟨ys, sp, U, fz, -, -, hcs, -⟩ := heap_cells hh hl hb hcell
            exact ⟨ys, hcs⟩
          obtain ⟨ys0, hys0⟩ := hsz
          obtain ⟨g1, g2, -, -, -⟩ := wrCt_sound hys0 (hev x) hwr hv
          refine stored (P := P) (p := i * w' + k) (s := s) hh hop ht hl hb ha rfl g1 g2 (fun ys hys => ?_) hcell (wrCt_spk hwr)
          obtain ⟨-, -, g3, -, g5⟩ := wrCt_sound hys (hev x) hwr hv
          exact ⟨g3, g5⟩
        · cases h
      · cases h
    · cases h
  · cases h
theorem ctOf_den {a : Bool} {cs : List AV} {ys : List Value} (h : DenC β cs ys) : CsDen β (ctOf a cs) ys := by
  unfold ctOf
  split
  · obtain ⟨zs, rfl, -, h2, h3⟩ := denC_ch.1 h
    simp only [DenC] at h3
    subst h3
    simp only [CsDen, List.append_nil, true_and]
    exact h2
  · exact h
theorem made {t : TypeId} {sz : Nat} {c : Ct} {y : Value} (hh : Heap β bl w) (hc : CsDen β c y.cells.toList) (hrun : (execOp ρ o).run P w = .ok (.value (.pointer (some ⟨w.heap.size, 0, none⟩))) { w with heap := w.heap.push (.cells y.cells t) }) :
    Eff P β bl w ρ o (.ptr bl.length 0 sz 0) (bl ++ [some c]) := by
  have hm := hh.row (c := c) (ys := y.cells.toList) (sp := []) t hc (fun _ h => by cases h) (w' := { w with heap := w.heap.push (.cells y.cells t) }) (by simp) rfl rfl rfl
  refine ⟨_, _, _, .inl hrun, ?_, hm⟩
  simp only [Den]
  exact ⟨w.heap.size, _, at_new hh, by simp⟩
theorem alloc_sound {t : TypeId} (hh : Heap β bl w) (hop : o.op = .alloc t) (h : eop1 P tm bl o.op = some (vc, r, bl')) : Eff P β bl w ρ o r bl' := by
  rw [hop] at h
  simp only [eop1] at h
  split at h
  · rename_i T ht
    split at h
    · rename_i cs hz
      simp only [Option.some.injEq, Prod.mk.injEq] at h
      obtain ⟨-, rfl, rfl⟩ := h
      obtain ⟨i, v, hi, hzz, hc, -⟩ := zc_spec (β := β) ht hz
      refine made (y := v) (t := t) hh (ctOf_den hc) ?_
      unfold execOp
      simp only [hop, Instr.alloc, Sem.run_bind, zeroValue, typeInfo, hi, run_program, Result.andThen_ok, hzz, newVar, newRow, run_newObj, Sem.run_pure]
    · cases h
  · cases h
theorem box_sound {t : TypeId} {x : Operand} (hev : EvOk β tm ρ) (hh : Heap β bl w) (hop : o.op = .box t x) (h : eop1 P tm bl o.op = some (vc, r, bl')) : Eff P β bl w ρ o r bl' := by
  rw [hop] at h
  simp only [eop1] at h
  split at h
  · rename_i T ht
    split at h
    · rename_i fs hf
      simp only [Option.some.injEq, Prod.mk.injEq] at h
      obtain ⟨-, rfl, rfl⟩ := h
      obtain ⟨hd, -⟩ := den_flat (hev x) hf
      refine made (y := ρ x) (t := t) hh (ctOf_den hd) ?_
      unfold execOp
      simp only [hop, Instr.box, Sem.run_bind, Result.andThen_ok, newVar, newRow, run_newObj, Sem.run_pure]
    · cases h
  · cases h
theorem numsAV_sound {k : IntKind} : ∀ {cs : List AV} {ys : List Value} {xs : List Int}, DenC β cs ys → numsAV k cs = some xs → ys = xs.map (.int k) ∧ okN k xs
  | [], ys, xs, hd, h => by simp only [numsAV, Option.some.injEq] at h; subst h; simp only [DenC] at hd; subst hd; exact ⟨rfl, fun _ h => by cases h⟩
  | c :: r, ys, xs, hd, h => by
    obtain ⟨k', z, rfl⟩ : ∃ k' z, c = .v (.int k' z) := by
      cases c with
      | v v => cases v <;> first | exact ⟨_, _, rfl⟩ | (simp [numsAV] at h)
      | _ => simp [numsAV] at h
    obtain ⟨y, zs, rfl, h1, -, h2⟩ := (denC_cons (by rfl)).1 hd
    simp only [numsAV] at h
    split at h
    · rename_i e
      split at h
      · rename_i zs' hz
        obtain rfl := Option.some.inj h
        obtain ⟨g1, g2⟩ := numsAV_sound h2 hz
        obtain ⟨rfl, hk⟩ := den_int h1
        subst e
        refine ⟨by rw [g1]; rfl, fun q hq => ?_⟩
        rcases List.mem_cons.1 hq with rfl | hq
        · exact hk
        · exact g2 q hq
      · cases h
    · cases h
theorem rep_sound {cs : List AV} {z : List Value} (h : DenC β cs z) : ∀ k : Nat, DenC β (rep k cs) (List.replicate k z).flatten
  | 0 => by simp [rep, DenC]
  | k + 1 => by simp only [rep, List.replicate_succ, List.flatten_cons]; exact denC_append h (rep_sound h k)
theorem denR_rep {cs : List AV} {z : List Value} {sz : Nat} (h : DenC β cs z) (hz : z.length = sz) : ∀ k : Nat, DenR β sz (List.replicate k cs) (List.replicate k z).flatten
  | 0 => by simp [DenR]
  | k + 1 => by simp only [List.replicate_succ, List.flatten_cons, DenR]; exact ⟨z, _, rfl, hz, h, denR_rep h hz k⟩
theorem rowsOf_sound {sz : Nat} : ∀ {n : Nat} {cs : List AV} {rs : List (List AV)} {ys : List Value}, DenC β cs ys → rowsOf sz n cs = some rs → ys.length = n * sz → DenR β sz rs ys
  | 0, cs, rs, ys, _, h, hl => by
    simp only [rowsOf, Option.some.injEq] at h
    subst h
    simp only [DenR]
    exact List.length_eq_zero_iff.1 (by omega)
  | n + 1, cs, rs, ys, hd, h, hl => by
    simp only [rowsOf] at h
    split at h
    · rename_i a b ha hb
      split at h
      · rename_i r hr
        obtain rfl := Option.some.inj h
        obtain ⟨h1, h2⟩ := denC_tk hd ha
        obtain ⟨h3, h4⟩ := denC_dr hd hb
        simp only [DenR]
        refine ⟨ys.take sz, ys.drop sz, by simp, by simp; omega, h2, rowsOf_sound h4 hr ?_⟩
        simp only [List.length_drop]
        rw [Nat.add_mul] at hl; omega
      · cases h
    · cases h
theorem elCt_sound {E : TI} {sz n : Nat} {r : List AV} {c : Ct} {ys : List Value} (hd : DenC β r ys) (h : elCt E sz n r = some c) (hl : ys.length = n * sz) : CsDen β c ys := by
  unfold elCt at h
  split at h
  · split at h
    · rename_i xs hx
      obtain rfl := Option.some.inj h
      exact numsAV_sound hd hx
    · cases h
  · split at h
    · split at h
      · rename_i rs hr
        obtain rfl := Option.some.inj h
        exact rowsOf_sound hd hr hl
      · cases h
    · obtain rfl := Option.some.inj h
      exact hd
theorem flatten_get {w : Nat} : ∀ {rs : List (List Value)} {i k : Nat}, (∀ r ∈ rs, r.length = w) → i < rs.length → k < w → rs.flatten[i * w + k]? = (rs[i]?.getD [])[k]?
  | [], i, k, _, h, _ => by simp at h
  | r :: rs, 0, k, hr, _, hk => by
    have h0 := hr r (by simp)
    simp only [List.flatten_cons, Nat.zero_mul, Nat.zero_add, List.getElem?_cons_zero, Option.getD_some]
    rw [List.getElem?_append_left (by omega)]
  | r :: rs, i + 1, k, hr, hi, hk => by
    have h0 := hr r (by simp)
    have ih := flatten_get (rs := rs) (i := i) (k := k) (fun r hr' => hr r (by simp [hr'])) (by simpa using hi) hk
    simp only [List.flatten_cons, List.getElem?_cons_succ]
    rw [List.getElem?_append_right (by rw [h0, Nat.add_mul]; omega), ← ih]
    congr 1
    rw [h0, Nat.add_mul]; omega
theorem flatten_len {w : Nat} : ∀ {rs : List (List Value)}, (∀ r ∈ rs, r.length = w) → rs.flatten.length = rs.length * w
  | [], _ => by simp
  | r :: rs, h => by
    have := flatten_len (rs := rs) (fun r hr => h r (by simp [hr]))
    simp [this, h r (by simp), Nat.add_mul, Nat.add_comm]
theorem rows_zero (z : List Value) (k : Nat) (hz : 0 < z.length) : ((Array.range (k * z.length)).map fun j => z.toArray[j % z.toArray.size]!) = (List.replicate k z).flatten.toArray := by
  apply Array.ext'
  simp only [Array.toList_map, Array.toList_range]
  apply List.ext_getElem?
  intro j
  rw [List.getElem?_map]
  have hrl : ∀ r ∈ List.replicate k z, r.length = z.length := fun r hr => by rw [List.eq_of_mem_replicate hr]
  by_cases hj : j < k * z.length
  · rw [List.getElem?_range hj]
    have hi : j / z.length < k := Nat.div_lt_of_lt_mul (by rwa [Nat.mul_comm])
    have e := flatten_get hrl (i := j / z.length) (k := j % z.length) (by simpa using hi) (Nat.mod_lt _ hz)
    have e0 : j / z.length * z.length + j % z.length = j := by rw [Nat.mul_comm]; exact Nat.div_add_mod j z.length
    rw [e0] at e
    rw [e]
    have hm : j % z.length < z.length := Nat.mod_lt _ hz
    simp [hi, hm]
  · rw [List.getElem?_eq_none (by simpa using hj), List.getElem?_eq_none (by rw [flatten_len hrl]; simpa using hj)]
    rfl
theorem madeSl {e : TypeId} {sz n m : Nat} {c : Ct} {ys : List Value} (hh : Heap β bl w) (hc : CsDen β c ys) (hn : n ≤ m) (hm : m < 9223372036854775808) (hl : ys.length = m * sz)
    (hrun : (execOp ρ o).run P w = .ok (.value (.slice (some ⟨w.heap.size, 0, none⟩) n m)) { w with heap := w.heap.push (.cells ys.toArray e) }) :
    Eff P β bl w ρ o (.sl bl.length 0 sz n (some m)) (bl ++ [some c]) := by
  have hm' := hh.row (c := c) (ys := ys) (sp := []) e hc (fun _ h => by cases h) (w' := { w with heap := w.heap.push (.cells ys.toArray e) }) (by simp) rfl rfl rfl
  refine ⟨_, _, _, .inl hrun, ?_, hm'⟩
  simp only [Den]
  exact ⟨_, m, rfl, hn, hm, fun _ h => Option.some.inj h, fun _ => ⟨w.heap.size, _, at_new hh, by simp, by simp [hl]⟩⟩
theorem buildSlice_sound {t : TypeId} {m : Nat} {ps : Array (Nat × Operand)} (hev : EvOk β tm ρ) (hh : Heap β bl w) (hop : o.op = .buildSlice t m ps) (h : eop1 P tm bl o.op = some (vc, r, bl')) : Eff P β bl w ρ o r bl' := by
  rw [hop] at h
  simp only [eop1] at h
  split at h
  · rename_i T ht
    split at h
    · rename_i e sz b hk
      split at h
      · cases h
      · rename_i hsz
        split at h
        · rename_i E hE
          split at h
          · rename_i cs hz
            split at h
            · rename_i hbig
              split at h
              · rename_i hzl
                split at h
                · rename_i r' hf
                  split at h
                  · rename_i c hel
                    simp only [Option.some.injEq, Prod.mk.injEq] at h
                    obtain ⟨-, rfl, rfl⟩ := h
                    obtain ⟨hu, hcz, -⟩ := kd_slice ht hk
                    obtain ⟨i, v, hi, hzz, hc, -⟩ := zc_spec (β := β) hE hz
                    have hvl : v.cells.toList.length = sz := by rw [← hzl]; exact denC_len hc
                    obtain ⟨zs, h1, h2, h3⟩ := fillA_sound hev (rep_sound hc m) hf
                    have hrl : ∀ r ∈ List.replicate m v.cells.toList, r.length = sz := fun r hr => by rw [List.eq_of_mem_replicate hr]; exact hvl
                    have hzn : zs.length = m * sz := by rw [h2, flatten_len hrl]; simp
                    have hm : m ≤ 16777216 := Nat.le_trans (Nat.le_mul_of_pos_right m (by omega)) hbig
                    refine madeSl (e := e) hh (elCt_sound h1 hel hzn) (Nat.le_refl _) (by omega) hzn ?_
                    have e2 : (ps.map fun x => (x.1, ρ x.2)).toList = ps.toList.map fun p => (p.1, ρ p.2) := by simp
                    have hnb : ¬ (m * sz > 2 ^ 24) := by
                      have : (2 : Nat) ^ 24 = 16777216 := by decide
                      omega
                    have ec : v.cells = v.cells.toList.toArray := by simp
                    unfold execOp
                    simp only [hop, Instr.buildSlice, Sem.run_bind, underlying_run w hu, Result.andThen_ok, sizeOf_pos w hcz hsz, hnb, if_false, Sem.run_pure]
                    by_cases h0 : m * sz = 0
                    · have hm0 : m = 0 := by
                        rcases Nat.mul_eq_zero.1 h0 with h | h
                        · exact h
                        · exact absurd h hsz
                      subst hm0
                      simp only [List.replicate_zero, List.flatten_nil] at h3
                      simp only [Nat.zero_mul, if_true, Sem.run_bind, Sem.run_pure, Result.andThen_ok]
                      rw [show ((Array.range 0).map fun j => (#[] : Array Value)[j % (#[] : Array Value).size]!) = #[] by simp, e2]
                      rw [show (#[] : Array Value) = ([] : List Value).toArray from rfl, h3]
                      simp only [newRow, Sem.run_bind, run_newObj, Result.andThen_ok, Sem.run_pure]
                    · simp only [h0, if_false, Sem.run_bind, zeroValue, typeInfo, hi, run_program, Result.andThen_ok, Sem.run_pure, hzz]
                      rw [ec, ← hvl, rows_zero _ m (by omega), e2, hvl, h3]
                      simp only [newRow, Sem.run_bind, run_newObj, Result.andThen_ok, Sem.run_pure]
                  · cases h
                · cases h
              · cases h
            · cases h
          · cases h
        · cases h
    · cases h
  · cases h
theorem makeSlice_sound {t : TypeId} {x y : Operand} (hev : EvOk β tm ρ) (hh : Heap β bl w) (hop : o.op = .makeSlice t x y) (h : eop1 P tm bl o.op = some (vc, r, bl')) (hv : vc = true) : Eff P β bl w ρ o r bl' := by
  rw [hop] at h
  simp only [eop1] at h
  split at h
  · rename_i T ht
    split at h
    · rename_i e sz by_ hk
      split at h
      · cases h
      · rename_i hsz
        split at h
        · rename_i E hE
          split at h
          · rename_i cs hz
            split at h
            · rename_i hzl
              split at h
              · rename_i k1 n k2 c hx hy
                split at h
                · rename_i ct hct
                  simp only [Option.some.injEq, Prod.mk.injEq] at h
                  obtain ⟨rfl, rfl, rfl⟩ := h
                  simp only [Bool.and_eq_true, decide_eq_true_eq] at hv
                  obtain ⟨q1, q2, q3, q4⟩ := hv
                  obtain ⟨hu, hcz, hby⟩ := kd_slice ht hk
                  obtain ⟨i, v, hi, hzz, hc, -⟩ := zc_spec (β := β) hE hz
                  have hvl : v.cells.toList.length = sz := by rw [← hzl]; exact denC_len hc
                  have hx' := hev x
                  have hy' := hev y
                  rw [hx] at hx'; rw [hy] at hy'
                  obtain ⟨hx', -⟩ := den_int hx'
                  obtain ⟨hy', -⟩ := den_int hy'
                  have hib : i.bytes = by_ := by rw [← hby]; simp [Program.bytesOf, hi]
                  obtain ⟨n, rfl⟩ := Int.eq_ofNat_of_zero_le q1
                  obtain ⟨c, rfl⟩ := Int.eq_ofNat_of_zero_le (show 0 ≤ c by omega)
                  simp only [Int.toNat_natCast] at hct ⊢
                  have hden : CsDen β ct (List.replicate c v.cells.toList).flatten := by
                    split at hct
                    · rename_i k k' z hEk
                      split at hct
                      · rename_i hk'
                        obtain rfl := Option.some.inj hct
                        obtain ⟨y', zs, e1, e2, -, e3⟩ := (denC_cons (by rfl)).1 hc
                        simp only [DenC] at e3
                        obtain ⟨rfl, hok⟩ := den_int e2
                        subst e3
                        rw [e1]
                        subst hk'
                        refine ⟨?_, fun q hq => by rw [List.eq_of_mem_replicate hq]; exact hok⟩
                        simp
                      · cases hct
                    · cases hct
                    · obtain rfl := Option.some.inj hct
                      exact denR_rep hc hvl c
                  have hrl : ∀ r ∈ List.replicate c v.cells.toList, r.length = sz := fun r hr => by rw [List.eq_of_mem_replicate hr]; exact hvl
                  have hfl : (List.replicate c v.cells.toList).flatten.length = c * sz := by rw [flatten_len hrl]; simp
                  refine madeSl (e := e) hh hden (by omega) (by omega) hfl ?_
                  have his : i.size = sz := by rw [← hcz]; simp [Program.cellsOf, hi]
                  have hrun := run_make (P := P) w t e i v hu hi hzz k1 k2 n c q1 q2 (by rw [hib]; exact q3) (by omega)
                  have cells : madeCells v.cells (c * sz) = (List.replicate c v.cells.toList).flatten.toArray := by
                    have := rows_zero v.cells.toList c (by omega)
                    rw [hvl] at this
                    unfold madeCells
                    simpa [hvl] using this
                  simp only [Int.toNat_natCast] at hrun
                  rw [his, cells] at hrun
                  unfold execOp
                  simp only [hop, hx', hy', Sem.run_bind, hrun, Result.andThen_ok, Sem.run_pure]
                  rfl
                · cases h
              · cases h
            · cases h
          · cases h
        · cases h
    · cases h
  · cases h
end
end Go.SY
/-
  The symbolic machine: append, copy, strings turned into bytes.
-/
namespace Go.SY
open Go
def killO (l : Option Nat) (bl : Bls) : Bls := match l with
  | some l => setl bl l none
  | none => bl
def srcN (k : IntKind) (z : Int) (by_ : Nat) (u : KD) (bl : Bls) (x : AV) : Option (Bool × List Int) := match u, x with
  | .int _, .v (.int _ m) => some (decide (0 ≤ m) && (decide (m * by_ ≤ 281474976710656) && decide (m < 9223372036854775808)), List.replicate m.toNat z)
  | .str, .v (.string s) => if k = .u8 then some (true, bytesL s) else none
  | .slice _ _ _, x => numsAt k bl x
  | _, _ => none
def dstN (k : IntKind) (bl : Bls) : AV → Option (Bool × Option Nat × List Int)
  | .nil => some (true, none, [])
  | .sl l i w n c => (match c with
    | some 0 => some (true, none, [])
    | _ => (match lvl bl l with
      | some (.num k' xs) => if k' = k then (if w = 1 then (if i = 0 then some (decide (n ≤ xs.length), some l, xs.take n) else none) else none) else none
      | _ => none))
  | .imn _ _ _ c => (match c with
    | some 0 => some (true, none, [])
    | _ => none)
  | _ => none
def dstR (w : Nat) (bl : Bls) : AV → Option (Bool × Option Nat × List (List AV))
  | .nil => some (true, none, [])
  | .sl l i w' n c => (match c with
    | some 0 => some (true, none, [])
    | _ => (match lvl bl l with
      | some (.rows w2 rs) => if w2 = w then (if w' = w then (if i = 0 then some (decide (n ≤ rs.length), some l, rs.take n) else none) else none) else none
      | _ => none))
  | .imr _ _ _ c => (match c with
    | some 0 => some (true, none, [])
    | _ => none)
  | _ => none
def srcR (w : Nat) (bl : Bls) : AV → Option (Bool × List (List AV) × Bls)
  | .nil => some (true, [], bl)
  | .imr _ w' rs _ => if w' = w then some (true, rs, bl) else none
  | .sl l i w' n _ => if w' = w then (match lvl bl l with
    | some (.rows w2 rs) => if w2 = w then some (decide (i + n ≤ rs.length), (rs.drop i).take n, bl) else none
    | some (.lit cs) => if i = 0 then (match tk cs (n * w) with
      | some cs => (match hdL bl cs with
        | some (vc, gs, bl1) => (match rowsOf w n gs with
          | some rs => some (vc, rs, bl1)
          | none => none)
        | none => none)
      | none => none) else none
    | _ => none) else none
  | _ => none
def chR : List AV → Nat → IntKind → Nat → (List Int → List Int) → Option (List AV)
  | [], _, _, _, _ => none
  | c :: cs, o, k, m, f => (match c with
    | .ch n k' xs => if o = 0 then (if k' = k then (if m = n then some (.ch n k (f xs) :: cs) else none) else none) else (if n ≤ o then (match chR cs (o - n) k m f with
        | some r => some (.ch n k' xs :: r)
        | none => none) else none)
    | c => if o = 0 then none else (match chR cs (o - 1) k m f with
      | some r => some (c :: r)
      | none => none))
def zerR (by_ : Nat) (zc : List AV) : AV → Option (Bool × List (List AV))
  | .v (.int _ m) => some (decide (0 ≤ m) && (decide (m * by_ ≤ 281474976710656) && decide (m < 9223372036854775808)), List.replicate m.toNat zc)
  | _ => none
def roomR (bl : Bls) : AV → Option (Nat × List (List AV))
  | .sl l _ _ _ (some q) => (match lvl bl l with
    | some (.rows _ rs) => some (q, rs)
    | _ => none)
  | _ => none
def appRR (sz by_ : Nat) (c1 c2 : Bool) (l : Option Nat) (olds news : List (List AV)) (bl1 : Bls) : Option (Nat × List (List AV)) → Option (Bool × AV × Bls)
  | some (q, rs) => if olds.length + news.length ≤ q ∧ l.isSome = true then some (c1 && (c2 && decide ((olds ++ news).length * by_ ≤ 140737488355328)), .sl bl1.length 0 sz (olds ++ news).length (some q), killO l bl1 ++ [some (.rows sz (olds ++ (news ++ rs.drop (olds.length + news.length))))])
    else some (c1 && (c2 && decide ((olds ++ news).length * by_ ≤ 140737488355328)), .sl bl1.length 0 sz (olds ++ news).length none, bl1 ++ [some (.rows sz (olds ++ news))])
  | none => some (c1 && (c2 && decide ((olds ++ news).length * by_ ≤ 140737488355328)), .sl bl1.length 0 sz (olds ++ news).length none, killO l bl1 ++ [some (.rows sz (olds ++ news))])
def roomN (bl : Bls) : AV → Option (Nat × List Int)
  | .sl l _ _ _ (some q) => (match lvl bl l with
    | some (.num _ xs) => some (q, xs)
    | _ => none)
  | _ => none
def appNN (k : IntKind) (by_ : Nat) (c1 c2 : Bool) (l : Option Nat) (olds news : List Int) (bl : Bls) : Option (Nat × List Int) → Option (Bool × AV × Bls)
  | some (q, xs) => if olds.length + news.length ≤ q ∧ l.isSome = true then some (c1 && (c2 && decide ((olds ++ news).length * by_ ≤ 140737488355328)), .sl bl.length 0 1 (olds ++ news).length (some q), killO l bl ++ [some (.num k (olds ++ (news ++ xs.drop (olds.length + news.length))))])
    else some (c1 && (c2 && decide ((olds ++ news).length * by_ ≤ 140737488355328)), .sl bl.length 0 1 (olds ++ news).length none, bl ++ [some (.num k (olds ++ news))])
  | none => some (c1 && (c2 && decide ((olds ++ news).length * by_ ≤ 140737488355328)), .sl bl.length 0 1 (olds ++ news).length none, killO l bl ++ [some (.num k (olds ++ news))])
def cpSrcN (k : IntKind) (u : KD) (bl : Bls) (x : AV) : Option (Nat × List Int) := match u, x with
  | .str, .v (.string s) => if k = .u8 then some ((bytesL s).length, bytesL s) else none
  | .slice _ _ _, .nil => some (0, [])
  | .slice _ _ _, .imn _ k' xs _ => if k' = k then some (xs.length, xs) else none
  | .slice _ _ _, .sl l i w n _ => (match lvl bl l with
    | some (.num k' xs) => if k' = k then (if w = 1 then some (n, (xs.drop i).take n) else none) else none
    | _ => none)
  | _, _ => none
def cpSrc (sz : Nat) (bl : Bls) : AV → Option (Nat × List (List AV))
  | .nil => some (0, [])
  | .imr _ w' rs _ => if w' = sz then some (rs.length, rs) else none
  | .sl l i w' n _ => if w' = sz then (match lvl bl l with
    | some (.rows w2 rs) => if w2 = sz then some (n, (rs.drop i).take n) else none
    | _ => none) else none
  | _ => none
def cpR (sz : Nat) (bl : Bls) (d x : AV) : Option (Bool × AV × Bls) := match d with
  | .sl l i w n _ => if w = sz then (match cpSrc sz bl x, lvl bl l with
    | some (m, news), some (.rows w2 rs) => if w2 = sz then some (decide (min m n ≤ news.length) && decide (i ≤ rs.length), .v (.int .i64 (min m n : Nat)), setl bl l (some (.rows sz (rs.take i ++ (news.take (min m n) ++ rs.drop (i + min m n)))))) else none
    | _, _ => none) else none
  | _ => none
def clN (k : IntKind) (bl : Bls) : AV → Option (Bool × AV × Bls)
  | .sl l i w _ _ => if w = 1 then (match lvl bl l with
    | some (.num k' xs) => if k' = k then some (decide (i ≤ xs.length), .tup [], setl bl l (some (.num k (xs.take i)))) else none
    | _ => none) else none
  | _ => none
def clR (sz : Nat) (bl : Bls) : AV → Option (Bool × AV × Bls)
  | .sl l i w _ _ => if w = sz then (match lvl bl l with
    | some (.rows w2 rs) => if w2 = sz then some (decide (i ≤ rs.length), .tup [], setl bl l (some (.rows sz (rs.take i)))) else none
    | _ => none) else none
  | _ => none
def eop2 (P : Program) (tm : List (Nat × AV)) (bl : Bls) (o : Op) : Option (Bool × AV × Bls) :=
  match o with
  | .call { callee := .builtin .append, args, argTypes } => (match args.toList, argTypes.toList with
    | [s, x], [t, u] => (match ti P t, ti P u with
      | some T, some U => (match T.kd with
        | .slice e sz by_ => (match ti P e with
          | some E => (match E.kd, E.zc with
            | .int k, some [.v (.int k' z)] => if k' = k then (if sz = 1 then (if by_ = 0 then none else match dstN k bl (ev tm s), srcN k z by_ U.kd bl (ev tm x) with
                | some (c1, l, olds), some (c2, news) => appNN k by_ c1 c2 l olds news bl (roomN bl (ev tm s))
                | _, _ => none) else none) else none
            | .int _, _ => none
            | _, some zc => if sz = 0 then none else if by_ = 0 then none else (if wids zc = sz then (match U.kd, srcR sz bl (ev tm x), zerR by_ zc (ev tm x) with
              | .slice _ _ _, some (c2, news, bl1), _ => (match dstR sz bl1 (ev tm s) with
                | some (c1, l, olds) => appRR sz by_ c1 c2 l olds news bl1 (roomR bl1 (ev tm s))
                | none => none)
              | .int _, _, some (c2, news) => (match dstR sz bl (ev tm s) with
                | some (c1, l, olds) => appRR sz by_ c1 c2 l olds news bl (roomR bl (ev tm s))
                | none => none)
              | _, _, _ => none) else none)
            | _, _ => none)
          | none => none)
        | _ => none)
      | _, _ => none)
    | _, _ => none)
  | .call { callee := .builtin .copy, args, argTypes } => (match args.toList, argTypes.toList with
    | [d, x], [t, u] => (match ti P t, ti P u with
      | some T, some U => (match T.kd, T.ik with
        | .slice _ sz _, some k => if sz = 1 then (match ev tm d with
          | .sl l i w n _ => if w = 1 then (match cpSrcN k U.kd bl (ev tm x), lvl bl l with
              | some (m, news), some (.num k' xs) => if k' = k then some (decide (min m n ≤ news.length) && decide (i ≤ xs.length), .v (.int .i64 (min m n : Nat)), setl bl l (some (.num k (xs.take i ++ (news.take (min m n) ++ xs.drop (i + min m n)))))) else none
              | some (m, news), some (.lit cs) => if n = 0 then none else (match chR cs i k n (fun xs => news.take (min m n) ++ xs.drop (min m n)) with
                | some r => some (decide (min m n ≤ news.length), .v (.int .i64 (min m n : Nat)), setl bl l (some (.lit r)))
                | none => none)
              | _, _ => none) else none
          | _ => none) else none
        | .slice _ sz _, none => if sz = 0 then none else cpR sz bl (ev tm d) (ev tm x)
        | _, _ => none)
      | _, _ => none)
    | _, _ => none)
  | .call { callee := .builtin .clear, args, argTypes } => (match args.toList, argTypes.toList with
    | [x], [t] => (match ti P t with
      | some T => (match T.kd with
        | .slice e sz _ => if sz = 0 then none else (match ti P e with
          | some E => (match E.zc with
            | some zc => if wids zc = sz then (match E.kd, zc with
              | .int k, [.v (.int k' _)] => if k' = k ∧ sz = 1 then clN k bl (ev tm x) else none
              | .int _, _ => none
              | _, _ => clR sz bl (ev tm x)) else none
            | none => none)
          | none => none)
        | _ => none)
      | none => none)
    | _, _ => none)
  | .convert src dst x => (match ti P src, ti P dst with
    | some S, some D => (match S.kd, D.kd, D.ik with
      | .str, .slice _ sz _, some .u8 => if sz = 1 then (match ev tm x with
        | .v (.string s) => some (true, .sl bl.length 0 1 (bytesL s).length none, bl ++ [some (.num .u8 (bytesL s))])
        | _ => none) else none
      | .slice _ _ _, .slice _ sz _, some .u8 => if src = dst then (if sz = 1 then (match ev tm x with
        | .sl l i w n c => if n = 0 then none else (match lvl bl l with
          | some b => if (b.cell && !spz b) = true then some (true, .sl l i w n c, bl) else none
          | none => none)
        | _ => none) else none) else none
      | _, _, _ => none)
    | _, _ => none)
  | _ => none
section
variable {P : Program} {β : Env} {tm : List (Nat × AV)} {ρ : Operand → Value} {o : Oper} {vc : Bool} {r : AV} {bl bl' : Bls} {w : World}
theorem Heap.write2 {l b s : Nat} {c c' : Ct} {ys ys' sp' : List Value} {T : TypeId} {fz : Nat × Nat} (h : Heap β bl w) (hl : bl[l]? = some (some c)) (hb : β.b[l]? = some (some (b, s)))
    (hg : w.heap[b]? = some (.cells ys.toArray T fz)) (hs : ys'.length + sp'.length = s) (hsp : ∀ x ∈ sp', SpV (spk c') x) (hfz : FzOk (spz c') fz s) (hc : CsDen β c' ys') :
    Ext β bl w β (bl.set l (some c')) (w.setRow b (ys' ++ sp').toArray) := by
  have hllt : l < bl.length := (List.getElem?_eq_some_iff.1 hl).1
  have get : ∀ {m : Nat} {c0 : Ct}, (bl.set l (some c'))[m]? = some (some c0) → (m = l ∧ c0 = c') ∨ (m ≠ l ∧ bl[m]? = some (some c0)) := by
    intro m c0 hm
    rw [List.getElem?_set] at hm
    split at hm
    · rename_i e
      subst e
      try rw [if_pos hllt] at hm
      exact .inl ⟨rfl, (Option.some.inj (Option.some.inj hm)).symm⟩
    · rename_i e
      exact .inr ⟨fun h => e h.symm, hm⟩
  have old : ∀ {m : Nat} {c0 : Ct}, (bl.set l (some c'))[m]? = some (some c0) → ∃ c1, bl[m]? = some (some c1) := by
    intro m c0 hm
    rcases get hm with ⟨rfl, -⟩ | ⟨-, h⟩
    · exact ⟨c, hl⟩
    · exact ⟨c0, h⟩
  have ownk : ∀ b', Owned β (bl.set l (some c')) b' → Owned β bl b' := by
    rintro b' ⟨m, c0, s', hm, hb'⟩
    obtain ⟨c1, h1⟩ := old hm
    exact ⟨m, c1, s', h1, hb'⟩
  refine ⟨.refl _, ⟨by simpa using h.len, fun m c0 hm => ?_, fun m m' c0 c1 b0 s0 s1 hne h1 h2 => ?_, fun t b' cs' hz => ?_⟩, ⟨rfl, rfl, rfl, ?_, fun b' _ hno => ?_⟩, fun b' hb' => .inl (ownk b' hb'), fun b' cs' hz => .inl hz, rfl⟩
  · rcases get hm with ⟨rfl, rfl⟩ | ⟨hne, hm⟩
    · exact ⟨_, hb, .inl ⟨csDen_cell hc, ys', sp', T, fz, setRow_heap w b _ _ _ _ hg, hs, hc, hsp, hfz⟩⟩
    · obtain ⟨base, e, hin⟩ := h.lv m c0 hm
      refine ⟨base, e, hin.same fun b' s' hb' => ?_⟩
      subst hb'
      exact setRow_other w b b' _ (fun e3 => h.sep l m c c0 b s s' (fun e4 => hne e4.symm) hl hm hb (by rw [e, e3]))
  · obtain ⟨c2, g1⟩ := old h1
    obtain ⟨c3, g2⟩ := old h2
    exact h.sep m m' c2 c3 b0 s0 s1 hne g1 g2
  · obtain ⟨⟨T', fz', e⟩, hno⟩ := h.frz t b' cs' hz
    refine ⟨⟨T', fz', ?_⟩, fun ho => hno (ownk b' ho)⟩
    rw [setRow_other w b b' _ (fun e3 => hno ⟨l, c, s, hl, e3 ▸ hb⟩)]
    exact e
  · show w.heap.size ≤ (w.heap.modify b _).size
    rw [Array.size_modify]; exact Nat.le_refl _
  · refine setRow_other w b b' _ (fun e => hno ⟨l, c, s, hl, ?_⟩)
    rw [e]; exact hb
theorem Heap.rename {l : Nat} {c : Ct} {base : Option (Nat × Nat)} (h : Heap β bl w) (hl : bl[l]? = some (some c)) (hb : β.b[l]? = some base) :
    Ext β bl w { β with b := β.b ++ [base] } (bl.set l none ++ [some c]) w := by
  have le : β.le { β with b := β.b ++ [base] } := ⟨List.prefix_append _ _, fun _ _ e => e, fun _ _ e => e, rfl⟩
  have hlen := h.len
  have get : ∀ {m : Nat} {c' : Ct}, (bl.set l none ++ [some c])[m]? = some (some c') → (m < bl.length ∧ m ≠ l ∧ bl[m]? = some (some c')) ∨ (m = bl.length ∧ c' = c) := by
    intro m c' hm
    by_cases hlt : m < bl.length
    · rw [List.getElem?_append_left (by simpa using hlt)] at hm
      obtain ⟨h1, h2⟩ := get_kill hm
      exact .inl ⟨hlt, h1, h2⟩
    · have hmm : m = bl.length := by
        have := (List.getElem?_eq_some_iff.1 hm).1
        simp at this; omega
      subst hmm
      rw [List.getElem?_append_right (by simp)] at hm
      simp at hm
      exact .inr ⟨rfl, hm.symm⟩
  have gb : ∀ {m : Nat} {x}, m < bl.length → (β.b ++ [base])[m]? = some x → β.b[m]? = some x := by
    intro m x hm hx
    rwa [List.getElem?_append_left (by omega)] at hx
  have gn : (β.b ++ [base])[bl.length]? = some base := by rw [← hlen]; simp
  have ownk : ∀ b', Owned { β with b := β.b ++ [base] } (bl.set l none ++ [some c]) b' → Owned β bl b' := by
    rintro b' ⟨m, c', s', hm, hb'⟩
    rcases get hm with ⟨hlt, -, h0⟩ | ⟨rfl, rfl⟩
    · exact ⟨m, c', s', h0, gb hlt hb'⟩
    · simp only at hb'; rw [gn] at hb'
      exact ⟨l, _, s', hl, by rw [hb]; exact hb'⟩
  refine ⟨le, ⟨by simp [hlen], fun m c' hm => ?_, fun m m' c1 c2 b1 s1 s2 hne h1 h2 hb1 hb2 => ?_, fun t b' cs' hz => ?_⟩, .refl _ _, fun b' hb' => .inl (ownk b' hb'), fun b' cs' hz => .inl hz, rfl⟩
  · rcases get hm with ⟨hlt, -, h0⟩ | ⟨rfl, rfl⟩
    · obtain ⟨base', hbase, hin⟩ := h.lv m c' h0
      exact ⟨base', by simp only; rw [List.getElem?_append_left (by omega)]; exact hbase, hin.mono le⟩
    · obtain ⟨base', hbase, hin⟩ := h.lv l _ hl
      rw [hb] at hbase
      cases hbase
      exact ⟨base, gn, hin.mono le⟩
  · rcases get h1 with ⟨l1, n1, g1⟩ | ⟨rfl, rfl⟩ <;> rcases get h2 with ⟨l2, n2, g2⟩ | ⟨rfl, rfl⟩
    · exact h.sep m m' c1 c2 b1 s1 s2 hne g1 g2 (gb l1 hb1) (gb l2 hb2)
    · simp only at hb2; rw [gn] at hb2
      exact h.sep m l c1 c2 b1 s1 s2 n1 g1 hl (gb l1 hb1) (by rw [hb]; exact hb2)
    · simp only at hb1; rw [gn] at hb1
      exact h.sep l m' c1 c2 b1 s1 s2 (fun e => n2 e.symm) hl g2 (by rw [hb]; exact hb1) (gb l2 hb2)
    · exact absurd rfl hne
  · have hz' : β.fz t b' = some cs' := by cases t <;> exact hz
    exact ⟨(h.frz t b' cs' hz').1, fun ho => (h.frz t b' cs' hz').2 (ownk b' ho)⟩
def Src (P : Program) (u e : TypeId) (size by_ : Nat) (x : Value) (m : Nat) (news : List Value) (w : World) : Prop :=
  (∃ d, P.underlying u = some d ∧ ∀ k, d ≠ .int k) ∧ (∀ w' : World, (Builtin.lenOf x).run P w' = .ok m w') ∧ (∀ w' : World, w'.heap = w.heap → (Builtin.firstCells size m x).run P w' = .ok news.toArray w') ∨
  (∃ k, P.underlying u = some (.int k)) ∧ (∃ k', x = .int k' m) ∧ m < 9223372036854775808 ∧ m * by_ ≤ 281474976710656 ∧ ∃ z : Value, (∀ w' : World, (zeroValue e).run P w' = .ok z w') ∧ news.toArray = Builtin.zeroCells z.cells m ∧ size ≠ 0
theorem cells_read {A : Option Addr} {m q size : Nat} {vs : List Value} (hq : m ≤ q) (hl : vs.length = m * size) (hA : q ≠ 0 → ∃ b o, A = some ⟨b, o, none⟩ ∧ InW w b o vs) :
    ∀ w' : World, w'.heap = w.heap → (Builtin.firstCells size m (.slice A m q)).run P w' = .ok vs.toArray w' := by
  intro w' hw'
  by_cases hm : m = 0
  · subst hm
    have : vs = [] := List.length_eq_zero_iff.1 (by omega)
    subst this
    cases A with
    | none => simp [Builtin.firstCells]
    | some A => simp [Builtin.firstCells, loadCells, loadCellsFrom]
  · obtain ⟨b, o0, rfl, hi⟩ := hA (by omega)
    have hi' : InW w' b o0 vs := by obtain ⟨cs, T, fz, h1, h2⟩ := hi; exact ⟨cs, T, fz, by rw [hw']; exact h1, h2⟩
    have := loadCells_inW (P := P) hi'
    rw [hl] at this
    simpa [Builtin.firstCells] using this
theorem append_room {t u ty e : TypeId} {i : TypeInfo} (ht : P.underlying t = some (.slice e)) (hi : P.info? e = some i)
    {g n c m by_ : Nat} {x : Value} {U : TypeId} {fz : Nat × Nat} {ys news : List Value} (hby : i.bytes = by_) (hg : w.heap[g]? = some (.cells ys.toArray U fz)) (hfz : ∀ j, fz.1 ≤ j → j < fz.2 → ys.length ≤ j)
    (hsrc : Src P u e i.size by_ x m news w) (hl : news.length = m * i.size) (h1 : ∀ v ∈ news, one v = true) (hroom : n + m ≤ c) (hfit : n * i.size + m * i.size ≤ ys.length) :
    (Builtin.append_ #[t, u] ty #[.slice (some ⟨g, 0, none⟩) n c, x]).run P w =
      .ok (.slice (some ⟨g, 0, none⟩) (n + m) c) (w.setRow g (ys.take (n * i.size) ++ (news ++ ys.drop (n * i.size + m * i.size))).toArray) := by
  have hst := storeCells_run (P := P) g (n * i.size) U fz news 0 ys.toArray w hg (by simpa using hfz) (by simp [hl]; omega) h1
  rcases hsrc with ⟨⟨d, hd, hnd⟩, hlen, hf⟩ | ⟨⟨k, hd⟩, ⟨k', rfl⟩, h63, h48, z, hz, hn, hs0⟩
  · have hlen := hlen w
    have hf := hf w rfl
    have hz2 : ∀ {α : Type} (A B : α), (match d with | .int _ => A | _ => B) = B := by intro α A B; cases d <;> first | rfl | exact absurd rfl (hnd _)
    simp [Builtin.append_, underlying_run w ht, underlying_run w hd, hz2, sizeOf, typeInfo, hi, hlen, hroom, hf, add_lit, hst, hl]
  · have w1 : IntKind.i64.wrap (m : Int) = m := wrap64_id (z := (m : Int)) (by simp only [inK, Bool.and_eq_true, decide_eq_true_eq]; omega)
    have c1 : ¬ ((m : Int) < 0) := by omega
    have c2 : ¬ (281474976710656 < (m : Int) * (i.bytes : Int)) := by
      have : ((m * by_ : Nat) : Int) ≤ ((281474976710656 : Nat) : Int) := Int.ofNat_le.2 h48
      rw [Int.natCast_mul] at this
      rw [hby]; omega
    by_cases hm0 : m * i.size = 0
    · have hm : m = 0 := by
        rcases Nat.mul_eq_zero.1 hm0 with h | h
        · exact h
        · exact absurd h hs0
      subst hm
      have hnn : news = [] := List.length_eq_zero_iff.1 (by omega)
      subst hnn
      have hst' : (storeCells ⟨g, n * i.size, none⟩ []).run P w = .ok () w := by simp [storeCells]
      have e0 : IntKind.i64.wrap (0 : Int) = 0 := by decide
      have hse : w.setRow g (ys.take (n * i.size) ++ ([] ++ ys.drop (n * i.size + 0 * i.size))).toArray = w := by
        simp only [List.nil_append, Nat.zero_mul, Nat.add_zero, List.take_append_drop]
        exact setRow_self w g ys.toArray U fz hg
      rw [hse]
      have hroom' : n ≤ c := by omega
      simp [Builtin.append_, underlying_run w ht, underlying_run w hd, sizeOf, typeInfo, hi, asInt, asIntOf, e0, hroom', add_lit, hst']
    · have hz' := hz w
      have hnl : (Builtin.zeroCells z.cells m).toList = news := by rw [← hn]
      have hroom' : n + m ≤ c := hroom
      simp [Builtin.append_, underlying_run w ht, underlying_run w hd, sizeOf, typeInfo, hi, asInt, asIntOf, w1, c1, c2, hroom', add_lit, hm0, hz', hnl, hst, hl]
theorem append_grow {t u ty e : TypeId} {i : TypeInfo} {z : Value} (ht : P.underlying t = some (.slice e)) (hi : P.info? e = some i) (hzz : i.zero = some z)
    {A : Option Addr} {n c m by_ : Nat} {x : Value} {olds news : List Value} (hby : i.bytes = by_) (hold : ∀ w' : World, w'.heap = w.heap → (Builtin.firstCells i.size n (.slice A n c)).run P w' = .ok olds.toArray w')
    (hsrc : Src P u e i.size by_ x m news w) (hg : c < n + m) (h63 : n + m ≤ 9223372036854775807) (hfit : Builtin.nextslicecap (n + m) c * i.bytes ≤ 281474976710656) :
    ∃ q, n + m ≤ q ∧ q ≤ 9223372036854775807 ∧ (Builtin.append_ #[t, u] ty #[.slice A n c, x]).run P w =
      .ok (.slice (some ⟨w.heap.size, 0, none⟩) (n + m) q) (w.drew.alloc (.cells (olds.toArray ++ (news.toArray ++ Builtin.zeroCells z.cells (q - (n + m)))) e)) := by
  have hfo := hold w.drew rfl
  have hn : ¬ (n + m ≤ c) := by omega
  have h63' : ¬ (9223372036854775807 < ((n : Int) + (m : Int))) := by omega
  have h48' : ¬ (281474976710656 < Builtin.nextslicecap (n + m) c * i.bytes) := by omega
  refine ⟨(Question.appendCap (n + m) c e).cut (w.tape w.drawn (.appendCap (n + m) c e)), ?_, ?_, ?_⟩
  · simp only [Question.cut]; omega
  · simp only [Question.cut]
    have : 2 ^ 63 = 9223372036854775808 := by decide
    have hm := Nat.mod_lt (w.tape w.drawn (.appendCap (n + m) c e)) (show 2 ^ 63 - (n + m) > 0 by omega)
    omega
  · rcases hsrc with ⟨⟨d, hd, hnd⟩, hlen, hf⟩ | ⟨⟨k, hd⟩, ⟨k', rfl⟩, hm63, h48, z', hz, hnn, hs0⟩
    · have hlen := hlen w
      have hf := hf w.drew rfl
      have hz2 : ∀ {α : Type} (A B : α), (match d with | .int _ => A | _ => B) = B := by intro α A B; cases d <;> first | rfl | exact absurd rfl (hnd _)
      simp [Builtin.append_, underlying_run w ht, underlying_run w hd, hz2, sizeOf, typeInfo, zeroValue, hi, hzz, hlen, hn, h63', h48', Question.forced, hf, hfo, newRow]
    · have w1 : IntKind.i64.wrap (m : Int) = m := wrap64_id (z := (m : Int)) (by simp only [inK, Bool.and_eq_true, decide_eq_true_eq]; omega)
      have c1 : ¬ ((m : Int) < 0) := by omega
      have c2 : ¬ (281474976710656 < (m : Int) * (i.bytes : Int)) := by
        have : ((m * by_ : Nat) : Int) ≤ ((281474976710656 : Nat) : Int) := Int.ofNat_le.2 h48
        rw [Int.natCast_mul] at this
        rw [hby]; omega
      have hzv : z' = z := by
        have h1 := hz w
        have h2 : (zeroValue e).run P w = .ok z w := by simp [zeroValue, typeInfo, hi, hzz]
        rw [h2] at h1
        simp at h1; exact h1.symm
      subst hzv
      by_cases hm0 : m * i.size = 0
      · have hm : m = 0 := by
          rcases Nat.mul_eq_zero.1 hm0 with h | h
          · exact h
          · exact absurd h hs0
        subst hm
        have hne : news = [] := by
          have : news.toArray = #[] := by rw [hnn]; simp [Builtin.zeroCells]
          simpa using this
        subst hne
        have e0 : IntKind.i64.wrap (0 : Int) = 0 := by decide
        have hn' : ¬ (n ≤ c) := by omega
        have h63'' : ¬ (9223372036854775807 < (n : Int)) := by omega
        have h48'' : ¬ (281474976710656 < Builtin.nextslicecap n c * i.bytes) := h48'
        simp [Builtin.append_, underlying_run w ht, underlying_run w hd, sizeOf, typeInfo, zeroValue, hi, hzz, asInt, asIntOf, e0, hn', h63'', h48'', Question.forced, hfo, newRow]
      · simp [Builtin.append_, underlying_run w ht, underlying_run w hd, sizeOf, typeInfo, zeroValue, hi, hzz, asInt, asIntOf, w1, c1, c2, hn, h63', h48', Question.forced, hfo, newRow, hm0, ← hnn]
end
end Go.SY
/-
  The symbolic machine: append, copy, strings turned into bytes are sound.
-/
namespace Go.SY
open Go
section
variable {P : Program} {β : Env} {tm : List (Nat × AV)} {ρ : Operand → Value} {o : Oper} {vc : Bool} {r : AV} {bl bl' : Bls} {w : World}
theorem killO_len (l : Option Nat) (bl : Bls) : (killO l bl).length = bl.length := by
  cases l with
  | none => rfl
  | some l => simp [killO, setl_set]
theorem killO_ext (hh : Heap β bl w) (l : Option Nat) : Ext β bl w β (killO l bl) w := by
  cases l with
  | none => exact .refl hh
  | some l => simp only [killO, setl_set]; exact hh.kill l
theorem append_zero {t u ty e : TypeId} {i : TypeInfo} {A : Option Addr} {by_ : Nat} {x : Value} {vs : List Value} (ht : P.underlying t = some (.slice e)) (hi : P.info? e = some i) (hs : i.size ≠ 0) (hby : i.bytes = by_) (hsrc : Src P u e i.size by_ x 0 vs w) (hvs : vs = []) :
    (Builtin.append_ #[t, u] ty #[.slice A 0 0, x]).run P w = .ok (.slice A 0 0) w := by
  subst hvs
  rcases hsrc with ⟨⟨d, hd, hnd⟩, hlen, hf⟩ | ⟨⟨k, hd⟩, ⟨k', rfl⟩, h63, h48, z, hz, hn, hs0⟩
  · have hlen := hlen w
    have hf := hf w rfl
    have hz2 : ∀ {α : Type} (A B : α), (match d with | .int _ => A | _ => B) = B := by intro α A B; cases d <;> first | rfl | exact absurd rfl (hnd _)
    cases A with
    | none => simp [Builtin.append_, underlying_run w ht, underlying_run w hd, hz2, sizeOf, typeInfo, hi, hlen, hf]
    | some A => simp [Builtin.append_, underlying_run w ht, underlying_run w hd, hz2, sizeOf, typeInfo, hi, hlen, hf, storeCells]
  · have e0 : IntKind.i64.wrap (0 : Int) = 0 := by decide
    cases A with
    | none => simp [Builtin.append_, underlying_run w ht, underlying_run w hd, sizeOf, typeInfo, hi, asInt, asIntOf, e0]
    | some A => simp [Builtin.append_, underlying_run w ht, underlying_run w hd, sizeOf, typeInfo, hi, asInt, asIntOf, e0, storeCells]
theorem zeroCells_ones {z : Array Value} {p : Value → Prop} (hz : ∀ x ∈ z.toList, p x) (hs : z.size ≠ 0) (m : Nat) : ∀ x ∈ (Builtin.zeroCells z m).toList, p x := by
  intro x hx
  simp only [Builtin.zeroCells, Array.toList_map, List.mem_map] at hx
  obtain ⟨j, -, rfl⟩ := hx
  have hlt : j % z.size < z.size := Nat.mod_lt _ (by omega)
  refine hz _ ?_
  rw [getElem!_pos z (j % z.size) hlt]
  simp
def DstOk (β : Env) (bl : Bls) (w : World) (K : Option IntKind) (Z : Bool) (sz : Nat) (A : Option Addr) (n q : Nat) (l : Option Nat) (us : List Value) : Prop :=
  (l = none ∧ n = 0 ∧ q = 0) ∨ (∃ lv c, l = some lv ∧ lvl bl lv = some c ∧ n ≤ q ∧ q < 9223372036854775808 ∧
    (q ≠ 0 → ∃ (b s : Nat) (ys sp : List Value) (T : TypeId) (fz : Nat × Nat), β.b[lv]? = some (some (b, s)) ∧ A = some ⟨b, 0, none⟩ ∧ q * sz ≤ s ∧ w.heap[b]? = some (.cells (ys ++ sp).toArray T fz) ∧ ys.length + sp.length = s ∧ (∀ x ∈ ys, SpV K x) ∧ (∀ x ∈ sp, SpV K x) ∧
      FzOk Z fz s ∧ ys.take (n * sz) = us ∧ n * sz ≤ ys.length))
theorem app_core {s x : Operand} {t u e : TypeId} {i : TypeInfo} {z : Value} {sz by_ n q m : Nat} {A : Option Addr} {l : Option Nat} {us vs : List Value} {c' : Ct} (hh : Heap β bl w)
    (hop : o.op = .call { callee := .builtin .append, args := #[s, x], argTypes := #[t, u] }) (ht : P.underlying t = some (.slice e)) (hi : P.info? e = some i) (hzz : i.zero = some z) (hzo : ∀ x ∈ z.cells.toList, SpV (spk c') x)
    (hzl : z.cells.toList.length = sz) (hsz : i.size = sz) (h0 : sz ≠ 0) (hby : i.bytes = by_) (hs : ρ s = .slice A n q) (hus : us.length = n * sz)
    (hd : DstOk β bl w (spk c') (spz c') sz A n q l us)
    (hsrc : Src P u e sz by_ (ρ x) m vs w) (hvs : vs.length = m * sz) (hone : ∀ v ∈ vs, one v = true) (hb : (n + m) * by_ ≤ 140737488355328) (hb2 : n + m < 9223372036854775808) (hc' : CsDen β c' (us ++ vs)) :
    Eff P β bl w ρ o (.sl bl.length 0 sz (n + m) none) (killO l bl ++ [some c']) := by
  subst hsz
  have exec : ∀ {y : Value} {w' : World}, (Builtin.append_ #[t, u] o.type #[ρ s, ρ x]).run P w = .ok y w' → (execOp ρ o).run P w = .ok (.value y) w' := by
    intro y w' h
    refine call_exec hop ?_
    simp only [builtin, List.map_toArray, List.map_cons, List.map_nil, Sem.run_bind, h, Result.andThen_ok, Sem.run_pure]
  rw [hs] at exec
  have hkill := killO_ext hh l
  have hklen := killO_len l bl
  have hc1 : ∀ {β' : Env}, β.le β' → CsDen β' c' (us ++ vs) := fun h => hc'.mono h
  by_cases hroom : n + m ≤ q
  · by_cases hq0 : q = 0
    · -- nothing is there, and nothing comes
      subst hq0
      obtain rfl : n = 0 := by omega
      obtain rfl : m = 0 := by omega
      have hu0 : us = [] := List.length_eq_zero_iff.1 (by omega)
      have hv0 : vs = [] := List.length_eq_zero_iff.1 (by omega)
      have hrun := append_zero (P := P) (ty := o.type) (A := A) ht hi h0 hby hsrc hv0
      have he := hkill.heap.nothing (c := c') (by rw [hu0, hv0] at hc'; exact hc')
      refine ⟨_, w, _, .inl (exec hrun), ?_, hkill.trans he⟩
      simp only [Den]
      exact ⟨A, 0, rfl, Nat.le_refl _, by decide, (fun m hm => by cases hm), fun h => absurd rfl h⟩
    · rcases hd with ⟨-, -, h⟩ | ⟨lv, c, rfl, hl, hnq, hq, hA⟩
      · exact absurd h hq0
      · obtain ⟨b, sb, ys, sp, T, fz, hbb, rfl, hfit, hg, hlen, hys, hsp, hfz, h1, h2⟩ := hA hq0
        have hfit2 : n * i.size + m * i.size ≤ (ys ++ sp).length := by
          rw [List.length_append, hlen, ← Nat.add_mul]
          exact Nat.le_trans (Nat.mul_le_mul_right _ hroom) hfit
        have hrun := append_room (P := P) (ty := o.type) ht hi hby hg (by simpa [hlen] using hfz.2.1) hsrc hvs hone hroom hfit2
        have e1 : (ys ++ sp).take (n * i.size) ++ (vs ++ (ys ++ sp).drop (n * i.size + m * i.size)) = (us ++ vs) ++ (ys ++ sp).drop (n * i.size + m * i.size) := by
          rw [List.take_append_of_le_length h2, h1]; simp
        rw [e1] at hrun
        have hw := hh.write2 (c' := c') (ys' := us ++ vs) (sp' := (ys ++ sp).drop (n * i.size + m * i.size)) (lvl_get hl) hbb hg
          (by rw [List.length_drop, List.length_append, List.length_append, hlen, hus, hvs]; rw [List.length_append, hlen] at hfit2; omega)
          (fun x hx => by
            have := List.mem_of_mem_drop hx
            rcases List.mem_append.1 this with h | h
            · exact hys x h
            · exact hsp x h) hfz hc'
        have hl' : (bl.set lv (some c'))[lv]? = some (some c') := by
          rw [List.getElem?_set_self (List.getElem?_eq_some_iff.1 (lvl_get hl)).1]
        have hr := hw.heap.rename hl' hbb
        have hx := hw.trans hr
        rw [List.set_set, ← setl_set] at hx
        refine ⟨_, _, _, .inl (exec hrun), ?_, hx⟩
        simp only [Den]
        refine ⟨_, q, rfl, hroom, hq, (fun m hm => by cases hm), fun _ => ⟨b, sb, ?_, by simp, by simpa using hfit⟩⟩
        rw [← hh.len]; simp
  · -- a new block
    have hnq : n ≤ q ∧ q < 9223372036854775808 := by
      rcases hd with ⟨-, h1, h2⟩ | ⟨-, -, -, -, h1, h2, -⟩
      · omega
      · exact ⟨h1, h2⟩
    have hold := cells_read (P := P) (w := w) (A := A) (m := n) (q := q) (size := i.size) (vs := us) hnq.1 hus (fun hq0 => by
      rcases hd with ⟨-, -, h⟩ | ⟨lv, c, rfl, hl, -, -, hA⟩
      · exact absurd h hq0
      · obtain ⟨b, sb, ys, sp, T, fz, hbb, rfl, -, hg, hlen, -, -, -, h1, h2⟩ := hA hq0
        refine ⟨b, 0, rfl, _, T, fz, hg, fun j v hj => ?_⟩
        have hlt := (List.getElem?_eq_some_iff.1 hj).1
        rw [← h1, List.getElem?_take_of_lt (by omega)] at hj
        simp only [Nat.zero_add, List.getElem?_toArray]
        rw [List.getElem?_append_left (by omega), hj])
    have hg : q < n + m := by omega
    obtain ⟨Q, hq1, hq2, hrun⟩ := append_grow (P := P) (ty := o.type) ht hi hzz hby hold hsrc hg (by omega) (growslice_fits hg (by rw [hby]; exact hb))
    have hm := hkill.heap.row (c := c') (ys := us ++ vs) (sp := (Builtin.zeroCells z.cells (Q - (n + m))).toList) e hc' (zeroCells_ones hzo (by simpa [← hzl] using h0) _)
      (w' := w.drew.alloc (.cells (us.toArray ++ (vs.toArray ++ Builtin.zeroCells z.cells (Q - (n + m)))) e)) (by
        show w.heap.push _ = _
        congr 2
        apply Array.ext'
        simp) rfl rfl rfl
    refine ⟨_, _, _, .inl (exec hrun), ?_, hkill.trans hm⟩
    simp only [Den]
    refine ⟨_, Q, rfl, hq1, by omega, (fun m hm => by cases hm), fun _ => ⟨w.heap.size, (us ++ vs).length + (Builtin.zeroCells z.cells (Q - (n + m))).toList.length, ?_, by simp, ?_⟩⟩
    · rw [← hklen]; exact at_new hkill.heap
    · have hzs : z.cells.size = i.size := by simpa using hzl
      rw [List.length_append, hus, hvs]
      simp only [Builtin.zeroCells, Array.length_toList, Array.size_map, Array.size_range, Nat.zero_add, hzs]
      rw [← Nat.add_mul, ← Nat.add_mul]
      exact Nat.mul_le_mul_right _ (by omega)
theorem app_grow {s x : Operand} {t u e : TypeId} {i : TypeInfo} {z : Value} {sz by_ n q m : Nat} {A : Option Addr} {l : Option Nat} {us vs : List Value} {c' : Ct} (hh : Heap β bl w)
    (hop : o.op = .call { callee := .builtin .append, args := #[s, x], argTypes := #[t, u] }) (ht : P.underlying t = some (.slice e)) (hi : P.info? e = some i) (hzz : i.zero = some z) (hzo : ∀ x ∈ z.cells.toList, SpV (spk c') x)
    (hzl : z.cells.toList.length = sz) (hsz : i.size = sz) (h0 : sz ≠ 0) (hby : i.bytes = by_) (hs : ρ s = .slice A n q) (hus : us.length = n * sz)
    (hd : DstOk β bl w (spk c') (spz c') sz A n q l us)
    (hsrc : Src P u e sz by_ (ρ x) m vs w) (hvs : vs.length = m * sz) (hone : ∀ v ∈ vs, one v = true) (hb : (n + m) * by_ ≤ 140737488355328) (hb2 : n + m < 9223372036854775808) (hc' : CsDen β c' (us ++ vs)) (hroom : ¬ n + m ≤ q) :
    Eff P β bl w ρ o (.sl bl.length 0 sz (n + m) none) (bl ++ [some c']) := by
  subst hsz
  have exec : ∀ {y : Value} {w' : World}, (Builtin.append_ #[t, u] o.type #[ρ s, ρ x]).run P w = .ok y w' → (execOp ρ o).run P w = .ok (.value y) w' := by
    intro y w' h
    refine call_exec hop ?_
    simp only [builtin, List.map_toArray, List.map_cons, List.map_nil, Sem.run_bind, h, Result.andThen_ok, Sem.run_pure]
  rw [hs] at exec
  have hc1 : ∀ {β' : Env}, β.le β' → CsDen β' c' (us ++ vs) := fun h => hc'.mono h
  have hnq : n ≤ q ∧ q < 9223372036854775808 := by
    rcases hd with ⟨-, h1, h2⟩ | ⟨-, -, -, -, h1, h2, -⟩
    · omega
    · exact ⟨h1, h2⟩
  have hold := cells_read (P := P) (w := w) (A := A) (m := n) (q := q) (size := i.size) (vs := us) hnq.1 hus (fun hq0 => by
    rcases hd with ⟨-, -, h⟩ | ⟨lv, c, rfl, hl, -, -, hA⟩
    · exact absurd h hq0
    · obtain ⟨b, sb, ys, sp, T, fz, hbb, rfl, -, hg, hlen, -, -, -, h1, h2⟩ := hA hq0
      refine ⟨b, 0, rfl, _, T, fz, hg, fun j v hj => ?_⟩
      have hlt := (List.getElem?_eq_some_iff.1 hj).1
      rw [← h1, List.getElem?_take_of_lt (by omega)] at hj
      simp only [Nat.zero_add, List.getElem?_toArray]
      rw [List.getElem?_append_left (by omega), hj])
  have hg : q < n + m := by omega
  obtain ⟨Q, hq1, hq2, hrun⟩ := append_grow (P := P) (ty := o.type) ht hi hzz hby hold hsrc hg (by omega) (growslice_fits hg (by rw [hby]; exact hb))
  have hm := hh.row (c := c') (ys := us ++ vs) (sp := (Builtin.zeroCells z.cells (Q - (n + m))).toList) e hc' (zeroCells_ones hzo (by simpa [← hzl] using h0) _)
    (w' := w.drew.alloc (.cells (us.toArray ++ (vs.toArray ++ Builtin.zeroCells z.cells (Q - (n + m)))) e)) (by
      show w.heap.push _ = _
      congr 2
      apply Array.ext'
      simp) rfl rfl rfl
  refine ⟨_, _, _, .inl (exec hrun), ?_, hm⟩
  simp only [Den]
  refine ⟨_, Q, rfl, hq1, by omega, (fun m hm => by cases hm), fun _ => ⟨w.heap.size, (us ++ vs).length + (Builtin.zeroCells z.cells (Q - (n + m))).toList.length, ?_, by simp, ?_⟩⟩
  · exact at_new hh
  · have hzs : z.cells.size = i.size := by simpa using hzl
    rw [List.length_append, hus, hvs]
    simp only [Builtin.zeroCells, Array.length_toList, Array.size_map, Array.size_range, Nat.zero_add, hzs]
    rw [← Nat.add_mul, ← Nat.add_mul]
    exact Nat.mul_le_mul_right _ (by omega)
theorem dstN_run {k : IntKind} {x : AV} {y : Value} {l : Option Nat} {olds : List Int} (hh : Heap β bl w) (hd : Den β x y) (h : dstN k bl x = some (vc, l, olds)) (hv : vc = true) :
    ∃ A q, y = .slice A olds.length q ∧ okN k olds ∧ DstOk β bl w (some k) (spz (.num k [])) 1 A olds.length q l (olds.map (.int k)) := by
  cases x <;> simp only [dstN] at h <;> try (cases h; done)
  · simp only [Option.some.injEq, Prod.mk.injEq] at h
    obtain ⟨-, rfl, rfl⟩ := h
    simp only [Den] at hd
    exact ⟨none, 0, hd, (fun _ h => by simp at h), .inl ⟨rfl, rfl, rfl⟩⟩
  · rename_i lv i w' n c
    simp only [Den] at hd
    obtain ⟨A, q, rfl, h1, h2, h3, h4⟩ := hd
    split at h
    · simp only [Option.some.injEq, Prod.mk.injEq] at h
      obtain ⟨-, rfl, rfl⟩ := h
      obtain rfl : q = 0 := h3 0 rfl
      obtain rfl : n = 0 := by omega
      exact ⟨A, 0, rfl, (fun _ h => by simp at h), .inl ⟨rfl, rfl, rfl⟩⟩
    · split at h
      · rename_i k' xs hl
        split at h
        · rename_i hk
          split at h
          · rename_i hw
            split at h
            · rename_i hi
              simp only [Option.some.injEq, Prod.mk.injEq] at h
              obtain ⟨rfl, rfl, rfl⟩ := h
              subst hk; subst hw; subst hi
              have hv := of_decide_eq_true hv
              have hlen : (xs.take n).length = n := by simp; omega
              have hok : okN k' xs := by
                obtain ⟨base, hbase, hin⟩ := hh.lv lv _ (lvl_get hl)
                unfold CtIn at hin
                cases base with
                | none => exact hin.2
                | some p =>
                  rcases hin with ⟨-, ys, sp, T, fz, -, -, hc, -⟩ | ⟨hf, -⟩
                  · exact hc.2
                  · cases hf
              refine ⟨A, q, by rw [hlen], okN_take hok _, .inr ⟨lv, _, rfl, hl, by omega, h2, fun hq => ?_⟩⟩
              obtain ⟨b, s, hb, hA, hf⟩ := h4 hq
              obtain ⟨ys, sp, T, fz, hg, hs, hc, hsp, hfz⟩ := heap_cells hh hl hb rfl
              have hc' := hc
              simp only [CsDen] at hc
              obtain ⟨rfl, -⟩ := hc
              refine ⟨b, s, _, sp, T, fz, hb, by simpa using hA, by simpa using hf, hg, hs, SpV.num hok, hsp, hfz, ?_, ?_⟩
              · rw [hlen, Nat.mul_one, List.map_take]
              · rw [hlen]; simp; omega
            · cases h
          · cases h
        · cases h
      · cases h
  · rename_i t k' xs c
    split at h
    · simp only [Option.some.injEq, Prod.mk.injEq] at h
      obtain ⟨-, rfl, rfl⟩ := h
      simp only [Den] at hd
      obtain ⟨A, q, rfl, h1, h2, h3, h4, h5⟩ := hd
      obtain rfl : q = 0 := h3 0 rfl
      have : xs.length = 0 := by omega
      exact ⟨A, 0, by rw [this]; rfl, (fun _ h => by simp at h), .inl ⟨rfl, rfl, rfl⟩⟩
    · cases h
theorem dstR_run {w' : Nat} {x : AV} {y : Value} {l : Option Nat} {olds : List (List AV)} (hh : Heap β bl w) (hd : Den β x y) (h : dstR w' bl x = some (vc, l, olds)) (hv : vc = true) :
    ∃ A q us, y = .slice A olds.length q ∧ DenR β w' olds us ∧ DstOk β bl w none true w' A olds.length q l us := by
  cases x <;> simp only [dstR] at h <;> try (cases h; done)
  · simp only [Option.some.injEq, Prod.mk.injEq] at h
    obtain ⟨-, rfl, rfl⟩ := h
    simp only [Den] at hd
    exact ⟨none, 0, [], hd, by simp [DenR], .inl ⟨rfl, rfl, rfl⟩⟩
  · rename_i lv i w2 n c
    simp only [Den] at hd
    obtain ⟨A, q, rfl, h1, h2, h3, h4⟩ := hd
    split at h
    · simp only [Option.some.injEq, Prod.mk.injEq] at h
      obtain ⟨-, rfl, rfl⟩ := h
      obtain rfl : q = 0 := h3 0 rfl
      obtain rfl : n = 0 := by omega
      exact ⟨A, 0, [], rfl, by simp [DenR], .inl ⟨rfl, rfl, rfl⟩⟩
    · split at h
      · rename_i w3 rs hl
        split at h
        · rename_i hw3
          split at h
          · rename_i hw
            split at h
            · rename_i hi
              simp only [Option.some.injEq, Prod.mk.injEq] at h
              obtain ⟨rfl, rfl, rfl⟩ := h
              subst hw3; subst hw; subst hi
              have hv := of_decide_eq_true hv
              have hlen : (rs.take n).length = n := by simp; omega
              obtain ⟨base, hbase, hin⟩ := hh.lv lv _ (lvl_get hl)
              cases base with
              | none =>
                have hr : DenR β w2 rs [] := hin
                refine ⟨A, q, _, by rw [hlen], denR_take n hr, .inr ⟨lv, _, rfl, hl, by omega, h2, fun hq => ?_⟩⟩
                obtain ⟨b, s, hb, -⟩ := h4 hq
                rw [hbase] at hb; cases hb
              | some p =>
                obtain ⟨b, s⟩ := p
                obtain ⟨ys, sp, T, fz, hg, hs, hc, hsp, hfz⟩ := heap_cells hh hl hbase rfl
                have hc' := hc
                simp only [CsDen] at hc
                have hlr := denR_len hc
                refine ⟨A, q, ys.take (n * w2), by rw [hlen], denR_take n hc, .inr ⟨lv, _, rfl, hl, by omega, h2, fun hq => ?_⟩⟩
                obtain ⟨b', s', hb, hA, hf⟩ := h4 hq
                rw [hbase] at hb; cases hb
                refine ⟨b, s, ys, sp, T, fz, hbase, by simpa using hA, by simpa using hf, hg, hs, fun x hx => SpV.none (hc'.ones x hx), hsp, hfz, by rw [hlen], ?_⟩
                rw [hlen, hlr]; exact Nat.mul_le_mul_right _ hv
            · cases h
          · cases h
        · cases h
      · cases h
  · rename_i t w2 rs c
    split at h
    · simp only [Option.some.injEq, Prod.mk.injEq] at h
      obtain ⟨-, rfl, rfl⟩ := h
      simp only [Den] at hd
      obtain ⟨A, q, ys, rfl, h1, h2, h3, h4, h5⟩ := hd
      obtain rfl : q = 0 := h3 0 rfl
      have : rs.length = 0 := by omega
      exact ⟨A, 0, [], by rw [this]; rfl, by simp [DenR], .inl ⟨rfl, rfl, rfl⟩⟩
    · cases h
end
end Go.SY
/-
  The symbolic machine: append, copy, bytes of a string: sound; all operations that write or make memory.
-/
namespace Go.SY
open Go
section
variable {P : Program} {β : Env} {tm : List (Nat × AV)} {ρ : Operand → Value} {o : Oper} {vc : Bool} {r : AV} {bl bl' : Bls} {w : World}
theorem kd_under {T : TI} {t : TypeId} (ht : ti P t = some T) : ∃ d, P.underlying t = some d ∧ T.kd = kdOf P d := by
  obtain ⟨i, d, -, hu, -, -, -, hkd, -⟩ := ti_spec ht
  exact ⟨d, hu, hkd⟩
theorem kdOf_notInt {d : TypeDesc} (h : ∀ k, kdOf P d ≠ .int k) : ∀ k, d ≠ .int k := fun k e => by subst e; exact h k rfl
theorem srcN_run {t u e : TypeId} {k : IntKind} {z : Int} {by_ : Nat} {U E : TI} {x : AV} {y : Value} {news : List Int} (hh : Heap β bl w) (hu : ti P u = some U) (hE : ti P e = some E) (hz : E.zc = some [.v (.int k z)])
    (hd : Den β x y) (h : srcN k z by_ U.kd bl x = some (vc, news)) (hv : vc = true) : Src P u e 1 by_ y news.length (news.map (.int k)) w ∧ okN k news := by
  obtain ⟨d, hud, hkd⟩ := kd_under hu
  unfold srcN at h
  split at h
  · -- so many noughts
    rename_i k' k2 m hk
    simp only [Option.some.injEq, Prod.mk.injEq] at h
    obtain ⟨rfl, rfl⟩ := h
    simp only [Bool.and_eq_true, decide_eq_true_eq] at hv
    obtain ⟨h1, h2, h3⟩ := hv
    obtain ⟨hy, -⟩ := den_int hd
    obtain ⟨i, v, hi, hzz, hc, -⟩ := zc_spec (β := β) hE hz
    obtain ⟨y', zs, e1, e2, -, e3⟩ := (denC_cons (by rfl)).1 hc
    simp only [DenC] at e3
    obtain ⟨rfl, hok⟩ := den_int e2
    subst e3
    obtain ⟨m, rfl⟩ := Int.eq_ofNat_of_zero_le h1
    simp only [Int.toNat_natCast, List.length_replicate] at *
    have hvc : v.cells = #[.int k z] := by apply Array.ext'; exact e1
    refine ⟨.inr ⟨⟨k', by rw [hud, kdOf_int (P := P) (d := d) (k := k') (by rw [← hkd]; exact hk)]⟩, ⟨k2, hy⟩, by omega, ?_, v, fun w' => by simp [zeroValue, typeInfo, hi, hzz], ?_, by decide⟩, fun q hq => by rw [List.eq_of_mem_replicate hq]; exact hok⟩
    · have : ((m * by_ : Nat) : Int) ≤ 281474976710656 := by rw [Int.natCast_mul]; exact h2
      omega
    · rw [hvc]
      apply Array.ext'
      simp only [Builtin.zeroCells, Array.toList_map, Array.toList_range]
      apply List.ext_getElem?
      intro j
      simp only [List.getElem?_map, List.size_toArray, List.length_cons, List.length_nil, Nat.zero_add, Nat.mul_one, Nat.mod_one]
      by_cases hj : j < m
      · simp [hj]
      · simp [hj]
  · -- a string
    rename_i s hk
    split at h
    · rename_i hk8
      subst hk8
      simp only [Option.some.injEq, Prod.mk.injEq] at h
      obtain ⟨rfl, rfl⟩ := h
      simp only [Den] at hd
      refine ⟨.inl ⟨⟨d, hud, kdOf_notInt fun k => by rw [← hkd, hk]; simp⟩, fun w' => by rw [hd.1, bytesL_len]; rfl, fun w' _ => ?_⟩, bytesL_ok s⟩
      rw [hd.1, bytesL_len]
      simp [Builtin.firstCells]
      apply Array.ext'
      simp [bytesL]
    · cases h
  · -- a slice
    rename_i e' s' b' hk
    obtain ⟨A, q, rfl, h1, h2, h3, h4⟩ := numsAt_run hh hd h hv
    refine ⟨.inl ⟨⟨d, hud, kdOf_notInt fun k => by rw [← hkd, hk]; simp⟩, fun w' => rfl, ?_⟩, h3⟩
    exact cells_read (P := P) (w := w) (size := 1) h1 (by simp) h4
  · cases h
theorem appN_sound {s x : Operand} {t u e : TypeId} {T U E : TI} {k : IntKind} {z : Int} {by_ : Nat} {c1 c2 : Bool} {l : Option Nat} {olds news : List Int} (hev : EvOk β tm ρ) (hh : Heap β bl w)
    (hop : o.op = .call { callee := .builtin .append, args := #[s, x], argTypes := #[t, u] }) (ht : ti P t = some T) (hk : T.kd = .slice e 1 by_) (hu : ti P u = some U) (hE : ti P e = some E) (hz : E.zc = some [.v (.int k z)])
    (hdst : dstN k bl (ev tm s) = some (c1, l, olds)) (hsrc : srcN k z by_ U.kd bl (ev tm x) = some (c2, news)) (h1 : c1 = true) (h2 : c2 = true) (h3 : (olds ++ news).length * by_ ≤ 140737488355328) (h0 : by_ ≠ 0) :
    Eff P β bl w ρ o (.sl bl.length 0 1 (olds ++ news).length none) (killO l bl ++ [some (.num k (olds ++ news))]) := by
  obtain ⟨hut, hcz, hbz⟩ := kd_slice ht hk
  obtain ⟨i, v, hi, hzz, hc, hone⟩ := zc_spec (β := β) hE hz
  have hvl : v.cells.toList.length = 1 := by
    obtain ⟨y', zs, e1, -, -, e3⟩ := (denC_cons (by rfl)).1 hc
    simp only [DenC] at e3; rw [e1, e3]; rfl
  have hone' : ∀ x ∈ v.cells.toList, SpV (some k) x := by
    obtain ⟨y', zs, e1, e2, -, e3⟩ := (denC_cons (by rfl)).1 hc
    simp only [DenC] at e3
    subst e3
    simp only [Den] at e2
    intro x hx
    rw [e1] at hx
    obtain rfl := List.mem_singleton.1 hx
    exact ⟨by rw [e2.1]; exact e2.2.1, fun kk e => by cases e; exact ⟨z, e2.1, e2.2.2⟩⟩
  have hsz : i.size = 1 := by have := hcz; simp only [Program.cellsOf, hi] at this; simpa using this
  have hby : i.bytes = by_ := by have := hbz; simp only [Program.bytesOf, hi] at this; simpa using this
  obtain ⟨A, q, hs, hok1, hd⟩ := dstN_run hh (hev s) hdst h1
  obtain ⟨hsr, hok2⟩ := srcN_run (t := t) hh hu hE hz (hev x) hsrc h2
  have hb2 : olds.length + news.length < 9223372036854775808 := by
    have : (olds ++ news).length * 1 ≤ (olds ++ news).length * by_ := Nat.mul_le_mul_left _ (by omega)
    rw [List.length_append] at this h3
    omega
  have := app_core (us := olds.map (.int k)) (vs := news.map (.int k)) (c' := .num k (olds ++ news)) hh hop hut hi hzz hone' hvl hsz (by decide) hby hs (by simp) hd hsr (by simp) (by simp [one]) (by rw [← List.length_append]; exact h3) hb2 ⟨by simp, okN_append hok1 hok2⟩
  rw [List.length_append]
  exact this
theorem app_inN {s x : Operand} {t u e : TypeId} {i : TypeInfo} {k : IntKind} {by_ n q m lv : Nat} {A : Option Addr} {olds news xs : List Int} (hh : Heap β bl w)
    (hop : o.op = .call { callee := .builtin .append, args := #[s, x], argTypes := #[t, u] }) (ht : P.underlying t = some (.slice e)) (hi : P.info? e = some i) (hsz : i.size = 1) (hby : i.bytes = by_) (hs : ρ s = .slice A n q)
    (hl : lvl bl lv = some (.num k xs)) (hq : q < 9223372036854775808) (hA : ∃ b sb, β.b[lv]? = some (some (b, sb)) ∧ A = some ⟨b, 0, none⟩ ∧ q ≤ sb) (ho : olds = xs.take n) (hn : n ≤ xs.length) (hm : news.length = m)
    (hsrc : Src P u e 1 by_ (ρ x) m (news.map (.int k)) w) (hok : okN k news) (hroom : n + m ≤ q) :
    Eff P β bl w ρ o (.sl bl.length 0 1 (n + m) (some q)) (setl bl lv none ++ [some (.num k (olds ++ (news ++ xs.drop (n + m))))]) := by
  have exec : ∀ {y : Value} {w' : World}, (Builtin.append_ #[t, u] o.type #[ρ s, ρ x]).run P w = .ok y w' → (execOp ρ o).run P w = .ok (.value y) w' := by
    intro y w' h
    refine call_exec hop ?_
    simp only [builtin, List.map_toArray, List.map_cons, List.map_nil, Sem.run_bind, h, Result.andThen_ok, Sem.run_pure]
  rw [hs] at exec
  obtain ⟨b, sb, hbb, rfl, hfit⟩ := hA
  obtain ⟨ys, sp, T, fz, hg, hlen, hc, hsp, hfz⟩ := heap_cells hh hl hbb rfl
  simp only [CsDen] at hc
  obtain ⟨rfl, hok0⟩ := hc
  have hyl : (xs.map (Value.int k)).length = xs.length := by simp
  have hvs : (news.map (Value.int k)).length = m * i.size := by rw [hsz]; simpa using hm
  have hfit2 : n * i.size + m * i.size ≤ (xs.map (Value.int k) ++ sp).length := by
    rw [List.length_append, hlen, hsz]; omega
  have hrun := append_room (P := P) (ty := o.type) ht hi hby hg (by intro j j1 j2; have := hfz.2.1 j j1 j2; rw [List.length_append, hlen]; exact this) (by rw [hsz]; exact hsrc) hvs (fun v hv => by obtain ⟨z, -, rfl⟩ := List.mem_map.1 hv; rfl) hroom hfit2
  rw [hsz, Nat.mul_one, Nat.mul_one] at hrun hfit2
  have e1 : (xs.map (Value.int k) ++ sp).take n ++ (news.map (Value.int k) ++ (xs.map (Value.int k) ++ sp).drop (n + m)) = (olds ++ (news ++ xs.drop (n + m))).map (Value.int k) ++ sp.drop (n + m - xs.length) := by
    subst ho
    rw [List.take_append_of_le_length (by simp; omega), List.drop_append]; simp [List.map_take, List.map_drop]
  rw [e1] at hrun
  have hc' : CsDen β (.num k (olds ++ (news ++ xs.drop (n + m)))) ((olds ++ (news ++ xs.drop (n + m))).map (Value.int k)) := by
    subst ho
    exact ⟨rfl, okN_append (okN_take hok0 _) (okN_append hok (okN_drop hok0 _))⟩
  have hw := hh.write2 (c' := .num k (olds ++ (news ++ xs.drop (n + m)))) (ys' := (olds ++ (news ++ xs.drop (n + m))).map (Value.int k)) (sp' := sp.drop (n + m - xs.length)) (lvl_get hl) hbb hg
    (by
      rw [List.length_append] at hfit2
      subst ho
      simp only [List.length_map, List.length_append, List.length_take, List.length_drop] at *
      omega)
    (fun x hx => hsp x (List.mem_of_mem_drop hx)) hfz hc'
  have hl' : (bl.set lv (some (.num k (olds ++ (news ++ xs.drop (n + m))))))[lv]? = some (some (.num k (olds ++ (news ++ xs.drop (n + m))))) := by
    rw [List.getElem?_set_self (List.getElem?_eq_some_iff.1 (lvl_get hl)).1]
  have hr := hw.heap.rename hl' hbb
  have hx := hw.trans hr
  rw [List.set_set, ← setl_set] at hx
  refine ⟨_, _, _, .inl (exec hrun), ?_, hx⟩
  simp only [Den]
  refine ⟨_, q, rfl, hroom, hq, (fun m hm => by cases hm; rfl), fun _ => ⟨b, sb, ?_, by simp, by simpa using hfit⟩⟩
  rw [← hh.len]; simp
theorem appNN_sound {s x : Operand} {t u e : TypeId} {T U E : TI} {k : IntKind} {z : Int} {by_ : Nat} {c1 c2 : Bool} {l : Option Nat} {olds news : List Int} (hev : EvOk β tm ρ) (hh : Heap β bl w)
    (hop : o.op = .call { callee := .builtin .append, args := #[s, x], argTypes := #[t, u] }) (ht : ti P t = some T) (hk : T.kd = .slice e 1 by_) (hu : ti P u = some U) (hE : ti P e = some E) (hz : E.zc = some [.v (.int k z)])
    (hdst : dstN k bl (ev tm s) = some (c1, l, olds)) (hsrc : srcN k z by_ U.kd bl (ev tm x) = some (c2, news)) (h0 : by_ ≠ 0)
    (h : appNN k by_ c1 c2 l olds news bl (roomN bl (ev tm s)) = some (vc, r, bl')) (hv : vc = true) : Eff P β bl w ρ o r bl' := by
  unfold appNN at h
  split at h
  · rename_i q xs hroom
    have hc : c1 = true ∧ c2 = true ∧ (olds ++ news).length * by_ ≤ 140737488355328 := by
      split at h <;>
        (simp only [Option.some.injEq, Prod.mk.injEq] at h
         obtain ⟨rfl, -, -⟩ := h
         simpa only [Bool.and_eq_true, decide_eq_true_eq] using hv)
    obtain ⟨h1, h2, h3⟩ := hc
    obtain ⟨hut, hcz, hbz⟩ := kd_slice ht hk
    obtain ⟨i, v, hi, hzz, hc, hone⟩ := zc_spec (β := β) hE hz
    have hvl : v.cells.toList.length = 1 := by
      obtain ⟨y', zs, e1, -, -, e3⟩ := (denC_cons (by rfl)).1 hc
      simp only [DenC] at e3; rw [e1, e3]; rfl
    have hone' : ∀ x ∈ v.cells.toList, SpV (some k) x := by
      obtain ⟨y', zs, e1, e2, -, e3⟩ := (denC_cons (by rfl)).1 hc
      simp only [DenC] at e3
      subst e3
      simp only [Den] at e2
      intro x hx
      rw [e1] at hx
      obtain rfl := List.mem_singleton.1 hx
      exact ⟨by rw [e2.1]; exact e2.2.1, fun kk e => by cases e; exact ⟨z, e2.1, e2.2.2⟩⟩
    have hsz : i.size = 1 := by have := hcz; simp only [Program.cellsOf, hi] at this; simpa using this
    have hby : i.bytes = by_ := by have := hbz; simp only [Program.bytesOf, hi] at this; simpa using this
    obtain ⟨A, q', hs, hok1, hd⟩ := dstN_run hh (hev s) hdst h1
    obtain ⟨hsr, hok2⟩ := srcN_run (t := t) hh hu hE hz (hev x) hsrc h2
    have hb2 : olds.length + news.length < 9223372036854775808 := by
      have : (olds ++ news).length * 1 ≤ (olds ++ news).length * by_ := Nat.mul_le_mul_left _ (by omega)
      rw [List.length_append] at this h3
      omega
    -- the room is the slice's
    unfold roomN at hroom
    split at hroom
    · rename_i lv i0 w0 n q2 he
      split at hroom
      · rename_i k2 xs' hl
        simp only [Option.some.injEq, Prod.mk.injEq] at hroom
        obtain ⟨rfl, rfl⟩ := hroom
        have hds := hev s
        rw [he] at hds hdst
        simp only [Den] at hds
        obtain ⟨A2, q3, hsA, g1, g2, g3, g5⟩ := hds
        obtain rfl := g3 _ rfl
        rw [hs] at hsA
        simp only [Value.slice.injEq] at hsA
        obtain ⟨rfl, hlen, rfl⟩ := hsA
        split at h
        · rename_i hq
          obtain ⟨hq, hsome⟩ := hq
          simp only [Option.some.injEq, Prod.mk.injEq] at h
          obtain ⟨-, rfl, rfl⟩ := h
          simp only [dstN] at hdst
          split at hdst
          · simp only [Option.some.injEq, Prod.mk.injEq] at hdst
            obtain ⟨-, rfl, -⟩ := hdst
            cases hsome
          · rename_i hne
            rw [hl] at hdst
            simp only at hdst
            split at hdst
            · rename_i hk2
              split at hdst
              · rename_i hw0
                split at hdst
                · rename_i hi0
                  simp only [Option.some.injEq, Prod.mk.injEq] at hdst
                  obtain ⟨hc1, rfl, rfl⟩ := hdst
                  subst hk2; subst hw0; subst hi0
                  rw [← hc1] at h1
                  have hn := of_decide_eq_true h1
                  have hq0 : q' ≠ 0 := fun e => by subst e; exact hne rfl
                  obtain ⟨b, sb, hb1, hb2', hb3⟩ := g5 hq0
                  have hlo : (xs'.take n).length = n := by simp; omega
                  rw [hlo] at hq hs
                  have := app_inN (olds := xs'.take n) hh hop hut hi hsz hby hs hl g2 ⟨b, sb, hb1, by simpa using hb2', by simpa using hb3⟩ rfl hn rfl hsr hok2 hq
                  rw [List.length_append, hlo]
                  exact this
                · cases hdst
              · cases hdst
            · cases hdst
        · rename_i hq
          simp only [Option.some.injEq, Prod.mk.injEq] at h
          obtain ⟨-, rfl, rfl⟩ := h
          cases l with
          | none =>
            have := appN_sound hev hh hop ht hk hu hE hz (by rw [he]; exact hdst) hsrc h1 h2 h3 h0
            exact this
          | some lv' =>
            have hq : ¬ olds.length + news.length ≤ q' := fun e => hq ⟨e, rfl⟩
            have := app_grow (us := olds.map (.int k)) (vs := news.map (.int k)) (c' := .num k (olds ++ news)) hh hop hut hi hzz hone' hvl hsz (by decide) hby hs (by simp) hd hsr (by simp) (by simp [one]) (by rw [← List.length_append]; exact h3) hb2 ⟨by simp, okN_append hok1 hok2⟩ hq
            rw [List.length_append]
            exact this
      · cases hroom
    · cases hroom
  · simp only [Option.some.injEq, Prod.mk.injEq] at h
    obtain ⟨rfl, rfl, rfl⟩ := h
    simp only [Bool.and_eq_true, decide_eq_true_eq] at hv
    exact appN_sound hev hh hop ht hk hu hE hz hdst hsrc hv.1 hv.2.1 hv.2.2 h0
theorem denR_append {w' : Nat} : ∀ {rs qs : List (List AV)} {ys zs : List Value}, DenR β w' rs ys → DenR β w' qs zs → DenR β w' (rs ++ qs) (ys ++ zs)
  | [], _, _, _, h1, h2 => by simp only [DenR] at h1; subst h1; exact h2
  | r :: rs, _, _, _, h1, h2 => by
    simp only [DenR] at h1
    obtain ⟨us, zs', rfl, h3, h4, h5⟩ := h1
    simp only [List.cons_append, DenR]
    exact ⟨us, _, by simp, h3, h4, denR_append h5 h2⟩
theorem srcR_run {w' : Nat} {x : AV} {y : Value} {news : List (List AV)} {bl1 : Bls} (hh : Heap β bl w) (hd : Den β x y) (h : srcR w' bl x = some (vc, news, bl1)) (hv : vc = true) :
    ∃ β1, Ext β bl w β1 bl1 w ∧ ∃ A q vs, y = .slice A news.length q ∧ news.length ≤ q ∧ q < 9223372036854775808 ∧ vs.length = news.length * w' ∧ DenR β1 w' news vs ∧ (q ≠ 0 → ∃ b o, A = some ⟨b, o, none⟩ ∧ InW w b o vs) := by
  cases x <;> simp only [srcR] at h <;> try (cases h; done)
  · simp only [Option.some.injEq, Prod.mk.injEq] at h
    obtain ⟨-, rfl, rfl⟩ := h
    simp only [Den] at hd
    exact ⟨β, .refl hh, none, 0, [], hd, Nat.le_refl _, by decide, by simp, by simp [DenR], fun h => absurd rfl h⟩
  · rename_i l i w2 n c
    split at h
    · rename_i hw
      subst hw
      simp only [Den] at hd
      obtain ⟨A, q, rfl, h1, h2, -, h3⟩ := hd
      split at h
      · rename_i w3 rs hl
        split at h
        · rename_i hw3
          subst hw3
          simp only [Option.some.injEq, Prod.mk.injEq] at h
          obtain ⟨rfl, rfl, rfl⟩ := h
          have hv := of_decide_eq_true hv
          have hlen : ((rs.drop i).take n).length = n := by simp; omega
          obtain ⟨base, hbase, hin⟩ := hh.lv l _ (lvl_get hl)
          cases base with
          | none =>
            have hr : DenR β w3 rs [] := hin
            have hq : q = 0 := by
              apply Decidable.byContradiction
              intro hne
              obtain ⟨b, s, hb, -⟩ := h3 hne
              rw [hb] at hbase; cases hbase
            have hr' := denR_take n (denR_drop i hr)
            exact ⟨β, .refl hh, A, q, _, by rw [hlen], by omega, h2, denR_len hr', hr', fun h => absurd hq h⟩
          | some p =>
            obtain ⟨b, s⟩ := p
            obtain ⟨ys, sp, T, fz, hg, hs, hc, -, -⟩ := heap_cells hh hl hbase rfl
            simp only [CsDen] at hc
            have hr' := denR_take n (denR_drop i hc)
            refine ⟨β, .refl hh, A, q, _, by rw [hlen], by omega, h2, denR_len hr', hr', fun hq => ?_⟩
            obtain ⟨b', s', hb, rfl, -⟩ := h3 hq
            rw [hbase] at hb; cases hb
            refine ⟨b, i * w3, rfl, _, T, fz, hg, fun j v hj => ?_⟩
            have hlt := (List.getElem?_eq_some_iff.1 hj).1
            simp only [List.length_take, List.length_drop] at hlt
            rw [List.getElem?_take_of_lt (by omega), List.getElem?_drop] at hj
            have hlt2 := (List.getElem?_eq_some_iff.1 hj).1
            simp only [List.getElem?_toArray]
            rw [List.getElem?_append_left hlt2, hj]
        · cases h
      · rename_i cs hl
        split at h
        · rename_i hi
          subst hi
          split at h
          · rename_i cs2 htk
            split at h
            · rename_i vc' gs bl2 hhd
              split at h
              · rename_i rs hro
                simp only [Option.some.injEq, Prod.mk.injEq] at h
                obtain ⟨rfl, rfl, rfl⟩ := h
                obtain ⟨base, hbase, hin⟩ := hh.lv l _ (lvl_get hl)
                have core : ∀ ys, DenC β cs ys → ∃ β1, Ext β bl w β1 bl2 w ∧ n * w2 ≤ ys.length ∧ DenR β1 w2 rs (ys.take (n * w2)) ∧ rs.length = n ∧ (ys.take (n * w2)).length = n * w2 := by
                  intro ys hys
                  obtain ⟨g1, g2⟩ := denC_tk hys htk
                  obtain ⟨β1, e1, d1⟩ := hdL_sound hh g2 hhd hv
                  have hlen : (ys.take (n * w2)).length = n * w2 := by simp; omega
                  have hrl : ∀ {m : Nat} {cs : List AV} {rs : List (List AV)}, rowsOf w2 m cs = some rs → rs.length = m := by
                    intro m
                    induction m with
                    | zero => intro cs rs h; simp only [rowsOf, Option.some.injEq] at h; subst h; rfl
                    | succ m ih =>
                      intro cs rs h
                      simp only [rowsOf] at h
                      split at h
                      · split at h
                        · rename_i r hr
                          obtain rfl := Option.some.inj h
                          simp [ih hr]
                        · cases h
                      · cases h
                  exact ⟨β1, e1, g1, rowsOf_sound d1 hro hlen, hrl hro, hlen⟩
                cases base with
                | none =>
                  obtain ⟨β1, e1, g1, d1, hn, hlen⟩ := core [] hin
                  have hq : q = 0 := by
                    apply Decidable.byContradiction
                    intro hne
                    obtain ⟨b, s, hb, -⟩ := h3 hne
                    rw [hb] at hbase; cases hbase
                  exact ⟨β1, e1, A, q, _, by rw [hn], by omega, h2, by rw [hlen, hn], d1, fun h => absurd hq h⟩
                | some p =>
                  obtain ⟨b, s⟩ := p
                  obtain ⟨ys, sp, T, fz, hg, hs, hc, -, -⟩ := heap_cells hh hl hbase rfl
                  obtain ⟨β1, e1, g1, d1, hn, hlen⟩ := core ys hc
                  refine ⟨β1, e1, A, q, _, by rw [hn], by omega, h2, by rw [hlen, hn], d1, fun hq => ?_⟩
                  obtain ⟨b', s', hb, rfl, -⟩ := h3 hq
                  rw [hbase] at hb; cases hb
                  refine ⟨b, 0 * w2, rfl, _, T, fz, hg, fun j v hj => ?_⟩
                  have hlt := (List.getElem?_eq_some_iff.1 hj).1
                  rw [List.getElem?_take_of_lt (by omega)] at hj
                  have hlt2 := (List.getElem?_eq_some_iff.1 hj).1
                  simp only [List.getElem?_toArray, Nat.zero_mul, Nat.zero_add]
                  rw [List.getElem?_append_left hlt2, hj]
              · cases h
            · cases h
          · cases h
        · cases h
      · cases h
    · cases h
  · rename_i t w2 rs c
    split at h
    · rename_i hw
      subst hw
      simp only [Option.some.injEq, Prod.mk.injEq] at h
      obtain ⟨-, rfl, rfl⟩ := h
      simp only [Den] at hd
      obtain ⟨A, q, ys, rfl, h1, h2, -, h3, h4⟩ := hd
      refine ⟨β, .refl hh, A, q, ys, rfl, h1, h2, denR_len h3, h3, fun hq => ?_⟩
      obtain ⟨b, o0, rfl, hc⟩ := h4 hq
      exact ⟨b, o0, rfl, InW.of_heap hh hc⟩
    · cases h
theorem app_in {s x : Operand} {t u e : TypeId} {i : TypeInfo} {sz by_ n q m lv : Nat} {A : Option Addr} {olds news rs : List (List AV)} {vs : List Value} (hh : Heap β bl w)
    (hop : o.op = .call { callee := .builtin .append, args := #[s, x], argTypes := #[t, u] }) (ht : P.underlying t = some (.slice e)) (hi : P.info? e = some i) (hsz : i.size = sz) (hby : i.bytes = by_) (hs : ρ s = .slice A n q)
    (hl : lvl bl lv = some (.rows sz rs)) (hq : q < 9223372036854775808) (hq0 : q ≠ 0) (hA : ∃ b sb, β.b[lv]? = some (some (b, sb)) ∧ A = some ⟨b, 0, none⟩ ∧ q * sz ≤ sb) (ho : olds = rs.take n) (hn : n ≤ rs.length) (hm : news.length = m)
    (hsrc : Src P u e sz by_ (ρ x) m vs w) (hr : DenR β sz news vs) (hroom : n + m ≤ q) :
    Eff P β bl w ρ o (.sl bl.length 0 sz (n + m) (some q)) (setl bl lv none ++ [some (.rows sz (olds ++ (news ++ rs.drop (n + m))))]) := by
  subst hsz
  have exec : ∀ {y : Value} {w' : World}, (Builtin.append_ #[t, u] o.type #[ρ s, ρ x]).run P w = .ok y w' → (execOp ρ o).run P w = .ok (.value y) w' := by
    intro y w' h
    refine call_exec hop ?_
    simp only [builtin, List.map_toArray, List.map_cons, List.map_nil, Sem.run_bind, h, Result.andThen_ok, Sem.run_pure]
  rw [hs] at exec
  obtain ⟨b, sb, hbb, rfl, hfit⟩ := hA
  obtain ⟨ys, sp, T, fz, hg, hlen, hc, hsp, hfz⟩ := heap_cells hh hl hbb rfl
  simp only [CsDen] at hc
  have hyl := denR_len hc
  have hvs : vs.length = m * i.size := by rw [denR_len hr, hm]
  have h2 : n * i.size ≤ ys.length := by rw [hyl]; exact Nat.mul_le_mul_right _ hn
  have hfit2 : n * i.size + m * i.size ≤ (ys ++ sp).length := by
    rw [List.length_append, hlen, ← Nat.add_mul]
    exact Nat.le_trans (Nat.mul_le_mul_right _ hroom) hfit
  have hrun := append_room (P := P) (ty := o.type) ht hi hby hg (by simpa [hlen] using hfz.2.1) hsrc hvs (denR_ones hr) hroom hfit2
  have e1 : (ys ++ sp).take (n * i.size) ++ (vs ++ (ys ++ sp).drop (n * i.size + m * i.size)) = (ys.take (n * i.size) ++ (vs ++ ys.drop ((n + m) * i.size))) ++ sp.drop ((n + m) * i.size - ys.length) := by
    rw [List.take_append_of_le_length h2, ← Nat.add_mul, List.drop_append]; simp
  rw [e1] at hrun
  have hc' : CsDen β (.rows i.size (olds ++ (news ++ rs.drop (n + m)))) (ys.take (n * i.size) ++ (vs ++ ys.drop ((n + m) * i.size))) := by
    subst ho
    exact denR_append (denR_take n hc) (denR_append hr (denR_drop (n + m) hc))
  have hw := hh.write2 (c' := .rows i.size (olds ++ (news ++ rs.drop (n + m)))) (ys' := ys.take (n * i.size) ++ (vs ++ ys.drop ((n + m) * i.size))) (sp' := sp.drop ((n + m) * i.size - ys.length)) (lvl_get hl) hbb hg
    (by
      rw [List.length_append, hlen] at hfit2
      simp only [List.length_append, List.length_take, List.length_drop, hvs, Nat.add_mul]
      omega)
    (fun x hx => hsp x (List.mem_of_mem_drop hx)) hfz hc'
  have hl' : (bl.set lv (some (.rows i.size (olds ++ (news ++ rs.drop (n + m))))))[lv]? = some (some (.rows i.size (olds ++ (news ++ rs.drop (n + m))))) := by
    rw [List.getElem?_set_self (List.getElem?_eq_some_iff.1 (lvl_get hl)).1]
  have hr := hw.heap.rename hl' hbb
  have hx := hw.trans hr
  rw [List.set_set, ← setl_set] at hx
  refine ⟨_, _, _, .inl (exec hrun), ?_, hx⟩
  simp only [Den]
  refine ⟨_, q, rfl, hroom, hq, (fun m hm => by cases hm; rfl), fun _ => ⟨b, sb, ?_, by simp, by simpa using hfit⟩⟩
  rw [← hh.len]; simp
theorem appRR_sound {s x : Operand} {t u e : TypeId} {T E : TI} {zc : List AV} {sz by_ : Nat} {c1 c2 : Bool} {l : Option Nat} {olds news : List (List AV)} {bl1 : Bls} {β1 : Env} {vs : List Value} (hev : EvOk β tm ρ) (ex : Ext β bl w β1 bl1 w)
    (hop : o.op = .call { callee := .builtin .append, args := #[s, x], argTypes := #[t, u] }) (ht : ti P t = some T) (hk : T.kd = .slice e sz by_) (hE : ti P e = some E) (hz : E.zc = some zc)
    (hw : wids zc = sz) (hs0 : sz ≠ 0) (h0 : by_ ≠ 0) (hsr : Src P u e sz by_ (ρ x) news.length vs w) (g4 : DenR β1 sz news vs) (hdst : dstR sz bl1 (ev tm s) = some (c1, l, olds))
    (h : appRR sz by_ c1 c2 l olds news bl1 (roomR bl1 (ev tm s)) = some (vc, r, bl')) (hv : vc = true) : Eff P β bl w ρ o r bl' := by
  obtain ⟨hut, hcz, hbz⟩ := kd_slice ht hk
  obtain ⟨i, v, hi, hzz, hc, hone⟩ := zc_spec (β := β) hE hz
  have hvl : v.cells.toList.length = sz := by rw [← hw]; exact denC_len hc
  have hsz : i.size = sz := by have := hcz; simp only [Program.cellsOf, hi] at this; simpa using this
  have hby : i.bytes = by_ := by have := hbz; simp only [Program.bytesOf, hi] at this; simpa using this
  have hds := (hev s).mono ex.le
  have grow : c1 = true → (olds ++ news).length * by_ ≤ 140737488355328 → Eff P β bl w ρ o (.sl bl1.length 0 sz (olds ++ news).length none) (killO l bl1 ++ [some (.rows sz (olds ++ news))]) := fun h1 h3 => by
    obtain ⟨A, q, us, hs, hr, hd⟩ := dstR_run ex.heap hds hdst h1
    have hb2 : olds.length + news.length < 9223372036854775808 := by
      have : (olds ++ news).length * 1 ≤ (olds ++ news).length * by_ := Nat.mul_le_mul_left _ (by omega)
      rw [List.length_append] at this h3
      omega
    obtain ⟨y, w', β', e1, e2, e3⟩ := app_core (us := us) (vs := vs) (c' := .rows sz (olds ++ news)) ex.heap hop hut hi hzz (fun x hx => SpV.none (hone x hx)) hvl hsz hs0 hby hs (denR_len hr) hd hsr (denR_len g4) (denR_ones g4) (by rw [← List.length_append]; exact h3) hb2 (denR_append hr g4)
    rw [List.length_append]
    exact ⟨y, w', β', e1, e2, ex.trans e3⟩
  unfold appRR at h
  split at h
  · rename_i q rs hroom
    split at h
    · rename_i hq
      obtain ⟨hq, hsome⟩ := hq
      simp only [Option.some.injEq, Prod.mk.injEq] at h
      obtain ⟨rfl, rfl, rfl⟩ := h
      simp only [Bool.and_eq_true, decide_eq_true_eq] at hv
      obtain ⟨h1, h2, h3⟩ := hv
      unfold roomR at hroom
      split at hroom
      · rename_i lv i0 w0 n q' he
        split at hroom
        · rename_i w2 rs' hl
          simp only [Option.some.injEq, Prod.mk.injEq] at hroom
          obtain ⟨rfl, rfl⟩ := hroom
          rw [he] at hdst hds
          simp only [Den] at hds
          obtain ⟨A, q2, hsA, g1, g2, g3, g5⟩ := hds
          obtain rfl := g3 _ rfl
          simp only [dstR] at hdst
          split at hdst
          · rename_i e0
            simp only [Option.some.injEq, Prod.mk.injEq] at hdst
            obtain ⟨-, rfl, -⟩ := hdst
            cases hsome
          · rename_i hne
            rw [hl] at hdst
            simp only at hdst
            split at hdst
            · rename_i hw2
              split at hdst
              · rename_i hw0
                split at hdst
                · rename_i hi0
                  simp only [Option.some.injEq, Prod.mk.injEq] at hdst
                  obtain ⟨rfl, rfl, rfl⟩ := hdst
                  subst hw2; subst hw0; subst hi0
                  have hn := of_decide_eq_true h1
                  have hq0 : q2 ≠ 0 := fun e => by subst e; exact hne rfl
                  obtain ⟨b, sb, hb1, hb2, hb3⟩ := g5 hq0
                  have hlo : (rs'.take n).length = n := by simp; omega
                  rw [hlo] at hq
                  obtain ⟨y, w', β', e1, e2, e3⟩ := app_in (olds := rs'.take n) ex.heap hop hut hi hsz hby hsA hl g2 hq0 ⟨b, sb, hb1, by simpa using hb2, by simpa using hb3⟩ rfl hn rfl hsr g4 hq
                  rw [List.length_append, hlo]
                  exact ⟨y, w', β', e1, e2, ex.trans e3⟩
                · cases hdst
              · cases hdst
            · cases hdst
        · cases hroom
      · cases hroom
    · rename_i hq
      simp only [Option.some.injEq, Prod.mk.injEq] at h
      obtain ⟨rfl, rfl, rfl⟩ := h
      simp only [Bool.and_eq_true, decide_eq_true_eq] at hv
      cases l with
      | none => exact grow hv.1 hv.2.2
      | some lv =>
        have hq : ¬ olds.length + news.length ≤ q := fun e => hq ⟨e, rfl⟩
        have h3 := hv.2.2
        obtain ⟨A, q', us, hs, hr, hd⟩ := dstR_run ex.heap hds hdst hv.1
        have hqq : q' = q := by
          unfold roomR at hroom
          split at hroom
          · rename_i lv2 i0 w0 n q2 he
            split at hroom
            · simp only [Option.some.injEq, Prod.mk.injEq] at hroom
              obtain ⟨rfl, -⟩ := hroom
              rw [he] at hds
              simp only [Den] at hds
              obtain ⟨A2, q3, hsA, -, -, g3, -⟩ := hds
              obtain rfl := g3 _ rfl
              rw [hs] at hsA
              simp only [Value.slice.injEq] at hsA
              exact hsA.2.2
            · cases hroom
          · cases hroom
        subst hqq
        have hb2 : olds.length + news.length < 9223372036854775808 := by
          have : (olds ++ news).length * 1 ≤ (olds ++ news).length * by_ := Nat.mul_le_mul_left _ (by omega)
          rw [List.length_append] at this h3
          omega
        obtain ⟨y, w', β', e1, e2, e3⟩ := app_grow (us := us) (vs := vs) (c' := .rows sz (olds ++ news)) ex.heap hop hut hi hzz (fun x hx => SpV.none (hone x hx)) hvl hsz hs0 hby hs (denR_len hr) hd hsr (denR_len g4) (denR_ones g4) (by rw [← List.length_append]; exact h3) hb2 (denR_append hr g4) hq
        rw [List.length_append]
        exact ⟨y, w', β', e1, e2, ex.trans e3⟩
  · simp only [Option.some.injEq, Prod.mk.injEq] at h
    obtain ⟨rfl, rfl, rfl⟩ := h
    simp only [Bool.and_eq_true, decide_eq_true_eq] at hv
    exact grow hv.1 hv.2.2
theorem appRR_c2 {sz by_ : Nat} {c1 c2 : Bool} {l : Option Nat} {olds news : List (List AV)} {bl1 : Bls} {rm : Option (Nat × List (List AV))} (h : appRR sz by_ c1 c2 l olds news bl1 rm = some (vc, r, bl')) (hv : vc = true) : c2 = true := by
  unfold appRR at h
  repeat' split at h
  all_goals
    simp only [Option.some.injEq, Prod.mk.injEq] at h
    obtain ⟨rfl, -, -⟩ := h
    simp only [Bool.and_eq_true] at hv
    exact hv.2.1
theorem appR_sound {s x : Operand} {t u e : TypeId} {T U E : TI} {zc : List AV} {sz by_ e' s' b' : Nat} {c1 c2 : Bool} {l : Option Nat} {olds news : List (List AV)} {bl1 : Bls} (hev : EvOk β tm ρ) (hh : Heap β bl w)
    (hop : o.op = .call { callee := .builtin .append, args := #[s, x], argTypes := #[t, u] }) (ht : ti P t = some T) (hk : T.kd = .slice e sz by_) (hu : ti P u = some U) (hU : U.kd = .slice e' s' b') (hE : ti P e = some E) (hz : E.zc = some zc)
    (hw : wids zc = sz) (hs0 : sz ≠ 0) (h0 : by_ ≠ 0) (hsrc : srcR sz bl (ev tm x) = some (c2, news, bl1)) (hdst : dstR sz bl1 (ev tm s) = some (c1, l, olds))
    (h : appRR sz by_ c1 c2 l olds news bl1 (roomR bl1 (ev tm s)) = some (vc, r, bl')) (hv : vc = true) : Eff P β bl w ρ o r bl' := by
  obtain ⟨β1, ex, A', q', vs, hx, g1, g2, g3, g4, g5⟩ := srcR_run hh (hev x) hsrc (appRR_c2 h hv)
  obtain ⟨d, hud, hkd⟩ := kd_under hu
  have hsr : Src P u e sz by_ (ρ x) news.length vs w := by
    rw [hx]
    exact .inl ⟨⟨d, hud, kdOf_notInt fun k => by rw [← hkd, hU]; simp⟩, fun w' => rfl, cells_read (P := P) (w := w) g1 g3 g5⟩
  exact appRR_sound hev ex hop ht hk hE hz hw hs0 h0 hsr g4 hdst h hv
theorem appZ_sound {s x : Operand} {t u e : TypeId} {T U E : TI} {zc : List AV} {sz by_ : Nat} {ik : IntKind} {c1 c2 : Bool} {l : Option Nat} {olds news : List (List AV)} (hev : EvOk β tm ρ) (hh : Heap β bl w)
    (hop : o.op = .call { callee := .builtin .append, args := #[s, x], argTypes := #[t, u] }) (ht : ti P t = some T) (hk : T.kd = .slice e sz by_) (hu : ti P u = some U) (hU : U.kd = .int ik) (hE : ti P e = some E) (hz : E.zc = some zc)
    (hw : wids zc = sz) (hs0 : sz ≠ 0) (h0 : by_ ≠ 0) (hsrc : zerR by_ zc (ev tm x) = some (c2, news)) (hdst : dstR sz bl (ev tm s) = some (c1, l, olds))
    (h : appRR sz by_ c1 c2 l olds news bl (roomR bl (ev tm s)) = some (vc, r, bl')) (hv : vc = true) : Eff P β bl w ρ o r bl' := by
  have hc2 := appRR_c2 h hv
  have hdx := hev x
  unfold zerR at hsrc
  split at hsrc
  · rename_i k2 m he
    simp only [Option.some.injEq, Prod.mk.injEq] at hsrc
    obtain ⟨rfl, rfl⟩ := hsrc
    simp only [Bool.and_eq_true, decide_eq_true_eq] at hc2
    obtain ⟨h1, h2, h3⟩ := hc2
    rw [he] at hdx
    obtain ⟨hy, -⟩ := den_int hdx
    obtain ⟨hut, hcz, hbz⟩ := kd_slice ht hk
    obtain ⟨d, hud, hkd⟩ := kd_under hu
    obtain ⟨i, v, hi, hzz, hc, hone⟩ := zc_spec (β := β) hE hz
    have hvl : v.cells.toList.length = sz := by rw [← hw]; exact denC_len hc
    have hsz : i.size = sz := by have := hcz; simp only [Program.cellsOf, hi] at this; simpa using this
    obtain ⟨m, rfl⟩ := Int.eq_ofNat_of_zero_le h1
    simp only [Int.toNat_natCast] at *
    have hzr : Builtin.zeroCells v.cells m = (List.replicate m v.cells.toList).flatten.toArray := by
      have := rows_zero v.cells.toList m (by omega)
      simpa [Builtin.zeroCells] using this
    have hsr : Src P u e sz by_ (ρ x) (List.replicate m zc).length (List.replicate m v.cells.toList).flatten w := by
      rw [List.length_replicate]
      refine .inr ⟨⟨ik, by rw [hud, kdOf_int (P := P) (d := d) (k := ik) (by rw [← hkd]; exact hU)]⟩, ⟨k2, hy⟩, by omega, ?_, v, fun w' => by simp [zeroValue, typeInfo, hi, hzz], hzr.symm, hs0⟩
      have : ((m * by_ : Nat) : Int) ≤ 281474976710656 := by rw [Int.natCast_mul]; exact h2
      omega
    exact appRR_sound hev (.refl hh) hop ht hk hE hz hw hs0 h0 hsr (denR_rep hc hvl m) hdst h hv
  · cases hsrc
theorem cpSrc_run {sz m : Nat} {x : AV} {y : Value} {news : List (List AV)} (hh : Heap β bl w) (hd : Den β x y) (h : cpSrc sz bl x = some (m, news)) :
    ∃ A q vs, y = .slice A m q ∧ m ≤ q ∧ q < 9223372036854775808 ∧ vs.length = news.length * sz ∧ DenR β sz news vs ∧ (q ≠ 0 → ∃ b o, A = some ⟨b, o, none⟩ ∧ InW w b o vs) := by
  cases x <;> simp only [cpSrc] at h <;> try (cases h; done)
  · simp only [Option.some.injEq, Prod.mk.injEq] at h
    obtain ⟨rfl, rfl⟩ := h
    simp only [Den] at hd
    exact ⟨none, 0, [], hd, Nat.le_refl _, by decide, by simp, by simp [DenR], fun h => absurd rfl h⟩
  · rename_i l i w2 n c
    split at h
    · rename_i hw
      subst hw
      simp only [Den] at hd
      obtain ⟨A, q, rfl, h1, h2, -, h3⟩ := hd
      split at h
      · rename_i w3 rs hl
        split at h
        · rename_i hw3
          subst hw3
          simp only [Option.some.injEq, Prod.mk.injEq] at h
          obtain ⟨rfl, rfl⟩ := h
          obtain ⟨base, hbase, hin⟩ := hh.lv l _ (lvl_get hl)
          cases base with
          | none =>
            have hr : DenR β w3 rs [] := hin
            have hq : q = 0 := by
              apply Decidable.byContradiction
              intro hne
              obtain ⟨b, s, hb, -⟩ := h3 hne
              rw [hb] at hbase; cases hbase
            have hr' := denR_take n (denR_drop i hr)
            exact ⟨A, q, _, rfl, h1, h2, denR_len hr', hr', fun h => absurd hq h⟩
          | some p =>
            obtain ⟨b, s⟩ := p
            obtain ⟨ys, sp, T, fz, hg, hs, hc, -, -⟩ := heap_cells hh hl hbase rfl
            simp only [CsDen] at hc
            have hr' := denR_take n (denR_drop i hc)
            refine ⟨A, q, _, rfl, h1, h2, denR_len hr', hr', fun hq => ?_⟩
            obtain ⟨b', s', hb, rfl, -⟩ := h3 hq
            rw [hbase] at hb; cases hb
            refine ⟨b, i * w3, rfl, _, T, fz, hg, fun j v hj => ?_⟩
            have hlt := (List.getElem?_eq_some_iff.1 hj).1
            simp only [List.length_take, List.length_drop] at hlt
            rw [List.getElem?_take_of_lt (by omega), List.getElem?_drop] at hj
            have hlt2 := (List.getElem?_eq_some_iff.1 hj).1
            simp only [List.getElem?_toArray]
            rw [List.getElem?_append_left hlt2, hj]
        · cases h
      · cases h
    · cases h
  · rename_i t w' rs c
    split at h
    · rename_i hw
      simp only [Option.some.injEq, Prod.mk.injEq] at h
      obtain ⟨rfl, rfl⟩ := h
      subst hw
      simp only [Den] at hd
      obtain ⟨A, q, ys, rfl, h1, h2, -, h4, h5⟩ := hd
      refine ⟨A, q, ys, rfl, h1, h2, denR_len h4, h4, fun hq => ?_⟩
      obtain ⟨b, o, e, hc⟩ := h5 hq
      exact ⟨b, o, e, InW.of_heap hh hc⟩
    · cases h
theorem setl_same : ∀ {bl : Bls} {l : Nat} {c : Ct}, lvl bl l = some c → setl bl l (some c) = bl
  | [], _, _, h => by simp [lvl] at h
  | b :: r, 0, c, h => by simp [lvl] at h; simp [setl, h]
  | b :: r, l + 1, c, h => by simp [lvl] at h; simp [setl, setl_same h]
theorem cpR_sound {d x : Operand} {t u e : TypeId} {sz : Nat} (hev : EvOk β tm ρ) (hh : Heap β bl w) (hop : o.op = .call { callee := .builtin .copy, args := #[d, x], argTypes := #[t, u] }) (hut : P.underlying t = some (.slice e)) (hcz : P.cellsOf e = sz) (h0 : sz ≠ 0)
    (h : cpR sz bl (ev tm d) (ev tm x) = some (vc, r, bl')) (hv : vc = true) : Eff P β bl w ρ o r bl' := by
  have hdd := hev d
  unfold cpR at h
  split at h
  · rename_i l i w' n c hd
    split at h
    · rename_i hw
      split at h
      · rename_i m0 news w2 rs hsrc hl
        split at h
        · rename_i hw2
          subst hw2
          subst hw
          simp only [Option.some.injEq, Prod.mk.injEq] at h
          obtain ⟨rfl, rfl, rfl⟩ := h
          simp only [Bool.and_eq_true, decide_eq_true_eq] at hv
          obtain ⟨hm0, hi⟩ := hv
          obtain ⟨A2, q2, vs, hx, k1, k2, k3, k4, k5⟩ := cpSrc_run hh (hev x) hsrc
          rw [hd] at hdd
          simp only [Den] at hdd
          obtain ⟨A, q, hA0, hnq, hq, -, hA⟩ := hdd
          have exec : ∀ {w' : World}, (Builtin.copy_ #[t, u] o.type #[ρ d, ρ x]).run P w = .ok (goInt ((min m0 n : Nat) : Int)) w' → (execOp ρ o).run P w = .ok (.value (.int .i64 (min m0 n : Nat))) w' := by
            intro w' h
            refine call_exec hop ?_
            simp only [builtin, List.map_toArray, List.map_cons, List.map_nil, Sem.run_bind, h, Result.andThen_ok, Sem.run_pure]
            rfl
          have hmin : Nat.min m0 n = min m0 n := rfl
          have hf : (Builtin.firstCells w' (min m0 n) (ρ x)).run P w = .ok (vs.take (min m0 n * w')).toArray w := by
            rw [hx]
            have hlen : (vs.take (min m0 n * w')).length = min m0 n * w' := by
              rw [List.length_take, k3]
              have := Nat.mul_le_mul_right w' hm0
              omega
            have := cells_read (P := P) (w := w) (A := A2) (m := min m0 n) (q := q2) (size := w') (vs := vs.take (min m0 n * w')) (by omega) hlen (fun hq2 => by
              obtain ⟨b, o', e1, cs, T, fz, e2, e3⟩ := k5 hq2
              exact ⟨b, o', e1, cs, T, fz, e2, fun j v hj => e3 j v (by
                have hlt := (List.getElem?_eq_some_iff.1 hj).1
                rw [List.getElem?_take_of_lt (by rw [hlen] at hlt; exact hlt)] at hj
                exact hj)⟩) w rfl
            cases A2 <;> exact this
          have hlenx : (Builtin.lenOf (ρ x)).run P w = .ok m0 w := by rw [hx]; rfl
          by_cases hn0 : n = 0
          · subst hn0
            have e1 : rs.take i ++ (news.take (min m0 0) ++ rs.drop (i + min m0 0)) = rs := by simp
            rw [e1, setl_same hl]
            refine ⟨_, w, β, .inl (exec ?_), mk_len (by omega), .refl hh⟩
            rw [hA0]
            simp only [Nat.min_zero, Nat.zero_mul, List.take_zero] at *
            cases A with
            | none => simp [Builtin.copy_, underlying_run w hut, hlenx, sizeOf_pos w hcz h0, hmin, hf]
            | some A => simp [Builtin.copy_, underlying_run w hut, hlenx, sizeOf_pos w hcz h0, hmin, hf, storeCells]
          · obtain ⟨b, s, hb, rfl, hfit⟩ := hA (by omega)
            have hb1 := hb
            obtain ⟨ys, sp, T', fz, hg, hs, hcs, hsp, hfz⟩ := heap_cells hh hl hb1 rfl
            simp only [CsDen] at hcs
            have hyl := denR_len hcs
            have g1 : i * w' ≤ ys.length := by rw [hyl]; exact Nat.mul_le_mul_right _ hi
            have hnl : (vs.take (min m0 n * w')).length = min m0 n * w' := by
              rw [List.length_take, k3]
              have := Nat.mul_le_mul_right w' hm0
              omega
            have hfit2 : i * w' + min m0 n * w' ≤ (ys ++ sp).length := by
              rw [List.length_append, hs, ← Nat.add_mul]
              refine Nat.le_trans (Nat.mul_le_mul_right _ ?_) hfit
              have := Nat.min_le_right m0 n
              omega
            have hone : ∀ v ∈ vs.take (min m0 n * w'), one v = true := fun v hv => denR_ones k4 v (List.mem_of_mem_take hv)
            have hst := storeCells_run (P := P) b (i * w') T' fz (vs.take (min m0 n * w')) 0 (ys ++ sp).toArray w hg (by simpa [hs] using hfz.2.1) (by rw [hnl]; simpa using hfit2) hone
            have e1 : (ys ++ sp).take (i * w') ++ (vs.take (min m0 n * w') ++ (ys ++ sp).drop (i * w' + min m0 n * w')) = (ys.take (i * w') ++ (vs.take (min m0 n * w') ++ ys.drop ((i + min m0 n) * w'))) ++ sp.drop ((i + min m0 n) * w' - ys.length) := by
              rw [List.take_append_of_le_length g1, ← Nat.add_mul, List.drop_append]; simp
            simp only [Nat.add_zero, hnl, List.append_assoc] at hst
            rw [e1] at hst
            have hc' : CsDen β (.rows w' (rs.take i ++ (news.take (min m0 n) ++ rs.drop (i + min m0 n)))) (ys.take (i * w') ++ (vs.take (min m0 n * w') ++ ys.drop ((i + min m0 n) * w'))) := by
              exact denR_append (denR_take i hcs) (denR_append (denR_take _ k4) (denR_drop _ hcs))
            have hwr := hh.write2 (c' := .rows w' (rs.take i ++ (news.take (min m0 n) ++ rs.drop (i + min m0 n)))) (ys' := ys.take (i * w') ++ (vs.take (min m0 n * w') ++ ys.drop ((i + min m0 n) * w'))) (sp' := sp.drop ((i + min m0 n) * w' - ys.length)) (lvl_get hl) hb1 hg
              (by
                rw [List.length_append, hs] at hfit2
                simp only [List.length_append, hnl, List.length_take, List.length_drop, Nat.add_mul]
                omega) (fun x hx => hsp x (List.mem_of_mem_drop hx)) hfz hc'
            rw [← setl_set] at hwr
            refine ⟨_, _, β, .inl (exec ?_), mk_len (by omega), hwr⟩
            rw [hA0]
            simp [Builtin.copy_, underlying_run w hut, hlenx, sizeOf_pos w hcz h0, hmin, hf, hst]
        · cases h
      · cases h
    · cases h
  · cases h
theorem clR_sound {x : Operand} {t e : TypeId} {T E : TI} {sz by_ : Nat} (hev : EvOk β tm ρ) (hh : Heap β bl w) (hop : o.op = .call { callee := .builtin .clear, args := #[x], argTypes := #[t] }) (ht : ti P t = some T) (hk : T.kd = .slice e sz by_) (hE : ti P e = some E) (hz : ∃ zc, E.zc = some zc ∧ wids zc = sz) (h0 : sz ≠ 0)
    (h : clR sz bl (ev tm x) = some (vc, r, bl')) (hv : vc = true) : Eff P β bl w ρ o r bl' := by
  obtain ⟨hut, hcz, hbz⟩ := kd_slice ht hk
  obtain ⟨zc, hz, hw0⟩ := hz
  obtain ⟨ii, v, hi, hzz, hc, hone⟩ := zc_spec (β := β) hE hz
  have hvl : v.cells.toList.length = sz := by rw [← hw0]; exact denC_len hc
  have hdx := hev x
  unfold clR at h
  split at h
  · rename_i l i w' n c hd
    split at h
    · rename_i hw
      split at h
      · rename_i w2 rs hl
        split at h
        · rename_i hw2
          subst hw2
          subst hw
          simp only [Option.some.injEq, Prod.mk.injEq] at h
          obtain ⟨rfl, rfl, rfl⟩ := h
          have hi2 := of_decide_eq_true hv
          rw [hd] at hdx
          simp only [Den] at hdx
          obtain ⟨A, q, hA0, hnq, hq, -, hA⟩ := hdx
          have exec : ∀ {w' : World}, (Builtin.clear_ #[t] o.type #[ρ x]).run P w = .ok (.tuple #[]) w' → (execOp ρ o).run P w = .ok (.value (.tuple #[])) w' := by
            intro w' h
            refine call_exec hop ?_
            simp only [builtin, List.map_toArray, List.map_cons, List.map_nil, Sem.run_bind, h, Result.andThen_ok, Sem.run_pure]
          have hden : Den β (.tup []) (.tuple #[]) := by simp only [Den]; exact ⟨[], rfl, by simp [DenL]⟩
          -- less of it told
          have less : ∀ base, β.b[l]? = some base → Ext β bl w β (setl bl l (some (.rows w' (rs.take i)))) w := fun base hb => by
            rw [setl_set]
            cases base with
            | none =>
              obtain ⟨base, e, hin⟩ := hh.lv l _ (lvl_get hl)
              rw [hb] at e
              obtain rfl := Option.some.inj e
              have hr : DenR β w' rs [] := hin
              have hlr := denR_len hr
              have hrs : rs = [] := by
                cases rs with
                | nil => rfl
                | cons a r => simp only [List.length_nil, List.length_cons, Nat.add_mul, Nat.one_mul] at hlr; omega
              subst hrs
              rw [List.take_nil, ← setl_set, setl_same hl]
              exact .refl hh
            | some p =>
              obtain ⟨b, s⟩ := p
              obtain ⟨ys, sp, T', fz, hg, hs, hcs, hsp, hfz⟩ := heap_cells hh hl hb rfl
              simp only [CsDen] at hcs
              have e1 : ys.take (i * w') ++ (ys.drop (i * w') ++ sp) = ys ++ sp := by rw [← List.append_assoc, List.take_append_drop]
              have hwr := hh.write2 (c' := .rows w' (rs.take i)) (ys' := ys.take (i * w')) (sp' := ys.drop (i * w') ++ sp) (lvl_get hl) hb hg (by simp only [List.length_take, List.length_append, List.length_drop]; omega)
                (fun x hx => SpV.none (by
                  rcases List.mem_append.1 hx with hx | hx
                  · exact denR_ones hcs x (List.mem_of_mem_drop hx)
                  · exact (hsp x hx).1)) hfz (denR_take i hcs)
              rw [e1, setRow_self w b _ T' fz hg] at hwr
              exact hwr
          obtain ⟨base, hbase, -⟩ := hh.lv l _ (lvl_get hl)
          by_cases hn0 : n = 0
          · subst hn0
            refine ⟨_, w, β, .inl (exec ?_), hden, less _ hbase⟩
            rw [hA0]
            cases A <;> simp [Builtin.clear_, underlying_run w hut]
          · obtain ⟨b, s, hb, rfl, hfit⟩ := hA (by omega)
            obtain ⟨ys, sp, T', fz, hg, hs, hcs, hsp, hfz⟩ := heap_cells hh hl hb rfl
            simp only [CsDen] at hcs
            have hyl := denR_len hcs
            have g1 : i * w' ≤ ys.length := by rw [hyl]; exact Nat.mul_le_mul_right _ hi2
            have hzr : Builtin.zeroCells v.cells n = (List.replicate n v.cells.toList).flatten.toArray := by
              have := rows_zero v.cells.toList n (by omega)
              simpa [Builtin.zeroCells] using this
            have hzl : (Builtin.zeroCells v.cells n).toList.length = n * w' := by
              rw [hzr]
              have := flatten_len (w := w') (rs := List.replicate n v.cells.toList) (fun r hr => by rw [List.eq_of_mem_replicate hr]; exact hvl)
              simpa using this
            have hfit2 : i * w' + n * w' ≤ (ys ++ sp).length := by
              rw [List.length_append, hs, ← Nat.add_mul]
              exact Nat.le_trans (Nat.mul_le_mul_right _ (by omega)) hfit
            have hones := zeroCells_ones (p := fun x => one x = true) hone (by simp at hvl; omega) n
            have hst := storeCells_run (P := P) b (i * w') T' fz (Builtin.zeroCells v.cells n).toList 0 (ys ++ sp).toArray w hg (by simpa [hs] using hfz.2.1) (by rw [hzl]; simpa using hfit2) hones
            simp only [Nat.add_zero, hzl, List.append_assoc] at hst
            have e1 : (ys ++ sp).take (i * w') = ys.take (i * w') := List.take_append_of_le_length g1
            rw [e1] at hst
            have hwr := hh.write2 (c' := .rows w' (rs.take i)) (ys' := ys.take (i * w')) (sp' := (Builtin.zeroCells v.cells n).toList ++ (ys ++ sp).drop (i * w' + n * w')) (lvl_get hl) hb hg
              (by
                rw [List.length_append, hs] at hfit2
                simp only [List.length_append, hzl, List.length_take, List.length_drop]
                omega)
              (fun x hx => SpV.none (by
                rcases List.mem_append.1 hx with hx | hx
                · exact hones x hx
                · rcases List.mem_append.1 (List.mem_of_mem_drop hx) with hx | hx
                  · exact denR_ones hcs x hx
                  · exact (hsp x hx).1)) hfz (denR_take i hcs)
            rw [← setl_set] at hwr
            refine ⟨_, _, β, .inl (exec ?_), hden, hwr⟩
            rw [hA0]
            have hst' : (storeCells ⟨b, i * w', none⟩ (Builtin.zeroCells v.cells n).toList).run P w = _ := hst
            obtain ⟨n', rfl⟩ : ∃ n', n = n' + 1 := ⟨n - 1, by omega⟩
            simp [Builtin.clear_, underlying_run w hut, zeroValue, typeInfo, hi, hzz, hst']
        · cases h
      · cases h
    · cases h
  · cases h
theorem clN_sound {x : Operand} {t e : TypeId} {T E : TI} {k : IntKind} {z : Int} {by_ : Nat} (hev : EvOk β tm ρ) (hh : Heap β bl w) (hop : o.op = .call { callee := .builtin .clear, args := #[x], argTypes := #[t] }) (ht : ti P t = some T) (hk : T.kd = .slice e 1 by_) (hE : ti P e = some E) (hz : E.zc = some [.v (.int k z)])
    (h : clN k bl (ev tm x) = some (vc, r, bl')) (hv : vc = true) : Eff P β bl w ρ o r bl' := by
  obtain ⟨hut, hcz, hbz⟩ := kd_slice ht hk
  obtain ⟨ii, v, hi, hzz, hc, hone⟩ := zc_spec (β := β) hE hz
  have hvl : v.cells.toList.length = 1 := by
    obtain ⟨y', zs, e1, -, -, e3⟩ := (denC_cons (by rfl)).1 hc
    simp only [DenC] at e3; rw [e1, e3]; rfl
  have hone' : ∀ x ∈ v.cells.toList, SpV (some k) x := by
    obtain ⟨y', zs, e1, e2, -, e3⟩ := (denC_cons (by rfl)).1 hc
    simp only [DenC] at e3
    subst e3
    simp only [Den] at e2
    intro x hx
    rw [e1] at hx
    obtain rfl := List.mem_singleton.1 hx
    exact ⟨by rw [e2.1]; exact e2.2.1, fun kk e => by cases e; exact ⟨z, e2.1, e2.2.2⟩⟩
  have hdx := hev x
  unfold clN at h
  split at h
  · rename_i l i w' n c hd
    split at h
    · rename_i hw
      subst hw
      split at h
      · rename_i k' xs hl
        split at h
        · rename_i hkk
          subst hkk
          simp only [Option.some.injEq, Prod.mk.injEq] at h
          obtain ⟨rfl, rfl, rfl⟩ := h
          have hi2 := of_decide_eq_true hv
          rw [hd] at hdx
          simp only [Den] at hdx
          obtain ⟨A, q, hA0, hnq, hq, -, hA⟩ := hdx
          have exec : ∀ {w' : World}, (Builtin.clear_ #[t] o.type #[ρ x]).run P w = .ok (.tuple #[]) w' → (execOp ρ o).run P w = .ok (.value (.tuple #[])) w' := by
            intro w' h
            refine call_exec hop ?_
            simp only [builtin, List.map_toArray, List.map_cons, List.map_nil, Sem.run_bind, h, Result.andThen_ok, Sem.run_pure]
          have hden : Den β (.tup []) (.tuple #[]) := by simp only [Den]; exact ⟨[], rfl, by simp [DenL]⟩
          have less : ∀ base, β.b[l]? = some base → Ext β bl w β (setl bl l (some (.num k' (xs.take i)))) w := fun base hb => by
            rw [setl_set]
            cases base with
            | none =>
              obtain ⟨base, e, hin⟩ := hh.lv l _ (lvl_get hl)
              rw [hb] at e
              obtain rfl := Option.some.inj e
              have hr : [] = xs.map (Value.int k') ∧ okN k' xs := hin
              have hrs : xs = [] := by simpa using hr.1.symm
              subst hrs
              rw [List.take_nil, ← setl_set, setl_same hl]
              exact .refl hh
            | some p =>
              obtain ⟨b, s⟩ := p
              obtain ⟨ys, sp, T', fz, hg, hs, hcs, hsp, hfz⟩ := heap_cells hh hl hb rfl
              simp only [CsDen] at hcs
              obtain ⟨rfl, hok⟩ := hcs
              have e1 : (xs.take i).map (Value.int k') ++ ((xs.drop i).map (Value.int k') ++ sp) = xs.map (Value.int k') ++ sp := by rw [← List.append_assoc, ← List.map_append, List.take_append_drop]
              have hwr := hh.write2 (c' := .num k' (xs.take i)) (ys' := (xs.take i).map (Value.int k')) (sp' := (xs.drop i).map (Value.int k') ++ sp) (lvl_get hl) hb hg (by simp only [List.length_map, List.length_take, List.length_append, List.length_drop] at *; omega)
                (fun x hx => by
                  rcases List.mem_append.1 hx with hx | hx
                  · exact SpV.num (okN_drop hok _) x hx
                  · exact hsp x hx) hfz ⟨rfl, okN_take hok _⟩
              rw [e1, setRow_self w b _ T' fz hg] at hwr
              exact hwr
          obtain ⟨base, hbase, -⟩ := hh.lv l _ (lvl_get hl)
          by_cases hn0 : n = 0
          · subst hn0
            refine ⟨_, w, β, .inl (exec ?_), hden, less _ hbase⟩
            rw [hA0]
            cases A <;> simp [Builtin.clear_, underlying_run w hut]
          · obtain ⟨b, s, hb, rfl, hfit⟩ := hA (by omega)
            obtain ⟨ys, sp, T', fz, hg, hs, hcs, hsp, hfz⟩ := heap_cells hh hl hb rfl
            simp only [CsDen] at hcs
            obtain ⟨rfl, hok⟩ := hcs
            have g1 : i ≤ (xs.map (Value.int k')).length := by simpa using hi2
            have hzr : Builtin.zeroCells v.cells n = (List.replicate n v.cells.toList).flatten.toArray := by
              have := rows_zero v.cells.toList n (by omega)
              simpa [Builtin.zeroCells] using this
            have hzl : (Builtin.zeroCells v.cells n).toList.length = n := by
              rw [hzr]
              have := flatten_len (w := 1) (rs := List.replicate n v.cells.toList) (fun r hr => by rw [List.eq_of_mem_replicate hr]; exact hvl)
              simpa using this
            rw [Nat.mul_one] at hfit
            have hfit2 : i + n ≤ (xs.map (Value.int k') ++ sp).length := by
              rw [List.length_append, hs]; omega
            have hsv := zeroCells_ones (p := SpV (some k')) hone' (by simp at hvl; omega) n
            have hst := storeCells_run (P := P) b (i * 1) T' fz (Builtin.zeroCells v.cells n).toList 0 (xs.map (Value.int k') ++ sp).toArray w hg (by intro j j1 j2; have := hfz.2.1 j j1 j2; simp at hs ⊢; omega) (by rw [hzl]; simpa using hfit2) (fun x hx => (hsv x hx).1)
            simp only [Nat.add_zero, Nat.mul_one, hzl, List.append_assoc] at hst
            have e1 : (xs.map (Value.int k') ++ sp).take i = (xs.take i).map (Value.int k') := by rw [List.take_append_of_le_length g1, List.map_take]
            rw [e1] at hst
            have hwr := hh.write2 (c' := .num k' (xs.take i)) (ys' := (xs.take i).map (Value.int k')) (sp' := (Builtin.zeroCells v.cells n).toList ++ (xs.map (Value.int k') ++ sp).drop (i + n)) (lvl_get hl) hb hg
              (by
                rw [List.length_append, hs] at hfit2
                simp only [List.length_append, hzl, List.length_map, List.length_take, List.length_drop] at *
                omega)
              (fun x hx => by
                rcases List.mem_append.1 hx with hx | hx
                · exact hsv x hx
                · rcases List.mem_append.1 (List.mem_of_mem_drop hx) with hx | hx
                  · exact SpV.num hok x hx
                  · exact hsp x hx) hfz ⟨rfl, okN_take hok _⟩
            rw [← setl_set] at hwr
            refine ⟨_, _, β, .inl (exec ?_), hden, hwr⟩
            rw [hA0]
            obtain ⟨n', rfl⟩ : ∃ n', n = n' + 1 := ⟨n - 1, by omega⟩
            simp [Builtin.clear_, underlying_run w hut, zeroValue, typeInfo, hi, hzz, hst]
        · cases h
      · cases h
    · cases h
  · cases h
theorem Heap.mark {l b s : Nat} {c : Ct} (h : Heap β bl w) (hl : lvl bl l = some c) (hb : β.b[l]? = some (some (b, s))) (hc : c.cell = true) (hz : spz c = false) :
    ∃ T, w.shape? b = some (T, s) ∧ Ext β bl w β bl (w.freeze ⟨b, s, none⟩ 1) := by
  obtain ⟨ys, sp, T, fz, hg, hs, hcs, hsp, hfz⟩ := heap_cells h hl hb hc
  have hsz : (ys ++ sp).toArray.size = s := by simpa using hs
  obtain ⟨lo, hi⟩ := fz
  have hother : ∀ b', b' ≠ b → (w.freeze ⟨b, s, none⟩ 1).heap[b']? = w.heap[b']? := fun b' hne => by
    unfold World.freeze
    rw [if_neg (by decide)]
    simp only [Array.getElem?_modify]
    rw [if_neg (Ne.symm hne)]
  have hself : ∃ fz', (w.freeze ⟨b, s, none⟩ 1).heap[b]? = some (.cells (ys ++ sp).toArray T fz') ∧ FzOk (spz c) fz' s := by
    unfold World.freeze
    rw [if_neg (by decide)]
    simp only [Array.getElem?_modify, if_true, hg, Option.map_some]
    refine ⟨_, rfl, ?_⟩
    obtain ⟨h1, h2, -⟩ := hfz
    simp only at h1 h2
    by_cases e : lo = hi
    · subst e
      simp only [beq_self_eq_true, if_true]
      exact ⟨Nat.le_succ _, fun j hj _ => hj, fun e => by rw [hz] at e; cases e⟩
    · have : (lo == hi) = false := by simpa using e
      simp only [this, Bool.false_eq_true, if_false]
      have := h2 lo (Nat.le_refl _) (by omega)
      exact ⟨by simp only; omega, fun j hj _ => by simp only at hj; omega, fun e => by rw [hz] at e; cases e⟩
  obtain ⟨fz', hself, hfz'⟩ := hself
  refine ⟨T, by simp only [World.shape?, hg, hsz], .refl _, ⟨h.len, fun m c0 hm => ?_, h.sep, fun t b' cs' hz => ?_⟩, ⟨rfl, rfl, rfl, ?_, fun b' _ hno => hother b' (fun e => hno ⟨l, c, s, lvl_get hl, by rw [e]; exact hb⟩)⟩, fun b' hb' => .inl hb', fun b' cs' hz => .inl hz, rfl⟩
  · obtain ⟨base, e, hin⟩ := h.lv m c0 hm
    by_cases hml : m = l
    · subst hml
      have h0 := lvl_get hl
      rw [h0] at hm
      obtain rfl := Option.some.inj (Option.some.inj hm)
      exact ⟨_, hb, .inl ⟨hc, ys, sp, T, fz', hself, hs, hcs, hsp, hfz'⟩⟩
    · refine ⟨base, e, hin.same fun b' s' hb' => ?_⟩
      subst hb'
      exact hother b' (fun e3 => h.sep l m c c0 b s s' (fun e4 => hml e4.symm) (lvl_get hl) hm hb (by rw [e, e3]))
  · obtain ⟨⟨T', fz0, e⟩, hno⟩ := h.frz t b' cs' hz
    exact ⟨⟨T', fz0, by rw [hother b' (fun e3 => hno ⟨l, c, s, lvl_get hl, by rw [e3]; exact hb⟩)]; exact e⟩, hno⟩
  · unfold World.freeze
    rw [if_neg (by decide)]
    simp
theorem toBytes_sound {src dst : TypeId} {x : Operand} (hev : EvOk β tm ρ) (hh : Heap β bl w) (hop : o.op = .convert src dst x) (h : eop2 P tm bl o.op = some (vc, r, bl')) : Eff P β bl w ρ o r bl' := by
  rw [hop] at h
  simp only [eop2] at h
  split at h
  · rename_i S D hs hd
    split at h
    · rename_i e sz by_ hk hkd hik
      split at h
      · rename_i hsz
        subst hsz
        split at h
        · rename_i s he
          simp only [Option.some.injEq, Prod.mk.injEq] at h
          obtain ⟨-, rfl, rfl⟩ := h
          have hx := hev x
          rw [he] at hx
          simp only [Den, wfV] at hx
          obtain ⟨hx, -, hlt⟩ := hx
          have hus := kd_str hs hk
          obtain ⟨hud, -, -⟩ := kd_slice hd hkd
          have hue : P.underlying e = some (.int .u8) := by
            obtain ⟨i, d, -, hu', -, -, -, -, hik', -⟩ := ti_spec hd
            rw [hik'] at hik
            unfold ikOf at hik
            rw [hud] at hik
            simp only at hik
            cases hq : P.underlying e with
            | none => simp [hq] at hik
            | some d => cases d <;> simp [hq] at hik <;> rw [hik]
          have hrun := run_bytes_of_string (P := P) w src dst e s hus hud hue
          have hcap : s.size ≤ grownCap w s.size 0 e ∧ grownCap w s.size 0 e < 9223372036854775808 := by
            simp only [grownCap, Question.cut]
            have : 2 ^ 63 = 9223372036854775808 := by decide
            have hm := Nat.mod_lt (w.tape w.drawn (.appendCap s.size 0 e)) (show 2 ^ 63 - s.size > 0 by omega)
            omega
          generalize grownCap w s.size 0 e = Q at hrun hcap
          have hrow : bytesRow s Q = ((bytesL s).map (Value.int .u8) ++ List.replicate (Q - s.size) (Value.int .u8 0)).toArray := by
            apply Array.ext'
            simp [bytesRow, bytesL]
          have hsz : (bytesRow s Q).size = Q := by rw [hrow]; simp [bytesL_len]; omega
          rw [hsz, hrow] at hrun
          have hm := hh.make (c := .num .u8 (bytesL s)) (s := Q) (o := .cells ((bytesL s).map (Value.int .u8) ++ List.replicate (Q - s.size) (Value.int .u8 0)).toArray e (Q, Q + 1))
            (w' := w.drew.alloc (.cells ((bytesL s).map (Value.int .u8) ++ List.replicate (Q - s.size) (Value.int .u8 0)).toArray e (Q, Q + 1))) rfl rfl rfl rfl
            (.inl ⟨rfl, (bytesL s).map (Value.int .u8), List.replicate (Q - s.size) (Value.int .u8 0), e, (Q, Q + 1), by show (w.heap.push _)[w.heap.size]? = _; simp, by simp [bytesL_len]; omega, ⟨rfl, bytesL_ok s⟩,
              (fun x hx => by rw [List.eq_of_mem_replicate hx]; exact ⟨rfl, fun kk e => by cases e; exact ⟨0, rfl, rfl⟩⟩), Nat.le_succ _, fun j h1 h2 => h1, fun e => by cases e⟩)
          refine ⟨.slice (some ⟨w.heap.size, 0, none⟩) s.size Q, _, _, .inl ?_, ?_, hm⟩
          rotate_left
          · simp only [Den]
            refine ⟨some ⟨w.heap.size, 0, none⟩, Q, by rw [bytesL_len], by rw [bytesL_len]; exact hcap.1, hcap.2, (fun m hm => by cases hm), fun _ => ⟨w.heap.size, Q, at_new hh, by simp, by simp⟩⟩
          · unfold execOp
            simp only [hop, hx, Sem.run_bind, hrun, Result.andThen_ok, Sem.run_pure, bytesL_len]
        · cases h
      · cases h
    · -- bytes as they are, marked as a string's
      rename_i e0 sz0 by0 e sz by_ hk hkd hik
      split at h
      · rename_i hsd
        subst hsd
        split at h
        · split at h
          · rename_i l i w' n c he
            split at h
            · cases h
            · rename_i hn
              split at h
              · rename_i b0 hl
                split at h
                · rename_i hcell
                  simp only [Option.some.injEq, Prod.mk.injEq] at h
                  obtain ⟨-, rfl, rfl⟩ := h
                  have hx := hev x
                  rw [he] at hx
                  have hx' := hx
                  simp only [Den] at hx
                  obtain ⟨A, q, hx, h1, h2, h3, h4⟩ := hx
                  obtain ⟨b, s, hb, rfl, -⟩ := h4 (by omega)
                  rw [Bool.and_eq_true, Bool.not_eq_true'] at hcell
                  obtain ⟨T, hshape, hext⟩ := hh.mark hl hb hcell.1 hcell.2
                  obtain ⟨hud, -, -⟩ := kd_slice hd hkd
                  have hue : P.underlying e = some (.int .u8) := by
                    obtain ⟨i, d, -, hu', -, -, -, -, hik', -⟩ := ti_spec hd
                    rw [hik'] at hik
                    unfold ikOf at hik
                    rw [hud] at hik
                    simp only at hik
                    cases hq : P.underlying e with
                    | none => simp [hq] at hik
                    | some d => cases d <;> simp [hq] at hik <;> rw [hik]
                  refine ⟨_, _, β, .inl ?_, hx', hext⟩
                  unfold execOp
                  simp only [hop, hx, convert, Sem.run_bind, underlying_run w hud, Result.andThen_ok, beq_self_eq_true, underlying_run w hue, markStringish, run_shape, hshape, run_freeze, Sem.run_pure]
                · cases h
              · cases h
          · cases h
        · cases h
      · cases h
    · cases h
  · cases h
theorem chR_sound {k : IntKind} {m : Nat} {f : List Int → List Int} (hf : ∀ xs, xs.length = m → okN k xs → (f xs).length = m ∧ okN k (f xs)) : ∀ {cs r : List AV} {ys : List Value} {o : Nat}, DenC β cs ys → chR cs o k m f = some r →
    ∃ xs, xs.length = m ∧ okN k xs ∧ o + m ≤ ys.length ∧ (ys.drop o).take m = xs.map (.int k) ∧ DenC β r (ys.take o ++ ((f xs).map (.int k) ++ ys.drop (o + m)))
  | [], r, ys, o, _, h => by simp [chR] at h
  | c :: cs, r, ys, o, hd, h => by
    rcases denC_case hd with ⟨hs, y, zs, rfl, h1, h2, h3⟩ | ⟨n, k', ns, rfl, zs, rfl, h1, h2, h3⟩
    · have h' : (if o = 0 then none else (match chR cs (o - 1) k m f with
          | some r => some (c :: r)
          | none => none)) = some r := by
        cases c <;> first | exact h | (simp [AV.scal] at hs)
      split at h'
      · cases h'
      · rename_i h0
        split at h'
        · rename_i r' hr
          obtain rfl := Option.some.inj h'
          obtain ⟨o', rfl⟩ : ∃ o', o = o' + 1 := ⟨o - 1, by omega⟩
          obtain ⟨xs, g1, g2, g3, g4, g5⟩ := chR_sound hf h3 hr
          refine ⟨xs, g1, g2, by simp at g3 ⊢; omega, by simpa using g4, ?_⟩
          rw [show o' + 1 + m = (o' + m) + 1 by omega, List.take_succ_cons, List.drop_succ_cons, List.cons_append]
          exact (denC_cons hs).2 ⟨y, _, rfl, h1, h2, g5⟩
        · cases h'
    · simp only [chR] at h
      split at h
      · rename_i h0
        subst h0
        split at h
        · rename_i hk
          subst hk
          split at h
          · rename_i hm
            subst hm
            obtain rfl := Option.some.inj h
            obtain ⟨g1, g2⟩ := hf ns h1 h2
            refine ⟨ns, h1, h2, by simp [h1], ?_, ?_⟩
            · rw [List.drop_zero, List.take_append_of_le_length (by simp [h1]), List.take_of_length_le (by simp [h1])]
            · rw [List.take_zero, List.nil_append, Nat.zero_add, List.drop_append, List.drop_of_length_le (by simp [h1])]
              exact denC_ch.2 ⟨zs, by simp [h1], g1, g2, h3⟩
          · cases h
        · cases h
      · split at h
        · rename_i hle
          split at h
          · rename_i r' hr
            obtain rfl := Option.some.inj h
            obtain ⟨xs, g1, g2, g3, g4, g5⟩ := chR_sound hf h3 hr
            refine ⟨xs, g1, g2, by simp [h1]; omega, ?_, ?_⟩
            · rw [List.drop_append, List.drop_of_length_le (by simp; omega)]
              simpa [h1] using g4
            · refine denC_ch.2 ⟨_, ?_, h1, h2, g5⟩
              rw [List.take_append, List.take_of_length_le (by simp; omega), List.drop_append, List.drop_of_length_le (by simp; omega)]
              simp only [List.length_map, h1, List.nil_append, List.append_assoc]
              rw [show o + m - n = o - n + m by omega]
          · cases h
        · cases h
theorem first_run {A : Option Addr} {m n q : Nat} {k : IntKind} {xs : List Int} (hm : m ≤ xs.length) (hq : xs.length ≤ q) (hA : q ≠ 0 → ∃ b o, A = some ⟨b, o, none⟩ ∧ InW w b o (xs.map (.int k))) :
    (Builtin.firstCells 1 m (.slice A n q)).run P w = .ok ((xs.take m).map (.int k)).toArray w := by
  by_cases h0 : m = 0
  · subst h0
    cases A with
    | none => simp [Builtin.firstCells]
    | some A => simp [Builtin.firstCells, loadCells, loadCellsFrom]
  · obtain ⟨b, o0, rfl, cs, T, fz, h1, h2⟩ := hA (by omega)
    have hi : InW w b o0 ((xs.take m).map (.int k)) := ⟨cs, T, fz, h1, fun j v hj => h2 j v (by
      have hlt := (List.getElem?_eq_some_iff.1 hj).1
      simp at hlt
      rw [List.map_take, List.getElem?_take_of_lt (by omega)] at hj
      exact hj)⟩
    have := loadCells_inW (P := P) hi
    have e : ((xs.take m).map (Value.int k)).length = m := by simp; omega
    rw [e] at this
    simpa [Builtin.firstCells] using this
theorem cpSrcN_run {t u : TypeId} {k : IntKind} {U : TI} {x : AV} {y : Value} {m0 : Nat} {news : List Int} (hh : Heap β bl w) (hu : ti P u = some U) (hd : Den β x y)
    (h : cpSrcN k U.kd bl x = some (m0, news)) : okN k news ∧ m0 < 9223372036854775808 ∧ (Builtin.lenOf y).run P w = .ok m0 w ∧ ∀ m, m ≤ news.length → m ≤ m0 → (Builtin.firstCells 1 m y).run P w = .ok ((news.take m).map (.int k)).toArray w := by
  unfold cpSrcN at h
  split at h
  · rename_i s hk
    split at h
    · rename_i hk8
      subst hk8
      simp only [Option.some.injEq, Prod.mk.injEq] at h
      obtain ⟨rfl, rfl⟩ := h
      simp only [Den, wfV] at hd
      refine ⟨bytesL_ok s, by rw [bytesL_len]; exact hd.2.2, by rw [hd.1, bytesL_len]; rfl, fun m hm _ => ?_⟩
      rw [hd.1]
      simp [Builtin.firstCells]
      apply Array.ext'
      simp [bytesL, List.extract_eq_take_drop, List.map_take]
      rfl
    · cases h
  · simp only [Option.some.injEq, Prod.mk.injEq] at h
    obtain ⟨rfl, rfl⟩ := h
    simp only [Den] at hd
    subst hd
    exact ⟨fun _ h => (by cases h), by decide, rfl, fun m hm _ => by
      obtain rfl : m = 0 := by simpa using hm
      simp [Builtin.firstCells]⟩
  · rename_i t' k' xs c
    split at h
    · rename_i hk
      subst hk
      simp only [Option.some.injEq, Prod.mk.injEq] at h
      obtain ⟨rfl, rfl⟩ := h
      simp only [Den] at hd
      obtain ⟨A, q, rfl, h1, h2, h3, h4, h5⟩ := hd
      refine ⟨h4, by omega, rfl, fun m hm _ => first_run hm h1 fun hq => ?_⟩
      obtain ⟨b, o, e, hc⟩ := h5 hq
      exact ⟨b, o, e, InW.of_heap hh hc⟩
    · cases h
  · rename_i l i w' n c _
    split at h
    · rename_i k' xs hl
      split at h
      · rename_i hk
        subst hk
        split at h
        · rename_i hw
          subst hw
          simp only [Option.some.injEq, Prod.mk.injEq] at h
          obtain ⟨rfl, rfl⟩ := h
          simp only [Den] at hd
          obtain ⟨A, q, rfl, h1, h2, h3, h4⟩ := hd
          obtain ⟨base, hbase, hin⟩ := hh.lv l _ (lvl_get hl)
          have hok : okN k' xs := by
            unfold CtIn at hin
            cases base with
            | none => exact hin.2
            | some p =>
              rcases hin with ⟨-, ys, sp, T, fz, -, -, hc, -⟩ | ⟨hf, -⟩
              · exact hc.2
              · cases hf
          refine ⟨okN_take (okN_drop hok _) _, by omega, rfl, fun m hm hm2 => ?_⟩
          have hq : (((xs.drop i).take n).length ≤ q) := by simp; omega
          have := first_run (P := P) (w := w) (A := A) (m := m) (n := n) (q := q) (k := k') (xs := (xs.drop i).take n) hm hq (fun hq => by
            obtain ⟨b, s, hb, rfl, hs⟩ := h4 hq
            obtain ⟨ys, sp, T, fz, hg, hsz, hc, -⟩ := heap_cells hh hl hb rfl
            refine ⟨b, i * 1, rfl, _, T, fz, hg, fun j v hj => ?_⟩
            simp only [CsDen] at hc
            rw [hc.1]
            rw [List.map_take, List.map_drop, List.getElem?_take] at hj
            split at hj
            · rw [List.getElem?_drop] at hj
              simp only [List.getElem?_toArray, Nat.mul_one]
              rw [List.getElem?_append_left (List.getElem?_eq_some_iff.1 hj).1]; exact hj
            · cases hj)
          exact this
        · cases h
      · cases h
    · cases h
  · cases h
theorem copy_sound {args : Array Operand} {ats : Array TypeId} (hev : EvOk β tm ρ) (hh : Heap β bl w) (hop : o.op = .call { callee := .builtin .copy, args, argTypes := ats }) (h : eop2 P tm bl o.op = some (vc, r, bl')) (hv : vc = true) :
    Eff P β bl w ρ o r bl' := by
  rw [hop] at h
  simp only [eop2] at h
  split at h
  · rename_i d x t u hx htl
    have ha : args = #[d, x] := by apply Array.ext'; simpa using hx
    have hts : ats = #[t, u] := by apply Array.ext'; simpa using htl
    subst ha; subst hts
    split at h
    · rename_i T U ht hu
      split at h
      · rename_i e sz by_ k hk hik
        split at h
        · rename_i hsz
          subst hsz
          obtain ⟨hut, hcz, -⟩ := kd_slice ht hk
          split at h
          · rename_i l i w' n c hd
            split at h
            · rename_i hw
              subst hw
              have hdd := hev d
              rw [hd] at hdd
              simp only [Den] at hdd
              obtain ⟨A, q, hA0, hnq, hq, -, hA⟩ := hdd
              -- what runs
              have core : ∀ {m0 : Nat} {news : List Int} {ct ct' : Ct}, cpSrcN k U.kd bl (ev tm x) = some (m0, news) → min m0 n ≤ news.length → lvl bl l = some ct → ct.cell = true → spk ct' = spk ct ∧ spz ct' = spz ct →
                  (∀ ys, CsDen β ct ys → n ≠ 0 → i ≤ ys.length ∧ CsDen β ct' (ys.take i ++ ((news.take (min m0 n)).map (.int k) ++ ys.drop (i + min m0 n)))) → (n = 0 → ct' = ct) →
                  Eff P β bl w ρ o (.v (.int .i64 (min m0 n : Nat))) (setl bl l (some ct')) := by
                intro m0 news ct ct' hsrc hm0 hl hcell hkd hw hz
                obtain ⟨hok, hm63, hlen, hfirst⟩ := cpSrcN_run (t := t) hh hu (hev x) hsrc
                have hf := hfirst (min m0 n) hm0 (Nat.min_le_left _ _)
                have exec : ∀ {w' : World}, (Builtin.copy_ #[t, u] o.type #[ρ d, ρ x]).run P w = .ok (goInt ((min m0 n : Nat) : Int)) w' → (execOp ρ o).run P w = .ok (.value (.int .i64 (min m0 n : Nat))) w' := by
                  intro w' h
                  refine call_exec hop ?_
                  simp only [builtin, List.map_toArray, List.map_cons, List.map_nil, Sem.run_bind, h, Result.andThen_ok, Sem.run_pure]
                  rfl
                have hmin : Nat.min m0 n = min m0 n := rfl
                by_cases hn0 : n = 0
                · subst hn0
                  rw [hz rfl, setl_same hl]
                  refine ⟨_, w, β, .inl (exec ?_), mk_len (by omega), .refl hh⟩
                  rw [hA0]
                  have hf0 := hfirst 0 (Nat.zero_le _) (Nat.zero_le _)
                  simp only [Nat.min_zero] at *
                  cases A with
                  | none => simp [Builtin.copy_, underlying_run w hut, hlen, sizeOf_pos w hcz (by decide : (1 : Nat) ≠ 0), hmin, hf0]
                  | some A => simp [Builtin.copy_, underlying_run w hut, hlen, sizeOf_pos w hcz (by decide : (1 : Nat) ≠ 0), hmin, hf0, storeCells]
                · obtain ⟨b, s, hb, rfl, hfit⟩ := hA (by omega)
                  obtain ⟨ys, sp, T', fz, hg, hs, hcs, hsp, hfz⟩ := heap_cells hh hl hb hcell
                  obtain ⟨g1, g2⟩ := hw ys hcs hn0
                  have hnl : ((news.take (min m0 n)).map (Value.int k)).length = min m0 n := by rw [List.length_map, List.length_take]; omega
                  have hst := storeCells_run (P := P) b (i * 1) T' fz ((news.take (min m0 n)).map (.int k)) 0 (ys ++ sp).toArray w hg (by simpa [hs] using hfz.2.1) (by simp; omega) (fun v hv => by obtain ⟨z, -, rfl⟩ := List.mem_map.1 hv; rfl)
                  have e1 : (ys ++ sp).take i ++ ((news.take (min m0 n)).map (.int k) ++ (ys ++ sp).drop (i + min m0 n)) = (ys.take i ++ ((news.take (min m0 n)).map (.int k) ++ ys.drop (i + min m0 n))) ++ sp.drop (i + min m0 n - ys.length) := by
                    rw [List.take_append_of_le_length (by omega), List.drop_append]; simp
                  simp only [Nat.mul_one, Nat.add_zero, hnl, List.append_assoc] at hst
                  rw [e1] at hst
                  rw [List.map_take] at hst hf e1
                  have hfit' := hfit
                  rw [Nat.mul_one] at hfit'
                  have hwr := hh.write2 (c' := ct') (sp' := sp.drop (i + min m0 n - ys.length)) (lvl_get hl) hb hg (by simp only [List.length_append, List.length_take, List.length_drop, hnl]; omega) (fun x hx => by rw [hkd.1]; exact hsp x (List.mem_of_mem_drop hx)) (by rw [hkd.2]; exact hfz) g2
                  rw [← setl_set] at hwr
                  refine ⟨_, _, β, .inl (exec ?_), mk_len (by omega), hwr⟩
                  rw [hA0]
                  simp [Builtin.copy_, underlying_run w hut, hlen, sizeOf_pos w hcz (by decide : (1 : Nat) ≠ 0), hmin, hf, hst]
              split at h
              · rename_i m0 news k' xs hsrc hl
                split at h
                · rename_i hk'
                  subst hk'
                  simp only [Option.some.injEq, Prod.mk.injEq] at h
                  obtain ⟨rfl, rfl, rfl⟩ := h
                  simp only [Bool.and_eq_true, decide_eq_true_eq] at hv
                  have hokn := (cpSrcN_run (t := t) hh hu (hev x) hsrc).1
                  refine core hsrc hv.1 hl rfl ⟨rfl, rfl⟩ (fun ys hys hn => ?_) (fun hn => ?_)
                  · simp only [CsDen] at hys
                    obtain ⟨rfl, hok⟩ := hys
                    refine ⟨by simp; omega, ?_⟩
                    refine ⟨by simp, okN_append (okN_take hok _) (okN_append (okN_take hokn _) (okN_drop hok _))⟩
                  · subst hn; simp
                · cases h
              · rename_i m0 news cs hsrc hl
                split at h
                · cases h
                · rename_i hn
                  split at h
                  · rename_i r' hr
                    simp only [Option.some.injEq, Prod.mk.injEq] at h
                    obtain ⟨rfl, rfl, rfl⟩ := h
                    have hm0 := of_decide_eq_true hv
                    have hokn := (cpSrcN_run (t := t) hh hu (hev x) hsrc).1
                    have hf : ∀ xs : List Int, xs.length = n → okN k xs → (news.take (min m0 n) ++ xs.drop (min m0 n)).length = n ∧ okN k (news.take (min m0 n) ++ xs.drop (min m0 n)) := by
                      intro xs hx ho
                      exact ⟨by rw [List.length_append, List.length_take, List.length_drop]; omega, okN_append (okN_take hokn _) (okN_drop ho _)⟩
                    refine core hsrc hm0 hl rfl ⟨rfl, rfl⟩ (fun ys hys _ => ?_) (fun h => absurd h hn)
                    obtain ⟨xs, g1, g2, g3, g4, g5⟩ := chR_sound hf hys hr
                    refine ⟨by omega, ?_⟩
                    have e2 : ys.drop (i + min m0 n) = (xs.drop (min m0 n)).map (.int k) ++ ys.drop (i + n) := by
                      rw [List.map_drop, ← g4, ← List.drop_drop]
                      have e3 : ys.drop i = (ys.drop i).take n ++ ys.drop (i + n) := by rw [← List.drop_drop, List.take_append_drop]
                      conv => lhs; rw [e3]
                      rw [List.drop_append_of_le_length (by rw [List.length_take, List.length_drop]; omega)]
                    rw [e2]
                    simp only [CsDen]
                    simpa using g5
                  · cases h
              · cases h
            · cases h
          · cases h
        · cases h
      · rename_i e sz by_ hk hik
        split at h
        · cases h
        · rename_i h0
          obtain ⟨hut, hcz, -⟩ := kd_slice ht hk
          exact cpR_sound hev hh hop hut hcz h0 h hv
      · cases h
    · cases h
  · cases h
theorem eop2_sound (hev : EvOk β tm ρ) (hh : Heap β bl w) (h : eop2 P tm bl o.op = some (vc, r, bl')) (hv : vc = true) : Eff P β bl w ρ o r bl' := by
  cases hop : o.op with
  | convert src dst x => exact toBytes_sound hev hh hop h
  | call c =>
    obtain ⟨cal, args, ats⟩ := c
    cases cal with
    | builtin b =>
      cases b with
      | copy => exact copy_sound hev hh hop h hv
      | append =>
        rw [hop] at h
        simp only [eop2] at h
        split at h
        · rename_i s x t u hx htl
          have ha : args = #[s, x] := by apply Array.ext'; simpa using hx
          have hts : ats = #[t, u] := by apply Array.ext'; simpa using htl
          subst ha; subst hts
          split at h
          · rename_i T U ht hu
            split at h
            · rename_i e sz by_ hk
              split at h
              · rename_i E hE
                split at h
                · rename_i k k' z hEk hz
                  split at h
                  · rename_i hkk
                    subst hkk
                    split at h
                    · rename_i hs1
                      subst hs1
                      split at h
                      · cases h
                      · rename_i h0
                        split at h
                        · rename_i c1 l olds c2 news hdst hsrc
                          exact appNN_sound hev hh hop ht hk hu hE hz hdst hsrc h0 h hv
                        · cases h
                    · cases h
                  · cases h
                · cases h
                · rename_i zc hz _ _
                  split at h
                  · cases h
                  · rename_i hs0
                    split at h
                    · cases h
                    · rename_i h0
                      split at h
                      · rename_i hw
                        split at h
                        · rename_i e' s' b' c2 news bl1 hU hsrc
                          split at h
                          · rename_i c1 l olds hdst
                            exact appR_sound hev hh hop ht hk hu hU hE hz hw hs0 h0 hsrc hdst h hv
                          · cases h
                        · rename_i ik c2 news hU hsrc
                          split at h
                          · rename_i c1 l olds hdst
                            exact appZ_sound hev hh hop ht hk hu hU hE hz hw hs0 h0 hsrc hdst h hv
                          · cases h
                        · cases h
                      · cases h
                · cases h
              · cases h
            · cases h
          · cases h
        · cases h
      | clear =>
        rw [hop] at h
        simp only [eop2] at h
        split at h
        · rename_i x t hx htl
          have ha : args = #[x] := by apply Array.ext'; simpa using hx
          have hts : ats = #[t] := by apply Array.ext'; simpa using htl
          subst ha; subst hts
          split at h
          · rename_i T ht
            split at h
            · rename_i e sz by_ hk
              split at h
              · cases h
              · rename_i h0
                split at h
                · rename_i E hE
                  split at h
                  · rename_i zc hz
                    split at h
                    · rename_i hw
                      split at h
                      · rename_i k k' z hEk
                        split at h
                        · rename_i hs1
                          obtain ⟨rfl, rfl⟩ := hs1
                          exact clN_sound hev hh hop ht hk hE hz h hv
                        · cases h
                      · cases h
                      · exact clR_sound hev hh hop ht hk hE ⟨_, hz, hw⟩ h0 h hv
                    · cases h
                  · cases h
                · cases h
            · cases h
          · cases h
        · cases h
      | _ => rw [hop] at h; simp [eop2] at h
    | _ => rw [hop] at h; simp [eop2] at h
  | _ => rw [hop] at h; simp [eop2] at h
theorem eop1_sound (hev : EvOk β tm ρ) (hh : Heap β bl w) (h : eop1 P tm bl o.op = some (vc, r, bl')) (hv : vc = true) : Eff P β bl w ρ o r bl' := by
  cases hop : o.op with
  | store t a x => exact store_sound hev hh hop h hv
  | alloc t => exact alloc_sound hh hop h
  | box t x => exact box_sound hev hh hop h
  | buildSlice t n ps => exact buildSlice_sound hev hh hop h
  | makeSlice t x y => exact makeSlice_sound hev hh hop h hv
  | _ => rw [hop] at h; simp [eop1] at h
end
end Go.SY
