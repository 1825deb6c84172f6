/-
  The symbolic machine: operations that read memory; slices and parts of one's own that are frozen; stores; variables made.
-/
import Derived.Test.YtdoeopcimhpjaaaSy8
set_option linter.unusedSimpArgs false
set_option linter.unusedVariables false
namespace Go.SY
open Go

/-- The bytes that numbers are. -/
def strOf (xs : List Int) : ByteArray := ⟨(xs.map fun z => UInt8.ofNat z.toNat).toArray⟩

/-- The numbers that a slice is. -/
def numsAt (k : IntKind) (bl : Bls) : AV → Option (Bool × List Int)
  | .nil => some (true, [])
  | .imn _ k' xs _ => if k' = k then some (true, xs) else none
  | .sl l i w n _ => (match lvl bl l with
    | some (.num k' xs) => if k' = k then (if w = 1 then some (decide (i + n ≤ xs.length), (xs.drop i).take n) else none) else none
    | _ => none)
  | _ => none

/-- An array that is sliced: how many, of how many cells. -/
def aOf (P : Program) (T : TI) : Option (Nat × Nat) := match T.kd with
  | .ptr a => (match ti P a with
    | some A => (match A.kd with
      | .arr n _ sz => some (n, sz)
      | _ => none)
    | none => none)
  | .arr n _ sz => some (n, sz)
  | _ => none

/-- Operations that read memory. -/
def lop (P : Program) (tm : List (Nat × AV)) (bl : Bls) (o : Op) : Option (Bool × AV) :=
  match o with
  | .load t a => (match ti P t with
    | some T => (match ev tm a with
      | .ptr l i w k => (match lvl bl l with
        | some c => rdCt c i w k T
        | none => none)
      | .ip _ row k => (match rdC row k T with
        | some r => some (true, r)
        | none => none)
      | _ => none)
    | none => none)
  | .convert src dst x => (match ti P src, ti P dst with
    | some S, some D => (match S.kd, S.ik, D.kd with
      | .slice _ sz _, some .u8, .str => if sz = 1 then (match numsAt .u8 bl (ev tm x) with
        | some (vc, xs) => some (vc, .v (.string (strOf xs)))
        | none => none) else none
      | _, _, _ => none)
    | _, _ => none)
  | .slice t x lo hi mx => if okMx hi mx = true then (match ti P t with
    | some T => (match aOf P T with
      | some (n, sz) => if sz = 1 then (match ev tm x with
        | .ptr l i w k => (match lvl bl l with
            | some c => (match (match c with
                | .num _ xs => some xs.length
                | .lit cs => some (wids cs)
                | _ => none) with
              | some m => (match cutOf n (some n) (lo.map (ev tm)) (hi.map (ev tm)) (mx.map (ev tm)) with
                | some (vc, b, n', c') => some (decide (i * w + k + n ≤ m) && (decide (n < 9223372036854775808) && vc), .sl l (i * w + k + b) 1 n' c')
                | none => none)
              | none => none)
            | none => none)
        | .ip t' row k => (match dr row k with
            | some (.ch m kk xs :: _) => if m = n then (match cutOf n (some n) (lo.map (ev tm)) (hi.map (ev tm)) (mx.map (ev tm)) with
                | some (vc, b, n', c') => some (decide (n < 9223372036854775808) && vc, .imn t' kk ((xs.drop b).take n') c')
                | none => none) else none
            | _ => none)
        | _ => none) else none
      | none => none)
    | none => none) else none
  | _ => none

/-- The level that is read. -/
def rdl (tm : List (Nat × AV)) (o : Op) : List Nat :=
  match o with
  | .load _ a => (match ev tm a with
    | .ptr l _ _ _ => [l]
    | _ => [])
  | .convert _ _ x => (match ev tm x with
    | .sl l _ _ _ _ => [l]
    | _ => [])
  | .slice _ x _ _ _ => (match ev tm x with
    | .ptr l _ _ _ => [l]
    | _ => [])
  | _ => []

/-- An operation that reads memory. -/
def Lod (P : Program) (β : Env) (w : World) (ρ : Operand → Value) (o : Oper) (r : AV) : Prop := ∃ y, Den β r y ∧ (execOp ρ o).run P w = .ok (.value y) w

section
variable {P : Program} {β : Env} {tm : List (Nat × AV)} {ρ : Operand → Value} {o : Oper} {vc : Bool} {r : AV} {bl : Bls} {w : World}

theorem load_sound {t : TypeId} {x : Operand} (hev : EvOk β tm ρ) (hh : Heap β bl w) (hop : o.op = .load t x) (h : lop P tm bl o.op = some (vc, r)) (hv : vc = true) : Lod P β w ρ o r := by
  rw [hop] at h
  simp only [lop] at h
  have hd := hev x
  have exec : ∀ {b p : Nat} {y : Value}, ρ x = .pointer (some ⟨b, p, none⟩) → (loadVar t ⟨b, p, none⟩).run P w = .ok y w → (execOp ρ o).run P w = .ok (.value y) w := by
    intro b p y ha hy
    unfold execOp
    simp only [hop, Instr.loadAt, ha, Instr.sureAddr, Sem.run_bind, Sem.run_pure, Result.andThen_ok, hy]
  split at h
  · rename_i T ht
    split at h
    · rename_i l i w' k he
      split at h
      · rename_i c hc
        rw [he] at hd
        simp only [Den] at hd
        obtain ⟨b, s, hb, ha⟩ := hd
        have hcell : c.cell = true := by cases c <;> first | rfl | (simp [rdCt] at h)
        obtain ⟨ys, sp, U, fz, hg, -, hcs, -⟩ := heap_cells hh hc hb hcell
        have hr := rdCt_sound hcs h hv
        obtain ⟨y, h1, h2⟩ := load_rd ht (InW.of_cells hg) hr
        rw [Nat.zero_add] at h1
        exact ⟨y, h2, exec ha h1⟩
      · cases h
    · rename_i t' row k he
      split at h
      · rename_i r' hr
        obtain ⟨rfl, rfl⟩ := Prod.mk.inj (Option.some.inj h)
        rw [he] at hd
        simp only [Den] at hd
        obtain ⟨b, o0, ys, ha, hc, hz⟩ := hd
        obtain ⟨y, h1, h2⟩ := load_rd ht (InW.of_heap hh hz) (rdC_sound hc hr)
        exact ⟨y, h2, exec ha h1⟩
      · cases h
    · cases h
  · cases h

theorem strOf_size (xs : List Int) : (strOf xs).size = xs.length := by simp [strOf, ByteArray.size]

/-- The cells that a slice's numbers are. -/
theorem numsAt_run {k : IntKind} {x : AV} {y : Value} {xs : List Int} (hh : Heap β bl w) (hd : Den β x y) (h : numsAt k bl x = some (vc, xs)) (hv : vc = true) :
    ∃ A q, y = .slice A xs.length q ∧ xs.length ≤ q ∧ q < 9223372036854775808 ∧ okN k xs ∧ (q ≠ 0 → ∃ b o, A = some ⟨b, o, none⟩ ∧ InW w b o (xs.map (.int k))) := by
  cases x <;> simp only [numsAt] at h <;> try (cases h; done)
  · obtain ⟨rfl, rfl⟩ := Prod.mk.inj (Option.some.inj h)
    simp only [Den] at hd
    exact ⟨none, 0, hd, Nat.le_refl _, by decide, fun _ h => by simp at h, fun h => absurd rfl h⟩
  · rename_i l i w' n c
    split at h
    · rename_i k' ns hl
      split at h
      · rename_i hk
        split at h
        · rename_i hw
          obtain ⟨rfl, rfl⟩ := Prod.mk.inj (Option.some.inj h)
          subst hk; subst hw
          have hv := of_decide_eq_true hv
          have hlen : ((ns.drop i).take n).length = n := by simp; omega
          simp only [Den] at hd
          obtain ⟨A, q, rfl, h1, h2, -, h3⟩ := hd
          obtain ⟨base, hbase, hin⟩ := hh.lv l _ (lvl_get hl)
          have hok : okN k' ns := by
            unfold CtIn at hin
            cases base with
            | none => exact hin.2
            | some p =>
              rcases hin with ⟨-, ys, sp, T, fz, -, -, hc, -⟩ | ⟨hf, -⟩
              · exact hc.2
              · cases hf
          refine ⟨A, q, by rw [hlen], by omega, h2, okN_take (okN_drop hok _) _, fun hq => ?_⟩
          obtain ⟨b, s, hb, rfl, -⟩ := h3 hq
          obtain ⟨ys, sp, T, fz, hg, -, hc, -⟩ := heap_cells hh hl hb rfl
          simp only [CsDen] at hc
          obtain ⟨rfl, -⟩ := hc
          refine ⟨b, i * 1, rfl, _, T, fz, hg, fun j v hj => ?_⟩
          have hlt := (List.getElem?_eq_some_iff.1 hj).1
          rw [List.length_map, hlen] at hlt
          rw [List.map_take, List.map_drop, List.getElem?_take_of_lt hlt, List.getElem?_drop] at hj
          simp only [List.getElem?_toArray, Nat.mul_one]
          rw [List.getElem?_append_left (by simp; omega), hj]
        · cases h
      · cases h
    · cases h
  · rename_i t k' ns c
    split at h
    · rename_i hk
      obtain ⟨rfl, rfl⟩ := Prod.mk.inj (Option.some.inj h)
      subst hk
      simp only [Den] at hd
      obtain ⟨A, q, rfl, h1, h2, -, h3, h4⟩ := hd
      refine ⟨A, q, rfl, h1, h2, h3, fun hq => ?_⟩
      obtain ⟨b, o0, rfl, hc⟩ := h4 hq
      exact ⟨b, o0, rfl, InW.of_heap hh hc⟩
    · cases h

theorem loadCells_inW {b o0 : Nat} {ys : List Value} (h : InW w b o0 ys) : (loadCells ⟨b, o0, none⟩ ys.length).run P w = .ok ys.toArray w :=
  run_loadCells_list (P := P) w ⟨b, o0, none⟩ ys (fun j v hj => by rw [add_lit]; exact cell_of h hj)

theorem toStr_run {A : Option Addr} {q : Nat} {xs : List Int} (hq : xs.length ≤ q) (h : q ≠ 0 → ∃ b o, A = some ⟨b, o, none⟩ ∧ InW w b o (xs.map (.int .u8))) :
    (Conv.bytesToString (.slice A xs.length q)).run P w = .ok (.string (strOf xs)) w := by
  have fold : ∀ (f : Value → ByteArray → Sem (ForInStep ByteArray)), (∀ z s, f (.int .u8 z) s = pure (ForInStep.yield (s.push (UInt8.ofNat z.toNat)))) → ∀ (l : List Int) (s : ByteArray), (forIn (l.map (Value.int .u8)) s f).run P w = .ok (l.foldl (fun s z => s.push (UInt8.ofNat z.toNat)) s) w := by
    intro f hf l
    induction l with
    | nil => intro s; simp
    | cons z l ih =>
      intro s
      simp only [List.map_cons, List.forIn_cons, hf, Sem.run_bind, Sem.run_pure, Result.andThen_ok, List.foldl_cons]
      exact ih _
  have push : ∀ (l : List Int) (s : ByteArray), (l.foldl (fun s z => s.push (UInt8.ofNat z.toNat)) s).data = s.data ++ (l.map fun z => UInt8.ofNat z.toNat).toArray := by
    intro l
    induction l with
    | nil => intro s; simp
    | cons z l ih =>
      intro s
      rw [List.foldl_cons, ih]
      apply Array.ext'
      simp [ByteArray.push]
  have e : xs.foldl (fun s z => s.push (UInt8.ofNat z.toNat)) ByteArray.empty = strOf xs := by
    have := push xs ByteArray.empty
    unfold strOf
    generalize xs.foldl (fun s z => s.push (UInt8.ofNat z.toNat)) ByteArray.empty = q at this
    cases q
    simp only at this
    rw [this]
    congr 1
    apply Array.ext'
    simp [ByteArray.empty, ByteArray.emptyWithCapacity]
    try rfl
  cases A with
  | none =>
    have hx : xs = [] := by
      by_cases h0 : q = 0
      · exact List.length_eq_zero_iff.1 (by omega)
      · obtain ⟨b, o, h1, -⟩ := h h0; cases h1
    subst hx
    simp only [Conv.bytesToString, Sem.run_pure]
    rfl
  | some A =>
    have hl : (loadCells A xs.length).run P w = .ok (xs.map (Value.int .u8)).toArray w := by
      by_cases h0 : q = 0
      · obtain rfl : xs = [] := List.length_eq_zero_iff.1 (by omega)
        simp [loadCells, loadCellsFrom]
      · obtain ⟨b, o0, h1, h2⟩ := h h0
        cases h1
        have := loadCells_inW (P := P) h2
        simpa using this
    simp only [Conv.bytesToString, Sem.run_bind, hl, Result.andThen_ok]
    rw [← Array.forIn_toList]
    rw [fold _ (fun z s => rfl) xs ByteArray.empty]
    simp only [Result.andThen_ok, Sem.run_pure, e]

theorem conv_sound {src dst : TypeId} {x : Operand} (hev : EvOk β tm ρ) (hh : Heap β bl w) (hop : o.op = .convert src dst x) (h : lop P tm bl o.op = some (vc, r)) (hv : vc = true) : Lod P β w ρ o r := by
  rw [hop] at h
  simp only [lop] at h
  split at h
  · rename_i S D hs hd'
    split at h
    · rename_i e sz b0 hk hik hkd
      split at h
      · rename_i hsz
        split at h
        · rename_i vc' xs hn
          obtain ⟨rfl, rfl⟩ := Prod.mk.inj (Option.some.inj h)
          obtain ⟨A, q, ha, h1, h2, h3, h4⟩ := numsAt_run hh (hev x) hn hv
          obtain ⟨hu, -, -⟩ := kd_slice hs hk
          have hud := kd_str hd' hkd
          have hue : P.underlying e = some (.int .u8) := by
            obtain ⟨i, d, -, hu', -, -, -, -, hik', -⟩ := ti_spec hs
            rw [hik'] at hik
            unfold ikOf at hik
            rw [hu] at hik
            simp only at hik
            cases hq : P.underlying e with
            | none => simp [hq] at hik
            | some d => cases d <;> simp [hq] at hik <;> rw [hik]
          refine ⟨.string (strOf xs), by simp only [Den, one, wfV, strOf_size, true_and]; omega, ?_⟩
          unfold execOp
          simp only [hop, ha, convert, Sem.run_bind, underlying_run w hu, underlying_run w hud, underlying_run w hue, Result.andThen_ok, toStr_run h1 h4, Sem.run_pure]
        · cases h
      · cases h
    · cases h
  · cases h

theorem slc_sound {t : TypeId} {x : Operand} {lo hi mx : Option Operand} (hev : EvOk β tm ρ) (hh : Heap β bl w) (hop : o.op = .slice t x lo hi mx) (h : lop P tm bl o.op = some (vc, r)) (hv : vc = true) : Lod P β w ρ o r := by
  rw [hop] at h
  simp only [lop] at h
  split at h
  case isFalse => cases h
  rename_i hok
  have hmx : mx = none ∨ hi ≠ none := by
    clear h
    rcases mx with _ | m
    · exact .inl rfl
    · rcases hi with _ | q
      · exfalso; revert hok; simp [okMx]
      · exact .inr (by simp)
  split at h
  · rename_i T ht
    have hd := hev x
    split at h
    · rename_i n sz hA
      split at h
      · rename_i hsz
        subst hsz
        have exec : ∀ {b p s h' M : Nat}, ρ x = .pointer (some ⟨b, p, none⟩) →
            (∀ w : World, (Instr.sliceBounds false n n (lo.map ρ) (hi.map ρ) (mx.map ρ)).run P w = .ok (s, h', M) w) →
            (execOp ρ o).run P w = .ok (.value (.slice (some (if M = s then ⟨b, p, none⟩ else ⟨b, p + s, none⟩)) (h' - s) (M - s))) w := by
          intro b p s h' M ha hrun
          unfold aOf at hA
          split at hA
          · rename_i a hk
            split at hA
            · rename_i A hA'
              split at hA
              · rename_i n0 e sz0 hkA
                simp only [Option.some.injEq, Prod.mk.injEq] at hA
                obtain ⟨rfl, rfl⟩ := hA
                obtain ⟨hua, hcz⟩ := kd_arr hA' hkA
                have hu : P.underlying t = some (.pointer a) := by
                  obtain ⟨i, d, -, hu, -, -, -, hkd, -⟩ := ti_spec ht
                  rw [hkd] at hk
                  obtain rfl := kdOf_ptr hk
                  exact hu
                unfold execOp
                simp only [hop, Instr.sliceAt, ha, Sem.run_bind, underlying_run w hu, underlying_run w hua, Result.andThen_ok, Instr.slice, asAddr, Sem.run_pure, hrun, sizeOf_pos w hcz (by decide : (1 : Nat) ≠ 0), add_lit, Nat.mul_one]
              · cases hA
            · cases hA
          · rename_i n0 e sz0 hk
            simp only [Option.some.injEq, Prod.mk.injEq] at hA
            obtain ⟨rfl, rfl⟩ := hA
            obtain ⟨hua, hcz⟩ := kd_arr ht hk
            unfold execOp
            simp only [hop, Instr.sliceAt, ha, Sem.run_bind, underlying_run w hua, Result.andThen_ok, Instr.sureAddr, Sem.run_pure, hrun, sizeOf_pos w hcz (by decide : (1 : Nat) ≠ 0), add_lit, Nat.mul_one]
          · cases hA
        split at h
        · rename_i l i w' k he
          split at h
          · rename_i c hc
            split at h
            · rename_i m hm
              split at h
              · rename_i vc' b n' c' hcut
                obtain ⟨rfl, rfl⟩ := Prod.mk.inj (Option.some.inj h)
                simp only [Bool.and_eq_true, decide_eq_true_eq] at hv
                obtain ⟨hfit, hbig, hv⟩ := hv
                rw [he] at hd
                simp only [Den] at hd
                obtain ⟨bb, s, hb, ha⟩ := hd
                have hcell : c.cell = true := by cases c <;> first | rfl | (simp at hm)
                obtain ⟨ys, sp, U, fz, hg, hs, hcs, -⟩ := heap_cells hh hc hb hcell
                have hms : m ≤ s := by
                  cases c with
                  | num k' xs => simp only [Option.some.injEq] at hm; simp only [CsDen] at hcs; have := congrArg List.length hcs.1; simp at this; omega
                  | lit cs => simp only [Option.some.injEq] at hm; have := denC_len hcs; omega
                  | _ => simp at hm
                obtain ⟨h', M, hrun, rfl, g1, g2, g3, g4, g5⟩ := cutOf_run (P := P) (b := false) (q := n) hev hmx (Nat.le_refl _) (fun m hm => Option.some.inj hm) hcut hv
                refine ⟨_, ?_, exec ha hrun⟩
                simp only [Den]
                refine ⟨_, M - b, rfl, by omega, by omega, ?_, fun hne => ⟨bb, s, hb, ?_, ?_⟩⟩
                · by_cases hm : mx = none
                  · obtain ⟨rfl, -, rfl⟩ := g4 hm; exact capIs_sub fun m hm => Option.some.inj hm
                  · obtain ⟨-, rfl⟩ := g5 hm; intro m hm; exact Option.some.inj hm
                · rw [if_neg (by omega), Nat.mul_one]
                · simp only [Option.getD_some] at g4 g5
                  omega
              · cases h
            · cases h
          · cases h
        · rename_i t' row k he
          split at h
          · rename_i m kk xs rest hdr
            split at h
            · rename_i hm
              split at h
              · rename_i vc' b n' c' hcut
                obtain ⟨rfl, rfl⟩ := Prod.mk.inj (Option.some.inj h)
                simp only [Bool.and_eq_true, decide_eq_true_eq] at hv
                obtain ⟨hbig, hv⟩ := hv
                rw [he] at hd
                simp only [Den] at hd
                obtain ⟨bb, o0, ys, ha, h4, h5⟩ := hd
                obtain ⟨zs, h6, h7, h8⟩ := dr_chunk h4 hdr
                have hc : Cells (β.fz t') bb (o0 + k) (xs.map (.int kk)) := cells_of_eq (cells_drop h5 k) fun q v hq => by
                  rw [h6, List.getElem?_append_left (List.getElem?_eq_some_iff.1 hq).1]; exact hq
                obtain ⟨h', M, hrun, rfl, g1, g2, g3, g4, g5⟩ := cutOf_run (P := P) (b := false) (q := n) hev hmx (Nat.le_refl _) (fun m hm => Option.some.inj hm) hcut hv
                have hlen : ((xs.drop b).take (h' - b)).length = h' - b := by simp; omega
                refine ⟨_, ?_, exec ha hrun⟩
                simp only [Den]
                refine ⟨_, M - b, by rw [hlen], by omega, by omega, ?_, okN_take (okN_drop h8 _) _, fun hne => ⟨bb, o0 + k + b, by rw [if_neg (by omega)], ?_⟩⟩
                · by_cases hm : mx = none
                  · obtain ⟨rfl, -, rfl⟩ := g4 hm; exact capIs_sub fun m hm => Option.some.inj hm
                  · obtain ⟨-, rfl⟩ := g5 hm; intro m hm; exact Option.some.inj hm
                · rw [List.map_take, List.map_drop]
                  exact cells_take (cells_drop hc b) _
              · cases h
            · cases h
          · cases h
        · cases h
      · cases h
    · cases h
  · cases h

/-- Every operation that reads memory. -/
theorem lop_sound (hev : EvOk β tm ρ) (hh : Heap β bl w) (h : lop P tm bl o.op = some (vc, r)) (hv : vc = true) : Lod P β w ρ o r := by
  cases hop : o.op with
  | load t x => exact load_sound hev hh hop h hv
  | convert src dst x => exact conv_sound hev hh hop h hv
  | slice t x lo hi mx => exact slc_sound hev hh hop h hv
  | _ => rw [hop] at h; simp [lop] at h

/-- What is read depends on the level that is read alone. -/
theorem lop_congr {bl' : Bls} {o : Op} (h : ∀ l ∈ rdl tm o, lvl bl' l = lvl bl l) : lop P tm bl' o = lop P tm bl o := by
  cases o with
  | load t a =>
    simp only [rdl] at h
    simp only [lop]
    split
    · split
      · rename_i he; simp only [he, List.mem_singleton, forall_eq] at h; rw [h]
      · rfl
      · rfl
    · rfl
  | convert s d x =>
    simp only [rdl] at h
    have : ∀ k, numsAt k bl' (ev tm x) = numsAt k bl (ev tm x) := fun k => by
      cases he : ev tm x <;> simp only [numsAt]
      simp only [he, List.mem_singleton, forall_eq] at h; rw [h]
    simp only [lop, this]
  | slice t x lo hi mx =>
    simp only [rdl] at h
    simp only [lop]
    split
    · split
      · split
        · split
          · split
            · rename_i he; simp only [he, List.mem_singleton, forall_eq] at h; rw [h]
            · rfl
            · rfl
          · rfl
        · rfl
      · rfl
    · rfl
  | _ => rfl

end

end Go.SY
