/-
  The symbolic machine: the last operations; all of them; the run.
-/
import Derived.Test.YtconldbakjfbhaaSx9
set_option linter.unusedSimpArgs false
set_option linter.unusedVariables false
namespace Go.SX
open Go

section
variable {P : Program} {β : Env} {n : Nat} {tm : List (Nat × AV)} {bl bl' : Bls} {a : Act} {w : World} {o : Oper} {vc : Prop} {r : AV} {W : List Nat}

theorem den_v {x : Value} (h : one x = true) : Den β (.v x) x := by simp only [Den, true_and]; exact h

theorem buildSlice_sound {t : TypeId} {m : Nat} {parts : Array (Nat × Operand)} (htm : TmOk β n tm a) (hh : Heap β bl w) (hop : o.op = .buildSlice t m parts) (h : sop P tm bl o.op = .det vc r bl') : Same P β bl a w W o r bl' := by
  rw [hop] at h
  simp only [sop] at h
  split at h
  · rename_i T ht
    split at h
    · rename_i e sz b hk
      split at h
      · cases h
      · rename_i hsz
        split at h
        · rename_i E hE
          split at h
          · rename_i z hz
            split at h
            · rename_i hbig
              split at h
              · rename_i hzl
                split at h
                · rename_i hone
                  split at h
                  · rename_i cs hcs
                    split at h
                    · rename_i r' hf
                      obtain ⟨hu, hcz, -⟩ := kd_slice ht hk
                      obtain ⟨i, d, hi, -, -, -, -, -, hz'⟩ := ti_spec hE
                      rw [hz] at hz'
                      cases hzz : i.zero with
                      | none => simp [hzz] at hz'
                      | some v =>
                        rw [hzz] at hz'
                        simp only [Option.map_some, Option.some.injEq] at hz'
                        have hc := chunk_sound (β := β) (fun x hx => List.all_eq_true.1 hone x hx) hcs
                        obtain ⟨zs, h1, h2, h3⟩ := fillA_sound htm (rep_sound hc m) hf
                        have ec : v.cells = z.toArray := by rw [hz']
                        have fin : ∀ c : Ct, CtDen β c zs → Same P β bl a w W o (.sl bl.length 0 sz m m) (bl ++ [some ⟨true, e, c⟩]) := by
                          intro c hcd
                          have hm := Heap.make hh e (0, 0) (c := c) (ys := zs) nofz hcd (w' := { w with heap := w.heap.push (.cells zs.toArray e) }) (by simp) rfl rfl rfl
                          refine ⟨.slice (some ⟨w.heap.size, 0, none⟩) m m, _, _, .inl ?_, ?_, hm.2.2.2, hm.1, hm.2.1.mono (fun _ h => h.elim), hm.2.2.1⟩
                          · have e2 : (parts.map fun x => (x.1, a.eval x.2)).toList = parts.toList.map fun p => (p.1, a.eval p.2) := by simp
                            have hnb : ¬ (m * sz > 2 ^ 24) := by
                              have : (2 : Nat) ^ 24 = 16777216 := by decide
                              omega
                            unfold execOp
                            simp only [hop, Instr.buildSlice, Sem.run_bind, underlying_run w hu, Result.andThen_ok, sizeOf_pos w hcz hsz, hnb, if_false, Sem.run_pure]
                            by_cases h0 : m * sz = 0
                            · have hm0 : m = 0 := by
                                rcases Nat.mul_eq_zero.1 h0 with h | h
                                · exact h
                                · exact absurd h hsz
                              subst hm0
                              simp only [List.replicate_zero, List.flatten_nil] at h3
                              simp only [Nat.zero_mul, if_true, Sem.run_bind, Sem.run_pure, Result.andThen_ok]
                              rw [show ((Array.range 0).map fun j => (#[] : Array Value)[j % (#[] : Array Value).size]!) = #[] by simp, e2]
                              rw [show (#[] : Array Value) = ([] : List Value).toArray from rfl, h3]
                              simp only [newRow, Sem.run_bind, run_newObj, Result.andThen_ok, Sem.run_pure]
                            · simp only [h0, if_false, Sem.run_bind, zeroValue, typeInfo, hi, run_program, Result.andThen_ok, Sem.run_pure, hzz]
                              rw [ec, ← hzl, rows_zero z m (by omega), e2, hzl, h3]
                              simp only [newRow, Sem.run_bind, run_newObj, Result.andThen_ok, Sem.run_pure]
                          · simp only [Den]
                            refine ⟨_, rfl, Nat.le_refl _, fun _ => ⟨w.heap.size, 0, by rw [← hh.len]; simp, by simp⟩⟩
                        split at h
                        · rename_i k hk'
                          split at h
                          · rename_i xs hx
                            obtain ⟨rfl, rfl, rfl⟩ := Out.det.inj h
                            exact fin (.num k xs) (numsAV_sound h1 hx)
                          · cases h
                        · obtain ⟨rfl, rfl, rfl⟩ := Out.det.inj h
                          exact fin (.lit r') h1
                    · cases h
                  · cases h
                · cases h
              · cases h
            · cases h
          · cases h
        · cases h
    · cases h
  · cases h

theorem makeFunc_sound {fn : Fn} {fst cap : Array Operand} (htm : TmOk β n tm a) (hop : o.op = .makeFunc fn fst cap) (h : sop P tm bl o.op = .det vc r bl') : Pur P β a o r ∧ bl' = bl := by
  rw [hop] at h
  simp only [sop] at h
  split at h
  · rename_i f
    obtain ⟨rfl, rfl, rfl⟩ := Out.det.inj h
    refine ⟨⟨.func (.func f) (fst.map a.eval) (cap.map a.eval), ?_, fun w => ?_⟩, rfl⟩
    rotate_left
    · unfold execOp
      simp only [hop, Instr.makeFunc, Sem.run_bind, Sem.run_pure, Result.andThen_ok]
    · simp only [Den]
      have e1 : ∀ q : Array Operand, q.map a.eval = (q.toList.map a.eval).toArray := fun q => by apply Array.ext'; simp
      exact ⟨fst.toList.map a.eval, cap.toList.map a.eval, by rw [e1, e1], denL_map htm _, denL_map htm _⟩
  · cases h

theorem extract_sound {x : Operand} {i : Nat} (htm : TmOk β n tm a) (hop : o.op = .extract x i) (h : sop P tm bl o.op = .det vc r bl') : Pur P β a o r ∧ bl' = bl := by
  rw [hop] at h
  simp only [sop] at h
  split at h
  · rename_i xs he
    split at h
    · rename_i x' hx
      obtain ⟨rfl, rfl, rfl⟩ := Out.det.inj h
      have hd := den_ev htm x
      rw [he] at hd
      simp only [Den] at hd
      obtain ⟨ys, hy, hl⟩ := hd
      rw [nth_eq] at hx
      obtain ⟨y, h1, h2⟩ := denL_get hl hx
      refine ⟨⟨y, h2, fun w => ?_⟩, rfl⟩
      unfold execOp
      simp [hop, Instr.extract, hy, h1]
    · cases h
  · cases h

theorem isAgg_run {t : TypeId} {n : Nat} (h : P.cellsOf t = n) (hn : n ≠ 0) (hu : P.underlying t ≠ none) : (isAgg t).run P w = .ok (agOf P t) w := by
  cases hd : P.underlying t with
  | none => exact absurd hd hu
  | some d =>
    simp only [isAgg, Sem.run_bind, underlying_run w hd, Result.andThen_ok, agOf, hd]
    cases d <;> rfl

theorem isAgg_agg {t : TypeId} (h : agOf P t = true) : (isAgg t).run P w = .ok true w := by
  unfold agOf at h
  cases hd : P.underlying t with
  | none => simp [hd] at h
  | some d =>
    simp only [hd] at h
    simp only [isAgg, Sem.run_bind, underlying_run w hd, Result.andThen_ok]
    cases d <;> first | rfl | (simp [aggD] at h)

theorem len_sound {args : Array Operand} {argTypes : Array TypeId} (htm : TmOk β n tm a) (hop : o.op = .call { callee := .builtin .len, args, argTypes }) (h : sop P tm bl o.op = .det vc r bl') : Pur P β a o r ∧ bl' = bl := by
  rw [hop] at h
  simp only [sop] at h
  split at h
  · rename_i x t hx htl
    have hx' : args = #[x] := by apply Array.ext'; simpa using hx
    have ht' : argTypes = #[t] := by apply Array.ext'; simpa using htl
    subst hx'; subst ht'
    split at h
    · rename_i T ht
      have hd := den_ev htm x
      have run : ∀ (w : World) (m : Int), (Builtin.len_ #[t] o.type #[a.eval x]).run P w = .ok (.int .i64 m) w → (execOp a.eval o).run P w = .ok (.value (.int .i64 m)) w := by
        intro w m hm
        unfold execOp
        simp only [hop, Sem.run_bind, resolve, Sem.run_pure, Result.andThen_ok, invoke, builtin, List.map_toArray, List.map_cons, List.map_nil, hm]
      split at h
      · rename_i hk he
        obtain ⟨rfl, rfl, rfl⟩ := Out.det.inj h
        obtain ⟨hu, -, -⟩ := kd_slice ht hk
        rw [he] at hd
        simp only [Den] at hd
        obtain ⟨A, ha, -⟩ := hd
        refine ⟨⟨_, den_v rfl, fun w => run w _ ?_⟩, rfl⟩
        simp [Builtin.len_, ha, underlying_run w hu, goInt]
      · rename_i hk he
        obtain ⟨rfl, rfl, rfl⟩ := Out.det.inj h
        obtain ⟨hu, -, -⟩ := kd_slice ht hk
        rw [he] at hd
        simp only [Den] at hd
        refine ⟨⟨_, den_v rfl, fun w => run w _ ?_⟩, rfl⟩
        simp [Builtin.len_, hd, underlying_run w hu, goInt]
      · rename_i s hk he
        obtain ⟨rfl, rfl, rfl⟩ := Out.det.inj h
        have hu := kd_str ht hk
        rw [he] at hd
        simp only [Den] at hd
        refine ⟨⟨_, den_v rfl, fun w => run w _ ?_⟩, rfl⟩
        simp [Builtin.len_, hd.1, underlying_run w hu, goInt]
      · rename_i hk
        obtain ⟨rfl, rfl, rfl⟩ := Out.det.inj h
        obtain ⟨hu, -⟩ := kd_arr ht hk
        refine ⟨⟨_, den_v rfl, fun w => run w _ ?_⟩, rfl⟩
        simp [Builtin.len_, underlying_run w hu, goInt]
      · cases h
    · cases h
  · cases h

theorem cap_sound {args : Array Operand} {argTypes : Array TypeId} (htm : TmOk β n tm a) (hop : o.op = .call { callee := .builtin .cap, args, argTypes }) (h : sop P tm bl o.op = .det vc r bl') : Pur P β a o r ∧ bl' = bl := by
  rw [hop] at h
  simp only [sop] at h
  split at h
  · rename_i x t hx htl
    have hx' : args = #[x] := by apply Array.ext'; simpa using hx
    have ht' : argTypes = #[t] := by apply Array.ext'; simpa using htl
    subst hx'; subst ht'
    split at h
    · rename_i T ht
      have hd := den_ev htm x
      have run : ∀ (w : World) (m : Int), (Builtin.cap_ #[t] o.type #[a.eval x]).run P w = .ok (.int .i64 m) w → (execOp a.eval o).run P w = .ok (.value (.int .i64 m)) w := by
        intro w m hm
        unfold execOp
        simp only [hop, Sem.run_bind, resolve, Sem.run_pure, Result.andThen_ok, invoke, builtin, List.map_toArray, List.map_cons, List.map_nil, hm]
      split at h
      · rename_i hk he
        obtain ⟨rfl, rfl, rfl⟩ := Out.det.inj h
        obtain ⟨hu, -, -⟩ := kd_slice ht hk
        rw [he] at hd
        simp only [Den] at hd
        obtain ⟨A, ha, -⟩ := hd
        refine ⟨⟨_, den_v rfl, fun w => run w _ ?_⟩, rfl⟩
        simp [Builtin.cap_, ha, underlying_run w hu, goInt]
      · rename_i hk he
        obtain ⟨rfl, rfl, rfl⟩ := Out.det.inj h
        obtain ⟨hu, -, -⟩ := kd_slice ht hk
        rw [he] at hd
        simp only [Den] at hd
        refine ⟨⟨_, den_v rfl, fun w => run w _ ?_⟩, rfl⟩
        simp [Builtin.cap_, hd, underlying_run w hu, goInt]
      · cases h
    · cases h
  · cases h

theorem move_sound {x : Operand} (htm : TmOk β n tm a) (hop : o.op = .move x ∨ o.op = .assign x) (h : sop P tm bl o.op = .det vc r bl') : Pur P β a o r ∧ bl' = bl := by
  have he : sop P tm bl o.op = .det True (ev tm x) bl := by rcases hop with h | h <;> rw [h] <;> rfl
  rw [he] at h
  obtain ⟨rfl, rfl, rfl⟩ := Out.det.inj h
  refine ⟨⟨a.eval x, den_ev htm x, fun w => ?_⟩, rfl⟩
  unfold execOp
  rcases hop with hop | hop <;> simp only [hop, Sem.run_pure]

theorem pick_sound {c x y : Operand} (htm : TmOk β n tm a) (hop : o.op = .pick c x y) (h : sop P tm bl o.op = .det vc r bl') : Pur P β a o r ∧ bl' = bl := by
  rw [hop] at h
  simp only [sop] at h
  split at h
  · rename_i t he
    obtain ⟨rfl, rfl, rfl⟩ := Out.det.inj h
    have hd := den_ev htm c
    rw [he] at hd
    simp only [Den] at hd
    refine ⟨⟨if t = true then a.eval x else a.eval y, ?_, fun w => ?_⟩, rfl⟩
    rotate_left
    · unfold execOp
      simp only [hop, hd.1, asBool, Sem.run_bind, Sem.run_pure, Result.andThen_ok]
    · cases t
      · exact den_ev htm y
      · exact den_ev htm x
  · cases h

theorem part_run {t : TypeId} {sz : Nat} (hc : P.cellsOf t = sz) (hsz : sz ≠ 0) (hu : (P.underlying t).isSome = true) (cs : Array Value) (off : Nat) :
    (part t cs off).run P w = if agOf P t = true then .ok (.agg (cs.extract off (off + sz))) w else (match cs[off]? with
      | some v => .ok v w
      | none => (stuck "part: no such cell" : Sem Value).run P w) := by
  have h1 := isAgg_run (w := w) hc hsz (by intro h; rw [h] at hu; cases hu)
  simp only [part, Sem.run_bind, h1, Result.andThen_ok, Sem.run_ite, sizeOf_pos w hc hsz, Sem.run_pure]
  split
  · rfl
  · cases cs[off]? <;> rfl

theorem field_sound {t : TypeId} {x : Operand} {f : Nat} (htm : TmOk β n tm a) (hop : o.op = .field t x f) (h : sop P tm bl o.op = .det vc r bl') : Pur P β a o r ∧ bl' = bl := by
  rw [hop] at h
  simp only [sop] at h
  split at h
  · rename_i T ht
    split at h
    · rename_i fs xs hk he
      split at h
      · rename_i off sz ag hf
        split at h
        · cases h
        · rename_i hsz
          obtain ⟨fields, hu, hfs, hall⟩ := kd_struct ht hk
          obtain ⟨fl, h1, rfl, h3, h4⟩ := fields_at hfs hf
          have hd := den_ev htm x
          rw [he] at hd
          simp only [Den] at hd
          obtain ⟨ys, ha, hc⟩ := hd
          have hus : (P.underlying fl.type).isSome = true := hall fl (List.mem_of_getElem? (by simpa using h1))
          have hp := fun w : World => part_run (w := w) h3 hsz hus ys.toArray fl.offset
          have run : ∀ (w : World) y, (part fl.type ys.toArray fl.offset).run P w = .ok y w → (execOp a.eval o).run P w = .ok (.value y) w := by
            intro w y hy
            unfold execOp
            simp only [hop, ha, Instr.field, Sem.run_bind, underlying_run w hu, Result.andThen_ok, h1, asAgg, Sem.run_pure, hy]
          split at h
          · rename_i hag
            simp only [if_pos (h4.trans hag)] at hp
            split at h
            · rename_i c1 hc1
              split at h
              · rename_i c2 hc2
                obtain ⟨rfl, rfl, rfl⟩ := Out.det.inj h
                obtain ⟨-, g1⟩ := denC_dr hc hc1
                obtain ⟨-, g2⟩ := denC_tk g1 hc2
                refine ⟨⟨_, ?_, fun w => run w _ (hp w)⟩, rfl⟩
                simp only [Den]
                refine ⟨_, ?_, g2⟩
                simp [List.extract_eq_take_drop]
              · cases h
            · cases h
          · rename_i hag
            simp only [if_neg (fun e => hag (h4.symm.trans e))] at hp
            split at h
            · rename_i r' hr
              obtain ⟨rfl, rfl, rfl⟩ := Out.det.inj h
              have hcs : ∃ y, ys[fl.offset]? = some y ∧ Den β r' y := by
                unfold at1 at hr
                split at hr
                · rename_i n' xs' rest hd
                  split at hr
                  · rename_i hn0
                    obtain rfl := Option.some.inj hr
                    obtain ⟨g3, g4⟩ := denC_dr hc hd
                    simp only [DenC, CellDen] at g4
                    obtain ⟨ps, zs, g5, ⟨rfl, hn, ho⟩, -⟩ := g4
                    have hlt : 0 < ps.length := by omega
                    refine ⟨ps[0], ?_, ?_⟩
                    · have := congrArg (fun l => l[0]?) g5
                      simpa [List.getElem?_append_left hlt, List.getElem?_eq_getElem hlt] using this
                    · simp only [Den, List.getElem?_eq_getElem hlt, Option.getD_some, true_and]
                      exact ho _ (List.getElem_mem hlt)
                  · cases hr
                · rename_i c0 rest hnc hd
                  obtain rfl := Option.some.inj hr
                  obtain ⟨g3, g4⟩ := denC_dr hc hd
                  simp only [DenC] at g4
                  obtain ⟨ps, zs, g5, g6, -⟩ := g4
                  have hw : wid c0 = 1 := by cases c0 <;> first | rfl | exact absurd rfl (hnc _ _)
                  have hl := cellDen_len g6
                  rw [hw] at hl
                  obtain ⟨y, rfl⟩ := List.length_eq_one_iff.1 hl
                  refine ⟨y, ?_, ?_⟩
                  · have := congrArg (fun l => l[0]?) g5
                    simpa using this
                  · cases c0 with
                    | any => simp only [Den]
                    | agg xs => simp only [CellDen] at g6
                    | tup xs => simp only [CellDen] at g6
                    | ch n xs => exact absurd rfl (hnc _ _)
                    | _ =>
                      obtain ⟨y', he, hd⟩ := den_of_cellDen rfl g6
                      obtain rfl := List.cons.inj he |>.1
                      exact hd
                · cases hr
              obtain ⟨y, g1, g2⟩ := hcs
              simp only [show ys.toArray[fl.offset]? = some y by simpa using g1] at hp
              exact ⟨⟨y, g2, fun w => run w _ (hp w)⟩, rfl⟩
            · cases h
      · cases h
    · cases h
  · cases h

/-- Every operation that the symbolic machine runs. -/
theorem sop_sound (htm : TmOk β n tm a) (hh : Heap β bl w) (h : sop P tm bl o.op = .det vc r bl') (hv : vc) : Same P β bl a w (sopW tm o.op) o r bl' := by
  cases hop : o.op with
  | move x => exact Same.pur hh <| move_sound htm (.inl hop) h
  | assign x => exact Same.pur hh <| move_sound htm (.inr hop) h
  | pick c x y => exact Same.pur hh <| pick_sound htm hop h
  | alloc t => exact alloc_sound hh hop h
  | box t x => exact box_sound htm hh hop h
  | build t parts => exact Same.pur hh <| build_sound htm hop h
  | buildSlice t m parts => exact buildSlice_sound htm hh hop h
  | load t x => exact load_sound htm hh hop h hv
  | store t x y => have h1 := store_sound htm hh hop h hv; rwa [hop] at h1
  | nilCheck x => exact Same.pur hh <| nilCheck_sound htm hop h hv
  | binOp op t x y u => exact Same.pur hh <| binOp_sound htm hop h hv
  | unOp op t x => exact Same.pur hh <| unOp_sound htm hop h hv
  | convert src dst x => exact Same.pur hh <| convert_sound htm hop h
  | makeFunc fn fst cap => exact Same.pur hh <| makeFunc_sound htm hop h
  | fieldAddr s x f => exact Same.pur hh <| fieldAddr_sound htm hop h
  | indexAddr t x ix => exact Same.pur hh <| indexAddr_sound htm hop h hv
  | slice t x lo hi mx =>
    exact Same.pur hh <| slice_sound htm hop h hv
  | extract x i => exact Same.pur hh <| extract_sound htm hop h
  | call c =>
    obtain ⟨cal, args, ats⟩ := c
    cases cal with
    | builtin b =>
      cases b with
      | len => exact Same.pur hh <| len_sound htm hop h
      | cap => exact Same.pur hh <| cap_sound htm hop h
      | _ => rw [hop] at h; simp [sop] at h
    | _ => rw [hop] at h; simp [sop] at h
  | field t x f => exact Same.pur hh <| field_sound htm hop h
  | _ => rw [hop] at h; simp [sop] at h

end

end Go.SX
