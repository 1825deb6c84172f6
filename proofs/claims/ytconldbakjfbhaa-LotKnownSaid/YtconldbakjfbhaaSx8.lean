/-
  The symbolic machine: every operation that it runs is sound; the run.
-/
import Derived.Test.YtconldbakjfbhaaSx7
set_option linter.unusedSimpArgs false
set_option linter.unusedVariables false
namespace Go.SX
open Go

section
variable {P : Program} {β : Env} {n : Nat} {tm : List (Nat × AV)} {bl bl' : Bls} {a : Act} {w : World} {o : Oper} {vc : Prop} {r : AV} {W : List Nat}

theorem heap_blk (hh : Heap β bl w) {l b o0 : Nat} {B : Blk} (hB : lvl bl l = some B) (hb : β[l]? = some (some (b, o0))) :
    ∃ ys cs T fz, CtDen β B.ct ys ∧ w.heap[b]? = some (.cells cs T fz) ∧ (∀ j, j < ys.length → cs[o0 + j]? = ys[j]?) ∧
      (B.own = true → o0 = 0 ∧ cs = ys.toArray ∧ T = B.ty ∧ ∀ j, fz.1 ≤ j → j < fz.2 → ys.length ≤ j) := by
  obtain ⟨base, hbase, ys, hc, hin⟩ := hh.lv l B (lvl_get hB)
  rw [hb] at hbase
  obtain rfl := Option.some.inj hbase
  obtain ⟨cs, T, fz, h1, h2, h3⟩ := hin
  exact ⟨ys, cs, T, fz, hc, h1, h2, h3⟩

theorem load_sound {t : TypeId} {x : Operand} (htm : TmOk β n tm a) (hh : Heap β bl w) (hop : o.op = .load t x) (h : sop P tm bl o.op = .det vc r bl') (hv : vc) : Same P β bl a w W o r bl' := by
  rw [hop] at h
  simp only [sop] at h
  split at h
  · rename_i T l i w' k ht he
    split at h
    · rename_i B hB
      split at h
      · rename_i vc' r' hr
        obtain ⟨rfl, rfl, rfl⟩ := Out.det.inj h
        have hd := den_ev htm x
        rw [he] at hd
        simp only [Den] at hd
        obtain ⟨b, o0, hb, ha⟩ := hd
        obtain ⟨ys, cs, U, fz, hc, hg, hcs, -⟩ := heap_blk hh hB hb
        have hs := rdCt_sound hc hr hv
        have hrun : ∀ y, (loadVar t ⟨b, o0 + (i * w' + k), none⟩).run P w = .ok y w → (execOp a.eval o).run P w = .ok (.value y) w := by
          intro y hy
          unfold execOp
          simp only [hop, Instr.loadAt, ha, Instr.sureAddr, Sem.run_bind, Sem.run_pure, Result.andThen_ok, hy]
        by_cases hag : T.ag = true
        · rw [if_pos hag] at hs
          exact Same.pure hh (hrun _ (loadVar_agg ht hag hg hcs hs.1)) hs.2
        · rw [if_neg hag] at hs
          obtain ⟨y, h1, h2⟩ := hs
          exact Same.pure hh (hrun _ (loadVar_one ht (by simpa using hag) hg hcs h1)) h2
      · cases h
    · cases h
  · cases h

theorem store_sound {t : TypeId} {x y : Operand} (htm : TmOk β n tm a) (hh : Heap β bl w) (hop : o.op = .store t x y) (h : sop P tm bl o.op = .det vc r bl') (hv : vc) : Same P β bl a w (sopW tm o.op) o r bl' := by
  rw [hop] at h
  simp only [sop] at h
  split at h
  · rename_i T l i w' k ht he
    split at h
    · rename_i B hB
      split at h
      · rename_i hown
        split at h
        · rename_i vc' c' hr
          obtain ⟨rfl, rfl, rfl⟩ := Out.det.inj h
          have hd := den_ev htm x
          rw [he] at hd
          simp only [Den] at hd
          obtain ⟨b, o0, hb, ha⟩ := hd
          obtain ⟨ys, cs, U, fz, hc, hg, hcs, ho⟩ := heap_blk hh hB hb
          obtain ⟨rfl, rfl, rfl, hfz⟩ := ho hown
          obtain ⟨h1, h2, h3, h4⟩ := wrCt_sound hc (den_ev htm y) hr hv
          have hst := storeVar_run (P := P) (y := a.eval y) ht hg hfz h1 h2 h3
          have hw := Heap.write hh (lvl_get hB) hown hb hc ⟨fz, hg, hfz⟩ h4 (by simp; simp at h1; omega)
          have hrun : (execOp a.eval o).run P w = .ok .skip (w.setRow b (ys.take (i * w' + k) ++ ((a.eval y).cells.toList ++ ys.drop (i * w' + k + T.sz))).toArray) := by
            unfold execOp
            simp only [hop, Instr.storeAt, ha, Instr.sureAddr, Sem.run_bind, Sem.run_pure, Result.andThen_ok]
            rw [Nat.zero_add, hst]
            rfl
          refine ⟨undef, _, β, .inr ⟨rfl, hrun⟩, by simp [Den], List.prefix_refl _, ?_, hw.2.1.mono (fun b hb => by rw [hop]; simp only [sopW, he]; exact hb), fun b hb => .inl (hw.2.2 b ?_)⟩
          · rw [setl_set]; exact hw.1
          · rw [setl_set] at hb; exact hb
        · cases h
      · cases h
    · cases h
  · cases h

theorem zeroCt_sound {T : TI} {t : TypeId} {c : Ct} (ht : ti P t = some T) (h : zeroCt P T = some c) : ∃ z : Value, (zeroValue t).run P w = .ok z w ∧ CtDen β c z.cells.toList := by
  obtain ⟨i, d, hi, -, -, -, -, -, hz⟩ := ti_spec ht
  unfold zeroCt at h
  split at h
  · cases h
  · rename_i z hz'
    rw [hz'] at hz
    cases hzz : i.zero with
    | none => simp [hzz] at hz
    | some v =>
      rw [hzz] at hz
      simp only [Option.map_some, Option.some.injEq] at hz
      refine ⟨v, by simp [zeroValue, typeInfo, hi, hzz], ?_⟩
      rw [← hz]
      split at h
      · split at h
        · split at h
          · split at h
            · rename_i xs hx
              obtain rfl := Option.some.inj h
              simp only [CtDen]
              exact numsV_sound hx
            · cases h
          · cases h
        · cases h
      · split at h
        · rename_i hone
          split at h
          · rename_i cs hcs
            obtain rfl := Option.some.inj h
            simp only [CtDen]
            exact chunk_sound (fun x hx => List.all_eq_true.1 hone x hx) hcs
          · cases h
        · cases h

theorem nofz {L : Nat} (j : Nat) (_ : (0, 0).1 ≤ j) (h : j < (0, 0).2) : L ≤ j := by simp at h

theorem alloc_sound {t : TypeId} (hh : Heap β bl w) (hop : o.op = .alloc t) (h : sop P tm bl o.op = .det vc r bl') : Same P β bl a w W o r bl' := by
  rw [hop] at h
  simp only [sop] at h
  split at h
  · rename_i T ht
    split at h
    · rename_i c hc
      obtain ⟨rfl, rfl, rfl⟩ := Out.det.inj h
      obtain ⟨z, hz, hd⟩ := zeroCt_sound (w := w) (β := β) ht hc
      have hm := Heap.make hh t (0, 0) (ys := z.cells.toList) nofz hd (w' := { w with heap := w.heap.push (.cells z.cells t) }) (by simp) rfl rfl rfl
      refine ⟨.pointer (some ⟨w.heap.size, 0, none⟩), _, _, .inl ?_, ?_, hm.2.2.2, hm.1, hm.2.1.mono (fun _ h => h.elim), hm.2.2.1⟩
      · unfold execOp
        simp only [hop, Instr.alloc, Sem.run_bind, hz, Result.andThen_ok, newVar, newRow, run_newObj, Sem.run_pure]
      · simp only [Den]
        exact ⟨w.heap.size, 0, by rw [← hh.len]; simp, by simp⟩
    · cases h
  · cases h

theorem box_sound {t : TypeId} {x : Operand} (htm : TmOk β n tm a) (hh : Heap β bl w) (hop : o.op = .box t x) (h : sop P tm bl o.op = .det vc r bl') : Same P β bl a w W o r bl' := by
  rw [hop] at h
  simp only [sop] at h
  split at h
  · rename_i T ht
    split at h
    · rename_i fs hf
      obtain ⟨rfl, rfl, rfl⟩ := Out.det.inj h
      obtain ⟨hd, -⟩ := den_flat (den_ev htm x) hf
      have hm := Heap.make hh t (0, 0) (c := .lit fs) (ys := (a.eval x).cells.toList) nofz hd (w' := { w with heap := w.heap.push (.cells (a.eval x).cells t) }) (by simp) rfl rfl rfl
      refine ⟨.pointer (some ⟨w.heap.size, 0, none⟩), _, _, .inl ?_, ?_, hm.2.2.2, hm.1, hm.2.1.mono (fun _ h => h.elim), hm.2.2.1⟩
      · unfold execOp
        simp only [hop, Instr.box, Sem.run_bind, Result.andThen_ok, newVar, newRow, run_newObj, Sem.run_pure]
      · simp only [Den]
        exact ⟨w.heap.size, 0, by rw [← hh.len]; simp, by simp⟩
    · cases h
  · cases h

theorem kd_struct {T : TI} {t : TypeId} {fs : List (Nat × Nat × Bool)} (ht : ti P t = some T) (hk : T.kd = .struct fs) : ∃ fields : Array Field, P.underlying t = some (.struct fields) ∧
    (fs = fields.toList.map fun f => (f.offset, P.cellsOf f.type, agOf P f.type)) ∧ ∀ f ∈ fields.toList, (P.underlying f.type).isSome = true := by
  obtain ⟨i, d, -, hu, -, -, -, hkd, -⟩ := ti_spec ht
  rw [hkd] at hk
  cases d <;> simp only [kdOf] at hk <;> try (cases hk; done)
  rename_i fields
  split at hk
  · rename_i hall
    exact ⟨fields, hu, (KD.struct.inj hk).symm, fun f hf => List.all_eq_true.1 hall f hf⟩
  · cases hk

theorem kd_slice {T : TI} {t e : TypeId} {sz b : Nat} (ht : ti P t = some T) (hk : T.kd = .slice e sz b) : P.underlying t = some (.slice e) ∧ P.cellsOf e = sz ∧ P.bytesOf e = b := by
  obtain ⟨i, d, -, hu, -, -, -, hkd, -⟩ := ti_spec ht
  rw [hkd] at hk
  obtain ⟨rfl, h1, h2⟩ := kdOf_slice hk
  exact ⟨hu, h1, h2⟩

theorem kd_arr {T : TI} {t e : TypeId} {m sz : Nat} (ht : ti P t = some T) (hk : T.kd = .arr m e sz) : P.underlying t = some (.array m e) ∧ P.cellsOf e = sz := by
  obtain ⟨i, d, -, hu, -, -, -, hkd, -⟩ := ti_spec ht
  rw [hkd] at hk
  obtain ⟨rfl, h1⟩ := kdOf_arr hk
  exact ⟨hu, h1⟩

theorem kd_str {T : TI} {t : TypeId} (ht : ti P t = some T) (hk : T.kd = .str) : P.underlying t = some .string := by
  obtain ⟨i, d, -, hu, -, -, -, hkd, -⟩ := ti_spec ht
  rw [hkd] at hk
  obtain rfl := kdOf_str hk
  exact hu

theorem kd_int {T : TI} {t : TypeId} {k : IntKind} (ht : ti P t = some T) (hk : T.kd = .int k) : P.underlying t = some (.int k) := by
  obtain ⟨i, d, -, hu, -, -, -, hkd, -⟩ := ti_spec ht
  rw [hkd] at hk
  obtain rfl := kdOf_int hk
  exact hu

theorem fields_at {fields : Array Field} {fs : List (Nat × Nat × Bool)} (hfs : fs = fields.toList.map fun f => (f.offset, P.cellsOf f.type, agOf P f.type)) {f o sz : Nat} {ag : Bool}
    (h : nth fs f = some (o, sz, ag)) : ∃ fl : Field, fields[f]? = some fl ∧ fl.offset = o ∧ P.cellsOf fl.type = sz ∧ agOf P fl.type = ag := by
  subst hfs
  rw [nth_eq, List.getElem?_map] at h
  cases hf : fields.toList[f]? with
  | none => simp [hf] at h
  | some fl =>
    simp only [hf, Option.map_some, Option.some.injEq, Prod.mk.injEq] at h
    exact ⟨fl, by simpa using hf, h.1, h.2.1, h.2.2⟩

theorem fieldAddr_sound {s : TypeId} {x : Operand} {f : Nat} (htm : TmOk β n tm a) (hop : o.op = .fieldAddr s x f) (h : sop P tm bl o.op = .det vc r bl') : Pur P β a o r ∧ bl' = bl := by
  rw [hop] at h
  simp only [sop] at h
  split at h
  · rename_i T ht
    split at h
    · rename_i fs l i w' k hk he
      split at h
      · rename_i off sz ag hf
        split at h
        · cases h
        · rename_i hsz
          obtain ⟨rfl, rfl, rfl⟩ := Out.det.inj h
          obtain ⟨fields, hu, hfs, -⟩ := kd_struct ht hk
          obtain ⟨fl, h1, rfl, h3, -⟩ := fields_at hfs hf
          have hd := den_ev htm x
          rw [he] at hd
          simp only [Den] at hd
          obtain ⟨b, o0, hb, ha⟩ := hd
          refine ⟨⟨.pointer (some ⟨b, o0 + (i * w' + (k + fl.offset)), none⟩), (by simp only [Den]; exact ⟨b, o0, hb, rfl⟩), fun w => ?_⟩, rfl⟩
          unfold execOp
          simp only [hop, Instr.fieldAt, ha, Instr.sureAddr, Sem.run_bind, underlying_run w hu, Result.andThen_ok, h1, Sem.run_pure, fieldPlace, sizeOf_pos w h3 hsz, hsz, if_false, add_lit]
          simp only [Nat.add_assoc]
      · cases h
    · cases h
  · cases h

theorem indexAddr_sound {t : TypeId} {x ix : Operand} (htm : TmOk β n tm a) (hop : o.op = .indexAddr t x ix) (h : sop P tm bl o.op = .det vc r bl') (hv : vc) : Pur P β a o r ∧ bl' = bl := by
  rw [hop] at h
  simp only [sop] at h
  split at h
  · rename_i T ht
    split at h
    · rename_i e sz b l i w' m c kk j hk he hj
      split at h
      · cases h
      · rename_i hsz
        split at h
        · rename_i hw
          subst hw
          obtain ⟨rfl, rfl, rfl⟩ := Out.det.inj h
          obtain ⟨hu, hcz, -⟩ := kd_slice ht hk
          have hd := den_ev htm x
          rw [he] at hd
          simp only [Den] at hd
          obtain ⟨A, ha, hmc, hA⟩ := hd
          have hdj := den_ev htm ix
          rw [hj] at hdj
          have hji := den_int hdj
          obtain ⟨b', o0, hb, rfl⟩ := hA (by omega)
          refine ⟨⟨.pointer (some ⟨b', o0 + ((i + j.toNat) * w' + 0), none⟩), (by simp only [Den]; exact ⟨b', o0, hb, rfl⟩), fun w => ?_⟩, rfl⟩
          unfold execOp
          simp only [hop, Instr.indexAt, ha, hji, asIntOf, Sem.run_bind, Sem.run_pure, Result.andThen_ok, underlying_run w hu, hv, and_self, if_true, sizeOf_pos w hcz hsz, add_lit]
          rw [Nat.add_mul]
          simp only [Nat.add_assoc, Nat.add_zero]
        · cases h
    · rename_i m e sz l i w' k kk j hk he hj
      obtain ⟨hu, hcz⟩ := kd_arr ht hk
      have hd := den_ev htm x
      rw [he] at hd
      simp only [Den] at hd
      obtain ⟨b', o0, hb, ha⟩ := hd
      have hdj := den_ev htm ix
      rw [hj] at hdj
      have hji := den_int hdj
      split at h
      · cases h
      · rename_i hsz
        split at h
        · rename_i h0
          obtain ⟨rfl, rfl, rfl⟩ := Out.det.inj h
          refine ⟨⟨.pointer (some ⟨b', o0 + (j.toNat * sz + 0), none⟩), (by simp only [Den]; exact ⟨b', o0, hb, rfl⟩), fun w => ?_⟩, rfl⟩
          unfold execOp
          simp only [hop, Instr.indexAt, ha, hji, asIntOf, Instr.sureAddr, Sem.run_bind, Sem.run_pure, Result.andThen_ok, underlying_run w hu, hv, and_self, if_true, sizeOf_pos w hcz hsz, add_lit, h0]
          simp only [Nat.add_zero]
        · obtain ⟨rfl, rfl, rfl⟩ := Out.det.inj h
          refine ⟨⟨.pointer (some ⟨b', o0 + (0 * 1 + (i * w' + k + j.toNat * sz)), none⟩), (by simp only [Den]; exact ⟨b', o0, hb, rfl⟩), fun w => ?_⟩, rfl⟩
          unfold execOp
          simp only [hop, Instr.indexAt, ha, hji, asIntOf, Instr.sureAddr, Sem.run_bind, Sem.run_pure, Result.andThen_ok, underlying_run w hu, hv, and_self, if_true, sizeOf_pos w hcz hsz, add_lit]
          simp only [Nat.zero_mul, Nat.zero_add, Nat.add_assoc]
    · cases h
  · cases h

theorem slice_sound {t : TypeId} {x : Operand} {lo hi mx : Option Operand} (htm : TmOk β n tm a) (hop : o.op = .slice t x lo hi mx)
    (h : sop P tm bl o.op = .det vc r bl') (hv : vc) : Pur P β a o r ∧ bl' = bl := by
  rw [hop] at h
  simp only [sop] at h
  split at h
  case isFalse => cases h
  rename_i hok
  have hmx : mx = none ∨ hi ≠ none := by
    clear h
    rcases mx with _ | m
    · exact .inl rfl
    · rcases hi with _ | q
      · exfalso; revert hok; simp [okMx]
      · exact .inr (by simp)
  have unf : ∀ {l i w' m c : Nat} {vc : Prop} {r : AV}, sliceOf l i w' m c (lo.map (ev tm)) (hi.map (ev tm)) (mx.map (ev tm)) = some (vc, r) → vc → ∀ (b : Bool),
      ∃ s h q, (∀ w : World, (Instr.sliceBounds b m c (lo.map a.eval) (hi.map a.eval) (mx.map a.eval)).run P w = .ok (s, h, q) w) ∧ r = .sl l (i + s) w' (h - s) (q - s) ∧ s ≤ h ∧ h ≤ q ∧ q ≤ c := by
    intro l i w' m c vc r hs hv b
    unfold sliceOf at hs
    split at hs
    · rename_i p1 q h1
      split at hs
      · rename_i p2 h' h2
        split at hs
        · rename_i p3 s h3
          obtain ⟨rfl, rfl⟩ := Prod.mk.inj (Option.some.inj hs)
          obtain ⟨q1, q2, q3, g1, g2, g3⟩ := hv
          exact ⟨s, h', q, fun w => sliceBounds_run htm h1 h2 h3 q1 q2 q3 g1 g2 g3 hmx, rfl, g1, g2, g3⟩
        · cases hs
      · cases hs
    · cases hs
  split at h
  · rename_i T ht
    split at h
    · rename_i e sz b l i w' m c hk he
      split at h
      · cases h
      · rename_i hsz
        split at h
        · rename_i hw
          subst hw
          split at h
          · rename_i vc' r' hs
            obtain ⟨rfl, rfl, rfl⟩ := Out.det.inj h
            obtain ⟨s, h', q, hrun, rfl, g1, g2, g3⟩ := unf hs hv true
            obtain ⟨hu, hcz, -⟩ := kd_slice ht hk
            have hd := den_ev htm x
            rw [he] at hd
            simp only [Den] at hd
            obtain ⟨A, ha, hmc, hA⟩ := hd
            refine ⟨⟨.slice (if q = s then A else A.map (·.add (s * w'))) (h' - s) (q - s), ?_, fun w => ?_⟩, rfl⟩
            rotate_left
            · unfold execOp
              simp only [hop, Instr.sliceAt, ha, Sem.run_bind, underlying_run w hu, Result.andThen_ok, Instr.slice, hrun, sizeOf_pos w hcz hsz, Sem.run_pure]
            · simp only [Den]
              refine ⟨_, rfl, by omega, fun hne => ?_⟩
              obtain ⟨b', o0, hb, rfl⟩ := hA (by omega)
              refine ⟨b', o0, hb, ?_⟩
              rw [if_neg (by omega)]
              simp only [Option.map_some, add_lit]
              rw [Nat.add_mul, Nat.add_assoc]
          · cases h
        · cases h
    · rename_i m e sz l i w' k hk he
      split at h
      · rename_i hsz
        subst hsz
        split at h
        · rename_i vc' r' hs
          obtain ⟨rfl, rfl, rfl⟩ := Out.det.inj h
          obtain ⟨s, h', q, hrun, rfl, g1, g2, g3⟩ := unf hs hv false
          obtain ⟨hu, hcz⟩ := kd_arr ht hk
          have hd := den_ev htm x
          rw [he] at hd
          simp only [Den] at hd
          obtain ⟨b', o0, hb, ha⟩ := hd
          refine ⟨⟨.slice (some (if q = s then ⟨b', o0 + (i * w' + k), none⟩ else (⟨b', o0 + (i * w' + k), none⟩ : Addr).add (s * 1))) (h' - s) (q - s), ?_, fun w => ?_⟩, rfl⟩
          rotate_left
          · unfold execOp
            simp only [hop, Instr.sliceAt, ha, Sem.run_bind, underlying_run w hu, Result.andThen_ok, Instr.sureAddr, hrun, sizeOf_pos w hcz (by decide : (1 : Nat) ≠ 0), Sem.run_pure]
          · simp only [Den]
            refine ⟨_, rfl, by omega, fun hne => ⟨b', o0, hb, ?_⟩⟩
            rw [if_neg (by omega), add_lit]
            simp only [Nat.mul_one, Nat.add_assoc]
        · cases h
      · cases h
    · cases h
  · cases h

end

end Go.SX
