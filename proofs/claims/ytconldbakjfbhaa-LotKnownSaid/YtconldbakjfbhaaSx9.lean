/-
  The symbolic machine: the rest of the operations; the run, and that it is sound.
-/
import Derived.Test.YtconldbakjfbhaaSx8
set_option linter.unusedSimpArgs false
set_option linter.unusedVariables false
namespace Go.SX
open Go

section
variable {P : Program} {β : Env} {n : Nat} {tm : List (Nat × AV)} {bl bl' : Bls} {a : Act} {w : World} {o : Oper} {vc : Prop} {r : AV} {W : List Nat}

theorem nilCheck_sound {x : Operand} (htm : TmOk β n tm a) (hop : o.op = .nilCheck x) (h : sop P tm bl o.op = .det vc r bl') (hv : vc) : Pur P β a o r ∧ bl' = bl := by
  rw [hop] at h
  simp only [sop] at h
  have hd := den_ev htm x
  split at h
  · rename_i l i w' k he
    obtain ⟨rfl, rfl, rfl⟩ := Out.det.inj h
    rw [he] at hd
    have hd' := hd
    simp only [Den] at hd
    obtain ⟨b, o0, hb, ha⟩ := hd
    refine ⟨⟨a.eval x, hd', fun w => ?_⟩, rfl⟩
    unfold execOp
    simp only [hop, ha, Sem.run_pure]
  · rename_i f fa fb he
    obtain ⟨rfl, rfl, rfl⟩ := Out.det.inj h
    rw [he] at hd
    have hd' := hd
    simp only [Den] at hd
    obtain ⟨xs, ys, ha, -⟩ := hd
    refine ⟨⟨a.eval x, hd', fun w => ?_⟩, rfl⟩
    unfold execOp
    simp only [hop, ha, Sem.run_pure]
  · rename_i p he
    obtain ⟨rfl, rfl, rfl⟩ := Out.det.inj h
    rw [he] at hd
    have hd' := hd
    simp only [Den] at hd
    obtain ⟨p', rfl⟩ : ∃ p', p = some p' := by cases p <;> first | exact absurd rfl hv | exact ⟨_, rfl⟩
    refine ⟨⟨a.eval x, hd', fun w => ?_⟩, rfl⟩
    unfold execOp
    simp only [hop, hd.1, Sem.run_pure]
  · cases h

theorem binOp_sound {op : BinOp} {t u : TypeId} {x y : Operand} (htm : TmOk β n tm a) (hop : o.op = .binOp op t x y u) (h : sop P tm bl o.op = .det vc r bl') (hv : vc) : Pur P β a o r ∧ bl' = bl := by
  rw [hop] at h
  simp only [sop] at h
  split at h
  · rename_i T ht
    split at h
    · rename_i vc' r' hb
      obtain ⟨rfl, rfl, rfl⟩ := Out.det.inj h
      obtain ⟨h1, h2, v, h3, h4⟩ := bop_sound ht hb hv (den_ev htm x) (den_ev htm y)
      exact ⟨⟨v, h4, fun w => binOp_exec hop h1 h2 (h3 w)⟩, rfl⟩
    · cases h
  · cases h

theorem unOp_sound {op : UnOp} {t : TypeId} {x : Operand} (htm : TmOk β n tm a) (hop : o.op = .unOp op t x) (h : sop P tm bl o.op = .det vc r bl') (hv : vc) : Pur P β a o r ∧ bl' = bl := by
  rw [hop] at h
  simp only [sop] at h
  have hd := den_ev htm x
  split at h
  · rename_i b he
    obtain ⟨rfl, rfl, rfl⟩ := Out.det.inj h
    rw [he] at hd
    simp only [Den] at hd
    refine ⟨⟨.bool (!b), (by simp [Den, one]), fun w => ?_⟩, rfl⟩
    unfold execOp
    simp only [hop, hd.1, Op.unary, Sem.run_bind, Sem.run_pure, Result.andThen_ok]
  · rename_i k z he
    have hz := den_int (he ▸ hd)
    cases har : ar k (0 - z) with
    | mk vc' r' =>
      rw [har] at h
      obtain ⟨rfl, rfl, rfl⟩ := Out.det.inj h
      refine ⟨⟨.int k (k.wrap (0 - z)), (by rw [ar_wrap har hv]; simp [Den, one]), fun w => ?_⟩, rfl⟩
      unfold execOp
      simp only [hop, hz, Op.unary, Op.intArith, Sem.run_bind, Sem.run_pure, Result.andThen_ok]
  · rename_i k z he
    obtain ⟨rfl, rfl, rfl⟩ := Out.det.inj h
    have hz := den_int (he ▸ hd)
    refine ⟨⟨.int k (bits2 .xor k (if k.signed then -1 else k.max) z), (by simp [Den, one]), fun w => ?_⟩, rfl⟩
    unfold execOp
    simp only [hop, hz, Op.unary, Op.intBits, Sem.run_bind]
    rfl
  · cases h

theorem convert_sound {src dst : TypeId} {x : Operand} (htm : TmOk β n tm a) (hop : o.op = .convert src dst x) (h : sop P tm bl o.op = .det vc r bl') : Pur P β a o r ∧ bl' = bl := by
  rw [hop] at h
  simp only [sop] at h
  split at h
  · rename_i S D hs ht
    split at h
    · rename_i k _ z hk he
      obtain ⟨rfl, rfl, rfl⟩ := Out.det.inj h
      have hd := den_ev htm x
      rw [he] at hd
      have hz := den_int hd
      obtain ⟨i, d, -, hu, -⟩ := ti_spec hs
      refine ⟨⟨.int k (k.wrap z), (by simp [Den, one]), fun w => ?_⟩, rfl⟩
      unfold execOp
      simp only [hop, hz, convert, Sem.run_bind, underlying_run w hu, underlying_run w (kd_int ht hk), Result.andThen_ok, Conv.intToInt, Sem.run_pure]
    · cases h
  · cases h

theorem denL_get {β : Env} : ∀ {xs : List AV} {ys : List Value} {i : Nat} {x : AV}, DenL β xs ys → xs[i]? = some x → ∃ y, ys[i]? = some y ∧ Den β x y
  | [], _, _, _, _, h => by simp at h
  | c :: cs, _, 0, x, hd, h => by
    simp only [DenL] at hd
    obtain ⟨y, zs, rfl, h1, -⟩ := hd
    simp at h; subst h
    exact ⟨y, by simp, h1⟩
  | c :: cs, _, i + 1, x, hd, h => by
    simp only [DenL] at hd
    obtain ⟨y, zs, rfl, -, h2⟩ := hd
    obtain ⟨y', h3, h4⟩ := denL_get h2 (by simpa using h)
    exact ⟨y', by simpa using h3, h4⟩

theorem places_run : ∀ (l : List Field), nz (l.map fun f => (f.offset, P.cellsOf f.type, agOf P f.type)) = true →
    (l.mapM (m := Sem) fun f => do pure (f.offset, ← sizeOf f.type)).run P w = .ok (l.map fun f => (f.offset, P.cellsOf f.type)) w
  | [], _ => rfl
  | f :: l, h => by
    simp only [List.map_cons, nz] at h
    split at h
    · cases h
    · rename_i h0
      rw [List.mapM_cons]
      simp only [Sem.run_bind, sizeOf_pos w rfl h0, Result.andThen_ok, Sem.run_pure, List.map_cons, places_run l h]

theorem build_sound {t : TypeId} {parts : Array (Nat × Operand)} (htm : TmOk β n tm a) (hop : o.op = .build t parts) (h : sop P tm bl o.op = .det vc r bl') : Pur P β a o r ∧ bl' = bl := by
  rw [hop] at h
  simp only [sop] at h
  split at h
  · rename_i T ht
    split at h
    · rename_i fs z hk hz
      split at h
      · rename_i hone
        split at h
        · rename_i cs hcs
          split at h
          · rename_i r' hf
            split at h
            · rename_i hnz
              obtain ⟨rfl, rfl, rfl⟩ := Out.det.inj h
              obtain ⟨fields, hu, hfs, -⟩ := kd_struct ht hk
              obtain ⟨i, d, hi, -, -, -, -, -, hz'⟩ := ti_spec ht
              rw [hz] at hz'
              cases hzz : i.zero with
              | none => simp [hzz] at hz'
              | some v =>
                rw [hzz] at hz'
                simp only [Option.map_some, Option.some.injEq] at hz'
                have hc := chunk_sound (β := β) (fun x hx => List.all_eq_true.1 hone x hx) hcs
                obtain ⟨zs, h1, h2, h3⟩ := fillA_sound htm hc hf
                refine ⟨⟨.agg zs.toArray, (by simp only [Den]; exact ⟨zs, rfl, h1⟩), fun w => ?_⟩, rfl⟩
                have places := fun w : World => places_run (P := P) (w := w) fields.toList (by rw [← hfs]; exact hnz)
                have hpl : (fun j => (fields.toList.map fun f => (f.offset, P.cellsOf f.type)).toArray[j]?) = plFs fs := by
                  funext j
                  simp only [plFs, nth_eq, hfs, List.getElem?_map, List.getElem?_toArray]
                  cases fields.toList[j]? <;> rfl
                unfold execOp
                simp only [hop, Instr.build, Sem.run_bind, zeroValue, typeInfo, hi, run_program, Result.andThen_ok, Sem.run_pure, hzz, underlying_run w hu]
                rw [← Array.toArray_toList (xs := fields), List.mapM_toArray]
                simp only [Sem.run_map, places, Result.andThen_ok]
                rw [hpl]
                have e : v.cells = z.toArray := by rw [hz']
                have e2 : (parts.map fun x => (x.1, a.eval x.2)).toList = parts.toList.map fun p => (p.1, a.eval p.2) := by simp
                rw [e, e2, h3]
                rfl
            · cases h
          · cases h
        · cases h
      · cases h
    · cases h
  · cases h

end
end Go.SX
