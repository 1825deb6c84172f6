/-
  The symbolic machine: the operations that look at no memory are sound.
-/
import Derived.Test.YtdoeopcimhpjaaaSy6
set_option linter.unusedSimpArgs false
set_option linter.unusedVariables false
namespace Go.SY
open Go

section
variable {P : Program} {β : Env} {tm : List (Nat × AV)} {ρ : Operand → Value} {o : Oper} {vc : Bool} {r : AV}

theorem pur_of {y : Value} (hd : Den β r y) (h : ∀ w : World, (execOp ρ o).run P w = .ok (.value y) w) : Pur P β ρ o r := ⟨y, hd, h⟩

theorem move_sound {x : Operand} (hev : EvOk β tm ρ) (hop : o.op = .move x ∨ o.op = .assign x) : Pur P β ρ o (ev tm x) := by
  refine pur_of (hev x) fun w => ?_
  unfold execOp
  rcases hop with hop | hop <;> simp only [hop, Sem.run_pure]

theorem pick_sound {c x y : Operand} (hev : EvOk β tm ρ) (hop : o.op = .pick c x y) (h : pop P tm o.op = some (vc, r)) : Pur P β ρ o r := by
  rw [hop] at h
  simp only [pop] at h
  split at h
  · rename_i t he
    obtain ⟨rfl, rfl⟩ := Prod.mk.inj (Option.some.inj h)
    have hd := hev c
    rw [he] at hd
    simp only [Den] at hd
    refine pur_of (y := if t = true then ρ x else ρ y) ?_ fun w => ?_
    · cases t
      · exact hev y
      · exact hev x
    · unfold execOp
      simp only [hop, hd.1, asBool, Sem.run_bind, Sem.run_pure, Result.andThen_ok]
  · cases h

theorem nilCheck_sound {x : Operand} (hev : EvOk β tm ρ) (hop : o.op = .nilCheck x) (h : pop P tm o.op = some (vc, r)) (hv : vc = true) : Pur P β ρ o r := by
  rw [hop] at h
  simp only [pop] at h
  have hd := hev x
  split at h <;> try (cases h; done)
  · rename_i he
    obtain ⟨rfl, rfl⟩ := Prod.mk.inj (Option.some.inj h)
    rw [he] at hd
    refine pur_of hd fun w => ?_
    simp only [Den] at hd
    obtain ⟨b, s, -, ha⟩ := hd
    unfold execOp
    simp only [hop, ha, Sem.run_pure]
  · rename_i he
    obtain ⟨rfl, rfl⟩ := Prod.mk.inj (Option.some.inj h)
    rw [he] at hd
    refine pur_of hd fun w => ?_
    simp only [Den] at hd
    obtain ⟨b, s, ys, ha, -⟩ := hd
    unfold execOp
    simp only [hop, ha, Sem.run_pure]
  · rename_i he
    obtain ⟨rfl, rfl⟩ := Prod.mk.inj (Option.some.inj h)
    rw [he] at hd
    refine pur_of hd fun w => ?_
    simp only [Den] at hd
    obtain ⟨xs, ys, ha, -⟩ := hd
    unfold execOp
    simp only [hop, ha, Sem.run_pure]
  · rename_i he
    obtain ⟨rfl, rfl⟩ := Prod.mk.inj (Option.some.inj h)
    rw [he] at hd
    refine pur_of hd fun w => ?_
    simp only [Den] at hd
    obtain ⟨b, s, -, ha⟩ := hd
    unfold execOp
    simp only [hop, ha, Sem.run_pure]
  · rename_i p he
    obtain ⟨rfl, rfl⟩ := Prod.mk.inj (Option.some.inj h)
    rw [he] at hd
    refine pur_of hd fun w => ?_
    simp only [Den] at hd
    cases p with
    | none => cases hv
    | some p =>
      unfold execOp
      simp only [hop, hd.1, Sem.run_pure]

theorem unOp_sound {op : UnOp} {t : TypeId} {x : Operand} (hev : EvOk β tm ρ) (hop : o.op = .unOp op t x) (h : pop P tm o.op = some (vc, r)) (hv : vc = true) : Pur P β ρ o r := by
  rw [hop] at h
  simp only [pop] at h
  have hd := hev x
  split at h
  · rename_i b he
    obtain ⟨rfl, rfl⟩ := Prod.mk.inj (Option.some.inj h)
    rw [he] at hd
    simp only [Den] at hd
    refine pur_of (mk_bool _) fun w => ?_
    unfold execOp
    simp only [hop, hd.1, Op.unary, Sem.run_bind, Sem.run_pure, Result.andThen_ok]
  · rename_i k z he
    rw [he] at hd
    obtain ⟨hz, -⟩ := den_int hd
    have har := Option.some.inj h
    refine pur_of (y := .int k (k.wrap (0 - z))) (by rw [ar_wrap har hv]; exact mk_int (inK_wrap _ _)) fun w => ?_
    unfold execOp
    simp only [hop, hz, Op.unary, Op.intArith, Sem.run_bind, Sem.run_pure, Result.andThen_ok]
  · rename_i k z he
    rw [he] at hd
    obtain ⟨hz, -⟩ := den_int hd
    obtain ⟨rfl, rfl⟩ := Prod.mk.inj (Option.some.inj h)
    refine pur_of (y := .int k (bits2 .xor k (if k.signed then -1 else k.max) z)) (mk_int (inK_wrap k _)) fun w => ?_
    unfold execOp
    simp only [hop, hz, Op.unary, Op.intBits, Sem.run_bind]
    rfl
  · cases h

theorem convert_sound {src dst : TypeId} {x : Operand} (hev : EvOk β tm ρ) (hop : o.op = .convert src dst x) (h : pop P tm o.op = some (vc, r)) : Pur P β ρ o r := by
  rw [hop] at h
  simp only [pop] at h
  split at h
  · rename_i S D hs ht
    obtain ⟨i, d, -, hu, -⟩ := ti_spec hs
    have hd := hev x
    split at h
    · rename_i k _ z hk he
      obtain ⟨rfl, rfl⟩ := Prod.mk.inj (Option.some.inj h)
      rw [he] at hd
      obtain ⟨hz, -⟩ := den_int hd
      refine pur_of (mk_int (inK_wrap k z)) fun w => ?_
      unfold execOp
      simp only [hop, hz, convert, Sem.run_bind, underlying_run w hu, underlying_run w (kd_int ht hk), Result.andThen_ok, Conv.intToInt, Sem.run_pure]
    · rename_i s hk he
      obtain ⟨rfl, rfl⟩ := Prod.mk.inj (Option.some.inj h)
      rw [he] at hd
      refine pur_of hd fun w => ?_
      simp only [Den] at hd
      unfold execOp
      simp only [hop, hd.1, convert, Sem.run_bind, underlying_run w hu, underlying_run w (kd_str ht hk), Result.andThen_ok, Sem.run_pure]
    · cases h
  · cases h

theorem fieldAddr_sound {s : TypeId} {x : Operand} {f : Nat} (hev : EvOk β tm ρ) (hop : o.op = .fieldAddr s x f) (h : pop P tm o.op = some (vc, r)) : Pur P β ρ o r := by
  rw [hop] at h
  simp only [pop] at h
  split at h
  · rename_i T ht
    split at h
    · rename_i fs hk
      split at h
      · rename_i off sz ag hf
        split at h
        · cases h
        · rename_i hsz
          obtain ⟨fields, hu, hfs, -⟩ := kd_struct ht hk
          obtain ⟨fl, h1, rfl, h3, -⟩ := fields_at hfs hf
          have hd := hev x
          have run : ∀ (b p : Nat), ρ x = .pointer (some ⟨b, p, none⟩) → ∀ w : World, (execOp ρ o).run P w = .ok (.value (.pointer (some ⟨b, p + fl.offset, none⟩))) w := by
            intro b p hx w
            unfold execOp
            simp only [hop, Instr.fieldAt, hx, Instr.sureAddr, Sem.run_bind, underlying_run w hu, Result.andThen_ok, h1, Sem.run_pure, fieldPlace, sizeOf_pos w h3 hsz, hsz, if_false, add_lit]
          split at h
          · rename_i l i w' k he
            obtain ⟨rfl, rfl⟩ := Prod.mk.inj (Option.some.inj h)
            rw [he] at hd
            simp only [Den] at hd
            obtain ⟨b, s, hb, ha⟩ := hd
            refine pur_of (by simp only [Den]; exact ⟨b, s, hb, rfl⟩) fun w => ?_
            rw [← Nat.add_assoc]
            exact run _ _ ha w
          · rename_i t' row k he
            obtain ⟨rfl, rfl⟩ := Prod.mk.inj (Option.some.inj h)
            rw [he] at hd
            simp only [Den] at hd
            obtain ⟨b, o0, ys, ha, h4, h5⟩ := hd
            refine pur_of (by simp only [Den]; exact ⟨b, o0, ys, rfl, h4, h5⟩) fun w => ?_
            rw [← Nat.add_assoc]
            exact run _ _ ha w
          · cases h
      · cases h
    · cases h
  · cases h

/-- A frozen row's cells from a place on. -/
theorem cells_drop {m : Nat → Option (Array Value)} {b o : Nat} {ys : List Value} (h : Cells m b o ys) (k : Nat) : Cells m b (o + k) (ys.drop k) := by
  obtain ⟨cs, h1, h2⟩ := h
  exact ⟨cs, h1, fun j v hj => by rw [Nat.add_assoc]; exact h2 _ _ (by rw [List.getElem?_drop] at hj; exact hj)⟩

theorem cells_take {m : Nat → Option (Array Value)} {b o : Nat} {ys : List Value} (h : Cells m b o ys) (k : Nat) : Cells m b o (ys.take k) := by
  obtain ⟨cs, h1, h2⟩ := h
  exact ⟨cs, h1, fun j v hj => h2 _ _ (by
    have := (List.getElem?_eq_some_iff.1 hj).1
    rw [List.getElem?_take_of_lt (by simp at this; omega)] at hj; exact hj)⟩

theorem cells_of_eq {m : Nat → Option (Array Value)} {b o : Nat} {ys us : List Value} (h : Cells m b o ys) (he : ∀ (j : Nat) (v : Value), us[j]? = some v → ys[j]? = some v) : Cells m b o us := by
  obtain ⟨cs, h1, h2⟩ := h
  exact ⟨cs, h1, fun j v hj => h2 _ _ (he j v hj)⟩

theorem denC_one {x : AV} {y : Value} (hs : x.scal = true) (h : Den β x y) (ho : one y = true) : DenC β [x] [y] := (denC_cons hs).2 ⟨y, [], rfl, h, ho, by simp [DenC]⟩

/-- A pointer to one number among frozen ones. -/
theorem den_ip_num {t : Bool} {k : IntKind} {xs : List Int} {b o j : Nat} (hc : Cells (β.fz t) b o (xs.map (.int k))) (hok : okN k xs) (hj : j < xs.length) :
    Den β (.ip t [.v (.int k (xs[j]?.getD 0))] 0) (.pointer (some ⟨b, o + j, none⟩)) := by
  simp only [Den]
  refine ⟨b, o + j, [.int k (xs[j]?.getD 0)], rfl, denC_one rfl (mk_int (okN_get hok hj)) rfl, ?_⟩
  refine cells_of_eq (cells_drop hc j) fun i v hi => ?_
  match i, hi with
  | 0, hi =>
    simp at hi
    subst hi
    simp [hj]
  | i + 1, hi => simp at hi

theorem dr_chunk {row : List AV} {k m : Nat} {kk : IntKind} {xs : List Int} {rest : List AV} {ys : List Value} (hc : DenC β row ys) (h : dr row k = some (.ch m kk xs :: rest)) :
    ∃ zs, ys.drop k = xs.map (.int kk) ++ zs ∧ xs.length = m ∧ okN kk xs := by
  obtain ⟨h1, h2⟩ := denC_dr hc h
  obtain ⟨zs, h3, h4, h5, -⟩ := denC_ch.1 h2
  exact ⟨zs, h3, h4, h5⟩

theorem indexAddr_sound {t : TypeId} {x ix : Operand} (hev : EvOk β tm ρ) (hop : o.op = .indexAddr t x ix) (h : pop P tm o.op = some (vc, r)) (hv : vc = true) : Pur P β ρ o r := by
  rw [hop] at h
  simp only [pop] at h
  split at h
  · rename_i T ht
    split at h
    · rename_i kj j hj
      have hdj := hev ix
      rw [hj] at hdj
      obtain ⟨hji, -⟩ := den_int hdj
      have hd := hev x
      split at h
      · -- a slice of one's own
        rename_i e sz b l i w' m c hk he
        split at h
        · cases h
        · rename_i hsz
          split at h
          · rename_i hw
            subst hw
            obtain ⟨rfl, rfl⟩ := Prod.mk.inj (Option.some.inj h)
            simp only [Bool.and_eq_true, decide_eq_true_eq] at hv
            obtain ⟨hu, hcz, -⟩ := kd_slice ht hk
            rw [he] at hd
            simp only [Den] at hd
            obtain ⟨A, q, ha, hmc, -, -, hA⟩ := hd
            obtain ⟨b', s, hb, rfl, -⟩ := hA (by omega)
            refine pur_of (y := .pointer (some ⟨b', (i + j.toNat) * w' + 0, none⟩)) (by simp only [Den]; exact ⟨b', s, hb, rfl⟩) fun w => ?_
            unfold execOp
            simp only [hop, Instr.indexAt, ha, hji, asIntOf, Sem.run_bind, Sem.run_pure, Result.andThen_ok, underlying_run w hu, hv, and_self, if_true, sizeOf_pos w hcz hsz, add_lit]
            rw [Nat.add_mul, Nat.add_zero]
          · cases h
      · -- numbers that are frozen
        rename_i e sz b t' k xs c hk he
        split at h
        · rename_i hsz
          subst hsz
          obtain ⟨rfl, rfl⟩ := Prod.mk.inj (Option.some.inj h)
          simp only [Bool.and_eq_true, decide_eq_true_eq] at hv
          obtain ⟨hu, hcz, -⟩ := kd_slice ht hk
          rw [he] at hd
          simp only [Den] at hd
          obtain ⟨A, q, ha, hmc, -, -, hok, hA⟩ := hd
          obtain ⟨b', o0, rfl, hc⟩ := hA (by omega)
          refine pur_of (den_ip_num hc hok (by omega)) fun w => ?_
          unfold execOp
          simp only [hop, Instr.indexAt, ha, hji, asIntOf, Sem.run_bind, Sem.run_pure, Result.andThen_ok, underlying_run w hu, hv, and_self, if_true, sizeOf_pos w hcz (by decide : (1 : Nat) ≠ 0), add_lit, Nat.mul_one]
        · cases h
      · -- rows that are frozen
        rename_i e sz b t' w' rs c hk he
        split at h
        · cases h
        · rename_i hsz
          split at h
          · rename_i hw
            subst hw
            obtain ⟨rfl, rfl⟩ := Prod.mk.inj (Option.some.inj h)
            simp only [Bool.and_eq_true, decide_eq_true_eq] at hv
            obtain ⟨hu, hcz, -⟩ := kd_slice ht hk
            rw [he] at hd
            simp only [Den] at hd
            obtain ⟨A, q, ys, ha, hmc, -, -, hr, hA⟩ := hd
            obtain ⟨b', o0, rfl, hc⟩ := hA (by omega)
            obtain ⟨us, h1, h2, h3, h4⟩ := denR_row hr (i := j.toNat) (by omega)
            refine pur_of (y := .pointer (some ⟨b', o0 + j.toNat * w' + 0, none⟩)) ?_ fun w => ?_
            · simp only [Den]
              refine ⟨b', o0 + j.toNat * w', us, rfl, h1, cells_of_eq (cells_drop hc _) fun q v hq => ?_⟩
              have hlt := (List.getElem?_eq_some_iff.1 hq).1
              rw [List.getElem?_drop, h3 q (by omega)]; exact hq
            · unfold execOp
              simp only [hop, Instr.indexAt, ha, hji, asIntOf, Sem.run_bind, Sem.run_pure, Result.andThen_ok, underlying_run w hu, hv, and_self, if_true, sizeOf_pos w hcz hsz, add_lit, Nat.add_zero]
          · cases h
      · -- an array of one's own
        rename_i n e sz l i w' k hk he
        obtain ⟨hu, hcz⟩ := kd_arr ht hk
        rw [he] at hd
        simp only [Den] at hd
        obtain ⟨b', s, hb, ha⟩ := hd
        split at h
        · rename_i hsz
          subst hsz
          obtain ⟨rfl, rfl⟩ := Prod.mk.inj (Option.some.inj h)
          simp only [Bool.and_eq_true, decide_eq_true_eq] at hv
          refine pur_of (y := .pointer (some ⟨b', (i * w' + k + j.toNat) * 1 + 0, none⟩)) (by simp only [Den]; exact ⟨b', s, hb, rfl⟩) fun w => ?_
          unfold execOp
          simp only [hop, Instr.indexAt, ha, hji, asIntOf, Instr.sureAddr, Sem.run_bind, Sem.run_pure, Result.andThen_ok, underlying_run w hu, hv, and_self, if_true, sizeOf_pos w hcz (by decide : (1 : Nat) ≠ 0), add_lit, Nat.mul_one, Nat.add_zero]
        · split at h
          · cases h
          · rename_i hsz
            split at h
            · rename_i h0
              obtain ⟨rfl, rfl⟩ := Prod.mk.inj (Option.some.inj h)
              simp only [Bool.and_eq_true, decide_eq_true_eq] at hv
              refine pur_of (y := .pointer (some ⟨b', j.toNat * sz + 0, none⟩)) (by simp only [Den]; exact ⟨b', s, hb, rfl⟩) fun w => ?_
              unfold execOp
              simp only [hop, Instr.indexAt, ha, hji, asIntOf, Instr.sureAddr, Sem.run_bind, Sem.run_pure, Result.andThen_ok, underlying_run w hu, hv, and_self, if_true, sizeOf_pos w hcz hsz, add_lit, h0, Nat.zero_add, Nat.add_zero]
            · cases h
      · -- an array that is frozen
        rename_i n e sz t' row k hk he
        split at h
        · rename_i hsz
          subst hsz
          split at h
          · rename_i m kk xs rest hdr
            split at h
            · rename_i hm
              obtain ⟨rfl, rfl⟩ := Prod.mk.inj (Option.some.inj h)
              simp only [Bool.and_eq_true, decide_eq_true_eq] at hv
              obtain ⟨hu, hcz⟩ := kd_arr ht hk
              rw [he] at hd
              simp only [Den] at hd
              obtain ⟨b', o0, ys, ha, h4, h5⟩ := hd
              obtain ⟨zs, h6, h7, h8⟩ := dr_chunk h4 hdr
              have hc : Cells (β.fz t') b' (o0 + k) (xs.map (.int kk)) := cells_of_eq (cells_drop h5 k) fun q v hq => by
                rw [h6, List.getElem?_append_left (List.getElem?_eq_some_iff.1 hq).1]; exact hq
              refine pur_of (den_ip_num hc h8 (by omega)) fun w => ?_
              unfold execOp
              simp only [hop, Instr.indexAt, ha, hji, asIntOf, Instr.sureAddr, Sem.run_bind, Sem.run_pure, Result.andThen_ok, underlying_run w hu, hv, and_self, if_true, sizeOf_pos w hcz (by decide : (1 : Nat) ≠ 0), add_lit, Nat.mul_one]
            · cases h
          · cases h
        · cases h
      · cases h
    · cases h
  · cases h

theorem isAgg_run {t : TypeId} {n : Nat} {w : World} (h : P.cellsOf t = n) (hn : n ≠ 0) (hu : P.underlying t ≠ none) : (isAgg t).run P w = .ok (agOf P t) w := by
  cases hd : P.underlying t with
  | none => exact absurd hd hu
  | some d => exact isAgg_at hd

theorem part_run {t : TypeId} {sz : Nat} {w : World} (hc : P.cellsOf t = sz) (hsz : sz ≠ 0) (hu : (P.underlying t).isSome = true) (cs : Array Value) (off : Nat) :
    (part t cs off).run P w = if agOf P t = true then .ok (.agg (cs.extract off (off + sz))) w else (match cs[off]? with
      | some v => .ok v w
      | none => (stuck "part: no such cell" : Sem Value).run P w) := by
  have h1 := isAgg_run (w := w) hc hsz (by intro h; rw [h] at hu; cases hu)
  simp only [part, Sem.run_bind, h1, Result.andThen_ok, Sem.run_ite, sizeOf_pos w hc hsz, Sem.run_pure]
  split
  · rfl
  · cases cs[off]? <;> rfl

theorem bytes_at (s : ByteArray) (j : Nat) (h : j < s.size) : ((bytesL s)[j]?.getD 0) = (s[j].toNat : Int) := by
  simp only [bytesL, List.getElem?_map]
  have : s.data.toList[j]? = some s[j] := by
    rw [Array.getElem?_toList, Array.getElem?_eq_getElem (by simpa using h)]; rfl
  rw [this]; rfl

theorem index_sound {t : TypeId} {x ix : Operand} (hev : EvOk β tm ρ) (hop : o.op = .index t x ix) (h : pop P tm o.op = some (vc, r)) (hv : vc = true) : Pur P β ρ o r := by
  rw [hop] at h
  simp only [pop] at h
  split at h
  · rename_i T ht
    split at h
    · rename_i kj j hj
      have hdj := hev ix
      rw [hj] at hdj
      obtain ⟨hji, -⟩ := den_int hdj
      have hd := hev x
      split at h
      · rename_i s hk he
        obtain ⟨rfl, rfl⟩ := Prod.mk.inj (Option.some.inj h)
        simp only [Bool.and_eq_true, decide_eq_true_eq, bytesL_len] at hv
        have hu := kd_str ht hk
        rw [he] at hd
        simp only [Den] at hd
        have hlt : j.toNat < s.size := by omega
        have hb := bytes_at s j.toNat hlt
        refine pur_of (y := .int .u8 (s[j.toNat].toNat : Int)) (by rw [hb]; exact mk_int (by have := s[j.toNat].toNat_lt; simp [inK]; omega)) fun w => ?_
        have h0 : (0 : Int) ≤ j := hv.1
        unfold execOp
        simp only [hop, Instr.index, hd.1, hji, asIntOf, Sem.run_bind, Sem.run_pure, Result.andThen_ok, underlying_run w hu, h0, if_true]
        rw [getElem?_pos s j.toNat hlt]
        rfl
      · rename_i n e sz m k xs hk he
        split at h
        · rename_i E hE
          split at h
          · rename_i k' hEk
            split at h
            · rename_i hsz
              split at h
              · rename_i hm
                obtain ⟨rfl, rfl⟩ := Prod.mk.inj (Option.some.inj h)
                simp only [Bool.and_eq_true, decide_eq_true_eq] at hv
                obtain ⟨hu, -⟩ := kd_arr ht hk
                have hue := kd_int hE hEk
                obtain ⟨i, d, hi, -, hs, -⟩ := ti_spec hE
                have hce : P.cellsOf e = 1 := by simp [Program.cellsOf, hi, ← hs, hsz]
                rw [he] at hd
                simp only [Den] at hd
                obtain ⟨ha, h1, h2⟩ := hd
                have hlt : j.toNat < xs.length := by omega
                refine pur_of (mk_int (okN_get h2 hlt)) fun w => ?_
                have hp := part_run (P := P) (w := w) hce (by decide) (by rw [hue]; rfl) (xs.map (Value.int k)).toArray j.toNat
                simp only [agOf, hue, aggD, Bool.false_eq_true, if_false] at hp
                unfold execOp
                simp only [hop, Instr.index, ha, hji, asIntOf, Sem.run_bind, Sem.run_pure, Result.andThen_ok, underlying_run w hu, hv, and_self, if_true, sizeOf_pos w hce (by decide), Nat.mul_one, hp]
                simp [hlt]
              · cases h
            · cases h
          · cases h
        · cases h
      · cases h
    · cases h
  · cases h

theorem bnd_run {x : Option Operand} {d m : Nat} {p : Bool} (hev : EvOk β tm ρ) (h : bnd (x.map (ev tm)) d = some (p, m)) (hp : p = true) :
    (x = none ∧ m = d) ∨ ∃ o k, x = some o ∧ ρ o = .int k (m : Int) := by
  cases x with
  | none => simp only [Option.map_none, bnd, Option.some.injEq, Prod.mk.injEq] at h; exact .inl ⟨rfl, h.2.symm⟩
  | some o =>
    simp only [Option.map_some] at h
    have hd := hev o
    cases he : ev tm o <;> rw [he] at h hd <;> simp only [bnd] at h <;> try (cases h; done)
    rename_i v
    cases v <;> simp only [bnd] at h <;> try (cases h; done)
    rename_i k z
    simp only [Option.some.injEq, Prod.mk.injEq] at h
    obtain ⟨hz, -⟩ := den_int hd
    have h0 : 0 ≤ z := by rw [← h.1] at hp; exact of_decide_eq_true hp
    exact .inr ⟨o, k, rfl, by rw [hz, ← h.2, Int.toNat_of_nonneg h0]⟩

theorem sliceBound_run {k : IntKind} {m y : Nat} {code : BoundsCode} {w : World} (h1 : m ≤ y) :
    (Instr.sliceBound (.int k (m : Int)) y code).run P w = .ok m w := by
  have : (m : Int) ≤ (y : Int) := by omega
  simp [Instr.sliceBound, asIntOf, h1]

theorem getD_capIs {c : Option Nat} {n q : Nat} (hn : n ≤ q) (hc : capIs c q) : c.getD n ≤ q := by
  cases c with
  | none => exact hn
  | some m => rw [hc m rfl]; exact Nat.le_refl _

/-- The bounds of a slice: what they are. -/
theorem cutOf_run {b : Bool} {n q s m : Nat} {c c' : Option Nat} {lo hi mx : Option Operand} (hev : EvOk β tm ρ) (hmx : mx = none ∨ hi ≠ none) (hn : n ≤ q) (hc : capIs c q)
    (h : cutOf n c (lo.map (ev tm)) (hi.map (ev tm)) (mx.map (ev tm)) = some (vc, s, m, c')) (hv : vc = true) :
    ∃ h M, (∀ w : World, (Instr.sliceBounds b n q (lo.map ρ) (hi.map ρ) (mx.map ρ)).run P w = .ok (s, h, M) w) ∧ m = h - s ∧ s ≤ h ∧ h ≤ M ∧ M ≤ q ∧ (mx = none → M = q ∧ h ≤ c.getD n ∧ c' = subO c s) ∧
      (mx ≠ none → M ≤ c.getD n ∧ c' = some (M - s)) := by
  have hcq := getD_capIs hn hc
  unfold cutOf at h
  split at h
  · rename_i p3 s' p2 h' h3 h2
    split at h
    · rename_i hmn
      simp only [Option.some.injEq, Prod.mk.injEq] at h
      obtain ⟨rfl, rfl, rfl, rfl⟩ := h
      simp only [Bool.and_eq_true, decide_eq_true_eq] at hv
      obtain ⟨q2, q3, g1, g2⟩ := hv
      have hmn : mx = none := by cases mx <;> simp_all
      subst hmn
      refine ⟨h', q, fun w => ?_, rfl, g1, by omega, Nat.le_refl _, fun _ => ⟨rfl, g2, rfl⟩, fun h => absurd rfl h⟩
      rcases bnd_run hev h2 q2 with ⟨rfl, rfl⟩ | ⟨o2, k2, rfl, e2⟩ <;> rcases bnd_run hev h3 q3 with ⟨rfl, rfl⟩ | ⟨o3, k3, rfl, e3⟩ <;> clear h2 h3
      · simp [Instr.sliceBounds]
      · simp [Instr.sliceBounds, e3, sliceBound_run (show s' ≤ h' by omega)]
      · simp [Instr.sliceBounds, e2, sliceBound_run (show h' ≤ q by omega)]
      · simp [Instr.sliceBounds, e2, e3, sliceBound_run (show h' ≤ q by omega), sliceBound_run (show s' ≤ h' by omega)]
    · rename_i mo hms
      split at h
      · rename_i p1 M h1
        simp only [Option.some.injEq, Prod.mk.injEq] at h
        obtain ⟨rfl, rfl, rfl, rfl⟩ := h
        simp only [Bool.and_eq_true, decide_eq_true_eq] at hv
        obtain ⟨q1, q2, q3, g1, g2, g3⟩ := hv
        obtain ⟨mx, rfl⟩ : ∃ m, mx = some m := by cases mx <;> simp_all
        obtain ⟨hi, rfl⟩ : ∃ h, hi = some h := by
          cases hi with
          | none => rcases hmx with h | h
                    · cases h
                    · exact absurd rfl h
          | some h => exact ⟨h, rfl⟩
        simp only [Option.map_some, Option.some.injEq] at hms
        subst hms
        refine ⟨h', M, fun w => ?_, rfl, g1, g2, by omega, (fun h => by cases h), fun _ => ⟨g3, rfl⟩⟩
        rcases bnd_run (x := some mx) hev h1 q1 with ⟨h, -⟩ | ⟨o1, k1, rfl', e1⟩
        · cases h
        cases rfl'
        rcases bnd_run (x := some hi) hev h2 q2 with ⟨h, -⟩ | ⟨o2, k2, rfl', e2⟩
        · cases h
        cases rfl'
        rcases bnd_run hev h3 q3 with ⟨rfl, rfl⟩ | ⟨o3, k3, rfl, e3⟩ <;> clear h1 h2 h3
        · simp [Instr.sliceBounds, e1, e2, sliceBound_run (show M ≤ q by omega), sliceBound_run g2]
        · simp [Instr.sliceBounds, e1, e2, e3, sliceBound_run (show M ≤ q by omega), sliceBound_run g2, sliceBound_run g1]
      · cases h
  · cases h

theorem capIs_sub {c : Option Nat} {q s : Nat} (h : capIs c q) : capIs (subO c s) (q - s) := by
  intro m hm
  cases c with
  | none => cases hm
  | some c => simp only [subO, Option.some.injEq] at hm; rw [← hm, h c rfl]

theorem denR_drop {w : Nat} : ∀ {rs : List (List AV)} {ys : List Value} (b : Nat), DenR β w rs ys → DenR β w (rs.drop b) (ys.drop (b * w))
  | [], ys, b, h => by simp only [DenR] at h; subst h; simp [DenR]
  | r :: rs, ys, 0, h => by simpa using h
  | r :: rs, ys, b + 1, h => by
    simp only [DenR] at h
    obtain ⟨us, zs, rfl, h0, h1, h2⟩ := h
    have := denR_drop b h2
    have e : (us ++ zs).drop ((b + 1) * w) = zs.drop (b * w) := by
      have e2 : (b + 1) * w = us.length + b * w := by rw [h0, Nat.add_mul]; omega
      rw [e2, List.drop_length_add_append]
    simpa [e] using this

theorem denR_take {w : Nat} : ∀ {rs : List (List AV)} {ys : List Value} (b : Nat), DenR β w rs ys → DenR β w (rs.take b) (ys.take (b * w))
  | [], ys, b, h => by simp only [DenR] at h; subst h; simp [DenR]
  | r :: rs, ys, 0, h => by simp [DenR]
  | r :: rs, ys, b + 1, h => by
    simp only [DenR] at h
    obtain ⟨us, zs, rfl, h0, h1, h2⟩ := h
    have := denR_take b h2
    simp only [List.take_succ_cons, DenR]
    refine ⟨us, _, ?_, h0, h1, this⟩
    have e2 : (b + 1) * w = us.length + b * w := by rw [h0, Nat.add_mul]; omega
    rw [e2, List.take_length_add_append]

theorem slice_sound {t : TypeId} {x : Operand} {lo hi mx : Option Operand} (hev : EvOk β tm ρ) (hop : o.op = .slice t x lo hi mx) (h : pop P tm o.op = some (vc, r)) (hv : vc = true) : Pur P β ρ o r := by
  rw [hop] at h
  simp only [pop] at h
  split at h
  case isFalse => cases h
  rename_i hok
  have hmx : mx = none ∨ hi ≠ none := by
    clear h
    rcases mx with _ | m
    · exact .inl rfl
    · rcases hi with _ | q
      · exfalso; revert hok; simp [okMx]
      · exact .inr (by simp)
  have exec : ∀ {e : TypeId} {sz n q s h' M : Nat} {A : Option Addr}, P.underlying t = some (.slice e) → P.cellsOf e = sz → sz ≠ 0 → ρ x = .slice A n q →
      (∀ w : World, (Instr.sliceBounds true n q (lo.map ρ) (hi.map ρ) (mx.map ρ)).run P w = .ok (s, h', M) w) →
      ∀ w : World, (execOp ρ o).run P w = .ok (.value (.slice (if M = s then A else A.map (·.add (s * sz))) (h' - s) (M - s))) w := by
    intro e sz n q s h' M A hu hcz hsz ha hrun w
    unfold execOp
    simp only [hop, Instr.sliceAt, ha, Sem.run_bind, underlying_run w hu, Result.andThen_ok, Instr.slice, hrun, sizeOf_pos w hcz hsz, Sem.run_pure]
  split at h
  · rename_i T ht
    have hd := hev x
    split at h
    · -- a string
      rename_i s hk he
      split at h
      · split at h
        · rename_i vc' b n' c' hcut
          obtain ⟨rfl, rfl⟩ := Prod.mk.inj (Option.some.inj h)
          rw [he] at hd
          simp only [Den, wfV] at hd
          obtain ⟨ha, -, hs⟩ := hd
          have hcut' : cutOf s.size (some s.size) (lo.map (ev tm)) (hi.map (ev tm)) ((none : Option Operand).map (ev tm)) = some (vc', b, n', c') := hcut
          obtain ⟨h', M, hrun, rfl, g1, g2, g3, -, -⟩ := cutOf_run (P := P) (b := false) (q := s.size) hev (.inl rfl) (Nat.le_refl _) (fun m hm => Option.some.inj hm) hcut' hv
          have hu := kd_str ht hk
          refine pur_of (y := .string (s.extract b (b + (h' - b)))) (by simp only [Den, one, wfV, true_and]; rw [ByteArray.size_extract, Nat.min_eq_left (by omega)]; omega) fun w => ?_
          simp only [Option.map_none] at hrun
          unfold execOp
          simp only [hop, Instr.sliceAt, ha, Sem.run_bind, underlying_run w hu, Result.andThen_ok, Instr.slice, Option.map_none, Option.isSome_none, Bool.false_eq_true, if_false, hrun, Sem.run_pure]
          rw [show b + (h' - b) = h' by omega]
        · cases h
      · cases h
    · -- a slice of one's own
      rename_i e sz b0 l i w' n c hk he
      split at h
      · cases h
      · rename_i hsz
        split at h
        · rename_i hw
          subst hw
          split at h
          · rename_i vc' b n' c' hcut
            obtain ⟨rfl, rfl⟩ := Prod.mk.inj (Option.some.inj h)
            obtain ⟨hu, hcz, -⟩ := kd_slice ht hk
            rw [he] at hd
            simp only [Den] at hd
            obtain ⟨A, q, ha, hmc, hq, hcap, hA⟩ := hd
            obtain ⟨h', M, hrun, rfl, g1, g2, g3, g4, g5⟩ := cutOf_run (P := P) (b := true) hev hmx hmc hcap hcut hv
            refine pur_of ?_ (exec hu hcz hsz ha hrun)
            simp only [Den]
            refine ⟨_, M - b, rfl, by omega, by omega, ?_, fun hne => ?_⟩
            · by_cases hm : mx = none
              · obtain ⟨rfl, -, rfl⟩ := g4 hm; exact capIs_sub hcap
              · obtain ⟨-, rfl⟩ := g5 hm; intro m hm; exact Option.some.inj hm
            · obtain ⟨b', s, hb, rfl, hle⟩ := hA (by omega)
              refine ⟨b', s, hb, ?_, ?_⟩
              · rw [if_neg (by omega)]
                simp only [Option.map_some, add_lit, Nat.add_mul]
              · rw [show i + b + (M - b) = i + M by omega]
                exact Nat.le_trans (Nat.mul_le_mul_right _ (by omega)) hle
          · cases h
        · cases h
    · -- numbers that are frozen
      rename_i e sz b0 t' k xs c hk he
      split at h
      · rename_i hsz
        subst hsz
        split at h
        · rename_i vc' b n' c' hcut
          obtain ⟨rfl, rfl⟩ := Prod.mk.inj (Option.some.inj h)
          obtain ⟨hu, hcz, -⟩ := kd_slice ht hk
          rw [he] at hd
          simp only [Den] at hd
          obtain ⟨A, q, ha, hmc, hq, hcap, hok, hA⟩ := hd
          obtain ⟨h', M, hrun, rfl, g1, g2, g3, g4, g5⟩ := cutOf_run (P := P) (b := true) hev hmx hmc (c := none) (fun m hm => by cases hm) hcut hv
          have hh : h' ≤ xs.length := by
            by_cases hm : mx = none
            · exact (g4 hm).2.1
            · have := (g5 hm).1; simp only [Option.getD_none] at this; omega
          have hlen : ((xs.drop b).take (h' - b)).length = h' - b := by simp; omega
          refine pur_of ?_ (exec hu hcz (by decide) ha hrun)
          simp only [Den]
          refine ⟨_, M - b, by rw [hlen], by omega, by omega, ?_, okN_take (okN_drop hok _) _, fun hne => ?_⟩
          · cases mx with
            | none => obtain ⟨rfl, -, -⟩ := g4 rfl; exact capIs_sub hcap
            | some m => obtain ⟨-, rfl⟩ := g5 (by simp); intro m hm; exact Option.some.inj hm
          · obtain ⟨b', o0, rfl, hc⟩ := hA (by omega)
            refine ⟨b', o0 + b, ?_, ?_⟩
            · rw [if_neg (by omega)]
              simp only [Option.map_some, add_lit, Nat.mul_one]
            · rw [List.map_take, List.map_drop]
              exact cells_take (cells_drop hc b) _
        · cases h
      · cases h
    · -- rows that are frozen
      rename_i e sz b0 t' w' rs c hk he
      split at h
      · cases h
      · rename_i hsz
        split at h
        · rename_i hw
          subst hw
          split at h
          · rename_i vc' b n' c' hcut
            obtain ⟨rfl, rfl⟩ := Prod.mk.inj (Option.some.inj h)
            obtain ⟨hu, hcz, -⟩ := kd_slice ht hk
            rw [he] at hd
            simp only [Den] at hd
            obtain ⟨A, q, ys, ha, hmc, hq, hcap, hr, hA⟩ := hd
            obtain ⟨h', M, hrun, rfl, g1, g2, g3, g4, g5⟩ := cutOf_run (P := P) (b := true) hev hmx hmc (c := none) (fun m hm => by cases hm) hcut hv
            have hh : h' ≤ rs.length := by
              by_cases hm : mx = none
              · exact (g4 hm).2.1
              · have := (g5 hm).1; simp only [Option.getD_none] at this; omega
            have hlen : ((rs.drop b).take (h' - b)).length = h' - b := by simp; omega
            refine pur_of ?_ (exec hu hcz hsz ha hrun)
            simp only [Den]
            refine ⟨_, M - b, (ys.drop (b * w')).take ((h' - b) * w'), by rw [hlen], by omega, by omega, ?_, denR_take _ (denR_drop _ hr), fun hne => ?_⟩
            · cases mx with
              | none => obtain ⟨rfl, -, -⟩ := g4 rfl; exact capIs_sub hcap
              | some m => obtain ⟨-, rfl⟩ := g5 (by simp); intro m hm; exact Option.some.inj hm
            · obtain ⟨b', o0, rfl, hc⟩ := hA (by omega)
              refine ⟨b', o0 + b * w', ?_, cells_take (cells_drop hc _) _⟩
              rw [if_neg (by omega)]
              simp only [Option.map_some, add_lit]
          · cases h
        · cases h
    · -- a nil slice
      rename_i e sz b0 hk he
      split at h
      · cases h
      · rename_i hsz
        split at h
        · rename_i vc' b n' c' hcut
          obtain ⟨rfl, rfl⟩ := Prod.mk.inj (Option.some.inj h)
          obtain ⟨hu, hcz, -⟩ := kd_slice ht hk
          rw [he] at hd
          simp only [Den] at hd
          obtain ⟨h', M, hrun, rfl, g1, g2, g3, g4, g5⟩ := cutOf_run (P := P) (b := true) (n := 0) (q := 0) hev hmx (Nat.le_refl _) (fun m hm => (Option.some.inj hm).symm ▸ rfl) hcut hv
          refine pur_of ?_ (exec hu hcz hsz hd hrun)
          obtain rfl : M = 0 := by omega
          obtain rfl : h' = 0 := by omega
          obtain rfl : b = 0 := by omega
          simp [Den]
        · cases h
    · cases h
  · cases h

end

end Go.SY
