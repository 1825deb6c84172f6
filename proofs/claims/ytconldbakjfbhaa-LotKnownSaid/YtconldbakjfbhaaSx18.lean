/-
  The symbolic machine: append on slices of numbers, as an operation.
-/
import Derived.Test.YtconldbakjfbhaaSx17
set_option linter.unusedSimpArgs false
set_option linter.unusedVariables false
namespace Go.SX
open Go

section
variable {P : Program} {C : Ctx} {β : Env} {n : Nat} {tm : List (Nat × AV)} {bl : Bls} {a : Act} {w : World} {o : Oper} {st : St}

theorem call_builtin_run {b : Builtin} {args : Array Operand} {ats : Array TypeId} (hop : o.op = .call { callee := .builtin b, args, argTypes := ats }) {v : Value} {w' : World}
    (h : ∀ cs, (builtin b ats o.type cs (args.map a.eval)).run P w = .ok (.value v) w') : (execOp a.eval o).run P w = .ok (.value v) w' := by
  unfold execOp
  simp only [hop, Sem.run_bind, resolve, Sem.run_pure, Result.andThen_ok, invoke]
  exact h _

theorem srcN_sound {k : IntKind} {x : AV} {y : Value} {vs : Prop} {news : List Int} (hh : Heap β bl w) (hd : Den β x y) (h : srcN k bl x = some (vs, news)) (hv : vs) :
    Src P y 1 news.length (news.map (.int k)) w := by
  cases x with
  | nil =>
    simp only [srcN, Option.some.injEq, Prod.mk.injEq] at h
    obtain ⟨-, rfl⟩ := h
    simp only [Den] at hd
    subst hd
    exact ⟨fun w' => rfl, fun w' _ => by simp [Builtin.firstCells]⟩
  | sl l i w' m c =>
    simp only [srcN] at h
    split at h
    · rename_i B hB
      split at h
      · rename_i k' xs hct
        split at h
        · rename_i hk
          split at h
          · rename_i hw
            subst hk; subst hw
            simp only [Option.some.injEq, Prod.mk.injEq] at h
            obtain ⟨rfl, rfl⟩ := h
            simp only [Den] at hd
            obtain ⟨A, rfl, hmc, hA⟩ := hd
            have hlen : ((xs.drop i).take m).length = m := by simp; omega
            by_cases hm : m = 0
            · subst hm
              simp only [List.take_zero, List.length_nil, List.map_nil]
              refine ⟨fun w' => rfl, fun w' _ => ?_⟩
              cases A with
              | none => simp [Builtin.firstCells]
              | some A => simp [Builtin.firstCells, loadCells, loadCellsFrom]
            · obtain ⟨b, o0, hb, rfl⟩ := hA (by omega)
              obtain ⟨ys, cs, T, fz, hc, hg, hcs, -⟩ := heap_blk hh hB hb
              rw [hct] at hc
              simp only [CtDen] at hc
              subst hc
              have := src_slice (P := P) (A := some ⟨b, o0 + i * 1, none⟩) (m := m) (c := c) (size := 1) (p := i) (fun _ => by rw [Nat.mul_one]) hg hcs (by simp; omega) (by decide)
              rw [hlen]
              simpa [List.map_take, List.map_drop] using this
          · cases h
        · cases h
      · cases h
    · cases h
  | v x =>
    cases x <;> simp only [srcN] at h <;> try (cases h; done)
    rename_i s
    split at h
    · rename_i hk
      subst hk
      simp only [Option.some.injEq, Prod.mk.injEq] at h
      obtain ⟨rfl, rfl⟩ := h
      simp only [Den] at hd
      obtain ⟨rfl, -⟩ := hd
      have := src_string (P := P) (w := w) (s := s) (size := 1)
      simpa [List.map_map, Function.comp_def] using this
    · cases h
  | _ => simp [srcN] at h

theorem app_num {t u e : TypeId} {x y : Operand} {T U E : TI} {k : IntKind} {by_ : Nat} {vd vs : Prop} {l : Option Nat} {olds news : List Int} {c : Nat}
    (hop : o.op = .call { callee := .builtin .append, args := #[x, y], argTypes := #[t, u] }) (ht : ti P t = some T) (hT : T.kd = .slice e 1 by_) (hU : ti P u = some U) (hUk : ∀ k, U.kd ≠ .int k) (hE : ti P e = some E)
    (hEz : E.z = some [.int k 0]) (hd : dstN e k st.bl (ev st.tm x) = some (vd, l, olds, c)) (hs : srcN k st.bl (ev st.tm y) = some (vs, news)) (hvd : vd) (hvs : vs)
    (hb : (olds.length + news.length) * by_ ≤ 140737488355328) (hb1 : 1 ≤ by_) (hcb : c < 9223372036854775808) :
    EffRel P C o st l.toList (AppNK e k l (olds ++ news) st.bl) := fun β a w htm hh N Q hN => by
  obtain ⟨hut, hcz, hbz⟩ := kd_slice ht hT
  obtain ⟨iu, du, -, huu, -, -, -, hku, -⟩ := ti_spec hU
  have hu : ∃ d, P.underlying u = some d ∧ ∀ k, d ≠ .int k := ⟨du, huu, fun k hk => hUk k (by rw [hku, hk]; rfl)⟩
  obtain ⟨i, de, hi, -, -, -, -, -, hz⟩ := ti_spec hE
  rw [hEz] at hz
  cases hzz : i.zero with
  | none => simp [hzz] at hz
  | some z =>
  rw [hzz] at hz
  simp only [Option.map_some, Option.some.injEq] at hz
  have hzc : z.cells = #[.int k 0] := by apply Array.ext'; rw [← hz]
  have hsz : i.size = 1 := by unfold Program.cellsOf at hcz; simpa [hi] using hcz
  have hby : i.bytes = by_ := by unfold Program.bytesOf at hbz; simpa [hi] using hbz
  have hsrc := srcN_sound (P := P) hh (den_ev htm y) hs hvs
  rw [← hsz] at hsrc
  have hbound : olds.length + news.length ≤ 140737488355328 := Nat.le_trans (Nat.le_mul_of_pos_right _ hb1) hb
  have hdx := den_ev htm x
  -- the destination
  obtain ⟨A, hA, hnc, hkill, hcase⟩ : ∃ A, a.eval x = .slice A olds.length c ∧ olds.length ≤ c ∧ (Heap β (killL l st.bl) w ∧ ∀ b, Owned β (killL l st.bl) b → Owned β st.bl b) ∧
      ((c = 0) ∨ ∃ lv B b xs fz, l = some lv ∧ A = some ⟨b, 0, none⟩ ∧ st.bl[lv]? = some (some B) ∧ B.own = true ∧ B.ty = e ∧ B.ct = .num k xs ∧ β[lv]? = some (some (b, 0)) ∧ olds = xs.take olds.length ∧ c ≤ xs.length ∧
        w.heap[b]? = some (.cells (xs.map (Value.int k)).toArray e fz) ∧ ∀ j, fz.1 ≤ j → j < fz.2 → (xs.map (Value.int k)).length ≤ j) := by
    cases hxe : ev st.tm x <;> rw [hxe] at hd hdx <;> simp only [dstN] at hd <;> try (cases hd; done)
    · simp only [Option.some.injEq, Prod.mk.injEq] at hd
      obtain ⟨-, rfl, rfl, rfl⟩ := hd
      simp only [Den] at hdx
      exact ⟨none, hdx, Nat.le_refl _, ⟨hh, fun _ h => h⟩, .inl rfl⟩
    · rename_i lv i0 w' m c0
      split at hd
      · rename_i B hB
        split at hd
        · rename_i hown
          split at hd
          · rename_i k' xs hct
            split at hd
            · rename_i hk
              split at hd
              · rename_i hw
                split at hd
                · rename_i hi0
                  split at hd
                  · rename_i hty
                    subst hk; subst hw; subst hi0
                    simp only [Option.some.injEq, Prod.mk.injEq] at hd
                    obtain ⟨rfl, rfl, rfl, rfl⟩ := hd
                    simp only [Den] at hdx
                    obtain ⟨A, hA, hmc, hAc⟩ := hdx
                    have hc0 : c0 ≤ xs.length := hvd
                    have hlen : (xs.take m).length = m := by simp; omega
                    refine ⟨A, by rw [hlen]; exact hA, by rw [hlen]; exact hmc, ?_, ?_⟩
                    · simp only [killL, setl_set]; exact hh.kill
                    · by_cases h0 : c0 = 0
                      · exact .inl h0
                      · obtain ⟨b, o0, hb', rfl⟩ := hAc h0
                        obtain ⟨ys, cs, T', fz, hc, hg, -, ho⟩ := heap_blk hh hB hb'
                        obtain ⟨rfl, rfl, rfl, hfz⟩ := ho hown
                        rw [hct] at hc
                        simp only [CtDen] at hc
                        subst hc
                        exact .inr ⟨lv, B, b, xs, fz, rfl, by simp, lvl_get hB, hown, hty, hct, hb', by rw [hlen], hc0, by rw [← hty]; exact hg, hfz⟩
                  · cases hd
                · cases hd
              · cases hd
            · cases hd
          · cases hd
        · cases hd
      · cases hd
  have exec : ∀ v w', (Builtin.append_ #[t, u] o.type #[a.eval x, a.eval y]).run P w = .ok v w' → N (a.put o.dst v) w' → o.wp P a w N Q := by
    intro v w' h1 h2
    have : (execOp a.eval o).run P w = .ok (.value v) w' := call_builtin_run hop fun cs => by
      simp only [builtin, List.map_toArray, List.map_cons, List.map_nil, Sem.run_bind, h1, Result.andThen_ok, Sem.run_pure]
    unfold Oper.wp
    rw [this]
    exact h2
  have hlk := killL_len l st.bl
  by_cases hroom : olds.length + news.length ≤ c
  · rcases hcase with h0 | ⟨lv, B, b, xs, fz, rfl, rfl, hB, hown, hty, hct, hβ, holds, hcx, hg, hfz⟩
    · -- nothing is there, and nothing comes
      subst h0
      have ho : olds = [] := List.length_eq_zero_iff.1 (by omega)
      have hn : news = [] := List.length_eq_zero_iff.1 (by omega)
      subst ho; subst hn
      have hrun : (Builtin.append_ #[t, u] o.type #[a.eval x, a.eval y]).run P w = .ok (.slice A 0 0) w := by
        obtain ⟨d, hdd, hnd⟩ := hu
        have hz2 : ∀ {α : Type} (A B : α), (match d with | .int _ => A | _ => B) = B := by intro α A B; cases d <;> first | rfl | exact absurd rfl (hnd _)
        have hl := hsrc.1 w
        have hf := hsrc.2 w rfl
        rw [hA]
        simp only [List.length_nil, List.map_nil] at hl hf
        cases A with
        | none => simp [Builtin.append_, underlying_run w hut, underlying_run w hdd, hz2, sizeOf, typeInfo, hi, hl, hf]
        | some A => simp [Builtin.append_, underlying_run w hut, underlying_run w hdd, hz2, sizeOf, typeInfo, hi, hl, hf, storeCells]
      refine exec _ _ hrun ?_
      have he := hkill.1.empty e (c := .num k []) (by simp [CtDen])
      refine hN _ w _ (.sl st.bl.length 0 1 0 0) _ ?_ ⟨[], 0, by simp, by simp, by omega, rfl, rfl⟩ (List.prefix_append _ _) he.1 (Step.refl _ _) (fun b hb => .inl (hkill.2 b (he.2 b hb)))
      simp only [Den]
      exact ⟨A, rfl, Nat.le_refl _, fun h => absurd rfl h⟩
    · subst hty
      have hfit : olds.length * i.size + news.length * i.size ≤ (xs.map (Value.int k)).length := by rw [hsz]; simp; omega
      have hrun := append_room (P := P) (t := t) (u := u) (ty := o.type) hut hu hi hg hfz hsrc (by rw [hsz]; simp) (by simp [one]) hroom hfit
      rw [hsz, Nat.mul_one, Nat.mul_one] at hrun
      rw [hA] at exec
      refine exec _ _ hrun ?_
      -- the numbers behind it
      have hnew : (xs.map (Value.int k)).take olds.length ++ (news.map (Value.int k) ++ (xs.map (Value.int k)).drop (olds.length + news.length)) =
          ((olds ++ news) ++ xs.drop (olds.length + news.length)).map (Value.int k) := by
        rw [List.map_append, List.map_append, ← List.map_take, ← List.map_drop, ← holds, List.append_assoc]
      rw [hnew]
      have hlen : (((olds ++ news) ++ xs.drop (olds.length + news.length)).map (Value.int k)).length = (xs.map (Value.int k)).length := by simp; omega
      have hw := Heap.write hh hB hown hβ (c' := .num k ((olds ++ news) ++ xs.drop (olds.length + news.length))) (ys := xs.map (Value.int k)) (by rw [hct]; rfl) ⟨fz, hg, hfz⟩ rfl hlen
      have hB' : (st.bl.set lv (some { B with ct := .num k ((olds ++ news) ++ xs.drop (olds.length + news.length)) }))[lv]? = some (some { B with ct := .num k ((olds ++ news) ++ xs.drop (olds.length + news.length)) }) := by
        rw [List.getElem?_set_self (List.getElem?_eq_some_iff.1 hB).1]
      have hr := Heap.rename hw.1 hB' hown hβ (c' := .num k ((olds ++ news) ++ xs.drop (olds.length + news.length))) (ys := ((olds ++ news) ++ xs.drop (olds.length + news.length)).map (Value.int k)) rfl
        ⟨fz, setRow_heap w b _ _ _ _ hg, fun j h1 h2 => by rw [hlen]; exact hfz j h1 h2⟩
      simp only [List.set_set] at hr
      refine hN _ _ _ (.sl st.bl.length 0 1 (olds ++ news).length c) _ ?_ ⟨xs.drop (olds.length + news.length), c, by simpa using hroom, by simp; omega, by omega, rfl, ?_⟩ (List.prefix_append _ _) hr.1 ?_ (fun b' hb' => .inl (hw.2.2 b' (hr.2 b' hb')))
      · simp only [Den]
        exact ⟨some ⟨b, 0, none⟩, by simp, by simpa using hroom, fun _ => ⟨b, 0, by rw [← hh.len]; simp, by simp⟩⟩
      · simp only [killL, setl_set]
      · exact hw.2.1.mono fun b' hb' => by simpa using hb'
  · -- a new block
    have hold : ∀ w' : World, w'.heap = w.heap → (Builtin.firstCells i.size olds.length (.slice A olds.length c)).run P w' = .ok (olds.map (Value.int k)).toArray w' := by
      intro w' hw'
      rcases hcase with h0 | ⟨lv, B, b, xs, fz, rfl, rfl, hB, hown, hty, hct, hβ, holds, hcx, hg, hfz⟩
      · have ho : olds = [] := List.length_eq_zero_iff.1 (by omega)
        subst ho
        cases A with
        | none => simp [Builtin.firstCells]
        | some A => simp [Builtin.firstCells, loadCells, loadCellsFrom]
      · have hsl := src_slice (P := P) (w := w) (A := some ⟨b, 0, none⟩) (m := olds.length) (c := c) (size := i.size) (p := 0) (o0 := 0) (ys := xs.map (Value.int k)) (fun _ => rfl) hg (fun j hj => by simp) (by rw [hsz]; simp; omega) (by rw [hsz]; decide)
        have := hsl.2 w' hw'
        rw [hsz, Nat.mul_one, List.drop_zero, ← List.map_take, ← holds] at this
        rw [hsz]; exact this
    have hfit : Builtin.nextslicecap (olds.length + news.length) c * i.bytes ≤ 281474976710656 := growslice_fits (by omega) (by rw [hby]; exact hb)
    obtain ⟨q, hq1, hq2, hrun⟩ := append_grow (P := P) (t := t) (u := u) (ty := o.type) hut hu hi hzz hold hsrc (by omega) (by omega) hfit
    rw [hA] at exec
    refine exec _ _ hrun ?_
    have hys : (olds.map (Value.int k)).toArray ++ ((news.map (Value.int k)).toArray ++ Builtin.zeroCells z.cells (q - (olds.length + news.length))) =
        (((olds ++ news) ++ List.replicate (q - (olds.length + news.length)) 0).map (Value.int k)).toArray := by
      rw [zeroCells_num hzc]
      apply Array.ext'
      simp
    rw [hys]
    have hm := Heap.make hkill.1 e (0, 0) (c := .num k ((olds ++ news) ++ List.replicate (q - (olds.length + news.length)) 0)) (ys := ((olds ++ news) ++ List.replicate (q - (olds.length + news.length)) 0).map (Value.int k)) nofz (by simp only [CtDen])
      (w' := w.drew.alloc (.cells (((olds ++ news) ++ List.replicate (q - (olds.length + news.length)) 0).map (Value.int k)).toArray e)) rfl rfl rfl rfl
    refine hN _ _ _ (.sl st.bl.length 0 1 (olds ++ news).length q) _ ?_ ⟨List.replicate (q - (olds.length + news.length)) 0, q, by simpa using hq1, by simp; omega, hq2, rfl, rfl⟩ hm.2.2.2 hm.1 (hm.2.1.mono fun _ h => h.elim)
      (fun b' hb' => (hm.2.2.1 b' hb').imp (hkill.2 b') id)
    simp only [Den]
    exact ⟨some ⟨w.heap.size, 0, none⟩, by simp, by simpa using hq1, fun _ => ⟨w.heap.size, 0, by rw [← hh.len]; simp, by simp⟩⟩

end

end Go.SX
