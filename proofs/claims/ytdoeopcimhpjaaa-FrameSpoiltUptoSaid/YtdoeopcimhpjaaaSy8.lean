/-
  The symbolic machine: the rest of the operations that look at no memory; all of them.
-/
import Derived.Test.YtdoeopcimhpjaaaSy7
set_option linter.unusedSimpArgs false
set_option linter.unusedVariables false
namespace Go.SY
open Go

section
variable {P : Program} {β : Env} {tm : List (Nat × AV)} {ρ : Operand → Value} {o : Oper} {vc : Bool} {r : AV}

theorem makeFunc_sound {fn : Fn} {fst cap : Array Operand} (hev : EvOk β tm ρ) (hop : o.op = .makeFunc fn fst cap) (h : pop P tm o.op = some (vc, r)) : Pur P β ρ o r := by
  rw [hop] at h
  simp only [pop] at h
  split at h
  · rename_i f
    obtain ⟨rfl, rfl⟩ := Prod.mk.inj (Option.some.inj h)
    refine pur_of (y := .func (.func f) (fst.map ρ) (cap.map ρ)) ?_ fun w => ?_
    · simp only [Den]
      have e1 : ∀ q : Array Operand, q.map ρ = (q.toList.map ρ).toArray := fun q => by apply Array.ext'; simp
      exact ⟨fst.toList.map ρ, cap.toList.map ρ, by rw [e1, e1], denL_map hev _, denL_map hev _⟩
    · unfold execOp
      simp only [hop, Instr.makeFunc, Sem.run_bind, Sem.run_pure, Result.andThen_ok]
  · cases h

theorem extract_sound {x : Operand} {i : Nat} (hev : EvOk β tm ρ) (hop : o.op = .extract x i) (h : pop P tm o.op = some (vc, r)) : Pur P β ρ o r := by
  rw [hop] at h
  simp only [pop] at h
  split at h
  · rename_i xs he
    split at h
    · rename_i x' hx
      obtain ⟨rfl, rfl⟩ := Prod.mk.inj (Option.some.inj h)
      have hd := hev x
      rw [he] at hd
      simp only [Den] at hd
      obtain ⟨ys, hy, hl⟩ := hd
      rw [nth_eq] at hx
      obtain ⟨y, h1, h2⟩ := denL_get hl hx
      refine pur_of h2 fun w => ?_
      unfold execOp
      simp [hop, Instr.extract, hy, h1]
    · cases h
  · cases h

theorem field_sound {t : TypeId} {x : Operand} {f : Nat} (hev : EvOk β tm ρ) (hop : o.op = .field t x f) (h : pop P tm o.op = some (vc, r)) : Pur P β ρ o r := by
  rw [hop] at h
  simp only [pop] at h
  split at h
  · rename_i T ht
    split at h
    · rename_i fs xs hk he
      split at h
      · rename_i off sz ag hf
        split at h
        · cases h
        · rename_i hsz
          obtain ⟨fields, hu, hfs, hall⟩ := kd_struct ht hk
          obtain ⟨fl, h1, rfl, h3, h4⟩ := fields_at hfs hf
          obtain ⟨ys, ha, hc⟩ := parts_sound (hev x) he
          have hus : (P.underlying fl.type).isSome = true := hall fl (List.mem_of_getElem? (by simpa using h1))
          have hp := fun w : World => part_run (w := w) h3 hsz hus ys.toArray fl.offset
          have run : ∀ (w : World) y, (part fl.type ys.toArray fl.offset).run P w = .ok y w → (execOp ρ o).run P w = .ok (.value y) w := by
            intro w y hy
            unfold execOp
            simp only [hop, ha, Instr.field, Sem.run_bind, underlying_run w hu, Result.andThen_ok, h1, asAgg, Sem.run_pure, hy]
          cases hag : ag with
          | true =>
            simp only [hag] at h h4
            simp only [if_pos h4] at hp
            split at h
            · rename_i c1 hc1
              split at h
              · rename_i c2 hc2
                obtain ⟨rfl, rfl⟩ := Prod.mk.inj (Option.some.inj h)
                obtain ⟨-, g1⟩ := denC_dr hc hc1
                obtain ⟨-, g2⟩ := denC_tk g1 hc2
                refine pur_of (pack_sound g2) fun w => run w _ ?_
                rw [hp w]
                congr 2
                apply Array.ext'
                simp [List.extract_eq_take_drop]
              · cases h
            · cases h
          | false =>
            simp only [hag] at h h4
            simp only [h4, Bool.false_eq_true, if_false] at hp
            split at h
            · rename_i r' hr
              obtain ⟨rfl, rfl⟩ := Prod.mk.inj (Option.some.inj h)
              obtain ⟨y, g1, g2⟩ := at1_sound hc hr
              simp only [show ys.toArray[fl.offset]? = some y by simpa using g1] at hp
              exact pur_of g2 fun w => run w _ (hp w)
            · cases h
      · cases h
    · cases h
  · cases h

theorem fillA_sound {pl : Nat → Option (Nat × Nat)} : ∀ {parts : List (Nat × Operand)} {cs r : List AV} {ys : List Value}, EvOk β tm ρ → DenC β cs ys →
    fillA pl cs (parts.map fun p => (p.1, ev tm p.2)) = some r → ∃ zs, DenC β r zs ∧ zs.length = ys.length ∧
      Instr.fill pl ys.toArray (parts.map fun p => (p.1, ρ p.2)) = some zs.toArray
  | [], cs, r, ys, _, hd, h => by
    simp only [List.map_nil, fillA, Option.some.injEq] at h
    subst h
    exact ⟨ys, hd, rfl, rfl⟩
  | (i, x) :: parts, cs, r, ys, hev, hd, h => by
    simp only [List.map_cons, fillA] at h
    split at h
    · cases h
    · rename_i o s hpl
      split at h
      · cases h
      · rename_i f hf
        split at h
        · cases h
        · rename_i c1 h1
          obtain ⟨hf1, hf2⟩ := den_flat (hev x) hf
          obtain ⟨g3, hnew⟩ := wrC_sound hf1 hf2 hd h1
          obtain ⟨zs, hz1, hz2, hz3⟩ := fillA_sound (pl := pl) hev hnew h
          have hlen : (ys.take o ++ ((ρ x).cells.toList ++ ys.drop (o + s))).length = ys.length := by simp; simp at hf2; omega
          refine ⟨zs, hz1, hz2.trans hlen, ?_⟩
          simp only [List.map_cons, Instr.fill, hpl]
          have hs : (ρ x).cells.size = s := by simpa using hf2
          rw [if_neg (by simp [hs]; simpa using g3)]
          rw [← hz3]
          congr 1
          -- the fold lays the cells at their place
          have fold : ∀ (l : List Value) (k : Nat) (cur : List Value), o + k + l.length ≤ cur.length →
              ((l.zipIdx k).foldl (fun (cs : Array Value) (x : Value × Nat) => cs.setIfInBounds (o + x.2) x.1) cur.toArray) = (cur.take (o + k) ++ (l ++ cur.drop (o + k + l.length))).toArray := by
            intro l
            induction l with
            | nil => intro k cur _; simp
            | cons v l ih =>
              intro k cur hk
              simp only [List.length_cons] at hk
              simp only [List.zipIdx_cons, List.foldl_cons, List.setIfInBounds_toArray]
              rw [ih (k + 1) _ (by simp; omega)]
              congr 1
              rw [List.set_eq_take_append_cons_drop, if_pos (by omega)]
              have e : (cur.take (o + k)).length = o + k := by simp; omega
              rw [show o + (k + 1) = (cur.take (o + k)).length + 1 by omega, List.take_length_add_append, show (cur.take (o + k)).length + 1 + l.length = (cur.take (o + k)).length + (1 + l.length) by omega, List.drop_length_add_append]
              simp only [List.take_succ_cons, List.take_zero, List.length_cons, e]
              rw [show 1 + l.length = l.length + 1 by omega, List.drop_succ_cons, List.drop_drop]
              simp only [List.append_assoc, List.cons_append, List.nil_append]
              congr 4
              omega
          have := fold (ρ x).cells.toList 0 ys (by simp [hs]; simpa using g3)
          simp only [Nat.add_zero, Array.length_toList, hs] at this
          rw [← this, ← Array.foldl_toList, Array.toList_zipIdx]

theorem numsV_sound {k : IntKind} : ∀ {vs : List Value} {xs : List Int}, numsV k vs = some xs → vs = xs.map (.int k) ∧ okN k xs
  | [], xs, h => by simp only [numsV, Option.some.injEq] at h; subst h; exact ⟨rfl, fun _ h => by cases h⟩
  | v :: r, xs, h => by
    obtain ⟨k', z, rfl⟩ : ∃ k' z, v = .int k' z := by
      cases v <;> first | exact ⟨_, _, rfl⟩ | (simp [numsV] at h)
    simp only [numsV] at h
    split at h
    · rename_i e
      split at h
      · rename_i zs hz
        obtain rfl := Option.some.inj h
        obtain ⟨h1, h2⟩ := numsV_sound hz
        refine ⟨by rw [h1, e.1]; rfl, fun y hy => ?_⟩
        rcases List.mem_cons.1 hy with rfl | hy
        · exact e.2
        · exact h2 y hy
      · cases h
    · cases h

theorem chunk_sound : ∀ {segs : List (Option (Nat × IntKind))} {vs : List Value} {cs : List AV}, (∀ v ∈ vs, one v = true) → chunk segs vs = some cs → DenC β cs vs
  | [], [], cs, _, h => by simp only [chunk, Option.some.injEq] at h; subst h; simp [DenC]
  | [], _ :: _, cs, _, h => by simp [chunk] at h
  | none :: ss, vs, cs, ho, h => by
    simp only [chunk] at h
    split at h
    · cases h
    · rename_i v r
      split at h
      · rename_i q hq
        obtain rfl := Option.some.inj h
        have h1 := ho v (by simp)
        exact (denC_cons (mk_scal h1)).2 ⟨v, r, rfl, den_mk β v, h1, chunk_sound (fun x hx => ho x (by simp [hx])) hq⟩
      · cases h
  | some (n, k) :: ss, vs, cs, ho, h => by
    simp only [chunk] at h
    split at h
    · rename_i hs
      split at h
      · rename_i zs hz
        split at h
        · rename_i q hq
          obtain rfl := Option.some.inj h
          obtain ⟨h1, h2⟩ := numsV_sound hz
          refine denC_ch.2 ⟨vs.drop n, by rw [← h1]; simp, ?_, h2, chunk_sound (fun x hx => ho x (List.mem_of_mem_drop hx)) hq⟩
          have := congrArg List.length h1
          simp at this; omega
        · cases h
      · cases h
    · cases h

/-- A type's zero cells. -/
theorem zc_spec {t : TypeId} {T : TI} {cs : List AV} (ht : ti P t = some T) (hz : T.zc = some cs) : ∃ i v, P.info? t = some i ∧ i.zero = some v ∧ DenC β cs v.cells.toList ∧ ∀ x ∈ v.cells.toList, one x = true := by
  obtain ⟨i, d, hi, -, -, -, -, -, -, hzc, -⟩ := ti_spec ht
  rw [hzc] at hz
  unfold zcOf at hz
  split at hz
  · cases hz
  · rename_i v hv
    split at hz
    · rename_i hone
      exact ⟨i, v, hi, hv, chunk_sound (fun x hx => List.all_eq_true.1 hone x hx) hz, fun x hx => List.all_eq_true.1 hone x hx⟩
    · cases hz

theorem places_run {w : World} : ∀ (l : List Field), nz (l.map fun f => (f.offset, P.cellsOf f.type, agOf P f.type)) = true →
    (l.mapM (m := Sem) fun f => do pure (f.offset, ← sizeOf f.type)).run P w = .ok (l.map fun f => (f.offset, P.cellsOf f.type)) w
  | [], _ => rfl
  | f :: l, h => by
    simp only [List.map_cons, nz] at h
    split at h
    · cases h
    · rename_i h0
      rw [List.mapM_cons]
      simp only [Sem.run_bind, sizeOf_pos w rfl h0, Result.andThen_ok, Sem.run_pure, List.map_cons, places_run l h]

theorem build_sound {t : TypeId} {ps : Array (Nat × Operand)} (hev : EvOk β tm ρ) (hop : o.op = .build t ps) (h : pop P tm o.op = some (vc, r)) : Pur P β ρ o r := by
  rw [hop] at h
  simp only [pop] at h
  split at h
  · rename_i T ht
    split at h
    · rename_i fs cs hk hz
      split at h
      · rename_i r' hf
        split at h
        · rename_i hnz
          obtain ⟨rfl, rfl⟩ := Prod.mk.inj (Option.some.inj h)
          obtain ⟨fields, hu, hfs, -⟩ := kd_struct ht hk
          obtain ⟨i, v, hi, hzz, hc, -⟩ := zc_spec (β := β) ht hz
          obtain ⟨zs, h1, h2, h3⟩ := fillA_sound hev hc hf
          refine pur_of (pack_sound h1) fun w => ?_
          have places := fun w : World => places_run (P := P) (w := w) fields.toList (by rw [← hfs]; exact hnz)
          have hpl : (fun j => (fields.toList.map fun f => (f.offset, P.cellsOf f.type)).toArray[j]?) = plFs fs := by
            funext j
            simp only [plFs, nth_eq, hfs, List.getElem?_map, List.getElem?_toArray]
            cases fields.toList[j]? <;> rfl
          unfold execOp
          simp only [hop, Instr.build, Sem.run_bind, zeroValue, typeInfo, hi, run_program, Result.andThen_ok, Sem.run_pure, hzz, underlying_run w hu]
          rw [← Array.toArray_toList (xs := fields), List.mapM_toArray]
          simp only [Sem.run_map, places, Result.andThen_ok]
          rw [hpl]
          have e : v.cells = v.cells.toList.toArray := by simp
          have e2 : (ps.map fun x => (x.1, ρ x.2)).toList = ps.toList.map fun p => (p.1, ρ p.2) := by simp
          rw [e, e2, h3]
          rfl
        · cases h
      · cases h
    · rename_i n e sz cs hk hz
      split at h
      · cases h
      · rename_i hsz
        split at h
        · rename_i r' hf
          obtain ⟨rfl, rfl⟩ := Prod.mk.inj (Option.some.inj h)
          obtain ⟨hu, hcz⟩ := kd_arr ht hk
          obtain ⟨i, v, hi, hzz, hc, -⟩ := zc_spec (β := β) ht hz
          obtain ⟨zs, h1, h2, h3⟩ := fillA_sound hev hc hf
          refine pur_of (pack_sound h1) fun w => ?_
          unfold execOp
          simp only [hop, Instr.build, Sem.run_bind, zeroValue, typeInfo, hi, run_program, Result.andThen_ok, Sem.run_pure, hzz, underlying_run w hu, sizeOf_pos w hcz hsz]
          have e : v.cells = v.cells.toList.toArray := by simp
          have e2 : (ps.map fun x => (x.1, ρ x.2)).toList = ps.toList.map fun p => (p.1, ρ p.2) := by simp
          rw [e, e2, h3]
          rfl
        · cases h
    · cases h
  · cases h

theorem one_arg {α : Type} {args : Array α} {x : α} (h : args.toList = [x]) : args = #[x] := by apply Array.ext'; simpa using h

theorem call_exec {b : Builtin} {args : Array Operand} {ats : Array TypeId} (hop : o.op = .call { callee := .builtin b, args := args, argTypes := ats }) {nx : Next} {w w' : World}
    (h : (builtin b ats o.type (args.map fun | .const _ => true | _ => false) (args.map ρ)).run P w = .ok nx w') : (execOp ρ o).run P w = .ok nx w' := by
  unfold execOp
  simp only [hop, Sem.run_bind, resolve, Sem.run_pure, Result.andThen_ok, invoke]
  exact h

theorem len_sound {args : Array Operand} {ats : Array TypeId} (hev : EvOk β tm ρ) (hop : o.op = .call { callee := .builtin .len, args, argTypes := ats }) (h : pop P tm o.op = some (vc, r)) : Pur P β ρ o r := by
  rw [hop] at h
  simp only [pop] at h
  split at h
  · rename_i x t hx htl
    obtain rfl := one_arg hx
    obtain rfl := one_arg htl
    split at h
    · rename_i T ht
      have hd := hev x
      have run : ∀ (m : Nat), m < 9223372036854775808 → (∀ w : World, (Builtin.len_ #[t] o.type #[ρ x]).run P w = .ok (goInt m) w) → Pur P β ρ o (.v (.int .i64 m)) := by
        intro m hlt hm
        refine pur_of (mk_len hlt) fun w => call_exec hop ?_
        simp only [builtin, List.map_toArray, List.map_cons, List.map_nil, Sem.run_bind, hm, Result.andThen_ok, Sem.run_pure]
        rfl
      split at h
      · rename_i hk
        obtain ⟨hu, -, -⟩ := kd_slice ht hk
        split at h
        · rename_i he
          obtain ⟨rfl, rfl⟩ := Prod.mk.inj (Option.some.inj h)
          rw [he] at hd
          simp only [Den] at hd
          obtain ⟨A, q, ha, h1, h2, -⟩ := hd
          exact run _ (by omega) fun w => by simp [Builtin.len_, ha, underlying_run w hu]
        · rename_i he
          obtain ⟨rfl, rfl⟩ := Prod.mk.inj (Option.some.inj h)
          rw [he] at hd
          simp only [Den] at hd
          obtain ⟨A, q, ha, h1, h2, -⟩ := hd
          exact run _ (by omega) fun w => by simp [Builtin.len_, ha, underlying_run w hu]
        · rename_i he
          obtain ⟨rfl, rfl⟩ := Prod.mk.inj (Option.some.inj h)
          rw [he] at hd
          simp only [Den] at hd
          obtain ⟨A, q, ys, ha, h1, h2, -⟩ := hd
          exact run _ (by omega) fun w => by simp [Builtin.len_, ha, underlying_run w hu]
        · rename_i he
          obtain ⟨rfl, rfl⟩ := Prod.mk.inj (Option.some.inj h)
          rw [he] at hd
          simp only [Den] at hd
          exact run 0 (by decide) fun w => by simp [Builtin.len_, hd, underlying_run w hu]
        · cases h
      · rename_i hk
        split at h
        · rename_i s he
          obtain ⟨rfl, rfl⟩ := Prod.mk.inj (Option.some.inj h)
          have hu := kd_str ht hk
          rw [he] at hd
          simp only [Den, wfV] at hd
          exact run _ hd.2.2 fun w => by simp [Builtin.len_, hd.1, underlying_run w hu]
        · cases h
      · rename_i hk
        split at h
        · rename_i hlt
          obtain ⟨rfl, rfl⟩ := Prod.mk.inj (Option.some.inj h)
          obtain ⟨hu, -⟩ := kd_arr ht hk
          exact run _ hlt fun w => by simp [Builtin.len_, underlying_run w hu]
        · cases h
      · cases h
    · cases h
  · cases h

theorem cap_sound {args : Array Operand} {ats : Array TypeId} (hev : EvOk β tm ρ) (hop : o.op = .call { callee := .builtin .cap, args, argTypes := ats }) (h : pop P tm o.op = some (vc, r)) : Pur P β ρ o r := by
  rw [hop] at h
  simp only [pop] at h
  split at h
  · rename_i x t hx htl
    obtain rfl := one_arg hx
    obtain rfl := one_arg htl
    split at h
    · rename_i T ht
      have hd := hev x
      have run : ∀ (m : Nat), m < 9223372036854775808 → (∀ w : World, (Builtin.cap_ #[t] o.type #[ρ x]).run P w = .ok (goInt m) w) → Pur P β ρ o (.v (.int .i64 m)) := by
        intro m hlt hm
        refine pur_of (mk_len hlt) fun w => call_exec hop ?_
        simp only [builtin, List.map_toArray, List.map_cons, List.map_nil, Sem.run_bind, hm, Result.andThen_ok, Sem.run_pure]
        rfl
      split at h
      · rename_i hk he
        obtain ⟨rfl, rfl⟩ := Prod.mk.inj (Option.some.inj h)
        obtain ⟨hu, -, -⟩ := kd_slice ht hk
        rw [he] at hd
        simp only [Den] at hd
        obtain ⟨A, q, ha, h1, h2, h3, -⟩ := hd
        obtain rfl := h3 _ rfl
        exact run _ (by omega) fun w => by simp [Builtin.cap_, ha, underlying_run w hu]
      · rename_i hk he
        obtain ⟨rfl, rfl⟩ := Prod.mk.inj (Option.some.inj h)
        obtain ⟨hu, -, -⟩ := kd_slice ht hk
        rw [he] at hd
        simp only [Den] at hd
        obtain ⟨A, q, ha, h1, h2, h3, -⟩ := hd
        obtain rfl := h3 _ rfl
        exact run _ (by omega) fun w => by simp [Builtin.cap_, ha, underlying_run w hu]
      · rename_i hk he
        obtain ⟨rfl, rfl⟩ := Prod.mk.inj (Option.some.inj h)
        obtain ⟨hu, -, -⟩ := kd_slice ht hk
        rw [he] at hd
        simp only [Den] at hd
        obtain ⟨A, q, ys, ha, h1, h2, h3, -⟩ := hd
        obtain rfl := h3 _ rfl
        exact run _ (by omega) fun w => by simp [Builtin.cap_, ha, underlying_run w hu]
      · rename_i hk he
        obtain ⟨rfl, rfl⟩ := Prod.mk.inj (Option.some.inj h)
        obtain ⟨hu, -, -⟩ := kd_slice ht hk
        rw [he] at hd
        simp only [Den] at hd
        exact run 0 (by decide) fun w => by simp [Builtin.cap_, hd, underlying_run w hu]
      · cases h
    · cases h
  · cases h

theorem minI_run {f : Int → Int → Int} {g : Value → Value → Sem Value} {k : IntKind} (hf : ∀ x y, f x y = x ∨ f x y = y) (hg : ∀ x y (w : World), (g (.int k x) (.int k y)).run P w = .ok (.int k (f x y)) w) :
    ∀ {xs : List AV} {ys : List Value} {x z : Int}, DenL β xs ys → inK k x = true → minI f k x xs = some z → inK k z = true ∧ ∀ w : World, (ys.foldlM g (.int k x)).run P w = .ok (.int k z) w
  | [], ys, x, z, hd, hx, h => by
    simp only [minI, Option.some.injEq] at h
    simp only [DenL] at hd
    subst h; subst hd
    exact ⟨hx, fun w => by simp⟩
  | a :: xs, ys, x, z, hd, hx, h => by
    simp only [DenL] at hd
    obtain ⟨y, zs, rfl, h1, h2⟩ := hd
    obtain ⟨k', v, rfl⟩ : ∃ k' v, a = .v (.int k' v) := by
      cases a with
      | v q => cases q <;> first | exact ⟨_, _, rfl⟩ | (simp [minI] at h)
      | _ => simp [minI] at h
    simp only [minI] at h
    split at h
    · rename_i hk
      subst hk
      obtain ⟨rfl, hv⟩ := den_int h1
      have hxy : inK k' (f x v) = true := by rcases hf x v with e | e <;> rw [e] <;> assumption
      obtain ⟨h3, h4⟩ := minI_run hf hg h2 hxy h
      exact ⟨h3, fun w => by simp only [List.foldlM_cons, Sem.run_bind, hg, Result.andThen_ok, h4]⟩
    · cases h

theorem minmax_sound {b : Builtin} {f : Int → Int → Int} {g : Value → Value → Sem Value} {args : Array Operand} {ats : Array TypeId} (hev : EvOk β tm ρ) (hop : o.op = .call { callee := .builtin b, args, argTypes := ats })
    (hf : ∀ x y, f x y = x ∨ f x y = y) (hg : ∀ k x y (w : World), (g (.int k x) (.int k y)).run P w = .ok (.int k (f x y)) w)
    (hb : ∀ (a c : Array Value) (t : TypeId) (ts : Array TypeId) (cs : Array Bool) (x : Value) (r : List Value), a.toList = x :: r → builtin b ts t cs a = do pure (.value (← r.foldlM g x)))
    (h : (match args.toList.map (ev tm) with
    | .v (.int k x) :: r => (match minI f k x r with
      | some z => some (true, AV.v (.int k z))
      | none => none)
    | _ => none) = some (vc, r)) : Pur P β ρ o r := by
  split at h
  · rename_i k x rest he
    split at h
    · rename_i z hz
      obtain ⟨rfl, rfl⟩ := Prod.mk.inj (Option.some.inj h)
      have hl := denL_map hev args.toList
      rw [he] at hl
      simp only [DenL] at hl
      obtain ⟨y, zs, h1, h2, h3⟩ := hl
      obtain ⟨rfl, hx⟩ := den_int h2
      obtain ⟨h4, h5⟩ := minI_run hf (hg k) h3 hx hz
      refine pur_of (mk_int h4) fun w => call_exec hop ?_
      rw [hb (args.map ρ) #[] _ _ _ _ _ (by simpa using h1)]
      simp only [Sem.run_bind, h5, Result.andThen_ok, Sem.run_pure]
    · cases h
  · cases h

/-- Every operation that looks at no memory. -/
theorem pop_sound (hev : EvOk β tm ρ) (h : pop P tm o.op = some (vc, r)) (hv : vc = true) : Pur P β ρ o r := by
  cases hop : o.op with
  | move x => rw [hop] at h; simp only [pop] at h; obtain ⟨-, rfl⟩ := Prod.mk.inj (Option.some.inj h); exact move_sound hev (.inl hop)
  | assign x => rw [hop] at h; simp only [pop] at h; obtain ⟨-, rfl⟩ := Prod.mk.inj (Option.some.inj h); exact move_sound hev (.inr hop)
  | pick c x y => exact pick_sound hev hop h
  | build t parts => exact build_sound hev hop h
  | nilCheck x => exact nilCheck_sound hev hop h hv
  | binOp op t x y u =>
    rw [hop] at h
    simp only [pop] at h
    split at h
    · rename_i T ht; exact bop_sound hop hev ht h hv
    · cases h
  | unOp op t x => exact unOp_sound hev hop h hv
  | convert src dst x => exact convert_sound hev hop h
  | makeFunc fn fst cap => exact makeFunc_sound hev hop h
  | fieldAddr s x f => exact fieldAddr_sound hev hop h
  | indexAddr t x ix => exact indexAddr_sound hev hop h hv
  | index t x ix => exact index_sound hev hop h hv
  | slice t x lo hi mx => exact slice_sound hev hop h hv
  | extract x i => exact extract_sound hev hop h
  | field t x f => exact field_sound hev hop h
  | call c =>
    obtain ⟨cal, args, ats⟩ := c
    cases cal with
    | builtin b =>
      cases b with
      | len => exact len_sound hev hop h
      | cap => exact cap_sound hev hop h
      | min =>
        rw [hop] at h
        refine minmax_sound (g := Builtin.min2) hev hop (fun x y => by omega) (fun k x y w => ?_) (fun a c t ts cs x r ha => ?_) h
        · simp only [Builtin.min2, Sem.run_pure]
          congr 2
          split <;> omega
        · simp only [builtin, Builtin.min_, ha]
      | max =>
        rw [hop] at h
        refine minmax_sound (g := Builtin.max2) hev hop (fun x y => by omega) (fun k x y w => ?_) (fun a c t ts cs x r ha => ?_) h
        · simp only [Builtin.max2, Sem.run_pure]
          congr 2
          split <;> omega
        · simp only [builtin, Builtin.max_, ha]
      | _ => rw [hop] at h; simp [pop] at h
    | _ => rw [hop] at h; simp [pop] at h
  | _ => rw [hop] at h; simp [pop] at h

end

end Go.SY
