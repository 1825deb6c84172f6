/-
  The symbolic machine: append, copy, strings turned into bytes are sound.
-/
import Derived.Test.YtdoeopcimhpjaaaSy11
set_option linter.unusedSimpArgs false
set_option linter.unusedVariables false
namespace Go.SY
open Go

section
variable {P : Program} {β : Env} {tm : List (Nat × AV)} {ρ : Operand → Value} {o : Oper} {vc : Bool} {r : AV} {bl bl' : Bls} {w : World}

theorem killO_len (l : Option Nat) (bl : Bls) : (killO l bl).length = bl.length := by
  cases l with
  | none => rfl
  | some l => simp [killO, setl_set]

theorem killO_ext (hh : Heap β bl w) (l : Option Nat) : Ext β bl w β (killO l bl) w := by
  cases l with
  | none => exact .refl hh
  | some l => simp only [killO, setl_set]; exact hh.kill l

theorem append_zero {t u ty e : TypeId} {i : TypeInfo} {A : Option Addr} {by_ : Nat} {x : Value} {vs : List Value} (ht : P.underlying t = some (.slice e)) (hi : P.info? e = some i) (hs : i.size ≠ 0) (hby : i.bytes = by_) (hsrc : Src P u e i.size by_ x 0 vs w) (hvs : vs = []) :
    (Builtin.append_ #[t, u] ty #[.slice A 0 0, x]).run P w = .ok (.slice A 0 0) w := by
  subst hvs
  rcases hsrc with ⟨⟨d, hd, hnd⟩, hlen, hf⟩ | ⟨⟨k, hd⟩, ⟨k', rfl⟩, h63, h48, z, hz, hn, hs0⟩
  · have hlen := hlen w
    have hf := hf w rfl
    have hz2 : ∀ {α : Type} (A B : α), (match d with | .int _ => A | _ => B) = B := by intro α A B; cases d <;> first | rfl | exact absurd rfl (hnd _)
    cases A with
    | none => simp [Builtin.append_, underlying_run w ht, underlying_run w hd, hz2, sizeOf, typeInfo, hi, hlen, hf]
    | some A => simp [Builtin.append_, underlying_run w ht, underlying_run w hd, hz2, sizeOf, typeInfo, hi, hlen, hf, storeCells]
  · have e0 : IntKind.i64.wrap (0 : Int) = 0 := by decide
    cases A with
    | none => simp [Builtin.append_, underlying_run w ht, underlying_run w hd, sizeOf, typeInfo, hi, asInt, asIntOf, e0]
    | some A => simp [Builtin.append_, underlying_run w ht, underlying_run w hd, sizeOf, typeInfo, hi, asInt, asIntOf, e0, storeCells]

theorem zeroCells_ones {z : Array Value} {p : Value → Prop} (hz : ∀ x ∈ z.toList, p x) (hs : z.size ≠ 0) (m : Nat) : ∀ x ∈ (Builtin.zeroCells z m).toList, p x := by
  intro x hx
  simp only [Builtin.zeroCells, Array.toList_map, List.mem_map] at hx
  obtain ⟨j, -, rfl⟩ := hx
  have hlt : j % z.size < z.size := Nat.mod_lt _ (by omega)
  refine hz _ ?_
  rw [getElem!_pos z (j % z.size) hlt]
  simp

/-- What is appended to, in a world. -/
def DstOk (β : Env) (bl : Bls) (w : World) (K : Option IntKind) (Z : Bool) (sz : Nat) (A : Option Addr) (n q : Nat) (l : Option Nat) (us : List Value) : Prop :=
  (l = none ∧ n = 0 ∧ q = 0) ∨ (∃ lv c, l = some lv ∧ lvl bl lv = some c ∧ n ≤ q ∧ q < 9223372036854775808 ∧
    (q ≠ 0 → ∃ (b s : Nat) (ys sp : List Value) (T : TypeId) (fz : Nat × Nat), β.b[lv]? = some (some (b, s)) ∧ A = some ⟨b, 0, none⟩ ∧ q * sz ≤ s ∧ w.heap[b]? = some (.cells (ys ++ sp).toArray T fz) ∧ ys.length + sp.length = s ∧ (∀ x ∈ ys, SpV K x) ∧ (∀ x ∈ sp, SpV K x) ∧
      FzOk Z fz s ∧ ys.take (n * sz) = us ∧ n * sz ≤ ys.length))

/-- What append comes to. -/
theorem app_core {s x : Operand} {t u e : TypeId} {i : TypeInfo} {z : Value} {sz by_ n q m : Nat} {A : Option Addr} {l : Option Nat} {us vs : List Value} {c' : Ct} (hh : Heap β bl w)
    (hop : o.op = .call { callee := .builtin .append, args := #[s, x], argTypes := #[t, u] }) (ht : P.underlying t = some (.slice e)) (hi : P.info? e = some i) (hzz : i.zero = some z) (hzo : ∀ x ∈ z.cells.toList, SpV (spk c') x)
    (hzl : z.cells.toList.length = sz) (hsz : i.size = sz) (h0 : sz ≠ 0) (hby : i.bytes = by_) (hs : ρ s = .slice A n q) (hus : us.length = n * sz)
    (hd : DstOk β bl w (spk c') (spz c') sz A n q l us)
    (hsrc : Src P u e sz by_ (ρ x) m vs w) (hvs : vs.length = m * sz) (hone : ∀ v ∈ vs, one v = true) (hb : (n + m) * by_ ≤ 140737488355328) (hb2 : n + m < 9223372036854775808) (hc' : CsDen β c' (us ++ vs)) :
    Eff P β bl w ρ o (.sl bl.length 0 sz (n + m) none) (killO l bl ++ [some c']) := by
  subst hsz
  have exec : ∀ {y : Value} {w' : World}, (Builtin.append_ #[t, u] o.type #[ρ s, ρ x]).run P w = .ok y w' → (execOp ρ o).run P w = .ok (.value y) w' := by
    intro y w' h
    refine call_exec hop ?_
    simp only [builtin, List.map_toArray, List.map_cons, List.map_nil, Sem.run_bind, h, Result.andThen_ok, Sem.run_pure]
  rw [hs] at exec
  have hkill := killO_ext hh l
  have hklen := killO_len l bl
  have hc1 : ∀ {β' : Env}, β.le β' → CsDen β' c' (us ++ vs) := fun h => hc'.mono h
  by_cases hroom : n + m ≤ q
  · by_cases hq0 : q = 0
    · -- nothing is there, and nothing comes
      subst hq0
      obtain rfl : n = 0 := by omega
      obtain rfl : m = 0 := by omega
      have hu0 : us = [] := List.length_eq_zero_iff.1 (by omega)
      have hv0 : vs = [] := List.length_eq_zero_iff.1 (by omega)
      have hrun := append_zero (P := P) (ty := o.type) (A := A) ht hi h0 hby hsrc hv0
      have he := hkill.heap.nothing (c := c') (by rw [hu0, hv0] at hc'; exact hc')
      refine ⟨_, w, _, .inl (exec hrun), ?_, hkill.trans he⟩
      simp only [Den]
      exact ⟨A, 0, rfl, Nat.le_refl _, by decide, (fun m hm => by cases hm), fun h => absurd rfl h⟩
    · rcases hd with ⟨-, -, h⟩ | ⟨lv, c, rfl, hl, hnq, hq, hA⟩
      · exact absurd h hq0
      · obtain ⟨b, sb, ys, sp, T, fz, hbb, rfl, hfit, hg, hlen, hys, hsp, hfz, h1, h2⟩ := hA hq0
        have hfit2 : n * i.size + m * i.size ≤ (ys ++ sp).length := by
          rw [List.length_append, hlen, ← Nat.add_mul]
          exact Nat.le_trans (Nat.mul_le_mul_right _ hroom) hfit
        have hrun := append_room (P := P) (ty := o.type) ht hi hby hg (by simpa [hlen] using hfz.2.1) hsrc hvs hone hroom hfit2
        have e1 : (ys ++ sp).take (n * i.size) ++ (vs ++ (ys ++ sp).drop (n * i.size + m * i.size)) = (us ++ vs) ++ (ys ++ sp).drop (n * i.size + m * i.size) := by
          rw [List.take_append_of_le_length h2, h1]; simp
        rw [e1] at hrun
        have hw := hh.write2 (c' := c') (ys' := us ++ vs) (sp' := (ys ++ sp).drop (n * i.size + m * i.size)) (lvl_get hl) hbb hg
          (by rw [List.length_drop, List.length_append, List.length_append, hlen, hus, hvs]; rw [List.length_append, hlen] at hfit2; omega)
          (fun x hx => by
            have := List.mem_of_mem_drop hx
            rcases List.mem_append.1 this with h | h
            · exact hys x h
            · exact hsp x h) hfz hc'
        have hl' : (bl.set lv (some c'))[lv]? = some (some c') := by
          rw [List.getElem?_set_self (List.getElem?_eq_some_iff.1 (lvl_get hl)).1]
        have hr := hw.heap.rename hl' hbb
        have hx := hw.trans hr
        rw [List.set_set, ← setl_set] at hx
        refine ⟨_, _, _, .inl (exec hrun), ?_, hx⟩
        simp only [Den]
        refine ⟨_, q, rfl, hroom, hq, (fun m hm => by cases hm), fun _ => ⟨b, sb, ?_, by simp, by simpa using hfit⟩⟩
        rw [← hh.len]; simp
  · -- a new block
    have hnq : n ≤ q ∧ q < 9223372036854775808 := by
      rcases hd with ⟨-, h1, h2⟩ | ⟨-, -, -, -, h1, h2, -⟩
      · omega
      · exact ⟨h1, h2⟩
    have hold := cells_read (P := P) (w := w) (A := A) (m := n) (q := q) (size := i.size) (vs := us) hnq.1 hus (fun hq0 => by
      rcases hd with ⟨-, -, h⟩ | ⟨lv, c, rfl, hl, -, -, hA⟩
      · exact absurd h hq0
      · obtain ⟨b, sb, ys, sp, T, fz, hbb, rfl, -, hg, hlen, -, -, -, h1, h2⟩ := hA hq0
        refine ⟨b, 0, rfl, _, T, fz, hg, fun j v hj => ?_⟩
        have hlt := (List.getElem?_eq_some_iff.1 hj).1
        rw [← h1, List.getElem?_take_of_lt (by omega)] at hj
        simp only [Nat.zero_add, List.getElem?_toArray]
        rw [List.getElem?_append_left (by omega), hj])
    have hg : q < n + m := by omega
    obtain ⟨Q, hq1, hq2, hrun⟩ := append_grow (P := P) (ty := o.type) ht hi hzz hby hold hsrc hg (by omega) (growslice_fits hg (by rw [hby]; exact hb))
    have hm := hkill.heap.row (c := c') (ys := us ++ vs) (sp := (Builtin.zeroCells z.cells (Q - (n + m))).toList) e hc' (zeroCells_ones hzo (by simpa [← hzl] using h0) _)
      (w' := w.drew.alloc (.cells (us.toArray ++ (vs.toArray ++ Builtin.zeroCells z.cells (Q - (n + m)))) e)) (by
        show w.heap.push _ = _
        congr 2
        apply Array.ext'
        simp) rfl rfl rfl
    refine ⟨_, _, _, .inl (exec hrun), ?_, hkill.trans hm⟩
    simp only [Den]
    refine ⟨_, Q, rfl, hq1, by omega, (fun m hm => by cases hm), fun _ => ⟨w.heap.size, (us ++ vs).length + (Builtin.zeroCells z.cells (Q - (n + m))).toList.length, ?_, by simp, ?_⟩⟩
    · rw [← hklen]; exact at_new hkill.heap
    · have hzs : z.cells.size = i.size := by simpa using hzl
      rw [List.length_append, hus, hvs]
      simp only [Builtin.zeroCells, Array.length_toList, Array.size_map, Array.size_range, Nat.zero_add, hzs]
      rw [← Nat.add_mul, ← Nat.add_mul]
      exact Nat.mul_le_mul_right _ (by omega)

/-- What append comes to where there is no room: what was there stays. -/
theorem app_grow {s x : Operand} {t u e : TypeId} {i : TypeInfo} {z : Value} {sz by_ n q m : Nat} {A : Option Addr} {l : Option Nat} {us vs : List Value} {c' : Ct} (hh : Heap β bl w)
    (hop : o.op = .call { callee := .builtin .append, args := #[s, x], argTypes := #[t, u] }) (ht : P.underlying t = some (.slice e)) (hi : P.info? e = some i) (hzz : i.zero = some z) (hzo : ∀ x ∈ z.cells.toList, SpV (spk c') x)
    (hzl : z.cells.toList.length = sz) (hsz : i.size = sz) (h0 : sz ≠ 0) (hby : i.bytes = by_) (hs : ρ s = .slice A n q) (hus : us.length = n * sz)
    (hd : DstOk β bl w (spk c') (spz c') sz A n q l us)
    (hsrc : Src P u e sz by_ (ρ x) m vs w) (hvs : vs.length = m * sz) (hone : ∀ v ∈ vs, one v = true) (hb : (n + m) * by_ ≤ 140737488355328) (hb2 : n + m < 9223372036854775808) (hc' : CsDen β c' (us ++ vs)) (hroom : ¬ n + m ≤ q) :
    Eff P β bl w ρ o (.sl bl.length 0 sz (n + m) none) (bl ++ [some c']) := by
  subst hsz
  have exec : ∀ {y : Value} {w' : World}, (Builtin.append_ #[t, u] o.type #[ρ s, ρ x]).run P w = .ok y w' → (execOp ρ o).run P w = .ok (.value y) w' := by
    intro y w' h
    refine call_exec hop ?_
    simp only [builtin, List.map_toArray, List.map_cons, List.map_nil, Sem.run_bind, h, Result.andThen_ok, Sem.run_pure]
  rw [hs] at exec
  have hc1 : ∀ {β' : Env}, β.le β' → CsDen β' c' (us ++ vs) := fun h => hc'.mono h
  have hnq : n ≤ q ∧ q < 9223372036854775808 := by
    rcases hd with ⟨-, h1, h2⟩ | ⟨-, -, -, -, h1, h2, -⟩
    · omega
    · exact ⟨h1, h2⟩
  have hold := cells_read (P := P) (w := w) (A := A) (m := n) (q := q) (size := i.size) (vs := us) hnq.1 hus (fun hq0 => by
    rcases hd with ⟨-, -, h⟩ | ⟨lv, c, rfl, hl, -, -, hA⟩
    · exact absurd h hq0
    · obtain ⟨b, sb, ys, sp, T, fz, hbb, rfl, -, hg, hlen, -, -, -, h1, h2⟩ := hA hq0
      refine ⟨b, 0, rfl, _, T, fz, hg, fun j v hj => ?_⟩
      have hlt := (List.getElem?_eq_some_iff.1 hj).1
      rw [← h1, List.getElem?_take_of_lt (by omega)] at hj
      simp only [Nat.zero_add, List.getElem?_toArray]
      rw [List.getElem?_append_left (by omega), hj])
  have hg : q < n + m := by omega
  obtain ⟨Q, hq1, hq2, hrun⟩ := append_grow (P := P) (ty := o.type) ht hi hzz hby hold hsrc hg (by omega) (growslice_fits hg (by rw [hby]; exact hb))
  have hm := hh.row (c := c') (ys := us ++ vs) (sp := (Builtin.zeroCells z.cells (Q - (n + m))).toList) e hc' (zeroCells_ones hzo (by simpa [← hzl] using h0) _)
    (w' := w.drew.alloc (.cells (us.toArray ++ (vs.toArray ++ Builtin.zeroCells z.cells (Q - (n + m)))) e)) (by
      show w.heap.push _ = _
      congr 2
      apply Array.ext'
      simp) rfl rfl rfl
  refine ⟨_, _, _, .inl (exec hrun), ?_, hm⟩
  simp only [Den]
  refine ⟨_, Q, rfl, hq1, by omega, (fun m hm => by cases hm), fun _ => ⟨w.heap.size, (us ++ vs).length + (Builtin.zeroCells z.cells (Q - (n + m))).toList.length, ?_, by simp, ?_⟩⟩
  · exact at_new hh
  · have hzs : z.cells.size = i.size := by simpa using hzl
    rw [List.length_append, hus, hvs]
    simp only [Builtin.zeroCells, Array.length_toList, Array.size_map, Array.size_range, Nat.zero_add, hzs]
    rw [← Nat.add_mul, ← Nat.add_mul]
    exact Nat.mul_le_mul_right _ (by omega)

theorem dstN_run {k : IntKind} {x : AV} {y : Value} {l : Option Nat} {olds : List Int} (hh : Heap β bl w) (hd : Den β x y) (h : dstN k bl x = some (vc, l, olds)) (hv : vc = true) :
    ∃ A q, y = .slice A olds.length q ∧ okN k olds ∧ DstOk β bl w (some k) (spz (.num k [])) 1 A olds.length q l (olds.map (.int k)) := by
  cases x <;> simp only [dstN] at h <;> try (cases h; done)
  · simp only [Option.some.injEq, Prod.mk.injEq] at h
    obtain ⟨-, rfl, rfl⟩ := h
    simp only [Den] at hd
    exact ⟨none, 0, hd, (fun _ h => by simp at h), .inl ⟨rfl, rfl, rfl⟩⟩
  · rename_i lv i w' n c
    simp only [Den] at hd
    obtain ⟨A, q, rfl, h1, h2, h3, h4⟩ := hd
    split at h
    · simp only [Option.some.injEq, Prod.mk.injEq] at h
      obtain ⟨-, rfl, rfl⟩ := h
      obtain rfl : q = 0 := h3 0 rfl
      obtain rfl : n = 0 := by omega
      exact ⟨A, 0, rfl, (fun _ h => by simp at h), .inl ⟨rfl, rfl, rfl⟩⟩
    · split at h
      · rename_i k' xs hl
        split at h
        · rename_i hk
          split at h
          · rename_i hw
            split at h
            · rename_i hi
              simp only [Option.some.injEq, Prod.mk.injEq] at h
              obtain ⟨rfl, rfl, rfl⟩ := h
              subst hk; subst hw; subst hi
              have hv := of_decide_eq_true hv
              have hlen : (xs.take n).length = n := by simp; omega
              have hok : okN k' xs := by
                obtain ⟨base, hbase, hin⟩ := hh.lv lv _ (lvl_get hl)
                unfold CtIn at hin
                cases base with
                | none => exact hin.2
                | some p =>
                  rcases hin with ⟨-, ys, sp, T, fz, -, -, hc, -⟩ | ⟨hf, -⟩
                  · exact hc.2
                  · cases hf
              refine ⟨A, q, by rw [hlen], okN_take hok _, .inr ⟨lv, _, rfl, hl, by omega, h2, fun hq => ?_⟩⟩
              obtain ⟨b, s, hb, hA, hf⟩ := h4 hq
              obtain ⟨ys, sp, T, fz, hg, hs, hc, hsp, hfz⟩ := heap_cells hh hl hb rfl
              have hc' := hc
              simp only [CsDen] at hc
              obtain ⟨rfl, -⟩ := hc
              refine ⟨b, s, _, sp, T, fz, hb, by simpa using hA, by simpa using hf, hg, hs, SpV.num hok, hsp, hfz, ?_, ?_⟩
              · rw [hlen, Nat.mul_one, List.map_take]
              · rw [hlen]; simp; omega
            · cases h
          · cases h
        · cases h
      · cases h
  · rename_i t k' xs c
    split at h
    · simp only [Option.some.injEq, Prod.mk.injEq] at h
      obtain ⟨-, rfl, rfl⟩ := h
      simp only [Den] at hd
      obtain ⟨A, q, rfl, h1, h2, h3, h4, h5⟩ := hd
      obtain rfl : q = 0 := h3 0 rfl
      have : xs.length = 0 := by omega
      exact ⟨A, 0, by rw [this]; rfl, (fun _ h => by simp at h), .inl ⟨rfl, rfl, rfl⟩⟩
    · cases h

theorem dstR_run {w' : Nat} {x : AV} {y : Value} {l : Option Nat} {olds : List (List AV)} (hh : Heap β bl w) (hd : Den β x y) (h : dstR w' bl x = some (vc, l, olds)) (hv : vc = true) :
    ∃ A q us, y = .slice A olds.length q ∧ DenR β w' olds us ∧ DstOk β bl w none true w' A olds.length q l us := by
  cases x <;> simp only [dstR] at h <;> try (cases h; done)
  · simp only [Option.some.injEq, Prod.mk.injEq] at h
    obtain ⟨-, rfl, rfl⟩ := h
    simp only [Den] at hd
    exact ⟨none, 0, [], hd, by simp [DenR], .inl ⟨rfl, rfl, rfl⟩⟩
  · rename_i lv i w2 n c
    simp only [Den] at hd
    obtain ⟨A, q, rfl, h1, h2, h3, h4⟩ := hd
    split at h
    · simp only [Option.some.injEq, Prod.mk.injEq] at h
      obtain ⟨-, rfl, rfl⟩ := h
      obtain rfl : q = 0 := h3 0 rfl
      obtain rfl : n = 0 := by omega
      exact ⟨A, 0, [], rfl, by simp [DenR], .inl ⟨rfl, rfl, rfl⟩⟩
    · split at h
      · rename_i w3 rs hl
        split at h
        · rename_i hw3
          split at h
          · rename_i hw
            split at h
            · rename_i hi
              simp only [Option.some.injEq, Prod.mk.injEq] at h
              obtain ⟨rfl, rfl, rfl⟩ := h
              subst hw3; subst hw; subst hi
              have hv := of_decide_eq_true hv
              have hlen : (rs.take n).length = n := by simp; omega
              obtain ⟨base, hbase, hin⟩ := hh.lv lv _ (lvl_get hl)
              cases base with
              | none =>
                have hr : DenR β w2 rs [] := hin
                refine ⟨A, q, _, by rw [hlen], denR_take n hr, .inr ⟨lv, _, rfl, hl, by omega, h2, fun hq => ?_⟩⟩
                obtain ⟨b, s, hb, -⟩ := h4 hq
                rw [hbase] at hb; cases hb
              | some p =>
                obtain ⟨b, s⟩ := p
                obtain ⟨ys, sp, T, fz, hg, hs, hc, hsp, hfz⟩ := heap_cells hh hl hbase rfl
                have hc' := hc
                simp only [CsDen] at hc
                have hlr := denR_len hc
                refine ⟨A, q, ys.take (n * w2), by rw [hlen], denR_take n hc, .inr ⟨lv, _, rfl, hl, by omega, h2, fun hq => ?_⟩⟩
                obtain ⟨b', s', hb, hA, hf⟩ := h4 hq
                rw [hbase] at hb; cases hb
                refine ⟨b, s, ys, sp, T, fz, hbase, by simpa using hA, by simpa using hf, hg, hs, fun x hx => SpV.none (hc'.ones x hx), hsp, hfz, by rw [hlen], ?_⟩
                rw [hlen, hlr]; exact Nat.mul_le_mul_right _ hv
            · cases h
          · cases h
        · cases h
      · cases h
  · rename_i t w2 rs c
    split at h
    · simp only [Option.some.injEq, Prod.mk.injEq] at h
      obtain ⟨-, rfl, rfl⟩ := h
      simp only [Den] at hd
      obtain ⟨A, q, ys, rfl, h1, h2, h3, h4, h5⟩ := hd
      obtain rfl : q = 0 := h3 0 rfl
      have : rs.length = 0 := by omega
      exact ⟨A, 0, [], by rw [this]; rfl, by simp [DenR], .inl ⟨rfl, rfl, rfl⟩⟩
    · cases h

end

end Go.SY
