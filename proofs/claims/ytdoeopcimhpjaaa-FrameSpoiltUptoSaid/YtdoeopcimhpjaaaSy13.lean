/-
  The symbolic machine: append, copy, bytes of a string: sound; all operations that write or make memory.
-/
import Derived.Test.YtdoeopcimhpjaaaSy12
import Derived.Laws.IdiomStrings
set_option linter.unusedSimpArgs false
set_option linter.unusedVariables false
namespace Go.SY
open Go

section
variable {P : Program} {β : Env} {tm : List (Nat × AV)} {ρ : Operand → Value} {o : Oper} {vc : Bool} {r : AV} {bl bl' : Bls} {w : World}

theorem kd_under {T : TI} {t : TypeId} (ht : ti P t = some T) : ∃ d, P.underlying t = some d ∧ T.kd = kdOf P d := by
  obtain ⟨i, d, -, hu, -, -, -, hkd, -⟩ := ti_spec ht
  exact ⟨d, hu, hkd⟩

theorem kdOf_notInt {d : TypeDesc} (h : ∀ k, kdOf P d ≠ .int k) : ∀ k, d ≠ .int k := fun k e => by subst e; exact h k rfl

theorem srcN_run {t u e : TypeId} {k : IntKind} {z : Int} {by_ : Nat} {U E : TI} {x : AV} {y : Value} {news : List Int} (hh : Heap β bl w) (hu : ti P u = some U) (hE : ti P e = some E) (hz : E.zc = some [.v (.int k z)])
    (hd : Den β x y) (h : srcN k z by_ U.kd bl x = some (vc, news)) (hv : vc = true) : Src P u e 1 by_ y news.length (news.map (.int k)) w ∧ okN k news := by
  obtain ⟨d, hud, hkd⟩ := kd_under hu
  unfold srcN at h
  split at h
  · -- so many noughts
    rename_i k' k2 m hk
    simp only [Option.some.injEq, Prod.mk.injEq] at h
    obtain ⟨rfl, rfl⟩ := h
    simp only [Bool.and_eq_true, decide_eq_true_eq] at hv
    obtain ⟨h1, h2, h3⟩ := hv
    obtain ⟨hy, -⟩ := den_int hd
    obtain ⟨i, v, hi, hzz, hc, -⟩ := zc_spec (β := β) hE hz
    obtain ⟨y', zs, e1, e2, -, e3⟩ := (denC_cons (by rfl)).1 hc
    simp only [DenC] at e3
    obtain ⟨rfl, hok⟩ := den_int e2
    subst e3
    obtain ⟨m, rfl⟩ := Int.eq_ofNat_of_zero_le h1
    simp only [Int.toNat_natCast, List.length_replicate] at *
    have hvc : v.cells = #[.int k z] := by apply Array.ext'; exact e1
    refine ⟨.inr ⟨⟨k', by rw [hud, kdOf_int (P := P) (d := d) (k := k') (by rw [← hkd]; exact hk)]⟩, ⟨k2, hy⟩, by omega, ?_, v, fun w' => by simp [zeroValue, typeInfo, hi, hzz], ?_, by decide⟩, fun q hq => by rw [List.eq_of_mem_replicate hq]; exact hok⟩
    · have : ((m * by_ : Nat) : Int) ≤ 281474976710656 := by rw [Int.natCast_mul]; exact h2
      omega
    · rw [hvc]
      apply Array.ext'
      simp only [Builtin.zeroCells, Array.toList_map, Array.toList_range]
      apply List.ext_getElem?
      intro j
      simp only [List.getElem?_map, List.size_toArray, List.length_cons, List.length_nil, Nat.zero_add, Nat.mul_one, Nat.mod_one]
      by_cases hj : j < m
      · simp [hj]
      · simp [hj]
  · -- a string
    rename_i s hk
    split at h
    · rename_i hk8
      subst hk8
      simp only [Option.some.injEq, Prod.mk.injEq] at h
      obtain ⟨rfl, rfl⟩ := h
      simp only [Den] at hd
      refine ⟨.inl ⟨⟨d, hud, kdOf_notInt fun k => by rw [← hkd, hk]; simp⟩, fun w' => by rw [hd.1, bytesL_len]; rfl, fun w' _ => ?_⟩, bytesL_ok s⟩
      rw [hd.1, bytesL_len]
      simp [Builtin.firstCells]
      apply Array.ext'
      simp [bytesL]
    · cases h
  · -- a slice
    rename_i e' s' b' hk
    obtain ⟨A, q, rfl, h1, h2, h3, h4⟩ := numsAt_run hh hd h hv
    refine ⟨.inl ⟨⟨d, hud, kdOf_notInt fun k => by rw [← hkd, hk]; simp⟩, fun w' => rfl, ?_⟩, h3⟩
    exact cells_read (P := P) (w := w) (size := 1) h1 (by simp) h4
  · cases h

theorem appN_sound {s x : Operand} {t u e : TypeId} {T U E : TI} {k : IntKind} {z : Int} {by_ : Nat} {c1 c2 : Bool} {l : Option Nat} {olds news : List Int} (hev : EvOk β tm ρ) (hh : Heap β bl w)
    (hop : o.op = .call { callee := .builtin .append, args := #[s, x], argTypes := #[t, u] }) (ht : ti P t = some T) (hk : T.kd = .slice e 1 by_) (hu : ti P u = some U) (hE : ti P e = some E) (hz : E.zc = some [.v (.int k z)])
    (hdst : dstN k bl (ev tm s) = some (c1, l, olds)) (hsrc : srcN k z by_ U.kd bl (ev tm x) = some (c2, news)) (h1 : c1 = true) (h2 : c2 = true) (h3 : (olds ++ news).length * by_ ≤ 140737488355328) (h0 : by_ ≠ 0) :
    Eff P β bl w ρ o (.sl bl.length 0 1 (olds ++ news).length none) (killO l bl ++ [some (.num k (olds ++ news))]) := by
  obtain ⟨hut, hcz, hbz⟩ := kd_slice ht hk
  obtain ⟨i, v, hi, hzz, hc, hone⟩ := zc_spec (β := β) hE hz
  have hvl : v.cells.toList.length = 1 := by
    obtain ⟨y', zs, e1, -, -, e3⟩ := (denC_cons (by rfl)).1 hc
    simp only [DenC] at e3; rw [e1, e3]; rfl
  have hone' : ∀ x ∈ v.cells.toList, SpV (some k) x := by
    obtain ⟨y', zs, e1, e2, -, e3⟩ := (denC_cons (by rfl)).1 hc
    simp only [DenC] at e3
    subst e3
    simp only [Den] at e2
    intro x hx
    rw [e1] at hx
    obtain rfl := List.mem_singleton.1 hx
    exact ⟨by rw [e2.1]; exact e2.2.1, fun kk e => by cases e; exact ⟨z, e2.1, e2.2.2⟩⟩
  have hsz : i.size = 1 := by have := hcz; simp only [Program.cellsOf, hi] at this; simpa using this
  have hby : i.bytes = by_ := by have := hbz; simp only [Program.bytesOf, hi] at this; simpa using this
  obtain ⟨A, q, hs, hok1, hd⟩ := dstN_run hh (hev s) hdst h1
  obtain ⟨hsr, hok2⟩ := srcN_run (t := t) hh hu hE hz (hev x) hsrc h2
  have hb2 : olds.length + news.length < 9223372036854775808 := by
    have : (olds ++ news).length * 1 ≤ (olds ++ news).length * by_ := Nat.mul_le_mul_left _ (by omega)
    rw [List.length_append] at this h3
    omega
  have := app_core (us := olds.map (.int k)) (vs := news.map (.int k)) (c' := .num k (olds ++ news)) hh hop hut hi hzz hone' hvl hsz (by decide) hby hs (by simp) hd hsr (by simp) (by simp [one]) (by rw [← List.length_append]; exact h3) hb2 ⟨by simp, okN_append hok1 hok2⟩
  rw [List.length_append]
  exact this

/-- Numbers laid behind others, in place: there is known to be room. -/
theorem app_inN {s x : Operand} {t u e : TypeId} {i : TypeInfo} {k : IntKind} {by_ n q m lv : Nat} {A : Option Addr} {olds news xs : List Int} (hh : Heap β bl w)
    (hop : o.op = .call { callee := .builtin .append, args := #[s, x], argTypes := #[t, u] }) (ht : P.underlying t = some (.slice e)) (hi : P.info? e = some i) (hsz : i.size = 1) (hby : i.bytes = by_) (hs : ρ s = .slice A n q)
    (hl : lvl bl lv = some (.num k xs)) (hq : q < 9223372036854775808) (hA : ∃ b sb, β.b[lv]? = some (some (b, sb)) ∧ A = some ⟨b, 0, none⟩ ∧ q ≤ sb) (ho : olds = xs.take n) (hn : n ≤ xs.length) (hm : news.length = m)
    (hsrc : Src P u e 1 by_ (ρ x) m (news.map (.int k)) w) (hok : okN k news) (hroom : n + m ≤ q) :
    Eff P β bl w ρ o (.sl bl.length 0 1 (n + m) (some q)) (setl bl lv none ++ [some (.num k (olds ++ (news ++ xs.drop (n + m))))]) := by
  have exec : ∀ {y : Value} {w' : World}, (Builtin.append_ #[t, u] o.type #[ρ s, ρ x]).run P w = .ok y w' → (execOp ρ o).run P w = .ok (.value y) w' := by
    intro y w' h
    refine call_exec hop ?_
    simp only [builtin, List.map_toArray, List.map_cons, List.map_nil, Sem.run_bind, h, Result.andThen_ok, Sem.run_pure]
  rw [hs] at exec
  obtain ⟨b, sb, hbb, rfl, hfit⟩ := hA
  obtain ⟨ys, sp, T, fz, hg, hlen, hc, hsp, hfz⟩ := heap_cells hh hl hbb rfl
  simp only [CsDen] at hc
  obtain ⟨rfl, hok0⟩ := hc
  have hyl : (xs.map (Value.int k)).length = xs.length := by simp
  have hvs : (news.map (Value.int k)).length = m * i.size := by rw [hsz]; simpa using hm
  have hfit2 : n * i.size + m * i.size ≤ (xs.map (Value.int k) ++ sp).length := by
    rw [List.length_append, hlen, hsz]; omega
  have hrun := append_room (P := P) (ty := o.type) ht hi hby hg (by intro j j1 j2; have := hfz.2.1 j j1 j2; rw [List.length_append, hlen]; exact this) (by rw [hsz]; exact hsrc) hvs (fun v hv => by obtain ⟨z, -, rfl⟩ := List.mem_map.1 hv; rfl) hroom hfit2
  rw [hsz, Nat.mul_one, Nat.mul_one] at hrun hfit2
  have e1 : (xs.map (Value.int k) ++ sp).take n ++ (news.map (Value.int k) ++ (xs.map (Value.int k) ++ sp).drop (n + m)) = (olds ++ (news ++ xs.drop (n + m))).map (Value.int k) ++ sp.drop (n + m - xs.length) := by
    subst ho
    rw [List.take_append_of_le_length (by simp; omega), List.drop_append]; simp [List.map_take, List.map_drop]
  rw [e1] at hrun
  have hc' : CsDen β (.num k (olds ++ (news ++ xs.drop (n + m)))) ((olds ++ (news ++ xs.drop (n + m))).map (Value.int k)) := by
    subst ho
    exact ⟨rfl, okN_append (okN_take hok0 _) (okN_append hok (okN_drop hok0 _))⟩
  have hw := hh.write2 (c' := .num k (olds ++ (news ++ xs.drop (n + m)))) (ys' := (olds ++ (news ++ xs.drop (n + m))).map (Value.int k)) (sp' := sp.drop (n + m - xs.length)) (lvl_get hl) hbb hg
    (by
      rw [List.length_append] at hfit2
      subst ho
      simp only [List.length_map, List.length_append, List.length_take, List.length_drop] at *
      omega)
    (fun x hx => hsp x (List.mem_of_mem_drop hx)) hfz hc'
  have hl' : (bl.set lv (some (.num k (olds ++ (news ++ xs.drop (n + m))))))[lv]? = some (some (.num k (olds ++ (news ++ xs.drop (n + m))))) := by
    rw [List.getElem?_set_self (List.getElem?_eq_some_iff.1 (lvl_get hl)).1]
  have hr := hw.heap.rename hl' hbb
  have hx := hw.trans hr
  rw [List.set_set, ← setl_set] at hx
  refine ⟨_, _, _, .inl (exec hrun), ?_, hx⟩
  simp only [Den]
  refine ⟨_, q, rfl, hroom, hq, (fun m hm => by cases hm; rfl), fun _ => ⟨b, sb, ?_, by simp, by simpa using hfit⟩⟩
  rw [← hh.len]; simp

theorem appNN_sound {s x : Operand} {t u e : TypeId} {T U E : TI} {k : IntKind} {z : Int} {by_ : Nat} {c1 c2 : Bool} {l : Option Nat} {olds news : List Int} (hev : EvOk β tm ρ) (hh : Heap β bl w)
    (hop : o.op = .call { callee := .builtin .append, args := #[s, x], argTypes := #[t, u] }) (ht : ti P t = some T) (hk : T.kd = .slice e 1 by_) (hu : ti P u = some U) (hE : ti P e = some E) (hz : E.zc = some [.v (.int k z)])
    (hdst : dstN k bl (ev tm s) = some (c1, l, olds)) (hsrc : srcN k z by_ U.kd bl (ev tm x) = some (c2, news)) (h0 : by_ ≠ 0)
    (h : appNN k by_ c1 c2 l olds news bl (roomN bl (ev tm s)) = some (vc, r, bl')) (hv : vc = true) : Eff P β bl w ρ o r bl' := by
  unfold appNN at h
  split at h
  · rename_i q xs hroom
    have hc : c1 = true ∧ c2 = true ∧ (olds ++ news).length * by_ ≤ 140737488355328 := by
      split at h <;>
        (simp only [Option.some.injEq, Prod.mk.injEq] at h
         obtain ⟨rfl, -, -⟩ := h
         simpa only [Bool.and_eq_true, decide_eq_true_eq] using hv)
    obtain ⟨h1, h2, h3⟩ := hc
    obtain ⟨hut, hcz, hbz⟩ := kd_slice ht hk
    obtain ⟨i, v, hi, hzz, hc, hone⟩ := zc_spec (β := β) hE hz
    have hvl : v.cells.toList.length = 1 := by
      obtain ⟨y', zs, e1, -, -, e3⟩ := (denC_cons (by rfl)).1 hc
      simp only [DenC] at e3; rw [e1, e3]; rfl
    have hone' : ∀ x ∈ v.cells.toList, SpV (some k) x := by
      obtain ⟨y', zs, e1, e2, -, e3⟩ := (denC_cons (by rfl)).1 hc
      simp only [DenC] at e3
      subst e3
      simp only [Den] at e2
      intro x hx
      rw [e1] at hx
      obtain rfl := List.mem_singleton.1 hx
      exact ⟨by rw [e2.1]; exact e2.2.1, fun kk e => by cases e; exact ⟨z, e2.1, e2.2.2⟩⟩
    have hsz : i.size = 1 := by have := hcz; simp only [Program.cellsOf, hi] at this; simpa using this
    have hby : i.bytes = by_ := by have := hbz; simp only [Program.bytesOf, hi] at this; simpa using this
    obtain ⟨A, q', hs, hok1, hd⟩ := dstN_run hh (hev s) hdst h1
    obtain ⟨hsr, hok2⟩ := srcN_run (t := t) hh hu hE hz (hev x) hsrc h2
    have hb2 : olds.length + news.length < 9223372036854775808 := by
      have : (olds ++ news).length * 1 ≤ (olds ++ news).length * by_ := Nat.mul_le_mul_left _ (by omega)
      rw [List.length_append] at this h3
      omega
    -- the room is the slice's
    unfold roomN at hroom
    split at hroom
    · rename_i lv i0 w0 n q2 he
      split at hroom
      · rename_i k2 xs' hl
        simp only [Option.some.injEq, Prod.mk.injEq] at hroom
        obtain ⟨rfl, rfl⟩ := hroom
        have hds := hev s
        rw [he] at hds hdst
        simp only [Den] at hds
        obtain ⟨A2, q3, hsA, g1, g2, g3, g5⟩ := hds
        obtain rfl := g3 _ rfl
        rw [hs] at hsA
        simp only [Value.slice.injEq] at hsA
        obtain ⟨rfl, hlen, rfl⟩ := hsA
        split at h
        · rename_i hq
          obtain ⟨hq, hsome⟩ := hq
          simp only [Option.some.injEq, Prod.mk.injEq] at h
          obtain ⟨-, rfl, rfl⟩ := h
          simp only [dstN] at hdst
          split at hdst
          · simp only [Option.some.injEq, Prod.mk.injEq] at hdst
            obtain ⟨-, rfl, -⟩ := hdst
            cases hsome
          · rename_i hne
            rw [hl] at hdst
            simp only at hdst
            split at hdst
            · rename_i hk2
              split at hdst
              · rename_i hw0
                split at hdst
                · rename_i hi0
                  simp only [Option.some.injEq, Prod.mk.injEq] at hdst
                  obtain ⟨hc1, rfl, rfl⟩ := hdst
                  subst hk2; subst hw0; subst hi0
                  rw [← hc1] at h1
                  have hn := of_decide_eq_true h1
                  have hq0 : q' ≠ 0 := fun e => by subst e; exact hne rfl
                  obtain ⟨b, sb, hb1, hb2', hb3⟩ := g5 hq0
                  have hlo : (xs'.take n).length = n := by simp; omega
                  rw [hlo] at hq hs
                  have := app_inN (olds := xs'.take n) hh hop hut hi hsz hby hs hl g2 ⟨b, sb, hb1, by simpa using hb2', by simpa using hb3⟩ rfl hn rfl hsr hok2 hq
                  rw [List.length_append, hlo]
                  exact this
                · cases hdst
              · cases hdst
            · cases hdst
        · rename_i hq
          simp only [Option.some.injEq, Prod.mk.injEq] at h
          obtain ⟨-, rfl, rfl⟩ := h
          cases l with
          | none =>
            have := appN_sound hev hh hop ht hk hu hE hz (by rw [he]; exact hdst) hsrc h1 h2 h3 h0
            exact this
          | some lv' =>
            have hq : ¬ olds.length + news.length ≤ q' := fun e => hq ⟨e, rfl⟩
            have := app_grow (us := olds.map (.int k)) (vs := news.map (.int k)) (c' := .num k (olds ++ news)) hh hop hut hi hzz hone' hvl hsz (by decide) hby hs (by simp) hd hsr (by simp) (by simp [one]) (by rw [← List.length_append]; exact h3) hb2 ⟨by simp, okN_append hok1 hok2⟩ hq
            rw [List.length_append]
            exact this
      · cases hroom
    · cases hroom
  · simp only [Option.some.injEq, Prod.mk.injEq] at h
    obtain ⟨rfl, rfl, rfl⟩ := h
    simp only [Bool.and_eq_true, decide_eq_true_eq] at hv
    exact appN_sound hev hh hop ht hk hu hE hz hdst hsrc hv.1 hv.2.1 hv.2.2 h0

theorem denR_append {w' : Nat} : ∀ {rs qs : List (List AV)} {ys zs : List Value}, DenR β w' rs ys → DenR β w' qs zs → DenR β w' (rs ++ qs) (ys ++ zs)
  | [], _, _, _, h1, h2 => by simp only [DenR] at h1; subst h1; exact h2
  | r :: rs, _, _, _, h1, h2 => by
    simp only [DenR] at h1
    obtain ⟨us, zs', rfl, h3, h4, h5⟩ := h1
    simp only [List.cons_append, DenR]
    exact ⟨us, _, by simp, h3, h4, denR_append h5 h2⟩

/-- Rows that are handed over, in a world. -/
theorem srcR_run {w' : Nat} {x : AV} {y : Value} {news : List (List AV)} {bl1 : Bls} (hh : Heap β bl w) (hd : Den β x y) (h : srcR w' bl x = some (vc, news, bl1)) (hv : vc = true) :
    ∃ β1, Ext β bl w β1 bl1 w ∧ ∃ A q vs, y = .slice A news.length q ∧ news.length ≤ q ∧ q < 9223372036854775808 ∧ vs.length = news.length * w' ∧ DenR β1 w' news vs ∧ (q ≠ 0 → ∃ b o, A = some ⟨b, o, none⟩ ∧ InW w b o vs) := by
  cases x <;> simp only [srcR] at h <;> try (cases h; done)
  · simp only [Option.some.injEq, Prod.mk.injEq] at h
    obtain ⟨-, rfl, rfl⟩ := h
    simp only [Den] at hd
    exact ⟨β, .refl hh, none, 0, [], hd, Nat.le_refl _, by decide, by simp, by simp [DenR], fun h => absurd rfl h⟩
  · rename_i l i w2 n c
    split at h
    · rename_i hw
      subst hw
      simp only [Den] at hd
      obtain ⟨A, q, rfl, h1, h2, -, h3⟩ := hd
      split at h
      · rename_i w3 rs hl
        split at h
        · rename_i hw3
          subst hw3
          simp only [Option.some.injEq, Prod.mk.injEq] at h
          obtain ⟨rfl, rfl, rfl⟩ := h
          have hv := of_decide_eq_true hv
          have hlen : ((rs.drop i).take n).length = n := by simp; omega
          obtain ⟨base, hbase, hin⟩ := hh.lv l _ (lvl_get hl)
          cases base with
          | none =>
            have hr : DenR β w3 rs [] := hin
            have hq : q = 0 := by
              apply Decidable.byContradiction
              intro hne
              obtain ⟨b, s, hb, -⟩ := h3 hne
              rw [hb] at hbase; cases hbase
            have hr' := denR_take n (denR_drop i hr)
            exact ⟨β, .refl hh, A, q, _, by rw [hlen], by omega, h2, denR_len hr', hr', fun h => absurd hq h⟩
          | some p =>
            obtain ⟨b, s⟩ := p
            obtain ⟨ys, sp, T, fz, hg, hs, hc, -, -⟩ := heap_cells hh hl hbase rfl
            simp only [CsDen] at hc
            have hr' := denR_take n (denR_drop i hc)
            refine ⟨β, .refl hh, A, q, _, by rw [hlen], by omega, h2, denR_len hr', hr', fun hq => ?_⟩
            obtain ⟨b', s', hb, rfl, -⟩ := h3 hq
            rw [hbase] at hb; cases hb
            refine ⟨b, i * w3, rfl, _, T, fz, hg, fun j v hj => ?_⟩
            have hlt := (List.getElem?_eq_some_iff.1 hj).1
            simp only [List.length_take, List.length_drop] at hlt
            rw [List.getElem?_take_of_lt (by omega), List.getElem?_drop] at hj
            have hlt2 := (List.getElem?_eq_some_iff.1 hj).1
            simp only [List.getElem?_toArray]
            rw [List.getElem?_append_left hlt2, hj]
        · cases h
      · rename_i cs hl
        split at h
        · rename_i hi
          subst hi
          split at h
          · rename_i cs2 htk
            split at h
            · rename_i vc' gs bl2 hhd
              split at h
              · rename_i rs hro
                simp only [Option.some.injEq, Prod.mk.injEq] at h
                obtain ⟨rfl, rfl, rfl⟩ := h
                obtain ⟨base, hbase, hin⟩ := hh.lv l _ (lvl_get hl)
                have core : ∀ ys, DenC β cs ys → ∃ β1, Ext β bl w β1 bl2 w ∧ n * w2 ≤ ys.length ∧ DenR β1 w2 rs (ys.take (n * w2)) ∧ rs.length = n ∧ (ys.take (n * w2)).length = n * w2 := by
                  intro ys hys
                  obtain ⟨g1, g2⟩ := denC_tk hys htk
                  obtain ⟨β1, e1, d1⟩ := hdL_sound hh g2 hhd hv
                  have hlen : (ys.take (n * w2)).length = n * w2 := by simp; omega
                  have hrl : ∀ {m : Nat} {cs : List AV} {rs : List (List AV)}, rowsOf w2 m cs = some rs → rs.length = m := by
                    intro m
                    induction m with
                    | zero => intro cs rs h; simp only [rowsOf, Option.some.injEq] at h; subst h; rfl
                    | succ m ih =>
                      intro cs rs h
                      simp only [rowsOf] at h
                      split at h
                      · split at h
                        · rename_i r hr
                          obtain rfl := Option.some.inj h
                          simp [ih hr]
                        · cases h
                      · cases h
                  exact ⟨β1, e1, g1, rowsOf_sound d1 hro hlen, hrl hro, hlen⟩
                cases base with
                | none =>
                  obtain ⟨β1, e1, g1, d1, hn, hlen⟩ := core [] hin
                  have hq : q = 0 := by
                    apply Decidable.byContradiction
                    intro hne
                    obtain ⟨b, s, hb, -⟩ := h3 hne
                    rw [hb] at hbase; cases hbase
                  exact ⟨β1, e1, A, q, _, by rw [hn], by omega, h2, by rw [hlen, hn], d1, fun h => absurd hq h⟩
                | some p =>
                  obtain ⟨b, s⟩ := p
                  obtain ⟨ys, sp, T, fz, hg, hs, hc, -, -⟩ := heap_cells hh hl hbase rfl
                  obtain ⟨β1, e1, g1, d1, hn, hlen⟩ := core ys hc
                  refine ⟨β1, e1, A, q, _, by rw [hn], by omega, h2, by rw [hlen, hn], d1, fun hq => ?_⟩
                  obtain ⟨b', s', hb, rfl, -⟩ := h3 hq
                  rw [hbase] at hb; cases hb
                  refine ⟨b, 0 * w2, rfl, _, T, fz, hg, fun j v hj => ?_⟩
                  have hlt := (List.getElem?_eq_some_iff.1 hj).1
                  rw [List.getElem?_take_of_lt (by omega)] at hj
                  have hlt2 := (List.getElem?_eq_some_iff.1 hj).1
                  simp only [List.getElem?_toArray, Nat.zero_mul, Nat.zero_add]
                  rw [List.getElem?_append_left hlt2, hj]
              · cases h
            · cases h
          · cases h
        · cases h
      · cases h
    · cases h
  · rename_i t w2 rs c
    split at h
    · rename_i hw
      subst hw
      simp only [Option.some.injEq, Prod.mk.injEq] at h
      obtain ⟨-, rfl, rfl⟩ := h
      simp only [Den] at hd
      obtain ⟨A, q, ys, rfl, h1, h2, -, h3, h4⟩ := hd
      refine ⟨β, .refl hh, A, q, ys, rfl, h1, h2, denR_len h3, h3, fun hq => ?_⟩
      obtain ⟨b, o0, rfl, hc⟩ := h4 hq
      exact ⟨b, o0, rfl, InW.of_heap hh hc⟩
    · cases h

/-- Rows laid behind others, in place: there is known to be room. -/
theorem app_in {s x : Operand} {t u e : TypeId} {i : TypeInfo} {sz by_ n q m lv : Nat} {A : Option Addr} {olds news rs : List (List AV)} {vs : List Value} (hh : Heap β bl w)
    (hop : o.op = .call { callee := .builtin .append, args := #[s, x], argTypes := #[t, u] }) (ht : P.underlying t = some (.slice e)) (hi : P.info? e = some i) (hsz : i.size = sz) (hby : i.bytes = by_) (hs : ρ s = .slice A n q)
    (hl : lvl bl lv = some (.rows sz rs)) (hq : q < 9223372036854775808) (hq0 : q ≠ 0) (hA : ∃ b sb, β.b[lv]? = some (some (b, sb)) ∧ A = some ⟨b, 0, none⟩ ∧ q * sz ≤ sb) (ho : olds = rs.take n) (hn : n ≤ rs.length) (hm : news.length = m)
    (hsrc : Src P u e sz by_ (ρ x) m vs w) (hr : DenR β sz news vs) (hroom : n + m ≤ q) :
    Eff P β bl w ρ o (.sl bl.length 0 sz (n + m) (some q)) (setl bl lv none ++ [some (.rows sz (olds ++ (news ++ rs.drop (n + m))))]) := by
  subst hsz
  have exec : ∀ {y : Value} {w' : World}, (Builtin.append_ #[t, u] o.type #[ρ s, ρ x]).run P w = .ok y w' → (execOp ρ o).run P w = .ok (.value y) w' := by
    intro y w' h
    refine call_exec hop ?_
    simp only [builtin, List.map_toArray, List.map_cons, List.map_nil, Sem.run_bind, h, Result.andThen_ok, Sem.run_pure]
  rw [hs] at exec
  obtain ⟨b, sb, hbb, rfl, hfit⟩ := hA
  obtain ⟨ys, sp, T, fz, hg, hlen, hc, hsp, hfz⟩ := heap_cells hh hl hbb rfl
  simp only [CsDen] at hc
  have hyl := denR_len hc
  have hvs : vs.length = m * i.size := by rw [denR_len hr, hm]
  have h2 : n * i.size ≤ ys.length := by rw [hyl]; exact Nat.mul_le_mul_right _ hn
  have hfit2 : n * i.size + m * i.size ≤ (ys ++ sp).length := by
    rw [List.length_append, hlen, ← Nat.add_mul]
    exact Nat.le_trans (Nat.mul_le_mul_right _ hroom) hfit
  have hrun := append_room (P := P) (ty := o.type) ht hi hby hg (by simpa [hlen] using hfz.2.1) hsrc hvs (denR_ones hr) hroom hfit2
  have e1 : (ys ++ sp).take (n * i.size) ++ (vs ++ (ys ++ sp).drop (n * i.size + m * i.size)) = (ys.take (n * i.size) ++ (vs ++ ys.drop ((n + m) * i.size))) ++ sp.drop ((n + m) * i.size - ys.length) := by
    rw [List.take_append_of_le_length h2, ← Nat.add_mul, List.drop_append]; simp
  rw [e1] at hrun
  have hc' : CsDen β (.rows i.size (olds ++ (news ++ rs.drop (n + m)))) (ys.take (n * i.size) ++ (vs ++ ys.drop ((n + m) * i.size))) := by
    subst ho
    exact denR_append (denR_take n hc) (denR_append hr (denR_drop (n + m) hc))
  have hw := hh.write2 (c' := .rows i.size (olds ++ (news ++ rs.drop (n + m)))) (ys' := ys.take (n * i.size) ++ (vs ++ ys.drop ((n + m) * i.size))) (sp' := sp.drop ((n + m) * i.size - ys.length)) (lvl_get hl) hbb hg
    (by
      rw [List.length_append, hlen] at hfit2
      simp only [List.length_append, List.length_take, List.length_drop, hvs, Nat.add_mul]
      omega)
    (fun x hx => hsp x (List.mem_of_mem_drop hx)) hfz hc'
  have hl' : (bl.set lv (some (.rows i.size (olds ++ (news ++ rs.drop (n + m))))))[lv]? = some (some (.rows i.size (olds ++ (news ++ rs.drop (n + m))))) := by
    rw [List.getElem?_set_self (List.getElem?_eq_some_iff.1 (lvl_get hl)).1]
  have hr := hw.heap.rename hl' hbb
  have hx := hw.trans hr
  rw [List.set_set, ← setl_set] at hx
  refine ⟨_, _, _, .inl (exec hrun), ?_, hx⟩
  simp only [Den]
  refine ⟨_, q, rfl, hroom, hq, (fun m hm => by cases hm; rfl), fun _ => ⟨b, sb, ?_, by simp, by simpa using hfit⟩⟩
  rw [← hh.len]; simp

theorem appRR_sound {s x : Operand} {t u e : TypeId} {T E : TI} {zc : List AV} {sz by_ : Nat} {c1 c2 : Bool} {l : Option Nat} {olds news : List (List AV)} {bl1 : Bls} {β1 : Env} {vs : List Value} (hev : EvOk β tm ρ) (ex : Ext β bl w β1 bl1 w)
    (hop : o.op = .call { callee := .builtin .append, args := #[s, x], argTypes := #[t, u] }) (ht : ti P t = some T) (hk : T.kd = .slice e sz by_) (hE : ti P e = some E) (hz : E.zc = some zc)
    (hw : wids zc = sz) (hs0 : sz ≠ 0) (h0 : by_ ≠ 0) (hsr : Src P u e sz by_ (ρ x) news.length vs w) (g4 : DenR β1 sz news vs) (hdst : dstR sz bl1 (ev tm s) = some (c1, l, olds))
    (h : appRR sz by_ c1 c2 l olds news bl1 (roomR bl1 (ev tm s)) = some (vc, r, bl')) (hv : vc = true) : Eff P β bl w ρ o r bl' := by
  obtain ⟨hut, hcz, hbz⟩ := kd_slice ht hk
  obtain ⟨i, v, hi, hzz, hc, hone⟩ := zc_spec (β := β) hE hz
  have hvl : v.cells.toList.length = sz := by rw [← hw]; exact denC_len hc
  have hsz : i.size = sz := by have := hcz; simp only [Program.cellsOf, hi] at this; simpa using this
  have hby : i.bytes = by_ := by have := hbz; simp only [Program.bytesOf, hi] at this; simpa using this
  have hds := (hev s).mono ex.le
  have grow : c1 = true → (olds ++ news).length * by_ ≤ 140737488355328 → Eff P β bl w ρ o (.sl bl1.length 0 sz (olds ++ news).length none) (killO l bl1 ++ [some (.rows sz (olds ++ news))]) := fun h1 h3 => by
    obtain ⟨A, q, us, hs, hr, hd⟩ := dstR_run ex.heap hds hdst h1
    have hb2 : olds.length + news.length < 9223372036854775808 := by
      have : (olds ++ news).length * 1 ≤ (olds ++ news).length * by_ := Nat.mul_le_mul_left _ (by omega)
      rw [List.length_append] at this h3
      omega
    obtain ⟨y, w', β', e1, e2, e3⟩ := app_core (us := us) (vs := vs) (c' := .rows sz (olds ++ news)) ex.heap hop hut hi hzz (fun x hx => SpV.none (hone x hx)) hvl hsz hs0 hby hs (denR_len hr) hd hsr (denR_len g4) (denR_ones g4) (by rw [← List.length_append]; exact h3) hb2 (denR_append hr g4)
    rw [List.length_append]
    exact ⟨y, w', β', e1, e2, ex.trans e3⟩
  unfold appRR at h
  split at h
  · rename_i q rs hroom
    split at h
    · rename_i hq
      obtain ⟨hq, hsome⟩ := hq
      simp only [Option.some.injEq, Prod.mk.injEq] at h
      obtain ⟨rfl, rfl, rfl⟩ := h
      simp only [Bool.and_eq_true, decide_eq_true_eq] at hv
      obtain ⟨h1, h2, h3⟩ := hv
      unfold roomR at hroom
      split at hroom
      · rename_i lv i0 w0 n q' he
        split at hroom
        · rename_i w2 rs' hl
          simp only [Option.some.injEq, Prod.mk.injEq] at hroom
          obtain ⟨rfl, rfl⟩ := hroom
          rw [he] at hdst hds
          simp only [Den] at hds
          obtain ⟨A, q2, hsA, g1, g2, g3, g5⟩ := hds
          obtain rfl := g3 _ rfl
          simp only [dstR] at hdst
          split at hdst
          · rename_i e0
            simp only [Option.some.injEq, Prod.mk.injEq] at hdst
            obtain ⟨-, rfl, -⟩ := hdst
            cases hsome
          · rename_i hne
            rw [hl] at hdst
            simp only at hdst
            split at hdst
            · rename_i hw2
              split at hdst
              · rename_i hw0
                split at hdst
                · rename_i hi0
                  simp only [Option.some.injEq, Prod.mk.injEq] at hdst
                  obtain ⟨rfl, rfl, rfl⟩ := hdst
                  subst hw2; subst hw0; subst hi0
                  have hn := of_decide_eq_true h1
                  have hq0 : q2 ≠ 0 := fun e => by subst e; exact hne rfl
                  obtain ⟨b, sb, hb1, hb2, hb3⟩ := g5 hq0
                  have hlo : (rs'.take n).length = n := by simp; omega
                  rw [hlo] at hq
                  obtain ⟨y, w', β', e1, e2, e3⟩ := app_in (olds := rs'.take n) ex.heap hop hut hi hsz hby hsA hl g2 hq0 ⟨b, sb, hb1, by simpa using hb2, by simpa using hb3⟩ rfl hn rfl hsr g4 hq
                  rw [List.length_append, hlo]
                  exact ⟨y, w', β', e1, e2, ex.trans e3⟩
                · cases hdst
              · cases hdst
            · cases hdst
        · cases hroom
      · cases hroom
    · rename_i hq
      simp only [Option.some.injEq, Prod.mk.injEq] at h
      obtain ⟨rfl, rfl, rfl⟩ := h
      simp only [Bool.and_eq_true, decide_eq_true_eq] at hv
      cases l with
      | none => exact grow hv.1 hv.2.2
      | some lv =>
        have hq : ¬ olds.length + news.length ≤ q := fun e => hq ⟨e, rfl⟩
        have h3 := hv.2.2
        obtain ⟨A, q', us, hs, hr, hd⟩ := dstR_run ex.heap hds hdst hv.1
        have hqq : q' = q := by
          unfold roomR at hroom
          split at hroom
          · rename_i lv2 i0 w0 n q2 he
            split at hroom
            · simp only [Option.some.injEq, Prod.mk.injEq] at hroom
              obtain ⟨rfl, -⟩ := hroom
              rw [he] at hds
              simp only [Den] at hds
              obtain ⟨A2, q3, hsA, -, -, g3, -⟩ := hds
              obtain rfl := g3 _ rfl
              rw [hs] at hsA
              simp only [Value.slice.injEq] at hsA
              exact hsA.2.2
            · cases hroom
          · cases hroom
        subst hqq
        have hb2 : olds.length + news.length < 9223372036854775808 := by
          have : (olds ++ news).length * 1 ≤ (olds ++ news).length * by_ := Nat.mul_le_mul_left _ (by omega)
          rw [List.length_append] at this h3
          omega
        obtain ⟨y, w', β', e1, e2, e3⟩ := app_grow (us := us) (vs := vs) (c' := .rows sz (olds ++ news)) ex.heap hop hut hi hzz (fun x hx => SpV.none (hone x hx)) hvl hsz hs0 hby hs (denR_len hr) hd hsr (denR_len g4) (denR_ones g4) (by rw [← List.length_append]; exact h3) hb2 (denR_append hr g4) hq
        rw [List.length_append]
        exact ⟨y, w', β', e1, e2, ex.trans e3⟩
  · simp only [Option.some.injEq, Prod.mk.injEq] at h
    obtain ⟨rfl, rfl, rfl⟩ := h
    simp only [Bool.and_eq_true, decide_eq_true_eq] at hv
    exact grow hv.1 hv.2.2

theorem appRR_c2 {sz by_ : Nat} {c1 c2 : Bool} {l : Option Nat} {olds news : List (List AV)} {bl1 : Bls} {rm : Option (Nat × List (List AV))} (h : appRR sz by_ c1 c2 l olds news bl1 rm = some (vc, r, bl')) (hv : vc = true) : c2 = true := by
  unfold appRR at h
  repeat' split at h
  all_goals
    simp only [Option.some.injEq, Prod.mk.injEq] at h
    obtain ⟨rfl, -, -⟩ := h
    simp only [Bool.and_eq_true] at hv
    exact hv.2.1

theorem appR_sound {s x : Operand} {t u e : TypeId} {T U E : TI} {zc : List AV} {sz by_ e' s' b' : Nat} {c1 c2 : Bool} {l : Option Nat} {olds news : List (List AV)} {bl1 : Bls} (hev : EvOk β tm ρ) (hh : Heap β bl w)
    (hop : o.op = .call { callee := .builtin .append, args := #[s, x], argTypes := #[t, u] }) (ht : ti P t = some T) (hk : T.kd = .slice e sz by_) (hu : ti P u = some U) (hU : U.kd = .slice e' s' b') (hE : ti P e = some E) (hz : E.zc = some zc)
    (hw : wids zc = sz) (hs0 : sz ≠ 0) (h0 : by_ ≠ 0) (hsrc : srcR sz bl (ev tm x) = some (c2, news, bl1)) (hdst : dstR sz bl1 (ev tm s) = some (c1, l, olds))
    (h : appRR sz by_ c1 c2 l olds news bl1 (roomR bl1 (ev tm s)) = some (vc, r, bl')) (hv : vc = true) : Eff P β bl w ρ o r bl' := by
  obtain ⟨β1, ex, A', q', vs, hx, g1, g2, g3, g4, g5⟩ := srcR_run hh (hev x) hsrc (appRR_c2 h hv)
  obtain ⟨d, hud, hkd⟩ := kd_under hu
  have hsr : Src P u e sz by_ (ρ x) news.length vs w := by
    rw [hx]
    exact .inl ⟨⟨d, hud, kdOf_notInt fun k => by rw [← hkd, hU]; simp⟩, fun w' => rfl, cells_read (P := P) (w := w) g1 g3 g5⟩
  exact appRR_sound hev ex hop ht hk hE hz hw hs0 h0 hsr g4 hdst h hv

theorem appZ_sound {s x : Operand} {t u e : TypeId} {T U E : TI} {zc : List AV} {sz by_ : Nat} {ik : IntKind} {c1 c2 : Bool} {l : Option Nat} {olds news : List (List AV)} (hev : EvOk β tm ρ) (hh : Heap β bl w)
    (hop : o.op = .call { callee := .builtin .append, args := #[s, x], argTypes := #[t, u] }) (ht : ti P t = some T) (hk : T.kd = .slice e sz by_) (hu : ti P u = some U) (hU : U.kd = .int ik) (hE : ti P e = some E) (hz : E.zc = some zc)
    (hw : wids zc = sz) (hs0 : sz ≠ 0) (h0 : by_ ≠ 0) (hsrc : zerR by_ zc (ev tm x) = some (c2, news)) (hdst : dstR sz bl (ev tm s) = some (c1, l, olds))
    (h : appRR sz by_ c1 c2 l olds news bl (roomR bl (ev tm s)) = some (vc, r, bl')) (hv : vc = true) : Eff P β bl w ρ o r bl' := by
  have hc2 := appRR_c2 h hv
  have hdx := hev x
  unfold zerR at hsrc
  split at hsrc
  · rename_i k2 m he
    simp only [Option.some.injEq, Prod.mk.injEq] at hsrc
    obtain ⟨rfl, rfl⟩ := hsrc
    simp only [Bool.and_eq_true, decide_eq_true_eq] at hc2
    obtain ⟨h1, h2, h3⟩ := hc2
    rw [he] at hdx
    obtain ⟨hy, -⟩ := den_int hdx
    obtain ⟨hut, hcz, hbz⟩ := kd_slice ht hk
    obtain ⟨d, hud, hkd⟩ := kd_under hu
    obtain ⟨i, v, hi, hzz, hc, hone⟩ := zc_spec (β := β) hE hz
    have hvl : v.cells.toList.length = sz := by rw [← hw]; exact denC_len hc
    have hsz : i.size = sz := by have := hcz; simp only [Program.cellsOf, hi] at this; simpa using this
    obtain ⟨m, rfl⟩ := Int.eq_ofNat_of_zero_le h1
    simp only [Int.toNat_natCast] at *
    have hzr : Builtin.zeroCells v.cells m = (List.replicate m v.cells.toList).flatten.toArray := by
      have := rows_zero v.cells.toList m (by omega)
      simpa [Builtin.zeroCells] using this
    have hsr : Src P u e sz by_ (ρ x) (List.replicate m zc).length (List.replicate m v.cells.toList).flatten w := by
      rw [List.length_replicate]
      refine .inr ⟨⟨ik, by rw [hud, kdOf_int (P := P) (d := d) (k := ik) (by rw [← hkd]; exact hU)]⟩, ⟨k2, hy⟩, by omega, ?_, v, fun w' => by simp [zeroValue, typeInfo, hi, hzz], hzr.symm, hs0⟩
      have : ((m * by_ : Nat) : Int) ≤ 281474976710656 := by rw [Int.natCast_mul]; exact h2
      omega
    exact appRR_sound hev (.refl hh) hop ht hk hE hz hw hs0 h0 hsr (denR_rep hc hvl m) hdst h hv
  · cases hsrc

/-- Rows that are copied from, in a world. -/
theorem cpSrc_run {sz m : Nat} {x : AV} {y : Value} {news : List (List AV)} (hh : Heap β bl w) (hd : Den β x y) (h : cpSrc sz bl x = some (m, news)) :
    ∃ A q vs, y = .slice A m q ∧ m ≤ q ∧ q < 9223372036854775808 ∧ vs.length = news.length * sz ∧ DenR β sz news vs ∧ (q ≠ 0 → ∃ b o, A = some ⟨b, o, none⟩ ∧ InW w b o vs) := by
  cases x <;> simp only [cpSrc] at h <;> try (cases h; done)
  · simp only [Option.some.injEq, Prod.mk.injEq] at h
    obtain ⟨rfl, rfl⟩ := h
    simp only [Den] at hd
    exact ⟨none, 0, [], hd, Nat.le_refl _, by decide, by simp, by simp [DenR], fun h => absurd rfl h⟩
  · rename_i l i w2 n c
    split at h
    · rename_i hw
      subst hw
      simp only [Den] at hd
      obtain ⟨A, q, rfl, h1, h2, -, h3⟩ := hd
      split at h
      · rename_i w3 rs hl
        split at h
        · rename_i hw3
          subst hw3
          simp only [Option.some.injEq, Prod.mk.injEq] at h
          obtain ⟨rfl, rfl⟩ := h
          obtain ⟨base, hbase, hin⟩ := hh.lv l _ (lvl_get hl)
          cases base with
          | none =>
            have hr : DenR β w3 rs [] := hin
            have hq : q = 0 := by
              apply Decidable.byContradiction
              intro hne
              obtain ⟨b, s, hb, -⟩ := h3 hne
              rw [hb] at hbase; cases hbase
            have hr' := denR_take n (denR_drop i hr)
            exact ⟨A, q, _, rfl, h1, h2, denR_len hr', hr', fun h => absurd hq h⟩
          | some p =>
            obtain ⟨b, s⟩ := p
            obtain ⟨ys, sp, T, fz, hg, hs, hc, -, -⟩ := heap_cells hh hl hbase rfl
            simp only [CsDen] at hc
            have hr' := denR_take n (denR_drop i hc)
            refine ⟨A, q, _, rfl, h1, h2, denR_len hr', hr', fun hq => ?_⟩
            obtain ⟨b', s', hb, rfl, -⟩ := h3 hq
            rw [hbase] at hb; cases hb
            refine ⟨b, i * w3, rfl, _, T, fz, hg, fun j v hj => ?_⟩
            have hlt := (List.getElem?_eq_some_iff.1 hj).1
            simp only [List.length_take, List.length_drop] at hlt
            rw [List.getElem?_take_of_lt (by omega), List.getElem?_drop] at hj
            have hlt2 := (List.getElem?_eq_some_iff.1 hj).1
            simp only [List.getElem?_toArray]
            rw [List.getElem?_append_left hlt2, hj]
        · cases h
      · cases h
    · cases h
  · rename_i t w' rs c
    split at h
    · rename_i hw
      simp only [Option.some.injEq, Prod.mk.injEq] at h
      obtain ⟨rfl, rfl⟩ := h
      subst hw
      simp only [Den] at hd
      obtain ⟨A, q, ys, rfl, h1, h2, -, h4, h5⟩ := hd
      refine ⟨A, q, ys, rfl, h1, h2, denR_len h4, h4, fun hq => ?_⟩
      obtain ⟨b, o, e, hc⟩ := h5 hq
      exact ⟨b, o, e, InW.of_heap hh hc⟩
    · cases h

theorem setl_same : ∀ {bl : Bls} {l : Nat} {c : Ct}, lvl bl l = some c → setl bl l (some c) = bl
  | [], _, _, h => by simp [lvl] at h
  | b :: r, 0, c, h => by simp [lvl] at h; simp [setl, h]
  | b :: r, l + 1, c, h => by simp [lvl] at h; simp [setl, setl_same h]

theorem cpR_sound {d x : Operand} {t u e : TypeId} {sz : Nat} (hev : EvOk β tm ρ) (hh : Heap β bl w) (hop : o.op = .call { callee := .builtin .copy, args := #[d, x], argTypes := #[t, u] }) (hut : P.underlying t = some (.slice e)) (hcz : P.cellsOf e = sz) (h0 : sz ≠ 0)
    (h : cpR sz bl (ev tm d) (ev tm x) = some (vc, r, bl')) (hv : vc = true) : Eff P β bl w ρ o r bl' := by
  have hdd := hev d
  unfold cpR at h
  split at h
  · rename_i l i w' n c hd
    split at h
    · rename_i hw
      split at h
      · rename_i m0 news w2 rs hsrc hl
        split at h
        · rename_i hw2
          subst hw2
          subst hw
          simp only [Option.some.injEq, Prod.mk.injEq] at h
          obtain ⟨rfl, rfl, rfl⟩ := h
          simp only [Bool.and_eq_true, decide_eq_true_eq] at hv
          obtain ⟨hm0, hi⟩ := hv
          obtain ⟨A2, q2, vs, hx, k1, k2, k3, k4, k5⟩ := cpSrc_run hh (hev x) hsrc
          rw [hd] at hdd
          simp only [Den] at hdd
          obtain ⟨A, q, hA0, hnq, hq, -, hA⟩ := hdd
          have exec : ∀ {w' : World}, (Builtin.copy_ #[t, u] o.type #[ρ d, ρ x]).run P w = .ok (goInt ((min m0 n : Nat) : Int)) w' → (execOp ρ o).run P w = .ok (.value (.int .i64 (min m0 n : Nat))) w' := by
            intro w' h
            refine call_exec hop ?_
            simp only [builtin, List.map_toArray, List.map_cons, List.map_nil, Sem.run_bind, h, Result.andThen_ok, Sem.run_pure]
            rfl
          have hmin : Nat.min m0 n = min m0 n := rfl
          have hf : (Builtin.firstCells w' (min m0 n) (ρ x)).run P w = .ok (vs.take (min m0 n * w')).toArray w := by
            rw [hx]
            have hlen : (vs.take (min m0 n * w')).length = min m0 n * w' := by
              rw [List.length_take, k3]
              have := Nat.mul_le_mul_right w' hm0
              omega
            have := cells_read (P := P) (w := w) (A := A2) (m := min m0 n) (q := q2) (size := w') (vs := vs.take (min m0 n * w')) (by omega) hlen (fun hq2 => by
              obtain ⟨b, o', e1, cs, T, fz, e2, e3⟩ := k5 hq2
              exact ⟨b, o', e1, cs, T, fz, e2, fun j v hj => e3 j v (by
                have hlt := (List.getElem?_eq_some_iff.1 hj).1
                rw [List.getElem?_take_of_lt (by rw [hlen] at hlt; exact hlt)] at hj
                exact hj)⟩) w rfl
            cases A2 <;> exact this
          have hlenx : (Builtin.lenOf (ρ x)).run P w = .ok m0 w := by rw [hx]; rfl
          by_cases hn0 : n = 0
          · subst hn0
            have e1 : rs.take i ++ (news.take (min m0 0) ++ rs.drop (i + min m0 0)) = rs := by simp
            rw [e1, setl_same hl]
            refine ⟨_, w, β, .inl (exec ?_), mk_len (by omega), .refl hh⟩
            rw [hA0]
            simp only [Nat.min_zero, Nat.zero_mul, List.take_zero] at *
            cases A with
            | none => simp [Builtin.copy_, underlying_run w hut, hlenx, sizeOf_pos w hcz h0, hmin, hf]
            | some A => simp [Builtin.copy_, underlying_run w hut, hlenx, sizeOf_pos w hcz h0, hmin, hf, storeCells]
          · obtain ⟨b, s, hb, rfl, hfit⟩ := hA (by omega)
            have hb1 := hb
            obtain ⟨ys, sp, T', fz, hg, hs, hcs, hsp, hfz⟩ := heap_cells hh hl hb1 rfl
            simp only [CsDen] at hcs
            have hyl := denR_len hcs
            have g1 : i * w' ≤ ys.length := by rw [hyl]; exact Nat.mul_le_mul_right _ hi
            have hnl : (vs.take (min m0 n * w')).length = min m0 n * w' := by
              rw [List.length_take, k3]
              have := Nat.mul_le_mul_right w' hm0
              omega
            have hfit2 : i * w' + min m0 n * w' ≤ (ys ++ sp).length := by
              rw [List.length_append, hs, ← Nat.add_mul]
              refine Nat.le_trans (Nat.mul_le_mul_right _ ?_) hfit
              have := Nat.min_le_right m0 n
              omega
            have hone : ∀ v ∈ vs.take (min m0 n * w'), one v = true := fun v hv => denR_ones k4 v (List.mem_of_mem_take hv)
            have hst := storeCells_run (P := P) b (i * w') T' fz (vs.take (min m0 n * w')) 0 (ys ++ sp).toArray w hg (by simpa [hs] using hfz.2.1) (by rw [hnl]; simpa using hfit2) hone
            have e1 : (ys ++ sp).take (i * w') ++ (vs.take (min m0 n * w') ++ (ys ++ sp).drop (i * w' + min m0 n * w')) = (ys.take (i * w') ++ (vs.take (min m0 n * w') ++ ys.drop ((i + min m0 n) * w'))) ++ sp.drop ((i + min m0 n) * w' - ys.length) := by
              rw [List.take_append_of_le_length g1, ← Nat.add_mul, List.drop_append]; simp
            simp only [Nat.add_zero, hnl, List.append_assoc] at hst
            rw [e1] at hst
            have hc' : CsDen β (.rows w' (rs.take i ++ (news.take (min m0 n) ++ rs.drop (i + min m0 n)))) (ys.take (i * w') ++ (vs.take (min m0 n * w') ++ ys.drop ((i + min m0 n) * w'))) := by
              exact denR_append (denR_take i hcs) (denR_append (denR_take _ k4) (denR_drop _ hcs))
            have hwr := hh.write2 (c' := .rows w' (rs.take i ++ (news.take (min m0 n) ++ rs.drop (i + min m0 n)))) (ys' := ys.take (i * w') ++ (vs.take (min m0 n * w') ++ ys.drop ((i + min m0 n) * w'))) (sp' := sp.drop ((i + min m0 n) * w' - ys.length)) (lvl_get hl) hb1 hg
              (by
                rw [List.length_append, hs] at hfit2
                simp only [List.length_append, hnl, List.length_take, List.length_drop, Nat.add_mul]
                omega) (fun x hx => hsp x (List.mem_of_mem_drop hx)) hfz hc'
            rw [← setl_set] at hwr
            refine ⟨_, _, β, .inl (exec ?_), mk_len (by omega), hwr⟩
            rw [hA0]
            simp [Builtin.copy_, underlying_run w hut, hlenx, sizeOf_pos w hcz h0, hmin, hf, hst]
        · cases h
      · cases h
    · cases h
  · cases h

theorem clR_sound {x : Operand} {t e : TypeId} {T E : TI} {sz by_ : Nat} (hev : EvOk β tm ρ) (hh : Heap β bl w) (hop : o.op = .call { callee := .builtin .clear, args := #[x], argTypes := #[t] }) (ht : ti P t = some T) (hk : T.kd = .slice e sz by_) (hE : ti P e = some E) (hz : ∃ zc, E.zc = some zc ∧ wids zc = sz) (h0 : sz ≠ 0)
    (h : clR sz bl (ev tm x) = some (vc, r, bl')) (hv : vc = true) : Eff P β bl w ρ o r bl' := by
  obtain ⟨hut, hcz, hbz⟩ := kd_slice ht hk
  obtain ⟨zc, hz, hw0⟩ := hz
  obtain ⟨ii, v, hi, hzz, hc, hone⟩ := zc_spec (β := β) hE hz
  have hvl : v.cells.toList.length = sz := by rw [← hw0]; exact denC_len hc
  have hdx := hev x
  unfold clR at h
  split at h
  · rename_i l i w' n c hd
    split at h
    · rename_i hw
      split at h
      · rename_i w2 rs hl
        split at h
        · rename_i hw2
          subst hw2
          subst hw
          simp only [Option.some.injEq, Prod.mk.injEq] at h
          obtain ⟨rfl, rfl, rfl⟩ := h
          have hi2 := of_decide_eq_true hv
          rw [hd] at hdx
          simp only [Den] at hdx
          obtain ⟨A, q, hA0, hnq, hq, -, hA⟩ := hdx
          have exec : ∀ {w' : World}, (Builtin.clear_ #[t] o.type #[ρ x]).run P w = .ok (.tuple #[]) w' → (execOp ρ o).run P w = .ok (.value (.tuple #[])) w' := by
            intro w' h
            refine call_exec hop ?_
            simp only [builtin, List.map_toArray, List.map_cons, List.map_nil, Sem.run_bind, h, Result.andThen_ok, Sem.run_pure]
          have hden : Den β (.tup []) (.tuple #[]) := by simp only [Den]; exact ⟨[], rfl, by simp [DenL]⟩
          -- less of it told
          have less : ∀ base, β.b[l]? = some base → Ext β bl w β (setl bl l (some (.rows w' (rs.take i)))) w := fun base hb => by
            rw [setl_set]
            cases base with
            | none =>
              obtain ⟨base, e, hin⟩ := hh.lv l _ (lvl_get hl)
              rw [hb] at e
              obtain rfl := Option.some.inj e
              have hr : DenR β w' rs [] := hin
              have hlr := denR_len hr
              have hrs : rs = [] := by
                cases rs with
                | nil => rfl
                | cons a r => simp only [List.length_nil, List.length_cons, Nat.add_mul, Nat.one_mul] at hlr; omega
              subst hrs
              rw [List.take_nil, ← setl_set, setl_same hl]
              exact .refl hh
            | some p =>
              obtain ⟨b, s⟩ := p
              obtain ⟨ys, sp, T', fz, hg, hs, hcs, hsp, hfz⟩ := heap_cells hh hl hb rfl
              simp only [CsDen] at hcs
              have e1 : ys.take (i * w') ++ (ys.drop (i * w') ++ sp) = ys ++ sp := by rw [← List.append_assoc, List.take_append_drop]
              have hwr := hh.write2 (c' := .rows w' (rs.take i)) (ys' := ys.take (i * w')) (sp' := ys.drop (i * w') ++ sp) (lvl_get hl) hb hg (by simp only [List.length_take, List.length_append, List.length_drop]; omega)
                (fun x hx => SpV.none (by
                  rcases List.mem_append.1 hx with hx | hx
                  · exact denR_ones hcs x (List.mem_of_mem_drop hx)
                  · exact (hsp x hx).1)) hfz (denR_take i hcs)
              rw [e1, setRow_self w b _ T' fz hg] at hwr
              exact hwr
          obtain ⟨base, hbase, -⟩ := hh.lv l _ (lvl_get hl)
          by_cases hn0 : n = 0
          · subst hn0
            refine ⟨_, w, β, .inl (exec ?_), hden, less _ hbase⟩
            rw [hA0]
            cases A <;> simp [Builtin.clear_, underlying_run w hut]
          · obtain ⟨b, s, hb, rfl, hfit⟩ := hA (by omega)
            obtain ⟨ys, sp, T', fz, hg, hs, hcs, hsp, hfz⟩ := heap_cells hh hl hb rfl
            simp only [CsDen] at hcs
            have hyl := denR_len hcs
            have g1 : i * w' ≤ ys.length := by rw [hyl]; exact Nat.mul_le_mul_right _ hi2
            have hzr : Builtin.zeroCells v.cells n = (List.replicate n v.cells.toList).flatten.toArray := by
              have := rows_zero v.cells.toList n (by omega)
              simpa [Builtin.zeroCells] using this
            have hzl : (Builtin.zeroCells v.cells n).toList.length = n * w' := by
              rw [hzr]
              have := flatten_len (w := w') (rs := List.replicate n v.cells.toList) (fun r hr => by rw [List.eq_of_mem_replicate hr]; exact hvl)
              simpa using this
            have hfit2 : i * w' + n * w' ≤ (ys ++ sp).length := by
              rw [List.length_append, hs, ← Nat.add_mul]
              exact Nat.le_trans (Nat.mul_le_mul_right _ (by omega)) hfit
            have hones := zeroCells_ones (p := fun x => one x = true) hone (by simp at hvl; omega) n
            have hst := storeCells_run (P := P) b (i * w') T' fz (Builtin.zeroCells v.cells n).toList 0 (ys ++ sp).toArray w hg (by simpa [hs] using hfz.2.1) (by rw [hzl]; simpa using hfit2) hones
            simp only [Nat.add_zero, hzl, List.append_assoc] at hst
            have e1 : (ys ++ sp).take (i * w') = ys.take (i * w') := List.take_append_of_le_length g1
            rw [e1] at hst
            have hwr := hh.write2 (c' := .rows w' (rs.take i)) (ys' := ys.take (i * w')) (sp' := (Builtin.zeroCells v.cells n).toList ++ (ys ++ sp).drop (i * w' + n * w')) (lvl_get hl) hb hg
              (by
                rw [List.length_append, hs] at hfit2
                simp only [List.length_append, hzl, List.length_take, List.length_drop]
                omega)
              (fun x hx => SpV.none (by
                rcases List.mem_append.1 hx with hx | hx
                · exact hones x hx
                · rcases List.mem_append.1 (List.mem_of_mem_drop hx) with hx | hx
                  · exact denR_ones hcs x hx
                  · exact (hsp x hx).1)) hfz (denR_take i hcs)
            rw [← setl_set] at hwr
            refine ⟨_, _, β, .inl (exec ?_), hden, hwr⟩
            rw [hA0]
            have hst' : (storeCells ⟨b, i * w', none⟩ (Builtin.zeroCells v.cells n).toList).run P w = _ := hst
            obtain ⟨n', rfl⟩ : ∃ n', n = n' + 1 := ⟨n - 1, by omega⟩
            simp [Builtin.clear_, underlying_run w hut, zeroValue, typeInfo, hi, hzz, hst']
        · cases h
      · cases h
    · cases h
  · cases h

theorem clN_sound {x : Operand} {t e : TypeId} {T E : TI} {k : IntKind} {z : Int} {by_ : Nat} (hev : EvOk β tm ρ) (hh : Heap β bl w) (hop : o.op = .call { callee := .builtin .clear, args := #[x], argTypes := #[t] }) (ht : ti P t = some T) (hk : T.kd = .slice e 1 by_) (hE : ti P e = some E) (hz : E.zc = some [.v (.int k z)])
    (h : clN k bl (ev tm x) = some (vc, r, bl')) (hv : vc = true) : Eff P β bl w ρ o r bl' := by
  obtain ⟨hut, hcz, hbz⟩ := kd_slice ht hk
  obtain ⟨ii, v, hi, hzz, hc, hone⟩ := zc_spec (β := β) hE hz
  have hvl : v.cells.toList.length = 1 := by
    obtain ⟨y', zs, e1, -, -, e3⟩ := (denC_cons (by rfl)).1 hc
    simp only [DenC] at e3; rw [e1, e3]; rfl
  have hone' : ∀ x ∈ v.cells.toList, SpV (some k) x := by
    obtain ⟨y', zs, e1, e2, -, e3⟩ := (denC_cons (by rfl)).1 hc
    simp only [DenC] at e3
    subst e3
    simp only [Den] at e2
    intro x hx
    rw [e1] at hx
    obtain rfl := List.mem_singleton.1 hx
    exact ⟨by rw [e2.1]; exact e2.2.1, fun kk e => by cases e; exact ⟨z, e2.1, e2.2.2⟩⟩
  have hdx := hev x
  unfold clN at h
  split at h
  · rename_i l i w' n c hd
    split at h
    · rename_i hw
      subst hw
      split at h
      · rename_i k' xs hl
        split at h
        · rename_i hkk
          subst hkk
          simp only [Option.some.injEq, Prod.mk.injEq] at h
          obtain ⟨rfl, rfl, rfl⟩ := h
          have hi2 := of_decide_eq_true hv
          rw [hd] at hdx
          simp only [Den] at hdx
          obtain ⟨A, q, hA0, hnq, hq, -, hA⟩ := hdx
          have exec : ∀ {w' : World}, (Builtin.clear_ #[t] o.type #[ρ x]).run P w = .ok (.tuple #[]) w' → (execOp ρ o).run P w = .ok (.value (.tuple #[])) w' := by
            intro w' h
            refine call_exec hop ?_
            simp only [builtin, List.map_toArray, List.map_cons, List.map_nil, Sem.run_bind, h, Result.andThen_ok, Sem.run_pure]
          have hden : Den β (.tup []) (.tuple #[]) := by simp only [Den]; exact ⟨[], rfl, by simp [DenL]⟩
          have less : ∀ base, β.b[l]? = some base → Ext β bl w β (setl bl l (some (.num k' (xs.take i)))) w := fun base hb => by
            rw [setl_set]
            cases base with
            | none =>
              obtain ⟨base, e, hin⟩ := hh.lv l _ (lvl_get hl)
              rw [hb] at e
              obtain rfl := Option.some.inj e
              have hr : [] = xs.map (Value.int k') ∧ okN k' xs := hin
              have hrs : xs = [] := by simpa using hr.1.symm
              subst hrs
              rw [List.take_nil, ← setl_set, setl_same hl]
              exact .refl hh
            | some p =>
              obtain ⟨b, s⟩ := p
              obtain ⟨ys, sp, T', fz, hg, hs, hcs, hsp, hfz⟩ := heap_cells hh hl hb rfl
              simp only [CsDen] at hcs
              obtain ⟨rfl, hok⟩ := hcs
              have e1 : (xs.take i).map (Value.int k') ++ ((xs.drop i).map (Value.int k') ++ sp) = xs.map (Value.int k') ++ sp := by rw [← List.append_assoc, ← List.map_append, List.take_append_drop]
              have hwr := hh.write2 (c' := .num k' (xs.take i)) (ys' := (xs.take i).map (Value.int k')) (sp' := (xs.drop i).map (Value.int k') ++ sp) (lvl_get hl) hb hg (by simp only [List.length_map, List.length_take, List.length_append, List.length_drop] at *; omega)
                (fun x hx => by
                  rcases List.mem_append.1 hx with hx | hx
                  · exact SpV.num (okN_drop hok _) x hx
                  · exact hsp x hx) hfz ⟨rfl, okN_take hok _⟩
              rw [e1, setRow_self w b _ T' fz hg] at hwr
              exact hwr
          obtain ⟨base, hbase, -⟩ := hh.lv l _ (lvl_get hl)
          by_cases hn0 : n = 0
          · subst hn0
            refine ⟨_, w, β, .inl (exec ?_), hden, less _ hbase⟩
            rw [hA0]
            cases A <;> simp [Builtin.clear_, underlying_run w hut]
          · obtain ⟨b, s, hb, rfl, hfit⟩ := hA (by omega)
            obtain ⟨ys, sp, T', fz, hg, hs, hcs, hsp, hfz⟩ := heap_cells hh hl hb rfl
            simp only [CsDen] at hcs
            obtain ⟨rfl, hok⟩ := hcs
            have g1 : i ≤ (xs.map (Value.int k')).length := by simpa using hi2
            have hzr : Builtin.zeroCells v.cells n = (List.replicate n v.cells.toList).flatten.toArray := by
              have := rows_zero v.cells.toList n (by omega)
              simpa [Builtin.zeroCells] using this
            have hzl : (Builtin.zeroCells v.cells n).toList.length = n := by
              rw [hzr]
              have := flatten_len (w := 1) (rs := List.replicate n v.cells.toList) (fun r hr => by rw [List.eq_of_mem_replicate hr]; exact hvl)
              simpa using this
            rw [Nat.mul_one] at hfit
            have hfit2 : i + n ≤ (xs.map (Value.int k') ++ sp).length := by
              rw [List.length_append, hs]; omega
            have hsv := zeroCells_ones (p := SpV (some k')) hone' (by simp at hvl; omega) n
            have hst := storeCells_run (P := P) b (i * 1) T' fz (Builtin.zeroCells v.cells n).toList 0 (xs.map (Value.int k') ++ sp).toArray w hg (by intro j j1 j2; have := hfz.2.1 j j1 j2; simp at hs ⊢; omega) (by rw [hzl]; simpa using hfit2) (fun x hx => (hsv x hx).1)
            simp only [Nat.add_zero, Nat.mul_one, hzl, List.append_assoc] at hst
            have e1 : (xs.map (Value.int k') ++ sp).take i = (xs.take i).map (Value.int k') := by rw [List.take_append_of_le_length g1, List.map_take]
            rw [e1] at hst
            have hwr := hh.write2 (c' := .num k' (xs.take i)) (ys' := (xs.take i).map (Value.int k')) (sp' := (Builtin.zeroCells v.cells n).toList ++ (xs.map (Value.int k') ++ sp).drop (i + n)) (lvl_get hl) hb hg
              (by
                rw [List.length_append, hs] at hfit2
                simp only [List.length_append, hzl, List.length_map, List.length_take, List.length_drop] at *
                omega)
              (fun x hx => by
                rcases List.mem_append.1 hx with hx | hx
                · exact hsv x hx
                · rcases List.mem_append.1 (List.mem_of_mem_drop hx) with hx | hx
                  · exact SpV.num hok x hx
                  · exact hsp x hx) hfz ⟨rfl, okN_take hok _⟩
            rw [← setl_set] at hwr
            refine ⟨_, _, β, .inl (exec ?_), hden, hwr⟩
            rw [hA0]
            obtain ⟨n', rfl⟩ : ∃ n', n = n' + 1 := ⟨n - 1, by omega⟩
            simp [Builtin.clear_, underlying_run w hut, zeroValue, typeInfo, hi, hzz, hst]
        · cases h
      · cases h
    · cases h
  · cases h

/-- A block marked as a string's: behind its end. -/
theorem Heap.mark {l b s : Nat} {c : Ct} (h : Heap β bl w) (hl : lvl bl l = some c) (hb : β.b[l]? = some (some (b, s))) (hc : c.cell = true) (hz : spz c = false) :
    ∃ T, w.shape? b = some (T, s) ∧ Ext β bl w β bl (w.freeze ⟨b, s, none⟩ 1) := by
  obtain ⟨ys, sp, T, fz, hg, hs, hcs, hsp, hfz⟩ := heap_cells h hl hb hc
  have hsz : (ys ++ sp).toArray.size = s := by simpa using hs
  obtain ⟨lo, hi⟩ := fz
  have hother : ∀ b', b' ≠ b → (w.freeze ⟨b, s, none⟩ 1).heap[b']? = w.heap[b']? := fun b' hne => by
    unfold World.freeze
    rw [if_neg (by decide)]
    simp only [Array.getElem?_modify]
    rw [if_neg (Ne.symm hne)]
  have hself : ∃ fz', (w.freeze ⟨b, s, none⟩ 1).heap[b]? = some (.cells (ys ++ sp).toArray T fz') ∧ FzOk (spz c) fz' s := by
    unfold World.freeze
    rw [if_neg (by decide)]
    simp only [Array.getElem?_modify, if_true, hg, Option.map_some]
    refine ⟨_, rfl, ?_⟩
    obtain ⟨h1, h2, -⟩ := hfz
    simp only at h1 h2
    by_cases e : lo = hi
    · subst e
      simp only [beq_self_eq_true, if_true]
      exact ⟨Nat.le_succ _, fun j hj _ => hj, fun e => by rw [hz] at e; cases e⟩
    · have : (lo == hi) = false := by simpa using e
      simp only [this, Bool.false_eq_true, if_false]
      have := h2 lo (Nat.le_refl _) (by omega)
      exact ⟨by simp only; omega, fun j hj _ => by simp only at hj; omega, fun e => by rw [hz] at e; cases e⟩
  obtain ⟨fz', hself, hfz'⟩ := hself
  refine ⟨T, by simp only [World.shape?, hg, hsz], .refl _, ⟨h.len, fun m c0 hm => ?_, h.sep, fun t b' cs' hz => ?_⟩, ⟨rfl, rfl, rfl, ?_, fun b' _ hno => hother b' (fun e => hno ⟨l, c, s, lvl_get hl, by rw [e]; exact hb⟩)⟩, fun b' hb' => .inl hb', fun b' cs' hz => .inl hz, rfl⟩
  · obtain ⟨base, e, hin⟩ := h.lv m c0 hm
    by_cases hml : m = l
    · subst hml
      have h0 := lvl_get hl
      rw [h0] at hm
      obtain rfl := Option.some.inj (Option.some.inj hm)
      exact ⟨_, hb, .inl ⟨hc, ys, sp, T, fz', hself, hs, hcs, hsp, hfz'⟩⟩
    · refine ⟨base, e, hin.same fun b' s' hb' => ?_⟩
      subst hb'
      exact hother b' (fun e3 => h.sep l m c c0 b s s' (fun e4 => hml e4.symm) (lvl_get hl) hm hb (by rw [e, e3]))
  · obtain ⟨⟨T', fz0, e⟩, hno⟩ := h.frz t b' cs' hz
    exact ⟨⟨T', fz0, by rw [hother b' (fun e3 => hno ⟨l, c, s, lvl_get hl, by rw [e3]; exact hb⟩)]; exact e⟩, hno⟩
  · unfold World.freeze
    rw [if_neg (by decide)]
    simp

theorem toBytes_sound {src dst : TypeId} {x : Operand} (hev : EvOk β tm ρ) (hh : Heap β bl w) (hop : o.op = .convert src dst x) (h : eop2 P tm bl o.op = some (vc, r, bl')) : Eff P β bl w ρ o r bl' := by
  rw [hop] at h
  simp only [eop2] at h
  split at h
  · rename_i S D hs hd
    split at h
    · rename_i e sz by_ hk hkd hik
      split at h
      · rename_i hsz
        subst hsz
        split at h
        · rename_i s he
          simp only [Option.some.injEq, Prod.mk.injEq] at h
          obtain ⟨-, rfl, rfl⟩ := h
          have hx := hev x
          rw [he] at hx
          simp only [Den, wfV] at hx
          obtain ⟨hx, -, hlt⟩ := hx
          have hus := kd_str hs hk
          obtain ⟨hud, -, -⟩ := kd_slice hd hkd
          have hue : P.underlying e = some (.int .u8) := by
            obtain ⟨i, d, -, hu', -, -, -, -, hik', -⟩ := ti_spec hd
            rw [hik'] at hik
            unfold ikOf at hik
            rw [hud] at hik
            simp only at hik
            cases hq : P.underlying e with
            | none => simp [hq] at hik
            | some d => cases d <;> simp [hq] at hik <;> rw [hik]
          have hrun := run_bytes_of_string (P := P) w src dst e s hus hud hue
          have hcap : s.size ≤ grownCap w s.size 0 e ∧ grownCap w s.size 0 e < 9223372036854775808 := by
            simp only [grownCap, Question.cut]
            have : 2 ^ 63 = 9223372036854775808 := by decide
            have hm := Nat.mod_lt (w.tape w.drawn (.appendCap s.size 0 e)) (show 2 ^ 63 - s.size > 0 by omega)
            omega
          generalize grownCap w s.size 0 e = Q at hrun hcap
          have hrow : bytesRow s Q = ((bytesL s).map (Value.int .u8) ++ List.replicate (Q - s.size) (Value.int .u8 0)).toArray := by
            apply Array.ext'
            simp [bytesRow, bytesL]
          have hsz : (bytesRow s Q).size = Q := by rw [hrow]; simp [bytesL_len]; omega
          rw [hsz, hrow] at hrun
          have hm := hh.make (c := .num .u8 (bytesL s)) (s := Q) (o := .cells ((bytesL s).map (Value.int .u8) ++ List.replicate (Q - s.size) (Value.int .u8 0)).toArray e (Q, Q + 1))
            (w' := w.drew.alloc (.cells ((bytesL s).map (Value.int .u8) ++ List.replicate (Q - s.size) (Value.int .u8 0)).toArray e (Q, Q + 1))) rfl rfl rfl rfl
            (.inl ⟨rfl, (bytesL s).map (Value.int .u8), List.replicate (Q - s.size) (Value.int .u8 0), e, (Q, Q + 1), by show (w.heap.push _)[w.heap.size]? = _; simp, by simp [bytesL_len]; omega, ⟨rfl, bytesL_ok s⟩,
              (fun x hx => by rw [List.eq_of_mem_replicate hx]; exact ⟨rfl, fun kk e => by cases e; exact ⟨0, rfl, rfl⟩⟩), Nat.le_succ _, fun j h1 h2 => h1, fun e => by cases e⟩)
          refine ⟨.slice (some ⟨w.heap.size, 0, none⟩) s.size Q, _, _, .inl ?_, ?_, hm⟩
          rotate_left
          · simp only [Den]
            refine ⟨some ⟨w.heap.size, 0, none⟩, Q, by rw [bytesL_len], by rw [bytesL_len]; exact hcap.1, hcap.2, (fun m hm => by cases hm), fun _ => ⟨w.heap.size, Q, at_new hh, by simp, by simp⟩⟩
          · unfold execOp
            simp only [hop, hx, Sem.run_bind, hrun, Result.andThen_ok, Sem.run_pure, bytesL_len]
        · cases h
      · cases h
    · -- bytes as they are, marked as a string's
      rename_i e0 sz0 by0 e sz by_ hk hkd hik
      split at h
      · rename_i hsd
        subst hsd
        split at h
        · split at h
          · rename_i l i w' n c he
            split at h
            · cases h
            · rename_i hn
              split at h
              · rename_i b0 hl
                split at h
                · rename_i hcell
                  simp only [Option.some.injEq, Prod.mk.injEq] at h
                  obtain ⟨-, rfl, rfl⟩ := h
                  have hx := hev x
                  rw [he] at hx
                  have hx' := hx
                  simp only [Den] at hx
                  obtain ⟨A, q, hx, h1, h2, h3, h4⟩ := hx
                  obtain ⟨b, s, hb, rfl, -⟩ := h4 (by omega)
                  rw [Bool.and_eq_true, Bool.not_eq_true'] at hcell
                  obtain ⟨T, hshape, hext⟩ := hh.mark hl hb hcell.1 hcell.2
                  obtain ⟨hud, -, -⟩ := kd_slice hd hkd
                  have hue : P.underlying e = some (.int .u8) := by
                    obtain ⟨i, d, -, hu', -, -, -, -, hik', -⟩ := ti_spec hd
                    rw [hik'] at hik
                    unfold ikOf at hik
                    rw [hud] at hik
                    simp only at hik
                    cases hq : P.underlying e with
                    | none => simp [hq] at hik
                    | some d => cases d <;> simp [hq] at hik <;> rw [hik]
                  refine ⟨_, _, β, .inl ?_, hx', hext⟩
                  unfold execOp
                  simp only [hop, hx, convert, Sem.run_bind, underlying_run w hud, Result.andThen_ok, beq_self_eq_true, underlying_run w hue, markStringish, run_shape, hshape, run_freeze, Sem.run_pure]
                · cases h
              · cases h
          · cases h
        · cases h
      · cases h
    · cases h
  · cases h

theorem chR_sound {k : IntKind} {m : Nat} {f : List Int → List Int} (hf : ∀ xs, xs.length = m → okN k xs → (f xs).length = m ∧ okN k (f xs)) : ∀ {cs r : List AV} {ys : List Value} {o : Nat}, DenC β cs ys → chR cs o k m f = some r →
    ∃ xs, xs.length = m ∧ okN k xs ∧ o + m ≤ ys.length ∧ (ys.drop o).take m = xs.map (.int k) ∧ DenC β r (ys.take o ++ ((f xs).map (.int k) ++ ys.drop (o + m)))
  | [], r, ys, o, _, h => by simp [chR] at h
  | c :: cs, r, ys, o, hd, h => by
    rcases denC_case hd with ⟨hs, y, zs, rfl, h1, h2, h3⟩ | ⟨n, k', ns, rfl, zs, rfl, h1, h2, h3⟩
    · have h' : (if o = 0 then none else (match chR cs (o - 1) k m f with
          | some r => some (c :: r)
          | none => none)) = some r := by
        cases c <;> first | exact h | (simp [AV.scal] at hs)
      split at h'
      · cases h'
      · rename_i h0
        split at h'
        · rename_i r' hr
          obtain rfl := Option.some.inj h'
          obtain ⟨o', rfl⟩ : ∃ o', o = o' + 1 := ⟨o - 1, by omega⟩
          obtain ⟨xs, g1, g2, g3, g4, g5⟩ := chR_sound hf h3 hr
          refine ⟨xs, g1, g2, by simp at g3 ⊢; omega, by simpa using g4, ?_⟩
          rw [show o' + 1 + m = (o' + m) + 1 by omega, List.take_succ_cons, List.drop_succ_cons, List.cons_append]
          exact (denC_cons hs).2 ⟨y, _, rfl, h1, h2, g5⟩
        · cases h'
    · simp only [chR] at h
      split at h
      · rename_i h0
        subst h0
        split at h
        · rename_i hk
          subst hk
          split at h
          · rename_i hm
            subst hm
            obtain rfl := Option.some.inj h
            obtain ⟨g1, g2⟩ := hf ns h1 h2
            refine ⟨ns, h1, h2, by simp [h1], ?_, ?_⟩
            · rw [List.drop_zero, List.take_append_of_le_length (by simp [h1]), List.take_of_length_le (by simp [h1])]
            · rw [List.take_zero, List.nil_append, Nat.zero_add, List.drop_append, List.drop_of_length_le (by simp [h1])]
              exact denC_ch.2 ⟨zs, by simp [h1], g1, g2, h3⟩
          · cases h
        · cases h
      · split at h
        · rename_i hle
          split at h
          · rename_i r' hr
            obtain rfl := Option.some.inj h
            obtain ⟨xs, g1, g2, g3, g4, g5⟩ := chR_sound hf h3 hr
            refine ⟨xs, g1, g2, by simp [h1]; omega, ?_, ?_⟩
            · rw [List.drop_append, List.drop_of_length_le (by simp; omega)]
              simpa [h1] using g4
            · refine denC_ch.2 ⟨_, ?_, h1, h2, g5⟩
              rw [List.take_append, List.take_of_length_le (by simp; omega), List.drop_append, List.drop_of_length_le (by simp; omega)]
              simp only [List.length_map, h1, List.nil_append, List.append_assoc]
              rw [show o + m - n = o - n + m by omega]
          · cases h
        · cases h

theorem first_run {A : Option Addr} {m n q : Nat} {k : IntKind} {xs : List Int} (hm : m ≤ xs.length) (hq : xs.length ≤ q) (hA : q ≠ 0 → ∃ b o, A = some ⟨b, o, none⟩ ∧ InW w b o (xs.map (.int k))) :
    (Builtin.firstCells 1 m (.slice A n q)).run P w = .ok ((xs.take m).map (.int k)).toArray w := by
  by_cases h0 : m = 0
  · subst h0
    cases A with
    | none => simp [Builtin.firstCells]
    | some A => simp [Builtin.firstCells, loadCells, loadCellsFrom]
  · obtain ⟨b, o0, rfl, cs, T, fz, h1, h2⟩ := hA (by omega)
    have hi : InW w b o0 ((xs.take m).map (.int k)) := ⟨cs, T, fz, h1, fun j v hj => h2 j v (by
      have hlt := (List.getElem?_eq_some_iff.1 hj).1
      simp at hlt
      rw [List.map_take, List.getElem?_take_of_lt (by omega)] at hj
      exact hj)⟩
    have := loadCells_inW (P := P) hi
    have e : ((xs.take m).map (Value.int k)).length = m := by simp; omega
    rw [e] at this
    simpa [Builtin.firstCells] using this

/-- Numbers that are copied from, in a world. -/
theorem cpSrcN_run {t u : TypeId} {k : IntKind} {U : TI} {x : AV} {y : Value} {m0 : Nat} {news : List Int} (hh : Heap β bl w) (hu : ti P u = some U) (hd : Den β x y)
    (h : cpSrcN k U.kd bl x = some (m0, news)) : okN k news ∧ m0 < 9223372036854775808 ∧ (Builtin.lenOf y).run P w = .ok m0 w ∧ ∀ m, m ≤ news.length → m ≤ m0 → (Builtin.firstCells 1 m y).run P w = .ok ((news.take m).map (.int k)).toArray w := by
  unfold cpSrcN at h
  split at h
  · rename_i s hk
    split at h
    · rename_i hk8
      subst hk8
      simp only [Option.some.injEq, Prod.mk.injEq] at h
      obtain ⟨rfl, rfl⟩ := h
      simp only [Den, wfV] at hd
      refine ⟨bytesL_ok s, by rw [bytesL_len]; exact hd.2.2, by rw [hd.1, bytesL_len]; rfl, fun m hm _ => ?_⟩
      rw [hd.1]
      simp [Builtin.firstCells]
      apply Array.ext'
      simp [bytesL, List.extract_eq_take_drop, List.map_take]
      rfl
    · cases h
  · simp only [Option.some.injEq, Prod.mk.injEq] at h
    obtain ⟨rfl, rfl⟩ := h
    simp only [Den] at hd
    subst hd
    exact ⟨fun _ h => (by cases h), by decide, rfl, fun m hm _ => by
      obtain rfl : m = 0 := by simpa using hm
      simp [Builtin.firstCells]⟩
  · rename_i t' k' xs c
    split at h
    · rename_i hk
      subst hk
      simp only [Option.some.injEq, Prod.mk.injEq] at h
      obtain ⟨rfl, rfl⟩ := h
      simp only [Den] at hd
      obtain ⟨A, q, rfl, h1, h2, h3, h4, h5⟩ := hd
      refine ⟨h4, by omega, rfl, fun m hm _ => first_run hm h1 fun hq => ?_⟩
      obtain ⟨b, o, e, hc⟩ := h5 hq
      exact ⟨b, o, e, InW.of_heap hh hc⟩
    · cases h
  · rename_i l i w' n c _
    split at h
    · rename_i k' xs hl
      split at h
      · rename_i hk
        subst hk
        split at h
        · rename_i hw
          subst hw
          simp only [Option.some.injEq, Prod.mk.injEq] at h
          obtain ⟨rfl, rfl⟩ := h
          simp only [Den] at hd
          obtain ⟨A, q, rfl, h1, h2, h3, h4⟩ := hd
          obtain ⟨base, hbase, hin⟩ := hh.lv l _ (lvl_get hl)
          have hok : okN k' xs := by
            unfold CtIn at hin
            cases base with
            | none => exact hin.2
            | some p =>
              rcases hin with ⟨-, ys, sp, T, fz, -, -, hc, -⟩ | ⟨hf, -⟩
              · exact hc.2
              · cases hf
          refine ⟨okN_take (okN_drop hok _) _, by omega, rfl, fun m hm hm2 => ?_⟩
          have hq : (((xs.drop i).take n).length ≤ q) := by simp; omega
          have := first_run (P := P) (w := w) (A := A) (m := m) (n := n) (q := q) (k := k') (xs := (xs.drop i).take n) hm hq (fun hq => by
            obtain ⟨b, s, hb, rfl, hs⟩ := h4 hq
            obtain ⟨ys, sp, T, fz, hg, hsz, hc, -⟩ := heap_cells hh hl hb rfl
            refine ⟨b, i * 1, rfl, _, T, fz, hg, fun j v hj => ?_⟩
            simp only [CsDen] at hc
            rw [hc.1]
            rw [List.map_take, List.map_drop, List.getElem?_take] at hj
            split at hj
            · rw [List.getElem?_drop] at hj
              simp only [List.getElem?_toArray, Nat.mul_one]
              rw [List.getElem?_append_left (List.getElem?_eq_some_iff.1 hj).1]; exact hj
            · cases hj)
          exact this
        · cases h
      · cases h
    · cases h
  · cases h

theorem copy_sound {args : Array Operand} {ats : Array TypeId} (hev : EvOk β tm ρ) (hh : Heap β bl w) (hop : o.op = .call { callee := .builtin .copy, args, argTypes := ats }) (h : eop2 P tm bl o.op = some (vc, r, bl')) (hv : vc = true) :
    Eff P β bl w ρ o r bl' := by
  rw [hop] at h
  simp only [eop2] at h
  split at h
  · rename_i d x t u hx htl
    have ha : args = #[d, x] := by apply Array.ext'; simpa using hx
    have hts : ats = #[t, u] := by apply Array.ext'; simpa using htl
    subst ha; subst hts
    split at h
    · rename_i T U ht hu
      split at h
      · rename_i e sz by_ k hk hik
        split at h
        · rename_i hsz
          subst hsz
          obtain ⟨hut, hcz, -⟩ := kd_slice ht hk
          split at h
          · rename_i l i w' n c hd
            split at h
            · rename_i hw
              subst hw
              have hdd := hev d
              rw [hd] at hdd
              simp only [Den] at hdd
              obtain ⟨A, q, hA0, hnq, hq, -, hA⟩ := hdd
              -- what runs
              have core : ∀ {m0 : Nat} {news : List Int} {ct ct' : Ct}, cpSrcN k U.kd bl (ev tm x) = some (m0, news) → min m0 n ≤ news.length → lvl bl l = some ct → ct.cell = true → spk ct' = spk ct ∧ spz ct' = spz ct →
                  (∀ ys, CsDen β ct ys → n ≠ 0 → i ≤ ys.length ∧ CsDen β ct' (ys.take i ++ ((news.take (min m0 n)).map (.int k) ++ ys.drop (i + min m0 n)))) → (n = 0 → ct' = ct) →
                  Eff P β bl w ρ o (.v (.int .i64 (min m0 n : Nat))) (setl bl l (some ct')) := by
                intro m0 news ct ct' hsrc hm0 hl hcell hkd hw hz
                obtain ⟨hok, hm63, hlen, hfirst⟩ := cpSrcN_run (t := t) hh hu (hev x) hsrc
                have hf := hfirst (min m0 n) hm0 (Nat.min_le_left _ _)
                have exec : ∀ {w' : World}, (Builtin.copy_ #[t, u] o.type #[ρ d, ρ x]).run P w = .ok (goInt ((min m0 n : Nat) : Int)) w' → (execOp ρ o).run P w = .ok (.value (.int .i64 (min m0 n : Nat))) w' := by
                  intro w' h
                  refine call_exec hop ?_
                  simp only [builtin, List.map_toArray, List.map_cons, List.map_nil, Sem.run_bind, h, Result.andThen_ok, Sem.run_pure]
                  rfl
                have hmin : Nat.min m0 n = min m0 n := rfl
                by_cases hn0 : n = 0
                · subst hn0
                  rw [hz rfl, setl_same hl]
                  refine ⟨_, w, β, .inl (exec ?_), mk_len (by omega), .refl hh⟩
                  rw [hA0]
                  have hf0 := hfirst 0 (Nat.zero_le _) (Nat.zero_le _)
                  simp only [Nat.min_zero] at *
                  cases A with
                  | none => simp [Builtin.copy_, underlying_run w hut, hlen, sizeOf_pos w hcz (by decide : (1 : Nat) ≠ 0), hmin, hf0]
                  | some A => simp [Builtin.copy_, underlying_run w hut, hlen, sizeOf_pos w hcz (by decide : (1 : Nat) ≠ 0), hmin, hf0, storeCells]
                · obtain ⟨b, s, hb, rfl, hfit⟩ := hA (by omega)
                  obtain ⟨ys, sp, T', fz, hg, hs, hcs, hsp, hfz⟩ := heap_cells hh hl hb hcell
                  obtain ⟨g1, g2⟩ := hw ys hcs hn0
                  have hnl : ((news.take (min m0 n)).map (Value.int k)).length = min m0 n := by rw [List.length_map, List.length_take]; omega
                  have hst := storeCells_run (P := P) b (i * 1) T' fz ((news.take (min m0 n)).map (.int k)) 0 (ys ++ sp).toArray w hg (by simpa [hs] using hfz.2.1) (by simp; omega) (fun v hv => by obtain ⟨z, -, rfl⟩ := List.mem_map.1 hv; rfl)
                  have e1 : (ys ++ sp).take i ++ ((news.take (min m0 n)).map (.int k) ++ (ys ++ sp).drop (i + min m0 n)) = (ys.take i ++ ((news.take (min m0 n)).map (.int k) ++ ys.drop (i + min m0 n))) ++ sp.drop (i + min m0 n - ys.length) := by
                    rw [List.take_append_of_le_length (by omega), List.drop_append]; simp
                  simp only [Nat.mul_one, Nat.add_zero, hnl, List.append_assoc] at hst
                  rw [e1] at hst
                  rw [List.map_take] at hst hf e1
                  have hfit' := hfit
                  rw [Nat.mul_one] at hfit'
                  have hwr := hh.write2 (c' := ct') (sp' := sp.drop (i + min m0 n - ys.length)) (lvl_get hl) hb hg (by simp only [List.length_append, List.length_take, List.length_drop, hnl]; omega) (fun x hx => by rw [hkd.1]; exact hsp x (List.mem_of_mem_drop hx)) (by rw [hkd.2]; exact hfz) g2
                  rw [← setl_set] at hwr
                  refine ⟨_, _, β, .inl (exec ?_), mk_len (by omega), hwr⟩
                  rw [hA0]
                  simp [Builtin.copy_, underlying_run w hut, hlen, sizeOf_pos w hcz (by decide : (1 : Nat) ≠ 0), hmin, hf, hst]
              split at h
              · rename_i m0 news k' xs hsrc hl
                split at h
                · rename_i hk'
                  subst hk'
                  simp only [Option.some.injEq, Prod.mk.injEq] at h
                  obtain ⟨rfl, rfl, rfl⟩ := h
                  simp only [Bool.and_eq_true, decide_eq_true_eq] at hv
                  have hokn := (cpSrcN_run (t := t) hh hu (hev x) hsrc).1
                  refine core hsrc hv.1 hl rfl ⟨rfl, rfl⟩ (fun ys hys hn => ?_) (fun hn => ?_)
                  · simp only [CsDen] at hys
                    obtain ⟨rfl, hok⟩ := hys
                    refine ⟨by simp; omega, ?_⟩
                    refine ⟨by simp, okN_append (okN_take hok _) (okN_append (okN_take hokn _) (okN_drop hok _))⟩
                  · subst hn; simp
                · cases h
              · rename_i m0 news cs hsrc hl
                split at h
                · cases h
                · rename_i hn
                  split at h
                  · rename_i r' hr
                    simp only [Option.some.injEq, Prod.mk.injEq] at h
                    obtain ⟨rfl, rfl, rfl⟩ := h
                    have hm0 := of_decide_eq_true hv
                    have hokn := (cpSrcN_run (t := t) hh hu (hev x) hsrc).1
                    have hf : ∀ xs : List Int, xs.length = n → okN k xs → (news.take (min m0 n) ++ xs.drop (min m0 n)).length = n ∧ okN k (news.take (min m0 n) ++ xs.drop (min m0 n)) := by
                      intro xs hx ho
                      exact ⟨by rw [List.length_append, List.length_take, List.length_drop]; omega, okN_append (okN_take hokn _) (okN_drop ho _)⟩
                    refine core hsrc hm0 hl rfl ⟨rfl, rfl⟩ (fun ys hys _ => ?_) (fun h => absurd h hn)
                    obtain ⟨xs, g1, g2, g3, g4, g5⟩ := chR_sound hf hys hr
                    refine ⟨by omega, ?_⟩
                    have e2 : ys.drop (i + min m0 n) = (xs.drop (min m0 n)).map (.int k) ++ ys.drop (i + n) := by
                      rw [List.map_drop, ← g4, ← List.drop_drop]
                      have e3 : ys.drop i = (ys.drop i).take n ++ ys.drop (i + n) := by rw [← List.drop_drop, List.take_append_drop]
                      conv => lhs; rw [e3]
                      rw [List.drop_append_of_le_length (by rw [List.length_take, List.length_drop]; omega)]
                    rw [e2]
                    simp only [CsDen]
                    simpa using g5
                  · cases h
              · cases h
            · cases h
          · cases h
        · cases h
      · rename_i e sz by_ hk hik
        split at h
        · cases h
        · rename_i h0
          obtain ⟨hut, hcz, -⟩ := kd_slice ht hk
          exact cpR_sound hev hh hop hut hcz h0 h hv
      · cases h
    · cases h
  · cases h

/-- Every operation that writes or makes memory. -/
theorem eop2_sound (hev : EvOk β tm ρ) (hh : Heap β bl w) (h : eop2 P tm bl o.op = some (vc, r, bl')) (hv : vc = true) : Eff P β bl w ρ o r bl' := by
  cases hop : o.op with
  | convert src dst x => exact toBytes_sound hev hh hop h
  | call c =>
    obtain ⟨cal, args, ats⟩ := c
    cases cal with
    | builtin b =>
      cases b with
      | copy => exact copy_sound hev hh hop h hv
      | append =>
        rw [hop] at h
        simp only [eop2] at h
        split at h
        · rename_i s x t u hx htl
          have ha : args = #[s, x] := by apply Array.ext'; simpa using hx
          have hts : ats = #[t, u] := by apply Array.ext'; simpa using htl
          subst ha; subst hts
          split at h
          · rename_i T U ht hu
            split at h
            · rename_i e sz by_ hk
              split at h
              · rename_i E hE
                split at h
                · rename_i k k' z hEk hz
                  split at h
                  · rename_i hkk
                    subst hkk
                    split at h
                    · rename_i hs1
                      subst hs1
                      split at h
                      · cases h
                      · rename_i h0
                        split at h
                        · rename_i c1 l olds c2 news hdst hsrc
                          exact appNN_sound hev hh hop ht hk hu hE hz hdst hsrc h0 h hv
                        · cases h
                    · cases h
                  · cases h
                · cases h
                · rename_i zc hz _ _
                  split at h
                  · cases h
                  · rename_i hs0
                    split at h
                    · cases h
                    · rename_i h0
                      split at h
                      · rename_i hw
                        split at h
                        · rename_i e' s' b' c2 news bl1 hU hsrc
                          split at h
                          · rename_i c1 l olds hdst
                            exact appR_sound hev hh hop ht hk hu hU hE hz hw hs0 h0 hsrc hdst h hv
                          · cases h
                        · rename_i ik c2 news hU hsrc
                          split at h
                          · rename_i c1 l olds hdst
                            exact appZ_sound hev hh hop ht hk hu hU hE hz hw hs0 h0 hsrc hdst h hv
                          · cases h
                        · cases h
                      · cases h
                · cases h
              · cases h
            · cases h
          · cases h
        · cases h
      | clear =>
        rw [hop] at h
        simp only [eop2] at h
        split at h
        · rename_i x t hx htl
          have ha : args = #[x] := by apply Array.ext'; simpa using hx
          have hts : ats = #[t] := by apply Array.ext'; simpa using htl
          subst ha; subst hts
          split at h
          · rename_i T ht
            split at h
            · rename_i e sz by_ hk
              split at h
              · cases h
              · rename_i h0
                split at h
                · rename_i E hE
                  split at h
                  · rename_i zc hz
                    split at h
                    · rename_i hw
                      split at h
                      · rename_i k k' z hEk
                        split at h
                        · rename_i hs1
                          obtain ⟨rfl, rfl⟩ := hs1
                          exact clN_sound hev hh hop ht hk hE hz h hv
                        · cases h
                      · cases h
                      · exact clR_sound hev hh hop ht hk hE ⟨_, hz, hw⟩ h0 h hv
                    · cases h
                  · cases h
                · cases h
            · cases h
          · cases h
        · cases h
      | _ => rw [hop] at h; simp [eop2] at h
    | _ => rw [hop] at h; simp [eop2] at h
  | _ => rw [hop] at h; simp [eop2] at h

theorem eop1_sound (hev : EvOk β tm ρ) (hh : Heap β bl w) (h : eop1 P tm bl o.op = some (vc, r, bl')) (hv : vc = true) : Eff P β bl w ρ o r bl' := by
  cases hop : o.op with
  | store t a x => exact store_sound hev hh hop h hv
  | alloc t => exact alloc_sound hh hop h
  | box t x => exact box_sound hev hh hop h
  | buildSlice t n ps => exact buildSlice_sound hev hh hop h
  | makeSlice t x y => exact makeSlice_sound hev hh hop h hv
  | _ => rw [hop] at h; simp [eop1] at h

end

end Go.SY
