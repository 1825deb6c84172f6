/-
  The symbolic machine: functions that take memory over, told by what they may come to; runs that stop where such a one is entered.
-/
import Derived.Test.YtdanhpemheldlaaSy32
set_option linter.unusedSimpArgs false
set_option linter.unusedVariables false
namespace Go.SY
open Go
theorem renE_id : ∀ es : List (AV × AV), renE (fun l => l) es = es
  | [] => rfl
  | (a, b) :: r => by simp only [renE, ren_id, renE_id r]
theorem renCt_id (c : Ct) : renCt (fun l => l) c = c := by
  cases c with
  | lit cs => simp only [renCt, renL_id]
  | num k xs => rfl
  | rows w rs => simp only [renCt, renR_id]
  | loop st pend fn n tm ps a b df => simp only [renCt, renT_id]
  | defs => rfl
  | map es => simp only [renCt, renE_id]
/-! ### states under other names, the first names kept -/
theorem Rch.fitK {P : Program} {pl : FuncId → Nat → Option Plan} {C : Ctx} {k : Nat} (hC : C.β.b.length = k) {S : AV → Bls → Prop} {c c' : Conf} (R : List Nat) (hR : R.take k = List.range k) (hf : Fit R c c') (h : Rch P pl C c' S) : Rch P pl C c S := by
  rintro β m ⟨⟨f, fs, fr, ts, w, e, rfl, h1, h2, h3⟩, h4, h5⟩
  obtain ⟨cfs, bl⟩ := c
  obtain ⟨cfs', bl'⟩ := c'
  simp only at e
  subst e
  obtain ⟨hnd, hlen, hfs, hbl⟩ := hf
  simp only at hlen hfs hbl h1 h2 h3 h4
  have hh := h3.heap
  let β' : Env := { β with b := R.map (fun x => (β.b[x]?).join) }
  have gnew : ∀ j : Nat, j < bl'.length → β'.b[j]? = some ((β.b[nm R j]?).join) := fun j hj => by
    show (R.map _)[j]? = _
    rw [List.getElem?_map, List.getElem?_eq_getElem (by omega)]
    simp [nm, List.getD_eq_getElem?_getD, List.getElem?_eq_getElem (show j < R.length by omega)]
  have tr : Tr β β' (nm R) (fun l => l) bl'.length true := ⟨fun l x hl hb => by show β'.b[l]? = _; rw [gnew l hl, hb]; rfl, fun _ _ h => h, fun _ _ _ h => h⟩
  have hat : ∀ {l : Nat} {c : Ct}, bl'[l]? = some (some c) → l < bl'.length ∧ bl[nm R l]? = some (some (renCt (nm R) c)) ∧ lvCt bl'.length true c = true := fun {l c} hl => by
    have := fitB_at hbl hl
    rw [Nat.zero_add] at this
    exact ⟨(List.getElem?_eq_some_iff.1 hl).1, lvl_get this.1, this.2⟩
  have back : ∀ {j : Nat} {b s : Nat}, j < bl'.length → β'.b[j]? = some (some (b, s)) → β.b[nm R j]? = some (some (b, s)) := fun {j b s} hj hb => by
    rw [gnew j hj] at hb
    cases e : β.b[nm R j]? with
    | none => rw [e] at hb; cases hb
    | some y => rw [e] at hb; simpa using hb
  have own : ∀ b, Owned β' bl' b → Owned β bl b := by
    rintro b ⟨l, c, s, hl, hb⟩
    obtain ⟨a1, a2, a3⟩ := hat hl
    exact ⟨nm R l, _, s, a2, back a1 hb⟩
  have heap' : Heap β' bl' w := by
    refine ⟨by show (R.map _).length = _; simp [hlen], fun l c hl => ?_, fun l l' c c' b s s' hne hl hl' hb hb' => ?_, fun t b cs hz => ⟨(hh.frz t b cs (by cases t <;> exact hz)).1, fun ho => (hh.frz t b cs (by cases t <;> exact hz)).2 (own b ho)⟩⟩
    · obtain ⟨a1, a2, a3⟩ := hat hl
      obtain ⟨base, e, hin⟩ := hh.lv _ _ a2
      have hi := hin.ren tr rfl a3
      refine ⟨base, by rw [gnew l a1, e]; rfl, ?_⟩
      rwa [renCt_id] at hi
    · obtain ⟨a1, a2, a3⟩ := hat hl
      obtain ⟨b1, b2, b3⟩ := hat hl'
      refine hh.sep _ _ _ _ b s s' (fun e => ?_) a2 b2 (back a1 hb) (back b1 hb')
      have hj1 : l < R.length := by omega
      have hj2 : l' < R.length := by omega
      simp only [nm, List.getD_eq_getElem?_getD, List.getElem?_eq_getElem hj1, List.getElem?_eq_getElem hj2, Option.getD_some] at e
      exact hne (nodup_inj hnd hj1 hj2 e)
  have hb := fit_bot hfs h4
  obtain ⟨f', fs', e', hf1, hf2⟩ := hfs
  subst e'
  have hpre : C.β.b <+: β'.b := by
    obtain ⟨r, hr⟩ := h3.le.b
    show _ <+: R.map _
    rw [← List.take_append_drop k R, hR, List.map_append]
    refine ⟨(R.drop k).map fun x => (β.b[x]?).join, ?_⟩
    congr 1
    apply List.ext_getElem
    · simp [hC]
    · intro i i1 i2
      simp only [List.getElem_map, List.getElem_range]
      rw [← hr, List.getElem?_append_left i1, List.getElem?_eq_getElem i1]
      rfl
  refine h β' _ ⟨⟨f', fs', fr, ts, w, rfl, rfl, fit_fr tr rfl hf1 h1, fit_sus tr rfl hf2 h2, ?_⟩, hb, h5⟩
  exact ⟨⟨hpre, h3.le.z, h3.le.y, h3.le.ck⟩, heap', h3.step, fun b ho => h3.own b (own b ho), h3.zn, h3.y⟩

theorem Rch.fit1K {P : Program} {pl : FuncId → Nat → Option Plan} {C : Ctx} {kk : Nat} (hC : C.β.b.length = kk) {S : AV → Bls → Prop} {fn : FuncId} {n : Nat} {tm tm' : TM} {k : List SI} {bl bl' : Bls} (R : List Nat) (hR : R.take kk = List.range kk) (hp : k.all plainSI = true) (hn : R.Nodup) (hl : R.length = bl'.length)
    (ht : fitT (nm R) tm tm') (hlt : lvT bl'.length true tm' = true) (hb : FitB (nm R) bl'.length bl 0 bl') (h : Rch P pl C ⟨[⟨fn, n, tm', k, none, [], []⟩], bl'⟩ S) : Rch P pl C ⟨[⟨fn, n, tm, k, none, [], []⟩], bl⟩ S := by
  refine Rch.fitK hC R hR ⟨hn, hl, ?_, hb⟩ h
  obtain ⟨h1, h2⟩ := plain_ren (ρ := nm R) (N := bl'.length) hp
  exact ⟨_, [], rfl, ⟨rfl, rfl, ht, hlt, h1, h2, rfl, (fun l h => by cases h), rfl, rfl, rfl, rfl⟩, rfl⟩

/-! ### a function's word on memory that it takes over -/
def Word (P : Program) (pl : FuncId → Nat → Option Plan) (g : FuncId) (args : List AV) (bl0 : Bls) (Q : AV → Bls → Prop) : Prop :=
  ∃ F, fi P g = some F ∧ args.length ≤ F.n ∧ ∀ C : Ctx, C.bl = bl0 → C.β.b.length = bl0.length → Rch P pl C (conf0 g F args bl0) Q

noncomputable def takeE (σ : List Nat) (β : Env) (bl : Bls) (w : World) : Env := { lendE β (killL σ bl) w with b := σ.map fun l => (β.b[l]?).join }

/-- What is handed over: taken levels under the callee's names; or lent. -/
def LntA (bl : Bls) (σ : List Nat) (x x0 : AV) : Prop := (x = ren (nm σ) x0 ∧ lvB σ.length true x0 = true) ∨ lnd (killL σ bl) x = some (true, x0)
def LntT (bl : Bls) (σ : List Nat) : TM → TM → Prop
  | [], tm0 => tm0 = []
  | (s, x) :: r, tm0 => ∃ x0 r0, tm0 = (s, x0) :: r0 ∧ LntA bl σ x x0 ∧ LntT bl σ r r0

section
variable {β : Env} {bl bl0 : Bls} {w : World} {σ : List Nat}
theorem killL_len : ∀ (σ : List Nat) (bl : Bls), (killL σ bl).length = bl.length
  | [], _ => rfl
  | l :: r, bl => by simp only [killL]; rw [killL_len r, setl_set]; simp
theorem killL_in : ∀ (σ : List Nat) (bl : Bls) (l : Nat) (c : Ct), (killL σ bl)[l]? = some (some c) → bl[l]? = some (some c) ∧ l ∉ σ
  | [], _, l, c, h => ⟨h, fun h => by cases h⟩
  | a :: r, bl, l, c, h => by
    simp only [killL] at h
    obtain ⟨h1, h2⟩ := killL_in r _ l c h
    rw [setl_set, List.getElem?_set] at h1
    split at h1
    · split at h1
      · simp at h1
      · cases h1
    · rename_i hne
      refine ⟨h1, fun hm => ?_⟩
      rcases List.mem_cons.1 hm with rfl | hm
      · exact hne rfl
      · exact h2 hm
theorem killL_heap (h : Heap β bl w) (σ : List Nat) : Heap β (killL σ bl) w := by
  refine ⟨by rw [killL_len]; exact h.len, fun l c hl => h.lv l c (killL_in σ bl l c hl).1, fun l l' c c' b s s' hne hl hl' => h.sep l l' c c' b s s' hne (killL_in σ bl l c hl).1 (killL_in σ bl l' c' hl').1, fun t b cs hz => ⟨(h.frz t b cs hz).1, fun ⟨l, c, s, hl, hb⟩ => (h.frz t b cs hz).2 ⟨l, c, s, (killL_in σ bl l c hl).1, hb⟩⟩⟩

theorem take_le : (lendE β (killL σ bl) w).le (takeE σ β bl w) := ⟨List.nil_prefix, fun _ _ h => h, fun _ _ h => h, rfl⟩

theorem take_at {j : Nat} (hj : j < σ.length) : (takeE σ β bl w).b[j]? = some ((β.b[nm σ j]?).join) := by
  show (σ.map _)[j]? = _
  rw [List.getElem?_map, List.getElem?_eq_getElem hj]
  simp [nm, List.getD_eq_getElem?_getD, List.getElem?_eq_getElem hj]

theorem take_tr : Tr β (takeE σ β bl w) (nm σ) (fun l => l) σ.length true :=
  ⟨fun l x hl hb => by rw [take_at hl, hb]; rfl, fun _ _ h => h, fun _ i cs h => by
    show (lendE β (killL σ bl) w).y i = _
    simp only [lendE, h]⟩

theorem take_back {j b s : Nat} (hj : j < σ.length) (hb : (takeE σ β bl w).b[j]? = some (some (b, s))) : β.b[nm σ j]? = some (some (b, s)) := by
  rw [take_at hj] at hb
  cases e : β.b[nm σ j]? with
  | none => rw [e] at hb; cases hb
  | some y => rw [e] at hb; simpa using hb

theorem take_fit (hlen : σ.length = bl0.length) (hb : FitB (nm σ) σ.length bl 0 bl0) {l : Nat} {c : Ct} (hl : bl0[l]? = some (some c)) : l < σ.length ∧ bl[nm σ l]? = some (some (renCt (nm σ) c)) ∧ lvCt σ.length true c = true := by
  have := fitB_at hb hl
  rw [Nat.zero_add] at this
  exact ⟨by have := (List.getElem?_eq_some_iff.1 hl).1; omega, lvl_get this.1, this.2⟩

theorem take_own (hlen : σ.length = bl0.length) (hb : FitB (nm σ) σ.length bl 0 bl0) {b : Nat} (ho : Owned (takeE σ β bl w) bl0 b) : ∃ j c s, j < σ.length ∧ bl[nm σ j]? = some (some c) ∧ β.b[nm σ j]? = some (some (b, s)) := by
  obtain ⟨l, c, s, hl, hb'⟩ := ho
  obtain ⟨a1, a2, a3⟩ := take_fit hlen hb hl
  exact ⟨l, _, s, a1, a2, take_back a1 hb'⟩

theorem nm_mem {j : Nat} (hj : j < σ.length) : nm σ j ∈ σ := by
  simp only [nm, List.getD_eq_getElem?_getD, List.getElem?_eq_getElem hj, Option.getD_some]
  exact List.getElem_mem hj

theorem nm_inj (hn : σ.Nodup) {i j : Nat} (hi : i < σ.length) (hj : j < σ.length) (e : nm σ i = nm σ j) : i = j := by
  simp only [nm, List.getD_eq_getElem?_getD, List.getElem?_eq_getElem hi, List.getElem?_eq_getElem hj, Option.getD_some] at e
  exact nodup_inj hn hi hj e

theorem take_heap (hh : Heap β bl w) (hn : σ.Nodup) (hlen : σ.length = bl0.length) (hb : FitB (nm σ) σ.length bl 0 bl0) : Heap (takeE σ β bl w) bl0 w := by
  have hk := lend_heap (killL_heap hh σ)
  refine ⟨by show (σ.map _).length = _; simp [hlen], fun l c hl => ?_, fun l l' c c' b s s' hne hl hl' hb1 hb2 => ?_, fun t b cs hz => ⟨(hk.frz t b cs (by cases t <;> exact hz)).1, fun ho => ?_⟩⟩
  · obtain ⟨a1, a2, a3⟩ := take_fit hlen hb hl
    obtain ⟨base, e, hin⟩ := hh.lv _ _ a2
    refine ⟨base, by rw [take_at a1, e]; rfl, ?_⟩
    have hi := hin.ren (take_tr (bl := bl) (w := w)) rfl a3
    rwa [renCt_id] at hi
  · obtain ⟨a1, a2, a3⟩ := take_fit hlen hb hl
    obtain ⟨b1, b2, b3⟩ := take_fit hlen hb hl'
    exact hh.sep _ _ _ _ b s s' (fun e => hne (nm_inj hn a1 b1 e)) a2 b2 (take_back a1 hb1) (take_back b1 hb2)
  · obtain ⟨j, c, s, hj, h1, h2⟩ := take_own hlen hb ho
    cases t with
    | false => exact (hh.frz false b cs hz).2 ⟨_, _, _, h1, h2⟩
    | true =>
      have hz' : (lendE β (killL σ bl) w).y b = some cs := hz
      simp only [lendE] at hz'
      split at hz'
      · rename_i cs' e
        exact (hh.frz true b cs' e).2 ⟨_, _, _, h1, h2⟩
      · split at hz'
        · rename_i hown
          obtain ⟨m, c', s', hm, hb'⟩ := hown
          obtain ⟨g1, g2⟩ := killL_in σ bl m c' hm
          exact hh.sep _ _ _ _ b s s' (fun e => g2 (by rw [← e]; exact nm_mem hj)) h1 g1 h2 hb'
        · cases hz'

theorem lntA_den (hh : Heap β bl w) {x x0 : AV} {v : Value} (h : LntA bl σ x x0) (hd : Den β x v) : Den (takeE σ β bl w) x0 v := by
  rcases h with ⟨rfl, hl⟩ | h
  · have := Den.ren (take_tr (bl := bl) (w := w)) hl hd
    rwa [ren_id] at this
  · exact (lnd_den (killL_heap hh σ) hd h).mono take_le

theorem lntT_get (hh : Heap β bl w) : ∀ {tm tm0 : TM}, LntT bl σ tm tm0 → ∀ {s : Nat} {v : Value}, Den β (get tm s) v → Den (takeE σ β bl w) (get tm0 s) v
  | [], _, h, s, v, hd => by
    simp only [LntT] at h
    subst h
    simp only [get, Den]
  | (s', x) :: r, _, h, s, v, hd => by
    simp only [LntT] at h
    obtain ⟨x0, r0, rfl, h1, h2⟩ := h
    simp only [get] at hd ⊢
    split
    · rename_i e
      subst e
      rw [if_pos rfl] at hd
      exact lntA_den hh h1 hd
    · rename_i e
      rw [if_neg e] at hd
      exact lntT_get hh h2 hd
end

/-! ### what it leaves -/
def updT (τ : Nat → Nat) : List Nat → Bls → Bls → Bls
  | [], _, bl => bl
  | _ :: _, [], bl => bl
  | s :: σ, b :: bs, bl => updT τ σ bs (setl bl s (match b with
    | none => none
    | some c => some (renCt τ c)))
def mapB (τ : Nat → Nat) : Bls → Bls
  | [] => []
  | none :: r => none :: mapB τ r
  | some c :: r => some (renCt τ c) :: mapB τ r
def tauN (σ : List Nat) (d : Nat) (l : Nat) : Nat := if l < σ.length then nm σ l else d + (l - σ.length)
def aftT (σ : List Nat) (bl bl' : Bls) : Bls := updT (tauN σ bl.length) σ bl' bl ++ mapB (tauN σ bl.length) (bl'.drop σ.length)

theorem mapB_len {τ : Nat → Nat} : ∀ {bl : Bls}, (mapB τ bl).length = bl.length
  | [] => rfl
  | none :: r => by simp [mapB, mapB_len]
  | some c :: r => by simp [mapB, mapB_len]
theorem mapB_at {τ : Nat → Nat} : ∀ {bl : Bls} {l : Nat} {c : Ct}, (mapB τ bl)[l]? = some (some c) → ∃ c0, bl[l]? = some (some c0) ∧ c = renCt τ c0
  | [], _, _, h => by simp [mapB] at h
  | none :: r, 0, _, h => by simp [mapB] at h
  | none :: r, l + 1, c, h => by simpa using mapB_at (bl := r) (l := l) (by simpa [mapB] using h)
  | some c0 :: r, 0, c, h => by
    simp [mapB] at h
    exact ⟨c0, by simp, h.symm⟩
  | some c0 :: r, l + 1, c, h => by simpa using mapB_at (bl := r) (l := l) (by simpa [mapB] using h)
theorem updT_len {τ : Nat → Nat} : ∀ {σ : List Nat} {bs bl : Bls}, (updT τ σ bs bl).length = bl.length
  | [], _, _ => rfl
  | _ :: _, [], _ => rfl
  | s :: σ, b :: bs, bl => by simp only [updT]; rw [updT_len, setl_set]; simp
theorem updT_at {τ : Nat → Nat} : ∀ {σ : List Nat} {bs bl : Bls}, σ.Nodup → σ.length ≤ bs.length → ∀ {m : Nat} {c : Ct}, (updT τ σ bs bl)[m]? = some (some c) →
    (m ∉ σ ∧ bl[m]? = some (some c)) ∨ ∃ j c0, j < σ.length ∧ m = nm σ j ∧ bs[j]? = some (some c0) ∧ c = renCt τ c0
  | [], _, _, _, _, m, c, h => .inl ⟨List.not_mem_nil, h⟩
  | s :: σ, [], _, _, hl, _, _, _ => by simp at hl
  | s :: σ, b :: bs, bl, hn, hl, m, c, h => by
    simp only [updT] at h
    obtain ⟨hn1, hn2⟩ := List.nodup_cons.1 hn
    rcases updT_at hn2 (by simpa using hl) h with ⟨h1, h2⟩ | ⟨j, c0, hj, rfl, h3, h4⟩
    · rw [setl_set, List.getElem?_set] at h2
      split at h2
      · rename_i e
        subst e
        split at h2
        · cases b with
          | none => simp at h2
          | some c0 => simp at h2; exact .inr ⟨0, c0, by simp, rfl, rfl, h2.symm⟩
        · cases h2
      · rename_i e
        exact .inl ⟨fun hm => by rcases List.mem_cons.1 hm with rfl | hm; exact e rfl; exact h1 hm, h2⟩
    · exact .inr ⟨j + 1, c0, by simpa using hj, by simp [nm], by simpa using h3, h4⟩

/-- What comes back may be told under the caller's names. -/
def okRet (r : AV) (bl' : Bls) : Bool := lvB bl'.length false r && okBls bl'.length bl'

/-- What a function leaves, as the caller has it. -/
theorem ret_core {β β1 : Env} {bl bl0 bl' : Bls} {w w' : World} {σ : List Nat} {r : AV} {v : Value} (hh : Heap β bl w) (hn : σ.Nodup) (hσ : (σ.all fun l => decide (l < bl.length)) = true) (hlen : σ.length = bl0.length) (hb : FitB (nm σ) σ.length bl 0 bl0)
    (kx : Ext (takeE σ β bl w) bl0 w β1 bl' w') (k4 : Den β1 r v) (hok : okRet r bl' = true) (hlen' : bl0.length ≤ bl'.length) : ∃ β2, Den β2 (ren (tauN σ bl.length) r) v ∧ Ext β bl w β2 (aftT σ bl bl') w' := by
  simp only [okRet, Bool.and_eq_true] at hok
  obtain ⟨hok1, hok2⟩ := hok
  have ownC : ∀ b, Owned (takeE σ β bl w) bl0 b → Owned β bl b := fun b hb' => by
    obtain ⟨j, c, s, hj, q1, q2⟩ := take_own hlen hb hb'
    exact ⟨_, c, s, q1, q2⟩
  have kept : ∀ b, b < w.heap.size → ¬ Owned (takeE σ β bl w) bl0 b → w'.heap[b]? = w.heap[b]? := kx.step.kept
  have new : ∀ b, Owned β1 bl' b → Owned (takeE σ β bl w) bl0 b ∨ w.heap.size ≤ b := kx.own
  let β2 : Env := { b := β.b ++ β1.b.drop σ.length, z := β1.z, y := β.y, ck := β.ck }
  have hl : β.b.length = bl.length := hh.len
  have hl1 : β1.b.length = bl'.length := kx.heap.len
  have le : β.le β2 := ⟨List.prefix_append _ _, fun i cs hz => kx.le.z i cs hz, fun i cs hy => hy, rfl⟩
  have nmlt : ∀ {j : Nat}, j < σ.length → nm σ j < bl.length := fun {j} hj => by
    have := List.all_eq_true.1 hσ _ (nm_mem hj)
    simpa using this
  have tau1 : ∀ {l : Nat}, l < σ.length → tauN σ bl.length l = nm σ l := fun h => by simp [tauN, h]
  have tau2 : ∀ {l : Nat}, ¬ l < σ.length → tauN σ bl.length l = bl.length + (l - σ.length) := fun h => by simp [tauN, h]
  have gold : ∀ {m : Nat}, m < bl.length → β2.b[m]? = β.b[m]? := fun {m} hm => by
    show (β.b ++ _)[m]? = _
    rw [List.getElem?_append_left (by omega)]
  have gtau : ∀ (l : Nat), β2.b[tauN σ bl.length l]? = β1.b[l]? := fun l => by
    by_cases hlt : l < σ.length
    · have h6 := nmlt hlt
      rw [tau1 hlt, gold h6]
      obtain ⟨rest, hr⟩ := kx.le.b
      rw [← hr, List.getElem?_append_left (by rw [show (takeE σ β bl w).b.length = σ.length from by show (σ.map _).length = _; simp]; exact hlt), take_at hlt]
      rw [List.getElem?_eq_getElem (by omega)]
      rfl
    · rw [tau2 hlt]
      show (β.b ++ _)[_]? = _
      rw [List.getElem?_append_right (by omega), hl, Nat.add_sub_cancel_left, List.getElem?_drop, show σ.length + (l - σ.length) = l by omega]
  have tr : Tr β1 β2 (fun l => l) (tauN σ bl.length) bl'.length false :=
    ⟨fun l x _ hb' => by rw [gtau]; exact hb', fun i cs hz => hz, fun h => by cases h⟩
  have hckE : β2.ck = β1.ck := by rw [kx.le.ck]; rfl
  have at2 : ∀ {m : Nat} {c : Ct}, (aftT σ bl bl')[m]? = some (some c) → (m < bl.length ∧ m ∉ σ ∧ bl[m]? = some (some c)) ∨ ∃ j c0, m = tauN σ bl.length j ∧ bl'[j]? = some (some c0) ∧ c = renCt (tauN σ bl.length) c0 := by
    intro m c hm
    unfold aftT at hm
    by_cases hlt : m < bl.length
    · rw [List.getElem?_append_left (by rw [updT_len]; exact hlt)] at hm
      rcases updT_at hn (by omega) hm with ⟨q1, q2⟩ | ⟨j, c0, hj, rfl, q3, q4⟩
      · exact .inl ⟨hlt, q1, q2⟩
      · exact .inr ⟨j, c0, (tau1 hj).symm, q3, q4⟩
    · rw [List.getElem?_append_right (by rw [updT_len]; omega), updT_len] at hm
      obtain ⟨c0, q1, q2⟩ := mapB_at hm
      rw [List.getElem?_drop] at q1
      refine .inr ⟨σ.length + (m - bl.length), c0, ?_, q1, q2⟩
      rw [tau2 (by omega)]
      omega
  have own2 : ∀ b, Owned β2 (aftT σ bl bl') b → (∃ m c s, m ∉ σ ∧ m < bl.length ∧ bl[m]? = some (some c) ∧ β.b[m]? = some (some (b, s))) ∨ Owned β1 bl' b := by
    rintro b ⟨m, c, s, hm, hb'⟩
    rcases at2 hm with ⟨hlt, q1, q2⟩ | ⟨j, c0, rfl, q1, q2⟩
    · exact .inl ⟨m, c, s, q1, hlt, q2, by rw [gold hlt] at hb'; exact hb'⟩
    · exact .inr ⟨j, c0, s, q1, by rw [gtau] at hb'; exact hb'⟩
  have apart : ∀ {m b s : Nat} {c : Ct}, m ∉ σ → bl[m]? = some (some c) → β.b[m]? = some (some (b, s)) → ¬ Owned (takeE σ β bl w) bl0 b := fun {m b s c} hm q1 q2 ho => by
    obtain ⟨j, c', s', hj, r1, r2⟩ := take_own hlen hb ho
    exact hh.sep _ _ _ _ b s s' (fun e => hm (by rw [e]; exact nm_mem hj)) q1 r1 q2 r2
  have own3 : ∀ b, Owned β2 (aftT σ bl bl') b → Owned β bl b ∨ w.heap.size ≤ b := fun b ho => by
    rcases own2 b ho with ⟨m, c, s, -, -, q1, q2⟩ | ho
    · exact .inl ⟨m, c, s, q1, q2⟩
    · exact (new b ho).imp_left (ownC b)
  have hal : (aftT σ bl bl').length = bl.length + (bl'.length - σ.length) := by
    unfold aftT
    rw [List.length_append, updT_len, mapB_len, List.length_drop]
  have hden : Den β2 (ren (tauN σ bl.length) r) v := Den.ren tr hok1 (by rw [ren_id]; exact k4)
  have hext : Ext β bl w β2 (aftT σ bl bl') w' := by
    refine ⟨le, ⟨?_, fun m c hm => ?_, fun m m' c c' b s s' hne hm hm' hb1 hb2 => ?_, fun t b cs' hz => ?_⟩, kx.step.mono ownC, own3, fun b cs' hz => ?_, rfl⟩
    · show (β.b ++ _).length = _
      rw [List.length_append, List.length_drop, hal, hl1, hl]
    · rcases at2 hm with ⟨hlt, q1, q2⟩ | ⟨j, c0, rfl, q1, rfl⟩
      · obtain ⟨base, e, hin⟩ := hh.lv m c q2
        refine ⟨base, by rw [gold hlt]; exact e, (hin.mono le).same fun b s hb' => ?_⟩
        subst hb'
        exact kept b (hh.lt q2 e) (apart q1 q2 e)
      · obtain ⟨base, e, hin⟩ := kx.heap.lv _ _ q1
        refine ⟨base, by rw [gtau]; exact e, ?_⟩
        exact CtIn.ren (ρ := fun l => l) tr hckE (okBls_at hok2 q1).2 (by rw [renCt_id]; exact hin)
    · rcases at2 hm with ⟨l1, q1, q2⟩ | ⟨j, c0, rfl, q1, rfl⟩ <;> rcases at2 hm' with ⟨l2, r1, r2⟩ | ⟨j', c0', rfl, r1, rfl⟩
      · exact hh.sep m m' c c' b s s' hne q2 r2 (by rw [gold l1] at hb1; exact hb1) (by rw [gold l2] at hb2; exact hb2)
      · rw [gold l1] at hb1
        rw [gtau] at hb2
        rcases new b ⟨j', c0', s', r1, hb2⟩ with ho | ho
        · exact apart q1 q2 hb1 ho
        · have := hh.lt q2 hb1; omega
      · rw [gold l2] at hb2
        rw [gtau] at hb1
        rcases new b ⟨j, c0, s, q1, hb1⟩ with ho | ho
        · exact apart r1 r2 hb2 ho
        · have := hh.lt r2 hb2; omega
      · rw [gtau] at hb1 hb2
        exact kx.heap.sep _ _ _ _ b s s' (fun e => hne (by rw [e])) q1 r1 hb1 hb2
    · cases t with
      | false =>
        refine ⟨(kx.heap.frz false b cs' hz).1, fun ho => ?_⟩
        rcases own2 b ho with ⟨m, c, s, q1, q2, q3, q4⟩ | ho
        · rcases kx.zn b cs' hz with h6 | h6 | h6
          · exact (hh.frz false b cs' h6).2 ⟨m, c, s, q3, q4⟩
          · exact apart q1 q3 q4 h6
          · have := hh.lt q3 q4; omega
        · exact (kx.heap.frz false b cs' hz).2 ho
      | true =>
        have hz' : β.fz true b = some cs' := hz
        obtain ⟨⟨T, fz, hg⟩, hno⟩ := hh.frz true b cs' hz'
        have hlt := hh.frz_lt hz'
        refine ⟨⟨T, fz, by rw [kept b hlt fun ho => hno (ownC b ho)]; exact hg⟩, fun ho => ?_⟩
        rcases own3 b ho with ho | ho
        · exact hno ho
        · omega
    · rcases kx.zn b cs' hz with h6 | h6 | h6
      · exact .inl h6
      · exact .inr (.inl (ownC b h6))
      · exact .inr (.inr h6)
  exact ⟨β2, hden, hext⟩

section
variable {P : Program} {pl : FuncId → Nat → Option Plan}
/-- A function is called that takes memory over. -/
theorem Rch.call {C : Ctx} {S : AV → Bls → Prop} {g : FuncId} {n : Nat} {res : List ResultVar} {code : Code} {args0 : List AV} {tm : TM} {bl bl0 : Bls} {Q : AV → Bls → Prop} {g0 : Fr} {fs : List Fr} (σ : List Nat) (hW : Word P pl g args0 bl0 Q) (hF : fi P g = some ⟨n, res, code⟩)
    (hT : LntT bl σ tm (ini 0 args0)) (hn : σ.Nodup) (hσ : (σ.all fun l => decide (l < bl.length)) = true) (hlen : σ.length = bl0.length) (hb : FitB (nm σ) σ.length bl 0 bl0)
    (hk : ∀ r bl', Q r bl' → (okRet r bl' = true ∧ bl0.length ≤ bl'.length) ∧ ∃ g1, finishS g0 (ren (tauN σ bl.length) r) = some g1 ∧ Rch P pl C ⟨g1 :: fs, aftT σ bl bl'⟩ S) :
    Rch P pl C ⟨⟨g, n, tm, [.code code], none, [], []⟩ :: g0 :: fs, bl⟩ S := by
  rintro β m ⟨⟨f, fs', fr, ts, w, e, rfl, h1, h2, h3⟩, h4, h5⟩
  simp only [List.cons.injEq] at e
  obtain ⟨rfl, rfl⟩ := e
  have hh := h3.heap
  obtain ⟨F, hF', hargs, hrun⟩ := hW
  rw [hF] at hF'
  obtain rfl := Option.some.inj hF'
  have hk0 := take_heap hh hn hlen hb
  obtain ⟨tmps, ds, t, ro, rfl, g1, g2, g3⟩ := h1
  have g3 : TmOk β n tm tmps ∧ KR β g [.code code] t := g3
  obtain ⟨⟨gt1, gt2⟩, gk⟩ := g3
  have gck : (takeE σ β bl w).ck = β.ck := rfl
  have fr0' : FrR P (takeE σ β bl w) bl0 none ⟨g, n, ini 0 args0, [.code code], none, [], []⟩ ((fr0 g ro).atR ⟨tmps, ds⟩ t) := by
    obtain ⟨y, t', e1, e2, e3⟩ := gk
    exact ⟨tmps, ds, t, ro, rfl, g1, g2, ⟨gt1, fun s => lntT_get hh hT (gt2 s)⟩, y, t', e1, ⟨e2.1, by rw [gck]; exact e2.2⟩, e3⟩
  have run := hrun ⟨takeE σ β bl w, bl0, w, ts ++ C.cs, g⟩ rfl hk0.len (takeE σ β bl w) (lone ((fr0 g ro).atR ⟨tmps, ds⟩ t) (ts ++ C.cs) w)
    ⟨⟨_, [], _, [], w, rfl, rfl, fr0', rfl, .refl hk0⟩, rfl, h5⟩
  obtain ⟨v, fr, β1, r, bl', w', k1, k2, k3, k4, k5, k6⟩ := run
  have kx : Ext (takeE σ β bl w) bl0 w β1 bl' w' := k5
  obtain ⟨⟨hok, hlen'⟩, gg, hfin, hgo⟩ := hk r bl' k6
  obtain ⟨β2, hden, hext⟩ := ret_core hh hn hσ hlen hb kx k4 hok hlen'
  obtain ⟨frg, ts', rfl, a1, a2, a3⟩ := h2
  have hkp : Kp [] bl (aftT σ bl bl') := fun q hq => by cases hq
  obtain ⟨f1, f2, f3⟩ := finish_ok (bl' := aftT σ bl bl') hfin a1 hext.le hkp hden
  refine Fin.steps (k1.trans (.one (step_leave_returned k3))) (hgo β2 _ ⟨⟨gg, fs, frg.finish v, ts', w', rfl, rfl, f1, ?_, h3.trans hext⟩, ?_, hext.le.ck.trans h5⟩)
  · rw [f3]
    exact a3.mono hext.le (hkp.sub a2)
  · exact Bot.same (f := g0) h4 f2
end

/-! ### runs that stop where some functions are entered -/
def stops (st : List Nat) (c : Conf) : Bool := match c with
  | ⟨⟨fn, _, _, k, _, _, _⟩ :: _ :: _, _⟩ => (match k with
    | [.code _] => st.contains fn
    | _ => false)
  | _ => false
/-- So many steps; of two ways none is gone ahead of its turn. -/
def ExS (P : Program) (K : KT) (pl : FuncId → Nat → Option Plan) (st : List Nat) : Nat → Option (Bool × Conf) → Conf → (AV → Bls → Prop) → (Conf → Prop) → Prop
  | 0, o, c, _, R => (match o with
    | none => R c
    | some (b, c2) => (b = true → R c) ∧ (b = false → R c2))
  | n + 1, o, c, S, R => (match o with
    | some (b, c2) => (b = true → ExS P K pl st n none c S R) ∧ (b = false → ExS P K pl st n none c2 S R)
    | none => (match stops st c with
      | true => R c
      | false => (match stepF P K pl false c with
        | .next vc c' => vc = true ∧ ExS P K pl st n none c' S R
        | .split b c1 c2 => ExS P K pl st n (some (b, c2)) c1 S R
        | .fin vc r bl => vc = true ∧ S r bl
        | .stop => R c)))
section
variable {P : Program} {K : KT} {pl : FuncId → Nat → Option Plan} {st : List Nat} {n : Nat} {c c1 c2 : Conf} {S : AV → Bls → Prop} {R : Conf → Prop}
theorem exs_zero : ExS P K pl st 0 none c S R = R c := rfl
theorem exs_step : ExS P K pl st (n + 1) none c S R = (match stops st c with
      | true => R c
      | false => (match stepF P K pl false c with
        | .next vc c' => vc = true ∧ ExS P K pl st n none c' S R
        | .split b c1 c2 => ExS P K pl st n (some (b, c2)) c1 S R
        | .fin vc r bl => vc = true ∧ S r bl
        | .stop => R c)) := rfl
/-- The same, of a state that is told. -/
theorem exs_go {f : Fr} {fs : List Fr} {bl : Bls} : ExS P K pl st (n + 1) none ⟨f :: fs, bl⟩ S R = (match stops st ⟨f :: fs, bl⟩ with
      | true => R ⟨f :: fs, bl⟩
      | false => (match stepF P K pl false ⟨f :: fs, bl⟩ with
        | .next vc c' => vc = true ∧ ExS P K pl st n none c' S R
        | .split b c1 c2 => ExS P K pl st n (some (b, c2)) c1 S R
        | .fin vc r bl => vc = true ∧ S r bl
        | .stop => R ⟨f :: fs, bl⟩)) := rfl
theorem exs_t : ExS P K pl st (n + 1) (some (true, c2)) c1 S R = ExS P K pl st n none c1 S R := by simp [ExS]
theorem exs_f : ExS P K pl st (n + 1) (some (false, c2)) c1 S R = ExS P K pl st n none c2 S R := by simp [ExS]
theorem exs_t0 : ExS P K pl st 0 (some (true, c2)) c1 S R = R c1 := by simp [ExS]
theorem exs_f0 : ExS P K pl st 0 (some (false, c2)) c1 S R = R c2 := by simp [ExS]
theorem ExS_ok' (hpl : PlOk P pl) (hK : KOk P pl K) {C : Ctx} (hR : ∀ c, R c → Rch P pl C c S) : ∀ {n : Nat} {o : Option (Bool × Conf)} {c : Conf}, ExS P K pl st n o c S R →
    (match o with
    | none => Rch P pl C c S
    | some (b, c2) => (b = true → Rch P pl C c S) ∧ (b = false → Rch P pl C c2 S))
  | 0, none, c, h => hR c h
  | 0, some (b, c2), c, h => ⟨fun hb => hR c (h.1 hb), fun hb => hR c2 (h.2 hb)⟩
  | n + 1, some (b, c2), c, h => ⟨fun hb => ExS_ok' hpl hK hR (n := n) (o := none) (h.1 hb), fun hb => ExS_ok' hpl hK hR (n := n) (o := none) (h.2 hb)⟩
  | n + 1, none, c, h => by
    have hok := stp_ok (C := C) hpl hK false c
    simp only [exs_step, stepF_eq, pre] at h
    split at h
    · exact hR c h
    · split at h
      · rename_i vc c' e
        rw [e] at hok
        exact (hok h.1).rch (ExS_ok' hpl hK hR (n := n) (o := none) h.2)
      · rename_i b c1 c2 e
        rw [e] at hok
        have h2 := ExS_ok' hpl hK hR (n := n) (o := some (b, c2)) h
        cases b with
        | true => exact (hok.1 rfl).rch (h2.1 rfl)
        | false => exact (hok.2 rfl).rch (h2.2 rfl)
      · rename_i vc r bl e
        rw [e] at hok
        exact hok h.1 S h.2
      · exact hR c h
theorem ExS_ok (st : List Nat) (n : Nat) (hpl : PlOk P pl) (hK : KOk P pl K) {C : Ctx} (h : ExS P K pl st n none c S (fun c => Rch P pl C c S)) : Rch P pl C c S := ExS_ok' hpl hK (o := none) (fun _ h => h) h
end
end Go.SY
