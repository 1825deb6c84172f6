/- GossipOften: the plain law (how often each word is told). -/
import Derived.Test.YtfnnmkjlokjkhaaGL
set_option linter.unusedSimpArgs false
set_option linter.unusedVariables false
namespace Go.Proofs.Ytfnnmkjlokjkhaa
namespace GS
def sumL (lim : Int) : List Tl → Int
  | [] => 0
  | t :: r => (lim - t.told) + sumL lim r
theorem sum_app {lim : Int} : ∀ {a b : List Tl}, sumL lim (a ++ b) = sumL lim a + sumL lim b
  | [], b => by simp [sumL]
  | t :: a, b => by rw [List.cons_append, sumL, sumL, sum_app (a := a)]; omega
theorem sum_perm {lim : Int} {a b : List Tl} (h : a.Perm b) : sumL lim a = sumL lim b := by
  induction h with
  | nil => rfl
  | cons x _ ih => rw [sumL, sumL, ih]
  | swap x y l => simp only [sumL]; omega
  | trans _ _ h1 h2 => rw [h1, h2]
theorem sum_bumped {lim : Int} : ∀ {l : List Tl}, (∀ t ∈ l, t.told < lim) → sumL lim (bumped lim l) = sumL lim l - l.length
  | [], _ => by simp [bumped, sumL]
  | t :: r, h => by
    have ih := sum_bumped (l := r) fun t ht => h t (List.mem_cons_of_mem _ ht)
    have h1 := h t List.mem_cons_self
    rw [show t :: r = [t] ++ r from rfl, bumped_app, sum_app, sum_app, ih, List.length_append]
    by_cases h2 : t.told + 1 < lim
    · have : bumped lim [t] = [t.bump] := by
        simp only [bumped, List.map_cons, List.map_nil, List.filter_cons, List.filter_nil, Tl.bump]
        rw [if_pos]
        simp; omega
      rw [this]
      simp only [sumL, Tl.bump, List.length_cons, List.length_nil]
      omega
    · have : bumped lim [t] = [] := by
        simp only [bumped, List.map_cons, List.map_nil, List.filter_cons, List.filter_nil, Tl.bump]
        rw [if_neg]
        simp; omega
      rw [this]
      simp only [sumL, List.length_cons, List.length_nil]
      omega
theorem sum_pos {lim : Int} : ∀ {l : List Tl}, (∀ t ∈ l, t.told < lim) → 0 ≤ sumL lim l ∧ (sumL lim l = 0 → l = [])
  | [], _ => by simp [sumL]
  | t :: r, h => by
    have ih := (sum_pos (l := r) fun t ht => h t (List.mem_cons_of_mem _ ht)).1
    have h1 := h t List.mem_cons_self
    rw [sumL]
    exact ⟨by omega, fun e => by omega⟩
def bumpT (T : List Int) (l : List Tl) : List Int := l.foldl (fun T t => T.set t.id.toNat (T[t.id.toNat]?.getD 0 + 1)) T
theorem bump_len (l : List Tl) : ∀ T : List Int, (bumpT T l).length = T.length := by
  induction l with
  | nil => intro T; rfl
  | cons t r ih => intro T; rw [bumpT, List.foldl_cons, ← bumpT, ih, List.length_set]
theorem bump_app (T : List Int) (a b : List Tl) : bumpT T (a ++ b) = bumpT (bumpT T a) b := by simp [bumpT]
theorem bump_out {n : Nat} : ∀ {l : List Tl} {T : List Int}, (∀ t ∈ l, t.id.toNat ≠ n) → (bumpT T l)[n]? = T[n]?
  | [], _, _ => rfl
  | t :: r, T, h => by
    rw [bumpT, List.foldl_cons, ← bumpT, bump_out fun t ht => h t (List.mem_cons_of_mem _ ht), List.getElem?_set_ne (h t List.mem_cons_self)]
theorem bump_in {n : Nat} {x : Int} : ∀ {l : List Tl} {T : List Int}, (l.map (·.id.toNat)).Nodup → (∃ t ∈ l, t.id.toNat = n) → T[n]? = some x → (bumpT T l)[n]? = some (x + 1)
  | [], _, _, h, _ => by obtain ⟨t, ht, -⟩ := h; cases ht
  | t :: r, T, hn, h, hx => by
    rw [List.map_cons, List.nodup_cons] at hn
    rw [bumpT, List.foldl_cons, ← bumpT]
    by_cases e : t.id.toNat = n
    · rw [bump_out fun u hu e2 => hn.1 (List.mem_map.2 ⟨u, hu, e2.trans e.symm⟩), e, List.getElem?_set_self (List.getElem?_eq_some_iff.1 hx).1, hx]
      rfl
    · obtain ⟨u, hu, e2⟩ := h
      rcases List.mem_cons.1 hu with rfl | hu
      · exact absurd e2 e
      · exact bump_in hn.2 ⟨u, hu, e2⟩ (by rw [List.getElem?_set_ne e]; exact hx)
structure Inv (lim : Int) (th : List Bool) (T : List Int) (q : List Tl) (left : Int) : Prop where
  sort : q.Pairwise LessT
  ids : (q.map (·.id)).Nodup
  told : ∀ t ∈ q, 0 ≤ t.told ∧ t.told < lim
  mem : ∀ t ∈ q, 1 ≤ t.id ∧ th[t.id.toNat]? = some true ∧ T[t.id.toNat]? = some t.told
  gone : ∀ n : Nat, th[n]? = some true → (∃ t ∈ q, t.id.toNat = n) ∨ T[n]? = some lim
  even : ∀ a b : Nat, th[a]? = some true → th[b]? = some true → ∀ x y, T[a]? = some x → T[b]? = some y → x ≤ y + 1
  sum : left = sumL lim q
  len : T.length = th.length
  rng : ∀ x ∈ T, 0 ≤ x ∧ x ≤ lim
theorem ids_nat {q : List Tl} (h : (q.map (·.id)).Nodup) (h1 : ∀ t ∈ q, 1 ≤ t.id) : (q.map (·.id.toNat)).Nodup := by
  induction q with
  | nil => exact List.nodup_nil
  | cons t r ih =>
    rw [List.map_cons, List.nodup_cons] at h ⊢
    refine ⟨fun hm => h.1 ?_, ih h.2 fun t ht => h1 t (List.mem_cons_of_mem _ ht)⟩
    obtain ⟨u, hu, e⟩ := List.mem_map.1 hm
    have a1 := h1 t List.mem_cons_self
    have a2 := h1 u (List.mem_cons_of_mem _ hu)
    exact List.mem_map.2 ⟨u, hu, by omega⟩
theorem Inv.take {lim : Int} {th : List Bool} {T : List Int} {q : List Tl} {left : Int} (h : Inv lim th T q left) {m : Nat} (hm : m ≤ q.length) : Inv lim th (bumpT T (q.take m)) (takeQ lim m q).2 (left - m) := by
  have hn : (q.map (·.id.toNat)).Nodup := ids_nat h.ids fun t ht => (h.mem t ht).1
  have hnt : ((q.take m).map (·.id.toNat)).Nodup := hn.sublist ((List.take_sublist _ _).map _)
  have hp : (takeQ lim m q).2.Perm (bumped lim (q.take m) ++ q.drop m) := back_perm _ _
  have hmt : ∀ t ∈ q.take m, t ∈ q := fun t ht => List.mem_of_mem_take ht
  have hmd : ∀ t ∈ q.drop m, t ∈ q := fun t ht => List.mem_of_mem_drop ht
  have hsp : q.take m ++ q.drop m = q := List.take_append_drop _ _
  have hdis : ∀ t ∈ q.drop m, ∀ u ∈ q.take m, u.id.toNat ≠ t.id.toNat := fun t ht u hu e => by
    rw [← hsp, List.map_append, List.nodup_append] at hn
    exact hn.2.2 _ (List.mem_map.2 ⟨u, hu, rfl⟩) _ (List.mem_map.2 ⟨t, ht, rfl⟩) e
  have hbm : ∀ t ∈ bumped lim (q.take m), ∃ u ∈ q.take m, t = u.bump ∧ u.told + 1 < lim := fun t ht => by
    simp only [bumped, List.mem_filter, List.mem_map, decide_eq_true_eq] at ht
    obtain ⟨⟨u, hu, rfl⟩, h2⟩ := ht
    exact ⟨u, hu, rfl, h2⟩
  have inT : ∀ u ∈ q.take m, (bumpT T (q.take m))[u.id.toNat]? = some (u.told + 1) := fun u hu => bump_in hnt ⟨u, hu, rfl⟩ (h.mem u (hmt u hu)).2.2
  have outT : ∀ n : Nat, (∀ u ∈ q.take m, u.id.toNat ≠ n) → (bumpT T (q.take m))[n]? = T[n]? := fun n hn => bump_out hn
  have hle : ∀ u ∈ q.take m, ∀ t ∈ q.drop m, u.told ≤ t.told := fun u hu t ht => by
    have hs := h.sort
    rw [← hsp, List.pairwise_append] at hs
    have := hs.2.2 u hu t ht
    unfold LessT at this
    omega
  have val : ∀ (n : Nat) (x : Int), T[n]? = some x → (∃ u ∈ q.take m, u.id.toNat = n ∧ x = u.told ∧ (bumpT T (q.take m))[n]? = some (x + 1)) ∨ ((∀ u ∈ q.take m, u.id.toNat ≠ n) ∧ (bumpT T (q.take m))[n]? = some x) := fun n x hx => by
    by_cases hu : ∃ u ∈ q.take m, u.id.toNat = n
    · obtain ⟨u, hu, rfl⟩ := hu
      have e1 := (h.mem u (hmt u hu)).2.2
      rw [hx] at e1
      obtain rfl := Option.some.inj e1
      exact .inl ⟨u, hu, rfl, rfl, inT u hu⟩
    · have hu' : ∀ u ∈ q.take m, u.id.toNat ≠ n := fun u h1 e => hu ⟨u, h1, e⟩
      exact .inr ⟨hu', by rw [outT n hu', hx]⟩
  refine ⟨?_, ?_, ?_, ?_, ?_, ?_, ?_, ?_, ?_⟩
  · exact back_sort _ _ (h.sort.sublist (List.drop_sublist _ _)) (by rw [hsp]; exact h.ids)
  · refine (hp.map (·.id)).nodup_iff.2 ?_
    have hsub : ((bumped lim (q.take m) ++ q.drop m).map (·.id)).Sublist (q.map (·.id)) := by
      conv => rhs; rw [← hsp]
      rw [List.map_append, List.map_append]
      refine List.Sublist.append ?_ (List.Sublist.refl _)
      have : (q.take m).map (·.id) = ((q.take m).map Tl.bump).map (·.id) := by rw [List.map_map]; rfl
      rw [this]
      exact List.filter_sublist.map _
    exact h.ids.sublist hsub
  · intro t ht
    rcases List.mem_append.1 (hp.mem_iff.1 ht) with h1 | h1
    · obtain ⟨u, hu, rfl, h2⟩ := hbm t h1
      have := h.told u (hmt u hu)
      simp only [Tl.bump]
      omega
    · exact h.told t (hmd t h1)
  · intro t ht
    rcases List.mem_append.1 (hp.mem_iff.1 ht) with h1 | h1
    · obtain ⟨u, hu, rfl, h2⟩ := hbm t h1
      have := h.mem u (hmt u hu)
      exact ⟨this.1, this.2.1, inT u hu⟩
    · have := h.mem t (hmd t h1)
      exact ⟨this.1, this.2.1, by rw [outT _ (fun u hu => hdis t h1 u hu)]; exact this.2.2⟩
  · intro n hn2
    rcases h.gone n hn2 with ⟨t, ht, rfl⟩ | hg
    · rw [← hsp] at ht
      rcases List.mem_append.1 ht with h1 | h1
      · by_cases h2 : t.told + 1 < lim
        · refine .inl ⟨t.bump, hp.mem_iff.2 (List.mem_append_left _ ?_), rfl⟩
          simp only [bumped, List.mem_filter, decide_eq_true_eq]
          exact ⟨List.mem_map.2 ⟨t, h1, rfl⟩, h2⟩
        · have := h.told t (hmt t h1)
          exact .inr (by rw [inT t h1, show t.told + 1 = lim by omega])
      · exact .inl ⟨t, hp.mem_iff.2 (List.mem_append_right _ h1), rfl⟩
    · rcases val n lim hg with ⟨u, hu, -, e, -⟩ | ⟨-, e⟩
      · have := h.told u (hmt u hu)
        omega
      · exact .inr e
  · intro a b ha hb x y hx hy
    have hTl := bump_len (q.take m) T
    obtain ⟨x0, hx0⟩ : ∃ x0, T[a]? = some x0 := ⟨_, List.getElem?_eq_getElem (by rw [← hTl]; exact (List.getElem?_eq_some_iff.1 hx).1)⟩
    obtain ⟨y0, hy0⟩ : ∃ y0, T[b]? = some y0 := ⟨_, List.getElem?_eq_getElem (by rw [← hTl]; exact (List.getElem?_eq_some_iff.1 hy).1)⟩
    have h0 := h.even a b ha hb x0 y0 hx0 hy0
    rcases val a x0 hx0 with ⟨u, hu, rfl, rfl, e1⟩ | ⟨-, e1⟩ <;> rcases val b y0 hy0 with ⟨v, hv, rfl, rfl, e2⟩ | ⟨hv, e2⟩ <;> rw [hx] at e1 <;> rw [hy] at e2 <;> obtain rfl := Option.some.inj e1 <;> obtain rfl := Option.some.inj e2
    · omega
    · -- told, beside one that was not
      have : u.told ≤ y := by
        rcases h.gone b hb with ⟨t, ht, rfl⟩ | hg
        · rw [← hsp] at ht
          rcases List.mem_append.1 ht with h1 | h1
          · exact absurd rfl (hv t h1)
          · have h3 := (h.mem t (hmd t h1)).2.2
            rw [hy0] at h3
            obtain rfl := Option.some.inj h3
            exact hle u hu t h1
        · rw [hy0] at hg
          obtain rfl := Option.some.inj hg
          have := h.told u (hmt u hu)
          omega
      omega
    · omega
    · exact h0
  · rw [sum_perm hp, sum_app, sum_bumped fun t ht => (h.told t (hmt t ht)).2, h.sum]
    conv => lhs; rw [← hsp, sum_app]
    rw [List.length_take]
    omega
  · rw [bump_len]; exact h.len
  · intro x hx
    obtain ⟨n, hn2⟩ := List.getElem?_of_mem hx
    obtain ⟨x0, hx0⟩ : ∃ x0, T[n]? = some x0 := ⟨_, List.getElem?_eq_getElem (by rw [← bump_len (q.take m) T]; exact (List.getElem?_eq_some_iff.1 hn2).1)⟩
    have h0 := h.rng x0 (List.mem_of_getElem? hx0)
    rcases val n x0 hx0 with ⟨u, hu, rfl, rfl, e1⟩ | ⟨-, e1⟩ <;> rw [hn2] at e1 <;> obtain rfl := Option.some.inj e1
    · have := h.told u (hmt u hu)
      omega
    · exact h0
structure Put (th : List Bool) (q : List Tl) : Prop where
  sort : q.Pairwise LessT
  ids : (q.map (·.id)).Nodup
  mem : ∀ t ∈ q, t.st = 1 ∧ t.inc = 0 ∧ t.told = 0 ∧ 1 ≤ t.id ∧ th[t.id.toNat]? = some true
  all : ∀ n : Nat, th[n]? = some true → ∃ t ∈ q, t.id.toNat = n
theorem Put.add {th : List Bool} {q : List Tl} (h : Put th q) {n : Nat} (hn : 1 ≤ n) (hl : th[n]? = some false) : Put (th.set n true) (putQ ⟨n, 1, 0, 0⟩ q) ∧ ∀ y ∈ q, y.id ≠ n := by
  have hnl : n < th.length := (List.getElem?_eq_some_iff.1 hl).1
  have hne : ∀ y ∈ q, y.id ≠ n := fun y hy e => by
    have := (h.mem y hy).2.2.2.2
    rw [e, Int.toNat_natCast, hl] at this
    cases this
  refine ⟨⟨put_sort h.sort hne, ?_, ?_, ?_⟩, hne⟩
  · refine ((put_perm _ q).map (·.id)).nodup_iff.2 (List.nodup_cons.2 ⟨fun hm => ?_, h.ids⟩)
    obtain ⟨y, hy, e⟩ := List.mem_map.1 hm
    exact hne y hy e
  · intro t ht
    rcases List.mem_cons.1 ((put_perm _ q).mem_iff.1 ht) with rfl | ht
    · exact ⟨rfl, rfl, rfl, by simp only; omega, by simp only [Int.toNat_natCast]; rw [List.getElem?_set_self hnl]⟩
    · obtain ⟨a1, a2, a3, a4, a5⟩ := h.mem t ht
      refine ⟨a1, a2, a3, a4, ?_⟩
      rw [List.getElem?_set_ne fun e => hne t ht (by omega)]
      exact a5
  · intro k hk
    by_cases e : n = k
    · subst e
      exact ⟨_, (put_perm _ q).mem_iff.2 List.mem_cons_self, by simp⟩
    · rw [List.getElem?_set_ne e] at hk
      obtain ⟨t, ht, e2⟩ := h.all k hk
      exact ⟨t, (put_perm _ q).mem_iff.2 (List.mem_cons_of_mem _ ht), e2⟩
theorem Put.there {th : List Bool} {q : List Tl} (h : Put th q) {n : Nat} (hl : th[n]? = some true) : ∃ k y, idI (n : Int) q 0 = ((k : Nat) : Int) ∧ q[k]? = some y ∧ y.id = n ∧ y.st = 1 ∧ y.inc = 0 := by
  obtain ⟨t, ht, e⟩ := h.all n hl
  obtain ⟨i1, i2⟩ := id_at (a := (n : Int)) (q := q) (i := 0)
  have ht1 := (h.mem t ht).2.2.2.1
  have hid : t.id = (n : Int) := by rw [← e]; exact (Int.toNat_of_nonneg (by omega)).symm
  have hge : 0 ≤ idI (n : Int) q 0 := by
    apply Int.le_of_not_gt
    intro hh
    exact i1 hh t ht hid
  obtain ⟨k, y, e1, e2, e3⟩ := i2 hge
  have := h.mem y (List.mem_of_getElem? e2)
  exact ⟨k, y, by rw [e1, Nat.zero_add], e2, e3, this.1, this.2.1⟩
theorem Put.start {lim : Int} {th : List Bool} {q : List Tl} (h : Put th q) (hlim : 1 ≤ lim) : Inv lim th (List.replicate th.length 0) q (q.length * lim) := by
  have rep : ∀ (n : Nat) (x : Int), (List.replicate th.length (0 : Int))[n]? = some x → x = 0 := fun n x hx => by
    have := List.mem_of_getElem? hx
    exact (List.mem_replicate.1 this).2
  refine ⟨h.sort, h.ids, fun t ht => ?_, fun t ht => ?_, fun n hn => .inl (h.all n hn), fun a b _ _ x y hx hy => ?_, ?_, List.length_replicate, fun x hx => ?_⟩
  · have := (h.mem t ht).2.2.1
    omega
  · obtain ⟨-, -, a3, a4, a5⟩ := h.mem t ht
    refine ⟨a4, a5, ?_⟩
    rw [List.getElem?_replicate, if_pos (List.getElem?_eq_some_iff.1 a5).1, a3]
  · have := rep a x hx; have := rep b y hy; omega
  · have : ∀ l : List Tl, (∀ t ∈ l, t.told = 0) → (l.length : Int) * lim = sumL lim l := by
      intro l
      induction l with
      | nil => intro _; simp [sumL]
      | cons t r ih =>
        intro hl
        rw [sumL, ← ih fun t ht => hl t (List.mem_cons_of_mem _ ht), hl t List.mem_cons_self, List.length_cons]
        rw [show ((r.length + 1 : Nat) : Int) = (r.length : Int) + 1 by omega, Int.add_mul]
        omega
    exact this q fun t ht => (h.mem t ht).2.2.1
  · have := (List.mem_replicate.1 hx).2
    omega
end GS
end Go.Proofs.Ytfnnmkjlokjkhaa
