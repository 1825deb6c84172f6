/- ProbeTurns: what is told when, in plain numbers. -/
import Derived.Test.YtbdphljmfoofoaaPT4
set_option linter.unusedSimpArgs false
set_option linter.unusedVariables false
namespace Go.Proofs.Ytbdphljmfoofoaa
open Go Go.SY
theorem li_nodup (n : Nat) : (li n).Nodup := by
  unfold li List.Nodup
  rw [List.pairwise_map]
  exact List.nodup_range.imp fun h e => h (by omega)
theorem perm_at {n : Nat} {ys : List Int} (h : ys.Perm (li n)) {p : Nat} (hp : p < n) : ∃ X : Nat, ys[p]?.getD 0 = X ∧ 1 ≤ X ∧ X ≤ n := by
  have hl : ys.length = n := by rw [h.length_eq, li_len]
  have hm : ys[p]?.getD 0 ∈ ys := by rw [getD_get (by omega)]; exact List.getElem_mem _
  have := h.mem_iff.1 hm
  simp only [li, List.mem_map, List.mem_range] at this
  obtain ⟨k, hk, e⟩ := this
  exact ⟨k + 1, by omega, by omega, by omega⟩
theorem perm_inj {n : Nat} {ys : List Int} (h : ys.Perm (li n)) {p q : Nat} (hp : p < n) (hq : q < n) (e : ys[p]?.getD 0 = ys[q]?.getD 0) : p = q := by
  have hl : ys.length = n := by rw [h.length_eq, li_len]
  have hn : ys.Nodup := h.nodup_iff.2 (li_nodup n)
  rw [getD_get (by omega), getD_get (by omega)] at e
  rw [List.Nodup, List.pairwise_iff_getElem] at hn
  rcases Nat.lt_trichotomy p q with hlt | rfl | hlt
  · exact absurd e (hn p q (by omega) (by omega) hlt)
  · rfl
  · exact absurd e.symm (hn q p (by omega) (by omega) hlt)
theorem perm_sur {ys zs : List Int} (h : zs.Perm ys) {p : Nat} (hp : p < zs.length) : ∃ q, q < ys.length ∧ ys[q]?.getD 0 = zs[p]?.getD 0 := by
  have hm : zs[p]?.getD 0 ∈ zs := by rw [getD_get (by omega)]; exact List.getElem_mem _
  obtain ⟨q, hq, e⟩ := List.mem_iff_getElem.1 (h.mem_iff.1 hm)
  exact ⟨q, hq, by rw [getD_get hq]; exact e⟩
structure Inv (n B t : Nat) (ys la : List Int) : Prop where
  perm : ys.Perm (li n)
  len : la.length = n + 1
  ht : t ≤ n
  old : ∀ p, p < t → la[(ys[p]?.getD 0).toNat]?.getD 0 = (B : Int) + p + 1
  rest : ∀ p, t ≤ p → p < n → la[(ys[p]?.getD 0).toNat]?.getD 0 = 0 ∨ (0 < la[(ys[p]?.getD 0).toNat]?.getD 0 ∧ (B : Int) < la[(ys[p]?.getD 0).toNat]?.getD 0 + n ∧ la[(ys[p]?.getD 0).toNat]?.getD 0 ≤ B)
theorem Inv.begin {n : Nat} {ys : List Int} (h : ys.Perm (li n)) : Inv n 0 0 ys (List.replicate (n + 1) 0) :=
  ⟨h, by simp, Nat.zero_le _, fun p hp => absurd hp (Nat.not_lt_zero _), fun p _ hp => .inl (by
    obtain ⟨X, hX, _, _⟩ := perm_at h hp
    rw [hX]
    rw [List.getElem?_replicate]
    split <;> rfl)⟩
theorem Inv.turn {n B : Nat} {ys zs la : List Int} (h : Inv n B n ys la) (hz : zs.Perm ys) : Inv n (B + n) 0 zs la := by
  have hl : ys.length = n := by rw [h.perm.length_eq, li_len]
  refine ⟨hz.trans h.perm, h.len, Nat.zero_le _, fun p hp => absurd hp (Nat.not_lt_zero _), fun p _ hp => .inr ?_⟩
  obtain ⟨q, hq, e⟩ := perm_sur hz (p := p) (by rw [hz.length_eq]; omega)
  rw [← e, h.old q (by omega)]
  omega
theorem Inv.step {n B t : Nat} {ys la : List Int} (h : Inv n B t ys la) (ht : t < n) {X : Nat} (hX : ys[t]?.getD 0 = X) : Inv n B (t + 1) ys (la.set X (((B + t : Nat) : Int) + 1)) := by
  obtain ⟨X', hX', g1, g2⟩ := perm_at h.perm ht
  obtain rfl : X = X' := by omega
  have ne : ∀ p, p < n → p ≠ t → (ys[p]?.getD 0).toNat ≠ X := fun p hp hne e => hne (by
    obtain ⟨Y, hY, _, _⟩ := perm_at h.perm hp
    refine perm_inj h.perm hp ht ?_
    rw [hX, hY]; rw [hY] at e; omega)
  refine ⟨h.perm, by simp [h.len], ht, fun p hp => ?_, fun p hp hp2 => ?_⟩
  · by_cases hpt : p = t
    · subst hpt
      rw [hX, Int.toNat_natCast, List.getElem?_set_self (by rw [h.len]; omega)]
      simp only [Option.getD_some]; omega
    · rw [List.getElem?_set_ne (fun e => ne p (by omega) hpt e.symm)]
      exact h.old p (by omega)
  · rw [List.getElem?_set_ne (fun e => ne p (by omega) (by omega) e.symm)]
    exact h.rest p (by omega) hp2
/-- What is told at t, and when it was told last. -/
theorem Inv.at {n B t : Nat} {ys la : List Int} (h : Inv n B t ys la) (ht : t < n) : ∃ X : Nat, ys[t]?.getD 0 = X ∧ 1 ≤ X ∧ X ≤ n ∧ (la[X]?.getD 0 = 0 ∨ (0 < la[X]?.getD 0 ∧ (B : Int) < la[X]?.getD 0 + n ∧ la[X]?.getD 0 ≤ B)) := by
  obtain ⟨X, hX, g1, g2⟩ := perm_at h.perm ht
  refine ⟨X, hX, g1, g2, ?_⟩
  have := h.rest t (Nat.le_refl _) ht
  rwa [hX, Int.toNat_natCast] at this
theorem quo_mod {n q t : Nat} (ht : t < n) : (((q * n + t : Nat)) : Int).tmod n = t ∧ (((q * n + t : Nat)) : Int).tdiv n = q := by
  have e1 : (q * n + t) % n = t := by rw [Nat.mul_comm, Nat.mul_add_mod, Nat.mod_eq_of_lt ht]
  have e2 : (q * n + t) / n = q := by rw [Nat.mul_comm, Nat.mul_add_div (by omega), Nat.div_eq_of_lt ht]; omega
  constructor
  · rw [← Int.ofNat_tmod, e1]
  · rw [← Int.ofNat_tdiv, e2]
theorem quo_less {n q : Nat} {v : Int} (h0 : 0 < v) (h : v ≤ ((q * n : Nat) : Int)) (hq : q ≤ 1000) : ¬ IntKind.i64.wrap ((v - 1).tdiv n) = IntKind.i64.wrap q := by
  obtain ⟨w, rfl⟩ : ∃ w : Nat, v = (w : Int) + 1 := ⟨(v - 1).toNat, by omega⟩
  have e : (w : Int) + 1 - 1 = w := by omega
  rw [e, ← Int.ofNat_tdiv]
  have hlt : w / n < q := Nat.div_lt_of_lt_mul (by rw [Nat.mul_comm]; omega)
  generalize w / n = z at hlt ⊢
  rw [wrap64_id (by simp only [inK, Bool.and_eq_true, decide_eq_true_eq]; omega), wrap64_id (by simp only [inK, Bool.and_eq_true, decide_eq_true_eq]; omega)]
  omega
end Go.Proofs.Ytbdphljmfoofoaa
