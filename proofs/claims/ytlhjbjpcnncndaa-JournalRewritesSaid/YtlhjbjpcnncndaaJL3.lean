/- Journals' laws: the plain law of crashes. -/
import Derived.Test.YtlhjbjpcnncndaaJL2
set_option linter.unusedSimpArgs false
set_option linter.unusedVariables false
namespace Go.Proofs.Ytlhjbjpcnncndaa
open Go Go.SY
namespace JL
open DW JW
theorem siz_of {x : List Int} (h : Fit x) : sizN (x.length : Nat) = 8 + x.length := by
  rw [sizN, if_pos (by have := h.2.1; omega), if_pos (by have := h.2.2; omega)]
theorem fm_take : ∀ {ls : List (List Int)} {k : Nat} {q : Int}, (∀ x ∈ ls, Fit x) → k ≤ ls.length → fmN (q + ((jn (ls.take k)).length : Nat)) q ls = k
  | [], k, q, _, h => by
    have : k = 0 := by simpa using h
    subst this
    rfl
  | x :: r, 0, q, hf, _ => by
    have hs := siz_of (hf x (List.mem_cons_self ..))
    rw [fmN, hs, if_pos]
    simp [jn]
    omega
  | x :: r, k + 1, q, hf, h => by
    have hs := siz_of (hf x (List.mem_cons_self ..))
    have e : jn ((x :: r).take (k + 1)) = frm x ++ jn (r.take k) := rfl
    have hr := fm_take (ls := r) (k := k) (q := q + (8 + x.length)) (fun y hy => hf y (List.mem_cons_of_mem _ hy)) (by simpa using h)
    have e2 : q + ((jn ((x :: r).take (k + 1))).length : Nat) = q + (8 + x.length) + ((jn (r.take k)).length : Nat) := by
      rw [e, List.length_append, frm_len]; omega
    rw [e2, fmN, hs, if_neg (by omega), hr]
theorem fm_all {ls : List (List Int)} (hf : ∀ x ∈ ls, Fit x) : fmN ((jn ls).length : Nat) 0 ls = ls.length := by
  have := fm_take (q := 0) hf (Nat.le_refl _)
  rwa [List.take_of_length_le (Nat.le_refl _), Int.zero_add] at this
theorem jn_mono {ls : List (List Int)} {i j : Nat} (h : i ≤ j) : (jn (ls.take i)).length ≤ (jn (ls.take j)).length := by
  have := jn_take_le (ls := ls.take j) i
  rwa [List.take_take, Nat.min_eq_left h] at this
theorem jn_next {ls : List (List Int)} {i : Nat} (h : i < ls.length) : (jn (ls.take (i + 1))).length = (jn (ls.take i)).length + (8 + ls[i].length) := by
  rw [List.take_succ_eq_append_getElem h, jn_app, List.length_append]
  have e : jn [ls[i]] = frm ls[i] := List.append_nil _
  rw [e, frm_len]
  omega
theorem cut_at (ls : List (List Int)) (M : Nat) : ∀ n, n ≤ ls.length → ∃ i, i ≤ n ∧ (jn (ls.take i)).length ≤ M ∧ (i < n → ∀ h : i < ls.length, M < (jn (ls.take i)).length + (8 + ls[i].length))
  | 0, _ => ⟨0, Nat.le_refl _, by simp [jn], fun h => absurd h (Nat.lt_irrefl _)⟩
  | n + 1, h => by
    by_cases hM : (jn (ls.take (n + 1))).length ≤ M
    · exact ⟨n + 1, Nat.le_refl _, hM, fun h => absurd h (Nat.lt_irrefl _)⟩
    · obtain ⟨i, h1, h2, h3⟩ := cut_at ls M n (by omega)
      refine ⟨i, by omega, h2, fun _ hl => ?_⟩
      by_cases hi : i < n
      · exact h3 hi hl
      · obtain rfl : i = n := by omega
        rw [jn_next hl] at hM
        omega
theorem jn_pre {ls : List (List Int)} (i : Nat) : (jn ls).take (jn (ls.take i)).length = jn (ls.take i) := by
  have e : jn ls = jn (ls.take i) ++ jn (ls.drop i) := by rw [← jn_app, List.take_append_drop]
  rw [e, List.take_left']
  rfl
theorem err_fit {ls : List (List Int)} (hf : ∀ x ∈ ls, Fit x) : jErr ls = 0 := jErr_iff.2 fun x hx => putE_iff.2 (hf x hx).2
def okS (L : List (List Int)) (m : Int) : DS := ⟨jn L, ((jn L).length : Nat), [], 0, 1000000, m, none, false⟩
theorem op_crash {ls : List (List Int)} (hf : ∀ x ∈ ls, Fit x) (hs : (jn ls).length ≤ 5000) {k M : Nat} (hk : k ≤ ls.length) (h1 : (jn (ls.take k)).length ≤ M) (h2 : M ≤ (jn ls).length) (m : Int) :
    ∃ i m', k ≤ i ∧ i ≤ ls.length ∧ m ≤ m' ∧ m' ≤ m + 2 ∧ opR ⟨(jn ls).take M, (M : Nat), [], 0, 1000000, m, none, false⟩ = (0, okS (ls.take i) m', (ls.take i).map rwN) := by
  obtain ⟨i, a1, a2, a3⟩ := cut_at ls M ls.length (Nat.le_refl _)
  have hsp := spl_cut hf a1 a2 fun h => a3 h h
  have hki : k ≤ i := by
    rcases Nat.lt_or_ge i k with h | h
    · have := a3 (by omega) (by omega)
      have h5 := jn_mono (ls := ls) (show i + 1 ≤ k by omega)
      rw [jn_next (by omega)] at h5
      omega
    · exact h
  have hft : ∀ x ∈ ls.take i, Fit x := fun x hx => hf x (List.mem_of_mem_take hx)
  have hle := jn_take_le (ls := ls) i
  have hl : ((jn ls).take M).length = M := by rw [List.length_take]; omega
  by_cases ht : (jn (ls.take i)).length < M
  · refine ⟨i, m + 2, hki, a1, by omega, by omega, ?_⟩
    rw [opR, hsp, hl, if_pos ht]
    simp only
    rw [jRw, bys_rwN, if_pos (err_fit hft)]
    have e1 : dLay true ⟨(jn ls).take M, (M : Nat), [], 0, 1000000, m, none, false⟩ (jn (ls.take i)) = (0, ⟨(jn ls).take M, (M : Nat), jn (ls.take i), 0, 1000000, m + 1, none, false⟩) := by
      rw [dLay, if_neg (by simp), if_neg (by simp only [hl, List.length_nil]; omega)]
      rfl
    rw [e1]
    have e2 : dSwitch ⟨(jn ls).take M, (M : Nat), jn (ls.take i), 0, 1000000, m + 1, none, false⟩ = (0, okS (ls.take i) (m + 2)) := by
      rw [dSwitch, if_neg (by simp)]
      simp only [okS, Prod.mk.injEq, true_and, DS.mk.injEq, and_true]
      omega
    simp only [e2, if_true]
  · refine ⟨i, m, hki, a1, by omega, by omega, ?_⟩
    have hM : M = (jn (ls.take i)).length := by omega
    rw [opR, hsp, hl, if_neg ht, hM, jn_pre]
    rfl
theorem op_whole {L : List (List Int)} (hf : ∀ x ∈ L, Fit x) (f m : Int) : opR ⟨jn L, f, [], 0, 1000000, m, none, false⟩ = (0, ⟨jn L, f, [], 0, 1000000, m, none, false⟩, L.map rwN) := by
  rw [opR, spl_jn hf, if_neg (Nat.lt_irrefl _)]
theorem opV_ok {s s' : DS} {rs : List (List AV)} (ho : s.out = false) (h : opR s = (0, s', rs)) : opV s = .tup [.ptr 3 0 2 0, .v (.int .i64 0)] ∧ opL s = layO s' rs := by
  rw [opV, opL, ho, h]
  exact ⟨rfl, rfl⟩
end JL
end Go.Proofs.Ytlhjbjpcnncndaa
