/- Views: one more word in a view, in plain lists. -/
import Derived.Test.YtdanhpemheldlaaVM2
set_option linter.unusedSimpArgs false
set_option linter.unusedVariables false
namespace Go.Proofs.Ytdanhpemheldlaa
open Go Go.SY
theorem rowA_get {rs : List (List AV)} {i : Nat} (h : i < rs.length) : rowA rs i = rs[i] := by unfold rowA; rw [List.getElem?_eq_getElem h]; rfl
theorem vOk_of {rs : List (List AV)} : ∀ {last : Int}, (∀ i, i < rs.length → MemR (rowA rs i)) → (∀ i, i < rs.length → last < idR (rowA rs i)) → (∀ i j, i < j → j < rs.length → idR (rowA rs i) < idR (rowA rs j)) → vOk rs last = true := by
  induction rs with
  | nil => intro last _ _ _; rfl
  | cons r q ih =>
    intro last h1 h2 h3
    have a1 : MemR r := h1 0 (by simp)
    have a2 : last < idR r := h2 0 (by simp)
    have a3 := ih (last := idR r) (fun i hi => h1 (i + 1) (by simp only [List.length_cons]; omega)) (fun i hi => h3 0 (i + 1) (by omega) (by simp only [List.length_cons]; omega)) (fun i j hij hj => h3 (i + 1) (j + 1) (by omega) (by simp only [List.length_cons]; omega))
    simp only [vOk, decide_eq_true a1, decide_eq_true a2, a3, Bool.and_self]
def insR (rs : List (List AV)) (p : Nat) (m : List AV) : List (List AV) := rs.take p ++ (m :: rs.drop p)
theorem insR_len {rs : List (List AV)} {p : Nat} {m : List AV} (h : p ≤ rs.length) : (insR rs p m).length = rs.length + 1 := by simp [insR]; omega
theorem insR_lo {rs : List (List AV)} {p i : Nat} {m : List AV} (h : p ≤ rs.length) (hi : i < p) : rowA (insR rs p m) i = rowA rs i := by
  unfold insR rowA
  rw [List.getElem?_append_left (by simp; omega), List.getElem?_take_of_lt hi]
theorem insR_eq {rs : List (List AV)} {p : Nat} {m : List AV} (h : p ≤ rs.length) : rowA (insR rs p m) p = m := by
  unfold insR rowA
  have e : (rs.take p).length = p := by simp; omega
  rw [List.getElem?_append_right (by omega), e]
  simp
theorem insR_hi {rs : List (List AV)} {p i : Nat} {m : List AV} (h : p ≤ rs.length) (hi : p < i) : rowA (insR rs p m) i = rowA rs (i - 1) := by
  unfold insR rowA
  have e : (rs.take p).length = p := by simp; omega
  rw [List.getElem?_append_right (by omega), e]
  obtain ⟨d, rfl⟩ : ∃ d, i = p + 1 + d := ⟨i - p - 1, by omega⟩
  rw [show p + 1 + d - p = d + 1 by omega, List.getElem?_cons_succ, List.getElem?_drop, show p + 1 + d - 1 = p + d by omega]
theorem setR_at {rs : List (List AV)} {p i : Nat} {m : List AV} (h : p < rs.length) : rowA (rs.set p m) i = if i = p then m else rowA rs i := by
  unfold rowA
  rw [List.getElem?_set]
  by_cases e : p = i
  · subst e; simp [h]
  · have e' : ¬ i = p := fun h => e h.symm
    simp [e, e']
def betR (r m : List AV) : List AV := [.v (.int .i64 (idR r)), .v (.int .i64 (if betB (stR r) (icR r) (stR m) (icR m) = true then stR m else stR r)), .v (.int .i64 (if betB (stR r) (icR r) (stR m) (icR m) = true then icR m else icR r))]
def mIns (rs : List (List AV)) (m : List AV) : List (List AV) := if fndR rs (idR m) = true then rs.set (posR rs (idR m)) (betR (rowA rs (posR rs (idR m))) m) else insR rs (posR rs (idR m)) m
theorem betR_mem {r m : List AV} (hr : MemR r) (hm : MemR m) : MemR (betR r m) := by
  show MemOk (idR r) (if betB (stR r) (icR r) (stR m) (icR m) = true then stR m else stR r) (if betB (stR r) (icR r) (stR m) (icR m) = true then icR m else icR r)
  by_cases h : betB (stR r) (icR r) (stR m) (icR m) = true
  · rw [if_pos h, if_pos h]
    exact ⟨hr.1, hr.2.1, hm.2.2.1, hm.2.2.2.1, hm.2.2.2.2.1, hm.2.2.2.2.2⟩
  · rw [if_neg h, if_neg h]
    exact hr
theorem all_row {rs : List (List AV)} (h : rs.all isM = true) {i : Nat} (hi : i < rs.length) : isM (rowA rs i) = true := by
  rw [rowA_get hi]
  exact List.all_eq_true.1 h _ (List.getElem_mem hi)
theorem all_of {rs : List (List AV)} (h : ∀ i, i < rs.length → isM (rowA rs i) = true) : rs.all isM = true := List.all_eq_true.2 fun r hr => by
  obtain ⟨i, hi, rfl⟩ := List.mem_iff_getElem.1 hr
  rw [← rowA_get hi]
  exact h i hi
theorem mIns_len {rs : List (List AV)} {m : List AV} : (mIns rs m).length ≤ rs.length + 1 := by
  unfold mIns
  split
  · rw [List.length_set]; omega
  · rw [insR_len posR_le]; exact Nat.le_refl _
theorem mIns_ok {rs : List (List AV)} {m : List AV} (hv : vOk rs 0 = true) (ha : rs.all isM = true) (hm : MemR m) (him : isM m = true) : vOk (mIns rs m) 0 = true ∧ (mIns rs m).all isM = true := by
  obtain ⟨h1, h2⟩ := vOk_from hv
  have hs := posR_iff (k := idR m) h2
  have hp := posR_le (rs := rs) (k := idR m)
  unfold mIns
  split
  · rename_i hf
    obtain ⟨hlt, hid⟩ := of_decide_eq_true hf
    generalize posR rs (idR m) = p at *
    have hb : ∀ i, idR (rowA (rs.set p (betR (rowA rs p) m)) i) = idR (rowA rs i) := fun i => by
      rw [setR_at hlt]
      split
      · rename_i e; rw [e]; rfl
      · rfl
    refine ⟨vOk_of (fun i hi => ?_) (fun i hi => ?_) (fun i j hij hj => ?_), all_of fun i hi => ?_⟩
    · rw [List.length_set] at hi
      rw [setR_at hlt]
      split
      · exact betR_mem (h1 p hlt).1 hm
      · exact (h1 i hi).1
    · rw [List.length_set] at hi
      rw [hb i]
      exact (h1 i hi).2
    · rw [List.length_set] at hj
      rw [hb i, hb j]
      exact h2 i j hij hj
    · rw [List.length_set] at hi
      rw [setR_at hlt]
      split
      · rfl
      · exact all_row ha hi
  · rename_i hf
    have hne : ¬ (posR rs (idR m) < rs.length ∧ idR (rowA rs (posR rs (idR m))) = idR m) := fun h => hf (decide_eq_true h)
    have hlen := insR_len (m := m) hp
    generalize hpp : posR rs (idR m) = p at *
    have hlo : ∀ i, i < p → idR (rowA rs i) < idR m := fun i hi => (hs i (by omega)).2 hi
    have hhi : ∀ i, p ≤ i → i < rs.length → idR m < idR (rowA rs i) := fun i hi hil => by
      have a1 : ¬ idR (rowA rs i) < idR m := fun h => by have := (hs i hil).1 h; omega
      rcases Nat.lt_or_ge p i with h3 | h3
      · have a2 := h2 p i h3 hil
        have a3 : ¬ idR (rowA rs p) < idR m := fun h => by have := (hs p (by omega)).1 h; omega
        omega
      · have e : i = p := by omega
        subst e
        have : idR (rowA rs i) ≠ idR m := fun h => hne ⟨hil, h⟩
        omega
    refine ⟨vOk_of (fun i hi => ?_) (fun i hi => ?_) (fun i j hij hj => ?_), all_of fun i hi => ?_⟩
    · rcases Nat.lt_trichotomy i p with h | rfl | h
      · rw [insR_lo hp h]; exact (h1 i (by omega)).1
      · rw [insR_eq hp]; exact hm
      · rw [insR_hi hp h]; exact (h1 (i - 1) (by omega)).1
    · rcases Nat.lt_trichotomy i p with h | rfl | h
      · rw [insR_lo hp h]; exact (h1 i (by omega)).2
      · rw [insR_eq hp]; have := hm.1; omega
      · rw [insR_hi hp h]; exact (h1 (i - 1) (by omega)).2
    · rcases Nat.lt_trichotomy i p with h | rfl | h
      · rw [insR_lo hp h]
        rcases Nat.lt_trichotomy j p with h' | rfl | h'
        · rw [insR_lo hp h']; exact h2 i j hij (by omega)
        · rw [insR_eq hp]; exact hlo i h
        · rw [insR_hi hp h']; exact h2 i (j - 1) (by omega) (by omega)
      · rw [insR_eq hp, insR_hi hp hij]; exact hhi (j - 1) (by omega) (by omega)
      · rw [insR_hi hp h, insR_hi hp (by omega)]; exact h2 (i - 1) (j - 1) (by omega) (by omega)
    · rcases Nat.lt_trichotomy i p with h | rfl | h
      · rw [insR_lo hp h]; exact all_row ha (by omega)
      · rw [insR_eq hp]; exact him
      · rw [insR_hi hp h]; exact all_row ha (by omega)
/-- A view behind words. -/
def mrgR (vs ws : List (List AV)) : List (List AV) := ws.foldl mIns vs
theorem mrgR_succ {vs ws : List (List AV)} {i : Nat} (h : i < ws.length) : mrgR vs (ws.take (i + 1)) = mIns (mrgR vs (ws.take i)) (rowA ws i) := by
  unfold mrgR
  rw [List.take_add_one, List.getElem?_eq_getElem h, rowA_get h]
  simp only [Option.toList, List.foldl_append, List.foldl_cons, List.foldl_nil]
theorem mrgR_ok {vs : List (List AV)} (hv : vOk vs 0 = true) (ha : vs.all isM = true) : ∀ (ws : List (List AV)), (∀ r ∈ ws, MemR r ∧ isM r = true) → vOk (mrgR vs ws) 0 = true ∧ (mrgR vs ws).all isM = true := by
  intro ws
  induction ws generalizing vs with
  | nil => intro _; exact ⟨hv, ha⟩
  | cons w q ih =>
    intro h
    have h0 := h w (List.mem_cons_self ..)
    have := mIns_ok hv ha h0.1 h0.2
    exact ih this.1 this.2 fun r hr => h r (List.mem_cons_of_mem _ hr)
theorem mrgR_len {vs : List (List AV)} : ∀ (ws : List (List AV)), (mrgR vs ws).length ≤ vs.length + ws.length := by
  intro ws
  induction ws generalizing vs with
  | nil => exact Nat.le_refl _
  | cons w q ih =>
    have h1 := ih (vs := mIns vs w)
    have h2 := mIns_len (rs := vs) (m := w)
    show (mrgR (mIns vs w) q).length ≤ _
    simp only [List.length_cons]
    omega
end Go.Proofs.Ytdanhpemheldlaa
