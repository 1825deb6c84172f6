/- Frames: the plain laws of joining and splitting. -/
import Derived.Test.YtlhjbjpcnncndaaFR6
set_option linter.unusedSimpArgs false
set_option linter.unusedVariables false
namespace Go.Proofs.Ytlhjbjpcnncndaa
open Go Go.SY
def sSplit0 : List AV → Option (Bool × AV × Bls)
  | [.imn _ .u8 b _] => some (decide (b.length ≤ 1000000000000), splV b, splL b)
  | _ => none
theorem split0_ok : SpecOk Try.prog (plOf pls) 37 sSplit0 := by
  refine ⟨_, fi37, fun args r bl1 h => ?_⟩
  unfold sSplit0 at h
  split at h
  · rename_i t b c
    simp only [Option.some.injEq, Prod.mk.injEq, decide_eq_true_eq] at h
    obtain ⟨h1, rfl, rfl⟩ := h
    refine ⟨by simp, fun C hC _ => ?_⟩
    refine Rch.len 0 (t := t) (kk := .u8) (xs := b) (c := c) rfl rfl fun hl hx => ?_
    refine Rch.fit1 hC [] (tm' := ini 0 [.imn t .u8 b c]) (bl' := []) rfl (by decide) rfl ⟨rfl, trivial⟩ (by cases t <;> rfl) trivial ?_
    exact split_run C hC t b hx h1 c
  · cases h
def sSplit (args : List AV) : Option (Bool × AV × Bls) := sSplit0 (mapI (fun _ => nilN .u8) 0 args)
theorem split_ok : SpecOk Try.prog (plOf pls) 37 sSplit := split0_ok.weak _ fun _ _ _ _ h => nilN_den _ h
def Fit (x : List Int) : Prop := okN .u8 x ∧ 1 ≤ x.length ∧ x.length ≤ 4000
theorem putE_iff {x : List Int} : putE x = 0 ↔ 1 ≤ x.length ∧ x.length ≤ 4000 := by
  unfold putE
  split
  · exact ⟨fun h => (by cases h), fun h => (by omega)⟩
  · split
    · exact ⟨fun _ => (by omega), fun _ => rfl⟩
    · exact ⟨fun h => (by cases h), fun h => (by omega)⟩
theorem jErr_iff : ∀ {ls : List (List Int)}, jErr ls = 0 ↔ ∀ x ∈ ls, putE x = 0
  | [] => by simp [jErr]
  | x :: r => by
    simp only [jErr, List.mem_cons, forall_eq_or_imp]
    split
    · rename_i h
      rw [jErr_iff]
      exact ⟨fun h2 => ⟨h, h2⟩, fun h2 => h2.2⟩
    · rename_i h
      exact ⟨fun h2 => absurd h2 h, fun h2 => absurd h2.1 h⟩
theorem le_get {n : Nat} (h : n < 4294967296) (r : List Int) : getN (le n ++ r) = n := by
  simp only [getN, le, List.cons_append, List.nil_append, List.getElem?_cons_zero, List.getElem?_cons_succ, Option.getD_some, Int.toNat_natCast, le4]
  omega
theorem crcM_lt {xs : List Int} (h : okN .u8 xs) : crcM 0 xs < 4294967296 := xor32 (crcL_lt h (by decide)) (by decide)
theorem frm_facts {x : List Int} (hx : Fit x) (r : List Int) : getN (frm x ++ r) = x.length ∧ (frm x ++ r).drop 8 = x ++ r ∧ getN ((frm x ++ r).drop 4) = crcM 0 x ∧ recB (frm x ++ r) = x ∧ stB (frm x ++ r) = true := by
  obtain ⟨h1, h2, h3⟩ := hx
  have e1 : getN (frm x ++ r) = x.length := by
    rw [frm, List.append_assoc]
    exact le_get (by omega) _
  have e2 : (frm x ++ r).drop 8 = x ++ r := rfl
  have e3 : getN ((frm x ++ r).drop 4) = crcM 0 x := by
    have : (frm x ++ r).drop 4 = le (crcM 0 x) ++ (x ++ r) := rfl
    rw [this]
    exact le_get (crcM_lt h1) _
  have e4 : recB (frm x ++ r) = x := by
    rw [recB, e1, e2, List.take_left']
    rfl
  refine ⟨e1, e2, e3, e4, stB_iff.2 ?_⟩
  rw [e1, e3, e4, List.length_append, frm_len]
  exact ⟨by omega, h2, h3, by omega, rfl⟩
theorem inv_jn {ls : List (List Int)} (hf : ∀ x ∈ ls, Fit x) (w : List Int) : ∀ i, i ≤ ls.length → Inv (jn ls ++ w) (jn (ls.take i)).length (ls.take i)
  | 0, _ => Inv.zero _
  | i + 1, hi => by
    have h := inv_jn hf w i (by omega)
    have hi' : i < ls.length := by omega
    have hx := hf _ (List.getElem_mem hi')
    have hd : (jn ls ++ w).drop (jn (ls.take i)).length = frm ls[i] ++ (jn (ls.drop (i + 1)) ++ w) := by
      have e : ls = ls.take i ++ (ls[i] :: ls.drop (i + 1)) := by rw [← List.drop_eq_getElem_cons hi', List.take_append_drop]
      have e2 : jn ls = jn (ls.take i) ++ (frm ls[i] ++ jn (ls.drop (i + 1))) := by
        conv => lhs; rw [e, jn_app]
        rfl
      rw [e2, List.append_assoc, List.drop_left', List.append_assoc]
      rfl
    obtain ⟨e1, e2, e3, e4, e5⟩ := frm_facts hx (jn (ls.drop (i + 1)) ++ w)
    have := h.step (by rw [hd]; exact e5)
    rw [hd, e1, e4] at this
    have et : ls.take (i + 1) = ls.take i ++ [ls[i]] := by rw [List.take_add_one, List.getElem?_eq_getElem hi']; rfl
    have el : (jn (ls.take (i + 1))).length = (jn (ls.take i)).length + (8 + ls[i].length) := by
      rw [et, jn_app, List.length_append]
      have : jn [ls[i]] = frm ls[i] := List.append_nil _
      rw [this, frm_len]
      omega
    rw [et] at el ⊢
    rw [el]
    exact this
theorem stB_nil : ¬ stB [] = true := by decide
theorem spl_jn {ls : List (List Int)} (hf : ∀ x ∈ ls, Fit x) : splF (jn ls) = (ls, (jn ls).length) := by
  have h := inv_jn hf [] ls.length (Nat.le_refl _)
  rw [List.append_nil, List.take_length] at h
  obtain ⟨h1, h2⟩ := h.stop (by rw [List.drop_length]; exact stB_nil)
  exact Prod.ext h1 h2
theorem spl_app {ls : List (List Int)} (hf : ∀ x ∈ ls, Fit x) {w : List Int} (hw : ¬ stB w = true) : splF (jn ls ++ w) = (ls, (jn ls).length) := by
  have h := inv_jn hf w ls.length (Nat.le_refl _)
  rw [List.take_length] at h
  obtain ⟨h1, h2⟩ := h.stop (by rw [List.drop_left']; exact hw; rfl)
  exact Prod.ext h1 h2
theorem cut_not {x : List Int} (hx : Fit x) (r : List Int) {k : Nat} (hk : k < 8 + x.length) : ¬ stB ((frm x ++ r).take k) = true := by
  intro h
  obtain ⟨h1, -, -, h4, -⟩ := stB_iff.1 h
  have hl : ((frm x ++ r).take k).length ≤ k := by rw [List.length_take]; omega
  have e : getN ((frm x ++ r).take k) = getN (frm x ++ r) := by
    simp only [getN]
    rw [List.getElem?_take_of_lt (by omega), List.getElem?_take_of_lt (by omega), List.getElem?_take_of_lt (by omega), List.getElem?_take_of_lt (by omega)]
  rw [e, (frm_facts hx r).1] at h4
  omega
theorem spl_cut {ls : List (List Int)} (hf : ∀ x ∈ ls, Fit x) {cut i : Nat} (hi : i ≤ ls.length) (h1 : (jn (ls.take i)).length ≤ cut) (h2 : ∀ h : i < ls.length, cut < (jn (ls.take i)).length + (8 + ls[i].length)) : splF ((jn ls).take cut) = (ls.take i, (jn (ls.take i)).length) := by
  have e2 : jn ls = jn (ls.take i) ++ jn (ls.drop i) := by rw [← jn_app, List.take_append_drop]
  rw [e2, List.take_append, List.take_of_length_le h1]
  refine spl_app (fun x hx => hf x (List.mem_of_mem_take hx)) ?_
  rcases Nat.lt_or_ge i ls.length with h | h
  · rw [List.drop_eq_getElem_cons h]
    have : jn (ls[i] :: ls.drop (i + 1)) = frm ls[i] ++ jn (ls.drop (i + 1)) := rfl
    rw [this]
    exact cut_not (hf _ (List.getElem_mem h)) _ (by have := h2 h; omega)
  · rw [List.drop_eq_nil_of_le h]
    have : List.take (cut - (jn (ls.take i)).length) (jn []) = [] := by simp [jn]
    rw [this]
    exact stB_nil
end Go.Proofs.Ytlhjbjpcnncndaa
