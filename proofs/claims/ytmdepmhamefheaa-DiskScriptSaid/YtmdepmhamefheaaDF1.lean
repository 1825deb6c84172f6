/- Disks: the plain law of acts; the act's contract. -/
import Derived.Test.YtmdepmhamefheaaDA
import Derived.Test.YtmdepmhamefheaaDF0
set_option linter.unusedSimpArgs false
set_option linter.unusedVariables false
namespace Go.Proofs.Ytmdepmhamefheaa
open Go Go.SY
namespace DF
open DW
/-- What a disk is like behind so many acts. -/
structure Inv (s : DS) (i : Nat) : Prop where
  n0 : 0 ≤ s.n
  n1 : s.n ≤ i
  sz : s.l.length + s.x.length ≤ 200 * i
  f0 : 0 ≤ s.f
  f1 : s.f ≤ s.l.length
  u : fuOk s.u = true
theorem Inv.num {s : DS} {i : Nat} (h : Inv s i) (hi : i ≤ 1000000) : numOk s = true := by
  simp only [numOk, Bool.and_eq_true, decide_eq_true_eq]
  have := h.n0; have := h.n1; have := h.sz
  exact ⟨by omega, by omega, by omega, h.f0, h.f1, h.u⟩
theorem Inv.up {s : DS} {i : Nat} (h : Inv s i) : Inv s (i + 1) := ⟨h.n0, by have := h.n1; omega, by have := h.sz; omega, h.f0, h.f1, h.u⟩
theorem fu_dec {k : Int} (h : fuOk (some k) = true) (h0 : ¬ k = 0) : fuOk (some (k - 1)) = true := by
  simp only [fuOk, Bool.and_eq_true, decide_eq_true_eq] at h ⊢
  omega
theorem lay_inv {s : DS} {i : Nat} (nx : Bool) {b : List Int} (h : Inv s i) (hb : b.length ≤ 200) : Inv (dLay nx s b).2 (i + 1) ∧ (dLay nx s b).2.f = s.f ∧ ((dLay nx s b).2.l = s.l ∨ (nx = false ∧ (dLay nx s b).2.l = s.l ++ b)) := by
  obtain ⟨n0, n1, sz, f0, f1, hu⟩ := h
  unfold dLay
  split
  · exact ⟨⟨n0, by first | omega | (dsimp only; omega), by first | omega | (dsimp only; omega), f0, f1, hu⟩, rfl, .inl rfl⟩
  split
  · exact ⟨⟨n0, by first | omega | (dsimp only; omega), by first | omega | (dsimp only; omega), f0, f1, hu⟩, rfl, .inl rfl⟩
  have hl : (if nx = true then s.l else s.l ++ b).length + (if nx = true then s.x ++ b else s.x).length ≤ 200 * (i + 1) := by
    cases nx <;> simp only [Bool.false_eq_true, if_false, if_true, List.length_append] <;> omega
  have hf : s.f ≤ (if nx = true then s.l else s.l ++ b).length := by
    cases nx <;> simp only [Bool.false_eq_true, if_false, if_true, List.length_append] <;> omega
  have hx : (if nx = true then s.l else s.l ++ b) = s.l ∨ (nx = false ∧ (if nx = true then s.l else s.l ++ b) = s.l ++ b) := by cases nx <;> simp
  split
  · exact ⟨⟨by first | omega | (dsimp only; omega), by first | omega | (dsimp only; omega), hl, f0, hf, rfl⟩, rfl, hx⟩
  · rename_i k hk
    rw [hk] at hu
    split
    · exact ⟨⟨by first | omega | (dsimp only; omega), by first | omega | (dsimp only; omega), hl, f0, hf, rfl⟩, rfl, hx⟩
    · rename_i h0
      exact ⟨⟨by first | omega | (dsimp only; omega), by first | omega | (dsimp only; omega), hl, f0, hf, fu_dec hu h0⟩, rfl, hx⟩
theorem sync_inv {s : DS} {i : Nat} (h : Inv s i) : Inv (dSync s).2 (i + 1) ∧ s.f ≤ (dSync s).2.f ∧ (dSync s).2.l = s.l := by
  obtain ⟨n0, n1, sz, f0, f1, hu⟩ := h
  unfold dSync
  split
  · exact ⟨⟨n0, by first | omega | (dsimp only; omega), by first | omega | (dsimp only; omega), f0, f1, hu⟩, Int.le_refl _, rfl⟩
  split
  · exact ⟨⟨by first | omega | (dsimp only; omega), by first | omega | (dsimp only; omega), by first | omega | (dsimp only; omega), by first | omega | (dsimp only; omega), by first | omega | (dsimp only; omega), rfl⟩, f1, rfl⟩
  · rename_i k hk
    rw [hk] at hu
    split
    · exact ⟨⟨by first | omega | (dsimp only; omega), by first | omega | (dsimp only; omega), by first | omega | (dsimp only; omega), f0, f1, rfl⟩, Int.le_refl _, rfl⟩
    · rename_i h0
      exact ⟨⟨by first | omega | (dsimp only; omega), by first | omega | (dsimp only; omega), by first | omega | (dsimp only; omega), by first | omega | (dsimp only; omega), by first | omega | (dsimp only; omega), fu_dec hu h0⟩, f1, rfl⟩
theorem crash_inv {s : DS} {i : Nat} {k : Int} (h : Inv s i) (hk : 0 ≤ k) : ∃ M : Nat, s.f ≤ M ∧ M ≤ s.l.length ∧ (dCrash s k).2 = ⟨s.l.take M, M, [], 0, s.room, s.n, none, false⟩ ∧ Inv (dCrash s k).2 (i + 1) := by
  obtain ⟨n0, n1, sz, f0, f1, hu⟩ := h
  have e : (dCrash s k).2 = ⟨s.l.take (crN s k), crN s k, [], 0, s.room, s.n, none, false⟩ := by
    unfold dCrash
    rw [if_neg (by first | omega | (dsimp only; omega))]
  have h1 : s.f ≤ crN s k ∧ crN s k ≤ s.l.length := by unfold crN; omega
  refine ⟨crN s k, h1.1, h1.2, e, ?_⟩
  rw [e]
  have hl : (s.l.take (crN s k)).length = crN s k := by rw [List.length_take]; omega
  exact ⟨n0, by first | omega | (dsimp only; omega), by simp only [hl, List.length_nil]; omega, by first | omega | (dsimp only; omega), by simp only [hl]; omega, rfl⟩
/-- What an act leaves. -/
structure Act (s s' : DS) (i : Nat) (k n : Int) (b : List Int) : Prop where
  inv : Inv s' (i + 1)
  f : s.f ≤ s'.f
  app : k = 0 ∨ k = 1 → s'.l = s.l ∨ s'.l = s.l ++ b
  crash : k = 7 → 0 ≤ n → ∃ M : Nat, M ≤ s.l.length ∧ s'.l = s.l.take M ∧ s'.f = M ∧ s'.out = false
  same : ¬ (k = 0 ∨ k = 1) → ¬ (k = 7 ∧ 0 ≤ n) → s'.l = s.l
theorem act_law {s : DS} {i : Nat} {k n : Int} {b : List Int} (h : Inv s i) (hb : b.length ≤ 200) (hn : n ≤ 9223372036854775807) (h4 : ¬ k = 4) (h8 : ¬ k = 8) : Act s (dAct s k n b) i k n b := by
  unfold dAct
  split
  · rename_i hk
    obtain ⟨a1, a2, a3⟩ := lay_inv false h hb
    exact ⟨a1, by first | omega | (dsimp only; omega), fun _ => a3.imp_right fun h => h.2, fun h7 => by first | omega | (dsimp only; omega), fun hh => absurd hk hh⟩
  rename_i hk
  split
  · obtain ⟨a1, a2, a3⟩ := sync_inv h
    exact ⟨a1, a2, fun hh => absurd hh hk, fun h7 => by first | omega | (dsimp only; omega), fun _ _ => a3⟩
  split
  · obtain ⟨a1, a2, a3⟩ := lay_inv true h hb
    exact ⟨a1, by first | omega | (dsimp only; omega), fun hh => absurd hh hk, fun h7 => by first | omega | (dsimp only; omega), fun _ _ => a3.resolve_right fun hh => by cases hh.1⟩
  split
  · refine ⟨?_, ?_, fun hh => absurd hh hk, fun h7 => by first | omega | (dsimp only; omega), fun _ _ => ?_⟩ <;> unfold dRoom <;> split
    · exact h.up
    · obtain ⟨n0, n1, sz, f0, f1, hu⟩ := h
      exact ⟨n0, by first | omega | (dsimp only; omega), by first | omega | (dsimp only; omega), f0, f1, hu⟩
    · exact Int.le_refl _
    · exact Int.le_refl _
    · rfl
    · rfl
  split
  · refine ⟨?_, ?_, fun hh => absurd hh hk, fun h7 => by first | omega | (dsimp only; omega), fun _ _ => ?_⟩ <;> unfold dFuse <;> split
    · exact h.up
    · rename_i hn0
      obtain ⟨n0, n1, sz, f0, f1, hu⟩ := h
      exact ⟨n0, by first | omega | (dsimp only; omega), by first | omega | (dsimp only; omega), f0, f1, by simp only [fuOk, Bool.and_eq_true, decide_eq_true_eq]; omega⟩
    · exact Int.le_refl _
    · exact Int.le_refl _
    · rfl
    · rfl
  split
  · rename_i h7
    by_cases hn0 : 0 ≤ n
    · obtain ⟨M, m1, m2, m3, m4⟩ := crash_inv h hn0
      refine ⟨m4, ?_, fun hh => absurd hh hk, fun _ _ => ⟨M, m2, ?_, ?_, ?_⟩, fun _ hh => absurd ⟨h7, hn0⟩ hh⟩ <;> rw [m3]
      exact m1
    · have e : (dCrash s n).2 = s := by unfold dCrash; rw [if_pos (by first | omega | (dsimp only; omega))]
      rw [e]
      exact ⟨h.up, Int.le_refl _, fun hh => absurd hh hk, fun _ hh => absurd hh hn0, fun _ _ => rfl⟩
  rename_i h7
  exact ⟨h.up, Int.le_refl _, fun hh => absurd hh hk, fun hh => absurd hh h7, fun _ _ => rfl⟩
/-- An act that is handed in. -/
def actR (r : Int × Int × (List Int × Nat)) : List AV := [.v (.int .i64 r.1), .v (.int .i64 r.2.1), .imn false .u8 r.2.2.1 (some r.2.2.2)]
theorem actR_all (ms : List (Int × Int × (List Int × Nat))) : (ms.map actR).all isA = true := List.all_eq_true.2 fun r hr => by
  obtain ⟨x, _, rfl⟩ := List.mem_map.1 hr
  rfl
theorem actR_N {ms : List (Int × Int × (List Int × Nat))} (h : ∀ r ∈ ms, inK .i64 r.1 = true ∧ inK .i64 r.2.1 = true ∧ (okN .u8 r.2.2.1 ∧ r.2.2.1.length ≤ r.2.2.2 ∧ r.2.2.2 ≤ maxLen)) : ∀ i, i < (ms.map actR).length → aN (atA (ms.map actR) i) ≤ 9223372036854775807 := fun i hi => by
  rw [List.length_map] at hi
  have e : atA (ms.map actR) i = actR ms[i] := by
    rw [atA, List.getElem?_map, List.getElem?_eq_getElem hi]; rfl
  rw [e]
  have := (h _ (List.getElem_mem hi)).2.1
  simp only [inK, Bool.and_eq_true, decide_eq_true_eq] at this
  exact this.2
def osAct : OSpec := fun args bl => match args with
  | [.ptr l 0 9 0, .agg [.v (.int .i64 k), .v (.int .i64 n), .imn false .u8 b c]] => (match findD bl l with
    | some (v1, σ, s) => some (v1 && (numOk s && (decide (b.length ≤ 1000000000) && decide (n ≤ 9223372036854775807))), σ, [.ptr 0 0 9 0, .agg [.v (.int .i64 k), .v (.int .i64 n), .imn false .u8 b c]], layD s, .tup [], layD (dAct s k n b))
    | none => none)
  | _ => none
theorem osAct_ok : ObjOk Try.prog (plOf pls) 25 1 osAct := by
  intro args bl σ args0 bl0 r1 bl1 hs
  unfold osAct at hs
  split at hs
  · rename_i l k n b c
    split at hs
    · rename_i v1 σ' s e
      simp only [Option.some.injEq, Prod.mk.injEq, Bool.and_eq_true, decide_eq_true_eq] at hs
      obtain ⟨⟨rfl, h1, h2, h3⟩, rfl, rfl, rfl, rfl, rfl⟩ := hs
      obtain ⟨a1, a2, a3, a4, a5, a6⟩ := findD_ok e
      exact ⟨act_word s k n false b c h1 h2 h3, ⟨[.ptr 0 0 9 0, .agg [.v (.int .i64 k), .v (.int .i64 n), .imn false .u8 b c]], ⟨_, _, rfl, .inl ⟨by simp [ren, a6], by simp [lvB]; omega⟩, _, _, rfl, .inr rfl, rfl⟩, fun _ _ h => h⟩, a1, a2, a3, a4, a5, layD_one _, rfl, layD_ok _⟩
    · cases hs
  · cases hs
end DF
end Go.Proofs.Ytmdepmhamefheaa
