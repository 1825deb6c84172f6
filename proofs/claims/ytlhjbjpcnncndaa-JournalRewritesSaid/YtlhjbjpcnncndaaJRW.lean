/- JournalRewrites: its walk. -/
import Derived.Test.YtlhjbjpcnncndaaJC2
set_option linter.unusedSimpArgs false
set_option linter.unusedVariables false
namespace Go.Proofs.Ytlhjbjpcnncndaa
open Go Go.SY
namespace JRW
open DW JW JL JC
set_option maxRecDepth 100000 in
theorem awake_run : runX Try.prog kTab pls pts [] 20000 7 [] = true := by kernel_rfl
def kC1 : KT := ktOf [(7, specT), (19, sFin0), (17, sSam), (20, KB.sPick)]
theorem kC1_ok : KOk Try.prog (plOf pls) kC1 := ktOf_ok plsOk fun x hx => by
  simp only [List.mem_cons, List.not_mem_nil, or_false] at hx
  rcases hx with rfl | rfl | rfl | rfl
  · exact spec_true plsOk kTab_ok awake_run
  · exact fine_ok
  · exact same_ok
  · exact KB.pick_ok
def kJR : KT := kAll (ktW 21 (conK sLaid) kC1)
theorem kJR_ok : KOk Try.prog (plOf pls) kJR := kAll_ok (ktW_ok kC1_ok (specW_ok plsOk laid_ok))
theorem fin_fit {rs : List (List AV)} (h : finB rs = true) (hok : ∀ x ∈ bys rs, okN .u8 x) : rs.length ≤ 20 ∧ (∀ x ∈ bys rs, Fit x) ∧ (∀ x ∈ bys rs, x.length ≤ 200) ∧ (jn (bys rs)).length ≤ 4160 := by
  simp only [finB, Bool.and_eq_true, List.all_eq_true, decide_eq_true_eq] at h
  obtain ⟨h1, h2⟩ := h
  refine ⟨h1, fun x hx => ⟨hok x hx, (h2 x hx).1, by have := (h2 x hx).2; omega⟩, fun x hx => (h2 x hx).2, ?_⟩
  have h3 := jn_small (ls := bys rs) fun y hy => (h2 y hy).2
  rw [bys_len] at h3
  omega
theorem rw_burnt {lg os : List Int} {ys us : List (List AV)} {ff m q : Int} (hj : jErr (bys us) = 0) (hx : jn (bys us) = os) (h1 : lg.length ≤ 5000) (h2 : os.length ≤ 5000) (hq : q = 0 ∨ q = 1) : ∃ m', m ≤ m' ∧ m' ≤ m + 2 ∧ jRw ⟨lg, ff, [], 0, 1000000, m, some q, false⟩ ys us = (11, ⟨lg, ff, os, 0, 1000000, m', some 0, true⟩, ys) := by
  rw [jRw, if_pos hj, hx]
  rcases hq with rfl | rfl
  · refine ⟨m + 1, by omega, by omega, ?_⟩
    have e1 : dLay true ⟨lg, ff, [], 0, 1000000, m, some 0, false⟩ os = (11, ⟨lg, ff, os, 0, 1000000, m + 1, some 0, true⟩) := by
      rw [dLay, if_neg (by simp), if_neg (by simp only [List.length_nil]; omega)]
      rfl
    rw [e1]
    rfl
  · refine ⟨m + 2, by omega, by omega, ?_⟩
    have e1 : dLay true ⟨lg, ff, [], 0, 1000000, m, some 1, false⟩ os = (0, ⟨lg, ff, os, 0, 1000000, m + 1, some 0, false⟩) := by
      rw [dLay, if_neg (by simp), if_neg (by simp only [List.length_nil]; omega)]
      rfl
    have e2 : dSwitch ⟨lg, ff, os, 0, 1000000, m + 1, some 0, false⟩ = (11, ⟨lg, ff, os, 0, 1000000, m + 2, some 0, true⟩) := by
      rw [dSwitch, if_neg (by simp)]
      simp only [if_true, Prod.mk.injEq, true_and, DS.mk.injEq, and_true]
      omega
    rw [e1]
    simp only [if_true, e2]
    rfl
theorem rw_done {lg os : List Int} {ys us : List (List AV)} {ff m q : Int} (hj : jErr (bys us) = 0) (hx : jn (bys us) = os) (h1 : lg.length ≤ 5000) (h2 : os.length ≤ 5000) (hq : 2 ≤ q) : jRw ⟨lg, ff, [], 0, 1000000, m, some q, false⟩ ys us = (0, ⟨os, (os.length : Nat), [], 0, 1000000, m + 2, some (q - 2), false⟩, (bys us).map rwN) := by
  rw [jRw, if_pos hj, hx]
  have e1 : dLay true ⟨lg, ff, [], 0, 1000000, m, some q, false⟩ os = (0, ⟨lg, ff, os, 0, 1000000, m + 1, some (q - 1), false⟩) := by
    rw [dLay, if_neg (by simp), if_neg (by simp only [List.length_nil]; omega)]
    simp only [show ¬ q = 0 by omega, if_false]
    rfl
  have e2 : dSwitch ⟨lg, ff, os, 0, 1000000, m + 1, some (q - 1), false⟩ = (0, ⟨os, (os.length : Nat), [], 0, 1000000, m + 2, some (q - 2), false⟩) := by
    rw [dSwitch, if_neg (by simp)]
    simp only [show ¬ q - 1 = 0 by omega, if_false, Prod.mk.injEq, true_and, DS.mk.injEq, and_true, Option.some.injEq]
    omega
  rw [e1]
  simp only [if_true, e2]
end JRW
end Go.Proofs.Ytlhjbjpcnncndaa
