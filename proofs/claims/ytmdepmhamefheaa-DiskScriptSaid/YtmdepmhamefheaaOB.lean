/- Bytes written over: OverBytes' word. -/
import Derived.Test.YtmdepmhamefheaaCd
import Derived.Test.YtmdepmhamefheaaPl
import Derived.Test.YtmdepmhamefheaaTi
import Derived.Test.YtmdepmhamefheaaSe
import Derived.KernelRfl
set_option linter.unusedSimpArgs false
set_option linter.unusedVariables false
-- FUNCTIONS 50
namespace Go.Proofs.Ytmdepmhamefheaa
open Go Go.SY
namespace OB
theorem plsOk : PlOk Try.prog (plOf pls) := plsB_ok (by kernel_rfl) (by kernel_rfl)
theorem noK : KOk Try.prog (plOf pls) (fun _ => none) := fun g c h => by cases h
def tO (q i : Nat) : TM := [(2, .v (.int .i64 i)), (0, .sl 0 0 1 q (some q))]
theorem over8 {z : Int} (h : inK .u8 z = true) : inK .u8 (IntKind.u8.wrap (255 - z)) = true := inK_wrap _ _
set_option maxRecDepth 100000 in
set_option maxHeartbeats 4000000 in
theorem over_sl (xs : List Int) (n : Nat) : Word Try.prog (plOf pls) 50 [.sl 0 0 1 n none] [some (.num .u8 xs)] (OvQ .u8) := by
  refine ⟨_, fi50, by simp, fun C hb hC => ?_⟩
  refine Rch.cap 0 rfl rfl fun q hq hq2 => ?_
  refine Rch.whole 0 rfl rfl rfl fun ws hok hqq => ?_
  have hq3 : q ≤ (xs ++ ws).length := by omega
  generalize xs ++ ws = zs0 at hok hqq hq3
  refine ExQ_ok [] 2000 plsOk noK ?_
  simp only [conf0]
  (try rw [exh]); simp (maxSteps := 4000000) only [stops, inK, stepF, frsF, frF, itemF, codeF, opsF, opsW, opF, wtS, sopF, pv, orl, bltF, callF, p_move, p_assign, p_slice, p_cap, SY.get, SY.put, SY.ev, SY.mk, SY.setl, SY.ini, bnd, subO, cutOf, okMx, exq_go, ↓reduceIte, Nat.reduceLT, Nat.reduceEqDiff, Nat.reduceAdd, Bool.true_and, reduceCtorEq, true_and, Bool.and_self, Option.map_some, Option.map_none, Nat.add_zero, Nat.sub_zero, Int.toNat_natCast, Int.reduceLE, decide_true, Option.getD_some, ti22, regAt, body50, Try.f50, ↓exq_cd cd_code50, ↓exq_cd cd_c50_1, ↓exq_cd cd_c50_2, ↓exq_cd cd_c50_3, ↓exq_cd cd_c50_4, ↓exq_cd cd_c50_5, r50_1, r50_3]
  repeat (refine And.intro (a := (_ = true)) (by first | (simp; done) | (simp; omega)) ?_)
  refine Rch.loop plsOk ?_
  refine Rch.fit1K hC [0] rfl (tm' := tO q 0) (bl' := [some (.num .u8 zs0)]) rfl (by decide) rfl ⟨rfl, rfl, trivial⟩ rfl ⟨⟨rfl, rfl⟩, trivial⟩ ?_
  refine loop_ind plsOk (α := {a : Nat × List Int // a.1 ≤ q ∧ okN .u8 a.2 ∧ q ≤ a.2.length}) (fun a => q - a.1.1) (fun a => tO q a.1.1) (fun a => [some (.num .u8 a.1.2)]) (fun _ => OvQ .u8) ?_ ⟨(0, zs0), Nat.zero_le _, hok, hq3⟩
  rintro ⟨⟨i, zs⟩, hi, hk, hl⟩ ih
  simp only [tO] at hi hk hl ih ⊢
  by_cases h : (i : Int) < q
  · have hz : inK .u8 (zs[i]?.getD 0) = true := hk _ (by rw [List.getElem?_eq_getElem (show i < zs.length by omega)]; exact List.getElem_mem _)
    have hz2 := hz
    simp only [inK, Bool.and_eq_true, decide_eq_true_eq] at hz2
    obtain ⟨hz1, hz3⟩ := hz2
    refine ExQ_ok [] 2000 plsOk noK ?_
    (try rw [exh]); simp (maxSteps := 4000000) only [h, stops, inK, stepF, frsF, frF, itemF, codeF, condF, opsF, opsW, opF, wtS, sopF, pv, evq, bltF, callF, quiet, p_move, p_assign, p_binOp, p_indexAddr, p_len, l_load, e_store, SY.get, SY.put, SY.ev, SY.mk, SY.lvl, SY.setl, rdCt, wrCt, ar, bopInt, bop, exq_go, exq_t, ↓reduceIte, Nat.reduceLT, Nat.reduceEqDiff, Nat.reduceAdd, Bool.and_true, reduceCtorEq, true_and, Bool.and_self, Nat.zero_add, Int.toNat_natCast, Int.reduceLE, decide_true, ti3, ti5, ti22, regAt, body50, Try.f50, ↓exq_cd cd_c50_6, ↓exq_cd cd_c50_7, ↓exq_cd cd_c50_9, ↓exq_cd cd_c50_10, ↓exq_cd cd_c50_8, ↓exq_cd cd_c50_12, ↓exq_cd cd_c50_14, ↓exq_cd cd_c50_13, r50_9, r50_14, r50_13]
    repeat (refine And.intro (a := (_ = true)) (by first | (simp; done) | (simp; omega)) ?_)
    refine Rch.fit1K hC [0] rfl (tm' := tO q (i + 1)) (bl' := [some (.num .u8 (zs.set i _))]) rfl (by decide) rfl ⟨rfl, rfl, trivial⟩ rfl ⟨⟨rfl, rfl⟩, trivial⟩ ?_
    exact ih ⟨(i + 1, _), by simp only; omega, fun x hx => by
      rcases List.mem_or_eq_of_mem_set hx with h1 | rfl
      · exact hk x h1
      · first | exact inK_wrap _ _ | (simp only [inK, Bool.and_eq_true, decide_eq_true_eq]; omega), by simp only [List.length_set]; omega⟩ (by simp only; omega)
  · refine ExQ_ok [] 2000 plsOk noK ?_
    (try rw [exh]); simp (maxSteps := 4000000) only [h, stops, stepF, frsF, frF, itemF, codeF, condF, opsF, opsW, opF, stepS, wtS, sopF, pv, bltF, callF, p_move, p_binOp, p_len, SY.get, SY.put, SY.ev, bopInt, bop, leaveS, retS, exitS, killL, isDefs, resS, resAll, tup1, exq_go, exq_f, ↓reduceIte, Nat.reduceLT, Nat.reduceEqDiff, Nat.reduceAdd, reduceCtorEq, true_and, decide_false, ti3, ti22, regAt, fi50, body50, Try.f50, ↓exq_cd cd_c50_6, ↓exq_cd cd_c50_7, ↓exq_cd cd_c50_9, ↓exq_cd cd_c50_10, r50_9]
    repeat (refine And.intro (a := (_ = true)) (by first | (simp; done) | (simp; omega)) ?_)
    exact ⟨rfl, _, rfl⟩
set_option maxRecDepth 100000 in
set_option maxHeartbeats 4000000 in
theorem over_nil : Word Try.prog (plOf pls) 50 [.nil] [] (fun r bl' => r = .tup [] ∧ bl' = []) := by
  refine ⟨_, fi50, by simp, fun C hb hC => ?_⟩
  refine ExQ_ok [] 2000 plsOk noK ?_
  simp only [conf0]
  (try rw [exh]); simp (maxSteps := 4000000) only [stops, inK, stepF, frsF, frF, itemF, codeF, opsF, opsW, opF, wtS, sopF, pv, orl, bltF, callF, p_move, p_assign, p_slice, p_cap, SY.get, SY.put, SY.ev, SY.mk, SY.ini, bnd, subO, cutOf, okMx, exq_go, ↓reduceIte, Nat.reduceLT, Nat.reduceLeDiff, Nat.reduceEqDiff, Nat.reduceAdd, reduceCtorEq, true_and, Bool.and_self, Option.map_some, Option.map_none, Nat.sub_zero, Int.toNat_zero, Int.reduceLE, decide_true, Option.getD_some, ti22, regAt, body50, Try.f50, ↓exq_cd cd_code50, ↓exq_cd cd_c50_1, ↓exq_cd cd_c50_2, ↓exq_cd cd_c50_3, ↓exq_cd cd_c50_4, ↓exq_cd cd_c50_5, r50_1, r50_3]
  repeat (refine And.intro (a := (_ = true)) (by first | (simp; done) | (simp; omega)) ?_)
  refine Rch.loop plsOk ?_
  refine ExQ_ok [] 2000 plsOk noK ?_
  (try rw [exh]); simp (maxSteps := 4000000) only [stops, stepF, frsF, frF, itemF, codeF, condF, opsF, opsW, opF, stepS, wtS, sopF, pv, bltF, callF, p_move, p_binOp, p_len, SY.get, SY.put, SY.ev, bopInt, bop, leaveS, retS, exitS, killL, isDefs, resS, resAll, tup1, exq_go, exq_f, ↓reduceIte, Nat.reduceLT, Nat.reduceEqDiff, Nat.reduceAdd, reduceCtorEq, Int.reduceLT, decide_false, and_self, ti3, ti22, regAt, fi50, body50, Try.f50, ↓exq_cd cd_c50_6, ↓exq_cd cd_c50_7, ↓exq_cd cd_c50_9, ↓exq_cd cd_c50_10, r50_9]
theorem overB_ok : OverOk Try.prog (plOf pls) 50 .u8 := ⟨over_sl, over_nil⟩
/-- OverBytes ahead of a table. -/
def kOvB (K : KT) : KT := ktW 50 (overK .u8) K
theorem kOvB_ok {K : KT} (hK : KOk Try.prog (plOf pls) K) : KOk Try.prog (plOf pls) (kOvB K) := ktW_ok hK (overK_ok plsOk overB_ok ⟨_, fi50⟩)
end OB
end Go.Proofs.Ytmdepmhamefheaa
