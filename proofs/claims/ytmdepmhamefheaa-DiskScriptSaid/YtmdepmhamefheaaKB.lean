/- The laws' kit: the words of SameBytes, Pick. -/
import Derived.Test.YtmdepmhamefheaaCd
import Derived.Test.YtmdepmhamefheaaPl
import Derived.Test.YtmdepmhamefheaaTi
import Derived.Test.YtmdepmhamefheaaSe
import Derived.KernelRfl
set_option linter.unusedSimpArgs false
set_option linter.unusedVariables false
-- FUNCTIONS 20 13
namespace Go.Proofs.Ytmdepmhamefheaa
open Go Go.SY
namespace KB
theorem plsOk : PlOk Try.prog (plOf pls) := plsB_ok (by kernel_rfl) (by kernel_rfl)
theorem noK : KOk Try.prog (plOf pls) (fun _ => none) := fun g c h => by cases h
theorem toL_loop (bs1 : ByteArray) : ∀ (i : Nat) (acc : List UInt8), ByteArray.toList.loop bs1 i acc = acc.reverse ++ bs1.data.toList.drop i := by
  intro i acc
  fun_induction ByteArray.toList.loop bs1 i acc with
  | case1 i acc h ih =>
    rw [ih]
    have h' : i < bs1.data.toList.length := by rw [Array.length_toList]; exact h
    rw [List.drop_eq_getElem_cons h', List.reverse_cons, List.append_assoc]
    congr 1
    simp only [List.cons_append, List.nil_append, List.cons.injEq, and_true]
    simp [ByteArray.get!, getElem!_pos, h]
  | case2 i acc h =>
    have h' : bs1.data.toList.length ≤ i := by rw [Array.length_toList]; exact Nat.le_of_not_lt h
    rw [List.drop_eq_nil_of_le h', List.append_nil]
theorem toL_eq (bs1 : ByteArray) : bs1.toList = bs1.data.toList := by
  rw [ByteArray.toList, toL_loop]
  rfl
theorem str_inj : ∀ {xs ys : List Int}, okN .u8 xs → okN .u8 ys → (xs.map fun z => UInt8.ofNat z.toNat) = (ys.map fun z => UInt8.ofNat z.toNat) → xs = ys
  | [], [], _, _, _ => rfl
  | [], _ :: _, _, _, h => by simp at h
  | _ :: _, [], _, _, h => by simp at h
  | x :: xs, y :: ys, hx, hy, h => by
    simp only [List.map_cons, List.cons.injEq] at h
    have h1 := hx x (List.mem_cons_self ..)
    have h2 := hy y (List.mem_cons_self ..)
    simp only [inK, Bool.and_eq_true, decide_eq_true_eq] at h1 h2
    have e := congrArg UInt8.toNat h.1
    rw [UInt8.toNat_ofNat_of_lt' (by simp [UInt8.size]; omega), UInt8.toNat_ofNat_of_lt' (by simp [UInt8.size]; omega)] at e
    rw [show x = y by omega, str_inj (fun z hz => hx z (List.mem_cons_of_mem _ hz)) (fun z hz => hy z (List.mem_cons_of_mem _ hz)) h.2]
theorem str_eq {xs ys : List Int} (hx : okN .u8 xs) (hy : okN .u8 ys) : ((strOf xs).toList == (strOf ys).toList) = decide (xs = ys) := by
  rw [toL_eq, toL_eq]
  by_cases h : xs = ys
  · subst h; simp
  · rw [decide_eq_false h]
    simp only [strOf, beq_eq_false_iff_ne, ne_eq]
    exact fun e => h (str_inj hx hy e)
set_option maxRecDepth 100000 in
set_option maxHeartbeats 4000000 in
theorem sameB_run (C : Ctx) (t u : Bool) (xs ys : List Int) (hx : okN .u8 xs) (hy : okN .u8 ys) (c0 d0 : Option Nat) : Rch Try.prog (plOf pls) C (conf0 20 ⟨10, [.tmp 4], code20⟩ [.imn t .u8 xs c0, .imn u .u8 ys d0] []) (Res (.v (.bool (decide (xs = ys)))) []) := by
  refine ExQ_ok [] 2000 plsOk noK ?_
  simp only [conf0]
  (try rw [exh]); simp (maxSteps := 4000000) only [stops, stepF, frsF, frF, itemF, codeF, opsF, opsW, opF, stepS, wtS, sopF, pv, orl, p_move, p_assign, p_binOp, p_convert, l_convert, SY.get, SY.put, SY.ev, SY.mk, SY.ini, bopStr, bop, numsAt, leaveS, retS, killL, isDefs, resS, resAll, tup1, exq_go, ↓reduceIte, Nat.reduceLT, Nat.reduceEqDiff, Nat.reduceAdd, reduceCtorEq, true_and, Nat.zero_add, ti9, ti22, regAt, fi20, body20, Try.f20, ↓exq_cd cd_code20, ↓exq_cd cd_c20_1, ↓exq_cd cd_c20_2, ↓exq_cd cd_c20_3, r20_1, r20_3]
  repeat (refine And.intro (a := (_ = true)) (by first | (simp; done) | (simp; omega)) ?_)
  rw [str_eq hx hy]
  exact Res.val _ _
def sSaB0 : List AV → Option (Bool × AV × Bls)
  | [.imn _ .u8 xs _, .imn _ .u8 ys _] => some (true, .v (.bool (decide (xs = ys))), [])
  | _ => none
theorem sameB0_ok : SpecOk Try.prog (plOf pls) 20 sSaB0 := by
  refine ⟨_, fi20, fun args r bl1 h => ?_⟩
  unfold sSaB0 at h
  split at h
  · rename_i t xs c u ys d
    simp only [Option.some.injEq, Prod.mk.injEq, true_and] at h
    obtain ⟨rfl, rfl⟩ := h
    refine ⟨by simp, fun C hC _ => ?_⟩
    refine Rch.len 0 (t := t) (kk := .u8) (xs := xs) (c := c) rfl rfl fun hl hx => ?_
    refine Rch.len 1 (t := u) (kk := .u8) (xs := ys) (c := d) rfl rfl fun hl hy => ?_
    refine Rch.fit1 hC [] (tm' := ini 0 [.imn t .u8 xs c, .imn u .u8 ys d]) (bl' := []) rfl (by decide) rfl ⟨rfl, rfl, trivial⟩ (by cases t <;> cases u <;> rfl) trivial ?_
    exact sameB_run C t u xs ys hx hy c d
  · cases h
def sSaB (args : List AV) : Option (Bool × AV × Bls) := sSaB0 (mapI (fun _ => nilN .u8) 0 args)
theorem sameB_ok : SpecOk Try.prog (plOf pls) 20 sSaB := sameB0_ok.weak _ fun _ _ _ _ h => nilN_den _ h
def kpick (x n : Int) : Int := if n < 1 then 0 else if x.tmod n < 0 then x.tmod n + n else x.tmod n
def sPick : List AV → Option (Bool × AV × Bls)
  | [.v (.int .i64 x), .v (.int .i64 n)] => some (decide (n ≤ 9223372036854775807), .v (.int .i64 (kpick x n)), [])
  | _ => none
set_option maxRecDepth 100000 in
set_option maxHeartbeats 4000000 in
theorem pick_run (C : Ctx) (x n : Int) (hn : n ≤ 9223372036854775807) : Rch Try.prog (plOf pls) C (conf0 13 ⟨16, [.tmp 4], code13⟩ [.v (.int .i64 x), .v (.int .i64 n)] []) (Res (.v (.int .i64 (kpick x n))) []) := by
  refine ExQ_ok [] 2000 plsOk noK ?_
  simp only [conf0]
  by_cases h : n < 1
  · (try rw [exh]); simp (maxSteps := 4000000) only [h, stops, inK, stepF, frsF, frF, itemF, codeF, condF, opsF, opsW, opF, stepS, wtS, sopF, pv, p_move, p_assign, p_binOp, SY.get, SY.put, SY.ev, SY.mk, SY.ini, bopInt, bop, leaveS, retS, killL, isDefs, resS, resAll, tup1, exq_go, exq_t, ↓reduceIte, Nat.reduceLT, Nat.reduceEqDiff, Nat.reduceAdd, reduceCtorEq, true_and, Bool.and_self, Nat.zero_add, Int.reduceLE, decide_true, ti3, regAt, fi13, body13, Try.f13, ↓exq_cd cd_code13, ↓exq_cd cd_c13_1, ↓exq_cd cd_c13_2, ↓exq_cd cd_c13_3, ↓exq_cd cd_c13_5, ↓exq_cd cd_c13_6, ↓exq_cd cd_c13_7, ↓exq_cd cd_c13_9, r13_1, r13_5, r13_9]
    repeat (refine And.intro (a := (_ = true)) (by first | (simp; done) | (simp; omega)) ?_)
    rw [kpick, if_pos h]
    exact Res.val _ _
  · have g1 := Int.lt_tmod_of_pos x (b := n) (by omega)
    have g2 := Int.tmod_lt_of_pos x (b := n) (by omega)
    by_cases h2 : x.tmod n < 0
    · (try rw [exh]); simp (maxSteps := 4000000) only [h, h2, stops, inK, stepF, frsF, frF, itemF, codeF, condF, opsF, opsW, opF, stepS, wtS, sopF, pv, p_move, p_assign, p_binOp, SY.get, SY.put, SY.ev, SY.mk, SY.ini, ar, bopInt, bop, leaveS, retS, killL, isDefs, resS, resAll, tup1, exq_go, exq_t, exq_f, ↓reduceIte, Nat.reduceLT, Nat.reduceEqDiff, Nat.reduceAdd, reduceCtorEq, true_and, Bool.and_self, Nat.zero_add, Int.reduceLE, decide_true, decide_false, ne_eq, ti3, regAt, fi13, body13, Try.f13, ↓exq_cd cd_code13, ↓exq_cd cd_c13_1, ↓exq_cd cd_c13_2, ↓exq_cd cd_c13_3, ↓exq_cd cd_c13_5, ↓exq_cd cd_c13_6, ↓exq_cd cd_c13_4, ↓exq_cd cd_c13_10, ↓exq_cd cd_c13_11, ↓exq_cd cd_c13_12, ↓exq_cd cd_c13_14, ↓exq_cd cd_c13_15, ↓exq_cd cd_c13_16, ↓exq_cd cd_c13_13, ↓exq_cd cd_c13_18, r13_1, r13_5, r13_10, r13_14, r13_16, r13_18]
      repeat (refine And.intro (a := (_ = true)) (by first | (simp; done) | (simp; omega)) ?_)
      rw [kpick, if_neg h, if_pos h2]
      exact Res.val _ _
    · (try rw [exh]); simp (maxSteps := 4000000) only [h, h2, stops, inK, stepF, frsF, frF, itemF, codeF, condF, opsF, opsW, opF, stepS, wtS, sopF, pv, p_move, p_assign, p_binOp, SY.get, SY.put, SY.ev, SY.mk, SY.ini, bopInt, bop, leaveS, retS, killL, isDefs, resS, resAll, tup1, exq_go, exq_f, ↓reduceIte, Nat.reduceLT, Nat.reduceEqDiff, Nat.reduceAdd, reduceCtorEq, true_and, Bool.and_self, Nat.zero_add, Int.reduceLE, decide_true, decide_false, ne_eq, ti3, regAt, fi13, body13, Try.f13, ↓exq_cd cd_code13, ↓exq_cd cd_c13_1, ↓exq_cd cd_c13_2, ↓exq_cd cd_c13_3, ↓exq_cd cd_c13_5, ↓exq_cd cd_c13_6, ↓exq_cd cd_c13_4, ↓exq_cd cd_c13_10, ↓exq_cd cd_c13_11, ↓exq_cd cd_c13_12, ↓exq_cd cd_c13_14, ↓exq_cd cd_c13_15, ↓exq_cd cd_c13_13, ↓exq_cd cd_c13_18, r13_1, r13_5, r13_10, r13_14, r13_18]
      repeat (refine And.intro (a := (_ = true)) (by first | (simp; done) | (simp; omega)) ?_)
      rw [kpick, if_neg h, if_neg h2]
      exact Res.val _ _
theorem pick_ok : SpecOk Try.prog (plOf pls) 13 sPick := by
  refine ⟨_, fi13, fun args r bl1 h => ?_⟩
  unfold sPick at h
  split at h
  · simp only [Option.some.injEq, Prod.mk.injEq, decide_eq_true_eq] at h
    obtain ⟨h1, rfl, rfl⟩ := h
    exact ⟨by simp, fun C _ _ => pick_run C _ _ h1⟩
  · cases h
theorem pick_lt (x : Int) {n : Nat} (h : 1 ≤ n) : ∃ k : Nat, k < n ∧ kpick x n = (k : Int) := by
  have g1 := Int.lt_tmod_of_pos x (b := (n : Int)) (by omega)
  have g2 := Int.tmod_lt_of_pos x (b := (n : Int)) (by omega)
  refine ⟨(kpick x n).toNat, ?_, ?_⟩ <;> (unfold kpick; split <;> (try split) <;> omega)
def IsT (r : AV) (_ : Bls) : Prop := r = .v (.bool true)
theorem btt : (true == true) = true := rfl
theorem bff : (false == false) = true := rfl
end KB
end Go.Proofs.Ytmdepmhamefheaa
