/- The laws' kit: bytes that are lent, and whether they are kept. -/
import Derived.Test.YtmdepmhamefheaaKB
set_option linter.unusedSimpArgs false
set_option linter.unusedVariables false
-- FUNCTIONS 40 49 55 19
namespace Go.Proofs.Ytmdepmhamefheaa
open Go Go.SY
namespace KC
def mk4 : List Int := [8, 167, 44, 2]
theorem take_self (xs : List Int) : xs.take xs.length = xs := List.take_of_length_le (Nat.le_refl _)
def sLent : List AV → Option (Bool × AV × Bls)
  | [.imn _ .u8 xs _] => some (decide (xs.length ≤ 1000000000), .sl 0 0 1 xs.length (some (xs.length + 4)), [some (.num .u8 (xs ++ mk4))])
  | _ => none
set_option maxRecDepth 100000 in
set_option maxHeartbeats 4000000 in
theorem lent_run (C : Ctx) (t : Bool) (xs : List Int) (c : Option Nat) (hl : xs.length ≤ 1000000000) : Rch Try.prog (plOf pls) C (conf0 40 ⟨19, [.tmp 2], code40⟩ [.imn t .u8 xs c] []) (Res (.sl 0 0 1 xs.length (some (xs.length + 4))) [some (.num .u8 (xs ++ mk4))]) := by
  have tl := take_self xs
  have t4 : List.take 4 [(8 : Int), 167, 44, 2] = [8, 167, 44, 2] := rfl
  have hlen : (xs ++ [(8 : Int), 167, 44, 2]).length = xs.length + 4 := by simp
  have e4 : ((xs.length : Int) + 4).toNat = xs.length + 4 := by omega
  refine ExQ_ok [] 2000 KB.plsOk KB.noK ?_
  simp only [conf0]
  (try rw [exh]); simp (maxSteps := 4000000) only [List.nil_append, tl, t4, hlen, e4, Int.toNat_natCast, stops, inK, stepF, frsF, frF, itemF, codeF, opsF, opsW, opF, callO, stepS, wtS, sopF, pv, evq, orl, bltF, callF, calleeS, quiet, p_move, p_assign, p_binOp, p_slice, p_len, roomN, appNN, srcN, dstN, e_buildSlice, e_append, SY.get, SY.put, SY.ev, SY.mk, SY.lvl, SY.setl, SY.ini, wid, wids, dr, flat, wrC, ar, bopInt, bop, bnd, cutOf, okMx, fillA, numsAt, numsAV, rep, elCt, killO, srcN, dstN, enterS, leaveS, retS, finishS, killL, isDefs, resS, resAll, tup1, exq_go, ↓reduceIte, Nat.reduceLT, Nat.reduceLeDiff, Nat.reduceEqDiff, Nat.reduceAdd, Nat.reduceSub, Bool.and_true, Bool.true_and, List.contains_nil, Option.isSome_none, reduceCtorEq, true_and, Bool.false_eq_true, List.map_cons, List.map_nil, Bool.and_self, List.drop_zero, List.length_cons, List.length_nil, List.cons_append, List.nil_append, Option.map_some, Option.map_none, List.append_nil, Nat.zero_add, Nat.add_zero, Nat.sub_zero, Nat.mul_one, Int.toNat_natCast, Int.reduceLE, Int.cast_ofNat_Int, decide_true, Option.getD_none, and_false, ti3, ti5, ti22, regAt, fi40, body40, Try.f40, fi55, body55, Try.f55, fi19, body19, Try.f19, ↓exq_cd cd_code19, ↓exq_cd cd_c19_1, ↓exq_cd cd_c19_2, ↓exq_cd cd_c19_3, ↓exq_cd cd_code40, ↓exq_cd cd_c40_1, ↓exq_cd cd_c40_2, ↓exq_cd cd_c40_3, ↓exq_cd cd_c40_4, ↓exq_cd cd_c40_5, ↓exq_cd cd_c40_6, ↓exq_cd cd_c40_7, ↓exq_cd cd_code55, ↓exq_cd cd_c55_1, ↓exq_cd cd_c55_2, ↓exq_cd cd_c55_3, r19_1, r19_3, r40_1, r40_3, r40_5, r40_7, r55_1, r55_3]
  repeat (refine And.intro (a := (_ = true)) (by first | (simp; done) | (simp; omega)) ?_)
  exact ⟨[3], by decide, rfl, rfl, fun l c h => by
    match l, h with
    | 0, h => simp only [List.getElem?_cons_zero, Option.some.injEq] at h; subst h; rfl
    | l + 1, h => simp at h⟩
theorem lent_ok : SpecOk Try.prog (plOf pls) 40 sLent := by
  refine ⟨_, fi40, fun args r bl1 h => ?_⟩
  unfold sLent at h
  split at h
  · simp only [Option.some.injEq, Prod.mk.injEq, decide_eq_true_eq] at h
    obtain ⟨h1, rfl, rfl⟩ := h
    exact ⟨by simp, fun C hC _ => lent_run C _ _ _ h1⟩
  · cases h
def kS : KT := ktOf [(20, KB.sSaB)]
theorem kS_ok : KOk Try.prog (plOf pls) kS := ktOf_ok KB.plsOk fun x hx => by
  simp only [List.mem_singleton] at hx
  subst hx
  exact KB.sameB_ok
set_option maxRecDepth 100000 in
set_option maxHeartbeats 4000000 in
theorem kept_word (b : List Int) (t : Bool) (c : Option Nat) (hb : b.length ≤ 1000000000) : Word Try.prog (plOf pls) 49 [.sl 0 0 1 b.length (some (b.length + 4)), .imn t .u8 b c] [some (.num .u8 (b ++ mk4))] (ObQ 1 (.v (.bool true)) ([some (.num .u8 (b ++ mk4))] ++ [])) := by
  refine ⟨_, fi49, by simp, fun C hC hl => ?_⟩
  have e4 : ((b.length : Int) + 4).toNat = b.length + 4 := by omega
  have h1 : (b ++ [(8 : Int), 167, 44, 2]).length = b.length + 4 := by simp
  have h2 : (b ++ [(8 : Int), 167, 44, 2]).take b.length = b := List.take_left' rfl
  have h3 : (b ++ [(8 : Int), 167, 44, 2]).drop b.length = [8, 167, 44, 2] := List.drop_left' rfl
  have h4 : b.length + 4 - b.length = 4 := by omega
  have t4 : List.take 4 [(8 : Int), 167, 44, 2] = [8, 167, 44, 2] := rfl
  have hz : decide (b = b) = true := decide_eq_true rfl
  have hlt : ¬ ((b.length + 4 : Nat) : Int) < (b.length : Int) + 4 := by omega
  have hz2 : decide ([(8 : Int), 167, 44, 2] = [8, 167, 44, 2]) = true := decide_eq_true rfl
  refine ExQ_ok [] 2000 KB.plsOk kS_ok ?_
  simp only [conf0, mk4]
  (try rw [exh]); simp (maxSteps := 4000000) only [kS, KB.sSaB, KB.sSaB0, mapI, nilN, hlt, e4, h1, h2, h3, h4, t4, Int.toNat_natCast, List.drop_zero, not_true_eq_false, stops, inK, stepF, frsF, frF, itemF, codeF, condF, opsF, opsW, opF, callO, stepS, wtS, gdst, gdl, sopF, pv, evq, orl, bltF, callF, calleeS, quiet, p_move, p_assign, p_pick, p_binOp, p_slice, p_len, p_cap, e_buildSlice, SY.get, SY.put, SY.ev, SY.mk, SY.lvl, SY.ini, wid, wids, dr, flat, wrC, ar, bopInt, bop, pickAV, bnd, subO, cutOf, okMx, fillA, numsAV, rep, elCt, enterS, leaveS, retS, finishS, killL, isDefs, resS, resAll, tup1, exq_go, exq_t, exq_f, ↓reduceIte, Nat.reduceLT, Nat.reduceLeDiff, Nat.reduceEqDiff, Nat.reduceAdd, Nat.reduceSub, Bool.and_true, Bool.true_and, Bool.not_false, Bool.not_true, List.contains_nil, reduceCtorEq, true_and, List.map_cons, List.map_nil, Bool.and_self, List.drop_zero, List.length_cons, List.length_nil, List.cons_append, List.nil_append, Option.map_some, Option.map_none, List.append_nil, Nat.zero_add, Nat.add_zero, Nat.sub_zero, Nat.mul_one, Int.toNat_natCast, Int.reduceLE, Int.cast_ofNat_Int, decide_true, decide_false, Option.getD_some, ktOf, conK, alive, lndL, lnd, lvB, tB_tt, okBls, shB, ren, not_true_eq_false, ti3, ti5, ti22, regAt, fi49, body49, Try.f49, fi55, body55, Try.f55, ↓exq_cd cd_code49, ↓exq_cd cd_c49_1, ↓exq_cd cd_c49_2, ↓exq_cd cd_c49_3, ↓exq_cd cd_c49_4, ↓exq_cd cd_c49_5, ↓exq_cd cd_c49_7, ↓exq_cd cd_c49_8, ↓exq_cd cd_c49_6, ↓exq_cd cd_c49_12, ↓exq_cd cd_c49_13, ↓exq_cd cd_c49_14, ↓exq_cd cd_code55, ↓exq_cd cd_c55_1, ↓exq_cd cd_c55_2, ↓exq_cd cd_c55_3, r49_1, r49_3, r49_7, r49_12, r49_14, r55_1, r55_3]
  repeat (refine And.intro (a := (_ = true)) (by first | (simp; done) | (simp; omega)) ?_)
  exact ObQ.mk [0] (by decide) rfl rfl rfl ⟨rfl, trivial⟩
def keptS : OSpec := fun args bl => match args with
  | [.sl l 0 1 n (some q), y] => (match lvl bl l with
    | some (.num .u8 zs) => (match lnd (killL [l] bl) y with
      | some (v1, .imn t .u8 b c) => some (v1 && (decide (zs = b ++ mk4) && (decide (n = b.length) && (decide (q = b.length + 4) && decide (b.length ≤ 1000000000)))), [l], [.sl 0 0 1 n (some q), .imn t .u8 b c], [some (.num .u8 zs)], .v (.bool true), [])
      | _ => none)
    | _ => none)
  | _ => none
theorem keptS_ok : ReadOk Try.prog (plOf pls) 49 keptS := by
  intro args bl σ args0 bl0 r1 ex hs
  unfold keptS at hs
  split at hs
  · rename_i l n q y
    split at hs
    · rename_i zs hl
      split at hs
      · rename_i v1 t b c e
        simp only [Option.some.injEq, Prod.mk.injEq, Bool.and_eq_true, decide_eq_true_eq] at hs
        obtain ⟨⟨rfl, rfl, rfl, rfl, hb⟩, rfl, rfl, rfl, rfl, rfl⟩ := hs
        have hll : l < bl.length := (List.getElem?_eq_some_iff.1 (lvl_get hl)).1
        refine ⟨kept_word b t c hb, ⟨[.sl 0 0 1 b.length (some (b.length + 4)), .imn t .u8 b c], ⟨_, _, rfl, .inl ⟨by simp [ren, nm], by simp [lvB]⟩, _, _, rfl, .inr e, rfl⟩, fun _ _ h => h⟩, by simp, by simpa using hll, rfl, ⟨⟨by rw [show nm [l] 0 = l from rfl, hl]; rfl, rfl⟩, trivial⟩, fun j x h e => ?_, rfl, rfl, rfl⟩
        subst e
        match j, h with
        | 0, h => cases h
        | j + 1, h => simp at h
      · cases hs
    · cases hs
  · cases hs
/-- Bytes lent and kept, ahead of a table. -/
def kLK (K : KT) : KT := ktW 40 (conK sLent) (ktW 49 (readK keptS) K)
theorem kLK_ok {K : KT} (hK : KOk Try.prog (plOf pls) K) : KOk Try.prog (plOf pls) (kLK K) := ktW_ok (ktW_ok hK (readK_ok KB.plsOk ⟨_, fi49⟩ keptS_ok)) (conK_ok KB.plsOk lent_ok)
end KC
end Go.Proofs.Ytmdepmhamefheaa
