/- Frames: the word of Join. -/
import Derived.Test.YtlhjbjpcnncndaaFR4
set_option linter.unusedSimpArgs false
set_option linter.unusedVariables false
namespace Go.Proofs.Ytlhjbjpcnncndaa
open Go Go.SY
attribute [local go_sem] Ex stops inK stepF frsF frF itemF codeF condF opsF opsW opF callO drF drO drW drC stepS wtS gdst gdl sopF pv evq orl bltF callF calleeS popF lopF bltP callP cls lvA rdl quiet p_move p_assign p_pick p_nilCheck
attribute [local go_sem] p_binOp p_unOp p_convert p_fieldAddr p_indexAddr p_index p_slice p_makeFunc p_extract p_field p_build p_len p_cap p_min p_max l_load l_convert l_slice zerR roomR appRR roomN appNN cpSrcN clN cpSrc cpR clR e_clear srcR dstR srcN dstN e_store e_alloc e_box e_buildSlice e_makeSlice e_append e_copy
attribute [local go_sem] e_convert SY.get SY.put SY.ev SY.mk SY.nth SY.lvl SY.setl SY.ini wid wids dr tk flat at1 pack parts rdC rdCt wrC wrCt ar bits2 bopInt bopStr bopEq isPtr isSl isBl eqPs eqLf bop pickAV bnd subO cutOf okMx fillA plFs nz
attribute [local go_sem] minI numsAt aOf hd1 hdL immL isArr ctOf rowsOf numsAV rep elCt wrRow killO chR enterS leaveS retS endS exitS gotoS finishS killL isDefs setPs roundS resS resAll tup1 conf0 AV.scal plk spz Ct.cell exq_zero exq_go exq_d exq_n lvCt lvE
attribute [local go_sem] exq_t exq_f exq_t0 exq_f0 List.toList_toArray Bool.and_true Bool.true_and Bool.not_false Bool.not_true List.contains_nil List.contains_cons Bool.or_false Bool.false_or Option.isSome_some Option.isSome_none Option.isNone_none Option.isNone_some true_and and_true Option.some.injEq Bool.false_eq_true List.map_cons List.map_nil List.all_cons List.all_nil Bool.and_self List.drop_succ_cons List.drop_zero List.length_cons List.length_nil List.cons_append List.nil_append Option.map_some Option.map_none List.append_nil Nat.zero_add Nat.add_zero Nat.sub_zero Nat.zero_mul Nat.mul_one
attribute [local go_sem] Int.toNat_natCast Int.toNat_zero Int.toNat_one Int.add_zero Int.sub_zero Int.cast_ofNat_Int decide_true decide_false Option.getD_some Option.getD_none ktB ktX ktOf conK extK ovlK rwz alive alive0 mks noMk lndL lnd lvB lvL lvR lvT tB_tt tB_ft tB_ff okBls shB ren renL renR renCt ne_eq not_false_eq_true not_true_eq_false and_false
attribute [local go_sem] false_and and_self ti0 ti1 ti2 ti3 ti4 ti5 ti6 ti7 ti8 ti9 ti10 ti11 ti12 ti13 ti14 ti15 ti16 ti17 ti18 ti19 ti20 ti21 ti22 ti23 ti24 ti25 ti26 ti27 ti28 ti29 ti30 ti31 ti32 ti33 ti34 ti35 ti36 ti37
attribute [local go_sem] ti38 ti39 ti40 ti41 ti42 ti43 ti44 ti45 ti46 ti47 ti48 ti49 ti50 ti51 ti52 ti53 ti54 ti55 ti56 ti57 ti58 ti59 ti60 ti61 ti62 ti63 ti64 ti65 ti66 ti67 ti68 ti69 ti70 ti71 ti72 ti73 ti74 ti75 ti76 ti77
attribute [local go_sem] ti78 ti79 ti80 ti81 ti82 ti83 ti84 ti85 ti86 ti87 ti88 ti89 ti90 ti91 ti92 ti93 ti94 ti95 ti96 ti97 ti98 ti99 ti100 ti101 ti102 ti103 ti104 regAt fi29 body29 Try.f29 r29_1 r29_3 r29_7 r29_11 r29_19 r29_21 r29_25 r29_29 r29_24
attribute [local go_sem] r29_17 r29_30 plA8 pl8 plA10 pl10 plA11 pl11 plA17 pl17 plA22 pl22 plA25 pl25 plA31 pl31 plA37 pl37 plA45 pl45 plA53 pl53 plA55 pl55
def putE (xs : List Int) : Int := if xs.length = 0 then 2 else if xs.length ≤ 4000 then 0 else 3
def jErr : List (List Int) → Int
  | [] => 0
  | x :: r => if putE x = 0 then jErr r else putE x
def jn (ls : List (List Int)) : List Int := ls.flatMap frm
theorem putV_ok {xs : List Int} (h : putE xs = 0) : putV xs = .tup [.sl 0 0 1 (frm xs).length none, .v (.int .i64 0)] ∧ putL xs = [some (.num .u8 (frm xs))] := by
  unfold putE at h
  unfold putV putL
  split at h
  · cases h
  · rename_i h0
    split at h
    · rename_i h1
      rw [if_neg h0, if_pos h1, if_neg h0, if_pos h1]
      exact ⟨rfl, rfl⟩
    · cases h
theorem putV_bad {xs : List Int} (h : ¬ putE xs = 0) : putV xs = .tup [.nil, .v (.int .i64 (putE xs))] ∧ putL xs = [] := by
  unfold putE at h ⊢
  unfold putV putL
  split
  · rename_i h0
    exact ⟨rfl, rfl⟩
  · rename_i h0
    rw [if_neg h0] at h
    split
    · rename_i h1
      rw [if_pos h1] at h
      exact absurd rfl h
    · exact ⟨rfl, rfl⟩
theorem jErr_app {as1 bs1 : List (List Int)} (h : jErr as1 = 0) : jErr (as1 ++ bs1) = jErr bs1 := by
  induction as1 with
  | nil => rfl
  | cons x r ih =>
    simp only [jErr, List.cons_append] at h ⊢
    split at h
    · rename_i e; rw [if_pos e]; exact ih h
    · rename_i e; exact absurd h e
theorem jn_app {as1 bs1 : List (List Int)} : jn (as1 ++ bs1) = jn as1 ++ jn bs1 := List.flatMap_append
theorem bys_take {rs : List (List AV)} (i : Nat) : bys (rs.take i) = (bys rs).take i := by rw [bys, bys, List.map_take]
theorem bys_succ {rs : List (List AV)} {i : Nat} (h : i < rs.length) : (bys rs).take (i + 1) = (bys rs).take i ++ [byA rs i] := by
  rw [List.take_add_one, bys_get h]
  rfl
theorem jn_take_le {ls : List (List Int)} (i : Nat) : (jn (ls.take i)).length ≤ (jn ls).length := by
  have : jn ls = jn (ls.take i) ++ jn (ls.drop i) := by rw [← jn_app, List.take_append_drop]
  rw [this, List.length_append]
  omega
theorem jn_ge : ∀ {ls : List (List Int)}, 8 * ls.length ≤ (jn ls).length
  | [] => by simp
  | x :: r => by
    have := jn_ge (ls := r)
    have e : jn (x :: r) = frm x ++ jn r := rfl
    rw [e, List.length_append, frm_len, List.length_cons]
    omega
def joinV (ls : List (List Int)) : AV := if jErr ls = 0 then .tup [.sl 0 0 1 (jn ls).length none, .v (.int .i64 0)] else .tup [.nil, .v (.int .i64 (jErr ls))]
def joinL (ls : List (List Int)) : Bls := if jErr ls = 0 then [some (.num .u8 (jn ls))] else []
def kP : KT := ktOf [(25, sPut)]
theorem kP_ok : KOk Try.prog (plOf pls) kP := ktOf_ok plsOk fun x hx => by
  simp only [List.mem_singleton] at hx
  subst hx
  exact put_ok
def tJ (t : Bool) (rs : List (List AV)) (c : Option Nat) (n i : Nat) : TM := [(11, .v (.int .i64 i)), (10, .v (.int .i64 rs.length)), (9, .imr t 1 rs c), (4, .sl 0 0 1 n none)]
theorem tJ_lv {rs : List (List AV)} (hf : FlatR rs) (t : Bool) (c : Option Nat) (n i N : Nat) : lvT (N + 1) true (tJ t rs c n i) = true := by
  cases t <;> simp [tJ, lvT, lvB, tB, hf.lv]
attribute [local go_sem] kP sPut
set_option maxRecDepth 100000 in
set_option maxHeartbeats 4000000 in
theorem join_run (C : Ctx) (hC : C.β.b = []) (t : Bool) (rs : List (List AV)) (c : Option Nat) (hm : rs.all isB = true) (hl : (jn (bys rs)).length ≤ 140737488355328) : Rch Try.prog (plOf pls) C (conf0 29 ⟨28, [.tmp 2, .tmp 3], code29⟩ [.imr t 1 rs c] []) (Res (joinV (bys rs)) (joinL (bys rs))) := by
  have hf := isB_flat hm
  have hge := jn_ge (ls := bys rs)
  rw [bys_len] at hge
  refine ExQ_ok [] 2000 plsOk kP_ok ?_
  simp only [conf0]
  (try rw [exh]); simp (maxSteps := 4000000) only [go_sem, ↓bsplit_true, ↓bsplit_false, ↓reduceIte, Nat.reduceLT, Nat.reduceLeDiff, Nat.reduceEqDiff, Nat.reduceAdd, Nat.reduceSub, Nat.reduceMul, Nat.reduceBEq, Nat.reduceBNe, reduceCtorEq, Int.reduceEq, Int.reduceLT, Int.reduceLE, Int.reduceAdd, Int.reduceSub, Int.reduceMul, Int.reduceToNat, ↓xs29]
  repeat (refine And.intro (a := (_ = true)) (by first | (simp; done) | (simp; omega)) ?_)
  refine Rch.nilsl 4 0 1 .u8 rfl rfl ?_
  refine Rch.loop plsOk ?_
  refine Rch.fit1 hC [0] (bl' := [some (.num .u8 [])]) (tm' := tJ t rs c 0 0) rfl (by decide) rfl ⟨rfl, rfl, congrArg (fun x => AV.imr t 1 x c) (hf.ren _).symm, rfl, trivial⟩ (tJ_lv hf ..) ⟨⟨rfl, rfl⟩, trivial⟩ ?_
  refine loop_ind plsOk (α := {i : Nat // i ≤ rs.length ∧ jErr ((bys rs).take i) = 0}) (fun a => rs.length - a.1) (fun a => tJ t rs c (jn ((bys rs).take a.1)).length a.1) (fun a => [some (.num .u8 (jn ((bys rs).take a.1)))]) (fun _ => Res (joinV (bys rs)) (joinL (bys rs))) ?_ ⟨0, Nat.zero_le _, rfl⟩
  rintro ⟨i, hi, hj⟩ ih
  simp only [tJ] at hi hj ih ⊢
  by_cases h : (i : Int) < rs.length
  · have hi' : i < rs.length := by omega
    have e := isB_row hm hi'
    have hs := bys_succ hi'
    have hle := jn_take_le (ls := bys rs) (i + 1)
    rw [hs, jn_app] at hle
    have hjo : jn [byA rs i] = frm (byA rs i) := List.append_nil _
    rw [hjo] at hle
    by_cases hp : putE (byA rs i) = 0
    · obtain ⟨p1, p2⟩ := putV_ok hp
      have hn : jErr ((bys rs).take (i + 1)) = 0 := by rw [hs, jErr_app hj, jErr, if_pos hp]; rfl
      have hjn : jn ((bys rs).take (i + 1)) = jn ((bys rs).take i) ++ frm (byA rs i) := by rw [hs, jn_app, hjo]
      have hnx := ih ⟨i + 1, by omega, hn⟩ (by simp only; omega)
      simp only [hjn] at hnx
      clear ih
      generalize jn ((bys rs).take i) = ys at *
      generalize frm (byA rs i) = fs at *
      have hle2 : ys.length + fs.length ≤ 140737488355328 := by rw [List.length_append] at hle; omega
      have ht1 : ys.take ys.length = ys := List.take_of_length_le (Nat.le_refl _)
      have ht2 : fs.take fs.length = fs := List.take_of_length_le (Nat.le_refl _)
      refine ExQ_ok [] 2000 plsOk kP_ok ?_
      (try rw [exh]); simp (maxSteps := 4000000) only [h, e, p1, p2, ht1, ht2, List.drop_zero, go_sem, ↓bsplit_true, ↓bsplit_false, ↓reduceIte, Nat.reduceLT, Nat.reduceLeDiff, Nat.reduceEqDiff, Nat.reduceAdd, Nat.reduceSub, Nat.reduceMul, Nat.reduceBEq, Nat.reduceBNe, reduceCtorEq, Int.reduceEq, Int.reduceLT, Int.reduceLE, Int.reduceAdd, Int.reduceSub, Int.reduceMul, Int.reduceToNat, ↓xs29]
      repeat (refine And.intro (a := (_ = true)) (by first | (simp; done) | (simp; omega)) ?_)
      refine Rch.fit1 hC [2] (bl' := [some (.num .u8 (ys ++ fs))]) (tm' := tJ t rs c (ys ++ fs).length (i + 1)) rfl (by decide) rfl ⟨rfl, rfl, congrArg (fun x => AV.imr t 1 x c) (hf.ren _).symm, rfl, trivial⟩ (tJ_lv hf ..) ⟨⟨rfl, rfl⟩, trivial⟩ ?_
      exact hnx
    · obtain ⟨p1, p2⟩ := putV_bad hp
      have hb : jErr (bys rs) = putE (byA rs i) := by
        have : bys rs = (bys rs).take i ++ (bys rs).drop i := (List.take_append_drop ..).symm
        rw [this, jErr_app hj, List.drop_eq_getElem_cons (by rw [bys_len]; exact hi')]
        have e2 := bys_get hi'
        rw [List.getElem?_eq_getElem (by rw [bys_len]; exact hi'), Option.some.injEq] at e2
        rw [e2, jErr, if_neg hp]
      rw [joinV, joinL, hb, if_neg hp, if_neg hp]
      refine ExQ_ok [] 2000 plsOk kP_ok ?_
      (try rw [exh]); simp (maxSteps := 4000000) only [h, e, p1, p2, hp, go_sem, ↓bsplit_true, ↓bsplit_false, ↓reduceIte, Nat.reduceLT, Nat.reduceLeDiff, Nat.reduceEqDiff, Nat.reduceAdd, Nat.reduceSub, Nat.reduceMul, Nat.reduceBEq, Nat.reduceBNe, reduceCtorEq, Int.reduceEq, Int.reduceLT, Int.reduceLE, Int.reduceAdd, Int.reduceSub, Int.reduceMul, Int.reduceToNat, ↓xs29]
      repeat (refine And.intro (a := (_ = true)) (by first | (simp; done) | (simp; omega)) ?_)
      exact ⟨[], List.nodup_nil, rfl, rfl, fun l c h => by simp at h⟩
  · obtain rfl : i = rs.length := by omega
    have ht : (bys rs).take rs.length = bys rs := List.take_of_length_le (by rw [bys_len]; exact Nat.le_refl _)
    rw [ht] at hj ⊢
    rw [joinV, joinL, if_pos hj, if_pos hj]
    clear ih
    refine ExQ_ok [] 2000 plsOk kP_ok ?_
    (try rw [exh]); simp (maxSteps := 4000000) only [h, go_sem, ↓bsplit_true, ↓bsplit_false, ↓reduceIte, Nat.reduceLT, Nat.reduceLeDiff, Nat.reduceEqDiff, Nat.reduceAdd, Nat.reduceSub, Nat.reduceMul, Nat.reduceBEq, Nat.reduceBNe, reduceCtorEq, Int.reduceEq, Int.reduceLT, Int.reduceLE, Int.reduceAdd, Int.reduceSub, Int.reduceMul, Int.reduceToNat, ↓xs29]
    repeat (refine And.intro (a := (_ = true)) (by first | (simp; done) | (simp; omega)) ?_)
    exact ⟨[0], by decide, rfl, rfl, fun l c h => by
      match l, h with
      | 0, h => simp only [List.getElem?_cons_zero, Option.some.injEq] at h; subst h; rfl
      | l + 1, h => simp at h⟩
def sJoin0 : List AV → Option (Bool × AV × Bls)
  | [.imr _ 1 rs _] => some (rs.all isB && decide ((jn (bys rs)).length ≤ 140737488355328), joinV (bys rs), joinL (bys rs))
  | _ => none
theorem join0_ok : SpecOk Try.prog (plOf pls) 29 sJoin0 := by
  refine ⟨_, fi29, fun args r bl1 h => ?_⟩
  unfold sJoin0 at h
  split at h
  · simp only [Option.some.injEq, Prod.mk.injEq, Bool.and_eq_true, decide_eq_true_eq] at h
    obtain ⟨⟨h1, h2⟩, rfl, rfl⟩ := h
    exact ⟨by simp, fun C hC _ => join_run C hC _ _ _ h1 h2⟩
  · cases h
def sJoin (args : List AV) : Option (Bool × AV × Bls) := sJoin0 (mapI (fun _ => nilR 1) 0 args)
theorem join_ok : SpecOk Try.prog (plOf pls) 29 sJoin := join0_ok.weak _ fun _ _ _ _ h => nilR_den _ h
end Go.Proofs.Ytlhjbjpcnncndaa
