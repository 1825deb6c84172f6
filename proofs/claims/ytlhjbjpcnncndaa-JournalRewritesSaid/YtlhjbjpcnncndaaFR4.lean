/- Frames: the words of SameBytes, same, Size. -/
import Derived.Test.YtlhjbjpcnncndaaFR3
import Derived.Test.YtlhjbjpcnncndaaSe
set_option linter.unusedSimpArgs false
set_option linter.unusedVariables false
namespace Go.Proofs.Ytlhjbjpcnncndaa
open Go Go.SY
attribute [local go_sem] Ex stops inK stepF frsF frF itemF codeF condF opsF opsW opF callO drF drO drW drC stepS wtS gdst gdl sopF pv evq orl bltF callF calleeS popF lopF bltP callP cls lvA rdl quiet p_move p_assign p_pick p_nilCheck
attribute [local go_sem] p_binOp p_unOp p_convert p_fieldAddr p_indexAddr p_index p_slice p_makeFunc p_extract p_field p_build p_len p_cap p_min p_max l_load l_convert l_slice zerR roomR appRR roomN appNN cpSrcN clN cpSrc cpR clR e_clear srcR dstR srcN dstN e_store e_alloc e_box e_buildSlice e_makeSlice e_append e_copy
attribute [local go_sem] e_convert SY.get SY.put SY.ev SY.mk SY.nth SY.lvl SY.setl SY.ini wid wids dr tk flat at1 pack parts rdC rdCt wrC wrCt ar bits2 bopInt bopStr bopEq isPtr isSl isBl eqPs eqLf bop pickAV bnd subO cutOf okMx fillA plFs nz
attribute [local go_sem] minI numsAt aOf hd1 hdL immL isArr ctOf rowsOf numsAV rep elCt wrRow killO chR enterS leaveS retS endS exitS gotoS finishS killL isDefs setPs roundS resS resAll tup1 conf0 AV.scal plk spz Ct.cell exq_zero exq_go exq_d exq_n lvCt lvE
attribute [local go_sem] exq_t exq_f exq_t0 exq_f0 List.toList_toArray Bool.and_true Bool.true_and Bool.not_false Bool.not_true List.contains_nil List.contains_cons Bool.or_false Bool.false_or Option.isSome_some Option.isSome_none Option.isNone_none Option.isNone_some true_and and_true Option.some.injEq Bool.false_eq_true List.map_cons List.map_nil List.all_cons List.all_nil Bool.and_self List.drop_succ_cons List.drop_zero List.length_cons List.length_nil List.cons_append List.nil_append Option.map_some Option.map_none List.append_nil Nat.zero_add Nat.add_zero Nat.sub_zero Nat.zero_mul Nat.mul_one
attribute [local go_sem] Int.toNat_natCast Int.toNat_zero Int.toNat_one Int.add_zero Int.sub_zero Int.cast_ofNat_Int decide_true decide_false Option.getD_some Option.getD_none ktB ktX ktOf conK extK ovlK rwz alive alive0 mks noMk lndL lnd lvB lvL lvR lvT tB_tt tB_ft tB_ff okBls shB ren renL renR renCt ne_eq not_false_eq_true not_true_eq_false and_false
attribute [local go_sem] false_and and_self ti0 ti1 ti2 ti3 ti4 ti5 ti6 ti7 ti8 ti9 ti10 ti11 ti12 ti13 ti14 ti15 ti16 ti17 ti18 ti19 ti20 ti21 ti22 ti23 ti24 ti25 ti26 ti27 ti28 ti29 ti30 ti31 ti32 ti33 ti34 ti35 ti36 ti37
attribute [local go_sem] ti38 ti39 ti40 ti41 ti42 ti43 ti44 ti45 ti46 ti47 ti48 ti49 ti50 ti51 ti52 ti53 ti54 ti55 ti56 ti57 ti58 ti59 ti60 ti61 ti62 ti63 ti64 ti65 ti66 ti67 ti68 ti69 ti70 ti71 ti72 ti73 ti74 ti75 ti76 ti77
attribute [local go_sem] ti78 ti79 ti80 ti81 ti82 ti83 ti84 ti85 ti86 ti87 ti88 ti89 ti90 ti91 ti92 ti93 ti94 ti95 ti96 ti97 ti98 ti99 ti100 ti101 ti102 ti103 ti104 regAt fi39 body39 Try.f39 fi17 body17 Try.f17 fi49 body49 Try.f49 fi42 body42 Try.f42
attribute [local go_sem] r17_1 r17_5 r17_9 r17_12 r17_18 r17_24 r17_28 r17_22 r17_29 r39_1 r39_3 r42_1 r42_3 r49_1 r49_5 r49_9 r49_10 plA8 pl8 plA10 pl10 plA11 pl11 plA17 pl17 plA22 pl22 plA25 pl25 plA31 pl31 plA37 pl37 plA45 pl45 plA53 pl53 plA55 pl55
theorem toL_loop (bs1 : ByteArray) : ∀ (i : Nat) (acc : List UInt8), ByteArray.toList.loop bs1 i acc = acc.reverse ++ bs1.data.toList.drop i := by
  intro i acc
  fun_induction ByteArray.toList.loop bs1 i acc with
  | case1 i acc h ih =>
    rw [ih]
    have h' : i < bs1.data.toList.length := by rw [Array.length_toList]; exact h
    rw [List.drop_eq_getElem_cons h', List.reverse_cons, List.append_assoc]
    congr 1
    simp only [List.cons_append, List.nil_append, List.cons.injEq, and_true]
    simp [ByteArray.get!, getElem!_pos, h]
  | case2 i acc h =>
    have h' : bs1.data.toList.length ≤ i := by rw [Array.length_toList]; exact Nat.le_of_not_lt h
    rw [List.drop_eq_nil_of_le h', List.append_nil]
theorem toL_eq (bs1 : ByteArray) : bs1.toList = bs1.data.toList := by
  rw [ByteArray.toList, toL_loop]
  rfl
theorem str_inj : ∀ {xs ys : List Int}, okN .u8 xs → okN .u8 ys → (xs.map fun z => UInt8.ofNat z.toNat) = (ys.map fun z => UInt8.ofNat z.toNat) → xs = ys
  | [], [], _, _, _ => rfl
  | [], _ :: _, _, _, h => by simp at h
  | _ :: _, [], _, _, h => by simp at h
  | x :: xs, y :: ys, hx, hy, h => by
    simp only [List.map_cons, List.cons.injEq] at h
    have h1 := hx x (List.mem_cons_self ..)
    have h2 := hy y (List.mem_cons_self ..)
    simp only [inK, Bool.and_eq_true, decide_eq_true_eq] at h1 h2
    have e := congrArg UInt8.toNat h.1
    rw [UInt8.toNat_ofNat_of_lt' (by simp [UInt8.size]; omega), UInt8.toNat_ofNat_of_lt' (by simp [UInt8.size]; omega)] at e
    rw [show x = y by omega, str_inj (fun z hz => hx z (List.mem_cons_of_mem _ hz)) (fun z hz => hy z (List.mem_cons_of_mem _ hz)) h.2]
theorem str_eq {xs ys : List Int} (hx : okN .u8 xs) (hy : okN .u8 ys) : ((strOf xs).toList == (strOf ys).toList) = decide (xs = ys) := by
  rw [toL_eq, toL_eq]
  by_cases h : xs = ys
  · subst h; simp
  · rw [decide_eq_false h]
    simp only [strOf, beq_eq_false_iff_ne, ne_eq]
    exact fun e => h (str_inj hx hy e)
set_option maxRecDepth 100000 in
set_option maxHeartbeats 4000000 in
theorem sameB_run (C : Ctx) (t u : Bool) (xs ys : List Int) (hx : okN .u8 xs) (hy : okN .u8 ys) (c0 d0 : Option Nat) : Rch Try.prog (plOf pls) C (conf0 39 ⟨10, [.tmp 4], code39⟩ [.imn t .u8 xs c0, .imn u .u8 ys d0] []) (Res (.v (.bool (decide (xs = ys)))) []) := by
  refine ExQ_ok [] 2000 plsOk noK ?_
  simp only [conf0]
  (try rw [exh]); simp (maxSteps := 4000000) only [go_sem, ↓bsplit_true, ↓bsplit_false, ↓reduceIte, Nat.reduceLT, Nat.reduceLeDiff, Nat.reduceEqDiff, Nat.reduceAdd, Nat.reduceSub, Nat.reduceMul, Nat.reduceBEq, Nat.reduceBNe, reduceCtorEq, Int.reduceEq, Int.reduceLT, Int.reduceLE, Int.reduceAdd, Int.reduceSub, Int.reduceMul, Int.reduceToNat, ↓xs17, ↓xs39, ↓xs42, ↓xs49]
  repeat (refine And.intro (a := (_ = true)) (by first | (simp; done) | (simp; omega)) ?_)
  rw [str_eq hx hy]
  exact Res.val _ _
def sSaB0 : List AV → Option (Bool × AV × Bls)
  | [.imn _ .u8 xs _, .imn _ .u8 ys _] => some (true, .v (.bool (decide (xs = ys))), [])
  | _ => none
theorem sameB0_ok : SpecOk Try.prog (plOf pls) 39 sSaB0 := by
  refine ⟨_, fi39, fun args r bl1 h => ?_⟩
  unfold sSaB0 at h
  split at h
  · rename_i t xs c u ys d
    simp only [Option.some.injEq, Prod.mk.injEq, true_and] at h
    obtain ⟨rfl, rfl⟩ := h
    refine ⟨by simp, fun C hC _ => ?_⟩
    refine Rch.len 0 (t := t) (kk := .u8) (xs := xs) (c := c) rfl rfl fun hl hx => ?_
    refine Rch.len 1 (t := u) (kk := .u8) (xs := ys) (c := d) rfl rfl fun hl hy => ?_
    refine Rch.fit1 hC [] (tm' := ini 0 [.imn t .u8 xs c, .imn u .u8 ys d]) (bl' := []) rfl (by decide) rfl ⟨rfl, rfl, trivial⟩ (by cases t <;> cases u <;> rfl) trivial ?_
    exact sameB_run C t u xs ys hx hy c d
  · cases h
def sSaB (args : List AV) : Option (Bool × AV × Bls) := sSaB0 (mapI (fun _ => nilN .u8) 0 args)
theorem sameB_ok : SpecOk Try.prog (plOf pls) 39 sSaB := sameB0_ok.weak _ fun _ _ _ _ h => nilN_den _ h
def kSB : KT := ktOf [(39, sSaB)]
theorem kSB_ok : KOk Try.prog (plOf pls) kSB := ktOf_ok plsOk fun x hx => by
  simp only [List.mem_singleton] at hx
  subst hx
  exact sameB_ok
theorem bys_ne {as1 bs1 : List (List AV)} {i : Nat} (h1 : i < as1.length) (h2 : i < bs1.length) (h : ¬ byA as1 i = byA bs1 i) : decide (bys as1 = bys bs1) = false := decide_eq_false fun e => h (by
  have := congrArg (fun l => l[i]?) e
  simp only [bys_get h1, bys_get h2, Option.some.injEq] at this
  exact this)
theorem bys_eq {as1 bs1 : List (List AV)} (hl : as1.length = bs1.length) (h : ∀ i, i < as1.length → byA as1 i = byA bs1 i) : decide (bys as1 = bys bs1) = true := decide_eq_true (List.ext_getElem? fun i => by
  rcases Nat.lt_or_ge i as1.length with hi | hi
  · rw [bys_get hi, bys_get (by omega), h i hi]
  · rw [List.getElem?_eq_none (by rw [bys_len]; exact hi), List.getElem?_eq_none (by rw [bys_len]; omega)])
theorem bys_ln {as1 bs1 : List (List AV)} (hl : ¬ as1.length = bs1.length) : decide (bys as1 = bys bs1) = false := decide_eq_false fun e => hl (by
  have := congrArg List.length e
  rwa [bys_len, bys_len] at this)
def tSa (t u : Bool) (as1 bs1 : List (List AV)) (c d : Option Nat) (i : Nat) : TM := [(5, .v (.int .i64 i)), (0, .imr t 1 as1 c), (1, .imr u 1 bs1 d)]
theorem tSa_lv {as1 bs1 : List (List AV)} (hf : FlatR as1) (hg : FlatR bs1) (t u : Bool) (c d : Option Nat) (i N : Nat) : lvT N true (tSa t u as1 bs1 c d i) = true := by
  cases t <;> cases u <;> simp [tSa, lvT, lvB, tB, hf.lv, hg.lv]
set_option maxRecDepth 100000 in
set_option maxHeartbeats 4000000 in
theorem same_run (C : Ctx) (hC : C.β.b = []) (t u : Bool) (as1 bs1 : List (List AV)) (c d : Option Nat) (ha : as1.all isB = true) (hb : bs1.all isB = true) (hx : as1.length < 4611686018427387904) : Rch Try.prog (plOf pls) C (conf0 17 ⟨27, [.tmp 4], code17⟩ [.imr t 1 as1 c, .imr u 1 bs1 d] []) (Res (.v (.bool (decide (bys as1 = bys bs1)))) []) := by
  have hf := isB_flat ha
  have hg := isB_flat hb
  by_cases hl : as1.length = bs1.length
  case neg =>
    have hl' : ¬ (as1.length : Int) = bs1.length := by omega
    rw [bys_ln hl]
    refine ExQ_ok [] 2000 plsOk kSB_ok ?_
    simp only [conf0]
    (try rw [exh]); simp (maxSteps := 4000000) only [kSB, sSaB, hl', Bool.not_false, Bool.not_true, decide_true, decide_false, go_sem, ↓bsplit_true, ↓bsplit_false, ↓reduceIte, Nat.reduceLT, Nat.reduceLeDiff, Nat.reduceEqDiff, Nat.reduceAdd, Nat.reduceSub, Nat.reduceMul, Nat.reduceBEq, Nat.reduceBNe, reduceCtorEq, Int.reduceEq, Int.reduceLT, Int.reduceLE, Int.reduceAdd, Int.reduceSub, Int.reduceMul, Int.reduceToNat, ↓xs17, ↓xs39, ↓xs42, ↓xs49]
    repeat (refine And.intro (a := (_ = true)) (by first | (simp; done) | (simp; omega)) ?_)
    exact Res.val _ _
  have hl' : (as1.length : Int) = bs1.length := by omega
  refine ExQ_ok [] 2000 plsOk kSB_ok ?_
  simp only [conf0]
  (try rw [exh]); simp (maxSteps := 4000000) only [kSB, sSaB, hl', Bool.not_false, Bool.not_true, decide_true, decide_false, go_sem, ↓bsplit_true, ↓bsplit_false, ↓reduceIte, Nat.reduceLT, Nat.reduceLeDiff, Nat.reduceEqDiff, Nat.reduceAdd, Nat.reduceSub, Nat.reduceMul, Nat.reduceBEq, Nat.reduceBNe, reduceCtorEq, Int.reduceEq, Int.reduceLT, Int.reduceLE, Int.reduceAdd, Int.reduceSub, Int.reduceMul, Int.reduceToNat, ↓xs17, ↓xs39, ↓xs42, ↓xs49]
  repeat (refine And.intro (a := (_ = true)) (by first | (simp; done) | (simp; omega)) ?_)
  refine Rch.loop plsOk ?_
  refine Rch.fit1 hC [] (bl' := []) (tm' := tSa t u as1 bs1 c d (0)) rfl List.nodup_nil rfl ⟨rfl, congrArg (fun x => AV.imr t 1 x c) (hf.ren _).symm, congrArg (fun x => AV.imr u 1 x d) (hg.ren _).symm, trivial⟩ (tSa_lv hf hg ..) trivial ?_
  refine loop_ind plsOk (α := {i : Nat // i ≤ as1.length ∧ ∀ j, j < i → byA as1 j = byA bs1 j}) (fun a => as1.length - a.1) (fun a => tSa t u as1 bs1 c d a.1) (fun _ => []) (fun _ => Res (.v (.bool (decide (bys as1 = bys bs1)))) []) ?_ ⟨0, Nat.zero_le _, fun j hj => absurd hj (Nat.not_lt_zero _)⟩
  rintro ⟨i, hi, hj⟩ ih
  simp only [tSa] at hi hj ih ⊢
  by_cases h : (i : Int) < as1.length
  · have e1 := isB_row ha (i := i) (by omega)
    have e2 := isB_row hb (i := i) (by omega)
    by_cases he : byA as1 i = byA bs1 i
    · have he' : decide (byA as1 i = byA bs1 i) = true := decide_eq_true he
      refine ExQ_ok [] 2000 plsOk kSB_ok ?_
      (try rw [exh]); simp (maxSteps := 4000000) only [kSB, sSaB, sSaB0, mapI, nilN, h, e1, e2, he', Bool.not_false, Bool.not_true, go_sem, ↓bsplit_true, ↓bsplit_false, ↓reduceIte, Nat.reduceLT, Nat.reduceLeDiff, Nat.reduceEqDiff, Nat.reduceAdd, Nat.reduceSub, Nat.reduceMul, Nat.reduceBEq, Nat.reduceBNe, reduceCtorEq, Int.reduceEq, Int.reduceLT, Int.reduceLE, Int.reduceAdd, Int.reduceSub, Int.reduceMul, Int.reduceToNat, ↓xs17, ↓xs39, ↓xs42, ↓xs49]
      repeat (refine And.intro (a := (_ = true)) (by first | (simp; done) | (simp; omega)) ?_)
      refine Rch.fit1 hC [] (bl' := []) (tm' := tSa t u as1 bs1 c d (i + 1)) rfl List.nodup_nil rfl ⟨rfl, congrArg (fun x => AV.imr t 1 x c) (hf.ren _).symm, congrArg (fun x => AV.imr u 1 x d) (hg.ren _).symm, trivial⟩ (tSa_lv hf hg ..) trivial ?_
      exact ih ⟨i + 1, by omega, fun j hj' => by
        rcases Nat.lt_or_ge j i with h4 | h4
        · exact hj j h4
        · rw [show j = i by omega]; exact he⟩ (by simp only; omega)
    · have he' : decide (byA as1 i = byA bs1 i) = false := decide_eq_false he
      rw [bys_ne (by omega) (by omega) he]
      refine ExQ_ok [] 2000 plsOk kSB_ok ?_
      (try rw [exh]); simp (maxSteps := 4000000) only [kSB, sSaB, sSaB0, mapI, nilN, h, e1, e2, he', Bool.not_false, Bool.not_true, go_sem, ↓bsplit_true, ↓bsplit_false, ↓reduceIte, Nat.reduceLT, Nat.reduceLeDiff, Nat.reduceEqDiff, Nat.reduceAdd, Nat.reduceSub, Nat.reduceMul, Nat.reduceBEq, Nat.reduceBNe, reduceCtorEq, Int.reduceEq, Int.reduceLT, Int.reduceLE, Int.reduceAdd, Int.reduceSub, Int.reduceMul, Int.reduceToNat, ↓xs17, ↓xs39, ↓xs42, ↓xs49]
      repeat (refine And.intro (a := (_ = true)) (by first | (simp; done) | (simp; omega)) ?_)
      exact Res.val _ _
  · rw [bys_eq hl fun i' hi' => hj i' (by omega)]
    refine ExQ_ok [] 2000 plsOk kSB_ok ?_
    (try rw [exh]); simp (maxSteps := 4000000) only [kSB, sSaB, sSaB0, mapI, nilN, h, go_sem, ↓bsplit_true, ↓bsplit_false, ↓reduceIte, Nat.reduceLT, Nat.reduceLeDiff, Nat.reduceEqDiff, Nat.reduceAdd, Nat.reduceSub, Nat.reduceMul, Nat.reduceBEq, Nat.reduceBNe, reduceCtorEq, Int.reduceEq, Int.reduceLT, Int.reduceLE, Int.reduceAdd, Int.reduceSub, Int.reduceMul, Int.reduceToNat, ↓xs17, ↓xs39, ↓xs42, ↓xs49]
    repeat (refine And.intro (a := (_ = true)) (by first | (simp; done) | (simp; omega)) ?_)
    exact Res.val _ _
def sSam0 : List AV → Option (Bool × AV × Bls)
  | [.imr _ 1 as1 _, .imr _ 1 bs1 _] => some (as1.all isB && (bs1.all isB && decide (as1.length < 4611686018427387904)), .v (.bool (decide (bys as1 = bys bs1))), [])
  | _ => none
theorem same0_ok : SpecOk Try.prog (plOf pls) 17 sSam0 := by
  refine ⟨_, fi17, fun args r bl1 h => ?_⟩
  unfold sSam0 at h
  split at h
  · simp only [Option.some.injEq, Prod.mk.injEq, Bool.and_eq_true, decide_eq_true_eq] at h
    obtain ⟨⟨h1, h2, h3⟩, rfl, rfl⟩ := h
    exact ⟨by simp, fun C hC _ => same_run C hC _ _ _ _ _ _ h1 h2 h3⟩
  · cases h
def sSam (args : List AV) : Option (Bool × AV × Bls) := sSam0 (mapI (fun _ => nilR 1) 0 args)
theorem same_ok : SpecOk Try.prog (plOf pls) 17 sSam := same0_ok.weak _ fun _ _ _ _ h => nilR_den _ h
def sizN (n : Int) : Int := if 1 ≤ n then (if n ≤ 4000 then 8 + n else 0) else 0
def sSize : List AV → Option (Bool × AV × Bls)
  | [.v (.int .i64 n)] => some (true, .v (.int .i64 (sizN n)), [])
  | _ => none
set_option maxRecDepth 100000 in
set_option maxHeartbeats 4000000 in
theorem size_run (C : Ctx) (n : Int) : Rch Try.prog (plOf pls) C (conf0 49 ⟨8, [.tmp 2], code49⟩ [.v (.int .i64 n)] []) (Res (.v (.int .i64 (sizN n))) []) := by
  refine ExQ_ok [] 2000 plsOk noK ?_
  simp only [conf0]
  by_cases h : 1 ≤ n
  · by_cases h2 : n ≤ 4000
    · (try rw [exh]); simp (maxSteps := 4000000) only [h, h2, go_sem, ↓bsplit_true, ↓bsplit_false, ↓reduceIte, Nat.reduceLT, Nat.reduceLeDiff, Nat.reduceEqDiff, Nat.reduceAdd, Nat.reduceSub, Nat.reduceMul, Nat.reduceBEq, Nat.reduceBNe, reduceCtorEq, Int.reduceEq, Int.reduceLT, Int.reduceLE, Int.reduceAdd, Int.reduceSub, Int.reduceMul, Int.reduceToNat, ↓xs17, ↓xs39, ↓xs42, ↓xs49]
      repeat (refine And.intro (a := (_ = true)) (by first | (simp; done) | (simp; omega)) ?_)
      rw [sizN, if_pos h, if_pos h2]
      exact Res.val _ _
    · (try rw [exh]); simp (maxSteps := 4000000) only [h, h2, go_sem, ↓bsplit_true, ↓bsplit_false, ↓reduceIte, Nat.reduceLT, Nat.reduceLeDiff, Nat.reduceEqDiff, Nat.reduceAdd, Nat.reduceSub, Nat.reduceMul, Nat.reduceBEq, Nat.reduceBNe, reduceCtorEq, Int.reduceEq, Int.reduceLT, Int.reduceLE, Int.reduceAdd, Int.reduceSub, Int.reduceMul, Int.reduceToNat, ↓xs17, ↓xs39, ↓xs42, ↓xs49]
      repeat (refine And.intro (a := (_ = true)) (by first | (simp; done) | (simp; omega)) ?_)
      rw [sizN, if_pos h, if_neg h2]
      exact Res.val _ _
  · (try rw [exh]); simp (maxSteps := 4000000) only [h, go_sem, ↓bsplit_true, ↓bsplit_false, ↓reduceIte, Nat.reduceLT, Nat.reduceLeDiff, Nat.reduceEqDiff, Nat.reduceAdd, Nat.reduceSub, Nat.reduceMul, Nat.reduceBEq, Nat.reduceBNe, reduceCtorEq, Int.reduceEq, Int.reduceLT, Int.reduceLE, Int.reduceAdd, Int.reduceSub, Int.reduceMul, Int.reduceToNat, ↓xs17, ↓xs39, ↓xs42, ↓xs49]
    repeat (refine And.intro (a := (_ = true)) (by first | (simp; done) | (simp; omega)) ?_)
    rw [sizN, if_neg h]
    exact Res.val _ _
theorem size_ok : SpecOk Try.prog (plOf pls) 49 sSize := by
  refine ⟨_, fi49, fun args r bl1 h => ?_⟩
  unfold sSize at h
  split at h
  · simp only [Option.some.injEq, Prod.mk.injEq, true_and] at h
    obtain ⟨rfl, rfl⟩ := h
    exact ⟨by simp, fun C hC _ => size_run C _⟩
  · cases h
end Go.Proofs.Ytlhjbjpcnncndaa
