/- Journals: the words of Len, All, Firm. -/
import Derived.Test.YtlhjbjpcnncndaaJW1
set_option linter.unusedSimpArgs false
set_option linter.unusedVariables false
namespace Go.Proofs.Ytlhjbjpcnncndaa
open Go Go.SY
namespace JW
open DW
attribute [local go_sem] Ex stops inK stepF frsF frF itemF codeF condF opsF opsW opF callO drF drO drW drC stepS wtS gdst gdl sopF pv evq orl bltF callF calleeS popF lopF bltP callP cls lvA rdl quiet p_move p_assign p_pick p_nilCheck
attribute [local go_sem] p_binOp p_unOp p_convert p_fieldAddr p_indexAddr p_index p_slice p_makeFunc p_extract p_field p_build p_len p_cap p_min p_max l_load l_convert l_slice zerR roomR appRR roomN appNN cpSrcN clN cpSrc cpR clR e_clear srcR dstR srcN dstN e_store e_alloc e_box e_buildSlice e_makeSlice e_append e_copy
attribute [local go_sem] e_convert SY.get SY.put SY.ev SY.mk SY.nth SY.lvl SY.setl SY.ini wid wids dr tk flat at1 pack parts rdC rdCt wrC wrCt ar bits2 bopInt bopStr bopEq isPtr isSl isBl eqPs eqLf bop pickAV bnd subO cutOf okMx fillA plFs nz
attribute [local go_sem] minI numsAt aOf hd1 hdL immL isArr ctOf rowsOf numsAV rep elCt wrRow killO chR enterS leaveS retS endS exitS gotoS finishS killL isDefs setPs roundS resS resAll tup1 conf0 AV.scal plk spz Ct.cell exq_zero exq_go exq_d exq_n lvCt lvE
attribute [local go_sem] exq_t exq_f exq_t0 exq_f0 List.toList_toArray Bool.and_true Bool.true_and Bool.not_false Bool.not_true List.contains_nil List.contains_cons Bool.or_false Bool.false_or Option.isSome_some Option.isSome_none Option.isNone_none Option.isNone_some true_and and_true Option.some.injEq Bool.false_eq_true List.map_cons List.map_nil List.all_cons List.all_nil Bool.and_self List.drop_succ_cons List.drop_zero List.length_cons List.length_nil List.cons_append List.nil_append Option.map_some Option.map_none List.append_nil Nat.zero_add Nat.add_zero Nat.sub_zero Nat.zero_mul Nat.mul_one
attribute [local go_sem] Int.toNat_natCast Int.toNat_zero Int.toNat_one Int.add_zero Int.sub_zero Int.cast_ofNat_Int decide_true decide_false Option.getD_some Option.getD_none ktB ktX ktOf conK extK ovlK rwz alive alive0 mks noMk lndL lnd lvB lvL lvR lvT tB_tt tB_ft tB_ff okBls shB ren renL renR renCt ne_eq not_false_eq_true not_true_eq_false and_false
attribute [local go_sem] false_and and_self ti0 ti1 ti2 ti3 ti4 ti5 ti6 ti7 ti8 ti9 ti10 ti11 ti12 ti13 ti14 ti15 ti16 ti17 ti18 ti19 ti20 ti21 ti22 ti23 ti24 ti25 ti26 ti27 ti28 ti29 ti30 ti31 ti32 ti33 ti34 ti35 ti36 ti37
attribute [local go_sem] ti38 ti39 ti40 ti41 ti42 ti43 ti44 ti45 ti46 ti47 ti48 ti49 ti50 ti51 ti52 ti53 ti54 ti55 ti56 ti57 ti58 ti59 ti60 ti61 ti62 ti63 ti64 ti65 ti66 ti67 ti68 ti69 ti70 ti71 ti72 ti73 ti74 ti75 ti76 ti77
attribute [local go_sem] ti78 ti79 ti80 ti81 ti82 ti83 ti84 ti85 ti86 ti87 ti88 ti89 ti90 ti91 ti92 ti93 ti94 ti95 ti96 ti97 ti98 ti99 ti100 ti101 ti102 ti103 ti104 regAt fi24 body24 Try.f24 fi12 body12 Try.f12 fi11 body11 Try.f11 fi13 body13 Try.f13
attribute [local go_sem] fi34 body34 Try.f34 fi48 body48 Try.f48 r11_1 r11_3 r11_7 r11_10 r11_12 r11_13 r12_1 r12_5 r12_9 r12_10 r13_1 r13_3 r13_7 r13_10 r13_15 r13_14 r13_18 r24_1 r24_3 r34_1 r34_3 r48_3 r48_6 r48_8 r48_12 r48_20 r48_22 r48_24 r48_18 plA8 pl8 plA10 pl10 plA11
attribute [local go_sem] pl11 plA17 pl17 plA22 pl22 plA25 pl25 plA31 pl31 plA37 pl37 plA45 pl45 plA53 pl53 plA55 pl55
theorem nilrow {bl : Bls} {l : Nat} {pre post : List AV} (v : Nat) (hl : lvl bl l = some (.lit (pre ++ .nil :: post))) (i w : Nat) : Wk bl (setl bl l (some (.lit (pre ++ .sl bl.length i w 0 Option.none :: post))) ++ [some (.rows v [])]) :=
  (Wk.lit hl fun _ _ h => denC_cell rfl rfl (fun _ _ h => den_nilsl h) h).trans (Wk.noneR _ v)
def fmN (f : Int) : Int → List (List Int) → Nat
  | _, [] => 0
  | a, y :: r => if f < a + sizN (y.length : Nat) then 0 else fmN f (a + sizN (y.length : Nat)) r + 1
theorem fm_drop {rs : List (List AV)} {i : Nat} (f q : Int) (hi : i < rs.length) : fmN f q ((bys rs).drop i) = if f < q + sizN ((byA rs i).length : Nat) then 0 else fmN f (q + sizN ((byA rs i).length : Nat)) ((bys rs).drop (i + 1)) + 1 := by
  have e : (bys rs).drop i = byA rs i :: (bys rs).drop (i + 1) := by
    rw [List.drop_eq_getElem_cons (by rw [bys_len]; exact hi)]
    have := bys_get hi
    rw [List.getElem?_eq_getElem (by rw [bys_len]; exact hi), Option.some.injEq] at this
    rw [this]
  rw [e, fmN]
theorem siz_le (n : Nat) : 0 ≤ sizN (n : Int) ∧ sizN (n : Int) ≤ 4008 := by
  unfold sizN
  split <;> (try split) <;> omega
attribute [local go_sem] kJ0 kDj kF ktOf ktO ktW conK objK objB updT mapB rhoN nm mrk readK sCln sPut sJoin sSplit sSize mapI DW.osB DW.osI DW.osK DW.osR findD mApp mNext mSync mSwitch mFirm mCrash mFuse rdV rdX sNew layD fuP fuL nilN
attribute [local go_sem] nilR List.append_nil List.nodup_cons List.mem_cons List.not_mem_nil List.take_succ_cons List.take_zero List.getD_cons_zero List.getD_cons_succ KB.btt KB.bff not_true_eq_false not_false_eq_true List.drop_zero List.length_replicate
set_option maxRecDepth 100000 in
set_option maxHeartbeats 8000000 in
theorem jlen_n (l : List Int) (f : Int) (x : List Int) (xf room m : Int) (out : Bool) (rs : List (List AV)) (hs : numOk ⟨l, f, x, xf, room, m, none, out⟩ = true) (hr : rs.all isB = true) (hrn : rs.length ≤ 1000000000) (hrb : ∀ y ∈ bys rs, y.length ≤ 1000000) : Word Try.prog (plOf pls) 12 [.ptr 0 0 2 0] (layJ ⟨l, f, x, xf, room, m, none, out⟩ rs) (ObQ 5 (.v (.int .i64 rs.length)) (layJ ⟨l, f, x, xf, room, m, none, out⟩ rs ++ [])) := by
  have hf := isB_flat hr
  refine ⟨_, fi12, by simp, fun C hC hl => ?_⟩
  refine ExQ_ok [] 4000 plsOk kJ0_ok ?_
  simp only [conf0, layJ, fu5, fuL]
  (try rw [exh]); simp (maxSteps := 4000000) only [hs, go_sem, ↓bsplit_true, ↓bsplit_false, ↓reduceIte, Nat.reduceLT, Nat.reduceLeDiff, Nat.reduceEqDiff, Nat.reduceAdd, Nat.reduceSub, Nat.reduceMul, Nat.reduceBEq, Nat.reduceBNe, reduceCtorEq, Int.reduceEq, Int.reduceLT, Int.reduceLE, Int.reduceAdd, Int.reduceSub, Int.reduceMul, Int.reduceToNat, ↓xs11, ↓xs12, ↓xs13, ↓xs24, ↓xs34, ↓xs48]
  repeat (refine And.intro (a := (_ = true)) (by first | (simp; done) | (simp; omega)) ?_)
  exact ObQ.mk [0, 1, 2, 3, 4] (by decide) rfl rfl rfl ⟨rfl, rfl, by simp only [renCt, hf.ren]; exact rfl, rfl, rfl, trivial⟩
set_option maxRecDepth 100000 in
set_option maxHeartbeats 8000000 in
theorem jall_go_n (l : List Int) (f : Int) (x : List Int) (xf room m : Int) (out : Bool) (rs : List (List AV)) (hs : numOk ⟨l, f, x, xf, room, m, none, out⟩ = true) (hr : rs.all isB = true) (hrn : rs.length ≤ 1000000000) (hrb : ∀ y ∈ bys rs, y.length ≤ 1000000) (C : Ctx) (hC : C.β.b.length = 5) (i : Nat) (q1 : Int) (hi : i ≤ rs.length) (ha0 : 0 ≤ q1) (ha1 : q1 ≤ 4008 * i)
   (ih : ∀ q2 : Int, i < rs.length → 0 ≤ q2 → q2 ≤ 4008 * (i + 1) → Rch Try.prog (plOf pls) C ⟨[⟨48, 28, [(13, .v (.int .i64 ((i + 1 : Nat) : Int))), (12, .v (.int .i64 rs.length)), (11, .sl 2 0 1 rs.length none), (3, .v (.int .i64 q2)), (0, .yld 8)], [.lp c48_11, .blk 0], none, [], []⟩, ⟨11, 16, [(3, .ptr 5 0 1 0)], [.rf 8, .blk 0, .code c11_6], none, [7], []⟩], [some (.lit [.ptr 1 0 9 0, .sl 2 0 1 rs.length none]), some (.lit [.sl 3 0 1 l.length none, .v (.int .i64 f), .sl 4 0 1 x.length none, .v (.int .i64 xf), .v (.int .i64 room), .v (.int .i64 m), .v (.pointer none), .v (.bool out), .v (.bool true)]), some (.rows 1 rs), some (.num .u8 l), some (.num .u8 x), some (.lit [.sl 9 0 1 (i + 1) none]), some (.lit [.ptr 0 0 2 0]), some .defs, some (.loop .ready none 11 16 [(7, .fn 48 [] [.ptr 6 0 1 0]), (6, .ptr 0 0 2 0), (3, .ptr 5 0 1 0), (2, .nil), (0, .ptr 0 0 2 0)] [8, 9] c11_10 c11_11 7), some (.rows 1 (((bys rs).take (i + 1)).map rwN))]⟩ (ObQ 5 (.sl 5 0 1 rs.length none) (layJ ⟨l, f, x, xf, room, m, none, out⟩ rs ++ [some (.rows 1 ((bys rs).map rwN))]))) :
   Rch Try.prog (plOf pls) C ⟨[⟨48, 28, [(13, .v (.int .i64 i)), (12, .v (.int .i64 rs.length)), (11, .sl 2 0 1 rs.length none), (3, .v (.int .i64 q1)), (0, .yld 8)], [.code c48_11, .lp c48_11, .blk 0], none, [], []⟩, ⟨11, 16, [(3, .ptr 5 0 1 0)], [.rf 8, .blk 0, .code c11_6], none, [7], []⟩], [some (.lit [.ptr 1 0 9 0, .sl 2 0 1 rs.length none]), some (.lit [.sl 3 0 1 l.length none, .v (.int .i64 f), .sl 4 0 1 x.length none, .v (.int .i64 xf), .v (.int .i64 room), .v (.int .i64 m), .v (.pointer none), .v (.bool out), .v (.bool true)]), some (.rows 1 rs), some (.num .u8 l), some (.num .u8 x), some (.lit [.sl 9 0 1 i none]), some (.lit [.ptr 0 0 2 0]), some .defs, some (.loop .ready none 11 16 [(7, .fn 48 [] [.ptr 6 0 1 0]), (6, .ptr 0 0 2 0), (3, .ptr 5 0 1 0), (2, .nil), (0, .ptr 0 0 2 0)] [8, 9] c11_10 c11_11 7), some (.rows 1 (((bys rs).take i).map rwN))]⟩ (ObQ 5 (.sl 5 0 1 rs.length none) (layJ ⟨l, f, x, xf, room, m, none, out⟩ rs ++ [some (.rows 1 ((bys rs).map rwN))])) := by
  have hf := isB_flat hr
  by_cases h : (i : Int) < rs.length
  · have hi' : i < rs.length := by omega
    have e := isB_row hr hi'
    have h5 : (((bys rs).take (i + 1)).map rwN) = ((bys rs).take i).map rwN ++ [[AV.imn false .u8 (byA rs i) none]] := by rw [bys_succ hi', List.map_append]; rfl
    have hfn2 := isB_flat (rwN_all ((bys rs).take (i + 1)))
    have hrl : (((bys rs).take i).map rwN).length = i := by rw [List.length_map, List.length_take, bys_len]; omega
    have hrl2 : (((bys rs).take (i + 1)).map rwN).length = i + 1 := by rw [List.length_map, List.length_take, bys_len]; omega
    have htx : List.take i (((bys rs).take i).map rwN) = ((bys rs).take i).map rwN := List.take_of_length_le (by omega)
    have hty : List.take (byA rs i).length (byA rs i) = byA rs i := List.take_of_length_le (Nat.le_refl _)
    have hlx := hrb (byA rs i) (List.mem_of_getElem? (bys_get hi'))
    have hsz := siz_le (byA rs i).length
    have hnx := ih (q1 + sizN ((byA rs i).length : Nat)) hi' (by omega) (by omega)
    generalize hsn : sizN ((byA rs i).length : Nat) = z at *
    have hsy := h5.symm
    generalize ((bys rs).take i).map rwN = xs at *
    generalize ((bys rs).take (i + 1)).map rwN = ys at *
    refine ExQ_ok [] 4000 plsOk kJ0_ok ?_
    (try rw [exh]); simp (maxSteps := 4000000) only [hs, h, e, hsn, htx, hty, hsy, hrl, hrl2, List.nil_append, List.take_nil, go_sem, ↓bsplit_true, ↓bsplit_false, ↓reduceIte, Nat.reduceLT, Nat.reduceLeDiff, Nat.reduceEqDiff, Nat.reduceAdd, Nat.reduceSub, Nat.reduceMul, Nat.reduceBEq, Nat.reduceBNe, reduceCtorEq, Int.reduceEq, Int.reduceLT, Int.reduceLE, Int.reduceAdd, Int.reduceSub, Int.reduceMul, Int.reduceToNat, ↓xs11, ↓xs12, ↓xs13, ↓xs24, ↓xs34, ↓xs48]
    repeat (refine And.intro (a := (_ = true)) (by first | (simp; done) | (simp; omega)) ?_)
    refine Rch.fit2K hC [0, 1, 2, 3, 4, 5, 6, 7, 8, 12] rfl (c' := ⟨[⟨48, 28, [(13, .v (.int .i64 ((i + 1 : Nat) : Int))), (12, .v (.int .i64 rs.length)), (11, .sl 2 0 1 rs.length none), (3, .v (.int .i64 (q1 + z))), (0, .yld 8)], [.lp c48_11, .blk 0], none, [], []⟩, ⟨11, 16, [(3, .ptr 5 0 1 0)], [.rf 8, .blk 0, .code c11_6], none, [7], []⟩], [some (.lit [.ptr 1 0 9 0, .sl 2 0 1 rs.length none]), some (.lit [.sl 3 0 1 l.length none, .v (.int .i64 f), .sl 4 0 1 x.length none, .v (.int .i64 xf), .v (.int .i64 room), .v (.int .i64 m), .v (.pointer none), .v (.bool out), .v (.bool true)]), some (.rows 1 rs), some (.num .u8 l), some (.num .u8 x), some (.lit [.sl 9 0 1 (i + 1) none]), some (.lit [.ptr 0 0 2 0]), some .defs, some (.loop .ready none 11 16 [(7, .fn 48 [] [.ptr 6 0 1 0]), (6, .ptr 0 0 2 0), (3, .ptr 5 0 1 0), (2, .nil), (0, .ptr 0 0 2 0)] [8, 9] c11_10 c11_11 7), some (.rows 1 ys)]⟩) ⟨by decide, rfl, ⟨_, _, rfl, .mk' ⟨rfl, rfl, rfl, rfl, rfl, trivial⟩ rfl rfl rfl rfl (fun l h => by cases h) rfl rfl, _, _, rfl, .mk' ⟨rfl, trivial⟩ rfl rfl rfl rfl (fun l h => by cases h) rfl rfl, rfl⟩, ⟨⟨rfl, rfl⟩, ⟨rfl, rfl⟩, ⟨by simp only [renCt, hf.ren]; exact rfl, by simp only [lvCt, hf.lv]⟩, ⟨rfl, rfl⟩, ⟨rfl, rfl⟩, ⟨rfl, rfl⟩, ⟨rfl, rfl⟩, ⟨rfl, rfl⟩, ⟨rfl, rfl⟩, ⟨by simp only [renCt, hfn2.ren]; exact rfl, by simp only [lvCt, hfn2.lv]⟩, trivial⟩⟩ ?_
    exact hnx
  · clear ih
    obtain rfl : i = rs.length := by omega
    have ht : (bys rs).take rs.length = bys rs := List.take_of_length_le (by rw [bys_len]; exact Nat.le_refl _)
    rw [ht]
    have hfy := isB_flat (rwN_all (bys rs))
    generalize (bys rs).map rwN = ys at *
    refine ExQ_ok [] 4000 plsOk kJ0_ok ?_
    (try rw [exh]); simp (maxSteps := 4000000) only [hs, h, go_sem, ↓bsplit_true, ↓bsplit_false, ↓reduceIte, Nat.reduceLT, Nat.reduceLeDiff, Nat.reduceEqDiff, Nat.reduceAdd, Nat.reduceSub, Nat.reduceMul, Nat.reduceBEq, Nat.reduceBNe, reduceCtorEq, Int.reduceEq, Int.reduceLT, Int.reduceLE, Int.reduceAdd, Int.reduceSub, Int.reduceMul, Int.reduceToNat, ↓xs11, ↓xs12, ↓xs13, ↓xs24, ↓xs34, ↓xs48]
    repeat (refine And.intro (a := (_ = true)) (by first | (simp; done) | (simp; omega)) ?_)
    simp only [layJ, fu5, fuL]
    exact ObQ.mk [0, 1, 2, 3, 4, 9] (by decide) rfl rfl rfl ⟨rfl, rfl, by simp only [renCt, hf.ren]; exact rfl, rfl, rfl, by simp only [renCt, hfy.ren]; exact rfl, trivial⟩
set_option maxRecDepth 100000 in
set_option maxHeartbeats 8000000 in
theorem jall_n (l : List Int) (f : Int) (x : List Int) (xf room m : Int) (out : Bool) (rs : List (List AV)) (hs : numOk ⟨l, f, x, xf, room, m, none, out⟩ = true) (hr : rs.all isB = true) (hrn : rs.length ≤ 1000000000) (hrb : ∀ y ∈ bys rs, y.length ≤ 1000000) : Word Try.prog (plOf pls) 11 [.ptr 0 0 2 0] (layJ ⟨l, f, x, xf, room, m, none, out⟩ rs) (ObQ 5 (.sl 5 0 1 rs.length none) (layJ ⟨l, f, x, xf, room, m, none, out⟩ rs ++ [some (.rows 1 ((bys rs).map rwN))])) := by
  have hf := isB_flat hr
  refine ⟨_, fi11, by simp, fun C hC hl => ?_⟩
  have hC' : C.β.b.length = 5 := hl
  refine ExQ_ok [] 4000 plsOk kJ0_ok ?_
  simp only [conf0]
  (try rw [exh]); simp (maxSteps := 4000000) only [hs, layJ, fu5, go_sem, ↓bsplit_true, ↓bsplit_false, ↓reduceIte, Nat.reduceLT, Nat.reduceLeDiff, Nat.reduceEqDiff, Nat.reduceAdd, Nat.reduceSub, Nat.reduceMul, Nat.reduceBEq, Nat.reduceBNe, reduceCtorEq, Int.reduceEq, Int.reduceLT, Int.reduceLE, Int.reduceAdd, Int.reduceSub, Int.reduceMul, Int.reduceToNat, ↓xs11, ↓xs12, ↓xs13, ↓xs24, ↓xs34, ↓xs48]
  repeat (refine And.intro (a := (_ = true)) (by first | (simp; done) | (simp; omega)) ?_)
  refine Rch.loop plsOk ?_
  refine Rch.wk rfl (nilrow (l := 5) (pre := []) 1 rfl 0 1) ?_
  refine Rch.fit2K hC' [0, 1, 2, 3, 4, 5, 6, 7, 8, 9] rfl (c' := ⟨[⟨48, 28, [(13, .v (.int .i64 0)), (12, .v (.int .i64 rs.length)), (11, .sl 2 0 1 rs.length none), (3, .v (.int .i64 0)), (0, .yld 8)], [.code c48_11, .lp c48_11, .blk 0], none, [], []⟩, ⟨11, 16, [(3, .ptr 5 0 1 0)], [.rf 8, .blk 0, .code c11_6], none, [7], []⟩], [some (.lit [.ptr 1 0 9 0, .sl 2 0 1 rs.length none]), some (.lit [.sl 3 0 1 l.length none, .v (.int .i64 f), .sl 4 0 1 x.length none, .v (.int .i64 xf), .v (.int .i64 room), .v (.int .i64 m), .v (.pointer none), .v (.bool out), .v (.bool true)]), some (.rows 1 rs), some (.num .u8 l), some (.num .u8 x), some (.lit [.sl 9 0 1 0 none]), some (.lit [.ptr 0 0 2 0]), some .defs, some (.loop .ready none 11 16 [(7, .fn 48 [] [.ptr 6 0 1 0]), (6, .ptr 0 0 2 0), (3, .ptr 5 0 1 0), (2, .nil), (0, .ptr 0 0 2 0)] [8, 9] c11_10 c11_11 7), some (.rows 1 (((bys rs).take 0).map rwN))]⟩) ⟨by decide, rfl, ⟨_, _, rfl, .mk' ⟨rfl, rfl, rfl, rfl, rfl, trivial⟩ rfl rfl rfl rfl (fun l h => by cases h) rfl rfl, _, _, rfl, .mk' ⟨rfl, trivial⟩ rfl rfl rfl rfl (fun l h => by cases h) rfl rfl, rfl⟩, ⟨⟨rfl, rfl⟩, ⟨rfl, rfl⟩, ⟨by simp only [renCt, hf.ren]; exact rfl, by simp only [lvCt, hf.lv]⟩, ⟨rfl, rfl⟩, ⟨rfl, rfl⟩, ⟨rfl, rfl⟩, ⟨rfl, rfl⟩, ⟨rfl, rfl⟩, ⟨rfl, rfl⟩, ⟨rfl, rfl⟩, trivial⟩⟩ ?_
  have hgo := jall_go_n l f x xf room m out rs hs hr hrn hrb C hC'
  suffices H : ∀ (d i : Nat) (q1 : Int), rs.length - i ≤ d → i ≤ rs.length → 0 ≤ q1 → q1 ≤ 4008 * i → Rch Try.prog (plOf pls) C ⟨[⟨48, 28, [(13, .v (.int .i64 i)), (12, .v (.int .i64 rs.length)), (11, .sl 2 0 1 rs.length none), (3, .v (.int .i64 q1)), (0, .yld 8)], [.code c48_11, .lp c48_11, .blk 0], none, [], []⟩, ⟨11, 16, [(3, .ptr 5 0 1 0)], [.rf 8, .blk 0, .code c11_6], none, [7], []⟩], [some (.lit [.ptr 1 0 9 0, .sl 2 0 1 rs.length none]), some (.lit [.sl 3 0 1 l.length none, .v (.int .i64 f), .sl 4 0 1 x.length none, .v (.int .i64 xf), .v (.int .i64 room), .v (.int .i64 m), .v (.pointer none), .v (.bool out), .v (.bool true)]), some (.rows 1 rs), some (.num .u8 l), some (.num .u8 x), some (.lit [.sl 9 0 1 i none]), some (.lit [.ptr 0 0 2 0]), some .defs, some (.loop .ready none 11 16 [(7, .fn 48 [] [.ptr 6 0 1 0]), (6, .ptr 0 0 2 0), (3, .ptr 5 0 1 0), (2, .nil), (0, .ptr 0 0 2 0)] [8, 9] c11_10 c11_11 7), some (.rows 1 (((bys rs).take i).map rwN))]⟩ (ObQ 5 (.sl 5 0 1 rs.length none) (layJ ⟨l, f, x, xf, room, m, none, out⟩ rs ++ [some (.rows 1 ((bys rs).map rwN))])) from H rs.length 0 0 (by omega) (Nat.zero_le _) (by omega) (by omega)
  intro d
  induction d with
  | zero =>
    intro i q1 hd hi h0 h1
    exact hgo i q1 hi h0 h1 fun q2 hlt _ _ => by omega
  | succ d ihd =>
    intro i q1 hd hi h0 h1
    exact hgo i q1 hi h0 h1 fun q2 hlt h2 h3 => Rch.round plsOk (ihd (i + 1) q2 (by omega) (by omega) h2 (by omega))
set_option maxRecDepth 100000 in
set_option maxHeartbeats 8000000 in
theorem jfirm_go_n (l : List Int) (f : Int) (x : List Int) (xf room m : Int) (out : Bool) (rs : List (List AV)) (hs : numOk ⟨l, f, x, xf, room, m, none, out⟩ = true) (hr : rs.all isB = true) (hrn : rs.length ≤ 1000000000) (hrb : ∀ y ∈ bys rs, y.length ≤ 1000000) (C : Ctx) (hC : C.β.b.length = 5) (i : Nat) (q1 : Int) (hi : i ≤ rs.length) (ha0 : 0 ≤ q1) (ha1 : q1 ≤ 4008 * i) (hq : fmN f 0 (bys rs) = i + fmN f q1 ((bys rs).drop i))
   (ih : ∀ q2 : Int, i < rs.length → 0 ≤ q2 → q2 ≤ 4008 * (i + 1) → fmN f 0 (bys rs) = i + 1 + fmN f q2 ((bys rs).drop (i + 1)) → Rch Try.prog (plOf pls) C ⟨[⟨48, 28, [(13, .v (.int .i64 ((i + 1 : Nat) : Int))), (12, .v (.int .i64 rs.length)), (11, .sl 2 0 1 rs.length none), (3, .v (.int .i64 q2)), (0, .yld 9)], [.lp c48_11, .blk 0], none, [], []⟩, ⟨13, 19, [(3, .ptr 6 0 1 0), (1, .ptr 5 0 1 0)], [.rf 9, .blk 0, .code c13_6], none, [8], []⟩], [some (.lit [.ptr 1 0 9 0, .sl 2 0 1 rs.length none]), some (.lit [.sl 3 0 1 l.length none, .v (.int .i64 f), .sl 4 0 1 x.length none, .v (.int .i64 xf), .v (.int .i64 room), .v (.int .i64 m), .v (.pointer none), .v (.bool out), .v (.bool true)]), some (.rows 1 rs), some (.num .u8 l), some (.num .u8 x), some (.lit [.ptr 0 0 2 0]), some (.lit [.v (.int .i64 ((i + 1 : Nat) : Int))]), some (.lit [.ptr 0 0 2 0]), some .defs, some (.loop .ready none 13 19 [(6, .fn 48 [] [.ptr 7 0 1 0]), (5, .ptr 0 0 2 0), (3, .ptr 6 0 1 0), (2, .v (.int .i64 0)), (1, .ptr 5 0 1 0), (0, .ptr 0 0 2 0)] [7, 8] c13_10 c13_11 8)]⟩ (ObQ 5 (.v (.int .i64 (fmN f 0 (bys rs) : Nat))) (layJ ⟨l, f, x, xf, room, m, none, out⟩ rs ++ []))) :
   Rch Try.prog (plOf pls) C ⟨[⟨48, 28, [(13, .v (.int .i64 i)), (12, .v (.int .i64 rs.length)), (11, .sl 2 0 1 rs.length none), (3, .v (.int .i64 q1)), (0, .yld 9)], [.code c48_11, .lp c48_11, .blk 0], none, [], []⟩, ⟨13, 19, [(3, .ptr 6 0 1 0), (1, .ptr 5 0 1 0)], [.rf 9, .blk 0, .code c13_6], none, [8], []⟩], [some (.lit [.ptr 1 0 9 0, .sl 2 0 1 rs.length none]), some (.lit [.sl 3 0 1 l.length none, .v (.int .i64 f), .sl 4 0 1 x.length none, .v (.int .i64 xf), .v (.int .i64 room), .v (.int .i64 m), .v (.pointer none), .v (.bool out), .v (.bool true)]), some (.rows 1 rs), some (.num .u8 l), some (.num .u8 x), some (.lit [.ptr 0 0 2 0]), some (.lit [.v (.int .i64 i)]), some (.lit [.ptr 0 0 2 0]), some .defs, some (.loop .ready none 13 19 [(6, .fn 48 [] [.ptr 7 0 1 0]), (5, .ptr 0 0 2 0), (3, .ptr 6 0 1 0), (2, .v (.int .i64 0)), (1, .ptr 5 0 1 0), (0, .ptr 0 0 2 0)] [7, 8] c13_10 c13_11 8)]⟩ (ObQ 5 (.v (.int .i64 (fmN f 0 (bys rs) : Nat))) (layJ ⟨l, f, x, xf, room, m, none, out⟩ rs ++ [])) := by
  have hf := isB_flat hr
  by_cases h : (i : Int) < rs.length
  · have hi' : i < rs.length := by omega
    have e := isB_row hr hi'
    have hsz := siz_le (byA rs i).length
    have hdr := fm_drop f q1 hi'
    have hnx := ih (q1 + sizN ((byA rs i).length : Nat)) hi' (by omega) (by omega)
    generalize hsn : sizN ((byA rs i).length : Nat) = z at *
    by_cases hz : f < q1 + z
    · rw [if_pos hz] at hdr
      rw [hdr, Nat.add_zero] at hq
      clear ih hnx
      rw [hq]
      refine ExQ_ok [] 4000 plsOk kJ0_ok ?_
      (try rw [exh]); simp (maxSteps := 4000000) only [hs, h, e, hsn, hz, go_sem, ↓bsplit_true, ↓bsplit_false, ↓reduceIte, Nat.reduceLT, Nat.reduceLeDiff, Nat.reduceEqDiff, Nat.reduceAdd, Nat.reduceSub, Nat.reduceMul, Nat.reduceBEq, Nat.reduceBNe, reduceCtorEq, Int.reduceEq, Int.reduceLT, Int.reduceLE, Int.reduceAdd, Int.reduceSub, Int.reduceMul, Int.reduceToNat, ↓xs11, ↓xs12, ↓xs13, ↓xs24, ↓xs34, ↓xs48]
      repeat (refine And.intro (a := (_ = true)) (by first | (simp; done) | (simp; omega)) ?_)
      simp only [layJ, fu5, fuL]
      exact ObQ.mk [0, 1, 2, 3, 4] (by decide) rfl rfl rfl ⟨rfl, rfl, by simp only [renCt, hf.ren]; exact rfl, rfl, rfl, trivial⟩
    · rw [if_neg hz] at hdr
      have hnx2 := hnx (by rw [hq, hdr]; omega)
      clear ih hnx
      refine ExQ_ok [] 4000 plsOk kJ0_ok ?_
      (try rw [exh]); simp (maxSteps := 4000000) only [hs, h, e, hsn, hz, go_sem, ↓bsplit_true, ↓bsplit_false, ↓reduceIte, Nat.reduceLT, Nat.reduceLeDiff, Nat.reduceEqDiff, Nat.reduceAdd, Nat.reduceSub, Nat.reduceMul, Nat.reduceBEq, Nat.reduceBNe, reduceCtorEq, Int.reduceEq, Int.reduceLT, Int.reduceLE, Int.reduceAdd, Int.reduceSub, Int.reduceMul, Int.reduceToNat, ↓xs11, ↓xs12, ↓xs13, ↓xs24, ↓xs34, ↓xs48]
      repeat (refine And.intro (a := (_ = true)) (by first | (simp; done) | (simp; omega)) ?_)
      refine Rch.fit2K hC [0, 1, 2, 3, 4, 5, 6, 7, 8, 9] rfl (c' := ⟨[⟨48, 28, [(13, .v (.int .i64 ((i + 1 : Nat) : Int))), (12, .v (.int .i64 rs.length)), (11, .sl 2 0 1 rs.length none), (3, .v (.int .i64 (q1 + z))), (0, .yld 9)], [.lp c48_11, .blk 0], none, [], []⟩, ⟨13, 19, [(3, .ptr 6 0 1 0), (1, .ptr 5 0 1 0)], [.rf 9, .blk 0, .code c13_6], none, [8], []⟩], [some (.lit [.ptr 1 0 9 0, .sl 2 0 1 rs.length none]), some (.lit [.sl 3 0 1 l.length none, .v (.int .i64 f), .sl 4 0 1 x.length none, .v (.int .i64 xf), .v (.int .i64 room), .v (.int .i64 m), .v (.pointer none), .v (.bool out), .v (.bool true)]), some (.rows 1 rs), some (.num .u8 l), some (.num .u8 x), some (.lit [.ptr 0 0 2 0]), some (.lit [.v (.int .i64 ((i + 1 : Nat) : Int))]), some (.lit [.ptr 0 0 2 0]), some .defs, some (.loop .ready none 13 19 [(6, .fn 48 [] [.ptr 7 0 1 0]), (5, .ptr 0 0 2 0), (3, .ptr 6 0 1 0), (2, .v (.int .i64 0)), (1, .ptr 5 0 1 0), (0, .ptr 0 0 2 0)] [7, 8] c13_10 c13_11 8)]⟩) ⟨by decide, rfl, ⟨_, _, rfl, .mk' ⟨rfl, rfl, rfl, rfl, rfl, trivial⟩ rfl rfl rfl rfl (fun l h => by cases h) rfl rfl, _, _, rfl, .mk' ⟨rfl, rfl, trivial⟩ rfl rfl rfl rfl (fun l h => by cases h) rfl rfl, rfl⟩, ⟨⟨rfl, rfl⟩, ⟨rfl, rfl⟩, ⟨by simp only [renCt, hf.ren]; exact rfl, by simp only [lvCt, hf.lv]⟩, ⟨rfl, rfl⟩, ⟨rfl, rfl⟩, ⟨rfl, rfl⟩, ⟨rfl, rfl⟩, ⟨rfl, rfl⟩, ⟨rfl, rfl⟩, ⟨rfl, rfl⟩, trivial⟩⟩ ?_
      exact hnx2
  · clear ih
    obtain rfl : i = rs.length := by omega
    rw [List.drop_of_length_le (by rw [bys_len]; exact Nat.le_refl _), fmN, Nat.add_zero] at hq
    rw [hq]
    refine ExQ_ok [] 4000 plsOk kJ0_ok ?_
    (try rw [exh]); simp (maxSteps := 4000000) only [hs, h, go_sem, ↓bsplit_true, ↓bsplit_false, ↓reduceIte, Nat.reduceLT, Nat.reduceLeDiff, Nat.reduceEqDiff, Nat.reduceAdd, Nat.reduceSub, Nat.reduceMul, Nat.reduceBEq, Nat.reduceBNe, reduceCtorEq, Int.reduceEq, Int.reduceLT, Int.reduceLE, Int.reduceAdd, Int.reduceSub, Int.reduceMul, Int.reduceToNat, ↓xs11, ↓xs12, ↓xs13, ↓xs24, ↓xs34, ↓xs48]
    repeat (refine And.intro (a := (_ = true)) (by first | (simp; done) | (simp; omega)) ?_)
    simp only [layJ, fu5, fuL]
    exact ObQ.mk [0, 1, 2, 3, 4] (by decide) rfl rfl rfl ⟨rfl, rfl, by simp only [renCt, hf.ren]; exact rfl, rfl, rfl, trivial⟩
set_option maxRecDepth 100000 in
set_option maxHeartbeats 8000000 in
theorem jfirm_n (l : List Int) (f : Int) (x : List Int) (xf room m : Int) (out : Bool) (rs : List (List AV)) (hs : numOk ⟨l, f, x, xf, room, m, none, out⟩ = true) (hr : rs.all isB = true) (hrn : rs.length ≤ 1000000000) (hrb : ∀ y ∈ bys rs, y.length ≤ 1000000) : Word Try.prog (plOf pls) 13 [.ptr 0 0 2 0] (layJ ⟨l, f, x, xf, room, m, none, out⟩ rs) (ObQ 5 (.v (.int .i64 (fmN f 0 (bys rs) : Nat))) (layJ ⟨l, f, x, xf, room, m, none, out⟩ rs ++ [])) := by
  have hf := isB_flat hr
  refine ⟨_, fi13, by simp, fun C hC hl => ?_⟩
  have hC' : C.β.b.length = 5 := hl
  refine ExQ_ok [] 4000 plsOk kJ0_ok ?_
  simp only [conf0]
  (try rw [exh]); simp (maxSteps := 4000000) only [hs, layJ, fu5, go_sem, ↓bsplit_true, ↓bsplit_false, ↓reduceIte, Nat.reduceLT, Nat.reduceLeDiff, Nat.reduceEqDiff, Nat.reduceAdd, Nat.reduceSub, Nat.reduceMul, Nat.reduceBEq, Nat.reduceBNe, reduceCtorEq, Int.reduceEq, Int.reduceLT, Int.reduceLE, Int.reduceAdd, Int.reduceSub, Int.reduceMul, Int.reduceToNat, ↓xs11, ↓xs12, ↓xs13, ↓xs24, ↓xs34, ↓xs48]
  repeat (refine And.intro (a := (_ = true)) (by first | (simp; done) | (simp; omega)) ?_)
  refine Rch.loop plsOk ?_
  refine Rch.fit2K hC' [0, 1, 2, 3, 4, 5, 6, 7, 8, 9] rfl (c' := ⟨[⟨48, 28, [(13, .v (.int .i64 ((0 : Nat) : Int))), (12, .v (.int .i64 rs.length)), (11, .sl 2 0 1 rs.length none), (3, .v (.int .i64 0)), (0, .yld 9)], [.code c48_11, .lp c48_11, .blk 0], none, [], []⟩, ⟨13, 19, [(3, .ptr 6 0 1 0), (1, .ptr 5 0 1 0)], [.rf 9, .blk 0, .code c13_6], none, [8], []⟩], [some (.lit [.ptr 1 0 9 0, .sl 2 0 1 rs.length none]), some (.lit [.sl 3 0 1 l.length none, .v (.int .i64 f), .sl 4 0 1 x.length none, .v (.int .i64 xf), .v (.int .i64 room), .v (.int .i64 m), .v (.pointer none), .v (.bool out), .v (.bool true)]), some (.rows 1 rs), some (.num .u8 l), some (.num .u8 x), some (.lit [.ptr 0 0 2 0]), some (.lit [.v (.int .i64 ((0 : Nat) : Int))]), some (.lit [.ptr 0 0 2 0]), some .defs, some (.loop .ready none 13 19 [(6, .fn 48 [] [.ptr 7 0 1 0]), (5, .ptr 0 0 2 0), (3, .ptr 6 0 1 0), (2, .v (.int .i64 0)), (1, .ptr 5 0 1 0), (0, .ptr 0 0 2 0)] [7, 8] c13_10 c13_11 8)]⟩) ⟨by decide, rfl, ⟨_, _, rfl, .mk' ⟨rfl, rfl, rfl, rfl, rfl, trivial⟩ rfl rfl rfl rfl (fun l h => by cases h) rfl rfl, _, _, rfl, .mk' ⟨rfl, rfl, trivial⟩ rfl rfl rfl rfl (fun l h => by cases h) rfl rfl, rfl⟩, ⟨⟨rfl, rfl⟩, ⟨rfl, rfl⟩, ⟨by simp only [renCt, hf.ren]; exact rfl, by simp only [lvCt, hf.lv]⟩, ⟨rfl, rfl⟩, ⟨rfl, rfl⟩, ⟨rfl, rfl⟩, ⟨rfl, rfl⟩, ⟨rfl, rfl⟩, ⟨rfl, rfl⟩, ⟨rfl, rfl⟩, trivial⟩⟩ ?_
  have hgo := jfirm_go_n l f x xf room m out rs hs hr hrn hrb C hC'
  suffices H : ∀ (d i : Nat) (q1 : Int), rs.length - i ≤ d → i ≤ rs.length → 0 ≤ q1 → q1 ≤ 4008 * i → fmN f 0 (bys rs) = i + fmN f q1 ((bys rs).drop i) → Rch Try.prog (plOf pls) C ⟨[⟨48, 28, [(13, .v (.int .i64 i)), (12, .v (.int .i64 rs.length)), (11, .sl 2 0 1 rs.length none), (3, .v (.int .i64 q1)), (0, .yld 9)], [.code c48_11, .lp c48_11, .blk 0], none, [], []⟩, ⟨13, 19, [(3, .ptr 6 0 1 0), (1, .ptr 5 0 1 0)], [.rf 9, .blk 0, .code c13_6], none, [8], []⟩], [some (.lit [.ptr 1 0 9 0, .sl 2 0 1 rs.length none]), some (.lit [.sl 3 0 1 l.length none, .v (.int .i64 f), .sl 4 0 1 x.length none, .v (.int .i64 xf), .v (.int .i64 room), .v (.int .i64 m), .v (.pointer none), .v (.bool out), .v (.bool true)]), some (.rows 1 rs), some (.num .u8 l), some (.num .u8 x), some (.lit [.ptr 0 0 2 0]), some (.lit [.v (.int .i64 i)]), some (.lit [.ptr 0 0 2 0]), some .defs, some (.loop .ready none 13 19 [(6, .fn 48 [] [.ptr 7 0 1 0]), (5, .ptr 0 0 2 0), (3, .ptr 6 0 1 0), (2, .v (.int .i64 0)), (1, .ptr 5 0 1 0), (0, .ptr 0 0 2 0)] [7, 8] c13_10 c13_11 8)]⟩ (ObQ 5 (.v (.int .i64 (fmN f 0 (bys rs) : Nat))) (layJ ⟨l, f, x, xf, room, m, none, out⟩ rs ++ [])) from H rs.length 0 0 (by omega) (Nat.zero_le _) (by omega) (by omega) (by simp)
  intro d
  induction d with
  | zero =>
    intro i q1 hd hi h0 h1 hq
    exact hgo i q1 hi h0 h1 hq fun q2 hlt _ _ _ => by omega
  | succ d ihd =>
    intro i q1 hd hi h0 h1 hq
    exact hgo i q1 hi h0 h1 hq fun q2 hlt h2 h3 h4 => Rch.round plsOk (ihd (i + 1) q2 (by omega) (by omega) h2 (by omega) h4)
set_option maxRecDepth 100000 in
set_option maxHeartbeats 8000000 in
theorem jlen_s (l : List Int) (f : Int) (x : List Int) (xf room m : Int) (w : Int) (out : Bool) (rs : List (List AV)) (hs : numOk ⟨l, f, x, xf, room, m, some w, out⟩ = true) (hr : rs.all isB = true) (hrn : rs.length ≤ 1000000000) (hrb : ∀ y ∈ bys rs, y.length ≤ 1000000) : Word Try.prog (plOf pls) 12 [.ptr 0 0 2 0] (layJ ⟨l, f, x, xf, room, m, some w, out⟩ rs) (ObQ 6 (.v (.int .i64 rs.length)) (layJ ⟨l, f, x, xf, room, m, some w, out⟩ rs ++ [])) := by
  have hf := isB_flat hr
  refine ⟨_, fi12, by simp, fun C hC hl => ?_⟩
  refine ExQ_ok [] 4000 plsOk kJ0_ok ?_
  simp only [conf0, layJ, fu5, fuL]
  (try rw [exh]); simp (maxSteps := 4000000) only [hs, go_sem, ↓bsplit_true, ↓bsplit_false, ↓reduceIte, Nat.reduceLT, Nat.reduceLeDiff, Nat.reduceEqDiff, Nat.reduceAdd, Nat.reduceSub, Nat.reduceMul, Nat.reduceBEq, Nat.reduceBNe, reduceCtorEq, Int.reduceEq, Int.reduceLT, Int.reduceLE, Int.reduceAdd, Int.reduceSub, Int.reduceMul, Int.reduceToNat, ↓xs11, ↓xs12, ↓xs13, ↓xs24, ↓xs34, ↓xs48]
  repeat (refine And.intro (a := (_ = true)) (by first | (simp; done) | (simp; omega)) ?_)
  exact ObQ.mk [0, 1, 2, 3, 4, 5] (by decide) rfl rfl rfl ⟨rfl, rfl, by simp only [renCt, hf.ren]; exact rfl, rfl, rfl, rfl, trivial⟩
set_option maxRecDepth 100000 in
set_option maxHeartbeats 8000000 in
theorem jall_go_s (l : List Int) (f : Int) (x : List Int) (xf room m : Int) (w : Int) (out : Bool) (rs : List (List AV)) (hs : numOk ⟨l, f, x, xf, room, m, some w, out⟩ = true) (hr : rs.all isB = true) (hrn : rs.length ≤ 1000000000) (hrb : ∀ y ∈ bys rs, y.length ≤ 1000000) (C : Ctx) (hC : C.β.b.length = 6) (i : Nat) (q1 : Int) (hi : i ≤ rs.length) (ha0 : 0 ≤ q1) (ha1 : q1 ≤ 4008 * i)
   (ih : ∀ q2 : Int, i < rs.length → 0 ≤ q2 → q2 ≤ 4008 * (i + 1) → Rch Try.prog (plOf pls) C ⟨[⟨48, 28, [(13, .v (.int .i64 ((i + 1 : Nat) : Int))), (12, .v (.int .i64 rs.length)), (11, .sl 2 0 1 rs.length none), (3, .v (.int .i64 q2)), (0, .yld 9)], [.lp c48_11, .blk 0], none, [], []⟩, ⟨11, 16, [(3, .ptr 6 0 1 0)], [.rf 9, .blk 0, .code c11_6], none, [8], []⟩], [some (.lit [.ptr 1 0 9 0, .sl 2 0 1 rs.length none]), some (.lit [.sl 3 0 1 l.length none, .v (.int .i64 f), .sl 4 0 1 x.length none, .v (.int .i64 xf), .v (.int .i64 room), .v (.int .i64 m), .ptr 5 0 1 0, .v (.bool out), .v (.bool true)]), some (.rows 1 rs), some (.num .u8 l), some (.num .u8 x), some (.lit [.v (.int .i64 w)]), some (.lit [.sl 10 0 1 (i + 1) none]), some (.lit [.ptr 0 0 2 0]), some .defs, some (.loop .ready none 11 16 [(7, .fn 48 [] [.ptr 7 0 1 0]), (6, .ptr 0 0 2 0), (3, .ptr 6 0 1 0), (2, .nil), (0, .ptr 0 0 2 0)] [8, 9] c11_10 c11_11 8), some (.rows 1 (((bys rs).take (i + 1)).map rwN))]⟩ (ObQ 6 (.sl 6 0 1 rs.length none) (layJ ⟨l, f, x, xf, room, m, some w, out⟩ rs ++ [some (.rows 1 ((bys rs).map rwN))]))) :
   Rch Try.prog (plOf pls) C ⟨[⟨48, 28, [(13, .v (.int .i64 i)), (12, .v (.int .i64 rs.length)), (11, .sl 2 0 1 rs.length none), (3, .v (.int .i64 q1)), (0, .yld 9)], [.code c48_11, .lp c48_11, .blk 0], none, [], []⟩, ⟨11, 16, [(3, .ptr 6 0 1 0)], [.rf 9, .blk 0, .code c11_6], none, [8], []⟩], [some (.lit [.ptr 1 0 9 0, .sl 2 0 1 rs.length none]), some (.lit [.sl 3 0 1 l.length none, .v (.int .i64 f), .sl 4 0 1 x.length none, .v (.int .i64 xf), .v (.int .i64 room), .v (.int .i64 m), .ptr 5 0 1 0, .v (.bool out), .v (.bool true)]), some (.rows 1 rs), some (.num .u8 l), some (.num .u8 x), some (.lit [.v (.int .i64 w)]), some (.lit [.sl 10 0 1 i none]), some (.lit [.ptr 0 0 2 0]), some .defs, some (.loop .ready none 11 16 [(7, .fn 48 [] [.ptr 7 0 1 0]), (6, .ptr 0 0 2 0), (3, .ptr 6 0 1 0), (2, .nil), (0, .ptr 0 0 2 0)] [8, 9] c11_10 c11_11 8), some (.rows 1 (((bys rs).take i).map rwN))]⟩ (ObQ 6 (.sl 6 0 1 rs.length none) (layJ ⟨l, f, x, xf, room, m, some w, out⟩ rs ++ [some (.rows 1 ((bys rs).map rwN))])) := by
  have hf := isB_flat hr
  by_cases h : (i : Int) < rs.length
  · have hi' : i < rs.length := by omega
    have e := isB_row hr hi'
    have h5 : (((bys rs).take (i + 1)).map rwN) = ((bys rs).take i).map rwN ++ [[AV.imn false .u8 (byA rs i) none]] := by rw [bys_succ hi', List.map_append]; rfl
    have hfn2 := isB_flat (rwN_all ((bys rs).take (i + 1)))
    have hrl : (((bys rs).take i).map rwN).length = i := by rw [List.length_map, List.length_take, bys_len]; omega
    have hrl2 : (((bys rs).take (i + 1)).map rwN).length = i + 1 := by rw [List.length_map, List.length_take, bys_len]; omega
    have htx : List.take i (((bys rs).take i).map rwN) = ((bys rs).take i).map rwN := List.take_of_length_le (by omega)
    have hty : List.take (byA rs i).length (byA rs i) = byA rs i := List.take_of_length_le (Nat.le_refl _)
    have hlx := hrb (byA rs i) (List.mem_of_getElem? (bys_get hi'))
    have hsz := siz_le (byA rs i).length
    have hnx := ih (q1 + sizN ((byA rs i).length : Nat)) hi' (by omega) (by omega)
    generalize hsn : sizN ((byA rs i).length : Nat) = z at *
    have hsy := h5.symm
    generalize ((bys rs).take i).map rwN = xs at *
    generalize ((bys rs).take (i + 1)).map rwN = ys at *
    refine ExQ_ok [] 4000 plsOk kJ0_ok ?_
    (try rw [exh]); simp (maxSteps := 4000000) only [hs, h, e, hsn, htx, hty, hsy, hrl, hrl2, List.nil_append, List.take_nil, go_sem, ↓bsplit_true, ↓bsplit_false, ↓reduceIte, Nat.reduceLT, Nat.reduceLeDiff, Nat.reduceEqDiff, Nat.reduceAdd, Nat.reduceSub, Nat.reduceMul, Nat.reduceBEq, Nat.reduceBNe, reduceCtorEq, Int.reduceEq, Int.reduceLT, Int.reduceLE, Int.reduceAdd, Int.reduceSub, Int.reduceMul, Int.reduceToNat, ↓xs11, ↓xs12, ↓xs13, ↓xs24, ↓xs34, ↓xs48]
    repeat (refine And.intro (a := (_ = true)) (by first | (simp; done) | (simp; omega)) ?_)
    refine Rch.fit2K hC [0, 1, 2, 3, 4, 5, 6, 7, 8, 9, 13] rfl (c' := ⟨[⟨48, 28, [(13, .v (.int .i64 ((i + 1 : Nat) : Int))), (12, .v (.int .i64 rs.length)), (11, .sl 2 0 1 rs.length none), (3, .v (.int .i64 (q1 + z))), (0, .yld 9)], [.lp c48_11, .blk 0], none, [], []⟩, ⟨11, 16, [(3, .ptr 6 0 1 0)], [.rf 9, .blk 0, .code c11_6], none, [8], []⟩], [some (.lit [.ptr 1 0 9 0, .sl 2 0 1 rs.length none]), some (.lit [.sl 3 0 1 l.length none, .v (.int .i64 f), .sl 4 0 1 x.length none, .v (.int .i64 xf), .v (.int .i64 room), .v (.int .i64 m), .ptr 5 0 1 0, .v (.bool out), .v (.bool true)]), some (.rows 1 rs), some (.num .u8 l), some (.num .u8 x), some (.lit [.v (.int .i64 w)]), some (.lit [.sl 10 0 1 (i + 1) none]), some (.lit [.ptr 0 0 2 0]), some .defs, some (.loop .ready none 11 16 [(7, .fn 48 [] [.ptr 7 0 1 0]), (6, .ptr 0 0 2 0), (3, .ptr 6 0 1 0), (2, .nil), (0, .ptr 0 0 2 0)] [8, 9] c11_10 c11_11 8), some (.rows 1 ys)]⟩) ⟨by decide, rfl, ⟨_, _, rfl, .mk' ⟨rfl, rfl, rfl, rfl, rfl, trivial⟩ rfl rfl rfl rfl (fun l h => by cases h) rfl rfl, _, _, rfl, .mk' ⟨rfl, trivial⟩ rfl rfl rfl rfl (fun l h => by cases h) rfl rfl, rfl⟩, ⟨⟨rfl, rfl⟩, ⟨rfl, rfl⟩, ⟨by simp only [renCt, hf.ren]; exact rfl, by simp only [lvCt, hf.lv]⟩, ⟨rfl, rfl⟩, ⟨rfl, rfl⟩, ⟨rfl, rfl⟩, ⟨rfl, rfl⟩, ⟨rfl, rfl⟩, ⟨rfl, rfl⟩, ⟨rfl, rfl⟩, ⟨by simp only [renCt, hfn2.ren]; exact rfl, by simp only [lvCt, hfn2.lv]⟩, trivial⟩⟩ ?_
    exact hnx
  · clear ih
    obtain rfl : i = rs.length := by omega
    have ht : (bys rs).take rs.length = bys rs := List.take_of_length_le (by rw [bys_len]; exact Nat.le_refl _)
    rw [ht]
    have hfy := isB_flat (rwN_all (bys rs))
    generalize (bys rs).map rwN = ys at *
    refine ExQ_ok [] 4000 plsOk kJ0_ok ?_
    (try rw [exh]); simp (maxSteps := 4000000) only [hs, h, go_sem, ↓bsplit_true, ↓bsplit_false, ↓reduceIte, Nat.reduceLT, Nat.reduceLeDiff, Nat.reduceEqDiff, Nat.reduceAdd, Nat.reduceSub, Nat.reduceMul, Nat.reduceBEq, Nat.reduceBNe, reduceCtorEq, Int.reduceEq, Int.reduceLT, Int.reduceLE, Int.reduceAdd, Int.reduceSub, Int.reduceMul, Int.reduceToNat, ↓xs11, ↓xs12, ↓xs13, ↓xs24, ↓xs34, ↓xs48]
    repeat (refine And.intro (a := (_ = true)) (by first | (simp; done) | (simp; omega)) ?_)
    simp only [layJ, fu5, fuL]
    exact ObQ.mk [0, 1, 2, 3, 4, 5, 10] (by decide) rfl rfl rfl ⟨rfl, rfl, by simp only [renCt, hf.ren]; exact rfl, rfl, rfl, rfl, by simp only [renCt, hfy.ren]; exact rfl, trivial⟩
set_option maxRecDepth 100000 in
set_option maxHeartbeats 8000000 in
theorem jall_s (l : List Int) (f : Int) (x : List Int) (xf room m : Int) (w : Int) (out : Bool) (rs : List (List AV)) (hs : numOk ⟨l, f, x, xf, room, m, some w, out⟩ = true) (hr : rs.all isB = true) (hrn : rs.length ≤ 1000000000) (hrb : ∀ y ∈ bys rs, y.length ≤ 1000000) : Word Try.prog (plOf pls) 11 [.ptr 0 0 2 0] (layJ ⟨l, f, x, xf, room, m, some w, out⟩ rs) (ObQ 6 (.sl 6 0 1 rs.length none) (layJ ⟨l, f, x, xf, room, m, some w, out⟩ rs ++ [some (.rows 1 ((bys rs).map rwN))])) := by
  have hf := isB_flat hr
  refine ⟨_, fi11, by simp, fun C hC hl => ?_⟩
  have hC' : C.β.b.length = 6 := hl
  refine ExQ_ok [] 4000 plsOk kJ0_ok ?_
  simp only [conf0]
  (try rw [exh]); simp (maxSteps := 4000000) only [hs, layJ, fu5, go_sem, ↓bsplit_true, ↓bsplit_false, ↓reduceIte, Nat.reduceLT, Nat.reduceLeDiff, Nat.reduceEqDiff, Nat.reduceAdd, Nat.reduceSub, Nat.reduceMul, Nat.reduceBEq, Nat.reduceBNe, reduceCtorEq, Int.reduceEq, Int.reduceLT, Int.reduceLE, Int.reduceAdd, Int.reduceSub, Int.reduceMul, Int.reduceToNat, ↓xs11, ↓xs12, ↓xs13, ↓xs24, ↓xs34, ↓xs48]
  repeat (refine And.intro (a := (_ = true)) (by first | (simp; done) | (simp; omega)) ?_)
  refine Rch.loop plsOk ?_
  refine Rch.wk rfl (nilrow (l := 6) (pre := []) 1 rfl 0 1) ?_
  refine Rch.fit2K hC' [0, 1, 2, 3, 4, 5, 6, 7, 8, 9, 10] rfl (c' := ⟨[⟨48, 28, [(13, .v (.int .i64 0)), (12, .v (.int .i64 rs.length)), (11, .sl 2 0 1 rs.length none), (3, .v (.int .i64 0)), (0, .yld 9)], [.code c48_11, .lp c48_11, .blk 0], none, [], []⟩, ⟨11, 16, [(3, .ptr 6 0 1 0)], [.rf 9, .blk 0, .code c11_6], none, [8], []⟩], [some (.lit [.ptr 1 0 9 0, .sl 2 0 1 rs.length none]), some (.lit [.sl 3 0 1 l.length none, .v (.int .i64 f), .sl 4 0 1 x.length none, .v (.int .i64 xf), .v (.int .i64 room), .v (.int .i64 m), .ptr 5 0 1 0, .v (.bool out), .v (.bool true)]), some (.rows 1 rs), some (.num .u8 l), some (.num .u8 x), some (.lit [.v (.int .i64 w)]), some (.lit [.sl 10 0 1 0 none]), some (.lit [.ptr 0 0 2 0]), some .defs, some (.loop .ready none 11 16 [(7, .fn 48 [] [.ptr 7 0 1 0]), (6, .ptr 0 0 2 0), (3, .ptr 6 0 1 0), (2, .nil), (0, .ptr 0 0 2 0)] [8, 9] c11_10 c11_11 8), some (.rows 1 (((bys rs).take 0).map rwN))]⟩) ⟨by decide, rfl, ⟨_, _, rfl, .mk' ⟨rfl, rfl, rfl, rfl, rfl, trivial⟩ rfl rfl rfl rfl (fun l h => by cases h) rfl rfl, _, _, rfl, .mk' ⟨rfl, trivial⟩ rfl rfl rfl rfl (fun l h => by cases h) rfl rfl, rfl⟩, ⟨⟨rfl, rfl⟩, ⟨rfl, rfl⟩, ⟨by simp only [renCt, hf.ren]; exact rfl, by simp only [lvCt, hf.lv]⟩, ⟨rfl, rfl⟩, ⟨rfl, rfl⟩, ⟨rfl, rfl⟩, ⟨rfl, rfl⟩, ⟨rfl, rfl⟩, ⟨rfl, rfl⟩, ⟨rfl, rfl⟩, ⟨rfl, rfl⟩, trivial⟩⟩ ?_
  have hgo := jall_go_s l f x xf room m w out rs hs hr hrn hrb C hC'
  suffices H : ∀ (d i : Nat) (q1 : Int), rs.length - i ≤ d → i ≤ rs.length → 0 ≤ q1 → q1 ≤ 4008 * i → Rch Try.prog (plOf pls) C ⟨[⟨48, 28, [(13, .v (.int .i64 i)), (12, .v (.int .i64 rs.length)), (11, .sl 2 0 1 rs.length none), (3, .v (.int .i64 q1)), (0, .yld 9)], [.code c48_11, .lp c48_11, .blk 0], none, [], []⟩, ⟨11, 16, [(3, .ptr 6 0 1 0)], [.rf 9, .blk 0, .code c11_6], none, [8], []⟩], [some (.lit [.ptr 1 0 9 0, .sl 2 0 1 rs.length none]), some (.lit [.sl 3 0 1 l.length none, .v (.int .i64 f), .sl 4 0 1 x.length none, .v (.int .i64 xf), .v (.int .i64 room), .v (.int .i64 m), .ptr 5 0 1 0, .v (.bool out), .v (.bool true)]), some (.rows 1 rs), some (.num .u8 l), some (.num .u8 x), some (.lit [.v (.int .i64 w)]), some (.lit [.sl 10 0 1 i none]), some (.lit [.ptr 0 0 2 0]), some .defs, some (.loop .ready none 11 16 [(7, .fn 48 [] [.ptr 7 0 1 0]), (6, .ptr 0 0 2 0), (3, .ptr 6 0 1 0), (2, .nil), (0, .ptr 0 0 2 0)] [8, 9] c11_10 c11_11 8), some (.rows 1 (((bys rs).take i).map rwN))]⟩ (ObQ 6 (.sl 6 0 1 rs.length none) (layJ ⟨l, f, x, xf, room, m, some w, out⟩ rs ++ [some (.rows 1 ((bys rs).map rwN))])) from H rs.length 0 0 (by omega) (Nat.zero_le _) (by omega) (by omega)
  intro d
  induction d with
  | zero =>
    intro i q1 hd hi h0 h1
    exact hgo i q1 hi h0 h1 fun q2 hlt _ _ => by omega
  | succ d ihd =>
    intro i q1 hd hi h0 h1
    exact hgo i q1 hi h0 h1 fun q2 hlt h2 h3 => Rch.round plsOk (ihd (i + 1) q2 (by omega) (by omega) h2 (by omega))
set_option maxRecDepth 100000 in
set_option maxHeartbeats 8000000 in
theorem jfirm_go_s (l : List Int) (f : Int) (x : List Int) (xf room m : Int) (w : Int) (out : Bool) (rs : List (List AV)) (hs : numOk ⟨l, f, x, xf, room, m, some w, out⟩ = true) (hr : rs.all isB = true) (hrn : rs.length ≤ 1000000000) (hrb : ∀ y ∈ bys rs, y.length ≤ 1000000) (C : Ctx) (hC : C.β.b.length = 6) (i : Nat) (q1 : Int) (hi : i ≤ rs.length) (ha0 : 0 ≤ q1) (ha1 : q1 ≤ 4008 * i) (hq : fmN f 0 (bys rs) = i + fmN f q1 ((bys rs).drop i))
   (ih : ∀ q2 : Int, i < rs.length → 0 ≤ q2 → q2 ≤ 4008 * (i + 1) → fmN f 0 (bys rs) = i + 1 + fmN f q2 ((bys rs).drop (i + 1)) → Rch Try.prog (plOf pls) C ⟨[⟨48, 28, [(13, .v (.int .i64 ((i + 1 : Nat) : Int))), (12, .v (.int .i64 rs.length)), (11, .sl 2 0 1 rs.length none), (3, .v (.int .i64 q2)), (0, .yld 10)], [.lp c48_11, .blk 0], none, [], []⟩, ⟨13, 19, [(3, .ptr 7 0 1 0), (1, .ptr 6 0 1 0)], [.rf 10, .blk 0, .code c13_6], none, [9], []⟩], [some (.lit [.ptr 1 0 9 0, .sl 2 0 1 rs.length none]), some (.lit [.sl 3 0 1 l.length none, .v (.int .i64 f), .sl 4 0 1 x.length none, .v (.int .i64 xf), .v (.int .i64 room), .v (.int .i64 m), .ptr 5 0 1 0, .v (.bool out), .v (.bool true)]), some (.rows 1 rs), some (.num .u8 l), some (.num .u8 x), some (.lit [.v (.int .i64 w)]), some (.lit [.ptr 0 0 2 0]), some (.lit [.v (.int .i64 ((i + 1 : Nat) : Int))]), some (.lit [.ptr 0 0 2 0]), some .defs, some (.loop .ready none 13 19 [(6, .fn 48 [] [.ptr 8 0 1 0]), (5, .ptr 0 0 2 0), (3, .ptr 7 0 1 0), (2, .v (.int .i64 0)), (1, .ptr 6 0 1 0), (0, .ptr 0 0 2 0)] [7, 8] c13_10 c13_11 9)]⟩ (ObQ 6 (.v (.int .i64 (fmN f 0 (bys rs) : Nat))) (layJ ⟨l, f, x, xf, room, m, some w, out⟩ rs ++ []))) :
   Rch Try.prog (plOf pls) C ⟨[⟨48, 28, [(13, .v (.int .i64 i)), (12, .v (.int .i64 rs.length)), (11, .sl 2 0 1 rs.length none), (3, .v (.int .i64 q1)), (0, .yld 10)], [.code c48_11, .lp c48_11, .blk 0], none, [], []⟩, ⟨13, 19, [(3, .ptr 7 0 1 0), (1, .ptr 6 0 1 0)], [.rf 10, .blk 0, .code c13_6], none, [9], []⟩], [some (.lit [.ptr 1 0 9 0, .sl 2 0 1 rs.length none]), some (.lit [.sl 3 0 1 l.length none, .v (.int .i64 f), .sl 4 0 1 x.length none, .v (.int .i64 xf), .v (.int .i64 room), .v (.int .i64 m), .ptr 5 0 1 0, .v (.bool out), .v (.bool true)]), some (.rows 1 rs), some (.num .u8 l), some (.num .u8 x), some (.lit [.v (.int .i64 w)]), some (.lit [.ptr 0 0 2 0]), some (.lit [.v (.int .i64 i)]), some (.lit [.ptr 0 0 2 0]), some .defs, some (.loop .ready none 13 19 [(6, .fn 48 [] [.ptr 8 0 1 0]), (5, .ptr 0 0 2 0), (3, .ptr 7 0 1 0), (2, .v (.int .i64 0)), (1, .ptr 6 0 1 0), (0, .ptr 0 0 2 0)] [7, 8] c13_10 c13_11 9)]⟩ (ObQ 6 (.v (.int .i64 (fmN f 0 (bys rs) : Nat))) (layJ ⟨l, f, x, xf, room, m, some w, out⟩ rs ++ [])) := by
  have hf := isB_flat hr
  by_cases h : (i : Int) < rs.length
  · have hi' : i < rs.length := by omega
    have e := isB_row hr hi'
    have hsz := siz_le (byA rs i).length
    have hdr := fm_drop f q1 hi'
    have hnx := ih (q1 + sizN ((byA rs i).length : Nat)) hi' (by omega) (by omega)
    generalize hsn : sizN ((byA rs i).length : Nat) = z at *
    by_cases hz : f < q1 + z
    · rw [if_pos hz] at hdr
      rw [hdr, Nat.add_zero] at hq
      clear ih hnx
      rw [hq]
      refine ExQ_ok [] 4000 plsOk kJ0_ok ?_
      (try rw [exh]); simp (maxSteps := 4000000) only [hs, h, e, hsn, hz, go_sem, ↓bsplit_true, ↓bsplit_false, ↓reduceIte, Nat.reduceLT, Nat.reduceLeDiff, Nat.reduceEqDiff, Nat.reduceAdd, Nat.reduceSub, Nat.reduceMul, Nat.reduceBEq, Nat.reduceBNe, reduceCtorEq, Int.reduceEq, Int.reduceLT, Int.reduceLE, Int.reduceAdd, Int.reduceSub, Int.reduceMul, Int.reduceToNat, ↓xs11, ↓xs12, ↓xs13, ↓xs24, ↓xs34, ↓xs48]
      repeat (refine And.intro (a := (_ = true)) (by first | (simp; done) | (simp; omega)) ?_)
      simp only [layJ, fu5, fuL]
      exact ObQ.mk [0, 1, 2, 3, 4, 5] (by decide) rfl rfl rfl ⟨rfl, rfl, by simp only [renCt, hf.ren]; exact rfl, rfl, rfl, rfl, trivial⟩
    · rw [if_neg hz] at hdr
      have hnx2 := hnx (by rw [hq, hdr]; omega)
      clear ih hnx
      refine ExQ_ok [] 4000 plsOk kJ0_ok ?_
      (try rw [exh]); simp (maxSteps := 4000000) only [hs, h, e, hsn, hz, go_sem, ↓bsplit_true, ↓bsplit_false, ↓reduceIte, Nat.reduceLT, Nat.reduceLeDiff, Nat.reduceEqDiff, Nat.reduceAdd, Nat.reduceSub, Nat.reduceMul, Nat.reduceBEq, Nat.reduceBNe, reduceCtorEq, Int.reduceEq, Int.reduceLT, Int.reduceLE, Int.reduceAdd, Int.reduceSub, Int.reduceMul, Int.reduceToNat, ↓xs11, ↓xs12, ↓xs13, ↓xs24, ↓xs34, ↓xs48]
      repeat (refine And.intro (a := (_ = true)) (by first | (simp; done) | (simp; omega)) ?_)
      refine Rch.fit2K hC [0, 1, 2, 3, 4, 5, 6, 7, 8, 9, 10] rfl (c' := ⟨[⟨48, 28, [(13, .v (.int .i64 ((i + 1 : Nat) : Int))), (12, .v (.int .i64 rs.length)), (11, .sl 2 0 1 rs.length none), (3, .v (.int .i64 (q1 + z))), (0, .yld 10)], [.lp c48_11, .blk 0], none, [], []⟩, ⟨13, 19, [(3, .ptr 7 0 1 0), (1, .ptr 6 0 1 0)], [.rf 10, .blk 0, .code c13_6], none, [9], []⟩], [some (.lit [.ptr 1 0 9 0, .sl 2 0 1 rs.length none]), some (.lit [.sl 3 0 1 l.length none, .v (.int .i64 f), .sl 4 0 1 x.length none, .v (.int .i64 xf), .v (.int .i64 room), .v (.int .i64 m), .ptr 5 0 1 0, .v (.bool out), .v (.bool true)]), some (.rows 1 rs), some (.num .u8 l), some (.num .u8 x), some (.lit [.v (.int .i64 w)]), some (.lit [.ptr 0 0 2 0]), some (.lit [.v (.int .i64 ((i + 1 : Nat) : Int))]), some (.lit [.ptr 0 0 2 0]), some .defs, some (.loop .ready none 13 19 [(6, .fn 48 [] [.ptr 8 0 1 0]), (5, .ptr 0 0 2 0), (3, .ptr 7 0 1 0), (2, .v (.int .i64 0)), (1, .ptr 6 0 1 0), (0, .ptr 0 0 2 0)] [7, 8] c13_10 c13_11 9)]⟩) ⟨by decide, rfl, ⟨_, _, rfl, .mk' ⟨rfl, rfl, rfl, rfl, rfl, trivial⟩ rfl rfl rfl rfl (fun l h => by cases h) rfl rfl, _, _, rfl, .mk' ⟨rfl, rfl, trivial⟩ rfl rfl rfl rfl (fun l h => by cases h) rfl rfl, rfl⟩, ⟨⟨rfl, rfl⟩, ⟨rfl, rfl⟩, ⟨by simp only [renCt, hf.ren]; exact rfl, by simp only [lvCt, hf.lv]⟩, ⟨rfl, rfl⟩, ⟨rfl, rfl⟩, ⟨rfl, rfl⟩, ⟨rfl, rfl⟩, ⟨rfl, rfl⟩, ⟨rfl, rfl⟩, ⟨rfl, rfl⟩, ⟨rfl, rfl⟩, trivial⟩⟩ ?_
      exact hnx2
  · clear ih
    obtain rfl : i = rs.length := by omega
    rw [List.drop_of_length_le (by rw [bys_len]; exact Nat.le_refl _), fmN, Nat.add_zero] at hq
    rw [hq]
    refine ExQ_ok [] 4000 plsOk kJ0_ok ?_
    (try rw [exh]); simp (maxSteps := 4000000) only [hs, h, go_sem, ↓bsplit_true, ↓bsplit_false, ↓reduceIte, Nat.reduceLT, Nat.reduceLeDiff, Nat.reduceEqDiff, Nat.reduceAdd, Nat.reduceSub, Nat.reduceMul, Nat.reduceBEq, Nat.reduceBNe, reduceCtorEq, Int.reduceEq, Int.reduceLT, Int.reduceLE, Int.reduceAdd, Int.reduceSub, Int.reduceMul, Int.reduceToNat, ↓xs11, ↓xs12, ↓xs13, ↓xs24, ↓xs34, ↓xs48]
    repeat (refine And.intro (a := (_ = true)) (by first | (simp; done) | (simp; omega)) ?_)
    simp only [layJ, fu5, fuL]
    exact ObQ.mk [0, 1, 2, 3, 4, 5] (by decide) rfl rfl rfl ⟨rfl, rfl, by simp only [renCt, hf.ren]; exact rfl, rfl, rfl, rfl, trivial⟩
set_option maxRecDepth 100000 in
set_option maxHeartbeats 8000000 in
theorem jfirm_s (l : List Int) (f : Int) (x : List Int) (xf room m : Int) (w : Int) (out : Bool) (rs : List (List AV)) (hs : numOk ⟨l, f, x, xf, room, m, some w, out⟩ = true) (hr : rs.all isB = true) (hrn : rs.length ≤ 1000000000) (hrb : ∀ y ∈ bys rs, y.length ≤ 1000000) : Word Try.prog (plOf pls) 13 [.ptr 0 0 2 0] (layJ ⟨l, f, x, xf, room, m, some w, out⟩ rs) (ObQ 6 (.v (.int .i64 (fmN f 0 (bys rs) : Nat))) (layJ ⟨l, f, x, xf, room, m, some w, out⟩ rs ++ [])) := by
  have hf := isB_flat hr
  refine ⟨_, fi13, by simp, fun C hC hl => ?_⟩
  have hC' : C.β.b.length = 6 := hl
  refine ExQ_ok [] 4000 plsOk kJ0_ok ?_
  simp only [conf0]
  (try rw [exh]); simp (maxSteps := 4000000) only [hs, layJ, fu5, go_sem, ↓bsplit_true, ↓bsplit_false, ↓reduceIte, Nat.reduceLT, Nat.reduceLeDiff, Nat.reduceEqDiff, Nat.reduceAdd, Nat.reduceSub, Nat.reduceMul, Nat.reduceBEq, Nat.reduceBNe, reduceCtorEq, Int.reduceEq, Int.reduceLT, Int.reduceLE, Int.reduceAdd, Int.reduceSub, Int.reduceMul, Int.reduceToNat, ↓xs11, ↓xs12, ↓xs13, ↓xs24, ↓xs34, ↓xs48]
  repeat (refine And.intro (a := (_ = true)) (by first | (simp; done) | (simp; omega)) ?_)
  refine Rch.loop plsOk ?_
  refine Rch.fit2K hC' [0, 1, 2, 3, 4, 5, 6, 7, 8, 9, 10] rfl (c' := ⟨[⟨48, 28, [(13, .v (.int .i64 ((0 : Nat) : Int))), (12, .v (.int .i64 rs.length)), (11, .sl 2 0 1 rs.length none), (3, .v (.int .i64 0)), (0, .yld 10)], [.code c48_11, .lp c48_11, .blk 0], none, [], []⟩, ⟨13, 19, [(3, .ptr 7 0 1 0), (1, .ptr 6 0 1 0)], [.rf 10, .blk 0, .code c13_6], none, [9], []⟩], [some (.lit [.ptr 1 0 9 0, .sl 2 0 1 rs.length none]), some (.lit [.sl 3 0 1 l.length none, .v (.int .i64 f), .sl 4 0 1 x.length none, .v (.int .i64 xf), .v (.int .i64 room), .v (.int .i64 m), .ptr 5 0 1 0, .v (.bool out), .v (.bool true)]), some (.rows 1 rs), some (.num .u8 l), some (.num .u8 x), some (.lit [.v (.int .i64 w)]), some (.lit [.ptr 0 0 2 0]), some (.lit [.v (.int .i64 ((0 : Nat) : Int))]), some (.lit [.ptr 0 0 2 0]), some .defs, some (.loop .ready none 13 19 [(6, .fn 48 [] [.ptr 8 0 1 0]), (5, .ptr 0 0 2 0), (3, .ptr 7 0 1 0), (2, .v (.int .i64 0)), (1, .ptr 6 0 1 0), (0, .ptr 0 0 2 0)] [7, 8] c13_10 c13_11 9)]⟩) ⟨by decide, rfl, ⟨_, _, rfl, .mk' ⟨rfl, rfl, rfl, rfl, rfl, trivial⟩ rfl rfl rfl rfl (fun l h => by cases h) rfl rfl, _, _, rfl, .mk' ⟨rfl, rfl, trivial⟩ rfl rfl rfl rfl (fun l h => by cases h) rfl rfl, rfl⟩, ⟨⟨rfl, rfl⟩, ⟨rfl, rfl⟩, ⟨by simp only [renCt, hf.ren]; exact rfl, by simp only [lvCt, hf.lv]⟩, ⟨rfl, rfl⟩, ⟨rfl, rfl⟩, ⟨rfl, rfl⟩, ⟨rfl, rfl⟩, ⟨rfl, rfl⟩, ⟨rfl, rfl⟩, ⟨rfl, rfl⟩, ⟨rfl, rfl⟩, trivial⟩⟩ ?_
  have hgo := jfirm_go_s l f x xf room m w out rs hs hr hrn hrb C hC'
  suffices H : ∀ (d i : Nat) (q1 : Int), rs.length - i ≤ d → i ≤ rs.length → 0 ≤ q1 → q1 ≤ 4008 * i → fmN f 0 (bys rs) = i + fmN f q1 ((bys rs).drop i) → Rch Try.prog (plOf pls) C ⟨[⟨48, 28, [(13, .v (.int .i64 i)), (12, .v (.int .i64 rs.length)), (11, .sl 2 0 1 rs.length none), (3, .v (.int .i64 q1)), (0, .yld 10)], [.code c48_11, .lp c48_11, .blk 0], none, [], []⟩, ⟨13, 19, [(3, .ptr 7 0 1 0), (1, .ptr 6 0 1 0)], [.rf 10, .blk 0, .code c13_6], none, [9], []⟩], [some (.lit [.ptr 1 0 9 0, .sl 2 0 1 rs.length none]), some (.lit [.sl 3 0 1 l.length none, .v (.int .i64 f), .sl 4 0 1 x.length none, .v (.int .i64 xf), .v (.int .i64 room), .v (.int .i64 m), .ptr 5 0 1 0, .v (.bool out), .v (.bool true)]), some (.rows 1 rs), some (.num .u8 l), some (.num .u8 x), some (.lit [.v (.int .i64 w)]), some (.lit [.ptr 0 0 2 0]), some (.lit [.v (.int .i64 i)]), some (.lit [.ptr 0 0 2 0]), some .defs, some (.loop .ready none 13 19 [(6, .fn 48 [] [.ptr 8 0 1 0]), (5, .ptr 0 0 2 0), (3, .ptr 7 0 1 0), (2, .v (.int .i64 0)), (1, .ptr 6 0 1 0), (0, .ptr 0 0 2 0)] [7, 8] c13_10 c13_11 9)]⟩ (ObQ 6 (.v (.int .i64 (fmN f 0 (bys rs) : Nat))) (layJ ⟨l, f, x, xf, room, m, some w, out⟩ rs ++ [])) from H rs.length 0 0 (by omega) (Nat.zero_le _) (by omega) (by omega) (by simp)
  intro d
  induction d with
  | zero =>
    intro i q1 hd hi h0 h1 hq
    exact hgo i q1 hi h0 h1 hq fun q2 hlt _ _ _ => by omega
  | succ d ihd =>
    intro i q1 hd hi h0 h1 hq
    exact hgo i q1 hi h0 h1 hq fun q2 hlt h2 h3 h4 => Rch.round plsOk (ihd (i + 1) q2 (by omega) (by omega) h2 (by omega) h4)
end JW
end Go.Proofs.Ytlhjbjpcnncndaa
