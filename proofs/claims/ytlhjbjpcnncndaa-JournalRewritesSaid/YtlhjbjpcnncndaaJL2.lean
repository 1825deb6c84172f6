/- Journals' laws: the word of laid. -/
import Derived.Test.YtlhjbjpcnncndaaJL1
set_option linter.unusedSimpArgs false
set_option linter.unusedVariables false
namespace Go.Proofs.Ytlhjbjpcnncndaa
open Go Go.SY
namespace JL
open DW JW
attribute [local go_sem] Ex stops inK stepF frsF frF itemF codeF condF opsF opsW opF callO drF drO drW drC stepS wtS gdst gdl sopF pv evq orl bltF callF calleeS popF lopF bltP callP cls lvA rdl quiet p_move p_assign p_pick p_nilCheck
attribute [local go_sem] p_binOp p_unOp p_convert p_fieldAddr p_indexAddr p_index p_slice p_makeFunc p_extract p_field p_build p_len p_cap p_min p_max l_load l_convert l_slice zerR roomR appRR roomN appNN cpSrcN clN cpSrc cpR clR e_clear srcR dstR srcN dstN e_store e_alloc e_box e_buildSlice e_makeSlice e_append e_copy
attribute [local go_sem] e_convert SY.get SY.put SY.ev SY.mk SY.nth SY.lvl SY.setl SY.ini wid wids dr tk flat at1 pack parts rdC rdCt wrC wrCt ar bits2 bopInt bopStr bopEq isPtr isSl isBl eqPs eqLf bop pickAV bnd subO cutOf okMx fillA plFs nz
attribute [local go_sem] minI numsAt aOf hd1 hdL immL isArr ctOf rowsOf numsAV rep elCt wrRow killO chR enterS leaveS retS endS exitS gotoS finishS killL isDefs setPs roundS resS resAll tup1 conf0 AV.scal plk spz Ct.cell exq_zero exq_go exq_d exq_n lvCt lvE
attribute [local go_sem] exq_t exq_f exq_t0 exq_f0 List.toList_toArray Bool.and_true Bool.true_and Bool.not_false Bool.not_true List.contains_nil List.contains_cons Bool.or_false Bool.false_or Option.isSome_some Option.isSome_none Option.isNone_none Option.isNone_some true_and and_true Option.some.injEq Bool.false_eq_true List.map_cons List.map_nil List.all_cons List.all_nil Bool.and_self List.drop_succ_cons List.drop_zero List.length_cons List.length_nil List.cons_append List.nil_append Option.map_some Option.map_none List.append_nil Nat.zero_add Nat.add_zero Nat.sub_zero Nat.zero_mul Nat.mul_one
attribute [local go_sem] Int.toNat_natCast Int.toNat_zero Int.toNat_one Int.add_zero Int.sub_zero Int.cast_ofNat_Int decide_true decide_false Option.getD_some Option.getD_none ktB ktX ktOf conK extK ovlK rwz alive alive0 mks noMk lndL lnd lvB lvL lvR lvT tB_tt tB_ft tB_ff okBls shB ren renL renR renCt ne_eq not_false_eq_true not_true_eq_false and_false
attribute [local go_sem] false_and and_self ti0 ti1 ti2 ti3 ti4 ti5 ti6 ti7 ti8 ti9 ti10 ti11 ti12 ti13 ti14 ti15 ti16 ti17 ti18 ti19 ti20 ti21 ti22 ti23 ti24 ti25 ti26 ti27 ti28 ti29 ti30 ti31 ti32 ti33 ti34 ti35 ti36 ti37
attribute [local go_sem] ti38 ti39 ti40 ti41 ti42 ti43 ti44 ti45 ti46 ti47 ti48 ti49 ti50 ti51 ti52 ti53 ti54 ti55 ti56 ti57 ti58 ti59 ti60 ti61 ti62 ti63 ti64 ti65 ti66 ti67 ti68 ti69 ti70 ti71 ti72 ti73 ti74 ti75 ti76 ti77
attribute [local go_sem] ti78 ti79 ti80 ti81 ti82 ti83 ti84 ti85 ti86 ti87 ti88 ti89 ti90 ti91 ti92 ti93 ti94 ti95 ti96 ti97 ti98 ti99 ti100 ti101 ti102 ti103 ti104 regAt fi21 body21 Try.f21 fi15 body15 Try.f15 r15_1 r15_3 r15_5 r15_9 r15_13 r15_14
attribute [local go_sem] r21_1 r21_3 r21_7 r21_11 r21_14 r21_20 r21_26 r21_30 r21_24 r21_33 r21_37 r21_38 plA8 pl8 plA10 pl10 plA11 pl11 plA17 pl17 plA22 pl22 plA25 pl25 plA31 pl31 plA37 pl37 plA45 pl45 plA53 pl53 plA55 pl55
def kL0 : KT := kAll fun _ => none
theorem kL0_ok : KOk Try.prog (plOf pls) kL0 := kAll_ok noK
def lsF (ls : List (List Int)) (k i : Nat) : Nat := if k < i then (jn (ls.take k)).length else 0
def lsM (k i : Nat) : Nat := i + if k < i then 1 else 0
def laidS (ls : List (List Int)) (k : Nat) : DS := ⟨jn ls, ((jn (ls.take k)).length : Nat), [], 0, 1000000, (ls.length : Int) + 1, none, false⟩
theorem jn_small : ∀ {ls : List (List Int)}, (∀ x ∈ ls, x.length ≤ 200) → (jn ls).length ≤ 208 * ls.length
  | [], _ => by simp [jn]
  | x :: r, h => by
    have h1 := h x (List.mem_cons_self ..)
    have h2 := jn_small (ls := r) fun y hy => h y (List.mem_cons_of_mem _ hy)
    have e : jn (x :: r) = frm x ++ jn r := rfl
    rw [e, List.length_append, frm_len, List.length_cons]
    omega
attribute [local go_sem] kL0 kAll kJ kJ0 kDj kF ktOf ktO ktW conK objK objB updT mapB rhoN nm mrk readK sCln sPut sJoin sSplit sSize mapI DW.osB DW.osI DW.osK DW.osR findD mApp mNext mSync mSwitch mFirm mCrash mFuse rdV rdX sNew nilN
attribute [local go_sem] nilR List.append_nil List.nodup_cons List.mem_cons List.not_mem_nil List.take_succ_cons List.take_zero List.getD_cons_zero List.getD_cons_succ KB.btt KB.bff not_true_eq_false not_false_eq_true List.drop_zero List.length_replicate osJa osJs osJw osJr osOp findJ layJ layD layO fuL fuP fu5 jLen jFirm jAll jAllX
set_option maxRecDepth 100000 in
set_option maxHeartbeats 8000000 in
theorem laid_go (C : Ctx) (hC : C.β.b = []) (t : Bool) (rs : List (List AV)) (c : Option Nat) (hm : rs.all isB = true) (hb : finB rs = true) (k : Nat) (hk : k ≤ rs.length) (i : Nat) (hi : i ≤ rs.length)
   (ih : i < rs.length → Rch Try.prog (plOf pls) C ⟨[⟨21, 49, [(8, .v (.int .i64 ((i + 1 : Nat) : Int))), (7, .ptr 0 0 2 0), (6, .ptr 1 0 9 0), (1, .v (.int .i64 (k : Nat))), (0, .imr t 1 rs c)], [.lp c21_17, .blk 0, .code c21_13], none, [], []⟩], [some (.lit [.ptr 1 0 9 0, .sl 2 0 1 (i + 1) none]), some (.lit [.sl 3 0 1 (jn ((bys rs).take (i + 1))).length none, .v (.int .i64 (lsF (bys rs) k (i + 1) : Nat)), .sl 4 0 1 ([] : List Int).length none, .v (.int .i64 0), .v (.int .i64 1000000), .v (.int .i64 (lsM k (i + 1) : Nat)), .v (.pointer none), .v (.bool false), .v (.bool true)]), some (.rows 1 (((bys rs).take (i + 1)).map rwN)), some (.num .u8 (jn ((bys rs).take (i + 1)))), some (.num .u8 [])]⟩ (ObQ 0 (.tup [.ptr 1 0 9 0, .ptr 0 0 2 0]) (layJ (laidS (bys rs) k) ((bys rs).map rwN)))) :
   Rch Try.prog (plOf pls) C ⟨[⟨21, 49, [(8, .v (.int .i64 i)), (7, .ptr 0 0 2 0), (6, .ptr 1 0 9 0), (1, .v (.int .i64 (k : Nat))), (0, .imr t 1 rs c)], [.code c21_17, .lp c21_17, .blk 0, .code c21_13], none, [], []⟩], [some (.lit [.ptr 1 0 9 0, .sl 2 0 1 i none]), some (.lit [.sl 3 0 1 (jn ((bys rs).take i)).length none, .v (.int .i64 (lsF (bys rs) k i : Nat)), .sl 4 0 1 ([] : List Int).length none, .v (.int .i64 0), .v (.int .i64 1000000), .v (.int .i64 (lsM k i : Nat)), .v (.pointer none), .v (.bool false), .v (.bool true)]), some (.rows 1 (((bys rs).take i).map rwN)), some (.num .u8 (jn ((bys rs).take i))), some (.num .u8 [])]⟩ (ObQ 0 (.tup [.ptr 1 0 9 0, .ptr 0 0 2 0]) (layJ (laidS (bys rs) k) ((bys rs).map rwN))) := by
  have hf := isB_flat hm
  have hb' := hb
  simp only [finB, Bool.and_eq_true, List.all_eq_true, decide_eq_true_eq] at hb'
  obtain ⟨hb1, hb2⟩ := hb'
  have hs20 : ∀ j, (jn ((bys rs).take j)).length ≤ 4160 := fun j => by
    have h1 := jn_take_le (ls := bys rs) j
    have h2 := jn_small (ls := bys rs) fun y hy => (hb2 y hy).2
    rw [bys_len] at h2
    omega
  have hrl : (((bys rs).take i).map rwN).length = i := by rw [List.length_map, List.length_take, bys_len]; omega
  have hxb := rwN_all ((bys rs).take i)
  have hxs := bys_rwN ((bys rs).take i)
  have hFle : lsF (bys rs) k i ≤ (jn ((bys rs).take i)).length := by
    unfold lsF
    split
    · have := jn_take_le (ls := (bys rs).take i) k
      rwa [List.take_take, show min k i = k by omega] at this
    · omega
  have hMle : lsM k i ≤ 21 := by unfold lsM; split <;> omega
  have hnj : ∀ f m : Nat, f ≤ (jn ((bys rs).take i)).length → m ≤ 21 → numJ ⟨jn ((bys rs).take i), (f : Int), [], 0, 1000000, (m : Int), none, false⟩ (((bys rs).take i).map rwN) = true := fun f m h1 h2 => by
    simp only [numJ, numOk, fuOk, Bool.and_eq_true, decide_eq_true_eq, List.all_eq_true, hrl, hxs, List.length_nil]
    have := hs20 i
    exact ⟨⟨by omega, by omega, by omega, by omega, by omega, trivial⟩, by omega, by omega, by omega, fun y hy => by have := hb2 y (List.mem_of_mem_take hy); omega⟩
  by_cases h : (i : Int) < rs.length
  · have hi' : i < rs.length := by omega
    have e := isB_row hm hi'
    have hx := hb2 _ (List.mem_of_getElem? (bys_get hi'))
    have h5 : (((bys rs).take (i + 1)).map rwN) = ((bys rs).take i).map rwN ++ [rwN (byA rs i)] := by rw [bys_succ hi', List.map_append]; rfl
    have h6 : jn ((bys rs).take (i + 1)) = jn ((bys rs).take i) ++ frm (byA rs i) := by rw [bys_succ hi', jn_app]; congr 1; exact List.append_nil _
    have hyl : (((bys rs).take (i + 1)).map rwN).length = i + 1 := by rw [List.length_map, List.length_take, bys_len]; omega
    have hfy := isB_flat (rwN_all ((bys rs).take (i + 1)))
    have hnx := ih hi'
    have hl1 := hs20 i
    have hl2 := hs20 (i + 1)
    have hA : ∀ f m : Nat, jApp ⟨jn ((bys rs).take i), (f : Int), [], 0, 1000000, (m : Int), none, false⟩ (((bys rs).take i).map rwN) (byA rs i) = (0, ⟨jn ((bys rs).take (i + 1)), (f : Int), [], 0, 1000000, (m : Int) + 1, none, false⟩, ((bys rs).take (i + 1)).map rwN) := fun f m => by
      have hd : dLay false ⟨jn ((bys rs).take i), (f : Int), [], 0, 1000000, (m : Int), none, false⟩ (frm (byA rs i)) = (0, ⟨jn ((bys rs).take (i + 1)), (f : Int), [], 0, 1000000, (m : Int) + 1, none, false⟩) := by
        rw [dLay, if_neg (by simp), if_neg (by simp only [frm_len, List.length_nil]; omega), h6]
        rfl
      rw [jApp, if_neg (by omega), if_pos (by omega), hd, h5]
      rfl
    by_cases hki : i = k
    · subst hki
      have f1 : lsF (bys rs) i i = 0 := by simp [lsF]
      have f2 : lsF (bys rs) i (i + 1) = (jn ((bys rs).take i)).length := by simp [lsF]
      have g1 : lsM i i = i := by simp [lsM]
      have g2 : lsM i (i + 1) = i + 2 := by simp [lsM]
      have hS : dSync ⟨jn ((bys rs).take i), (0 : Int), [], 0, 1000000, (i : Int), none, false⟩ = (0, ⟨jn ((bys rs).take i), ((jn ((bys rs).take i)).length : Nat), [], 0, 1000000, ((i + 1 : Nat) : Int), none, false⟩) := rfl
      have hn1 : numJ ⟨jn ((bys rs).take i), (0 : Int), [], 0, 1000000, (i : Int), none, false⟩ (((bys rs).take i).map rwN) = true := hnj 0 i (Nat.zero_le _) (by omega)
      have hn2 := hnj (jn ((bys rs).take i)).length (i + 1) (Nat.le_refl _) (by omega)
      have hA1 := hA (jn ((bys rs).take i)).length (i + 1)
      rw [f1, g1]
      rw [f2, g2] at hnx
      clear ih hA hnj f1 f2 g1 g2
      generalize jn ((bys rs).take i) = lg at *
      generalize jn ((bys rs).take (i + 1)) = lg2 at *
      generalize ((bys rs).take i).map rwN = xs at *
      generalize ((bys rs).take (i + 1)).map rwN = ys at *
      have hfx := isB_flat hxb
      have dii : decide ((i : Int) = i) = true := decide_eq_true rfl
      refine ExQ_ok [] 4000 plsOk kL0_ok ?_
      (try rw [exh]); simp (maxSteps := 4000000) only [newD, h, e, hn1, hn2, hS, hA1, hrl, hyl, hxb, hfx.lv, hfx.ren, dii, go_sem, ↓bsplit_true, ↓bsplit_false, ↓reduceIte, Nat.reduceLT, Nat.reduceLeDiff, Nat.reduceEqDiff, Nat.reduceAdd, Nat.reduceSub, Nat.reduceMul, Nat.reduceBEq, Nat.reduceBNe, reduceCtorEq, Int.reduceEq, Int.reduceLT, Int.reduceLE, Int.reduceAdd, Int.reduceSub, Int.reduceMul, Int.reduceToNat, ↓xs15, ↓xs21]
      repeat (refine And.intro (a := (_ = true)) (by first | (simp; done) | (simp; omega)) ?_)
      refine Rch.fit2 hC [0, 1, 10, 11, 12] (c' := ⟨[⟨21, 49, [(8, .v (.int .i64 ((i + 1 : Nat) : Int))), (7, .ptr 0 0 2 0), (6, .ptr 1 0 9 0), (1, .v (.int .i64 (i : Nat))), (0, .imr t 1 rs c)], [.lp c21_17, .blk 0, .code c21_13], none, [], []⟩], [some (.lit [.ptr 1 0 9 0, .sl 2 0 1 (i + 1) none]), some (.lit [.sl 3 0 1 lg2.length none, .v (.int .i64 (lg.length : Nat)), .sl 4 0 1 ([] : List Int).length none, .v (.int .i64 0), .v (.int .i64 1000000), .v (.int .i64 ((i + 2 : Nat) : Int)), .v (.pointer none), .v (.bool false), .v (.bool true)]), some (.rows 1 ys), some (.num .u8 lg2), some (.num .u8 [])]⟩) ⟨by decide, rfl, ⟨_, _, rfl, .mk' ⟨rfl, rfl, rfl, rfl, congrArg (fun y => AV.imr t 1 y c) (hf.ren _).symm, trivial⟩ (by cases t <;> simp [lvT, lvB, tB, hf.lv]) rfl rfl rfl (fun l h => by cases h) rfl rfl, rfl⟩, ⟨⟨rfl, rfl⟩, ⟨rfl, rfl⟩, ⟨by simp only [renCt, hfy.ren]; exact rfl, by simp only [lvCt, hfy.lv]⟩, ⟨rfl, rfl⟩, ⟨rfl, rfl⟩, trivial⟩⟩ ?_
      exact hnx
    · have f2 : lsF (bys rs) k (i + 1) = lsF (bys rs) k i := by simp only [lsF]; split <;> split <;> first | rfl | omega
      have g2 : lsM k (i + 1) = lsM k i + 1 := by simp only [lsM]; split <;> split <;> omega
      have hn1 := hnj (lsF (bys rs) k i) (lsM k i) hFle hMle
      have hA1 := hA (lsF (bys rs) k i) (lsM k i)
      rw [f2, g2] at hnx
      clear ih hA hnj f2 g2
      have hki2 : ¬ (i : Int) = (k : Nat) := by omega
      have hfx := isB_flat hxb
      generalize jn ((bys rs).take i) = lg at *
      generalize jn ((bys rs).take (i + 1)) = lg2 at *
      generalize ((bys rs).take i).map rwN = xs at *
      generalize ((bys rs).take (i + 1)).map rwN = ys at *
      generalize lsF (bys rs) k i = ff at *
      generalize lsM k i = mm at *
      refine ExQ_ok [] 4000 plsOk kL0_ok ?_
      (try rw [exh]); simp (maxSteps := 4000000) only [newD, h, e, hn1, hA1, hrl, hyl, hxb, hfx.lv, hfx.ren, hki2, go_sem, ↓bsplit_true, ↓bsplit_false, ↓reduceIte, Nat.reduceLT, Nat.reduceLeDiff, Nat.reduceEqDiff, Nat.reduceAdd, Nat.reduceSub, Nat.reduceMul, Nat.reduceBEq, Nat.reduceBNe, reduceCtorEq, Int.reduceEq, Int.reduceLT, Int.reduceLE, Int.reduceAdd, Int.reduceSub, Int.reduceMul, Int.reduceToNat, ↓xs15, ↓xs21]
      repeat (refine And.intro (a := (_ = true)) (by first | (simp; done) | (simp; omega)) ?_)
      refine Rch.fit2 hC [0, 1, 5, 6, 7] (c' := ⟨[⟨21, 49, [(8, .v (.int .i64 ((i + 1 : Nat) : Int))), (7, .ptr 0 0 2 0), (6, .ptr 1 0 9 0), (1, .v (.int .i64 (k : Nat))), (0, .imr t 1 rs c)], [.lp c21_17, .blk 0, .code c21_13], none, [], []⟩], [some (.lit [.ptr 1 0 9 0, .sl 2 0 1 (i + 1) none]), some (.lit [.sl 3 0 1 lg2.length none, .v (.int .i64 (ff : Nat)), .sl 4 0 1 ([] : List Int).length none, .v (.int .i64 0), .v (.int .i64 1000000), .v (.int .i64 ((mm + 1 : Nat) : Int)), .v (.pointer none), .v (.bool false), .v (.bool true)]), some (.rows 1 ys), some (.num .u8 lg2), some (.num .u8 [])]⟩) ⟨by decide, rfl, ⟨_, _, rfl, .mk' ⟨rfl, rfl, rfl, rfl, congrArg (fun y => AV.imr t 1 y c) (hf.ren _).symm, trivial⟩ (by cases t <;> simp [lvT, lvB, tB, hf.lv]) rfl rfl rfl (fun l h => by cases h) rfl rfl, rfl⟩, ⟨⟨rfl, rfl⟩, ⟨rfl, rfl⟩, ⟨by simp only [renCt, hfy.ren]; exact rfl, by simp only [lvCt, hfy.lv]⟩, ⟨rfl, rfl⟩, ⟨rfl, rfl⟩, trivial⟩⟩ ?_
      exact hnx
  · clear ih
    obtain rfl : i = rs.length := by omega
    have ht : (bys rs).take rs.length = bys rs := List.take_of_length_le (by rw [bys_len]; exact Nat.le_refl _)
    have hjl := hs20 rs.length
    have hnj0 := hnj (lsF (bys rs) k rs.length) (lsM k rs.length) hFle hMle
    rw [ht] at hrl hxb hxs hjl hnj0 hFle ⊢
    have hfy := isB_flat hxb
    by_cases hkn : k = rs.length
    · subst hkn
      have f1 : lsF (bys rs) rs.length rs.length = 0 := by simp [lsF]
      have g1 : lsM rs.length rs.length = rs.length := by simp [lsM]
      have hS : dSync ⟨jn (bys rs), (0 : Int), [], 0, 1000000, (rs.length : Int), none, false⟩ = (0, ⟨jn (bys rs), ((jn (bys rs)).length : Nat), [], 0, 1000000, (rs.length : Int) + 1, none, false⟩) := rfl
      have hL : laidS (bys rs) rs.length = ⟨jn (bys rs), ((jn (bys rs)).length : Nat), [], 0, 1000000, (rs.length : Int) + 1, none, false⟩ := by rw [laidS, ht, bys_len]
      rw [f1, g1] at hnj0
      have hnj1 : numJ ⟨jn (bys rs), (0 : Int), [], 0, 1000000, (rs.length : Int), none, false⟩ ((bys rs).map rwN) = true := hnj0
      rw [f1, g1, hL]
      have hyl : ((bys rs).map rwN).length = rs.length := hrl
      have dii : decide ((rs.length : Int) = rs.length) = true := decide_eq_true rfl
      clear hnj hs20 f1 g1 hL ht
      generalize jn (bys rs) = lg at *
      generalize (bys rs).map rwN = ys at *
      refine ExQ_ok [] 4000 plsOk kL0_ok ?_
      (try rw [exh]); simp (maxSteps := 4000000) only [newD, h, hnj1, hS, hyl, hxb, hfy.lv, hfy.ren, dii, go_sem, ↓bsplit_true, ↓bsplit_false, ↓reduceIte, Nat.reduceLT, Nat.reduceLeDiff, Nat.reduceEqDiff, Nat.reduceAdd, Nat.reduceSub, Nat.reduceMul, Nat.reduceBEq, Nat.reduceBNe, reduceCtorEq, Int.reduceEq, Int.reduceLT, Int.reduceLE, Int.reduceAdd, Int.reduceSub, Int.reduceMul, Int.reduceToNat, ↓xs15, ↓xs21]
      repeat (refine And.intro (a := (_ = true)) (by first | (simp; done) | (simp; omega)) ?_)
      exact ObQ.mk [0, 1, 5, 6, 7] (by decide) rfl rfl rfl ⟨rfl, rfl, by simp only [renCt, hfy.ren]; exact rfl, rfl, rfl, trivial⟩
    · have f1 : lsF (bys rs) k rs.length = (jn ((bys rs).take k)).length := by rw [lsF, if_pos (by omega)]
      have g1 : lsM k rs.length = rs.length + 1 := by rw [lsM, if_pos (by omega)]
      have hL : laidS (bys rs) k = ⟨jn (bys rs), ((jn ((bys rs).take k)).length : Nat), [], 0, 1000000, ((rs.length + 1 : Nat) : Int), none, false⟩ := by rw [laidS, bys_len]; rfl
      rw [f1, g1] at hnj0
      rw [f1, g1, hL]
      have hyl : ((bys rs).map rwN).length = rs.length := hrl
      have hki2 : ¬ (k : Int) = (rs.length : Nat) := by omega
      clear hnj hs20 f1 g1 hL ht hFle hMle
      generalize jn (bys rs) = lg at *
      generalize (jn ((bys rs).take k)).length = ff at *
      generalize (bys rs).map rwN = ys at *
      refine ExQ_ok [] 4000 plsOk kL0_ok ?_
      (try rw [exh]); simp (maxSteps := 4000000) only [newD, h, hyl, hxb, hfy.lv, hfy.ren, hki2, go_sem, ↓bsplit_true, ↓bsplit_false, ↓reduceIte, Nat.reduceLT, Nat.reduceLeDiff, Nat.reduceEqDiff, Nat.reduceAdd, Nat.reduceSub, Nat.reduceMul, Nat.reduceBEq, Nat.reduceBNe, reduceCtorEq, Int.reduceEq, Int.reduceLT, Int.reduceLE, Int.reduceAdd, Int.reduceSub, Int.reduceMul, Int.reduceToNat, ↓xs15, ↓xs21]
      repeat (refine And.intro (a := (_ = true)) (by first | (simp; done) | (simp; omega)) ?_)
      exact ObQ.mk [0, 1, 2, 3, 4] (by decide) rfl rfl rfl ⟨rfl, rfl, by simp only [renCt, hfy.ren]; exact rfl, rfl, rfl, trivial⟩
set_option maxRecDepth 100000 in
set_option maxHeartbeats 8000000 in
theorem laid_run (C : Ctx) (hC : C.β.b = []) (t : Bool) (rs : List (List AV)) (c : Option Nat) (hm : rs.all isB = true) (hb : finB rs = true) (k : Nat) (hk : k ≤ rs.length) : Rch Try.prog (plOf pls) C (conf0 21 ⟨49, [.tmp 4, .tmp 5], code21⟩ [.imr t 1 rs c, .v (.int .i64 (k : Nat))] []) (ObQ 0 (.tup [.ptr 1 0 9 0, .ptr 0 0 2 0]) (layJ (laidS (bys rs) k) ((bys rs).map rwN))) := by
  have hf := isB_flat hm
  have nop : opR (newD 1000000) = (0, newD 1000000, []) := by
    have e1 : splF (newD 1000000).l = ([], 0) := splF_stop stB_nil
    rw [opR, e1, if_neg (by simp [newD])]
    rfl
  have e1 : opV ⟨[], 0, [], 0, 1000000, 0, none, false⟩ = .tup [.ptr 3 0 2 0, .v (.int .i64 0)] := by
    show opV (newD 1000000) = _
    rw [opV, if_neg (by simp [newD]), nop]; rfl
  have e2 : opL ⟨[], 0, [], 0, 1000000, 0, none, false⟩ = layO ⟨[], 0, [], 0, 1000000, 0, none, false⟩ [] := by
    show opL (newD 1000000) = _
    rw [opL, if_neg (by simp [newD]), nop]; rfl
  have hn0 : numJ ⟨[], 0, [], 0, 1000000, 0, none, false⟩ [] = true := by decide
  have r1 : ¬ ((1000000 : Int) < 0 ∨ (1000000 : Int) < 1000000) := by omega
  suffices HH : ∀ S, S = (ObQ 0 (.tup [.ptr 1 0 9 0, .ptr 0 0 2 0]) (layJ (laidS (bys rs) k) ((bys rs).map rwN))) → Rch Try.prog (plOf pls) C (conf0 21 ⟨49, [.tmp 4, .tmp 5], code21⟩ [.imr t 1 rs c, .v (.int .i64 (k : Nat))] []) S from HH _ rfl
  intro S hS
  refine ExQ_ok [] 4000 plsOk kL0_ok ?_
  simp only [conf0]
  (try rw [exh]); simp (maxSteps := 4000000) only [newD, e1, e2, hn0, r1, Int.lt_irrefl, or_false, false_or, go_sem, ↓bsplit_true, ↓bsplit_false, ↓reduceIte, Nat.reduceLT, Nat.reduceLeDiff, Nat.reduceEqDiff, Nat.reduceAdd, Nat.reduceSub, Nat.reduceMul, Nat.reduceBEq, Nat.reduceBNe, reduceCtorEq, Int.reduceEq, Int.reduceLT, Int.reduceLE, Int.reduceAdd, Int.reduceSub, Int.reduceMul, Int.reduceToNat, ↓xs15, ↓xs21]
  repeat (refine And.intro (a := (_ = true)) (by first | (simp; done) | (simp; omega)) ?_)
  refine Rch.loop plsOk ?_
  subst hS
  refine Rch.fit2 hC [5, 0, 6, 3, 4] (c' := ⟨[⟨21, 49, [(8, .v (.int .i64 ((0 : Nat) : Int))), (7, .ptr 0 0 2 0), (6, .ptr 1 0 9 0), (1, .v (.int .i64 (k : Nat))), (0, .imr t 1 rs c)], [.code c21_17, .lp c21_17, .blk 0, .code c21_13], none, [], []⟩], [some (.lit [.ptr 1 0 9 0, .sl 2 0 1 0 none]), some (.lit [.sl 3 0 1 (jn ((bys rs).take 0)).length none, .v (.int .i64 (lsF (bys rs) k 0 : Nat)), .sl 4 0 1 ([] : List Int).length none, .v (.int .i64 0), .v (.int .i64 1000000), .v (.int .i64 (lsM k 0 : Nat)), .v (.pointer none), .v (.bool false), .v (.bool true)]), some (.rows 1 (((bys rs).take 0).map rwN)), some (.num .u8 (jn ((bys rs).take 0))), some (.num .u8 [])]⟩) ⟨by decide, rfl, ⟨_, _, rfl, .mk' ⟨rfl, rfl, rfl, rfl, congrArg (fun y => AV.imr t 1 y c) (hf.ren _).symm, trivial⟩ (by cases t <;> simp [lvT, lvB, tB, hf.lv]) rfl rfl rfl (fun l h => by cases h) rfl rfl, rfl⟩, ⟨⟨rfl, rfl⟩, ⟨rfl, rfl⟩, ⟨rfl, rfl⟩, ⟨rfl, rfl⟩, ⟨rfl, rfl⟩, trivial⟩⟩ ?_
  have hgo := laid_go C hC t rs c hm hb k hk
  suffices H : ∀ (d i : Nat), rs.length - i ≤ d → i ≤ rs.length → Rch Try.prog (plOf pls) C ⟨[⟨21, 49, [(8, .v (.int .i64 i)), (7, .ptr 0 0 2 0), (6, .ptr 1 0 9 0), (1, .v (.int .i64 (k : Nat))), (0, .imr t 1 rs c)], [.code c21_17, .lp c21_17, .blk 0, .code c21_13], none, [], []⟩], [some (.lit [.ptr 1 0 9 0, .sl 2 0 1 i none]), some (.lit [.sl 3 0 1 (jn ((bys rs).take i)).length none, .v (.int .i64 (lsF (bys rs) k i : Nat)), .sl 4 0 1 ([] : List Int).length none, .v (.int .i64 0), .v (.int .i64 1000000), .v (.int .i64 (lsM k i : Nat)), .v (.pointer none), .v (.bool false), .v (.bool true)]), some (.rows 1 (((bys rs).take i).map rwN)), some (.num .u8 (jn ((bys rs).take i))), some (.num .u8 [])]⟩ (ObQ 0 (.tup [.ptr 1 0 9 0, .ptr 0 0 2 0]) (layJ (laidS (bys rs) k) ((bys rs).map rwN))) from H rs.length 0 (by omega) (Nat.zero_le _)
  intro d
  induction d with
  | zero =>
    intro i hd hi
    exact hgo i hi fun hlt => by omega
  | succ d ihd =>
    intro i hd hi
    exact hgo i hi fun hlt => Rch.round plsOk (ihd (i + 1) (by omega) (by omega))
def sLaid : List AV → Option (Bool × AV × Bls)
  | [.imr _ 1 rs _, .v (.int .i64 k)] => some (rs.all isB && (finB rs && (decide (0 ≤ k) && decide (k ≤ rs.length))), .tup [.ptr 1 0 9 0, .ptr 0 0 2 0], layJ (laidS (bys rs) k.toNat) ((bys rs).map rwN))
  | _ => none
theorem laid_ok : SpecW Try.prog (plOf pls) 21 sLaid := by
  refine ⟨_, fi21, fun args r bl1 h => ?_⟩
  unfold sLaid at h
  split at h
  · simp only [Option.some.injEq, Prod.mk.injEq, Bool.and_eq_true, decide_eq_true_eq] at h
    obtain ⟨⟨h1, h2, h3, h4⟩, rfl, rfl⟩ := h
    rename_i rs _ k
    obtain ⟨k, rfl⟩ := Int.eq_ofNat_of_zero_le h3
    exact ⟨by simp, fun C hC _ => laid_run C hC _ _ _ h1 h2 k (by omega)⟩
  · cases h
end JL
end Go.Proofs.Ytlhjbjpcnncndaa
