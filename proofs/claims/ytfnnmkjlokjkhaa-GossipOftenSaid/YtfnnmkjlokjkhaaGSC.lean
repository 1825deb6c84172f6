/- GossipScript: its walk. -/
import Derived.Test.YtfnnmkjlokjkhaaGSB
set_option linter.unusedSimpArgs false
set_option linter.unusedVariables false
namespace Go.Proofs.Ytfnnmkjlokjkhaa
open Go Go.SY
namespace GS
attribute [local go_sem] Ex stops inK stepF frsF frF itemF codeF condF opsF opsW opF callO drF drO drW drC stepS wtS gdst gdl sopF pv evq orl bltF callF calleeS popF lopF bltP callP cls lvA rdl quiet p_move p_assign p_pick p_nilCheck
attribute [local go_sem] p_binOp p_unOp p_convert p_fieldAddr p_indexAddr p_index p_slice p_makeFunc p_extract p_field p_build p_len p_cap p_min p_max l_load l_convert l_slice zerR roomR appRR roomN appNN cpSrcN clN cpSrc cpR clR e_clear srcR dstR srcN dstN e_store e_alloc e_box e_buildSlice e_makeSlice e_append e_copy
attribute [local go_sem] e_convert SY.get SY.put SY.ev SY.mk SY.nth SY.lvl SY.setl SY.ini wid wids dr tk flat at1 pack parts rdC rdCt wrC wrCt ar bits2 bopInt bopStr bopEq isPtr isSl isBl eqPs eqLf bop pickAV bnd subO cutOf okMx fillA plFs nz
attribute [local go_sem] minI numsAt aOf hd1 hdL immL isArr ctOf rowsOf numsAV rep elCt wrRow killO chR enterS leaveS retS endS exitS gotoS finishS killL isDefs setPs roundS resS resAll tup1 conf0 AV.scal plk spz Ct.cell exq_zero exq_go exq_d exq_n lvCt lvE
attribute [local go_sem] exq_t exq_f exq_t0 exq_f0 List.toList_toArray Bool.and_true Bool.true_and Bool.not_false Bool.not_true List.contains_nil List.contains_cons Bool.or_false Bool.false_or Option.isSome_some Option.isSome_none Option.isNone_none Option.isNone_some true_and and_true Option.some.injEq Bool.false_eq_true List.map_cons List.map_nil List.all_cons List.all_nil Bool.and_self List.drop_succ_cons List.drop_zero List.length_cons List.length_nil List.cons_append List.nil_append Option.map_some Option.map_none List.append_nil Nat.zero_add Nat.add_zero Nat.sub_zero Nat.zero_mul Nat.mul_one
attribute [local go_sem] Int.toNat_natCast Int.toNat_zero Int.toNat_one Int.add_zero Int.sub_zero Int.cast_ofNat_Int decide_true decide_false Option.getD_some Option.getD_none ktB ktX ktOf conK extK ovlK rwz alive alive0 mks noMk lndL lnd lvB lvL lvR lvT tB_tt tB_ft tB_ff okBls shB ren renL renR renCt ne_eq not_false_eq_true not_true_eq_false and_false
attribute [local go_sem] false_and and_self ti0 ti1 ti2 ti3 ti4 ti5 ti6 ti7 ti8 ti9 ti10 ti11 ti12 ti13 ti14 ti15 ti16 ti17 ti18 ti19 ti20 ti21 ti22 ti23 ti24 ti25 ti26 ti27 ti28 ti29 ti30 ti31 ti32 ti33 ti34 ti35 ti36 ti37
attribute [local go_sem] ti38 ti39 ti40 ti41 ti42 ti43 ti44 ti45 ti46 ti47 ti48 ti49 ti50 ti51 ti52 ti53 ti54 ti55 ti56 ti57 ti58 ti59 ti60 ti61 ti62 ti63 ti64 ti65 ti66 ti67 ti68 ti69 ti70 ti71 ti72 ti73 ti74 ti75 ti76 ti77
attribute [local go_sem] ti78 ti79 ti80 ti81 ti82 ti83 ti84 ti85 ti86 ti87 ti88 ti89 ti90 ti91 ti92 ti93 ti94 ti95 ti96 ti97 ti98 ti99 ti100 ti101 ti102 regAt fi3 body3 Try.f3 fi8 body8 Try.f8 fi9 body9 Try.f9 fi28 body28 Try.f28 fi16 body16
attribute [local go_sem] Try.f16 fi18 body18 Try.f18 fi17 body17 Try.f17 r3_1 r3_3 r3_5 r3_9 r3_13 r3_16 r3_20 r3_23 r3_29 r3_37 r3_42 r3_46 r3_50 r3_51 r3_57 r3_62 r3_61 r3_63 r3_65 r3_67 r3_71 r3_72 r3_76 r3_33 r3_77 r8_1 r8_5 r8_9 r8_10 r8_12 r9_1 r9_5 r9_9
attribute [local go_sem] r9_10 r16_1 r16_5 r16_9 r16_10 r17_1 r17_3 r18_1 r18_5 r18_9 r18_10 r28_1 r28_3 plA3 pl3 plA4 pl4 plA6 pl6 plA11 pl11 plA12 pl12 plA13 pl13 plA14 pl14 plA15 pl15 plA24 pl24 plA30 pl30 plA31 pl31 plA32 pl32 plA33 pl33 plA40
attribute [local go_sem] pl40 plA41 pl41 plA42 pl42 plA52 pl52
theorem Wk.nilcellR {bl : Bls} {l : Nat} {pre post : List AV} (w2 : Nat) (hl : lvl bl l = some (.lit (pre ++ .nil :: post))) (i w : Nat) : Wk bl (setl bl l (some (.lit (pre ++ .sl bl.length i w 0 Option.none :: post))) ++ [some (.rows w2 [])]) :=
  (Wk.lit hl fun _ _ h => denC_cell rfl rfl (fun _ _ h => den_nilsl h) h).trans (Wk.noneR _ w2)
attribute [local go_sem] kS kR1 kG0 ktO ktW kN0 ktOf conK sChk sOver specT sLen sWs readK osAdd osTake osRAdd osRTake osLim findG findR layG layR objK objB updT mapB rhoN nm mrk nilR List.append_nil List.cons_append List.nil_append List.nodup_cons List.mem_cons List.not_mem_nil List.take_succ_cons List.take_zero List.getD_cons_zero
attribute [local go_sem] List.getD_cons_succ btt bff not_true_eq_false not_false_eq_true List.drop_zero killL eq_self decide_true
end GS
end Go.Proofs.Ytfnnmkjlokjkhaa
