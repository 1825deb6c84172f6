/- GossipNewest: its run. -/
import Derived.Test.YtfnnmkjlokjkhaaG3
import Derived.Test.YtfnnmkjlokjkhaaMB2
import Derived.Test.YtfnnmkjlokjkhaaSe
set_option linter.unusedSimpArgs false
set_option linter.unusedVariables false
namespace Go.Proofs.Ytfnnmkjlokjkhaa
open Go Go.SY
attribute [local go_sem] Ex stops inK stepF frsF frF itemF codeF condF opsF opsW opF callO drF drO drW drC stepS wtS gdst gdl sopF pv evq orl bltF callF calleeS popF lopF bltP callP cls lvA rdl quiet p_move p_assign p_pick p_nilCheck
attribute [local go_sem] p_binOp p_unOp p_convert p_fieldAddr p_indexAddr p_index p_slice p_makeFunc p_extract p_field p_build p_len p_cap p_min p_max l_load l_convert l_slice zerR roomR appRR roomN appNN cpSrcN clN cpSrc cpR clR e_clear srcR dstR srcN dstN e_store e_alloc e_box e_buildSlice e_makeSlice e_append e_copy
attribute [local go_sem] e_convert SY.get SY.put SY.ev SY.mk SY.nth SY.lvl SY.setl SY.ini wid wids dr tk flat at1 pack parts rdC rdCt wrC wrCt ar bits2 bopInt bopStr bopEq isPtr isSl isBl eqPs eqLf bop pickAV bnd subO cutOf okMx fillA plFs nz
attribute [local go_sem] minI numsAt aOf hd1 hdL immL isArr ctOf rowsOf numsAV rep elCt wrRow killO chR enterS leaveS retS endS exitS gotoS finishS killL isDefs setPs roundS resS resAll tup1 conf0 AV.scal plk spz Ct.cell exq_zero exq_go exq_d exq_n lvCt lvE
attribute [local go_sem] exq_t exq_f exq_t0 exq_f0 List.toList_toArray Bool.and_true Bool.true_and Bool.not_false Bool.not_true List.contains_nil List.contains_cons Bool.or_false Bool.false_or Option.isSome_some Option.isSome_none Option.isNone_none Option.isNone_some true_and and_true Option.some.injEq Bool.false_eq_true List.map_cons List.map_nil List.all_cons List.all_nil Bool.and_self List.drop_succ_cons List.drop_zero List.length_cons List.length_nil List.cons_append List.nil_append Option.map_some Option.map_none List.append_nil Nat.zero_add Nat.add_zero Nat.sub_zero Nat.zero_mul Nat.mul_one
attribute [local go_sem] Int.toNat_natCast Int.toNat_zero Int.toNat_one Int.add_zero Int.sub_zero Int.cast_ofNat_Int decide_true decide_false Option.getD_some Option.getD_none ktB ktX ktOf conK extK ovlK rwz alive alive0 mks noMk lndL lnd lvB lvL lvR lvT tB_tt tB_ft tB_ff okBls shB ren renL renR renCt ne_eq not_false_eq_true not_true_eq_false and_false
attribute [local go_sem] false_and and_self ti0 ti1 ti2 ti3 ti4 ti5 ti6 ti7 ti8 ti9 ti10 ti11 ti12 ti13 ti14 ti15 ti16 ti17 ti18 ti19 ti20 ti21 ti22 ti23 ti24 ti25 ti26 ti27 ti28 ti29 ti30 ti31 ti32 ti33 ti34 ti35 ti36 ti37
attribute [local go_sem] ti38 ti39 ti40 ti41 ti42 ti43 ti44 ti45 ti46 ti47 ti48 ti49 ti50 ti51 ti52 ti53 ti54 ti55 ti56 ti57 ti58 ti59 ti60 ti61 ti62 ti63 ti64 ti65 ti66 ti67 ti68 ti69 ti70 ti71 ti72 ti73 ti74 ti75 ti76 ti77
attribute [local go_sem] ti78 ti79 ti80 ti81 ti82 ti83 ti84 ti85 ti86 ti87 ti88 ti89 ti90 ti91 ti92 ti93 ti94 ti95 ti96 ti97 ti98 ti99 ti100 ti101 ti102 regAt fi7 body7 Try.f7 fi8 body8 Try.f8 fi14 body14 Try.f14 fi28 body28 Try.f28 fi34 body34
attribute [local go_sem] Try.f34 fi35 body35 Try.f35 fi31 body31 Try.f31 fi41 body41 Try.f41 fi27 body27 Try.f27 fi23 body23 Try.f23 fi16 body16 Try.f16 fi11 body11 Try.f11 fi18 body18 Try.f18 fi13 body13 Try.f13 fi29 body29 Try.f29 r7_1 r7_3 r7_5 r7_9 r7_13 r7_16 r7_20 r7_21 r7_25
attribute [local go_sem] r7_31 r7_37 r7_39 r7_43 r7_47 r7_48 r7_52 r7_56 r7_57 r7_59 r7_35 r7_63 r7_67 r7_68 r8_1 r8_5 r8_9 r8_10 r8_12 r11_1 r11_5 r11_9 r11_10 r11_12 r11_14 r11_16 r11_20 r11_24 r11_32 r11_34 r11_36 r11_38 r11_40 r11_30 r11_42 r13_1 r13_3 r13_7 r13_13 r13_18
attribute [local go_sem] r13_17 r13_19 r14_1 r14_6 r14_11 r14_12 r14_16 r14_17 r14_21 r14_23 r14_29 r14_33 r14_28 r14_34 r14_36 r16_1 r16_5 r16_9 r16_10 r18_1 r18_5 r18_9 r18_10 r23_1 r23_3 r23_5 r27_1 r27_3 r28_1 r28_3 r29_1 r29_5 r29_9 r29_10 r31_1 r31_3 r31_7 r31_9 r31_6 r34_1
attribute [local go_sem] r34_5 r34_9 r34_17 r34_19 r34_23 r34_15 r34_24 r35_1 r35_3 r41_1 r41_3 plA3 pl3 plA4 pl4 plA6 pl6 plA11 pl11 plA12 pl12 plA13 pl13 plA14 pl14 plA15 pl15 plA24 pl24 plA30 pl30 plA31 pl31 plA32 pl32 plA33 pl33 plA40 pl40 plA41
attribute [local go_sem] pl41 plA42 pl42 plA52 pl52
def IsT (r : AV) (_ : Bls) : Prop := r = .v (.bool true)
def bitN (z : Int) : Int := if z < 2 then 1 else if z < 4 then 2 else if z < 8 then 3 else if z < 16 then 4 else if z < 32 then 5 else if z < 64 then 6 else 7
noncomputable def lenB (k : Nat) : Bool := match runA Try.prog (fun _ => none) pls 200 38 [.v (.int .u64 ((k : Int) + 1))] with
  | some (.v (.int .i64 r)) => r == bitN ((k : Int) + 1)
  | _ => false
set_option maxRecDepth 100000 in
theorem lenB_all : (List.range 64).all lenB = true := by kernel_rfl
def sLen : List AV → Option (Bool × AV × Bls)
  | [.v (.int .u64 z)] => some (decide (1 ≤ z) && decide (z ≤ 64), .v (.int .i64 (bitN z)), [])
  | _ => none
theorem len_ok : SpecOk Try.prog (plOf pls) 38 sLen := by
  refine ⟨_, fi38, fun args r bl1 h => ?_⟩
  unfold sLen at h
  split at h
  · rename_i z
    simp only [Option.some.injEq, Prod.mk.injEq, Bool.and_eq_true, decide_eq_true_eq] at h
    obtain ⟨⟨h1, h2⟩, rfl, rfl⟩ := h
    obtain ⟨k, rfl⟩ : ∃ k : Nat, z = (k : Int) + 1 := ⟨(z - 1).toNat, by omega⟩
    have hk := List.all_eq_true.1 lenB_all k (List.mem_range.2 (by omega))
    unfold lenB at hk
    split at hk
    · rename_i r hr
      obtain rfl := eq_of_beq hk
      have := runA_word plsOk noK fi38 hr rfl
      exact ⟨this.1, fun C h1 h2 => this.2 C h1 h2⟩
    · cases hk
  · cases h
def kN0 : KT := ktOf [(10, specT), (25, sChk), (26, sOver), (38, sLen)]
theorem kN0_ok : KOk Try.prog (plOf pls) kN0 := ktOf_ok plsOk fun x hx => by
  simp only [List.mem_cons, List.not_mem_nil, or_false] at hx
  rcases hx with rfl | rfl | rfl | rfl
  · exact spec_true plsOk kDel_ok awake_run
  · exact chk_ok
  · exact over_ok
  · exact len_ok
def kN : KT := ktW 42 (insK 4) (ktW 30 (delK 4) kN0)
theorem btt : (true == true) = true := rfl
theorem bff : (false == false) = true := rfl
theorem tk1 {α : Type} (x : α) : List.take 1 [x] = [x] := rfl
attribute [local go_sem] kN ktW kN0 specT sChk sOver sLen
end Go.Proofs.Ytfnnmkjlokjkhaa
