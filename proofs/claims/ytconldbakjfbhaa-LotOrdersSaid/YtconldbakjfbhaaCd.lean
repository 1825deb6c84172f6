/-
  The code of this seat's functions in named pieces: by our program cds.py.
-/
import Derived.Test.YtconldbakjfbhaaFn
import Derived.Test.YtconldbakjfbhaaSy40
import Derived.KernelRfl
open Go Go.SY
namespace Go.Proofs.Ytconldbakjfbhaa
noncomputable def body2 : Code := match Try.f2.body with
  | some c => c
  | none => .skip
noncomputable def r2 : Array Oper := regAt [] body2
theorem cd_code2 : code2 = .region 0 r2 false := by kernel_rfl
noncomputable def body3 : Code := match Try.f3.body with
  | some c => c
  | none => .skip
noncomputable def c3_1 : Code := match code3 with
  | .seq x _ => x
  | _ => .skip
noncomputable def c3_2 : Code := match code3 with
  | .seq _ x => x
  | _ => .skip
theorem cd_code3 : code3 = .seq c3_1 c3_2 := by kernel_rfl
noncomputable def r3_1 : Array Oper := regAt [0] body3
theorem cd_c3_1 : c3_1 = .region 0 r3_1 false := by kernel_rfl
noncomputable def c3_3 : Code := match c3_2 with
  | .seq x _ => x
  | _ => .skip
noncomputable def c3_4 : Code := match c3_2 with
  | .seq _ x => x
  | _ => .skip
theorem cd_c3_2 : c3_2 = .seq c3_3 c3_4 := by kernel_rfl
noncomputable def c3_5 : Code := match c3_3 with
  | .seq x _ => x
  | _ => .skip
noncomputable def c3_6 : Code := match c3_3 with
  | .seq _ x => x
  | _ => .skip
theorem cd_c3_3 : c3_3 = .seq c3_5 c3_6 := by kernel_rfl
noncomputable def r3_5 : Array Oper := regAt [1, 0, 0] body3
theorem cd_c3_5 : c3_5 = .region 1 r3_5 false := by kernel_rfl
noncomputable def c3_7 : Code := match c3_6 with
  | .cond _ x _ => x
  | _ => .skip
theorem cd_c3_6 : c3_6 = .cond (.tmp 21) c3_7 .skip := by kernel_rfl
noncomputable def c3_9 : Code := match c3_7 with
  | .seq x _ => x
  | _ => .skip
theorem cd_c3_7 : c3_7 = .seq c3_9 .ret := by kernel_rfl
noncomputable def r3_9 : Array Oper := regAt [1, 0, 1, 1, 0] body3
theorem cd_c3_9 : c3_9 = .region 2 r3_9 false := by kernel_rfl
noncomputable def c3_10 : Code := match c3_4 with
  | .seq x _ => x
  | _ => .skip
noncomputable def c3_11 : Code := match c3_4 with
  | .seq _ x => x
  | _ => .skip
theorem cd_c3_4 : c3_4 = .seq c3_10 c3_11 := by kernel_rfl
noncomputable def r3_10 : Array Oper := regAt [1, 1, 0] body3
theorem cd_c3_10 : c3_10 = .region 3 r3_10 false := by kernel_rfl
noncomputable def c3_12 : Code := match c3_11 with
  | .seq x _ => x
  | _ => .skip
noncomputable def c3_13 : Code := match c3_11 with
  | .seq _ x => x
  | _ => .skip
theorem cd_c3_11 : c3_11 = .seq c3_12 c3_13 := by kernel_rfl
noncomputable def r3_12 : Array Oper := regAt [1, 1, 1, 0] body3
theorem cd_c3_12 : c3_12 = .region 4 r3_12 false := by kernel_rfl
noncomputable def c3_14 : Code := match c3_13 with
  | .seq x _ => x
  | _ => .skip
noncomputable def c3_15 : Code := match c3_13 with
  | .seq _ x => x
  | _ => .skip
theorem cd_c3_13 : c3_13 = .seq c3_14 c3_15 := by kernel_rfl
noncomputable def r3_14 : Array Oper := regAt [1, 1, 1, 1, 0] body3
theorem cd_c3_14 : c3_14 = .region 5 r3_14 false := by kernel_rfl
noncomputable def c3_16 : Code := match c3_15 with
  | .seq x _ => x
  | _ => .skip
noncomputable def c3_17 : Code := match c3_15 with
  | .seq _ x => x
  | _ => .skip
theorem cd_c3_15 : c3_15 = .seq c3_16 c3_17 := by kernel_rfl
noncomputable def c3_18 : Code := match c3_16 with
  | .seq x _ => x
  | _ => .skip
noncomputable def c3_19 : Code := match c3_16 with
  | .seq _ x => x
  | _ => .skip
theorem cd_c3_16 : c3_16 = .seq c3_18 c3_19 := by kernel_rfl
noncomputable def r3_18 : Array Oper := regAt [1, 1, 1, 1, 1, 0, 0] body3
theorem cd_c3_18 : c3_18 = .region 6 r3_18 false := by kernel_rfl
noncomputable def c3_20 : Code := match c3_19 with
  | .cond _ x _ => x
  | _ => .skip
theorem cd_c3_19 : c3_19 = .cond (.tmp 50) c3_20 .skip := by kernel_rfl
noncomputable def c3_22 : Code := match c3_20 with
  | .seq x _ => x
  | _ => .skip
theorem cd_c3_20 : c3_20 = .seq c3_22 .ret := by kernel_rfl
noncomputable def r3_22 : Array Oper := regAt [1, 1, 1, 1, 1, 0, 1, 1, 0] body3
theorem cd_c3_22 : c3_22 = .region 7 r3_22 false := by kernel_rfl
noncomputable def c3_23 : Code := match c3_17 with
  | .seq x _ => x
  | _ => .skip
noncomputable def c3_24 : Code := match c3_17 with
  | .seq _ x => x
  | _ => .skip
theorem cd_c3_17 : c3_17 = .seq c3_23 c3_24 := by kernel_rfl
noncomputable def r3_23 : Array Oper := regAt [1, 1, 1, 1, 1, 1, 0] body3
theorem cd_c3_23 : c3_23 = .region 8 r3_23 false := by kernel_rfl
noncomputable def c3_25 : Code := match c3_24 with
  | .seq x _ => x
  | _ => .skip
noncomputable def c3_26 : Code := match c3_24 with
  | .seq _ x => x
  | _ => .skip
theorem cd_c3_24 : c3_24 = .seq c3_25 c3_26 := by kernel_rfl
noncomputable def c3_27 : Code := match c3_25 with
  | .seq x _ => x
  | _ => .skip
noncomputable def c3_28 : Code := match c3_25 with
  | .seq _ x => x
  | _ => .skip
theorem cd_c3_25 : c3_25 = .seq c3_27 c3_28 := by kernel_rfl
noncomputable def r3_27 : Array Oper := regAt [1, 1, 1, 1, 1, 1, 1, 0, 0] body3
theorem cd_c3_27 : c3_27 = .region 9 r3_27 false := by kernel_rfl
noncomputable def c3_29 : Code := match c3_28 with
  | .block _ x => x
  | _ => .skip
theorem cd_c3_28 : c3_28 = .block 0 c3_29 := by kernel_rfl
noncomputable def c3_30 : Code := match c3_29 with
  | .loop x => x
  | _ => .skip
theorem cd_c3_29 : c3_29 = .loop c3_30 := by kernel_rfl
noncomputable def c3_31 : Code := match c3_30 with
  | .seq x _ => x
  | _ => .skip
noncomputable def c3_32 : Code := match c3_30 with
  | .seq _ x => x
  | _ => .skip
theorem cd_c3_30 : c3_30 = .seq c3_31 c3_32 := by kernel_rfl
noncomputable def c3_33 : Code := match c3_31 with
  | .seq x _ => x
  | _ => .skip
noncomputable def c3_34 : Code := match c3_31 with
  | .seq _ x => x
  | _ => .skip
theorem cd_c3_31 : c3_31 = .seq c3_33 c3_34 := by kernel_rfl
noncomputable def r3_33 : Array Oper := regAt [1, 1, 1, 1, 1, 1, 1, 0, 1, 1, 0, 0, 0] body3
theorem cd_c3_33 : c3_33 = .region 10 r3_33 false := by kernel_rfl
theorem cd_c3_34 : c3_34 = .cond (.tmp 60) .skip (.exit 0) := by kernel_rfl
noncomputable def c3_36 : Code := match c3_32 with
  | .seq x _ => x
  | _ => .skip
noncomputable def c3_37 : Code := match c3_32 with
  | .seq _ x => x
  | _ => .skip
theorem cd_c3_32 : c3_32 = .seq c3_36 c3_37 := by kernel_rfl
noncomputable def c3_38 : Code := match c3_36 with
  | .block _ x => x
  | _ => .skip
theorem cd_c3_36 : c3_36 = .block 1 c3_38 := by kernel_rfl
noncomputable def c3_39 : Code := match c3_38 with
  | .seq x _ => x
  | _ => .skip
noncomputable def c3_40 : Code := match c3_38 with
  | .seq _ x => x
  | _ => .skip
theorem cd_c3_38 : c3_38 = .seq c3_39 c3_40 := by kernel_rfl
noncomputable def r3_39 : Array Oper := regAt [1, 1, 1, 1, 1, 1, 1, 0, 1, 1, 0, 1, 0, 1, 0] body3
theorem cd_c3_39 : c3_39 = .region 12 r3_39 false := by kernel_rfl
noncomputable def c3_41 : Code := match c3_40 with
  | .seq x _ => x
  | _ => .skip
noncomputable def c3_42 : Code := match c3_40 with
  | .seq _ x => x
  | _ => .skip
theorem cd_c3_40 : c3_40 = .seq c3_41 c3_42 := by kernel_rfl
noncomputable def c3_43 : Code := match c3_41 with
  | .block _ x => x
  | _ => .skip
theorem cd_c3_41 : c3_41 = .block 2 c3_43 := by kernel_rfl
noncomputable def c3_44 : Code := match c3_43 with
  | .seq x _ => x
  | _ => .skip
noncomputable def c3_45 : Code := match c3_43 with
  | .seq _ x => x
  | _ => .skip
theorem cd_c3_43 : c3_43 = .seq c3_44 c3_45 := by kernel_rfl
noncomputable def r3_44 : Array Oper := regAt [1, 1, 1, 1, 1, 1, 1, 0, 1, 1, 0, 1, 0, 1, 1, 0, 1, 0] body3
theorem cd_c3_44 : c3_44 = .region 15 r3_44 false := by kernel_rfl
noncomputable def c3_46 : Code := match c3_45 with
  | .cond _ x _ => x
  | _ => .skip
noncomputable def c3_47 : Code := match c3_45 with
  | .cond _ _ x => x
  | _ => .skip
theorem cd_c3_45 : c3_45 = .cond (.tmp 74) c3_46 c3_47 := by kernel_rfl
noncomputable def c3_49 : Code := match c3_46 with
  | .seq x _ => x
  | _ => .skip
noncomputable def c3_50 : Code := match c3_46 with
  | .seq _ x => x
  | _ => .skip
theorem cd_c3_46 : c3_46 = .seq c3_49 c3_50 := by kernel_rfl
noncomputable def r3_49 : Array Oper := regAt [1, 1, 1, 1, 1, 1, 1, 0, 1, 1, 0, 1, 0, 1, 1, 0, 1, 1, 1, 0] body3
theorem cd_c3_49 : c3_49 = .region 16 r3_49 false := by kernel_rfl
noncomputable def c3_51 : Code := match c3_50 with
  | .seq x _ => x
  | _ => .skip
noncomputable def c3_52 : Code := match c3_50 with
  | .seq _ x => x
  | _ => .skip
theorem cd_c3_50 : c3_50 = .seq c3_51 c3_52 := by kernel_rfl
noncomputable def r3_51 : Array Oper := regAt [1, 1, 1, 1, 1, 1, 1, 0, 1, 1, 0, 1, 0, 1, 1, 0, 1, 1, 1, 1, 0] body3
theorem cd_c3_51 : c3_51 = .region 17 r3_51 false := by kernel_rfl
noncomputable def c3_53 : Code := match c3_52 with
  | .seq x _ => x
  | _ => .skip
noncomputable def c3_54 : Code := match c3_52 with
  | .seq _ x => x
  | _ => .skip
theorem cd_c3_52 : c3_52 = .seq c3_53 c3_54 := by kernel_rfl
noncomputable def c3_55 : Code := match c3_53 with
  | .seq x _ => x
  | _ => .skip
noncomputable def c3_56 : Code := match c3_53 with
  | .seq _ x => x
  | _ => .skip
theorem cd_c3_53 : c3_53 = .seq c3_55 c3_56 := by kernel_rfl
noncomputable def r3_55 : Array Oper := regAt [1, 1, 1, 1, 1, 1, 1, 0, 1, 1, 0, 1, 0, 1, 1, 0, 1, 1, 1, 1, 1, 0, 0] body3
theorem cd_c3_55 : c3_55 = .region 18 r3_55 false := by kernel_rfl
noncomputable def c3_57 : Code := match c3_56 with
  | .cond _ x _ => x
  | _ => .skip
theorem cd_c3_56 : c3_56 = .cond (.tmp 88) c3_57 .skip := by kernel_rfl
noncomputable def c3_59 : Code := match c3_57 with
  | .seq x _ => x
  | _ => .skip
theorem cd_c3_57 : c3_57 = .seq c3_59 .ret := by kernel_rfl
noncomputable def r3_59 : Array Oper := regAt [1, 1, 1, 1, 1, 1, 1, 0, 1, 1, 0, 1, 0, 1, 1, 0, 1, 1, 1, 1, 1, 0, 1, 1, 0] body3
theorem cd_c3_59 : c3_59 = .region 19 r3_59 false := by kernel_rfl
noncomputable def r3_54 : Array Oper := regAt [1, 1, 1, 1, 1, 1, 1, 0, 1, 1, 0, 1, 0, 1, 1, 0, 1, 1, 1, 1, 1, 1] body3
theorem cd_c3_54 : c3_54 = .region 20 r3_54 false := by kernel_rfl
noncomputable def c3_60 : Code := match c3_47 with
  | .seq x _ => x
  | _ => .skip
noncomputable def c3_61 : Code := match c3_47 with
  | .seq _ x => x
  | _ => .skip
theorem cd_c3_47 : c3_47 = .seq c3_60 c3_61 := by kernel_rfl
noncomputable def r3_60 : Array Oper := regAt [1, 1, 1, 1, 1, 1, 1, 0, 1, 1, 0, 1, 0, 1, 1, 0, 1, 1, 2, 0] body3
theorem cd_c3_60 : c3_60 = .region 21 r3_60 false := by kernel_rfl
noncomputable def c3_62 : Code := match c3_61 with
  | .cond _ x _ => x
  | _ => .skip
noncomputable def c3_63 : Code := match c3_61 with
  | .cond _ _ x => x
  | _ => .skip
theorem cd_c3_61 : c3_61 = .cond (.tmp 91) c3_62 c3_63 := by kernel_rfl
noncomputable def c3_65 : Code := match c3_62 with
  | .seq x _ => x
  | _ => .skip
noncomputable def c3_66 : Code := match c3_62 with
  | .seq _ x => x
  | _ => .skip
theorem cd_c3_62 : c3_62 = .seq c3_65 c3_66 := by kernel_rfl
noncomputable def r3_65 : Array Oper := regAt [1, 1, 1, 1, 1, 1, 1, 0, 1, 1, 0, 1, 0, 1, 1, 0, 1, 1, 2, 1, 1, 0] body3
theorem cd_c3_65 : c3_65 = .region 22 r3_65 false := by kernel_rfl
noncomputable def c3_67 : Code := match c3_66 with
  | .cond _ x _ => x
  | _ => .skip
theorem cd_c3_66 : c3_66 = .cond (.tmp 98) c3_67 .skip := by kernel_rfl
noncomputable def c3_69 : Code := match c3_67 with
  | .seq x _ => x
  | _ => .skip
theorem cd_c3_67 : c3_67 = .seq c3_69 .ret := by kernel_rfl
noncomputable def r3_69 : Array Oper := regAt [1, 1, 1, 1, 1, 1, 1, 0, 1, 1, 0, 1, 0, 1, 1, 0, 1, 1, 2, 1, 1, 1, 1, 0] body3
theorem cd_c3_69 : c3_69 = .region 23 r3_69 false := by kernel_rfl
noncomputable def c3_70 : Code := match c3_63 with
  | .seq x _ => x
  | _ => .skip
noncomputable def c3_71 : Code := match c3_63 with
  | .seq _ x => x
  | _ => .skip
theorem cd_c3_63 : c3_63 = .seq c3_70 c3_71 := by kernel_rfl
noncomputable def r3_70 : Array Oper := regAt [1, 1, 1, 1, 1, 1, 1, 0, 1, 1, 0, 1, 0, 1, 1, 0, 1, 1, 2, 1, 2, 0] body3
theorem cd_c3_70 : c3_70 = .region 13 r3_70 false := by kernel_rfl
noncomputable def c3_72 : Code := match c3_71 with
  | .cond _ x _ => x
  | _ => .skip
theorem cd_c3_71 : c3_71 = .cond (.tmp 73) c3_72 .skip := by kernel_rfl
noncomputable def c3_74 : Code := match c3_72 with
  | .seq x _ => x
  | _ => .skip
theorem cd_c3_72 : c3_72 = .seq c3_74 .ret := by kernel_rfl
noncomputable def r3_74 : Array Oper := regAt [1, 1, 1, 1, 1, 1, 1, 0, 1, 1, 0, 1, 0, 1, 1, 0, 1, 1, 2, 1, 2, 1, 1, 0] body3
theorem cd_c3_74 : c3_74 = .region 14 r3_74 false := by kernel_rfl
noncomputable def c3_75 : Code := match c3_42 with
  | .seq x _ => x
  | _ => .skip
noncomputable def c3_76 : Code := match c3_42 with
  | .seq _ x => x
  | _ => .skip
theorem cd_c3_42 : c3_42 = .seq c3_75 c3_76 := by kernel_rfl
noncomputable def r3_75 : Array Oper := regAt [1, 1, 1, 1, 1, 1, 1, 0, 1, 1, 0, 1, 0, 1, 1, 1, 0] body3
theorem cd_c3_75 : c3_75 = .region 24 r3_75 true := by kernel_rfl
noncomputable def c3_77 : Code := match c3_76 with
  | .cond _ x _ => x
  | _ => .skip
theorem cd_c3_76 : c3_76 = .cond (.tmp 105) c3_77 .skip := by kernel_rfl
noncomputable def c3_79 : Code := match c3_77 with
  | .seq x _ => x
  | _ => .skip
theorem cd_c3_77 : c3_77 = .seq c3_79 .ret := by kernel_rfl
noncomputable def r3_79 : Array Oper := regAt [1, 1, 1, 1, 1, 1, 1, 0, 1, 1, 0, 1, 0, 1, 1, 1, 1, 1, 0] body3
theorem cd_c3_79 : c3_79 = .region 25 r3_79 false := by kernel_rfl
noncomputable def r3_37 : Array Oper := regAt [1, 1, 1, 1, 1, 1, 1, 0, 1, 1, 0, 1, 1] body3
theorem cd_c3_37 : c3_37 = .region 11 r3_37 false := by kernel_rfl
noncomputable def c3_80 : Code := match c3_26 with
  | .seq x _ => x
  | _ => .skip
theorem cd_c3_26 : c3_26 = .seq c3_80 .ret := by kernel_rfl
noncomputable def r3_80 : Array Oper := regAt [1, 1, 1, 1, 1, 1, 1, 1, 0] body3
theorem cd_c3_80 : c3_80 = .region 26 r3_80 false := by kernel_rfl
noncomputable def body4 : Code := match Try.f4.body with
  | some c => c
  | none => .skip
noncomputable def c4_1 : Code := match code4 with
  | .seq x _ => x
  | _ => .skip
noncomputable def c4_2 : Code := match code4 with
  | .seq _ x => x
  | _ => .skip
theorem cd_code4 : code4 = .seq c4_1 c4_2 := by kernel_rfl
noncomputable def r4_1 : Array Oper := regAt [0] body4
theorem cd_c4_1 : c4_1 = .region 0 r4_1 false := by kernel_rfl
noncomputable def c4_3 : Code := match c4_2 with
  | .seq x _ => x
  | _ => .skip
noncomputable def c4_4 : Code := match c4_2 with
  | .seq _ x => x
  | _ => .skip
theorem cd_c4_2 : c4_2 = .seq c4_3 c4_4 := by kernel_rfl
noncomputable def r4_3 : Array Oper := regAt [1, 0] body4
theorem cd_c4_3 : c4_3 = .region 1 r4_3 false := by kernel_rfl
noncomputable def c4_5 : Code := match c4_4 with
  | .seq x _ => x
  | _ => .skip
noncomputable def c4_6 : Code := match c4_4 with
  | .seq _ x => x
  | _ => .skip
theorem cd_c4_4 : c4_4 = .seq c4_5 c4_6 := by kernel_rfl
noncomputable def c4_7 : Code := match c4_5 with
  | .seq x _ => x
  | _ => .skip
noncomputable def c4_8 : Code := match c4_5 with
  | .seq _ x => x
  | _ => .skip
theorem cd_c4_5 : c4_5 = .seq c4_7 c4_8 := by kernel_rfl
noncomputable def r4_7 : Array Oper := regAt [1, 1, 0, 0] body4
theorem cd_c4_7 : c4_7 = .region 2 r4_7 false := by kernel_rfl
noncomputable def c4_9 : Code := match c4_8 with
  | .block _ x => x
  | _ => .skip
theorem cd_c4_8 : c4_8 = .block 0 c4_9 := by kernel_rfl
noncomputable def c4_10 : Code := match c4_9 with
  | .loop x => x
  | _ => .skip
theorem cd_c4_9 : c4_9 = .loop c4_10 := by kernel_rfl
noncomputable def c4_11 : Code := match c4_10 with
  | .seq x _ => x
  | _ => .skip
noncomputable def c4_12 : Code := match c4_10 with
  | .seq _ x => x
  | _ => .skip
theorem cd_c4_10 : c4_10 = .seq c4_11 c4_12 := by kernel_rfl
noncomputable def c4_13 : Code := match c4_11 with
  | .seq x _ => x
  | _ => .skip
noncomputable def c4_14 : Code := match c4_11 with
  | .seq _ x => x
  | _ => .skip
theorem cd_c4_11 : c4_11 = .seq c4_13 c4_14 := by kernel_rfl
noncomputable def r4_13 : Array Oper := regAt [1, 1, 0, 1, 1, 0, 0, 0] body4
theorem cd_c4_13 : c4_13 = .region 3 r4_13 false := by kernel_rfl
theorem cd_c4_14 : c4_14 = .cond (.tmp 11) .skip (.exit 0) := by kernel_rfl
noncomputable def c4_16 : Code := match c4_12 with
  | .seq x _ => x
  | _ => .skip
noncomputable def c4_17 : Code := match c4_12 with
  | .seq _ x => x
  | _ => .skip
theorem cd_c4_12 : c4_12 = .seq c4_16 c4_17 := by kernel_rfl
noncomputable def c4_18 : Code := match c4_16 with
  | .block _ x => x
  | _ => .skip
theorem cd_c4_16 : c4_16 = .block 1 c4_18 := by kernel_rfl
noncomputable def c4_19 : Code := match c4_18 with
  | .seq x _ => x
  | _ => .skip
noncomputable def c4_20 : Code := match c4_18 with
  | .seq _ x => x
  | _ => .skip
theorem cd_c4_18 : c4_18 = .seq c4_19 c4_20 := by kernel_rfl
noncomputable def r4_19 : Array Oper := regAt [1, 1, 0, 1, 1, 0, 1, 0, 1, 0] body4
theorem cd_c4_19 : c4_19 = .region 5 r4_19 false := by kernel_rfl
noncomputable def c4_21 : Code := match c4_20 with
  | .cond _ x _ => x
  | _ => .skip
theorem cd_c4_20 : c4_20 = .cond (.tmp 46) c4_21 .skip := by kernel_rfl
noncomputable def c4_23 : Code := match c4_21 with
  | .seq x _ => x
  | _ => .skip
theorem cd_c4_21 : c4_21 = .seq c4_23 .ret := by kernel_rfl
noncomputable def r4_23 : Array Oper := regAt [1, 1, 0, 1, 1, 0, 1, 0, 1, 1, 1, 0] body4
theorem cd_c4_23 : c4_23 = .region 6 r4_23 false := by kernel_rfl
noncomputable def r4_17 : Array Oper := regAt [1, 1, 0, 1, 1, 0, 1, 1] body4
theorem cd_c4_17 : c4_17 = .region 4 r4_17 false := by kernel_rfl
noncomputable def c4_24 : Code := match c4_6 with
  | .seq x _ => x
  | _ => .skip
theorem cd_c4_6 : c4_6 = .seq c4_24 .ret := by kernel_rfl
noncomputable def r4_24 : Array Oper := regAt [1, 1, 1, 0] body4
theorem cd_c4_24 : c4_24 = .region 7 r4_24 false := by kernel_rfl
noncomputable def body5 : Code := match Try.f5.body with
  | some c => c
  | none => .skip
noncomputable def c5_1 : Code := match code5 with
  | .seq x _ => x
  | _ => .skip
noncomputable def c5_2 : Code := match code5 with
  | .seq _ x => x
  | _ => .skip
theorem cd_code5 : code5 = .seq c5_1 c5_2 := by kernel_rfl
noncomputable def r5_1 : Array Oper := regAt [0] body5
theorem cd_c5_1 : c5_1 = .region 0 r5_1 false := by kernel_rfl
noncomputable def c5_3 : Code := match c5_2 with
  | .seq x _ => x
  | _ => .skip
noncomputable def c5_4 : Code := match c5_2 with
  | .seq _ x => x
  | _ => .skip
theorem cd_c5_2 : c5_2 = .seq c5_3 c5_4 := by kernel_rfl
noncomputable def r5_3 : Array Oper := regAt [1, 0] body5
theorem cd_c5_3 : c5_3 = .region 1 r5_3 false := by kernel_rfl
noncomputable def c5_5 : Code := match c5_4 with
  | .seq x _ => x
  | _ => .skip
noncomputable def c5_6 : Code := match c5_4 with
  | .seq _ x => x
  | _ => .skip
theorem cd_c5_4 : c5_4 = .seq c5_5 c5_6 := by kernel_rfl
noncomputable def r5_5 : Array Oper := regAt [1, 1, 0] body5
theorem cd_c5_5 : c5_5 = .region 2 r5_5 false := by kernel_rfl
noncomputable def c5_7 : Code := match c5_6 with
  | .seq x _ => x
  | _ => .skip
theorem cd_c5_6 : c5_6 = .seq c5_7 .ret := by kernel_rfl
noncomputable def r5_7 : Array Oper := regAt [1, 1, 1, 0] body5
theorem cd_c5_7 : c5_7 = .region 3 r5_7 false := by kernel_rfl
noncomputable def body6 : Code := match Try.f6.body with
  | some c => c
  | none => .skip
noncomputable def c6_1 : Code := match code6 with
  | .seq x _ => x
  | _ => .skip
noncomputable def c6_2 : Code := match code6 with
  | .seq _ x => x
  | _ => .skip
theorem cd_code6 : code6 = .seq c6_1 c6_2 := by kernel_rfl
noncomputable def r6_1 : Array Oper := regAt [0] body6
theorem cd_c6_1 : c6_1 = .region 0 r6_1 false := by kernel_rfl
noncomputable def c6_3 : Code := match c6_2 with
  | .seq x _ => x
  | _ => .skip
noncomputable def c6_4 : Code := match c6_2 with
  | .seq _ x => x
  | _ => .skip
theorem cd_c6_2 : c6_2 = .seq c6_3 c6_4 := by kernel_rfl
noncomputable def r6_3 : Array Oper := regAt [1, 0] body6
theorem cd_c6_3 : c6_3 = .region 1 r6_3 false := by kernel_rfl
noncomputable def c6_5 : Code := match c6_4 with
  | .seq x _ => x
  | _ => .skip
noncomputable def c6_6 : Code := match c6_4 with
  | .seq _ x => x
  | _ => .skip
theorem cd_c6_4 : c6_4 = .seq c6_5 c6_6 := by kernel_rfl
noncomputable def r6_5 : Array Oper := regAt [1, 1, 0] body6
theorem cd_c6_5 : c6_5 = .region 2 r6_5 false := by kernel_rfl
noncomputable def c6_7 : Code := match c6_6 with
  | .seq x _ => x
  | _ => .skip
noncomputable def c6_8 : Code := match c6_6 with
  | .seq _ x => x
  | _ => .skip
theorem cd_c6_6 : c6_6 = .seq c6_7 c6_8 := by kernel_rfl
noncomputable def r6_7 : Array Oper := regAt [1, 1, 1, 0] body6
theorem cd_c6_7 : c6_7 = .region 3 r6_7 false := by kernel_rfl
noncomputable def c6_9 : Code := match c6_8 with
  | .seq x _ => x
  | _ => .skip
noncomputable def c6_10 : Code := match c6_8 with
  | .seq _ x => x
  | _ => .skip
theorem cd_c6_8 : c6_8 = .seq c6_9 c6_10 := by kernel_rfl
noncomputable def r6_9 : Array Oper := regAt [1, 1, 1, 1, 0] body6
theorem cd_c6_9 : c6_9 = .region 4 r6_9 false := by kernel_rfl
noncomputable def c6_11 : Code := match c6_10 with
  | .seq x _ => x
  | _ => .skip
noncomputable def c6_12 : Code := match c6_10 with
  | .seq _ x => x
  | _ => .skip
theorem cd_c6_10 : c6_10 = .seq c6_11 c6_12 := by kernel_rfl
noncomputable def c6_13 : Code := match c6_11 with
  | .seq x _ => x
  | _ => .skip
noncomputable def c6_14 : Code := match c6_11 with
  | .seq _ x => x
  | _ => .skip
theorem cd_c6_11 : c6_11 = .seq c6_13 c6_14 := by kernel_rfl
noncomputable def r6_13 : Array Oper := regAt [1, 1, 1, 1, 1, 0, 0] body6
theorem cd_c6_13 : c6_13 = .region 5 r6_13 false := by kernel_rfl
noncomputable def c6_15 : Code := match c6_14 with
  | .cond _ x _ => x
  | _ => .skip
theorem cd_c6_14 : c6_14 = .cond (.tmp 37) c6_15 .skip := by kernel_rfl
noncomputable def c6_17 : Code := match c6_15 with
  | .seq x _ => x
  | _ => .skip
theorem cd_c6_15 : c6_15 = .seq c6_17 .ret := by kernel_rfl
noncomputable def r6_17 : Array Oper := regAt [1, 1, 1, 1, 1, 0, 1, 1, 0] body6
theorem cd_c6_17 : c6_17 = .region 6 r6_17 false := by kernel_rfl
noncomputable def c6_18 : Code := match c6_12 with
  | .seq x _ => x
  | _ => .skip
noncomputable def c6_19 : Code := match c6_12 with
  | .seq _ x => x
  | _ => .skip
theorem cd_c6_12 : c6_12 = .seq c6_18 c6_19 := by kernel_rfl
noncomputable def r6_18 : Array Oper := regAt [1, 1, 1, 1, 1, 1, 0] body6
theorem cd_c6_18 : c6_18 = .region 7 r6_18 false := by kernel_rfl
noncomputable def c6_20 : Code := match c6_19 with
  | .seq x _ => x
  | _ => .skip
noncomputable def c6_21 : Code := match c6_19 with
  | .seq _ x => x
  | _ => .skip
theorem cd_c6_19 : c6_19 = .seq c6_20 c6_21 := by kernel_rfl
noncomputable def c6_22 : Code := match c6_20 with
  | .seq x _ => x
  | _ => .skip
noncomputable def c6_23 : Code := match c6_20 with
  | .seq _ x => x
  | _ => .skip
theorem cd_c6_20 : c6_20 = .seq c6_22 c6_23 := by kernel_rfl
noncomputable def r6_22 : Array Oper := regAt [1, 1, 1, 1, 1, 1, 1, 0, 0] body6
theorem cd_c6_22 : c6_22 = .region 8 r6_22 false := by kernel_rfl
noncomputable def c6_24 : Code := match c6_23 with
  | .cond _ x _ => x
  | _ => .skip
theorem cd_c6_23 : c6_23 = .cond (.tmp 72) c6_24 .skip := by kernel_rfl
noncomputable def c6_26 : Code := match c6_24 with
  | .seq x _ => x
  | _ => .skip
theorem cd_c6_24 : c6_24 = .seq c6_26 .ret := by kernel_rfl
noncomputable def r6_26 : Array Oper := regAt [1, 1, 1, 1, 1, 1, 1, 0, 1, 1, 0] body6
theorem cd_c6_26 : c6_26 = .region 9 r6_26 false := by kernel_rfl
noncomputable def c6_27 : Code := match c6_21 with
  | .seq x _ => x
  | _ => .skip
noncomputable def c6_28 : Code := match c6_21 with
  | .seq _ x => x
  | _ => .skip
theorem cd_c6_21 : c6_21 = .seq c6_27 c6_28 := by kernel_rfl
noncomputable def r6_27 : Array Oper := regAt [1, 1, 1, 1, 1, 1, 1, 1, 0] body6
theorem cd_c6_27 : c6_27 = .region 10 r6_27 false := by kernel_rfl
noncomputable def c6_29 : Code := match c6_28 with
  | .seq x _ => x
  | _ => .skip
noncomputable def c6_30 : Code := match c6_28 with
  | .seq _ x => x
  | _ => .skip
theorem cd_c6_28 : c6_28 = .seq c6_29 c6_30 := by kernel_rfl
noncomputable def c6_31 : Code := match c6_29 with
  | .seq x _ => x
  | _ => .skip
noncomputable def c6_32 : Code := match c6_29 with
  | .seq _ x => x
  | _ => .skip
theorem cd_c6_29 : c6_29 = .seq c6_31 c6_32 := by kernel_rfl
noncomputable def r6_31 : Array Oper := regAt [1, 1, 1, 1, 1, 1, 1, 1, 1, 0, 0] body6
theorem cd_c6_31 : c6_31 = .region 11 r6_31 false := by kernel_rfl
noncomputable def c6_33 : Code := match c6_32 with
  | .block _ x => x
  | _ => .skip
theorem cd_c6_32 : c6_32 = .block 0 c6_33 := by kernel_rfl
noncomputable def c6_34 : Code := match c6_33 with
  | .loop x => x
  | _ => .skip
theorem cd_c6_33 : c6_33 = .loop c6_34 := by kernel_rfl
noncomputable def c6_35 : Code := match c6_34 with
  | .seq x _ => x
  | _ => .skip
noncomputable def c6_36 : Code := match c6_34 with
  | .seq _ x => x
  | _ => .skip
theorem cd_c6_34 : c6_34 = .seq c6_35 c6_36 := by kernel_rfl
noncomputable def c6_37 : Code := match c6_35 with
  | .seq x _ => x
  | _ => .skip
noncomputable def c6_38 : Code := match c6_35 with
  | .seq _ x => x
  | _ => .skip
theorem cd_c6_35 : c6_35 = .seq c6_37 c6_38 := by kernel_rfl
noncomputable def r6_37 : Array Oper := regAt [1, 1, 1, 1, 1, 1, 1, 1, 1, 0, 1, 1, 0, 0, 0] body6
theorem cd_c6_37 : c6_37 = .region 12 r6_37 false := by kernel_rfl
theorem cd_c6_38 : c6_38 = .cond (.tmp 77) .skip (.exit 0) := by kernel_rfl
noncomputable def c6_40 : Code := match c6_36 with
  | .seq x _ => x
  | _ => .skip
noncomputable def c6_41 : Code := match c6_36 with
  | .seq _ x => x
  | _ => .skip
theorem cd_c6_36 : c6_36 = .seq c6_40 c6_41 := by kernel_rfl
noncomputable def c6_42 : Code := match c6_40 with
  | .block _ x => x
  | _ => .skip
theorem cd_c6_40 : c6_40 = .block 1 c6_42 := by kernel_rfl
noncomputable def c6_43 : Code := match c6_42 with
  | .seq x _ => x
  | _ => .skip
noncomputable def c6_44 : Code := match c6_42 with
  | .seq _ x => x
  | _ => .skip
theorem cd_c6_42 : c6_42 = .seq c6_43 c6_44 := by kernel_rfl
noncomputable def c6_45 : Code := match c6_43 with
  | .seq x _ => x
  | _ => .skip
noncomputable def c6_46 : Code := match c6_43 with
  | .seq _ x => x
  | _ => .skip
theorem cd_c6_43 : c6_43 = .seq c6_45 c6_46 := by kernel_rfl
noncomputable def r6_45 : Array Oper := regAt [1, 1, 1, 1, 1, 1, 1, 1, 1, 0, 1, 1, 0, 1, 0, 1, 0, 0] body6
theorem cd_c6_45 : c6_45 = .region 14 r6_45 true := by kernel_rfl
noncomputable def c6_47 : Code := match c6_46 with
  | .cond _ x _ => x
  | _ => .skip
theorem cd_c6_46 : c6_46 = .cond (.tmp 112) c6_47 .skip := by kernel_rfl
noncomputable def c6_49 : Code := match c6_47 with
  | .seq x _ => x
  | _ => .skip
theorem cd_c6_47 : c6_47 = .seq c6_49 .ret := by kernel_rfl
noncomputable def r6_49 : Array Oper := regAt [1, 1, 1, 1, 1, 1, 1, 1, 1, 0, 1, 1, 0, 1, 0, 1, 0, 1, 1, 0] body6
theorem cd_c6_49 : c6_49 = .region 15 r6_49 false := by kernel_rfl
noncomputable def r6_44 : Array Oper := regAt [1, 1, 1, 1, 1, 1, 1, 1, 1, 0, 1, 1, 0, 1, 0, 1, 1] body6
theorem cd_c6_44 : c6_44 = .region 16 r6_44 false := by kernel_rfl
noncomputable def r6_41 : Array Oper := regAt [1, 1, 1, 1, 1, 1, 1, 1, 1, 0, 1, 1, 0, 1, 1] body6
theorem cd_c6_41 : c6_41 = .region 13 r6_41 false := by kernel_rfl
noncomputable def c6_50 : Code := match c6_30 with
  | .seq x _ => x
  | _ => .skip
theorem cd_c6_30 : c6_30 = .seq c6_50 .ret := by kernel_rfl
noncomputable def r6_50 : Array Oper := regAt [1, 1, 1, 1, 1, 1, 1, 1, 1, 1, 0] body6
theorem cd_c6_50 : c6_50 = .region 17 r6_50 false := by kernel_rfl
noncomputable def body7 : Code := match Try.f7.body with
  | some c => c
  | none => .skip
noncomputable def c7_1 : Code := match code7 with
  | .seq x _ => x
  | _ => .skip
noncomputable def c7_2 : Code := match code7 with
  | .seq _ x => x
  | _ => .skip
theorem cd_code7 : code7 = .seq c7_1 c7_2 := by kernel_rfl
noncomputable def r7_1 : Array Oper := regAt [0] body7
theorem cd_c7_1 : c7_1 = .region 0 r7_1 false := by kernel_rfl
noncomputable def c7_3 : Code := match c7_2 with
  | .seq x _ => x
  | _ => .skip
noncomputable def c7_4 : Code := match c7_2 with
  | .seq _ x => x
  | _ => .skip
theorem cd_c7_2 : c7_2 = .seq c7_3 c7_4 := by kernel_rfl
noncomputable def r7_3 : Array Oper := regAt [1, 0] body7
theorem cd_c7_3 : c7_3 = .region 1 r7_3 false := by kernel_rfl
noncomputable def c7_5 : Code := match c7_4 with
  | .seq x _ => x
  | _ => .skip
noncomputable def c7_6 : Code := match c7_4 with
  | .seq _ x => x
  | _ => .skip
theorem cd_c7_4 : c7_4 = .seq c7_5 c7_6 := by kernel_rfl
noncomputable def r7_5 : Array Oper := regAt [1, 1, 0] body7
theorem cd_c7_5 : c7_5 = .region 2 r7_5 false := by kernel_rfl
noncomputable def c7_7 : Code := match c7_6 with
  | .seq x _ => x
  | _ => .skip
noncomputable def c7_8 : Code := match c7_6 with
  | .seq _ x => x
  | _ => .skip
theorem cd_c7_6 : c7_6 = .seq c7_7 c7_8 := by kernel_rfl
noncomputable def r7_7 : Array Oper := regAt [1, 1, 1, 0] body7
theorem cd_c7_7 : c7_7 = .region 3 r7_7 false := by kernel_rfl
noncomputable def c7_9 : Code := match c7_8 with
  | .seq x _ => x
  | _ => .skip
noncomputable def c7_10 : Code := match c7_8 with
  | .seq _ x => x
  | _ => .skip
theorem cd_c7_8 : c7_8 = .seq c7_9 c7_10 := by kernel_rfl
noncomputable def r7_9 : Array Oper := regAt [1, 1, 1, 1, 0] body7
theorem cd_c7_9 : c7_9 = .region 4 r7_9 false := by kernel_rfl
noncomputable def c7_11 : Code := match c7_10 with
  | .seq x _ => x
  | _ => .skip
noncomputable def c7_12 : Code := match c7_10 with
  | .seq _ x => x
  | _ => .skip
theorem cd_c7_10 : c7_10 = .seq c7_11 c7_12 := by kernel_rfl
noncomputable def c7_13 : Code := match c7_11 with
  | .seq x _ => x
  | _ => .skip
noncomputable def c7_14 : Code := match c7_11 with
  | .seq _ x => x
  | _ => .skip
theorem cd_c7_11 : c7_11 = .seq c7_13 c7_14 := by kernel_rfl
noncomputable def r7_13 : Array Oper := regAt [1, 1, 1, 1, 1, 0, 0] body7
theorem cd_c7_13 : c7_13 = .region 5 r7_13 false := by kernel_rfl
noncomputable def c7_15 : Code := match c7_14 with
  | .cond _ x _ => x
  | _ => .skip
theorem cd_c7_14 : c7_14 = .cond (.tmp 57) c7_15 .skip := by kernel_rfl
noncomputable def c7_17 : Code := match c7_15 with
  | .seq x _ => x
  | _ => .skip
theorem cd_c7_15 : c7_15 = .seq c7_17 .ret := by kernel_rfl
noncomputable def r7_17 : Array Oper := regAt [1, 1, 1, 1, 1, 0, 1, 1, 0] body7
theorem cd_c7_17 : c7_17 = .region 6 r7_17 false := by kernel_rfl
noncomputable def c7_18 : Code := match c7_12 with
  | .seq x _ => x
  | _ => .skip
noncomputable def c7_19 : Code := match c7_12 with
  | .seq _ x => x
  | _ => .skip
theorem cd_c7_12 : c7_12 = .seq c7_18 c7_19 := by kernel_rfl
noncomputable def c7_20 : Code := match c7_18 with
  | .seq x _ => x
  | _ => .skip
noncomputable def c7_21 : Code := match c7_18 with
  | .seq _ x => x
  | _ => .skip
theorem cd_c7_18 : c7_18 = .seq c7_20 c7_21 := by kernel_rfl
noncomputable def r7_20 : Array Oper := regAt [1, 1, 1, 1, 1, 1, 0, 0] body7
theorem cd_c7_20 : c7_20 = .region 7 r7_20 false := by kernel_rfl
noncomputable def c7_22 : Code := match c7_21 with
  | .block _ x => x
  | _ => .skip
theorem cd_c7_21 : c7_21 = .block 0 c7_22 := by kernel_rfl
noncomputable def c7_23 : Code := match c7_22 with
  | .loop x => x
  | _ => .skip
theorem cd_c7_22 : c7_22 = .loop c7_23 := by kernel_rfl
noncomputable def c7_24 : Code := match c7_23 with
  | .seq x _ => x
  | _ => .skip
noncomputable def c7_25 : Code := match c7_23 with
  | .seq _ x => x
  | _ => .skip
theorem cd_c7_23 : c7_23 = .seq c7_24 c7_25 := by kernel_rfl
noncomputable def c7_26 : Code := match c7_24 with
  | .seq x _ => x
  | _ => .skip
noncomputable def c7_27 : Code := match c7_24 with
  | .seq _ x => x
  | _ => .skip
theorem cd_c7_24 : c7_24 = .seq c7_26 c7_27 := by kernel_rfl
noncomputable def r7_26 : Array Oper := regAt [1, 1, 1, 1, 1, 1, 0, 1, 1, 0, 0, 0] body7
theorem cd_c7_26 : c7_26 = .region 8 r7_26 false := by kernel_rfl
theorem cd_c7_27 : c7_27 = .cond (.tmp 77) .skip (.exit 0) := by kernel_rfl
noncomputable def c7_29 : Code := match c7_25 with
  | .seq x _ => x
  | _ => .skip
noncomputable def c7_30 : Code := match c7_25 with
  | .seq _ x => x
  | _ => .skip
theorem cd_c7_25 : c7_25 = .seq c7_29 c7_30 := by kernel_rfl
noncomputable def c7_31 : Code := match c7_29 with
  | .block _ x => x
  | _ => .skip
theorem cd_c7_29 : c7_29 = .block 1 c7_31 := by kernel_rfl
noncomputable def c7_32 : Code := match c7_31 with
  | .seq x _ => x
  | _ => .skip
noncomputable def c7_33 : Code := match c7_31 with
  | .seq _ x => x
  | _ => .skip
theorem cd_c7_31 : c7_31 = .seq c7_32 c7_33 := by kernel_rfl
noncomputable def r7_32 : Array Oper := regAt [1, 1, 1, 1, 1, 1, 0, 1, 1, 0, 1, 0, 1, 0] body7
theorem cd_c7_32 : c7_32 = .region 10 r7_32 true := by kernel_rfl
noncomputable def c7_34 : Code := match c7_33 with
  | .cond _ x _ => x
  | _ => .skip
theorem cd_c7_33 : c7_33 = .cond (.tmp 86) c7_34 .skip := by kernel_rfl
noncomputable def c7_36 : Code := match c7_34 with
  | .seq x _ => x
  | _ => .skip
theorem cd_c7_34 : c7_34 = .seq c7_36 .ret := by kernel_rfl
noncomputable def r7_36 : Array Oper := regAt [1, 1, 1, 1, 1, 1, 0, 1, 1, 0, 1, 0, 1, 1, 1, 0] body7
theorem cd_c7_36 : c7_36 = .region 11 r7_36 false := by kernel_rfl
noncomputable def r7_30 : Array Oper := regAt [1, 1, 1, 1, 1, 1, 0, 1, 1, 0, 1, 1] body7
theorem cd_c7_30 : c7_30 = .region 9 r7_30 false := by kernel_rfl
noncomputable def c7_37 : Code := match c7_19 with
  | .seq x _ => x
  | _ => .skip
noncomputable def c7_38 : Code := match c7_19 with
  | .seq _ x => x
  | _ => .skip
theorem cd_c7_19 : c7_19 = .seq c7_37 c7_38 := by kernel_rfl
noncomputable def c7_39 : Code := match c7_37 with
  | .seq x _ => x
  | _ => .skip
noncomputable def c7_40 : Code := match c7_37 with
  | .seq _ x => x
  | _ => .skip
theorem cd_c7_37 : c7_37 = .seq c7_39 c7_40 := by kernel_rfl
noncomputable def r7_39 : Array Oper := regAt [1, 1, 1, 1, 1, 1, 1, 0, 0] body7
theorem cd_c7_39 : c7_39 = .region 12 r7_39 false := by kernel_rfl
noncomputable def c7_41 : Code := match c7_40 with
  | .block _ x => x
  | _ => .skip
theorem cd_c7_40 : c7_40 = .block 2 c7_41 := by kernel_rfl
noncomputable def c7_42 : Code := match c7_41 with
  | .loop x => x
  | _ => .skip
theorem cd_c7_41 : c7_41 = .loop c7_42 := by kernel_rfl
noncomputable def c7_43 : Code := match c7_42 with
  | .seq x _ => x
  | _ => .skip
noncomputable def c7_44 : Code := match c7_42 with
  | .seq _ x => x
  | _ => .skip
theorem cd_c7_42 : c7_42 = .seq c7_43 c7_44 := by kernel_rfl
noncomputable def c7_45 : Code := match c7_43 with
  | .seq x _ => x
  | _ => .skip
noncomputable def c7_46 : Code := match c7_43 with
  | .seq _ x => x
  | _ => .skip
theorem cd_c7_43 : c7_43 = .seq c7_45 c7_46 := by kernel_rfl
noncomputable def r7_45 : Array Oper := regAt [1, 1, 1, 1, 1, 1, 1, 0, 1, 1, 0, 0, 0] body7
theorem cd_c7_45 : c7_45 = .region 13 r7_45 false := by kernel_rfl
theorem cd_c7_46 : c7_46 = .cond (.tmp 90) .skip (.exit 2) := by kernel_rfl
noncomputable def c7_48 : Code := match c7_44 with
  | .seq x _ => x
  | _ => .skip
noncomputable def c7_49 : Code := match c7_44 with
  | .seq _ x => x
  | _ => .skip
theorem cd_c7_44 : c7_44 = .seq c7_48 c7_49 := by kernel_rfl
noncomputable def c7_50 : Code := match c7_48 with
  | .block _ x => x
  | _ => .skip
theorem cd_c7_48 : c7_48 = .block 3 c7_50 := by kernel_rfl
noncomputable def c7_51 : Code := match c7_50 with
  | .seq x _ => x
  | _ => .skip
noncomputable def c7_52 : Code := match c7_50 with
  | .seq _ x => x
  | _ => .skip
theorem cd_c7_50 : c7_50 = .seq c7_51 c7_52 := by kernel_rfl
noncomputable def r7_51 : Array Oper := regAt [1, 1, 1, 1, 1, 1, 1, 0, 1, 1, 0, 1, 0, 1, 0] body7
theorem cd_c7_51 : c7_51 = .region 15 r7_51 true := by kernel_rfl
noncomputable def c7_53 : Code := match c7_52 with
  | .seq x _ => x
  | _ => .skip
noncomputable def c7_54 : Code := match c7_52 with
  | .seq _ x => x
  | _ => .skip
theorem cd_c7_52 : c7_52 = .seq c7_53 c7_54 := by kernel_rfl
noncomputable def r7_53 : Array Oper := regAt [1, 1, 1, 1, 1, 1, 1, 0, 1, 1, 0, 1, 0, 1, 1, 0] body7
theorem cd_c7_53 : c7_53 = .region 16 r7_53 false := by kernel_rfl
noncomputable def c7_55 : Code := match c7_54 with
  | .cond _ x _ => x
  | _ => .skip
theorem cd_c7_54 : c7_54 = .cond (.tmp 126) c7_55 .skip := by kernel_rfl
noncomputable def c7_57 : Code := match c7_55 with
  | .seq x _ => x
  | _ => .skip
theorem cd_c7_55 : c7_55 = .seq c7_57 .ret := by kernel_rfl
noncomputable def r7_57 : Array Oper := regAt [1, 1, 1, 1, 1, 1, 1, 0, 1, 1, 0, 1, 0, 1, 1, 1, 1, 0] body7
theorem cd_c7_57 : c7_57 = .region 17 r7_57 false := by kernel_rfl
noncomputable def r7_49 : Array Oper := regAt [1, 1, 1, 1, 1, 1, 1, 0, 1, 1, 0, 1, 1] body7
theorem cd_c7_49 : c7_49 = .region 14 r7_49 false := by kernel_rfl
noncomputable def c7_58 : Code := match c7_38 with
  | .seq x _ => x
  | _ => .skip
theorem cd_c7_38 : c7_38 = .seq c7_58 .ret := by kernel_rfl
noncomputable def r7_58 : Array Oper := regAt [1, 1, 1, 1, 1, 1, 1, 1, 0] body7
theorem cd_c7_58 : c7_58 = .region 18 r7_58 false := by kernel_rfl
noncomputable def body8 : Code := match Try.f8.body with
  | some c => c
  | none => .skip
noncomputable def c8_1 : Code := match code8 with
  | .seq x _ => x
  | _ => .skip
noncomputable def c8_2 : Code := match code8 with
  | .seq _ x => x
  | _ => .skip
theorem cd_code8 : code8 = .seq c8_1 c8_2 := by kernel_rfl
noncomputable def r8_1 : Array Oper := regAt [0] body8
theorem cd_c8_1 : c8_1 = .region 0 r8_1 false := by kernel_rfl
noncomputable def c8_3 : Code := match c8_2 with
  | .seq x _ => x
  | _ => .skip
noncomputable def c8_4 : Code := match c8_2 with
  | .seq _ x => x
  | _ => .skip
theorem cd_c8_2 : c8_2 = .seq c8_3 c8_4 := by kernel_rfl
noncomputable def r8_3 : Array Oper := regAt [1, 0] body8
theorem cd_c8_3 : c8_3 = .region 1 r8_3 false := by kernel_rfl
noncomputable def c8_5 : Code := match c8_4 with
  | .seq x _ => x
  | _ => .skip
theorem cd_c8_4 : c8_4 = .seq c8_5 .ret := by kernel_rfl
noncomputable def r8_5 : Array Oper := regAt [1, 1, 0] body8
theorem cd_c8_5 : c8_5 = .region 2 r8_5 false := by kernel_rfl
noncomputable def body9 : Code := match Try.f9.body with
  | some c => c
  | none => .skip
noncomputable def c9_1 : Code := match code9 with
  | .seq x _ => x
  | _ => .skip
noncomputable def c9_2 : Code := match code9 with
  | .seq _ x => x
  | _ => .skip
theorem cd_code9 : code9 = .seq c9_1 c9_2 := by kernel_rfl
noncomputable def r9_1 : Array Oper := regAt [0] body9
theorem cd_c9_1 : c9_1 = .region 0 r9_1 false := by kernel_rfl
noncomputable def c9_3 : Code := match c9_2 with
  | .seq x _ => x
  | _ => .skip
theorem cd_c9_2 : c9_2 = .seq c9_3 .ret := by kernel_rfl
noncomputable def r9_3 : Array Oper := regAt [1, 0] body9
theorem cd_c9_3 : c9_3 = .region 1 r9_3 false := by kernel_rfl
noncomputable def body10 : Code := match Try.f10.body with
  | some c => c
  | none => .skip
noncomputable def c10_1 : Code := match code10 with
  | .seq x _ => x
  | _ => .skip
noncomputable def c10_2 : Code := match code10 with
  | .seq _ x => x
  | _ => .skip
theorem cd_code10 : code10 = .seq c10_1 c10_2 := by kernel_rfl
noncomputable def r10_1 : Array Oper := regAt [0] body10
theorem cd_c10_1 : c10_1 = .region 0 r10_1 false := by kernel_rfl
noncomputable def c10_3 : Code := match c10_2 with
  | .seq x _ => x
  | _ => .skip
noncomputable def c10_4 : Code := match c10_2 with
  | .seq _ x => x
  | _ => .skip
theorem cd_c10_2 : c10_2 = .seq c10_3 c10_4 := by kernel_rfl
noncomputable def c10_5 : Code := match c10_3 with
  | .block _ x => x
  | _ => .skip
theorem cd_c10_3 : c10_3 = .block 0 c10_5 := by kernel_rfl
noncomputable def c10_6 : Code := match c10_5 with
  | .seq x _ => x
  | _ => .skip
noncomputable def c10_7 : Code := match c10_5 with
  | .seq _ x => x
  | _ => .skip
theorem cd_c10_5 : c10_5 = .seq c10_6 c10_7 := by kernel_rfl
noncomputable def r10_6 : Array Oper := regAt [1, 0, 1, 0] body10
theorem cd_c10_6 : c10_6 = .region 1 r10_6 false := by kernel_rfl
noncomputable def c10_8 : Code := match c10_7 with
  | .cond _ x _ => x
  | _ => .skip
noncomputable def c10_9 : Code := match c10_7 with
  | .cond _ _ x => x
  | _ => .skip
theorem cd_c10_7 : c10_7 = .cond (.tmp 4) c10_8 c10_9 := by kernel_rfl
noncomputable def c10_11 : Code := match c10_8 with
  | .seq x _ => x
  | _ => .skip
theorem cd_c10_8 : c10_8 = .seq c10_11 .ret := by kernel_rfl
noncomputable def r10_11 : Array Oper := regAt [1, 0, 1, 1, 1, 0] body10
theorem cd_c10_11 : c10_11 = .region 2 r10_11 false := by kernel_rfl
noncomputable def c10_12 : Code := match c10_9 with
  | .seq x _ => x
  | _ => .skip
noncomputable def c10_13 : Code := match c10_9 with
  | .seq _ x => x
  | _ => .skip
theorem cd_c10_9 : c10_9 = .seq c10_12 c10_13 := by kernel_rfl
noncomputable def r10_12 : Array Oper := regAt [1, 0, 1, 1, 2, 0] body10
theorem cd_c10_12 : c10_12 = .region 3 r10_12 false := by kernel_rfl
noncomputable def c10_14 : Code := match c10_13 with
  | .cond _ x _ => x
  | _ => .skip
theorem cd_c10_13 : c10_13 = .cond (.tmp 8) c10_14 .skip := by kernel_rfl
noncomputable def c10_16 : Code := match c10_14 with
  | .seq x _ => x
  | _ => .skip
theorem cd_c10_14 : c10_14 = .seq c10_16 .ret := by kernel_rfl
noncomputable def r10_16 : Array Oper := regAt [1, 0, 1, 1, 2, 1, 1, 0] body10
theorem cd_c10_16 : c10_16 = .region 4 r10_16 false := by kernel_rfl
noncomputable def c10_17 : Code := match c10_4 with
  | .seq x _ => x
  | _ => .skip
theorem cd_c10_4 : c10_4 = .seq c10_17 .ret := by kernel_rfl
noncomputable def r10_17 : Array Oper := regAt [1, 1, 0] body10
theorem cd_c10_17 : c10_17 = .region 5 r10_17 false := by kernel_rfl
noncomputable def body11 : Code := match Try.f11.body with
  | some c => c
  | none => .skip
noncomputable def c11_1 : Code := match code11 with
  | .seq x _ => x
  | _ => .skip
noncomputable def c11_2 : Code := match code11 with
  | .seq _ x => x
  | _ => .skip
theorem cd_code11 : code11 = .seq c11_1 c11_2 := by kernel_rfl
noncomputable def r11_1 : Array Oper := regAt [0] body11
theorem cd_c11_1 : c11_1 = .region 0 r11_1 false := by kernel_rfl
noncomputable def c11_3 : Code := match c11_2 with
  | .seq x _ => x
  | _ => .skip
noncomputable def c11_4 : Code := match c11_2 with
  | .seq _ x => x
  | _ => .skip
theorem cd_c11_2 : c11_2 = .seq c11_3 c11_4 := by kernel_rfl
noncomputable def c11_5 : Code := match c11_3 with
  | .seq x _ => x
  | _ => .skip
noncomputable def c11_6 : Code := match c11_3 with
  | .seq _ x => x
  | _ => .skip
theorem cd_c11_3 : c11_3 = .seq c11_5 c11_6 := by kernel_rfl
noncomputable def r11_5 : Array Oper := regAt [1, 0, 0] body11
theorem cd_c11_5 : c11_5 = .region 1 r11_5 false := by kernel_rfl
noncomputable def c11_7 : Code := match c11_6 with
  | .cond _ x _ => x
  | _ => .skip
theorem cd_c11_6 : c11_6 = .cond (.tmp 7) c11_7 .skip := by kernel_rfl
noncomputable def c11_9 : Code := match c11_7 with
  | .seq x _ => x
  | _ => .skip
theorem cd_c11_7 : c11_7 = .seq c11_9 .ret := by kernel_rfl
noncomputable def r11_9 : Array Oper := regAt [1, 0, 1, 1, 0] body11
theorem cd_c11_9 : c11_9 = .region 2 r11_9 false := by kernel_rfl
noncomputable def c11_10 : Code := match c11_4 with
  | .seq x _ => x
  | _ => .skip
noncomputable def c11_11 : Code := match c11_4 with
  | .seq _ x => x
  | _ => .skip
theorem cd_c11_4 : c11_4 = .seq c11_10 c11_11 := by kernel_rfl
noncomputable def c11_12 : Code := match c11_10 with
  | .seq x _ => x
  | _ => .skip
noncomputable def c11_13 : Code := match c11_10 with
  | .seq _ x => x
  | _ => .skip
theorem cd_c11_10 : c11_10 = .seq c11_12 c11_13 := by kernel_rfl
noncomputable def r11_12 : Array Oper := regAt [1, 1, 0, 0] body11
theorem cd_c11_12 : c11_12 = .region 3 r11_12 false := by kernel_rfl
noncomputable def c11_14 : Code := match c11_13 with
  | .block _ x => x
  | _ => .skip
theorem cd_c11_13 : c11_13 = .block 0 c11_14 := by kernel_rfl
noncomputable def c11_15 : Code := match c11_14 with
  | .loop x => x
  | _ => .skip
theorem cd_c11_14 : c11_14 = .loop c11_15 := by kernel_rfl
noncomputable def c11_16 : Code := match c11_15 with
  | .seq x _ => x
  | _ => .skip
noncomputable def c11_17 : Code := match c11_15 with
  | .seq _ x => x
  | _ => .skip
theorem cd_c11_15 : c11_15 = .seq c11_16 c11_17 := by kernel_rfl
noncomputable def c11_18 : Code := match c11_16 with
  | .seq x _ => x
  | _ => .skip
noncomputable def c11_19 : Code := match c11_16 with
  | .seq _ x => x
  | _ => .skip
theorem cd_c11_16 : c11_16 = .seq c11_18 c11_19 := by kernel_rfl
noncomputable def r11_18 : Array Oper := regAt [1, 1, 0, 1, 1, 0, 0, 0] body11
theorem cd_c11_18 : c11_18 = .region 4 r11_18 false := by kernel_rfl
theorem cd_c11_19 : c11_19 = .cond (.tmp 11) .skip (.exit 0) := by kernel_rfl
noncomputable def c11_21 : Code := match c11_17 with
  | .seq x _ => x
  | _ => .skip
noncomputable def c11_22 : Code := match c11_17 with
  | .seq _ x => x
  | _ => .skip
theorem cd_c11_17 : c11_17 = .seq c11_21 c11_22 := by kernel_rfl
noncomputable def c11_23 : Code := match c11_21 with
  | .block _ x => x
  | _ => .skip
theorem cd_c11_21 : c11_21 = .block 1 c11_23 := by kernel_rfl
noncomputable def c11_24 : Code := match c11_23 with
  | .seq x _ => x
  | _ => .skip
noncomputable def c11_25 : Code := match c11_23 with
  | .seq _ x => x
  | _ => .skip
theorem cd_c11_23 : c11_23 = .seq c11_24 c11_25 := by kernel_rfl
noncomputable def r11_24 : Array Oper := regAt [1, 1, 0, 1, 1, 0, 1, 0, 1, 0] body11
theorem cd_c11_24 : c11_24 = .region 6 r11_24 false := by kernel_rfl
noncomputable def c11_26 : Code := match c11_25 with
  | .cond _ x _ => x
  | _ => .skip
theorem cd_c11_25 : c11_25 = .cond (.tmp 18) c11_26 .skip := by kernel_rfl
noncomputable def c11_28 : Code := match c11_26 with
  | .seq x _ => x
  | _ => .skip
theorem cd_c11_26 : c11_26 = .seq c11_28 .ret := by kernel_rfl
noncomputable def r11_28 : Array Oper := regAt [1, 1, 0, 1, 1, 0, 1, 0, 1, 1, 1, 0] body11
theorem cd_c11_28 : c11_28 = .region 7 r11_28 false := by kernel_rfl
noncomputable def r11_22 : Array Oper := regAt [1, 1, 0, 1, 1, 0, 1, 1] body11
theorem cd_c11_22 : c11_22 = .region 5 r11_22 false := by kernel_rfl
noncomputable def c11_29 : Code := match c11_11 with
  | .seq x _ => x
  | _ => .skip
theorem cd_c11_11 : c11_11 = .seq c11_29 .ret := by kernel_rfl
noncomputable def r11_29 : Array Oper := regAt [1, 1, 1, 0] body11
theorem cd_c11_29 : c11_29 = .region 8 r11_29 false := by kernel_rfl
noncomputable def body12 : Code := match Try.f12.body with
  | some c => c
  | none => .skip
noncomputable def c12_1 : Code := match code12 with
  | .seq x _ => x
  | _ => .skip
noncomputable def c12_2 : Code := match code12 with
  | .seq _ x => x
  | _ => .skip
theorem cd_code12 : code12 = .seq c12_1 c12_2 := by kernel_rfl
noncomputable def r12_1 : Array Oper := regAt [0] body12
theorem cd_c12_1 : c12_1 = .region 0 r12_1 false := by kernel_rfl
noncomputable def c12_3 : Code := match c12_2 with
  | .seq x _ => x
  | _ => .skip
noncomputable def c12_4 : Code := match c12_2 with
  | .seq _ x => x
  | _ => .skip
theorem cd_c12_2 : c12_2 = .seq c12_3 c12_4 := by kernel_rfl
noncomputable def r12_3 : Array Oper := regAt [1, 0] body12
theorem cd_c12_3 : c12_3 = .region 1 r12_3 false := by kernel_rfl
noncomputable def c12_5 : Code := match c12_4 with
  | .seq x _ => x
  | _ => .skip
noncomputable def c12_6 : Code := match c12_4 with
  | .seq _ x => x
  | _ => .skip
theorem cd_c12_4 : c12_4 = .seq c12_5 c12_6 := by kernel_rfl
noncomputable def c12_7 : Code := match c12_5 with
  | .seq x _ => x
  | _ => .skip
noncomputable def c12_8 : Code := match c12_5 with
  | .seq _ x => x
  | _ => .skip
theorem cd_c12_5 : c12_5 = .seq c12_7 c12_8 := by kernel_rfl
noncomputable def r12_7 : Array Oper := regAt [1, 1, 0, 0] body12
theorem cd_c12_7 : c12_7 = .region 2 r12_7 false := by kernel_rfl
noncomputable def c12_9 : Code := match c12_8 with
  | .block _ x => x
  | _ => .skip
theorem cd_c12_8 : c12_8 = .block 0 c12_9 := by kernel_rfl
noncomputable def c12_10 : Code := match c12_9 with
  | .loop x => x
  | _ => .skip
theorem cd_c12_9 : c12_9 = .loop c12_10 := by kernel_rfl
noncomputable def c12_11 : Code := match c12_10 with
  | .seq x _ => x
  | _ => .skip
noncomputable def c12_12 : Code := match c12_10 with
  | .seq _ x => x
  | _ => .skip
theorem cd_c12_10 : c12_10 = .seq c12_11 c12_12 := by kernel_rfl
noncomputable def c12_13 : Code := match c12_11 with
  | .seq x _ => x
  | _ => .skip
noncomputable def c12_14 : Code := match c12_11 with
  | .seq _ x => x
  | _ => .skip
theorem cd_c12_11 : c12_11 = .seq c12_13 c12_14 := by kernel_rfl
noncomputable def r12_13 : Array Oper := regAt [1, 1, 0, 1, 1, 0, 0, 0] body12
theorem cd_c12_13 : c12_13 = .region 3 r12_13 false := by kernel_rfl
theorem cd_c12_14 : c12_14 = .cond (.tmp 18) .skip (.exit 0) := by kernel_rfl
noncomputable def c12_16 : Code := match c12_12 with
  | .seq x _ => x
  | _ => .skip
noncomputable def c12_17 : Code := match c12_12 with
  | .seq _ x => x
  | _ => .skip
theorem cd_c12_12 : c12_12 = .seq c12_16 c12_17 := by kernel_rfl
noncomputable def c12_18 : Code := match c12_16 with
  | .block _ x => x
  | _ => .skip
theorem cd_c12_16 : c12_16 = .block 1 c12_18 := by kernel_rfl
noncomputable def r12_18 : Array Oper := regAt [1, 1, 0, 1, 1, 0, 1, 0, 1] body12
theorem cd_c12_18 : c12_18 = .region 5 r12_18 true := by kernel_rfl
noncomputable def r12_17 : Array Oper := regAt [1, 1, 0, 1, 1, 0, 1, 1] body12
theorem cd_c12_17 : c12_17 = .region 4 r12_17 false := by kernel_rfl
noncomputable def c12_19 : Code := match c12_6 with
  | .seq x _ => x
  | _ => .skip
theorem cd_c12_6 : c12_6 = .seq c12_19 .ret := by kernel_rfl
noncomputable def r12_19 : Array Oper := regAt [1, 1, 1, 0] body12
theorem cd_c12_19 : c12_19 = .region 6 r12_19 false := by kernel_rfl
noncomputable def body13 : Code := match Try.f13.body with
  | some c => c
  | none => .skip
noncomputable def c13_1 : Code := match code13 with
  | .seq x _ => x
  | _ => .skip
noncomputable def c13_2 : Code := match code13 with
  | .seq _ x => x
  | _ => .skip
theorem cd_code13 : code13 = .seq c13_1 c13_2 := by kernel_rfl
noncomputable def r13_1 : Array Oper := regAt [0] body13
theorem cd_c13_1 : c13_1 = .region 0 r13_1 false := by kernel_rfl
noncomputable def c13_3 : Code := match c13_2 with
  | .seq x _ => x
  | _ => .skip
noncomputable def c13_4 : Code := match c13_2 with
  | .seq _ x => x
  | _ => .skip
theorem cd_c13_2 : c13_2 = .seq c13_3 c13_4 := by kernel_rfl
noncomputable def r13_3 : Array Oper := regAt [1, 0] body13
theorem cd_c13_3 : c13_3 = .region 1 r13_3 false := by kernel_rfl
noncomputable def c13_5 : Code := match c13_4 with
  | .block _ x => x
  | _ => .skip
theorem cd_c13_4 : c13_4 = .block 0 c13_5 := by kernel_rfl
noncomputable def c13_6 : Code := match c13_5 with
  | .loop x => x
  | _ => .skip
theorem cd_c13_5 : c13_5 = .loop c13_6 := by kernel_rfl
noncomputable def c13_7 : Code := match c13_6 with
  | .seq x _ => x
  | _ => .skip
noncomputable def c13_8 : Code := match c13_6 with
  | .seq _ x => x
  | _ => .skip
theorem cd_c13_6 : c13_6 = .seq c13_7 c13_8 := by kernel_rfl
noncomputable def c13_9 : Code := match c13_7 with
  | .seq x _ => x
  | _ => .skip
noncomputable def c13_10 : Code := match c13_7 with
  | .seq _ x => x
  | _ => .skip
theorem cd_c13_7 : c13_7 = .seq c13_9 c13_10 := by kernel_rfl
noncomputable def r13_9 : Array Oper := regAt [1, 1, 1, 0, 0, 0] body13
theorem cd_c13_9 : c13_9 = .region 2 r13_9 false := by kernel_rfl
theorem cd_c13_10 : c13_10 = .cond (.tmp 10) .skip (.exit 0) := by kernel_rfl
noncomputable def c13_12 : Code := match c13_8 with
  | .seq x _ => x
  | _ => .skip
noncomputable def c13_13 : Code := match c13_8 with
  | .seq _ x => x
  | _ => .skip
theorem cd_c13_8 : c13_8 = .seq c13_12 c13_13 := by kernel_rfl
noncomputable def c13_14 : Code := match c13_12 with
  | .block _ x => x
  | _ => .skip
theorem cd_c13_12 : c13_12 = .block 1 c13_14 := by kernel_rfl
noncomputable def r13_14 : Array Oper := regAt [1, 1, 1, 0, 1, 0, 1] body13
theorem cd_c13_14 : c13_14 = .region 4 r13_14 false := by kernel_rfl
noncomputable def r13_13 : Array Oper := regAt [1, 1, 1, 0, 1, 1] body13
theorem cd_c13_13 : c13_13 = .region 3 r13_13 false := by kernel_rfl
noncomputable def body14 : Code := match Try.f14.body with
  | some c => c
  | none => .skip
noncomputable def c14_1 : Code := match code14 with
  | .seq x _ => x
  | _ => .skip
noncomputable def c14_2 : Code := match code14 with
  | .seq _ x => x
  | _ => .skip
theorem cd_code14 : code14 = .seq c14_1 c14_2 := by kernel_rfl
noncomputable def r14_1 : Array Oper := regAt [0] body14
theorem cd_c14_1 : c14_1 = .region 0 r14_1 false := by kernel_rfl
noncomputable def c14_3 : Code := match c14_2 with
  | .seq x _ => x
  | _ => .skip
noncomputable def c14_4 : Code := match c14_2 with
  | .seq _ x => x
  | _ => .skip
theorem cd_c14_2 : c14_2 = .seq c14_3 c14_4 := by kernel_rfl
noncomputable def c14_5 : Code := match c14_3 with
  | .seq x _ => x
  | _ => .skip
noncomputable def c14_6 : Code := match c14_3 with
  | .seq _ x => x
  | _ => .skip
theorem cd_c14_3 : c14_3 = .seq c14_5 c14_6 := by kernel_rfl
noncomputable def r14_5 : Array Oper := regAt [1, 0, 0] body14
theorem cd_c14_5 : c14_5 = .region 1 r14_5 false := by kernel_rfl
noncomputable def c14_7 : Code := match c14_6 with
  | .cond _ x _ => x
  | _ => .skip
theorem cd_c14_6 : c14_6 = .cond (.tmp 6) c14_7 .skip := by kernel_rfl
noncomputable def c14_9 : Code := match c14_7 with
  | .seq x _ => x
  | _ => .skip
theorem cd_c14_7 : c14_7 = .seq c14_9 .ret := by kernel_rfl
noncomputable def r14_9 : Array Oper := regAt [1, 0, 1, 1, 0] body14
theorem cd_c14_9 : c14_9 = .region 2 r14_9 false := by kernel_rfl
noncomputable def c14_10 : Code := match c14_4 with
  | .seq x _ => x
  | _ => .skip
noncomputable def c14_11 : Code := match c14_4 with
  | .seq _ x => x
  | _ => .skip
theorem cd_c14_4 : c14_4 = .seq c14_10 c14_11 := by kernel_rfl
noncomputable def r14_10 : Array Oper := regAt [1, 1, 0] body14
theorem cd_c14_10 : c14_10 = .region 3 r14_10 false := by kernel_rfl
noncomputable def c14_12 : Code := match c14_11 with
  | .seq x _ => x
  | _ => .skip
noncomputable def c14_13 : Code := match c14_11 with
  | .seq _ x => x
  | _ => .skip
theorem cd_c14_11 : c14_11 = .seq c14_12 c14_13 := by kernel_rfl
noncomputable def c14_14 : Code := match c14_12 with
  | .seq x _ => x
  | _ => .skip
noncomputable def c14_15 : Code := match c14_12 with
  | .seq _ x => x
  | _ => .skip
theorem cd_c14_12 : c14_12 = .seq c14_14 c14_15 := by kernel_rfl
noncomputable def r14_14 : Array Oper := regAt [1, 1, 1, 0, 0] body14
theorem cd_c14_14 : c14_14 = .region 4 r14_14 false := by kernel_rfl
noncomputable def c14_16 : Code := match c14_15 with
  | .cond _ x _ => x
  | _ => .skip
theorem cd_c14_15 : c14_15 = .cond (.tmp 11) c14_16 .skip := by kernel_rfl
noncomputable def r14_16 : Array Oper := regAt [1, 1, 1, 0, 1, 1] body14
theorem cd_c14_16 : c14_16 = .region 5 r14_16 false := by kernel_rfl
noncomputable def c14_18 : Code := match c14_13 with
  | .seq x _ => x
  | _ => .skip
theorem cd_c14_13 : c14_13 = .seq c14_18 .ret := by kernel_rfl
noncomputable def r14_18 : Array Oper := regAt [1, 1, 1, 1, 0] body14
theorem cd_c14_18 : c14_18 = .region 6 r14_18 false := by kernel_rfl
noncomputable def body15 : Code := match Try.f15.body with
  | some c => c
  | none => .skip
noncomputable def c15_1 : Code := match code15 with
  | .seq x _ => x
  | _ => .skip
noncomputable def c15_2 : Code := match code15 with
  | .seq _ x => x
  | _ => .skip
theorem cd_code15 : code15 = .seq c15_1 c15_2 := by kernel_rfl
noncomputable def r15_1 : Array Oper := regAt [0] body15
theorem cd_c15_1 : c15_1 = .region 0 r15_1 false := by kernel_rfl
noncomputable def c15_3 : Code := match c15_2 with
  | .seq x _ => x
  | _ => .skip
noncomputable def c15_4 : Code := match c15_2 with
  | .seq _ x => x
  | _ => .skip
theorem cd_c15_2 : c15_2 = .seq c15_3 c15_4 := by kernel_rfl
noncomputable def c15_5 : Code := match c15_3 with
  | .seq x _ => x
  | _ => .skip
noncomputable def c15_6 : Code := match c15_3 with
  | .seq _ x => x
  | _ => .skip
theorem cd_c15_3 : c15_3 = .seq c15_5 c15_6 := by kernel_rfl
noncomputable def r15_5 : Array Oper := regAt [1, 0, 0] body15
theorem cd_c15_5 : c15_5 = .region 1 r15_5 false := by kernel_rfl
noncomputable def c15_7 : Code := match c15_6 with
  | .cond _ x _ => x
  | _ => .skip
theorem cd_c15_6 : c15_6 = .cond (.tmp 19) c15_7 .skip := by kernel_rfl
noncomputable def c15_9 : Code := match c15_7 with
  | .seq x _ => x
  | _ => .skip
theorem cd_c15_7 : c15_7 = .seq c15_9 .ret := by kernel_rfl
noncomputable def r15_9 : Array Oper := regAt [1, 0, 1, 1, 0] body15
theorem cd_c15_9 : c15_9 = .region 2 r15_9 false := by kernel_rfl
noncomputable def c15_10 : Code := match c15_4 with
  | .seq x _ => x
  | _ => .skip
noncomputable def c15_11 : Code := match c15_4 with
  | .seq _ x => x
  | _ => .skip
theorem cd_c15_4 : c15_4 = .seq c15_10 c15_11 := by kernel_rfl
noncomputable def r15_10 : Array Oper := regAt [1, 1, 0] body15
theorem cd_c15_10 : c15_10 = .region 3 r15_10 false := by kernel_rfl
noncomputable def c15_12 : Code := match c15_11 with
  | .seq x _ => x
  | _ => .skip
noncomputable def c15_13 : Code := match c15_11 with
  | .seq _ x => x
  | _ => .skip
theorem cd_c15_11 : c15_11 = .seq c15_12 c15_13 := by kernel_rfl
noncomputable def c15_14 : Code := match c15_12 with
  | .seq x _ => x
  | _ => .skip
noncomputable def c15_15 : Code := match c15_12 with
  | .seq _ x => x
  | _ => .skip
theorem cd_c15_12 : c15_12 = .seq c15_14 c15_15 := by kernel_rfl
noncomputable def r15_14 : Array Oper := regAt [1, 1, 1, 0, 0] body15
theorem cd_c15_14 : c15_14 = .region 4 r15_14 false := by kernel_rfl
noncomputable def c15_16 : Code := match c15_15 with
  | .block _ x => x
  | _ => .skip
theorem cd_c15_15 : c15_15 = .block 0 c15_16 := by kernel_rfl
noncomputable def c15_17 : Code := match c15_16 with
  | .loop x => x
  | _ => .skip
theorem cd_c15_16 : c15_16 = .loop c15_17 := by kernel_rfl
noncomputable def c15_18 : Code := match c15_17 with
  | .seq x _ => x
  | _ => .skip
noncomputable def c15_19 : Code := match c15_17 with
  | .seq _ x => x
  | _ => .skip
theorem cd_c15_17 : c15_17 = .seq c15_18 c15_19 := by kernel_rfl
noncomputable def r15_18 : Array Oper := regAt [1, 1, 1, 0, 1, 1, 0, 0] body15
theorem cd_c15_18 : c15_18 = .region 5 r15_18 false := by kernel_rfl
noncomputable def c15_20 : Code := match c15_19 with
  | .seq x _ => x
  | _ => .skip
noncomputable def c15_21 : Code := match c15_19 with
  | .seq _ x => x
  | _ => .skip
theorem cd_c15_19 : c15_19 = .seq c15_20 c15_21 := by kernel_rfl
theorem cd_c15_20 : c15_20 = .cond (.tmp 24) .skip (.exit 0) := by kernel_rfl
noncomputable def c15_23 : Code := match c15_21 with
  | .seq x _ => x
  | _ => .skip
noncomputable def c15_24 : Code := match c15_21 with
  | .seq _ x => x
  | _ => .skip
theorem cd_c15_21 : c15_21 = .seq c15_23 c15_24 := by kernel_rfl
noncomputable def c15_25 : Code := match c15_23 with
  | .block _ x => x
  | _ => .skip
theorem cd_c15_23 : c15_23 = .block 1 c15_25 := by kernel_rfl
noncomputable def c15_26 : Code := match c15_25 with
  | .seq x _ => x
  | _ => .skip
noncomputable def c15_27 : Code := match c15_25 with
  | .seq _ x => x
  | _ => .skip
theorem cd_c15_25 : c15_25 = .seq c15_26 c15_27 := by kernel_rfl
noncomputable def r15_26 : Array Oper := regAt [1, 1, 1, 0, 1, 1, 0, 1, 1, 0, 1, 0] body15
theorem cd_c15_26 : c15_26 = .region 6 r15_26 false := by kernel_rfl
noncomputable def r15_27 : Array Oper := regAt [1, 1, 1, 0, 1, 1, 0, 1, 1, 0, 1, 1] body15
theorem cd_c15_27 : c15_27 = .region 7 r15_27 false := by kernel_rfl
noncomputable def r15_24 : Array Oper := regAt [1, 1, 1, 0, 1, 1, 0, 1, 1, 1] body15
theorem cd_c15_24 : c15_24 = .region 8 r15_24 false := by kernel_rfl
noncomputable def c15_28 : Code := match c15_13 with
  | .seq x _ => x
  | _ => .skip
noncomputable def c15_29 : Code := match c15_13 with
  | .seq _ x => x
  | _ => .skip
theorem cd_c15_13 : c15_13 = .seq c15_28 c15_29 := by kernel_rfl
noncomputable def c15_30 : Code := match c15_28 with
  | .seq x _ => x
  | _ => .skip
noncomputable def c15_31 : Code := match c15_28 with
  | .seq _ x => x
  | _ => .skip
theorem cd_c15_28 : c15_28 = .seq c15_30 c15_31 := by kernel_rfl
noncomputable def r15_30 : Array Oper := regAt [1, 1, 1, 1, 0, 0] body15
theorem cd_c15_30 : c15_30 = .region 9 r15_30 false := by kernel_rfl
noncomputable def c15_32 : Code := match c15_31 with
  | .block _ x => x
  | _ => .skip
theorem cd_c15_31 : c15_31 = .block 2 c15_32 := by kernel_rfl
noncomputable def c15_33 : Code := match c15_32 with
  | .loop x => x
  | _ => .skip
theorem cd_c15_32 : c15_32 = .loop c15_33 := by kernel_rfl
noncomputable def c15_34 : Code := match c15_33 with
  | .seq x _ => x
  | _ => .skip
noncomputable def c15_35 : Code := match c15_33 with
  | .seq _ x => x
  | _ => .skip
theorem cd_c15_33 : c15_33 = .seq c15_34 c15_35 := by kernel_rfl
noncomputable def r15_34 : Array Oper := regAt [1, 1, 1, 1, 0, 1, 1, 0, 0] body15
theorem cd_c15_34 : c15_34 = .region 10 r15_34 false := by kernel_rfl
noncomputable def c15_36 : Code := match c15_35 with
  | .seq x _ => x
  | _ => .skip
noncomputable def c15_37 : Code := match c15_35 with
  | .seq _ x => x
  | _ => .skip
theorem cd_c15_35 : c15_35 = .seq c15_36 c15_37 := by kernel_rfl
theorem cd_c15_36 : c15_36 = .cond (.tmp 34) .skip (.exit 2) := by kernel_rfl
noncomputable def c15_39 : Code := match c15_37 with
  | .seq x _ => x
  | _ => .skip
noncomputable def c15_40 : Code := match c15_37 with
  | .seq _ x => x
  | _ => .skip
theorem cd_c15_37 : c15_37 = .seq c15_39 c15_40 := by kernel_rfl
noncomputable def c15_41 : Code := match c15_39 with
  | .block _ x => x
  | _ => .skip
theorem cd_c15_39 : c15_39 = .block 3 c15_41 := by kernel_rfl
noncomputable def c15_42 : Code := match c15_41 with
  | .seq x _ => x
  | _ => .skip
noncomputable def c15_43 : Code := match c15_41 with
  | .seq _ x => x
  | _ => .skip
theorem cd_c15_41 : c15_41 = .seq c15_42 c15_43 := by kernel_rfl
noncomputable def r15_42 : Array Oper := regAt [1, 1, 1, 1, 0, 1, 1, 0, 1, 1, 0, 1, 0] body15
theorem cd_c15_42 : c15_42 = .region 11 r15_42 false := by kernel_rfl
noncomputable def c15_44 : Code := match c15_43 with
  | .seq x _ => x
  | _ => .skip
noncomputable def c15_45 : Code := match c15_43 with
  | .seq _ x => x
  | _ => .skip
theorem cd_c15_43 : c15_43 = .seq c15_44 c15_45 := by kernel_rfl
noncomputable def r15_44 : Array Oper := regAt [1, 1, 1, 1, 0, 1, 1, 0, 1, 1, 0, 1, 1, 0] body15
theorem cd_c15_44 : c15_44 = .region 12 r15_44 false := by kernel_rfl
noncomputable def c15_46 : Code := match c15_45 with
  | .seq x _ => x
  | _ => .skip
noncomputable def c15_47 : Code := match c15_45 with
  | .seq _ x => x
  | _ => .skip
theorem cd_c15_45 : c15_45 = .seq c15_46 c15_47 := by kernel_rfl
noncomputable def r15_46 : Array Oper := regAt [1, 1, 1, 1, 0, 1, 1, 0, 1, 1, 0, 1, 1, 1, 0] body15
theorem cd_c15_46 : c15_46 = .region 13 r15_46 false := by kernel_rfl
noncomputable def r15_47 : Array Oper := regAt [1, 1, 1, 1, 0, 1, 1, 0, 1, 1, 0, 1, 1, 1, 1] body15
theorem cd_c15_47 : c15_47 = .region 14 r15_47 true := by kernel_rfl
noncomputable def r15_40 : Array Oper := regAt [1, 1, 1, 1, 0, 1, 1, 0, 1, 1, 1] body15
theorem cd_c15_40 : c15_40 = .region 15 r15_40 false := by kernel_rfl
noncomputable def c15_48 : Code := match c15_29 with
  | .seq x _ => x
  | _ => .skip
theorem cd_c15_29 : c15_29 = .seq c15_48 .ret := by kernel_rfl
noncomputable def r15_48 : Array Oper := regAt [1, 1, 1, 1, 1, 0] body15
theorem cd_c15_48 : c15_48 = .region 16 r15_48 false := by kernel_rfl
noncomputable def body16 : Code := match Try.f16.body with
  | some c => c
  | none => .skip
noncomputable def c16_1 : Code := match code16 with
  | .seq x _ => x
  | _ => .skip
noncomputable def c16_2 : Code := match code16 with
  | .seq _ x => x
  | _ => .skip
theorem cd_code16 : code16 = .seq c16_1 c16_2 := by kernel_rfl
noncomputable def r16_1 : Array Oper := regAt [0] body16
theorem cd_c16_1 : c16_1 = .region 0 r16_1 false := by kernel_rfl
noncomputable def c16_3 : Code := match c16_2 with
  | .seq x _ => x
  | _ => .skip
noncomputable def c16_4 : Code := match c16_2 with
  | .seq _ x => x
  | _ => .skip
theorem cd_c16_2 : c16_2 = .seq c16_3 c16_4 := by kernel_rfl
noncomputable def c16_5 : Code := match c16_3 with
  | .seq x _ => x
  | _ => .skip
noncomputable def c16_6 : Code := match c16_3 with
  | .seq _ x => x
  | _ => .skip
theorem cd_c16_3 : c16_3 = .seq c16_5 c16_6 := by kernel_rfl
noncomputable def r16_5 : Array Oper := regAt [1, 0, 0] body16
theorem cd_c16_5 : c16_5 = .region 1 r16_5 false := by kernel_rfl
noncomputable def c16_7 : Code := match c16_6 with
  | .cond _ x _ => x
  | _ => .skip
theorem cd_c16_6 : c16_6 = .cond (.tmp 11) c16_7 .skip := by kernel_rfl
noncomputable def c16_9 : Code := match c16_7 with
  | .seq x _ => x
  | _ => .skip
theorem cd_c16_7 : c16_7 = .seq c16_9 .ret := by kernel_rfl
noncomputable def r16_9 : Array Oper := regAt [1, 0, 1, 1, 0] body16
theorem cd_c16_9 : c16_9 = .region 2 r16_9 false := by kernel_rfl
noncomputable def c16_10 : Code := match c16_4 with
  | .seq x _ => x
  | _ => .skip
noncomputable def c16_11 : Code := match c16_4 with
  | .seq _ x => x
  | _ => .skip
theorem cd_c16_4 : c16_4 = .seq c16_10 c16_11 := by kernel_rfl
noncomputable def r16_10 : Array Oper := regAt [1, 1, 0] body16
theorem cd_c16_10 : c16_10 = .region 3 r16_10 false := by kernel_rfl
noncomputable def c16_12 : Code := match c16_11 with
  | .seq x _ => x
  | _ => .skip
noncomputable def c16_13 : Code := match c16_11 with
  | .seq _ x => x
  | _ => .skip
theorem cd_c16_11 : c16_11 = .seq c16_12 c16_13 := by kernel_rfl
noncomputable def c16_14 : Code := match c16_12 with
  | .seq x _ => x
  | _ => .skip
noncomputable def c16_15 : Code := match c16_12 with
  | .seq _ x => x
  | _ => .skip
theorem cd_c16_12 : c16_12 = .seq c16_14 c16_15 := by kernel_rfl
noncomputable def r16_14 : Array Oper := regAt [1, 1, 1, 0, 0] body16
theorem cd_c16_14 : c16_14 = .region 4 r16_14 false := by kernel_rfl
noncomputable def c16_16 : Code := match c16_15 with
  | .block _ x => x
  | _ => .skip
theorem cd_c16_15 : c16_15 = .block 0 c16_16 := by kernel_rfl
noncomputable def c16_17 : Code := match c16_16 with
  | .loop x => x
  | _ => .skip
theorem cd_c16_16 : c16_16 = .loop c16_17 := by kernel_rfl
noncomputable def c16_18 : Code := match c16_17 with
  | .seq x _ => x
  | _ => .skip
noncomputable def c16_19 : Code := match c16_17 with
  | .seq _ x => x
  | _ => .skip
theorem cd_c16_17 : c16_17 = .seq c16_18 c16_19 := by kernel_rfl
noncomputable def c16_20 : Code := match c16_18 with
  | .seq x _ => x
  | _ => .skip
noncomputable def c16_21 : Code := match c16_18 with
  | .seq _ x => x
  | _ => .skip
theorem cd_c16_18 : c16_18 = .seq c16_20 c16_21 := by kernel_rfl
noncomputable def r16_20 : Array Oper := regAt [1, 1, 1, 0, 1, 1, 0, 0, 0] body16
theorem cd_c16_20 : c16_20 = .region 5 r16_20 false := by kernel_rfl
theorem cd_c16_21 : c16_21 = .cond (.tmp 14) .skip (.exit 0) := by kernel_rfl
noncomputable def c16_23 : Code := match c16_19 with
  | .seq x _ => x
  | _ => .skip
noncomputable def c16_24 : Code := match c16_19 with
  | .seq _ x => x
  | _ => .skip
theorem cd_c16_19 : c16_19 = .seq c16_23 c16_24 := by kernel_rfl
noncomputable def c16_25 : Code := match c16_23 with
  | .block _ x => x
  | _ => .skip
theorem cd_c16_23 : c16_23 = .block 1 c16_25 := by kernel_rfl
noncomputable def r16_25 : Array Oper := regAt [1, 1, 1, 0, 1, 1, 0, 1, 0, 1] body16
theorem cd_c16_25 : c16_25 = .region 7 r16_25 false := by kernel_rfl
noncomputable def r16_24 : Array Oper := regAt [1, 1, 1, 0, 1, 1, 0, 1, 1] body16
theorem cd_c16_24 : c16_24 = .region 6 r16_24 false := by kernel_rfl
noncomputable def c16_26 : Code := match c16_13 with
  | .seq x _ => x
  | _ => .skip
noncomputable def c16_27 : Code := match c16_13 with
  | .seq _ x => x
  | _ => .skip
theorem cd_c16_13 : c16_13 = .seq c16_26 c16_27 := by kernel_rfl
noncomputable def c16_28 : Code := match c16_26 with
  | .seq x _ => x
  | _ => .skip
noncomputable def c16_29 : Code := match c16_26 with
  | .seq _ x => x
  | _ => .skip
theorem cd_c16_26 : c16_26 = .seq c16_28 c16_29 := by kernel_rfl
noncomputable def r16_28 : Array Oper := regAt [1, 1, 1, 1, 0, 0] body16
theorem cd_c16_28 : c16_28 = .region 8 r16_28 false := by kernel_rfl
noncomputable def c16_30 : Code := match c16_29 with
  | .block _ x => x
  | _ => .skip
theorem cd_c16_29 : c16_29 = .block 2 c16_30 := by kernel_rfl
noncomputable def c16_31 : Code := match c16_30 with
  | .loop x => x
  | _ => .skip
theorem cd_c16_30 : c16_30 = .loop c16_31 := by kernel_rfl
noncomputable def c16_32 : Code := match c16_31 with
  | .seq x _ => x
  | _ => .skip
noncomputable def c16_33 : Code := match c16_31 with
  | .seq _ x => x
  | _ => .skip
theorem cd_c16_31 : c16_31 = .seq c16_32 c16_33 := by kernel_rfl
noncomputable def c16_34 : Code := match c16_32 with
  | .seq x _ => x
  | _ => .skip
noncomputable def c16_35 : Code := match c16_32 with
  | .seq _ x => x
  | _ => .skip
theorem cd_c16_32 : c16_32 = .seq c16_34 c16_35 := by kernel_rfl
noncomputable def r16_34 : Array Oper := regAt [1, 1, 1, 1, 0, 1, 1, 0, 0, 0] body16
theorem cd_c16_34 : c16_34 = .region 9 r16_34 false := by kernel_rfl
theorem cd_c16_35 : c16_35 = .cond (.tmp 24) .skip (.exit 2) := by kernel_rfl
noncomputable def c16_37 : Code := match c16_33 with
  | .seq x _ => x
  | _ => .skip
noncomputable def c16_38 : Code := match c16_33 with
  | .seq _ x => x
  | _ => .skip
theorem cd_c16_33 : c16_33 = .seq c16_37 c16_38 := by kernel_rfl
noncomputable def c16_39 : Code := match c16_37 with
  | .block _ x => x
  | _ => .skip
theorem cd_c16_37 : c16_37 = .block 3 c16_39 := by kernel_rfl
noncomputable def c16_40 : Code := match c16_39 with
  | .seq x _ => x
  | _ => .skip
noncomputable def c16_41 : Code := match c16_39 with
  | .seq _ x => x
  | _ => .skip
theorem cd_c16_39 : c16_39 = .seq c16_40 c16_41 := by kernel_rfl
noncomputable def r16_40 : Array Oper := regAt [1, 1, 1, 1, 0, 1, 1, 0, 1, 0, 1, 0] body16
theorem cd_c16_40 : c16_40 = .region 11 r16_40 false := by kernel_rfl
noncomputable def c16_42 : Code := match c16_41 with
  | .seq x _ => x
  | _ => .skip
noncomputable def c16_43 : Code := match c16_41 with
  | .seq _ x => x
  | _ => .skip
theorem cd_c16_41 : c16_41 = .seq c16_42 c16_43 := by kernel_rfl
noncomputable def r16_42 : Array Oper := regAt [1, 1, 1, 1, 0, 1, 1, 0, 1, 0, 1, 1, 0] body16
theorem cd_c16_42 : c16_42 = .region 12 r16_42 false := by kernel_rfl
noncomputable def c16_44 : Code := match c16_43 with
  | .seq x _ => x
  | _ => .skip
noncomputable def c16_45 : Code := match c16_43 with
  | .seq _ x => x
  | _ => .skip
theorem cd_c16_43 : c16_43 = .seq c16_44 c16_45 := by kernel_rfl
noncomputable def r16_44 : Array Oper := regAt [1, 1, 1, 1, 0, 1, 1, 0, 1, 0, 1, 1, 1, 0] body16
theorem cd_c16_44 : c16_44 = .region 13 r16_44 false := by kernel_rfl
noncomputable def r16_45 : Array Oper := regAt [1, 1, 1, 1, 0, 1, 1, 0, 1, 0, 1, 1, 1, 1] body16
theorem cd_c16_45 : c16_45 = .region 14 r16_45 false := by kernel_rfl
noncomputable def r16_38 : Array Oper := regAt [1, 1, 1, 1, 0, 1, 1, 0, 1, 1] body16
theorem cd_c16_38 : c16_38 = .region 10 r16_38 false := by kernel_rfl
noncomputable def c16_46 : Code := match c16_27 with
  | .seq x _ => x
  | _ => .skip
theorem cd_c16_27 : c16_27 = .seq c16_46 .ret := by kernel_rfl
noncomputable def r16_46 : Array Oper := regAt [1, 1, 1, 1, 1, 0] body16
theorem cd_c16_46 : c16_46 = .region 15 r16_46 false := by kernel_rfl
noncomputable def body17 : Code := match Try.f17.body with
  | some c => c
  | none => .skip
noncomputable def c17_1 : Code := match code17 with
  | .seq x _ => x
  | _ => .skip
noncomputable def c17_2 : Code := match code17 with
  | .seq _ x => x
  | _ => .skip
theorem cd_code17 : code17 = .seq c17_1 c17_2 := by kernel_rfl
noncomputable def r17_1 : Array Oper := regAt [0] body17
theorem cd_c17_1 : c17_1 = .region 0 r17_1 false := by kernel_rfl
noncomputable def c17_3 : Code := match c17_2 with
  | .seq x _ => x
  | _ => .skip
noncomputable def c17_4 : Code := match c17_2 with
  | .seq _ x => x
  | _ => .skip
theorem cd_c17_2 : c17_2 = .seq c17_3 c17_4 := by kernel_rfl
noncomputable def c17_5 : Code := match c17_3 with
  | .seq x _ => x
  | _ => .skip
noncomputable def c17_6 : Code := match c17_3 with
  | .seq _ x => x
  | _ => .skip
theorem cd_c17_3 : c17_3 = .seq c17_5 c17_6 := by kernel_rfl
noncomputable def r17_5 : Array Oper := regAt [1, 0, 0] body17
theorem cd_c17_5 : c17_5 = .region 1 r17_5 false := by kernel_rfl
noncomputable def c17_7 : Code := match c17_6 with
  | .cond _ x _ => x
  | _ => .skip
theorem cd_c17_6 : c17_6 = .cond (.tmp 5) c17_7 .skip := by kernel_rfl
noncomputable def c17_9 : Code := match c17_7 with
  | .seq x _ => x
  | _ => .skip
theorem cd_c17_7 : c17_7 = .seq c17_9 .ret := by kernel_rfl
noncomputable def r17_9 : Array Oper := regAt [1, 0, 1, 1, 0] body17
theorem cd_c17_9 : c17_9 = .region 2 r17_9 false := by kernel_rfl
noncomputable def c17_10 : Code := match c17_4 with
  | .seq x _ => x
  | _ => .skip
noncomputable def c17_11 : Code := match c17_4 with
  | .seq _ x => x
  | _ => .skip
theorem cd_c17_4 : c17_4 = .seq c17_10 c17_11 := by kernel_rfl
noncomputable def r17_10 : Array Oper := regAt [1, 1, 0] body17
theorem cd_c17_10 : c17_10 = .region 3 r17_10 false := by kernel_rfl
noncomputable def c17_12 : Code := match c17_11 with
  | .seq x _ => x
  | _ => .skip
noncomputable def c17_13 : Code := match c17_11 with
  | .seq _ x => x
  | _ => .skip
theorem cd_c17_11 : c17_11 = .seq c17_12 c17_13 := by kernel_rfl
noncomputable def c17_14 : Code := match c17_12 with
  | .seq x _ => x
  | _ => .skip
noncomputable def c17_15 : Code := match c17_12 with
  | .seq _ x => x
  | _ => .skip
theorem cd_c17_12 : c17_12 = .seq c17_14 c17_15 := by kernel_rfl
noncomputable def r17_14 : Array Oper := regAt [1, 1, 1, 0, 0] body17
theorem cd_c17_14 : c17_14 = .region 4 r17_14 false := by kernel_rfl
noncomputable def c17_16 : Code := match c17_15 with
  | .cond _ x _ => x
  | _ => .skip
theorem cd_c17_15 : c17_15 = .cond (.tmp 18) c17_16 .skip := by kernel_rfl
noncomputable def c17_18 : Code := match c17_16 with
  | .seq x _ => x
  | _ => .skip
theorem cd_c17_16 : c17_16 = .seq c17_18 .ret := by kernel_rfl
noncomputable def r17_18 : Array Oper := regAt [1, 1, 1, 0, 1, 1, 0] body17
theorem cd_c17_18 : c17_18 = .region 5 r17_18 false := by kernel_rfl
noncomputable def c17_19 : Code := match c17_13 with
  | .seq x _ => x
  | _ => .skip
noncomputable def c17_20 : Code := match c17_13 with
  | .seq _ x => x
  | _ => .skip
theorem cd_c17_13 : c17_13 = .seq c17_19 c17_20 := by kernel_rfl
noncomputable def r17_19 : Array Oper := regAt [1, 1, 1, 1, 0] body17
theorem cd_c17_19 : c17_19 = .region 6 r17_19 false := by kernel_rfl
noncomputable def c17_21 : Code := match c17_20 with
  | .seq x _ => x
  | _ => .skip
noncomputable def c17_22 : Code := match c17_20 with
  | .seq _ x => x
  | _ => .skip
theorem cd_c17_20 : c17_20 = .seq c17_21 c17_22 := by kernel_rfl
noncomputable def r17_21 : Array Oper := regAt [1, 1, 1, 1, 1, 0] body17
theorem cd_c17_21 : c17_21 = .region 7 r17_21 true := by kernel_rfl
noncomputable def c17_23 : Code := match c17_22 with
  | .seq x _ => x
  | _ => .skip
theorem cd_c17_22 : c17_22 = .seq c17_23 .ret := by kernel_rfl
noncomputable def r17_23 : Array Oper := regAt [1, 1, 1, 1, 1, 1, 0] body17
theorem cd_c17_23 : c17_23 = .region 8 r17_23 false := by kernel_rfl
noncomputable def body18 : Code := match Try.f18.body with
  | some c => c
  | none => .skip
noncomputable def c18_1 : Code := match code18 with
  | .seq x _ => x
  | _ => .skip
noncomputable def c18_2 : Code := match code18 with
  | .seq _ x => x
  | _ => .skip
theorem cd_code18 : code18 = .seq c18_1 c18_2 := by kernel_rfl
noncomputable def r18_1 : Array Oper := regAt [0] body18
theorem cd_c18_1 : c18_1 = .region 0 r18_1 false := by kernel_rfl
noncomputable def c18_3 : Code := match c18_2 with
  | .seq x _ => x
  | _ => .skip
noncomputable def c18_4 : Code := match c18_2 with
  | .seq _ x => x
  | _ => .skip
theorem cd_c18_2 : c18_2 = .seq c18_3 c18_4 := by kernel_rfl
noncomputable def r18_3 : Array Oper := regAt [1, 0] body18
theorem cd_c18_3 : c18_3 = .region 1 r18_3 false := by kernel_rfl
noncomputable def c18_5 : Code := match c18_4 with
  | .seq x _ => x
  | _ => .skip
noncomputable def c18_6 : Code := match c18_4 with
  | .seq _ x => x
  | _ => .skip
theorem cd_c18_4 : c18_4 = .seq c18_5 c18_6 := by kernel_rfl
noncomputable def c18_7 : Code := match c18_5 with
  | .seq x _ => x
  | _ => .skip
noncomputable def c18_8 : Code := match c18_5 with
  | .seq _ x => x
  | _ => .skip
theorem cd_c18_5 : c18_5 = .seq c18_7 c18_8 := by kernel_rfl
noncomputable def r18_7 : Array Oper := regAt [1, 1, 0, 0] body18
theorem cd_c18_7 : c18_7 = .region 2 r18_7 true := by kernel_rfl
noncomputable def c18_9 : Code := match c18_8 with
  | .cond _ x _ => x
  | _ => .skip
theorem cd_c18_8 : c18_8 = .cond (.tmp 19) c18_9 .skip := by kernel_rfl
noncomputable def c18_11 : Code := match c18_9 with
  | .seq x _ => x
  | _ => .skip
theorem cd_c18_9 : c18_9 = .seq c18_11 .ret := by kernel_rfl
noncomputable def r18_11 : Array Oper := regAt [1, 1, 0, 1, 1, 0] body18
theorem cd_c18_11 : c18_11 = .region 3 r18_11 false := by kernel_rfl
noncomputable def c18_12 : Code := match c18_6 with
  | .seq x _ => x
  | _ => .skip
theorem cd_c18_6 : c18_6 = .seq c18_12 .ret := by kernel_rfl
noncomputable def r18_12 : Array Oper := regAt [1, 1, 1, 0] body18
theorem cd_c18_12 : c18_12 = .region 4 r18_12 true := by kernel_rfl
noncomputable def body19 : Code := match Try.f19.body with
  | some c => c
  | none => .skip
noncomputable def c19_1 : Code := match code19 with
  | .seq x _ => x
  | _ => .skip
noncomputable def c19_2 : Code := match code19 with
  | .seq _ x => x
  | _ => .skip
theorem cd_code19 : code19 = .seq c19_1 c19_2 := by kernel_rfl
noncomputable def r19_1 : Array Oper := regAt [0] body19
theorem cd_c19_1 : c19_1 = .region 0 r19_1 false := by kernel_rfl
noncomputable def c19_3 : Code := match c19_2 with
  | .seq x _ => x
  | _ => .skip
noncomputable def c19_4 : Code := match c19_2 with
  | .seq _ x => x
  | _ => .skip
theorem cd_c19_2 : c19_2 = .seq c19_3 c19_4 := by kernel_rfl
noncomputable def c19_5 : Code := match c19_3 with
  | .seq x _ => x
  | _ => .skip
noncomputable def c19_6 : Code := match c19_3 with
  | .seq _ x => x
  | _ => .skip
theorem cd_c19_3 : c19_3 = .seq c19_5 c19_6 := by kernel_rfl
noncomputable def r19_5 : Array Oper := regAt [1, 0, 0] body19
theorem cd_c19_5 : c19_5 = .region 1 r19_5 false := by kernel_rfl
noncomputable def c19_7 : Code := match c19_6 with
  | .cond _ x _ => x
  | _ => .skip
theorem cd_c19_6 : c19_6 = .cond (.tmp 6) c19_7 .skip := by kernel_rfl
noncomputable def c19_9 : Code := match c19_7 with
  | .seq x _ => x
  | _ => .skip
theorem cd_c19_7 : c19_7 = .seq c19_9 .ret := by kernel_rfl
noncomputable def r19_9 : Array Oper := regAt [1, 0, 1, 1, 0] body19
theorem cd_c19_9 : c19_9 = .region 2 r19_9 false := by kernel_rfl
noncomputable def c19_10 : Code := match c19_4 with
  | .seq x _ => x
  | _ => .skip
theorem cd_c19_4 : c19_4 = .seq c19_10 .ret := by kernel_rfl
noncomputable def r19_10 : Array Oper := regAt [1, 1, 0] body19
theorem cd_c19_10 : c19_10 = .region 3 r19_10 false := by kernel_rfl
noncomputable def body20 : Code := match Try.f20.body with
  | some c => c
  | none => .skip
noncomputable def c20_1 : Code := match code20 with
  | .seq x _ => x
  | _ => .skip
noncomputable def c20_2 : Code := match code20 with
  | .seq _ x => x
  | _ => .skip
theorem cd_code20 : code20 = .seq c20_1 c20_2 := by kernel_rfl
noncomputable def r20_1 : Array Oper := regAt [0] body20
theorem cd_c20_1 : c20_1 = .region 0 r20_1 false := by kernel_rfl
noncomputable def c20_3 : Code := match c20_2 with
  | .seq x _ => x
  | _ => .skip
noncomputable def c20_4 : Code := match c20_2 with
  | .seq _ x => x
  | _ => .skip
theorem cd_c20_2 : c20_2 = .seq c20_3 c20_4 := by kernel_rfl
noncomputable def c20_5 : Code := match c20_3 with
  | .seq x _ => x
  | _ => .skip
noncomputable def c20_6 : Code := match c20_3 with
  | .seq _ x => x
  | _ => .skip
theorem cd_c20_3 : c20_3 = .seq c20_5 c20_6 := by kernel_rfl
noncomputable def r20_5 : Array Oper := regAt [1, 0, 0] body20
theorem cd_c20_5 : c20_5 = .region 1 r20_5 false := by kernel_rfl
noncomputable def c20_7 : Code := match c20_6 with
  | .cond _ x _ => x
  | _ => .skip
theorem cd_c20_6 : c20_6 = .cond (.tmp 6) c20_7 .skip := by kernel_rfl
noncomputable def c20_9 : Code := match c20_7 with
  | .seq x _ => x
  | _ => .skip
theorem cd_c20_7 : c20_7 = .seq c20_9 .ret := by kernel_rfl
noncomputable def r20_9 : Array Oper := regAt [1, 0, 1, 1, 0] body20
theorem cd_c20_9 : c20_9 = .region 2 r20_9 false := by kernel_rfl
noncomputable def c20_10 : Code := match c20_4 with
  | .seq x _ => x
  | _ => .skip
theorem cd_c20_4 : c20_4 = .seq c20_10 .ret := by kernel_rfl
noncomputable def r20_10 : Array Oper := regAt [1, 1, 0] body20
theorem cd_c20_10 : c20_10 = .region 3 r20_10 false := by kernel_rfl
noncomputable def body21 : Code := match Try.f21.body with
  | some c => c
  | none => .skip
noncomputable def c21_1 : Code := match code21 with
  | .seq x _ => x
  | _ => .skip
noncomputable def c21_2 : Code := match code21 with
  | .seq _ x => x
  | _ => .skip
theorem cd_code21 : code21 = .seq c21_1 c21_2 := by kernel_rfl
noncomputable def r21_1 : Array Oper := regAt [0] body21
theorem cd_c21_1 : c21_1 = .region 0 r21_1 false := by kernel_rfl
noncomputable def c21_3 : Code := match c21_2 with
  | .seq x _ => x
  | _ => .skip
noncomputable def c21_4 : Code := match c21_2 with
  | .seq _ x => x
  | _ => .skip
theorem cd_c21_2 : c21_2 = .seq c21_3 c21_4 := by kernel_rfl
noncomputable def c21_5 : Code := match c21_3 with
  | .seq x _ => x
  | _ => .skip
noncomputable def c21_6 : Code := match c21_3 with
  | .seq _ x => x
  | _ => .skip
theorem cd_c21_3 : c21_3 = .seq c21_5 c21_6 := by kernel_rfl
noncomputable def r21_5 : Array Oper := regAt [1, 0, 0] body21
theorem cd_c21_5 : c21_5 = .region 1 r21_5 false := by kernel_rfl
noncomputable def c21_7 : Code := match c21_6 with
  | .cond _ x _ => x
  | _ => .skip
theorem cd_c21_6 : c21_6 = .cond (.tmp 4) c21_7 .skip := by kernel_rfl
noncomputable def c21_9 : Code := match c21_7 with
  | .seq x _ => x
  | _ => .skip
theorem cd_c21_7 : c21_7 = .seq c21_9 .ret := by kernel_rfl
noncomputable def r21_9 : Array Oper := regAt [1, 0, 1, 1, 0] body21
theorem cd_c21_9 : c21_9 = .region 2 r21_9 false := by kernel_rfl
noncomputable def c21_10 : Code := match c21_4 with
  | .seq x _ => x
  | _ => .skip
theorem cd_c21_4 : c21_4 = .seq c21_10 .ret := by kernel_rfl
noncomputable def r21_10 : Array Oper := regAt [1, 1, 0] body21
theorem cd_c21_10 : c21_10 = .region 3 r21_10 false := by kernel_rfl
noncomputable def body22 : Code := match Try.f22.body with
  | some c => c
  | none => .skip
noncomputable def c22_1 : Code := match code22 with
  | .seq x _ => x
  | _ => .skip
noncomputable def c22_2 : Code := match code22 with
  | .seq _ x => x
  | _ => .skip
theorem cd_code22 : code22 = .seq c22_1 c22_2 := by kernel_rfl
noncomputable def r22_1 : Array Oper := regAt [0] body22
theorem cd_c22_1 : c22_1 = .region 0 r22_1 false := by kernel_rfl
noncomputable def c22_3 : Code := match c22_2 with
  | .seq x _ => x
  | _ => .skip
noncomputable def c22_4 : Code := match c22_2 with
  | .seq _ x => x
  | _ => .skip
theorem cd_c22_2 : c22_2 = .seq c22_3 c22_4 := by kernel_rfl
noncomputable def r22_3 : Array Oper := regAt [1, 0] body22
theorem cd_c22_3 : c22_3 = .region 1 r22_3 false := by kernel_rfl
noncomputable def c22_5 : Code := match c22_4 with
  | .seq x _ => x
  | _ => .skip
noncomputable def c22_6 : Code := match c22_4 with
  | .seq _ x => x
  | _ => .skip
theorem cd_c22_4 : c22_4 = .seq c22_5 c22_6 := by kernel_rfl
noncomputable def c22_7 : Code := match c22_5 with
  | .seq x _ => x
  | _ => .skip
noncomputable def c22_8 : Code := match c22_5 with
  | .seq _ x => x
  | _ => .skip
theorem cd_c22_5 : c22_5 = .seq c22_7 c22_8 := by kernel_rfl
noncomputable def r22_7 : Array Oper := regAt [1, 1, 0, 0] body22
theorem cd_c22_7 : c22_7 = .region 2 r22_7 false := by kernel_rfl
noncomputable def c22_9 : Code := match c22_8 with
  | .cond _ x _ => x
  | _ => .skip
theorem cd_c22_8 : c22_8 = .cond (.tmp 11) c22_9 .skip := by kernel_rfl
noncomputable def c22_11 : Code := match c22_9 with
  | .seq x _ => x
  | _ => .skip
theorem cd_c22_9 : c22_9 = .seq c22_11 .ret := by kernel_rfl
noncomputable def r22_11 : Array Oper := regAt [1, 1, 0, 1, 1, 0] body22
theorem cd_c22_11 : c22_11 = .region 3 r22_11 false := by kernel_rfl
noncomputable def c22_12 : Code := match c22_6 with
  | .seq x _ => x
  | _ => .skip
theorem cd_c22_6 : c22_6 = .seq c22_12 .ret := by kernel_rfl
noncomputable def r22_12 : Array Oper := regAt [1, 1, 1, 0] body22
theorem cd_c22_12 : c22_12 = .region 4 r22_12 false := by kernel_rfl
noncomputable def body23 : Code := match Try.f23.body with
  | some c => c
  | none => .skip
noncomputable def c23_1 : Code := match code23 with
  | .seq x _ => x
  | _ => .skip
noncomputable def c23_2 : Code := match code23 with
  | .seq _ x => x
  | _ => .skip
theorem cd_code23 : code23 = .seq c23_1 c23_2 := by kernel_rfl
noncomputable def r23_1 : Array Oper := regAt [0] body23
theorem cd_c23_1 : c23_1 = .region 0 r23_1 false := by kernel_rfl
noncomputable def c23_3 : Code := match c23_2 with
  | .seq x _ => x
  | _ => .skip
theorem cd_c23_2 : c23_2 = .seq c23_3 .ret := by kernel_rfl
noncomputable def r23_3 : Array Oper := regAt [1, 0] body23
theorem cd_c23_3 : c23_3 = .region 1 r23_3 false := by kernel_rfl
noncomputable def body24 : Code := match Try.f24.body with
  | some c => c
  | none => .skip
noncomputable def c24_1 : Code := match code24 with
  | .seq x _ => x
  | _ => .skip
noncomputable def c24_2 : Code := match code24 with
  | .seq _ x => x
  | _ => .skip
theorem cd_code24 : code24 = .seq c24_1 c24_2 := by kernel_rfl
noncomputable def r24_1 : Array Oper := regAt [0] body24
theorem cd_c24_1 : c24_1 = .region 0 r24_1 false := by kernel_rfl
noncomputable def c24_3 : Code := match c24_2 with
  | .seq x _ => x
  | _ => .skip
theorem cd_c24_2 : c24_2 = .seq c24_3 .ret := by kernel_rfl
noncomputable def r24_3 : Array Oper := regAt [1, 0] body24
theorem cd_c24_3 : c24_3 = .region 1 r24_3 false := by kernel_rfl
noncomputable def body25 : Code := match Try.f25.body with
  | some c => c
  | none => .skip
noncomputable def c25_1 : Code := match code25 with
  | .seq x _ => x
  | _ => .skip
noncomputable def c25_2 : Code := match code25 with
  | .seq _ x => x
  | _ => .skip
theorem cd_code25 : code25 = .seq c25_1 c25_2 := by kernel_rfl
noncomputable def r25_1 : Array Oper := regAt [0] body25
theorem cd_c25_1 : c25_1 = .region 0 r25_1 false := by kernel_rfl
noncomputable def c25_3 : Code := match c25_2 with
  | .seq x _ => x
  | _ => .skip
noncomputable def c25_4 : Code := match c25_2 with
  | .seq _ x => x
  | _ => .skip
theorem cd_c25_2 : c25_2 = .seq c25_3 c25_4 := by kernel_rfl
noncomputable def c25_5 : Code := match c25_3 with
  | .seq x _ => x
  | _ => .skip
noncomputable def c25_6 : Code := match c25_3 with
  | .seq _ x => x
  | _ => .skip
theorem cd_c25_3 : c25_3 = .seq c25_5 c25_6 := by kernel_rfl
noncomputable def r25_5 : Array Oper := regAt [1, 0, 0] body25
theorem cd_c25_5 : c25_5 = .region 1 r25_5 false := by kernel_rfl
noncomputable def c25_7 : Code := match c25_6 with
  | .cond _ x _ => x
  | _ => .skip
theorem cd_c25_6 : c25_6 = .cond (.tmp 4) c25_7 .skip := by kernel_rfl
noncomputable def c25_9 : Code := match c25_7 with
  | .seq x _ => x
  | _ => .skip
theorem cd_c25_7 : c25_7 = .seq c25_9 .ret := by kernel_rfl
noncomputable def r25_9 : Array Oper := regAt [1, 0, 1, 1, 0] body25
theorem cd_c25_9 : c25_9 = .region 2 r25_9 false := by kernel_rfl
noncomputable def c25_10 : Code := match c25_4 with
  | .seq x _ => x
  | _ => .skip
theorem cd_c25_4 : c25_4 = .seq c25_10 .ret := by kernel_rfl
noncomputable def r25_10 : Array Oper := regAt [1, 1, 0] body25
theorem cd_c25_10 : c25_10 = .region 3 r25_10 false := by kernel_rfl
noncomputable def body26 : Code := match Try.f26.body with
  | some c => c
  | none => .skip
noncomputable def c26_1 : Code := match code26 with
  | .seq x _ => x
  | _ => .skip
noncomputable def c26_2 : Code := match code26 with
  | .seq _ x => x
  | _ => .skip
theorem cd_code26 : code26 = .seq c26_1 c26_2 := by kernel_rfl
noncomputable def r26_1 : Array Oper := regAt [0] body26
theorem cd_c26_1 : c26_1 = .region 0 r26_1 false := by kernel_rfl
noncomputable def c26_3 : Code := match c26_2 with
  | .seq x _ => x
  | _ => .skip
theorem cd_c26_2 : c26_2 = .seq c26_3 .ret := by kernel_rfl
noncomputable def r26_3 : Array Oper := regAt [1, 0] body26
theorem cd_c26_3 : c26_3 = .region 1 r26_3 false := by kernel_rfl
noncomputable def body27 : Code := match Try.f27.body with
  | some c => c
  | none => .skip
noncomputable def c27_1 : Code := match code27 with
  | .seq x _ => x
  | _ => .skip
noncomputable def c27_2 : Code := match code27 with
  | .seq _ x => x
  | _ => .skip
theorem cd_code27 : code27 = .seq c27_1 c27_2 := by kernel_rfl
noncomputable def r27_1 : Array Oper := regAt [0] body27
theorem cd_c27_1 : c27_1 = .region 0 r27_1 false := by kernel_rfl
noncomputable def c27_3 : Code := match c27_2 with
  | .seq x _ => x
  | _ => .skip
noncomputable def c27_4 : Code := match c27_2 with
  | .seq _ x => x
  | _ => .skip
theorem cd_c27_2 : c27_2 = .seq c27_3 c27_4 := by kernel_rfl
noncomputable def c27_5 : Code := match c27_3 with
  | .seq x _ => x
  | _ => .skip
noncomputable def c27_6 : Code := match c27_3 with
  | .seq _ x => x
  | _ => .skip
theorem cd_c27_3 : c27_3 = .seq c27_5 c27_6 := by kernel_rfl
noncomputable def r27_5 : Array Oper := regAt [1, 0, 0] body27
theorem cd_c27_5 : c27_5 = .region 1 r27_5 false := by kernel_rfl
noncomputable def c27_7 : Code := match c27_6 with
  | .block _ x => x
  | _ => .skip
theorem cd_c27_6 : c27_6 = .block 0 c27_7 := by kernel_rfl
noncomputable def c27_8 : Code := match c27_7 with
  | .loop x => x
  | _ => .skip
theorem cd_c27_7 : c27_7 = .loop c27_8 := by kernel_rfl
noncomputable def c27_9 : Code := match c27_8 with
  | .seq x _ => x
  | _ => .skip
noncomputable def c27_10 : Code := match c27_8 with
  | .seq _ x => x
  | _ => .skip
theorem cd_c27_8 : c27_8 = .seq c27_9 c27_10 := by kernel_rfl
noncomputable def r27_9 : Array Oper := regAt [1, 0, 1, 1, 0, 0] body27
theorem cd_c27_9 : c27_9 = .region 2 r27_9 false := by kernel_rfl
noncomputable def c27_11 : Code := match c27_10 with
  | .seq x _ => x
  | _ => .skip
noncomputable def c27_12 : Code := match c27_10 with
  | .seq _ x => x
  | _ => .skip
theorem cd_c27_10 : c27_10 = .seq c27_11 c27_12 := by kernel_rfl
theorem cd_c27_11 : c27_11 = .cond (.tmp 9) .skip (.exit 0) := by kernel_rfl
noncomputable def c27_14 : Code := match c27_12 with
  | .seq x _ => x
  | _ => .skip
noncomputable def c27_15 : Code := match c27_12 with
  | .seq _ x => x
  | _ => .skip
theorem cd_c27_12 : c27_12 = .seq c27_14 c27_15 := by kernel_rfl
noncomputable def c27_16 : Code := match c27_14 with
  | .block _ x => x
  | _ => .skip
theorem cd_c27_14 : c27_14 = .block 1 c27_16 := by kernel_rfl
noncomputable def c27_17 : Code := match c27_16 with
  | .seq x _ => x
  | _ => .skip
noncomputable def c27_18 : Code := match c27_16 with
  | .seq _ x => x
  | _ => .skip
theorem cd_c27_16 : c27_16 = .seq c27_17 c27_18 := by kernel_rfl
noncomputable def r27_17 : Array Oper := regAt [1, 0, 1, 1, 0, 1, 1, 0, 1, 0] body27
theorem cd_c27_17 : c27_17 = .region 3 r27_17 false := by kernel_rfl
noncomputable def c27_19 : Code := match c27_18 with
  | .seq x _ => x
  | _ => .skip
noncomputable def c27_20 : Code := match c27_18 with
  | .seq _ x => x
  | _ => .skip
theorem cd_c27_18 : c27_18 = .seq c27_19 c27_20 := by kernel_rfl
noncomputable def r27_19 : Array Oper := regAt [1, 0, 1, 1, 0, 1, 1, 0, 1, 1, 0] body27
theorem cd_c27_19 : c27_19 = .region 4 r27_19 false := by kernel_rfl
noncomputable def c27_21 : Code := match c27_20 with
  | .cond _ x _ => x
  | _ => .skip
theorem cd_c27_20 : c27_20 = .cond (.tmp 16) c27_21 .skip := by kernel_rfl
noncomputable def c27_23 : Code := match c27_21 with
  | .seq x _ => x
  | _ => .skip
theorem cd_c27_21 : c27_21 = .seq c27_23 .ret := by kernel_rfl
noncomputable def r27_23 : Array Oper := regAt [1, 0, 1, 1, 0, 1, 1, 0, 1, 1, 1, 1, 0] body27
theorem cd_c27_23 : c27_23 = .region 5 r27_23 false := by kernel_rfl
noncomputable def r27_15 : Array Oper := regAt [1, 0, 1, 1, 0, 1, 1, 1] body27
theorem cd_c27_15 : c27_15 = .region 6 r27_15 false := by kernel_rfl
noncomputable def c27_24 : Code := match c27_4 with
  | .seq x _ => x
  | _ => .skip
theorem cd_c27_4 : c27_4 = .seq c27_24 .ret := by kernel_rfl
noncomputable def r27_24 : Array Oper := regAt [1, 1, 0] body27
theorem cd_c27_24 : c27_24 = .region 7 r27_24 false := by kernel_rfl
end Go.Proofs.Ytconldbakjfbhaa
