/-
  The code of this seat's functions in named pieces: by our program cds.py.
-/
import Derived.Test.YtfnnmkjlokjkhaaFn
import Derived.Test.YtfnnmkjlokjkhaaSe
import Derived.KernelRfl
set_option linter.defProp false
open Go Go.SY
namespace Go.Proofs.Ytfnnmkjlokjkhaa
noncomputable def body2 : Code := match Try.f2.body with
  | some c => c
  | none => .skip
noncomputable def r2 : Array Oper := regAt [] body2
noncomputable def body3 : Code := match Try.f3.body with
  | some c => c
  | none => .skip
noncomputable def r3_1 : Array Oper := regAt [0] body3
noncomputable def r3_3 : Array Oper := regAt [1, 0] body3
noncomputable def r3_5 : Array Oper := regAt [1, 1, 0] body3
noncomputable def r3_9 : Array Oper := regAt [1, 1, 1, 0, 0] body3
noncomputable def r3_13 : Array Oper := regAt [1, 1, 1, 0, 1, 1, 0] body3
noncomputable def r3_16 : Array Oper := regAt [1, 1, 1, 1, 0, 0] body3
noncomputable def r3_20 : Array Oper := regAt [1, 1, 1, 1, 0, 1, 1, 0] body3
noncomputable def r3_23 : Array Oper := regAt [1, 1, 1, 1, 1, 0, 0] body3
noncomputable def r3_29 : Array Oper := regAt [1, 1, 1, 1, 1, 0, 1, 1, 0, 0, 0] body3
noncomputable def r3_37 : Array Oper := regAt [1, 1, 1, 1, 1, 0, 1, 1, 0, 1, 0, 1, 0, 0] body3
noncomputable def r3_42 : Array Oper := regAt [1, 1, 1, 1, 1, 0, 1, 1, 0, 1, 0, 1, 0, 1, 1, 0] body3
noncomputable def r3_46 : Array Oper := regAt [1, 1, 1, 1, 1, 0, 1, 1, 0, 1, 0, 1, 0, 1, 1, 1, 0, 0] body3
noncomputable def r3_50 : Array Oper := regAt [1, 1, 1, 1, 1, 0, 1, 1, 0, 1, 0, 1, 0, 1, 1, 1, 0, 1, 1, 0] body3
noncomputable def r3_51 : Array Oper := regAt [1, 1, 1, 1, 1, 0, 1, 1, 0, 1, 0, 1, 0, 1, 1, 1, 1, 0] body3
noncomputable def r3_57 : Array Oper := regAt [1, 1, 1, 1, 1, 0, 1, 1, 0, 1, 0, 1, 0, 1, 1, 1, 1, 1, 1, 0, 0, 0] body3
noncomputable def r3_62 : Array Oper := regAt [1, 1, 1, 1, 1, 0, 1, 1, 0, 1, 0, 1, 0, 1, 1, 1, 1, 1, 1, 0, 1, 0, 1] body3
noncomputable def r3_61 : Array Oper := regAt [1, 1, 1, 1, 1, 0, 1, 1, 0, 1, 0, 1, 0, 1, 1, 1, 1, 1, 1, 0, 1, 1] body3
noncomputable def r3_63 : Array Oper := regAt [1, 1, 1, 1, 1, 0, 1, 1, 0, 1, 0, 1, 0, 1, 2, 0] body3
noncomputable def r3_65 : Array Oper := regAt [1, 1, 1, 1, 1, 0, 1, 1, 0, 1, 0, 1, 0, 1, 2, 1, 0] body3
noncomputable def r3_67 : Array Oper := regAt [1, 1, 1, 1, 1, 0, 1, 1, 0, 1, 0, 1, 0, 1, 2, 1, 1, 0] body3
noncomputable def r3_71 : Array Oper := regAt [1, 1, 1, 1, 1, 0, 1, 1, 0, 1, 0, 1, 0, 1, 2, 1, 1, 1, 1, 0] body3
noncomputable def r3_72 : Array Oper := regAt [1, 1, 1, 1, 1, 0, 1, 1, 0, 1, 0, 1, 1, 0] body3
noncomputable def r3_76 : Array Oper := regAt [1, 1, 1, 1, 1, 0, 1, 1, 0, 1, 0, 1, 1, 1, 1, 0] body3
noncomputable def r3_33 : Array Oper := regAt [1, 1, 1, 1, 1, 0, 1, 1, 0, 1, 1] body3
noncomputable def r3_77 : Array Oper := regAt [1, 1, 1, 1, 1, 1, 0] body3
noncomputable def body6 : Code := match Try.f6.body with
  | some c => c
  | none => .skip
noncomputable def c6_1 : Code := match code6 with
  | .seq x _ => x
  | _ => .skip
noncomputable def c6_2 : Code := match code6 with
  | .seq _ x => x
  | _ => .skip
theorem cd_code6 : code6 = .seq c6_1 c6_2 := by kernel_rfl
noncomputable def r6_1 : Array Oper := regAt [0] body6
theorem cd_c6_1 : c6_1 = .region 0 r6_1 false := by kernel_rfl
noncomputable def c6_3 : Code := match c6_2 with
  | .seq x _ => x
  | _ => .skip
noncomputable def c6_4 : Code := match c6_2 with
  | .seq _ x => x
  | _ => .skip
theorem cd_c6_2 : c6_2 = .seq c6_3 c6_4 := by kernel_rfl
noncomputable def r6_3 : Array Oper := regAt [1, 0] body6
theorem cd_c6_3 : c6_3 = .region 1 r6_3 false := by kernel_rfl
noncomputable def c6_5 : Code := match c6_4 with
  | .seq x _ => x
  | _ => .skip
noncomputable def c6_6 : Code := match c6_4 with
  | .seq _ x => x
  | _ => .skip
theorem cd_c6_4 : c6_4 = .seq c6_5 c6_6 := by kernel_rfl
noncomputable def r6_5 : Array Oper := regAt [1, 1, 0] body6
theorem cd_c6_5 : c6_5 = .region 2 r6_5 false := by kernel_rfl
noncomputable def c6_7 : Code := match c6_6 with
  | .seq x _ => x
  | _ => .skip
noncomputable def c6_8 : Code := match c6_6 with
  | .seq _ x => x
  | _ => .skip
theorem cd_c6_6 : c6_6 = .seq c6_7 c6_8 := by kernel_rfl
noncomputable def r6_7 : Array Oper := regAt [1, 1, 1, 0] body6
theorem cd_c6_7 : c6_7 = .region 3 r6_7 false := by kernel_rfl
noncomputable def c6_9 : Code := match c6_8 with
  | .seq x _ => x
  | _ => .skip
noncomputable def c6_10 : Code := match c6_8 with
  | .seq _ x => x
  | _ => .skip
theorem cd_c6_8 : c6_8 = .seq c6_9 c6_10 := by kernel_rfl
noncomputable def c6_11 : Code := match c6_9 with
  | .seq x _ => x
  | _ => .skip
noncomputable def c6_12 : Code := match c6_9 with
  | .seq _ x => x
  | _ => .skip
theorem cd_c6_9 : c6_9 = .seq c6_11 c6_12 := by kernel_rfl
noncomputable def r6_11 : Array Oper := regAt [1, 1, 1, 1, 0, 0] body6
theorem cd_c6_11 : c6_11 = .region 4 r6_11 false := by kernel_rfl
noncomputable def c6_13 : Code := match c6_12 with
  | .cond _ x _ => x
  | _ => .skip
theorem cd_c6_12 : c6_12 = .cond (.tmp 35) c6_13 .skip := by kernel_rfl
noncomputable def c6_15 : Code := match c6_13 with
  | .seq x _ => x
  | _ => .skip
theorem cd_c6_13 : c6_13 = .seq c6_15 .ret := by kernel_rfl
noncomputable def r6_15 : Array Oper := regAt [1, 1, 1, 1, 0, 1, 1, 0] body6
theorem cd_c6_15 : c6_15 = .region 5 r6_15 false := by kernel_rfl
noncomputable def c6_16 : Code := match c6_10 with
  | .seq x _ => x
  | _ => .skip
noncomputable def c6_17 : Code := match c6_10 with
  | .seq _ x => x
  | _ => .skip
theorem cd_c6_10 : c6_10 = .seq c6_16 c6_17 := by kernel_rfl
noncomputable def c6_18 : Code := match c6_16 with
  | .seq x _ => x
  | _ => .skip
noncomputable def c6_19 : Code := match c6_16 with
  | .seq _ x => x
  | _ => .skip
theorem cd_c6_16 : c6_16 = .seq c6_18 c6_19 := by kernel_rfl
noncomputable def r6_18 : Array Oper := regAt [1, 1, 1, 1, 1, 0, 0] body6
theorem cd_c6_18 : c6_18 = .region 6 r6_18 false := by kernel_rfl
noncomputable def c6_20 : Code := match c6_19 with
  | .cond _ x _ => x
  | _ => .skip
theorem cd_c6_19 : c6_19 = .cond (.tmp 43) c6_20 .skip := by kernel_rfl
noncomputable def c6_22 : Code := match c6_20 with
  | .seq x _ => x
  | _ => .skip
theorem cd_c6_20 : c6_20 = .seq c6_22 .ret := by kernel_rfl
noncomputable def r6_22 : Array Oper := regAt [1, 1, 1, 1, 1, 0, 1, 1, 0] body6
theorem cd_c6_22 : c6_22 = .region 7 r6_22 false := by kernel_rfl
noncomputable def c6_23 : Code := match c6_17 with
  | .seq x _ => x
  | _ => .skip
noncomputable def c6_24 : Code := match c6_17 with
  | .seq _ x => x
  | _ => .skip
theorem cd_c6_17 : c6_17 = .seq c6_23 c6_24 := by kernel_rfl
noncomputable def r6_23 : Array Oper := regAt [1, 1, 1, 1, 1, 1, 0] body6
theorem cd_c6_23 : c6_23 = .region 8 r6_23 true := by kernel_rfl
noncomputable def c6_25 : Code := match c6_24 with
  | .seq x _ => x
  | _ => .skip
noncomputable def c6_26 : Code := match c6_24 with
  | .seq _ x => x
  | _ => .skip
theorem cd_c6_24 : c6_24 = .seq c6_25 c6_26 := by kernel_rfl
noncomputable def r6_25 : Array Oper := regAt [1, 1, 1, 1, 1, 1, 1, 0] body6
theorem cd_c6_25 : c6_25 = .region 9 r6_25 false := by kernel_rfl
noncomputable def c6_27 : Code := match c6_26 with
  | .seq x _ => x
  | _ => .skip
noncomputable def c6_28 : Code := match c6_26 with
  | .seq _ x => x
  | _ => .skip
theorem cd_c6_26 : c6_26 = .seq c6_27 c6_28 := by kernel_rfl
noncomputable def c6_29 : Code := match c6_27 with
  | .seq x _ => x
  | _ => .skip
noncomputable def c6_30 : Code := match c6_27 with
  | .seq _ x => x
  | _ => .skip
theorem cd_c6_27 : c6_27 = .seq c6_29 c6_30 := by kernel_rfl
noncomputable def r6_29 : Array Oper := regAt [1, 1, 1, 1, 1, 1, 1, 1, 0, 0] body6
theorem cd_c6_29 : c6_29 = .region 10 r6_29 false := by kernel_rfl
noncomputable def c6_31 : Code := match c6_30 with
  | .block _ x => x
  | _ => .skip
theorem cd_c6_30 : c6_30 = .block 0 c6_31 := by kernel_rfl
noncomputable def c6_32 : Code := match c6_31 with
  | .loop x => x
  | _ => .skip
theorem cd_c6_31 : c6_31 = .loop c6_32 := by kernel_rfl
noncomputable def c6_33 : Code := match c6_32 with
  | .seq x _ => x
  | _ => .skip
noncomputable def c6_34 : Code := match c6_32 with
  | .seq _ x => x
  | _ => .skip
theorem cd_c6_32 : c6_32 = .seq c6_33 c6_34 := by kernel_rfl
noncomputable def c6_35 : Code := match c6_33 with
  | .seq x _ => x
  | _ => .skip
noncomputable def c6_36 : Code := match c6_33 with
  | .seq _ x => x
  | _ => .skip
theorem cd_c6_33 : c6_33 = .seq c6_35 c6_36 := by kernel_rfl
noncomputable def r6_35 : Array Oper := regAt [1, 1, 1, 1, 1, 1, 1, 1, 0, 1, 1, 0, 0, 0] body6
theorem cd_c6_35 : c6_35 = .region 11 r6_35 false := by kernel_rfl
theorem cd_c6_36 : c6_36 = .cond (.tmp 54) .skip (.exit 0) := by kernel_rfl
noncomputable def c6_38 : Code := match c6_34 with
  | .seq x _ => x
  | _ => .skip
noncomputable def c6_39 : Code := match c6_34 with
  | .seq _ x => x
  | _ => .skip
theorem cd_c6_34 : c6_34 = .seq c6_38 c6_39 := by kernel_rfl
noncomputable def c6_40 : Code := match c6_38 with
  | .block _ x => x
  | _ => .skip
theorem cd_c6_38 : c6_38 = .block 1 c6_40 := by kernel_rfl
noncomputable def c6_41 : Code := match c6_40 with
  | .seq x _ => x
  | _ => .skip
noncomputable def c6_42 : Code := match c6_40 with
  | .seq _ x => x
  | _ => .skip
theorem cd_c6_40 : c6_40 = .seq c6_41 c6_42 := by kernel_rfl
noncomputable def r6_41 : Array Oper := regAt [1, 1, 1, 1, 1, 1, 1, 1, 0, 1, 1, 0, 1, 0, 1, 0] body6
theorem cd_c6_41 : c6_41 = .region 13 r6_41 false := by kernel_rfl
noncomputable def c6_43 : Code := match c6_42 with
  | .seq x _ => x
  | _ => .skip
noncomputable def c6_44 : Code := match c6_42 with
  | .seq _ x => x
  | _ => .skip
theorem cd_c6_42 : c6_42 = .seq c6_43 c6_44 := by kernel_rfl
noncomputable def c6_45 : Code := match c6_43 with
  | .seq x _ => x
  | _ => .skip
noncomputable def c6_46 : Code := match c6_43 with
  | .seq _ x => x
  | _ => .skip
theorem cd_c6_43 : c6_43 = .seq c6_45 c6_46 := by kernel_rfl
noncomputable def r6_45 : Array Oper := regAt [1, 1, 1, 1, 1, 1, 1, 1, 0, 1, 1, 0, 1, 0, 1, 1, 0, 0] body6
theorem cd_c6_45 : c6_45 = .region 14 r6_45 true := by kernel_rfl
noncomputable def c6_47 : Code := match c6_46 with
  | .cond _ x _ => x
  | _ => .skip
theorem cd_c6_46 : c6_46 = .cond (.tmp 73) c6_47 .skip := by kernel_rfl
noncomputable def c6_49 : Code := match c6_47 with
  | .seq x _ => x
  | _ => .skip
theorem cd_c6_47 : c6_47 = .seq c6_49 .ret := by kernel_rfl
noncomputable def r6_49 : Array Oper := regAt [1, 1, 1, 1, 1, 1, 1, 1, 0, 1, 1, 0, 1, 0, 1, 1, 0, 1, 1, 0] body6
theorem cd_c6_49 : c6_49 = .region 15 r6_49 false := by kernel_rfl
noncomputable def c6_50 : Code := match c6_44 with
  | .seq x _ => x
  | _ => .skip
noncomputable def c6_51 : Code := match c6_44 with
  | .seq _ x => x
  | _ => .skip
theorem cd_c6_44 : c6_44 = .seq c6_50 c6_51 := by kernel_rfl
noncomputable def c6_52 : Code := match c6_50 with
  | .seq x _ => x
  | _ => .skip
noncomputable def c6_53 : Code := match c6_50 with
  | .seq _ x => x
  | _ => .skip
theorem cd_c6_50 : c6_50 = .seq c6_52 c6_53 := by kernel_rfl
noncomputable def r6_52 : Array Oper := regAt [1, 1, 1, 1, 1, 1, 1, 1, 0, 1, 1, 0, 1, 0, 1, 1, 1, 0, 0] body6
theorem cd_c6_52 : c6_52 = .region 16 r6_52 false := by kernel_rfl
noncomputable def c6_54 : Code := match c6_53 with
  | .cond _ x _ => x
  | _ => .skip
theorem cd_c6_53 : c6_53 = .cond (.tmp 78) c6_54 .skip := by kernel_rfl
noncomputable def r6_54 : Array Oper := regAt [1, 1, 1, 1, 1, 1, 1, 1, 0, 1, 1, 0, 1, 0, 1, 1, 1, 0, 1, 1] body6
theorem cd_c6_54 : c6_54 = .region 17 r6_54 false := by kernel_rfl
noncomputable def r6_51 : Array Oper := regAt [1, 1, 1, 1, 1, 1, 1, 1, 0, 1, 1, 0, 1, 0, 1, 1, 1, 1] body6
theorem cd_c6_51 : c6_51 = .region 18 r6_51 false := by kernel_rfl
noncomputable def r6_39 : Array Oper := regAt [1, 1, 1, 1, 1, 1, 1, 1, 0, 1, 1, 0, 1, 1] body6
theorem cd_c6_39 : c6_39 = .region 12 r6_39 false := by kernel_rfl
noncomputable def c6_56 : Code := match c6_28 with
  | .seq x _ => x
  | _ => .skip
noncomputable def c6_57 : Code := match c6_28 with
  | .seq _ x => x
  | _ => .skip
theorem cd_c6_28 : c6_28 = .seq c6_56 c6_57 := by kernel_rfl
noncomputable def r6_56 : Array Oper := regAt [1, 1, 1, 1, 1, 1, 1, 1, 1, 0] body6
theorem cd_c6_56 : c6_56 = .region 19 r6_56 false := by kernel_rfl
noncomputable def c6_58 : Code := match c6_57 with
  | .seq x _ => x
  | _ => .skip
noncomputable def c6_59 : Code := match c6_57 with
  | .seq _ x => x
  | _ => .skip
theorem cd_c6_57 : c6_57 = .seq c6_58 c6_59 := by kernel_rfl
noncomputable def c6_60 : Code := match c6_58 with
  | .seq x _ => x
  | _ => .skip
noncomputable def c6_61 : Code := match c6_58 with
  | .seq _ x => x
  | _ => .skip
theorem cd_c6_58 : c6_58 = .seq c6_60 c6_61 := by kernel_rfl
noncomputable def r6_60 : Array Oper := regAt [1, 1, 1, 1, 1, 1, 1, 1, 1, 1, 0, 0] body6
theorem cd_c6_60 : c6_60 = .region 20 r6_60 false := by kernel_rfl
noncomputable def c6_62 : Code := match c6_61 with
  | .block _ x => x
  | _ => .skip
theorem cd_c6_61 : c6_61 = .block 2 c6_62 := by kernel_rfl
noncomputable def c6_63 : Code := match c6_62 with
  | .loop x => x
  | _ => .skip
theorem cd_c6_62 : c6_62 = .loop c6_63 := by kernel_rfl
noncomputable def c6_64 : Code := match c6_63 with
  | .seq x _ => x
  | _ => .skip
noncomputable def c6_65 : Code := match c6_63 with
  | .seq _ x => x
  | _ => .skip
theorem cd_c6_63 : c6_63 = .seq c6_64 c6_65 := by kernel_rfl
noncomputable def c6_66 : Code := match c6_64 with
  | .seq x _ => x
  | _ => .skip
noncomputable def c6_67 : Code := match c6_64 with
  | .seq _ x => x
  | _ => .skip
theorem cd_c6_64 : c6_64 = .seq c6_66 c6_67 := by kernel_rfl
noncomputable def r6_66 : Array Oper := regAt [1, 1, 1, 1, 1, 1, 1, 1, 1, 1, 0, 1, 1, 0, 0, 0] body6
theorem cd_c6_66 : c6_66 = .region 21 r6_66 false := by kernel_rfl
theorem cd_c6_67 : c6_67 = .cond (.tmp 95) .skip (.exit 2) := by kernel_rfl
noncomputable def c6_69 : Code := match c6_65 with
  | .seq x _ => x
  | _ => .skip
noncomputable def c6_70 : Code := match c6_65 with
  | .seq _ x => x
  | _ => .skip
theorem cd_c6_65 : c6_65 = .seq c6_69 c6_70 := by kernel_rfl
noncomputable def c6_71 : Code := match c6_69 with
  | .block _ x => x
  | _ => .skip
theorem cd_c6_69 : c6_69 = .block 3 c6_71 := by kernel_rfl
noncomputable def c6_72 : Code := match c6_71 with
  | .seq x _ => x
  | _ => .skip
noncomputable def c6_73 : Code := match c6_71 with
  | .seq _ x => x
  | _ => .skip
theorem cd_c6_71 : c6_71 = .seq c6_72 c6_73 := by kernel_rfl
noncomputable def r6_72 : Array Oper := regAt [1, 1, 1, 1, 1, 1, 1, 1, 1, 1, 0, 1, 1, 0, 1, 0, 1, 0] body6
theorem cd_c6_72 : c6_72 = .region 23 r6_72 false := by kernel_rfl
noncomputable def c6_74 : Code := match c6_73 with
  | .seq x _ => x
  | _ => .skip
noncomputable def c6_75 : Code := match c6_73 with
  | .seq _ x => x
  | _ => .skip
theorem cd_c6_73 : c6_73 = .seq c6_74 c6_75 := by kernel_rfl
noncomputable def c6_76 : Code := match c6_74 with
  | .seq x _ => x
  | _ => .skip
noncomputable def c6_77 : Code := match c6_74 with
  | .seq _ x => x
  | _ => .skip
theorem cd_c6_74 : c6_74 = .seq c6_76 c6_77 := by kernel_rfl
noncomputable def r6_76 : Array Oper := regAt [1, 1, 1, 1, 1, 1, 1, 1, 1, 1, 0, 1, 1, 0, 1, 0, 1, 1, 0, 0] body6
theorem cd_c6_76 : c6_76 = .region 24 r6_76 false := by kernel_rfl
noncomputable def c6_78 : Code := match c6_77 with
  | .cond _ x _ => x
  | _ => .skip
theorem cd_c6_77 : c6_77 = .cond (.tmp 101) c6_78 .skip := by kernel_rfl
noncomputable def r6_78 : Array Oper := regAt [1, 1, 1, 1, 1, 1, 1, 1, 1, 1, 0, 1, 1, 0, 1, 0, 1, 1, 0, 1, 1] body6
theorem cd_c6_78 : c6_78 = .region 25 r6_78 false := by kernel_rfl
noncomputable def c6_80 : Code := match c6_75 with
  | .seq x _ => x
  | _ => .skip
noncomputable def c6_81 : Code := match c6_75 with
  | .seq _ x => x
  | _ => .skip
theorem cd_c6_75 : c6_75 = .seq c6_80 c6_81 := by kernel_rfl
noncomputable def r6_80 : Array Oper := regAt [1, 1, 1, 1, 1, 1, 1, 1, 1, 1, 0, 1, 1, 0, 1, 0, 1, 1, 1, 0] body6
theorem cd_c6_80 : c6_80 = .region 26 r6_80 false := by kernel_rfl
noncomputable def c6_82 : Code := match c6_81 with
  | .seq x _ => x
  | _ => .skip
noncomputable def c6_83 : Code := match c6_81 with
  | .seq _ x => x
  | _ => .skip
theorem cd_c6_81 : c6_81 = .seq c6_82 c6_83 := by kernel_rfl
noncomputable def c6_84 : Code := match c6_82 with
  | .seq x _ => x
  | _ => .skip
noncomputable def c6_85 : Code := match c6_82 with
  | .seq _ x => x
  | _ => .skip
theorem cd_c6_82 : c6_82 = .seq c6_84 c6_85 := by kernel_rfl
noncomputable def r6_84 : Array Oper := regAt [1, 1, 1, 1, 1, 1, 1, 1, 1, 1, 0, 1, 1, 0, 1, 0, 1, 1, 1, 1, 0, 0] body6
theorem cd_c6_84 : c6_84 = .region 27 r6_84 false := by kernel_rfl
noncomputable def c6_86 : Code := match c6_85 with
  | .cond _ x _ => x
  | _ => .skip
theorem cd_c6_85 : c6_85 = .cond (.tmp 126) c6_86 .skip := by kernel_rfl
noncomputable def c6_88 : Code := match c6_86 with
  | .seq x _ => x
  | _ => .skip
theorem cd_c6_86 : c6_86 = .seq c6_88 .ret := by kernel_rfl
noncomputable def r6_88 : Array Oper := regAt [1, 1, 1, 1, 1, 1, 1, 1, 1, 1, 0, 1, 1, 0, 1, 0, 1, 1, 1, 1, 0, 1, 1, 0] body6
theorem cd_c6_88 : c6_88 = .region 28 r6_88 false := by kernel_rfl
noncomputable def c6_89 : Code := match c6_83 with
  | .seq x _ => x
  | _ => .skip
noncomputable def c6_90 : Code := match c6_83 with
  | .seq _ x => x
  | _ => .skip
theorem cd_c6_83 : c6_83 = .seq c6_89 c6_90 := by kernel_rfl
noncomputable def c6_91 : Code := match c6_89 with
  | .seq x _ => x
  | _ => .skip
noncomputable def c6_92 : Code := match c6_89 with
  | .seq _ x => x
  | _ => .skip
theorem cd_c6_89 : c6_89 = .seq c6_91 c6_92 := by kernel_rfl
noncomputable def r6_91 : Array Oper := regAt [1, 1, 1, 1, 1, 1, 1, 1, 1, 1, 0, 1, 1, 0, 1, 0, 1, 1, 1, 1, 1, 0, 0] body6
theorem cd_c6_91 : c6_91 = .region 29 r6_91 false := by kernel_rfl
noncomputable def c6_93 : Code := match c6_92 with
  | .block _ x => x
  | _ => .skip
theorem cd_c6_92 : c6_92 = .block 4 c6_93 := by kernel_rfl
noncomputable def c6_94 : Code := match c6_93 with
  | .loop x => x
  | _ => .skip
theorem cd_c6_93 : c6_93 = .loop c6_94 := by kernel_rfl
noncomputable def c6_95 : Code := match c6_94 with
  | .seq x _ => x
  | _ => .skip
noncomputable def c6_96 : Code := match c6_94 with
  | .seq _ x => x
  | _ => .skip
theorem cd_c6_94 : c6_94 = .seq c6_95 c6_96 := by kernel_rfl
noncomputable def c6_97 : Code := match c6_95 with
  | .seq x _ => x
  | _ => .skip
noncomputable def c6_98 : Code := match c6_95 with
  | .seq _ x => x
  | _ => .skip
theorem cd_c6_95 : c6_95 = .seq c6_97 c6_98 := by kernel_rfl
noncomputable def r6_97 : Array Oper := regAt [1, 1, 1, 1, 1, 1, 1, 1, 1, 1, 0, 1, 1, 0, 1, 0, 1, 1, 1, 1, 1, 0, 1, 1, 0, 0, 0] body6
theorem cd_c6_97 : c6_97 = .region 30 r6_97 false := by kernel_rfl
theorem cd_c6_98 : c6_98 = .cond (.tmp 130) .skip (.exit 4) := by kernel_rfl
noncomputable def c6_100 : Code := match c6_96 with
  | .seq x _ => x
  | _ => .skip
noncomputable def c6_101 : Code := match c6_96 with
  | .seq _ x => x
  | _ => .skip
theorem cd_c6_96 : c6_96 = .seq c6_100 c6_101 := by kernel_rfl
noncomputable def c6_102 : Code := match c6_100 with
  | .block _ x => x
  | _ => .skip
theorem cd_c6_100 : c6_100 = .block 5 c6_102 := by kernel_rfl
noncomputable def c6_103 : Code := match c6_102 with
  | .seq x _ => x
  | _ => .skip
noncomputable def c6_104 : Code := match c6_102 with
  | .seq _ x => x
  | _ => .skip
theorem cd_c6_102 : c6_102 = .seq c6_103 c6_104 := by kernel_rfl
noncomputable def c6_105 : Code := match c6_103 with
  | .seq x _ => x
  | _ => .skip
noncomputable def c6_106 : Code := match c6_103 with
  | .seq _ x => x
  | _ => .skip
theorem cd_c6_103 : c6_103 = .seq c6_105 c6_106 := by kernel_rfl
noncomputable def r6_105 : Array Oper := regAt [1, 1, 1, 1, 1, 1, 1, 1, 1, 1, 0, 1, 1, 0, 1, 0, 1, 1, 1, 1, 1, 0, 1, 1, 0, 1, 0, 1, 0, 0] body6
theorem cd_c6_105 : c6_105 = .region 32 r6_105 false := by kernel_rfl
noncomputable def c6_107 : Code := match c6_106 with
  | .cond _ x _ => x
  | _ => .skip
theorem cd_c6_106 : c6_106 = .cond (.tmp 158) c6_107 .skip := by kernel_rfl
noncomputable def c6_109 : Code := match c6_107 with
  | .seq x _ => x
  | _ => .skip
theorem cd_c6_107 : c6_107 = .seq c6_109 .ret := by kernel_rfl
noncomputable def r6_109 : Array Oper := regAt [1, 1, 1, 1, 1, 1, 1, 1, 1, 1, 0, 1, 1, 0, 1, 0, 1, 1, 1, 1, 1, 0, 1, 1, 0, 1, 0, 1, 0, 1, 1, 0] body6
theorem cd_c6_109 : c6_109 = .region 33 r6_109 false := by kernel_rfl
noncomputable def c6_110 : Code := match c6_104 with
  | .seq x _ => x
  | _ => .skip
noncomputable def c6_111 : Code := match c6_104 with
  | .seq _ x => x
  | _ => .skip
theorem cd_c6_104 : c6_104 = .seq c6_110 c6_111 := by kernel_rfl
noncomputable def r6_110 : Array Oper := regAt [1, 1, 1, 1, 1, 1, 1, 1, 1, 1, 0, 1, 1, 0, 1, 0, 1, 1, 1, 1, 1, 0, 1, 1, 0, 1, 0, 1, 1, 0] body6
theorem cd_c6_110 : c6_110 = .region 34 r6_110 false := by kernel_rfl
noncomputable def r6_111 : Array Oper := regAt [1, 1, 1, 1, 1, 1, 1, 1, 1, 1, 0, 1, 1, 0, 1, 0, 1, 1, 1, 1, 1, 0, 1, 1, 0, 1, 0, 1, 1, 1] body6
theorem cd_c6_111 : c6_111 = .region 35 r6_111 false := by kernel_rfl
noncomputable def r6_101 : Array Oper := regAt [1, 1, 1, 1, 1, 1, 1, 1, 1, 1, 0, 1, 1, 0, 1, 0, 1, 1, 1, 1, 1, 0, 1, 1, 0, 1, 1] body6
theorem cd_c6_101 : c6_101 = .region 31 r6_101 false := by kernel_rfl
noncomputable def c6_112 : Code := match c6_90 with
  | .seq x _ => x
  | _ => .skip
noncomputable def c6_113 : Code := match c6_90 with
  | .seq _ x => x
  | _ => .skip
theorem cd_c6_90 : c6_90 = .seq c6_112 c6_113 := by kernel_rfl
noncomputable def r6_112 : Array Oper := regAt [1, 1, 1, 1, 1, 1, 1, 1, 1, 1, 0, 1, 1, 0, 1, 0, 1, 1, 1, 1, 1, 1, 0] body6
theorem cd_c6_112 : c6_112 = .region 36 r6_112 false := by kernel_rfl
noncomputable def c6_114 : Code := match c6_113 with
  | .cond _ x _ => x
  | _ => .skip
theorem cd_c6_113 : c6_113 = .cond (.tmp 174) c6_114 .skip := by kernel_rfl
noncomputable def c6_116 : Code := match c6_114 with
  | .seq x _ => x
  | _ => .skip
theorem cd_c6_114 : c6_114 = .seq c6_116 .ret := by kernel_rfl
noncomputable def r6_116 : Array Oper := regAt [1, 1, 1, 1, 1, 1, 1, 1, 1, 1, 0, 1, 1, 0, 1, 0, 1, 1, 1, 1, 1, 1, 1, 1, 0] body6
theorem cd_c6_116 : c6_116 = .region 37 r6_116 false := by kernel_rfl
noncomputable def r6_70 : Array Oper := regAt [1, 1, 1, 1, 1, 1, 1, 1, 1, 1, 0, 1, 1, 0, 1, 1] body6
theorem cd_c6_70 : c6_70 = .region 22 r6_70 false := by kernel_rfl
noncomputable def c6_117 : Code := match c6_59 with
  | .seq x _ => x
  | _ => .skip
noncomputable def c6_118 : Code := match c6_59 with
  | .seq _ x => x
  | _ => .skip
theorem cd_c6_59 : c6_59 = .seq c6_117 c6_118 := by kernel_rfl
noncomputable def c6_119 : Code := match c6_117 with
  | .seq x _ => x
  | _ => .skip
noncomputable def c6_120 : Code := match c6_117 with
  | .seq _ x => x
  | _ => .skip
theorem cd_c6_117 : c6_117 = .seq c6_119 c6_120 := by kernel_rfl
noncomputable def r6_119 : Array Oper := regAt [1, 1, 1, 1, 1, 1, 1, 1, 1, 1, 1, 0, 0] body6
theorem cd_c6_119 : c6_119 = .region 38 r6_119 false := by kernel_rfl
noncomputable def c6_121 : Code := match c6_120 with
  | .block _ x => x
  | _ => .skip
theorem cd_c6_120 : c6_120 = .block 6 c6_121 := by kernel_rfl
noncomputable def c6_122 : Code := match c6_121 with
  | .loop x => x
  | _ => .skip
theorem cd_c6_121 : c6_121 = .loop c6_122 := by kernel_rfl
noncomputable def c6_123 : Code := match c6_122 with
  | .seq x _ => x
  | _ => .skip
noncomputable def c6_124 : Code := match c6_122 with
  | .seq _ x => x
  | _ => .skip
theorem cd_c6_122 : c6_122 = .seq c6_123 c6_124 := by kernel_rfl
noncomputable def c6_125 : Code := match c6_123 with
  | .seq x _ => x
  | _ => .skip
noncomputable def c6_126 : Code := match c6_123 with
  | .seq _ x => x
  | _ => .skip
theorem cd_c6_123 : c6_123 = .seq c6_125 c6_126 := by kernel_rfl
noncomputable def r6_125 : Array Oper := regAt [1, 1, 1, 1, 1, 1, 1, 1, 1, 1, 1, 0, 1, 1, 0, 0, 0] body6
theorem cd_c6_125 : c6_125 = .region 39 r6_125 false := by kernel_rfl
theorem cd_c6_126 : c6_126 = .cond (.tmp 177) .skip (.exit 6) := by kernel_rfl
noncomputable def c6_128 : Code := match c6_124 with
  | .seq x _ => x
  | _ => .skip
noncomputable def c6_129 : Code := match c6_124 with
  | .seq _ x => x
  | _ => .skip
theorem cd_c6_124 : c6_124 = .seq c6_128 c6_129 := by kernel_rfl
noncomputable def c6_130 : Code := match c6_128 with
  | .block _ x => x
  | _ => .skip
theorem cd_c6_128 : c6_128 = .block 7 c6_130 := by kernel_rfl
noncomputable def c6_131 : Code := match c6_130 with
  | .seq x _ => x
  | _ => .skip
noncomputable def c6_132 : Code := match c6_130 with
  | .seq _ x => x
  | _ => .skip
theorem cd_c6_130 : c6_130 = .seq c6_131 c6_132 := by kernel_rfl
noncomputable def r6_131 : Array Oper := regAt [1, 1, 1, 1, 1, 1, 1, 1, 1, 1, 1, 0, 1, 1, 0, 1, 0, 1, 0] body6
theorem cd_c6_131 : c6_131 = .region 41 r6_131 true := by kernel_rfl
noncomputable def c6_133 : Code := match c6_132 with
  | .cond _ x _ => x
  | _ => .skip
theorem cd_c6_132 : c6_132 = .cond (.tmp 192) c6_133 .skip := by kernel_rfl
noncomputable def c6_135 : Code := match c6_133 with
  | .seq x _ => x
  | _ => .skip
theorem cd_c6_133 : c6_133 = .seq c6_135 .ret := by kernel_rfl
noncomputable def r6_135 : Array Oper := regAt [1, 1, 1, 1, 1, 1, 1, 1, 1, 1, 1, 0, 1, 1, 0, 1, 0, 1, 1, 1, 0] body6
theorem cd_c6_135 : c6_135 = .region 42 r6_135 false := by kernel_rfl
noncomputable def r6_129 : Array Oper := regAt [1, 1, 1, 1, 1, 1, 1, 1, 1, 1, 1, 0, 1, 1, 0, 1, 1] body6
theorem cd_c6_129 : c6_129 = .region 40 r6_129 false := by kernel_rfl
noncomputable def c6_136 : Code := match c6_118 with
  | .seq x _ => x
  | _ => .skip
theorem cd_c6_118 : c6_118 = .seq c6_136 .ret := by kernel_rfl
noncomputable def r6_136 : Array Oper := regAt [1, 1, 1, 1, 1, 1, 1, 1, 1, 1, 1, 1, 0] body6
theorem cd_c6_136 : c6_136 = .region 43 r6_136 false := by kernel_rfl
noncomputable def body7 : Code := match Try.f7.body with
  | some c => c
  | none => .skip
noncomputable def r7_1 : Array Oper := regAt [0] body7
noncomputable def r7_3 : Array Oper := regAt [1, 0] body7
noncomputable def r7_5 : Array Oper := regAt [1, 1, 0] body7
noncomputable def r7_9 : Array Oper := regAt [1, 1, 1, 0, 0] body7
noncomputable def r7_13 : Array Oper := regAt [1, 1, 1, 0, 1, 1, 0] body7
noncomputable def r7_16 : Array Oper := regAt [1, 1, 1, 1, 0, 0] body7
noncomputable def r7_20 : Array Oper := regAt [1, 1, 1, 1, 0, 1, 1, 0] body7
noncomputable def r7_21 : Array Oper := regAt [1, 1, 1, 1, 1, 0] body7
noncomputable def r7_25 : Array Oper := regAt [1, 1, 1, 1, 1, 1, 0, 0] body7
noncomputable def r7_31 : Array Oper := regAt [1, 1, 1, 1, 1, 1, 0, 1, 1, 0, 0, 0] body7
noncomputable def r7_37 : Array Oper := regAt [1, 1, 1, 1, 1, 1, 0, 1, 1, 0, 1, 0, 1, 0] body7
noncomputable def r7_39 : Array Oper := regAt [1, 1, 1, 1, 1, 1, 0, 1, 1, 0, 1, 0, 1, 1, 0] body7
noncomputable def r7_43 : Array Oper := regAt [1, 1, 1, 1, 1, 1, 0, 1, 1, 0, 1, 0, 1, 1, 1, 0, 0] body7
noncomputable def r7_47 : Array Oper := regAt [1, 1, 1, 1, 1, 1, 0, 1, 1, 0, 1, 0, 1, 1, 1, 0, 1, 1, 0] body7
noncomputable def r7_48 : Array Oper := regAt [1, 1, 1, 1, 1, 1, 0, 1, 1, 0, 1, 0, 1, 1, 1, 1, 0] body7
noncomputable def r7_52 : Array Oper := regAt [1, 1, 1, 1, 1, 1, 0, 1, 1, 0, 1, 0, 1, 1, 1, 1, 1, 0, 0] body7
noncomputable def r7_56 : Array Oper := regAt [1, 1, 1, 1, 1, 1, 0, 1, 1, 0, 1, 0, 1, 1, 1, 1, 1, 0, 1, 1, 0] body7
noncomputable def r7_57 : Array Oper := regAt [1, 1, 1, 1, 1, 1, 0, 1, 1, 0, 1, 0, 1, 1, 1, 1, 1, 1, 0] body7
noncomputable def r7_59 : Array Oper := regAt [1, 1, 1, 1, 1, 1, 0, 1, 1, 0, 1, 0, 1, 1, 1, 1, 1, 1, 1, 1] body7
noncomputable def r7_35 : Array Oper := regAt [1, 1, 1, 1, 1, 1, 0, 1, 1, 0, 1, 1] body7
noncomputable def r7_63 : Array Oper := regAt [1, 1, 1, 1, 1, 1, 1, 0, 0] body7
noncomputable def r7_67 : Array Oper := regAt [1, 1, 1, 1, 1, 1, 1, 0, 1, 1, 0] body7
noncomputable def r7_68 : Array Oper := regAt [1, 1, 1, 1, 1, 1, 1, 1, 0] body7
noncomputable def body8 : Code := match Try.f8.body with
  | some c => c
  | none => .skip
noncomputable def c8_1 : Code := match code8 with
  | .seq x _ => x
  | _ => .skip
noncomputable def c8_2 : Code := match code8 with
  | .seq _ x => x
  | _ => .skip
theorem cd_code8 : code8 = .seq c8_1 c8_2 := by kernel_rfl
noncomputable def r8_1 : Array Oper := regAt [0] body8
theorem cd_c8_1 : c8_1 = .region 0 r8_1 false := by kernel_rfl
noncomputable def c8_3 : Code := match c8_2 with
  | .seq x _ => x
  | _ => .skip
noncomputable def c8_4 : Code := match c8_2 with
  | .seq _ x => x
  | _ => .skip
theorem cd_c8_2 : c8_2 = .seq c8_3 c8_4 := by kernel_rfl
noncomputable def c8_5 : Code := match c8_3 with
  | .seq x _ => x
  | _ => .skip
noncomputable def c8_6 : Code := match c8_3 with
  | .seq _ x => x
  | _ => .skip
theorem cd_c8_3 : c8_3 = .seq c8_5 c8_6 := by kernel_rfl
noncomputable def r8_5 : Array Oper := regAt [1, 0, 0] body8
theorem cd_c8_5 : c8_5 = .region 1 r8_5 false := by kernel_rfl
noncomputable def c8_7 : Code := match c8_6 with
  | .cond _ x _ => x
  | _ => .skip
theorem cd_c8_6 : c8_6 = .cond (.tmp 10) c8_7 .skip := by kernel_rfl
noncomputable def c8_9 : Code := match c8_7 with
  | .seq x _ => x
  | _ => .skip
theorem cd_c8_7 : c8_7 = .seq c8_9 .ret := by kernel_rfl
noncomputable def r8_9 : Array Oper := regAt [1, 0, 1, 1, 0] body8
theorem cd_c8_9 : c8_9 = .region 2 r8_9 false := by kernel_rfl
noncomputable def c8_10 : Code := match c8_4 with
  | .seq x _ => x
  | _ => .skip
noncomputable def c8_11 : Code := match c8_4 with
  | .seq _ x => x
  | _ => .skip
theorem cd_c8_4 : c8_4 = .seq c8_10 c8_11 := by kernel_rfl
noncomputable def r8_10 : Array Oper := regAt [1, 1, 0] body8
theorem cd_c8_10 : c8_10 = .region 3 r8_10 false := by kernel_rfl
noncomputable def c8_12 : Code := match c8_11 with
  | .seq x _ => x
  | _ => .skip
theorem cd_c8_11 : c8_11 = .seq c8_12 .ret := by kernel_rfl
noncomputable def r8_12 : Array Oper := regAt [1, 1, 1, 0] body8
theorem cd_c8_12 : c8_12 = .region 4 r8_12 false := by kernel_rfl
noncomputable def body9 : Code := match Try.f9.body with
  | some c => c
  | none => .skip
noncomputable def r9_1 : Array Oper := regAt [0] body9
noncomputable def r9_5 : Array Oper := regAt [1, 0, 0] body9
noncomputable def r9_9 : Array Oper := regAt [1, 0, 1, 1, 0] body9
noncomputable def r9_10 : Array Oper := regAt [1, 1, 0] body9
noncomputable def body11 : Code := match Try.f11.body with
  | some c => c
  | none => .skip
noncomputable def c11_1 : Code := match code11 with
  | .seq x _ => x
  | _ => .skip
noncomputable def c11_2 : Code := match code11 with
  | .seq _ x => x
  | _ => .skip
theorem cd_code11 : code11 = .seq c11_1 c11_2 := by kernel_rfl
noncomputable def r11_1 : Array Oper := regAt [0] body11
theorem cd_c11_1 : c11_1 = .region 0 r11_1 false := by kernel_rfl
noncomputable def c11_3 : Code := match c11_2 with
  | .seq x _ => x
  | _ => .skip
noncomputable def c11_4 : Code := match c11_2 with
  | .seq _ x => x
  | _ => .skip
theorem cd_c11_2 : c11_2 = .seq c11_3 c11_4 := by kernel_rfl
noncomputable def c11_5 : Code := match c11_3 with
  | .seq x _ => x
  | _ => .skip
noncomputable def c11_6 : Code := match c11_3 with
  | .seq _ x => x
  | _ => .skip
theorem cd_c11_3 : c11_3 = .seq c11_5 c11_6 := by kernel_rfl
noncomputable def r11_5 : Array Oper := regAt [1, 0, 0] body11
theorem cd_c11_5 : c11_5 = .region 1 r11_5 false := by kernel_rfl
noncomputable def c11_7 : Code := match c11_6 with
  | .cond _ x _ => x
  | _ => .skip
theorem cd_c11_6 : c11_6 = .cond (.tmp 14) c11_7 .skip := by kernel_rfl
noncomputable def c11_9 : Code := match c11_7 with
  | .seq x _ => x
  | _ => .skip
theorem cd_c11_7 : c11_7 = .seq c11_9 .ret := by kernel_rfl
noncomputable def r11_9 : Array Oper := regAt [1, 0, 1, 1, 0] body11
theorem cd_c11_9 : c11_9 = .region 2 r11_9 false := by kernel_rfl
noncomputable def c11_10 : Code := match c11_4 with
  | .seq x _ => x
  | _ => .skip
noncomputable def c11_11 : Code := match c11_4 with
  | .seq _ x => x
  | _ => .skip
theorem cd_c11_4 : c11_4 = .seq c11_10 c11_11 := by kernel_rfl
noncomputable def r11_10 : Array Oper := regAt [1, 1, 0] body11
theorem cd_c11_10 : c11_10 = .region 3 r11_10 false := by kernel_rfl
noncomputable def c11_12 : Code := match c11_11 with
  | .seq x _ => x
  | _ => .skip
noncomputable def c11_13 : Code := match c11_11 with
  | .seq _ x => x
  | _ => .skip
theorem cd_c11_11 : c11_11 = .seq c11_12 c11_13 := by kernel_rfl
noncomputable def r11_12 : Array Oper := regAt [1, 1, 1, 0] body11
theorem cd_c11_12 : c11_12 = .region 4 r11_12 false := by kernel_rfl
noncomputable def c11_14 : Code := match c11_13 with
  | .seq x _ => x
  | _ => .skip
noncomputable def c11_15 : Code := match c11_13 with
  | .seq _ x => x
  | _ => .skip
theorem cd_c11_13 : c11_13 = .seq c11_14 c11_15 := by kernel_rfl
noncomputable def r11_14 : Array Oper := regAt [1, 1, 1, 1, 0] body11
theorem cd_c11_14 : c11_14 = .region 5 r11_14 false := by kernel_rfl
noncomputable def c11_16 : Code := match c11_15 with
  | .seq x _ => x
  | _ => .skip
noncomputable def c11_17 : Code := match c11_15 with
  | .seq _ x => x
  | _ => .skip
theorem cd_c11_15 : c11_15 = .seq c11_16 c11_17 := by kernel_rfl
noncomputable def r11_16 : Array Oper := regAt [1, 1, 1, 1, 1, 0] body11
theorem cd_c11_16 : c11_16 = .region 6 r11_16 false := by kernel_rfl
noncomputable def c11_18 : Code := match c11_17 with
  | .seq x _ => x
  | _ => .skip
noncomputable def c11_19 : Code := match c11_17 with
  | .seq _ x => x
  | _ => .skip
theorem cd_c11_17 : c11_17 = .seq c11_18 c11_19 := by kernel_rfl
noncomputable def c11_20 : Code := match c11_18 with
  | .seq x _ => x
  | _ => .skip
noncomputable def c11_21 : Code := match c11_18 with
  | .seq _ x => x
  | _ => .skip
theorem cd_c11_18 : c11_18 = .seq c11_20 c11_21 := by kernel_rfl
noncomputable def r11_20 : Array Oper := regAt [1, 1, 1, 1, 1, 1, 0, 0] body11
theorem cd_c11_20 : c11_20 = .region 7 r11_20 false := by kernel_rfl
noncomputable def c11_22 : Code := match c11_21 with
  | .block _ x => x
  | _ => .skip
theorem cd_c11_21 : c11_21 = .block 0 c11_22 := by kernel_rfl
noncomputable def c11_23 : Code := match c11_22 with
  | .loop x => x
  | _ => .skip
theorem cd_c11_22 : c11_22 = .loop c11_23 := by kernel_rfl
noncomputable def c11_24 : Code := match c11_23 with
  | .seq x _ => x
  | _ => .skip
noncomputable def c11_25 : Code := match c11_23 with
  | .seq _ x => x
  | _ => .skip
theorem cd_c11_23 : c11_23 = .seq c11_24 c11_25 := by kernel_rfl
noncomputable def r11_24 : Array Oper := regAt [1, 1, 1, 1, 1, 1, 0, 1, 1, 0, 0] body11
theorem cd_c11_24 : c11_24 = .region 8 r11_24 false := by kernel_rfl
noncomputable def c11_26 : Code := match c11_25 with
  | .seq x _ => x
  | _ => .skip
noncomputable def c11_27 : Code := match c11_25 with
  | .seq _ x => x
  | _ => .skip
theorem cd_c11_25 : c11_25 = .seq c11_26 c11_27 := by kernel_rfl
theorem cd_c11_26 : c11_26 = .cond (.tmp 45) .skip (.exit 0) := by kernel_rfl
noncomputable def c11_29 : Code := match c11_27 with
  | .seq x _ => x
  | _ => .skip
noncomputable def c11_30 : Code := match c11_27 with
  | .seq _ x => x
  | _ => .skip
theorem cd_c11_27 : c11_27 = .seq c11_29 c11_30 := by kernel_rfl
noncomputable def c11_31 : Code := match c11_29 with
  | .block _ x => x
  | _ => .skip
theorem cd_c11_29 : c11_29 = .block 1 c11_31 := by kernel_rfl
noncomputable def c11_32 : Code := match c11_31 with
  | .seq x _ => x
  | _ => .skip
noncomputable def c11_33 : Code := match c11_31 with
  | .seq _ x => x
  | _ => .skip
theorem cd_c11_31 : c11_31 = .seq c11_32 c11_33 := by kernel_rfl
noncomputable def r11_32 : Array Oper := regAt [1, 1, 1, 1, 1, 1, 0, 1, 1, 0, 1, 1, 0, 1, 0] body11
theorem cd_c11_32 : c11_32 = .region 9 r11_32 false := by kernel_rfl
noncomputable def c11_34 : Code := match c11_33 with
  | .seq x _ => x
  | _ => .skip
noncomputable def c11_35 : Code := match c11_33 with
  | .seq _ x => x
  | _ => .skip
theorem cd_c11_33 : c11_33 = .seq c11_34 c11_35 := by kernel_rfl
noncomputable def r11_34 : Array Oper := regAt [1, 1, 1, 1, 1, 1, 0, 1, 1, 0, 1, 1, 0, 1, 1, 0] body11
theorem cd_c11_34 : c11_34 = .region 10 r11_34 false := by kernel_rfl
noncomputable def c11_36 : Code := match c11_35 with
  | .seq x _ => x
  | _ => .skip
noncomputable def c11_37 : Code := match c11_35 with
  | .seq _ x => x
  | _ => .skip
theorem cd_c11_35 : c11_35 = .seq c11_36 c11_37 := by kernel_rfl
noncomputable def r11_36 : Array Oper := regAt [1, 1, 1, 1, 1, 1, 0, 1, 1, 0, 1, 1, 0, 1, 1, 1, 0] body11
theorem cd_c11_36 : c11_36 = .region 11 r11_36 false := by kernel_rfl
noncomputable def c11_38 : Code := match c11_37 with
  | .seq x _ => x
  | _ => .skip
noncomputable def c11_39 : Code := match c11_37 with
  | .seq _ x => x
  | _ => .skip
theorem cd_c11_37 : c11_37 = .seq c11_38 c11_39 := by kernel_rfl
noncomputable def r11_38 : Array Oper := regAt [1, 1, 1, 1, 1, 1, 0, 1, 1, 0, 1, 1, 0, 1, 1, 1, 1, 0] body11
theorem cd_c11_38 : c11_38 = .region 12 r11_38 true := by kernel_rfl
noncomputable def c11_40 : Code := match c11_39 with
  | .cond _ x _ => x
  | _ => .skip
theorem cd_c11_39 : c11_39 = .cond (.tmp 61) c11_40 .skip := by kernel_rfl
noncomputable def r11_40 : Array Oper := regAt [1, 1, 1, 1, 1, 1, 0, 1, 1, 0, 1, 1, 0, 1, 1, 1, 1, 1, 1] body11
theorem cd_c11_40 : c11_40 = .region 13 r11_40 true := by kernel_rfl
noncomputable def r11_30 : Array Oper := regAt [1, 1, 1, 1, 1, 1, 0, 1, 1, 0, 1, 1, 1] body11
theorem cd_c11_30 : c11_30 = .region 14 r11_30 false := by kernel_rfl
noncomputable def c11_42 : Code := match c11_19 with
  | .seq x _ => x
  | _ => .skip
theorem cd_c11_19 : c11_19 = .seq c11_42 .ret := by kernel_rfl
noncomputable def r11_42 : Array Oper := regAt [1, 1, 1, 1, 1, 1, 1, 0] body11
theorem cd_c11_42 : c11_42 = .region 15 r11_42 false := by kernel_rfl
noncomputable def body12 : Code := match Try.f12.body with
  | some c => c
  | none => .skip
noncomputable def c12_1 : Code := match code12 with
  | .seq x _ => x
  | _ => .skip
noncomputable def c12_2 : Code := match code12 with
  | .seq _ x => x
  | _ => .skip
theorem cd_code12 : code12 = .seq c12_1 c12_2 := by kernel_rfl
noncomputable def r12_1 : Array Oper := regAt [0] body12
theorem cd_c12_1 : c12_1 = .region 0 r12_1 false := by kernel_rfl
noncomputable def c12_3 : Code := match c12_2 with
  | .seq x _ => x
  | _ => .skip
noncomputable def c12_4 : Code := match c12_2 with
  | .seq _ x => x
  | _ => .skip
theorem cd_c12_2 : c12_2 = .seq c12_3 c12_4 := by kernel_rfl
noncomputable def r12_3 : Array Oper := regAt [1, 0] body12
theorem cd_c12_3 : c12_3 = .region 1 r12_3 false := by kernel_rfl
noncomputable def c12_5 : Code := match c12_4 with
  | .seq x _ => x
  | _ => .skip
noncomputable def c12_6 : Code := match c12_4 with
  | .seq _ x => x
  | _ => .skip
theorem cd_c12_4 : c12_4 = .seq c12_5 c12_6 := by kernel_rfl
noncomputable def c12_7 : Code := match c12_5 with
  | .block _ x => x
  | _ => .skip
theorem cd_c12_5 : c12_5 = .block 0 c12_7 := by kernel_rfl
noncomputable def c12_8 : Code := match c12_7 with
  | .loop x => x
  | _ => .skip
theorem cd_c12_7 : c12_7 = .loop c12_8 := by kernel_rfl
noncomputable def c12_9 : Code := match c12_8 with
  | .seq x _ => x
  | _ => .skip
noncomputable def c12_10 : Code := match c12_8 with
  | .seq _ x => x
  | _ => .skip
theorem cd_c12_8 : c12_8 = .seq c12_9 c12_10 := by kernel_rfl
noncomputable def c12_11 : Code := match c12_9 with
  | .seq x _ => x
  | _ => .skip
noncomputable def c12_12 : Code := match c12_9 with
  | .seq _ x => x
  | _ => .skip
theorem cd_c12_9 : c12_9 = .seq c12_11 c12_12 := by kernel_rfl
noncomputable def r12_11 : Array Oper := regAt [1, 1, 0, 1, 0, 0, 0] body12
theorem cd_c12_11 : c12_11 = .region 2 r12_11 false := by kernel_rfl
theorem cd_c12_12 : c12_12 = .cond (.tmp 15) .skip (.exit 0) := by kernel_rfl
noncomputable def c12_14 : Code := match c12_10 with
  | .block _ x => x
  | _ => .skip
theorem cd_c12_10 : c12_10 = .block 1 c12_14 := by kernel_rfl
noncomputable def c12_15 : Code := match c12_14 with
  | .seq x _ => x
  | _ => .skip
noncomputable def c12_16 : Code := match c12_14 with
  | .seq _ x => x
  | _ => .skip
theorem cd_c12_14 : c12_14 = .seq c12_15 c12_16 := by kernel_rfl
noncomputable def r12_15 : Array Oper := regAt [1, 1, 0, 1, 0, 1, 1, 0] body12
theorem cd_c12_15 : c12_15 = .region 3 r12_15 false := by kernel_rfl
noncomputable def c12_17 : Code := match c12_16 with
  | .seq x _ => x
  | _ => .skip
noncomputable def c12_18 : Code := match c12_16 with
  | .seq _ x => x
  | _ => .skip
theorem cd_c12_16 : c12_16 = .seq c12_17 c12_18 := by kernel_rfl
noncomputable def c12_19 : Code := match c12_17 with
  | .seq x _ => x
  | _ => .skip
noncomputable def c12_20 : Code := match c12_17 with
  | .seq _ x => x
  | _ => .skip
theorem cd_c12_17 : c12_17 = .seq c12_19 c12_20 := by kernel_rfl
noncomputable def r12_19 : Array Oper := regAt [1, 1, 0, 1, 0, 1, 1, 1, 0, 0] body12
theorem cd_c12_19 : c12_19 = .region 4 r12_19 false := by kernel_rfl
theorem cd_c12_20 : c12_20 = .cond (.tmp 20) (.exit 0) .skip := by kernel_rfl
noncomputable def c12_22 : Code := match c12_18 with
  | .seq x _ => x
  | _ => .skip
noncomputable def c12_23 : Code := match c12_18 with
  | .seq _ x => x
  | _ => .skip
theorem cd_c12_18 : c12_18 = .seq c12_22 c12_23 := by kernel_rfl
noncomputable def r12_22 : Array Oper := regAt [1, 1, 0, 1, 0, 1, 1, 1, 1, 0] body12
theorem cd_c12_22 : c12_22 = .region 5 r12_22 false := by kernel_rfl
noncomputable def c12_24 : Code := match c12_23 with
  | .seq x _ => x
  | _ => .skip
noncomputable def c12_25 : Code := match c12_23 with
  | .seq _ x => x
  | _ => .skip
theorem cd_c12_23 : c12_23 = .seq c12_24 c12_25 := by kernel_rfl
noncomputable def r12_24 : Array Oper := regAt [1, 1, 0, 1, 0, 1, 1, 1, 1, 1, 0] body12
theorem cd_c12_24 : c12_24 = .region 6 r12_24 false := by kernel_rfl
noncomputable def c12_26 : Code := match c12_25 with
  | .seq x _ => x
  | _ => .skip
noncomputable def c12_27 : Code := match c12_25 with
  | .seq _ x => x
  | _ => .skip
theorem cd_c12_25 : c12_25 = .seq c12_26 c12_27 := by kernel_rfl
noncomputable def r12_26 : Array Oper := regAt [1, 1, 0, 1, 0, 1, 1, 1, 1, 1, 1, 0] body12
theorem cd_c12_26 : c12_26 = .region 7 r12_26 true := by kernel_rfl
noncomputable def c12_28 : Code := match c12_27 with
  | .cond _ x _ => x
  | _ => .skip
theorem cd_c12_27 : c12_27 = .cond (.tmp 49) c12_28 .skip := by kernel_rfl
noncomputable def r12_28 : Array Oper := regAt [1, 1, 0, 1, 0, 1, 1, 1, 1, 1, 1, 1, 1] body12
theorem cd_c12_28 : c12_28 = .region 8 r12_28 false := by kernel_rfl
noncomputable def c12_30 : Code := match c12_6 with
  | .seq x _ => x
  | _ => .skip
theorem cd_c12_6 : c12_6 = .seq c12_30 .ret := by kernel_rfl
noncomputable def r12_30 : Array Oper := regAt [1, 1, 1, 0] body12
theorem cd_c12_30 : c12_30 = .region 9 r12_30 false := by kernel_rfl
noncomputable def body13 : Code := match Try.f13.body with
  | some c => c
  | none => .skip
noncomputable def c13_1 : Code := match code13 with
  | .seq x _ => x
  | _ => .skip
noncomputable def c13_2 : Code := match code13 with
  | .seq _ x => x
  | _ => .skip
theorem cd_code13 : code13 = .seq c13_1 c13_2 := by kernel_rfl
noncomputable def r13_1 : Array Oper := regAt [0] body13
theorem cd_c13_1 : c13_1 = .region 0 r13_1 false := by kernel_rfl
noncomputable def c13_3 : Code := match c13_2 with
  | .seq x _ => x
  | _ => .skip
noncomputable def c13_4 : Code := match c13_2 with
  | .seq _ x => x
  | _ => .skip
theorem cd_c13_2 : c13_2 = .seq c13_3 c13_4 := by kernel_rfl
noncomputable def r13_3 : Array Oper := regAt [1, 0] body13
theorem cd_c13_3 : c13_3 = .region 1 r13_3 false := by kernel_rfl
noncomputable def c13_5 : Code := match c13_4 with
  | .seq x _ => x
  | _ => .skip
noncomputable def c13_6 : Code := match c13_4 with
  | .seq _ x => x
  | _ => .skip
theorem cd_c13_4 : c13_4 = .seq c13_5 c13_6 := by kernel_rfl
noncomputable def c13_7 : Code := match c13_5 with
  | .seq x _ => x
  | _ => .skip
noncomputable def c13_8 : Code := match c13_5 with
  | .seq _ x => x
  | _ => .skip
theorem cd_c13_5 : c13_5 = .seq c13_7 c13_8 := by kernel_rfl
noncomputable def r13_7 : Array Oper := regAt [1, 1, 0, 0] body13
theorem cd_c13_7 : c13_7 = .region 2 r13_7 false := by kernel_rfl
noncomputable def c13_9 : Code := match c13_8 with
  | .block _ x => x
  | _ => .skip
theorem cd_c13_8 : c13_8 = .block 0 c13_9 := by kernel_rfl
noncomputable def c13_10 : Code := match c13_9 with
  | .loop x => x
  | _ => .skip
theorem cd_c13_9 : c13_9 = .loop c13_10 := by kernel_rfl
noncomputable def c13_11 : Code := match c13_10 with
  | .seq x _ => x
  | _ => .skip
noncomputable def c13_12 : Code := match c13_10 with
  | .seq _ x => x
  | _ => .skip
theorem cd_c13_10 : c13_10 = .seq c13_11 c13_12 := by kernel_rfl
noncomputable def c13_13 : Code := match c13_11 with
  | .seq x _ => x
  | _ => .skip
noncomputable def c13_14 : Code := match c13_11 with
  | .seq _ x => x
  | _ => .skip
theorem cd_c13_11 : c13_11 = .seq c13_13 c13_14 := by kernel_rfl
noncomputable def r13_13 : Array Oper := regAt [1, 1, 0, 1, 1, 0, 0, 0] body13
theorem cd_c13_13 : c13_13 = .region 3 r13_13 false := by kernel_rfl
theorem cd_c13_14 : c13_14 = .cond (.tmp 18) .skip (.exit 0) := by kernel_rfl
noncomputable def c13_16 : Code := match c13_12 with
  | .seq x _ => x
  | _ => .skip
noncomputable def c13_17 : Code := match c13_12 with
  | .seq _ x => x
  | _ => .skip
theorem cd_c13_12 : c13_12 = .seq c13_16 c13_17 := by kernel_rfl
noncomputable def c13_18 : Code := match c13_16 with
  | .block _ x => x
  | _ => .skip
theorem cd_c13_16 : c13_16 = .block 1 c13_18 := by kernel_rfl
noncomputable def r13_18 : Array Oper := regAt [1, 1, 0, 1, 1, 0, 1, 0, 1] body13
theorem cd_c13_18 : c13_18 = .region 5 r13_18 true := by kernel_rfl
noncomputable def r13_17 : Array Oper := regAt [1, 1, 0, 1, 1, 0, 1, 1] body13
theorem cd_c13_17 : c13_17 = .region 4 r13_17 false := by kernel_rfl
noncomputable def c13_19 : Code := match c13_6 with
  | .seq x _ => x
  | _ => .skip
theorem cd_c13_6 : c13_6 = .seq c13_19 .ret := by kernel_rfl
noncomputable def r13_19 : Array Oper := regAt [1, 1, 1, 0] body13
theorem cd_c13_19 : c13_19 = .region 6 r13_19 false := by kernel_rfl
noncomputable def body14 : Code := match Try.f14.body with
  | some c => c
  | none => .skip
noncomputable def c14_1 : Code := match code14 with
  | .seq x _ => x
  | _ => .skip
noncomputable def c14_2 : Code := match code14 with
  | .seq _ x => x
  | _ => .skip
theorem cd_code14 : code14 = .seq c14_1 c14_2 := by kernel_rfl
noncomputable def r14_1 : Array Oper := regAt [0] body14
theorem cd_c14_1 : c14_1 = .region 0 r14_1 false := by kernel_rfl
noncomputable def c14_3 : Code := match c14_2 with
  | .seq x _ => x
  | _ => .skip
noncomputable def c14_4 : Code := match c14_2 with
  | .seq _ x => x
  | _ => .skip
theorem cd_c14_2 : c14_2 = .seq c14_3 c14_4 := by kernel_rfl
noncomputable def c14_5 : Code := match c14_3 with
  | .block _ x => x
  | _ => .skip
theorem cd_c14_3 : c14_3 = .block 0 c14_5 := by kernel_rfl
noncomputable def c14_6 : Code := match c14_5 with
  | .seq x _ => x
  | _ => .skip
noncomputable def c14_7 : Code := match c14_5 with
  | .seq _ x => x
  | _ => .skip
theorem cd_c14_5 : c14_5 = .seq c14_6 c14_7 := by kernel_rfl
noncomputable def r14_6 : Array Oper := regAt [1, 0, 1, 0] body14
theorem cd_c14_6 : c14_6 = .region 1 r14_6 false := by kernel_rfl
noncomputable def c14_8 : Code := match c14_7 with
  | .cond _ x _ => x
  | _ => .skip
noncomputable def c14_9 : Code := match c14_7 with
  | .cond _ _ x => x
  | _ => .skip
theorem cd_c14_7 : c14_7 = .cond (.tmp 8) c14_8 c14_9 := by kernel_rfl
noncomputable def c14_11 : Code := match c14_8 with
  | .seq x _ => x
  | _ => .skip
theorem cd_c14_8 : c14_8 = .seq c14_11 .ret := by kernel_rfl
noncomputable def r14_11 : Array Oper := regAt [1, 0, 1, 1, 1, 0] body14
theorem cd_c14_11 : c14_11 = .region 2 r14_11 false := by kernel_rfl
noncomputable def c14_12 : Code := match c14_9 with
  | .seq x _ => x
  | _ => .skip
noncomputable def c14_13 : Code := match c14_9 with
  | .seq _ x => x
  | _ => .skip
theorem cd_c14_9 : c14_9 = .seq c14_12 c14_13 := by kernel_rfl
noncomputable def r14_12 : Array Oper := regAt [1, 0, 1, 1, 2, 0] body14
theorem cd_c14_12 : c14_12 = .region 3 r14_12 true := by kernel_rfl
noncomputable def c14_14 : Code := match c14_13 with
  | .cond _ x _ => x
  | _ => .skip
theorem cd_c14_13 : c14_13 = .cond (.tmp 11) c14_14 .skip := by kernel_rfl
noncomputable def c14_16 : Code := match c14_14 with
  | .seq x _ => x
  | _ => .skip
theorem cd_c14_14 : c14_14 = .seq c14_16 .ret := by kernel_rfl
noncomputable def r14_16 : Array Oper := regAt [1, 0, 1, 1, 2, 1, 1, 0] body14
theorem cd_c14_16 : c14_16 = .region 4 r14_16 false := by kernel_rfl
noncomputable def c14_17 : Code := match c14_4 with
  | .seq x _ => x
  | _ => .skip
noncomputable def c14_18 : Code := match c14_4 with
  | .seq _ x => x
  | _ => .skip
theorem cd_c14_4 : c14_4 = .seq c14_17 c14_18 := by kernel_rfl
noncomputable def r14_17 : Array Oper := regAt [1, 1, 0] body14
theorem cd_c14_17 : c14_17 = .region 5 r14_17 false := by kernel_rfl
noncomputable def c14_19 : Code := match c14_18 with
  | .seq x _ => x
  | _ => .skip
noncomputable def c14_20 : Code := match c14_18 with
  | .seq _ x => x
  | _ => .skip
theorem cd_c14_18 : c14_18 = .seq c14_19 c14_20 := by kernel_rfl
noncomputable def c14_21 : Code := match c14_19 with
  | .seq x _ => x
  | _ => .skip
noncomputable def c14_22 : Code := match c14_19 with
  | .seq _ x => x
  | _ => .skip
theorem cd_c14_19 : c14_19 = .seq c14_21 c14_22 := by kernel_rfl
noncomputable def r14_21 : Array Oper := regAt [1, 1, 1, 0, 0] body14
theorem cd_c14_21 : c14_21 = .region 6 r14_21 false := by kernel_rfl
noncomputable def c14_23 : Code := match c14_22 with
  | .seq x _ => x
  | _ => .skip
noncomputable def c14_24 : Code := match c14_22 with
  | .seq _ x => x
  | _ => .skip
theorem cd_c14_22 : c14_22 = .seq c14_23 c14_24 := by kernel_rfl
noncomputable def r14_23 : Array Oper := regAt [1, 1, 1, 0, 1, 0] body14
theorem cd_c14_23 : c14_23 = .region 7 r14_23 false := by kernel_rfl
noncomputable def c14_25 : Code := match c14_24 with
  | .cond _ x _ => x
  | _ => .skip
theorem cd_c14_24 : c14_24 = .cond (.tmp 34) c14_25 .skip := by kernel_rfl
noncomputable def c14_27 : Code := match c14_25 with
  | .seq x _ => x
  | _ => .skip
noncomputable def c14_28 : Code := match c14_25 with
  | .seq _ x => x
  | _ => .skip
theorem cd_c14_25 : c14_25 = .seq c14_27 c14_28 := by kernel_rfl
noncomputable def c14_29 : Code := match c14_27 with
  | .seq x _ => x
  | _ => .skip
noncomputable def c14_30 : Code := match c14_27 with
  | .seq _ x => x
  | _ => .skip
theorem cd_c14_27 : c14_27 = .seq c14_29 c14_30 := by kernel_rfl
noncomputable def r14_29 : Array Oper := regAt [1, 1, 1, 0, 1, 1, 1, 0, 0] body14
theorem cd_c14_29 : c14_29 = .region 8 r14_29 true := by kernel_rfl
noncomputable def c14_31 : Code := match c14_30 with
  | .cond _ x _ => x
  | _ => .skip
theorem cd_c14_30 : c14_30 = .cond (.tmp 44) c14_31 .skip := by kernel_rfl
noncomputable def c14_33 : Code := match c14_31 with
  | .seq x _ => x
  | _ => .skip
theorem cd_c14_31 : c14_31 = .seq c14_33 .ret := by kernel_rfl
noncomputable def r14_33 : Array Oper := regAt [1, 1, 1, 0, 1, 1, 1, 0, 1, 1, 0] body14
theorem cd_c14_33 : c14_33 = .region 9 r14_33 false := by kernel_rfl
noncomputable def r14_28 : Array Oper := regAt [1, 1, 1, 0, 1, 1, 1, 1] body14
theorem cd_c14_28 : c14_28 = .region 10 r14_28 false := by kernel_rfl
noncomputable def c14_34 : Code := match c14_20 with
  | .seq x _ => x
  | _ => .skip
noncomputable def c14_35 : Code := match c14_20 with
  | .seq _ x => x
  | _ => .skip
theorem cd_c14_20 : c14_20 = .seq c14_34 c14_35 := by kernel_rfl
noncomputable def r14_34 : Array Oper := regAt [1, 1, 1, 1, 0] body14
theorem cd_c14_34 : c14_34 = .region 11 r14_34 true := by kernel_rfl
noncomputable def c14_36 : Code := match c14_35 with
  | .seq x _ => x
  | _ => .skip
theorem cd_c14_35 : c14_35 = .seq c14_36 .ret := by kernel_rfl
noncomputable def r14_36 : Array Oper := regAt [1, 1, 1, 1, 1, 0] body14
theorem cd_c14_36 : c14_36 = .region 12 r14_36 false := by kernel_rfl
noncomputable def body15 : Code := match Try.f15.body with
  | some c => c
  | none => .skip
noncomputable def c15_1 : Code := match code15 with
  | .seq x _ => x
  | _ => .skip
noncomputable def c15_2 : Code := match code15 with
  | .seq _ x => x
  | _ => .skip
theorem cd_code15 : code15 = .seq c15_1 c15_2 := by kernel_rfl
noncomputable def r15_1 : Array Oper := regAt [0] body15
theorem cd_c15_1 : c15_1 = .region 0 r15_1 false := by kernel_rfl
noncomputable def c15_3 : Code := match c15_2 with
  | .seq x _ => x
  | _ => .skip
noncomputable def c15_4 : Code := match c15_2 with
  | .seq _ x => x
  | _ => .skip
theorem cd_c15_2 : c15_2 = .seq c15_3 c15_4 := by kernel_rfl
noncomputable def c15_5 : Code := match c15_3 with
  | .seq x _ => x
  | _ => .skip
noncomputable def c15_6 : Code := match c15_3 with
  | .seq _ x => x
  | _ => .skip
theorem cd_c15_3 : c15_3 = .seq c15_5 c15_6 := by kernel_rfl
noncomputable def r15_5 : Array Oper := regAt [1, 0, 0] body15
theorem cd_c15_5 : c15_5 = .region 1 r15_5 true := by kernel_rfl
noncomputable def c15_7 : Code := match c15_6 with
  | .cond _ x _ => x
  | _ => .skip
theorem cd_c15_6 : c15_6 = .cond (.tmp 18) c15_7 .skip := by kernel_rfl
noncomputable def c15_9 : Code := match c15_7 with
  | .seq x _ => x
  | _ => .skip
theorem cd_c15_7 : c15_7 = .seq c15_9 .ret := by kernel_rfl
noncomputable def r15_9 : Array Oper := regAt [1, 0, 1, 1, 0] body15
theorem cd_c15_9 : c15_9 = .region 2 r15_9 false := by kernel_rfl
noncomputable def c15_10 : Code := match c15_4 with
  | .seq x _ => x
  | _ => .skip
noncomputable def c15_11 : Code := match c15_4 with
  | .seq _ x => x
  | _ => .skip
theorem cd_c15_4 : c15_4 = .seq c15_10 c15_11 := by kernel_rfl
noncomputable def c15_12 : Code := match c15_10 with
  | .seq x _ => x
  | _ => .skip
noncomputable def c15_13 : Code := match c15_10 with
  | .seq _ x => x
  | _ => .skip
theorem cd_c15_10 : c15_10 = .seq c15_12 c15_13 := by kernel_rfl
noncomputable def r15_12 : Array Oper := regAt [1, 1, 0, 0] body15
theorem cd_c15_12 : c15_12 = .region 3 r15_12 false := by kernel_rfl
noncomputable def c15_14 : Code := match c15_13 with
  | .block _ x => x
  | _ => .skip
theorem cd_c15_13 : c15_13 = .block 0 c15_14 := by kernel_rfl
noncomputable def c15_15 : Code := match c15_14 with
  | .loop x => x
  | _ => .skip
theorem cd_c15_14 : c15_14 = .loop c15_15 := by kernel_rfl
noncomputable def c15_16 : Code := match c15_15 with
  | .seq x _ => x
  | _ => .skip
noncomputable def c15_17 : Code := match c15_15 with
  | .seq _ x => x
  | _ => .skip
theorem cd_c15_15 : c15_15 = .seq c15_16 c15_17 := by kernel_rfl
noncomputable def c15_18 : Code := match c15_16 with
  | .seq x _ => x
  | _ => .skip
noncomputable def c15_19 : Code := match c15_16 with
  | .seq _ x => x
  | _ => .skip
theorem cd_c15_16 : c15_16 = .seq c15_18 c15_19 := by kernel_rfl
noncomputable def r15_18 : Array Oper := regAt [1, 1, 0, 1, 1, 0, 0, 0] body15
theorem cd_c15_18 : c15_18 = .region 4 r15_18 false := by kernel_rfl
theorem cd_c15_19 : c15_19 = .cond (.tmp 25) .skip (.exit 0) := by kernel_rfl
noncomputable def c15_21 : Code := match c15_17 with
  | .seq x _ => x
  | _ => .skip
noncomputable def c15_22 : Code := match c15_17 with
  | .seq _ x => x
  | _ => .skip
theorem cd_c15_17 : c15_17 = .seq c15_21 c15_22 := by kernel_rfl
noncomputable def c15_23 : Code := match c15_21 with
  | .block _ x => x
  | _ => .skip
theorem cd_c15_21 : c15_21 = .block 1 c15_23 := by kernel_rfl
noncomputable def c15_24 : Code := match c15_23 with
  | .seq x _ => x
  | _ => .skip
noncomputable def c15_25 : Code := match c15_23 with
  | .seq _ x => x
  | _ => .skip
theorem cd_c15_23 : c15_23 = .seq c15_24 c15_25 := by kernel_rfl
noncomputable def r15_24 : Array Oper := regAt [1, 1, 0, 1, 1, 0, 1, 0, 1, 0] body15
theorem cd_c15_24 : c15_24 = .region 6 r15_24 true := by kernel_rfl
noncomputable def c15_26 : Code := match c15_25 with
  | .cond _ x _ => x
  | _ => .skip
theorem cd_c15_25 : c15_25 = .cond (.tmp 38) c15_26 .skip := by kernel_rfl
noncomputable def c15_28 : Code := match c15_26 with
  | .seq x _ => x
  | _ => .skip
noncomputable def c15_29 : Code := match c15_26 with
  | .seq _ x => x
  | _ => .skip
theorem cd_c15_26 : c15_26 = .seq c15_28 c15_29 := by kernel_rfl
noncomputable def c15_30 : Code := match c15_28 with
  | .seq x _ => x
  | _ => .skip
noncomputable def c15_31 : Code := match c15_28 with
  | .seq _ x => x
  | _ => .skip
theorem cd_c15_28 : c15_28 = .seq c15_30 c15_31 := by kernel_rfl
noncomputable def r15_30 : Array Oper := regAt [1, 1, 0, 1, 1, 0, 1, 0, 1, 1, 1, 0, 0] body15
theorem cd_c15_30 : c15_30 = .region 7 r15_30 true := by kernel_rfl
noncomputable def c15_32 : Code := match c15_31 with
  | .cond _ x _ => x
  | _ => .skip
theorem cd_c15_31 : c15_31 = .cond (.tmp 48) c15_32 .skip := by kernel_rfl
noncomputable def c15_34 : Code := match c15_32 with
  | .seq x _ => x
  | _ => .skip
theorem cd_c15_32 : c15_32 = .seq c15_34 .ret := by kernel_rfl
noncomputable def r15_34 : Array Oper := regAt [1, 1, 0, 1, 1, 0, 1, 0, 1, 1, 1, 0, 1, 1, 0] body15
theorem cd_c15_34 : c15_34 = .region 8 r15_34 false := by kernel_rfl
noncomputable def c15_35 : Code := match c15_29 with
  | .seq x _ => x
  | _ => .skip
theorem cd_c15_29 : c15_29 = .seq c15_35 (.exit 0) := by kernel_rfl
noncomputable def r15_35 : Array Oper := regAt [1, 1, 0, 1, 1, 0, 1, 0, 1, 1, 1, 1, 0] body15
theorem cd_c15_35 : c15_35 = .region 9 r15_35 false := by kernel_rfl
noncomputable def r15_22 : Array Oper := regAt [1, 1, 0, 1, 1, 0, 1, 1] body15
theorem cd_c15_22 : c15_22 = .region 5 r15_22 false := by kernel_rfl
noncomputable def c15_36 : Code := match c15_11 with
  | .seq x _ => x
  | _ => .skip
noncomputable def c15_37 : Code := match c15_11 with
  | .seq _ x => x
  | _ => .skip
theorem cd_c15_11 : c15_11 = .seq c15_36 c15_37 := by kernel_rfl
noncomputable def r15_36 : Array Oper := regAt [1, 1, 1, 0] body15
theorem cd_c15_36 : c15_36 = .region 10 r15_36 true := by kernel_rfl
noncomputable def c15_38 : Code := match c15_37 with
  | .seq x _ => x
  | _ => .skip
noncomputable def c15_39 : Code := match c15_37 with
  | .seq _ x => x
  | _ => .skip
theorem cd_c15_37 : c15_37 = .seq c15_38 c15_39 := by kernel_rfl
noncomputable def r15_38 : Array Oper := regAt [1, 1, 1, 1, 0] body15
theorem cd_c15_38 : c15_38 = .region 11 r15_38 false := by kernel_rfl
noncomputable def c15_40 : Code := match c15_39 with
  | .seq x _ => x
  | _ => .skip
theorem cd_c15_39 : c15_39 = .seq c15_40 .ret := by kernel_rfl
noncomputable def r15_40 : Array Oper := regAt [1, 1, 1, 1, 1, 0] body15
theorem cd_c15_40 : c15_40 = .region 12 r15_40 false := by kernel_rfl
noncomputable def body16 : Code := match Try.f16.body with
  | some c => c
  | none => .skip
noncomputable def c16_1 : Code := match code16 with
  | .seq x _ => x
  | _ => .skip
noncomputable def c16_2 : Code := match code16 with
  | .seq _ x => x
  | _ => .skip
theorem cd_code16 : code16 = .seq c16_1 c16_2 := by kernel_rfl
noncomputable def r16_1 : Array Oper := regAt [0] body16
theorem cd_c16_1 : c16_1 = .region 0 r16_1 false := by kernel_rfl
noncomputable def c16_3 : Code := match c16_2 with
  | .seq x _ => x
  | _ => .skip
noncomputable def c16_4 : Code := match c16_2 with
  | .seq _ x => x
  | _ => .skip
theorem cd_c16_2 : c16_2 = .seq c16_3 c16_4 := by kernel_rfl
noncomputable def c16_5 : Code := match c16_3 with
  | .seq x _ => x
  | _ => .skip
noncomputable def c16_6 : Code := match c16_3 with
  | .seq _ x => x
  | _ => .skip
theorem cd_c16_3 : c16_3 = .seq c16_5 c16_6 := by kernel_rfl
noncomputable def r16_5 : Array Oper := regAt [1, 0, 0] body16
theorem cd_c16_5 : c16_5 = .region 1 r16_5 false := by kernel_rfl
noncomputable def c16_7 : Code := match c16_6 with
  | .cond _ x _ => x
  | _ => .skip
theorem cd_c16_6 : c16_6 = .cond (.tmp 4) c16_7 .skip := by kernel_rfl
noncomputable def c16_9 : Code := match c16_7 with
  | .seq x _ => x
  | _ => .skip
theorem cd_c16_7 : c16_7 = .seq c16_9 .ret := by kernel_rfl
noncomputable def r16_9 : Array Oper := regAt [1, 0, 1, 1, 0] body16
theorem cd_c16_9 : c16_9 = .region 2 r16_9 false := by kernel_rfl
noncomputable def c16_10 : Code := match c16_4 with
  | .seq x _ => x
  | _ => .skip
theorem cd_c16_4 : c16_4 = .seq c16_10 .ret := by kernel_rfl
noncomputable def r16_10 : Array Oper := regAt [1, 1, 0] body16
theorem cd_c16_10 : c16_10 = .region 3 r16_10 false := by kernel_rfl
noncomputable def body17 : Code := match Try.f17.body with
  | some c => c
  | none => .skip
noncomputable def r17_1 : Array Oper := regAt [0] body17
noncomputable def r17_3 : Array Oper := regAt [1, 0] body17
noncomputable def body18 : Code := match Try.f18.body with
  | some c => c
  | none => .skip
noncomputable def c18_1 : Code := match code18 with
  | .seq x _ => x
  | _ => .skip
noncomputable def c18_2 : Code := match code18 with
  | .seq _ x => x
  | _ => .skip
theorem cd_code18 : code18 = .seq c18_1 c18_2 := by kernel_rfl
noncomputable def r18_1 : Array Oper := regAt [0] body18
theorem cd_c18_1 : c18_1 = .region 0 r18_1 false := by kernel_rfl
noncomputable def c18_3 : Code := match c18_2 with
  | .seq x _ => x
  | _ => .skip
noncomputable def c18_4 : Code := match c18_2 with
  | .seq _ x => x
  | _ => .skip
theorem cd_c18_2 : c18_2 = .seq c18_3 c18_4 := by kernel_rfl
noncomputable def c18_5 : Code := match c18_3 with
  | .seq x _ => x
  | _ => .skip
noncomputable def c18_6 : Code := match c18_3 with
  | .seq _ x => x
  | _ => .skip
theorem cd_c18_3 : c18_3 = .seq c18_5 c18_6 := by kernel_rfl
noncomputable def r18_5 : Array Oper := regAt [1, 0, 0] body18
theorem cd_c18_5 : c18_5 = .region 1 r18_5 false := by kernel_rfl
noncomputable def c18_7 : Code := match c18_6 with
  | .cond _ x _ => x
  | _ => .skip
theorem cd_c18_6 : c18_6 = .cond (.tmp 4) c18_7 .skip := by kernel_rfl
noncomputable def c18_9 : Code := match c18_7 with
  | .seq x _ => x
  | _ => .skip
theorem cd_c18_7 : c18_7 = .seq c18_9 .ret := by kernel_rfl
noncomputable def r18_9 : Array Oper := regAt [1, 0, 1, 1, 0] body18
theorem cd_c18_9 : c18_9 = .region 2 r18_9 false := by kernel_rfl
noncomputable def c18_10 : Code := match c18_4 with
  | .seq x _ => x
  | _ => .skip
theorem cd_c18_4 : c18_4 = .seq c18_10 .ret := by kernel_rfl
noncomputable def r18_10 : Array Oper := regAt [1, 1, 0] body18
theorem cd_c18_10 : c18_10 = .region 3 r18_10 false := by kernel_rfl
noncomputable def body19 : Code := match Try.f19.body with
  | some c => c
  | none => .skip
noncomputable def c19_1 : Code := match code19 with
  | .seq x _ => x
  | _ => .skip
noncomputable def c19_2 : Code := match code19 with
  | .seq _ x => x
  | _ => .skip
theorem cd_code19 : code19 = .seq c19_1 c19_2 := by kernel_rfl
noncomputable def r19_1 : Array Oper := regAt [0] body19
theorem cd_c19_1 : c19_1 = .region 0 r19_1 false := by kernel_rfl
noncomputable def c19_3 : Code := match c19_2 with
  | .seq x _ => x
  | _ => .skip
noncomputable def c19_4 : Code := match c19_2 with
  | .seq _ x => x
  | _ => .skip
theorem cd_c19_2 : c19_2 = .seq c19_3 c19_4 := by kernel_rfl
noncomputable def r19_3 : Array Oper := regAt [1, 0] body19
theorem cd_c19_3 : c19_3 = .region 1 r19_3 false := by kernel_rfl
noncomputable def c19_5 : Code := match c19_4 with
  | .seq x _ => x
  | _ => .skip
noncomputable def c19_6 : Code := match c19_4 with
  | .seq _ x => x
  | _ => .skip
theorem cd_c19_4 : c19_4 = .seq c19_5 c19_6 := by kernel_rfl
noncomputable def c19_7 : Code := match c19_5 with
  | .seq x _ => x
  | _ => .skip
noncomputable def c19_8 : Code := match c19_5 with
  | .seq _ x => x
  | _ => .skip
theorem cd_c19_5 : c19_5 = .seq c19_7 c19_8 := by kernel_rfl
noncomputable def r19_7 : Array Oper := regAt [1, 1, 0, 0] body19
theorem cd_c19_7 : c19_7 = .region 2 r19_7 false := by kernel_rfl
noncomputable def c19_9 : Code := match c19_8 with
  | .block _ x => x
  | _ => .skip
theorem cd_c19_8 : c19_8 = .block 0 c19_9 := by kernel_rfl
noncomputable def c19_10 : Code := match c19_9 with
  | .loop x => x
  | _ => .skip
theorem cd_c19_9 : c19_9 = .loop c19_10 := by kernel_rfl
noncomputable def c19_11 : Code := match c19_10 with
  | .seq x _ => x
  | _ => .skip
noncomputable def c19_12 : Code := match c19_10 with
  | .seq _ x => x
  | _ => .skip
theorem cd_c19_10 : c19_10 = .seq c19_11 c19_12 := by kernel_rfl
noncomputable def c19_13 : Code := match c19_11 with
  | .seq x _ => x
  | _ => .skip
noncomputable def c19_14 : Code := match c19_11 with
  | .seq _ x => x
  | _ => .skip
theorem cd_c19_11 : c19_11 = .seq c19_13 c19_14 := by kernel_rfl
noncomputable def r19_13 : Array Oper := regAt [1, 1, 0, 1, 1, 0, 0, 0] body19
theorem cd_c19_13 : c19_13 = .region 3 r19_13 false := by kernel_rfl
theorem cd_c19_14 : c19_14 = .cond (.tmp 10) .skip (.exit 0) := by kernel_rfl
noncomputable def c19_16 : Code := match c19_12 with
  | .seq x _ => x
  | _ => .skip
noncomputable def c19_17 : Code := match c19_12 with
  | .seq _ x => x
  | _ => .skip
theorem cd_c19_12 : c19_12 = .seq c19_16 c19_17 := by kernel_rfl
noncomputable def c19_18 : Code := match c19_16 with
  | .block _ x => x
  | _ => .skip
theorem cd_c19_16 : c19_16 = .block 1 c19_18 := by kernel_rfl
noncomputable def r19_18 : Array Oper := regAt [1, 1, 0, 1, 1, 0, 1, 0, 1] body19
theorem cd_c19_18 : c19_18 = .region 5 r19_18 false := by kernel_rfl
noncomputable def r19_17 : Array Oper := regAt [1, 1, 0, 1, 1, 0, 1, 1] body19
theorem cd_c19_17 : c19_17 = .region 4 r19_17 false := by kernel_rfl
noncomputable def c19_19 : Code := match c19_6 with
  | .seq x _ => x
  | _ => .skip
theorem cd_c19_6 : c19_6 = .seq c19_19 .ret := by kernel_rfl
noncomputable def r19_19 : Array Oper := regAt [1, 1, 1, 0] body19
theorem cd_c19_19 : c19_19 = .region 6 r19_19 false := by kernel_rfl
noncomputable def body21 : Code := match Try.f21.body with
  | some c => c
  | none => .skip
noncomputable def c21_1 : Code := match code21 with
  | .seq x _ => x
  | _ => .skip
noncomputable def c21_2 : Code := match code21 with
  | .seq _ x => x
  | _ => .skip
theorem cd_code21 : code21 = .seq c21_1 c21_2 := by kernel_rfl
noncomputable def r21_1 : Array Oper := regAt [0] body21
theorem cd_c21_1 : c21_1 = .region 0 r21_1 false := by kernel_rfl
noncomputable def c21_3 : Code := match c21_2 with
  | .seq x _ => x
  | _ => .skip
theorem cd_c21_2 : c21_2 = .seq c21_3 .ret := by kernel_rfl
noncomputable def r21_3 : Array Oper := regAt [1, 0] body21
theorem cd_c21_3 : c21_3 = .region 1 r21_3 false := by kernel_rfl
noncomputable def body22 : Code := match Try.f22.body with
  | some c => c
  | none => .skip
noncomputable def c22_1 : Code := match code22 with
  | .seq x _ => x
  | _ => .skip
noncomputable def c22_2 : Code := match code22 with
  | .seq _ x => x
  | _ => .skip
theorem cd_code22 : code22 = .seq c22_1 c22_2 := by kernel_rfl
noncomputable def r22_1 : Array Oper := regAt [0] body22
theorem cd_c22_1 : c22_1 = .region 0 r22_1 false := by kernel_rfl
noncomputable def c22_3 : Code := match c22_2 with
  | .seq x _ => x
  | _ => .skip
noncomputable def c22_4 : Code := match c22_2 with
  | .seq _ x => x
  | _ => .skip
theorem cd_c22_2 : c22_2 = .seq c22_3 c22_4 := by kernel_rfl
noncomputable def c22_5 : Code := match c22_3 with
  | .seq x _ => x
  | _ => .skip
noncomputable def c22_6 : Code := match c22_3 with
  | .seq _ x => x
  | _ => .skip
theorem cd_c22_3 : c22_3 = .seq c22_5 c22_6 := by kernel_rfl
noncomputable def r22_5 : Array Oper := regAt [1, 0, 0] body22
theorem cd_c22_5 : c22_5 = .region 1 r22_5 false := by kernel_rfl
noncomputable def c22_7 : Code := match c22_6 with
  | .cond _ x _ => x
  | _ => .skip
theorem cd_c22_6 : c22_6 = .cond (.tmp 6) c22_7 .skip := by kernel_rfl
noncomputable def c22_9 : Code := match c22_7 with
  | .seq x _ => x
  | _ => .skip
theorem cd_c22_7 : c22_7 = .seq c22_9 .ret := by kernel_rfl
noncomputable def r22_9 : Array Oper := regAt [1, 0, 1, 1, 0] body22
theorem cd_c22_9 : c22_9 = .region 2 r22_9 false := by kernel_rfl
noncomputable def c22_10 : Code := match c22_4 with
  | .seq x _ => x
  | _ => .skip
noncomputable def c22_11 : Code := match c22_4 with
  | .seq _ x => x
  | _ => .skip
theorem cd_c22_4 : c22_4 = .seq c22_10 c22_11 := by kernel_rfl
noncomputable def r22_10 : Array Oper := regAt [1, 1, 0] body22
theorem cd_c22_10 : c22_10 = .region 3 r22_10 false := by kernel_rfl
noncomputable def c22_12 : Code := match c22_11 with
  | .seq x _ => x
  | _ => .skip
noncomputable def c22_13 : Code := match c22_11 with
  | .seq _ x => x
  | _ => .skip
theorem cd_c22_11 : c22_11 = .seq c22_12 c22_13 := by kernel_rfl
noncomputable def c22_14 : Code := match c22_12 with
  | .seq x _ => x
  | _ => .skip
noncomputable def c22_15 : Code := match c22_12 with
  | .seq _ x => x
  | _ => .skip
theorem cd_c22_12 : c22_12 = .seq c22_14 c22_15 := by kernel_rfl
noncomputable def r22_14 : Array Oper := regAt [1, 1, 1, 0, 0] body22
theorem cd_c22_14 : c22_14 = .region 4 r22_14 false := by kernel_rfl
noncomputable def c22_16 : Code := match c22_15 with
  | .cond _ x _ => x
  | _ => .skip
theorem cd_c22_15 : c22_15 = .cond (.tmp 11) c22_16 .skip := by kernel_rfl
noncomputable def r22_16 : Array Oper := regAt [1, 1, 1, 0, 1, 1] body22
theorem cd_c22_16 : c22_16 = .region 5 r22_16 false := by kernel_rfl
noncomputable def c22_18 : Code := match c22_13 with
  | .seq x _ => x
  | _ => .skip
theorem cd_c22_13 : c22_13 = .seq c22_18 .ret := by kernel_rfl
noncomputable def r22_18 : Array Oper := regAt [1, 1, 1, 1, 0] body22
theorem cd_c22_18 : c22_18 = .region 6 r22_18 false := by kernel_rfl
noncomputable def body23 : Code := match Try.f23.body with
  | some c => c
  | none => .skip
noncomputable def c23_1 : Code := match code23 with
  | .seq x _ => x
  | _ => .skip
noncomputable def c23_2 : Code := match code23 with
  | .seq _ x => x
  | _ => .skip
theorem cd_code23 : code23 = .seq c23_1 c23_2 := by kernel_rfl
noncomputable def r23_1 : Array Oper := regAt [0] body23
theorem cd_c23_1 : c23_1 = .region 0 r23_1 false := by kernel_rfl
noncomputable def c23_3 : Code := match c23_2 with
  | .seq x _ => x
  | _ => .skip
noncomputable def c23_4 : Code := match c23_2 with
  | .seq _ x => x
  | _ => .skip
theorem cd_c23_2 : c23_2 = .seq c23_3 c23_4 := by kernel_rfl
noncomputable def r23_3 : Array Oper := regAt [1, 0] body23
theorem cd_c23_3 : c23_3 = .region 1 r23_3 false := by kernel_rfl
noncomputable def c23_5 : Code := match c23_4 with
  | .seq x _ => x
  | _ => .skip
theorem cd_c23_4 : c23_4 = .seq c23_5 .ret := by kernel_rfl
noncomputable def r23_5 : Array Oper := regAt [1, 1, 0] body23
theorem cd_c23_5 : c23_5 = .region 2 r23_5 false := by kernel_rfl
noncomputable def body24 : Code := match Try.f24.body with
  | some c => c
  | none => .skip
noncomputable def c24_1 : Code := match code24 with
  | .seq x _ => x
  | _ => .skip
noncomputable def c24_2 : Code := match code24 with
  | .seq _ x => x
  | _ => .skip
theorem cd_code24 : code24 = .seq c24_1 c24_2 := by kernel_rfl
noncomputable def r24_1 : Array Oper := regAt [0] body24
theorem cd_c24_1 : c24_1 = .region 0 r24_1 false := by kernel_rfl
noncomputable def c24_3 : Code := match c24_2 with
  | .seq x _ => x
  | _ => .skip
noncomputable def c24_4 : Code := match c24_2 with
  | .seq _ x => x
  | _ => .skip
theorem cd_c24_2 : c24_2 = .seq c24_3 c24_4 := by kernel_rfl
noncomputable def r24_3 : Array Oper := regAt [1, 0] body24
theorem cd_c24_3 : c24_3 = .region 1 r24_3 false := by kernel_rfl
noncomputable def c24_5 : Code := match c24_4 with
  | .seq x _ => x
  | _ => .skip
noncomputable def c24_6 : Code := match c24_4 with
  | .seq _ x => x
  | _ => .skip
theorem cd_c24_4 : c24_4 = .seq c24_5 c24_6 := by kernel_rfl
noncomputable def c24_7 : Code := match c24_5 with
  | .seq x _ => x
  | _ => .skip
noncomputable def c24_8 : Code := match c24_5 with
  | .seq _ x => x
  | _ => .skip
theorem cd_c24_5 : c24_5 = .seq c24_7 c24_8 := by kernel_rfl
noncomputable def r24_7 : Array Oper := regAt [1, 1, 0, 0] body24
theorem cd_c24_7 : c24_7 = .region 2 r24_7 false := by kernel_rfl
noncomputable def c24_9 : Code := match c24_8 with
  | .block _ x => x
  | _ => .skip
theorem cd_c24_8 : c24_8 = .block 0 c24_9 := by kernel_rfl
noncomputable def c24_10 : Code := match c24_9 with
  | .loop x => x
  | _ => .skip
theorem cd_c24_9 : c24_9 = .loop c24_10 := by kernel_rfl
noncomputable def c24_11 : Code := match c24_10 with
  | .seq x _ => x
  | _ => .skip
noncomputable def c24_12 : Code := match c24_10 with
  | .seq _ x => x
  | _ => .skip
theorem cd_c24_10 : c24_10 = .seq c24_11 c24_12 := by kernel_rfl
noncomputable def c24_13 : Code := match c24_11 with
  | .seq x _ => x
  | _ => .skip
noncomputable def c24_14 : Code := match c24_11 with
  | .seq _ x => x
  | _ => .skip
theorem cd_c24_11 : c24_11 = .seq c24_13 c24_14 := by kernel_rfl
noncomputable def r24_13 : Array Oper := regAt [1, 1, 0, 1, 1, 0, 0, 0] body24
theorem cd_c24_13 : c24_13 = .region 3 r24_13 false := by kernel_rfl
theorem cd_c24_14 : c24_14 = .cond (.tmp 11) .skip (.exit 0) := by kernel_rfl
noncomputable def c24_16 : Code := match c24_12 with
  | .seq x _ => x
  | _ => .skip
noncomputable def c24_17 : Code := match c24_12 with
  | .seq _ x => x
  | _ => .skip
theorem cd_c24_12 : c24_12 = .seq c24_16 c24_17 := by kernel_rfl
noncomputable def c24_18 : Code := match c24_16 with
  | .block _ x => x
  | _ => .skip
theorem cd_c24_16 : c24_16 = .block 1 c24_18 := by kernel_rfl
noncomputable def c24_19 : Code := match c24_18 with
  | .seq x _ => x
  | _ => .skip
noncomputable def c24_20 : Code := match c24_18 with
  | .seq _ x => x
  | _ => .skip
theorem cd_c24_18 : c24_18 = .seq c24_19 c24_20 := by kernel_rfl
noncomputable def r24_19 : Array Oper := regAt [1, 1, 0, 1, 1, 0, 1, 0, 1, 0] body24
theorem cd_c24_19 : c24_19 = .region 5 r24_19 false := by kernel_rfl
noncomputable def c24_21 : Code := match c24_20 with
  | .cond _ x _ => x
  | _ => .skip
theorem cd_c24_20 : c24_20 = .cond (.tmp 17) c24_21 .skip := by kernel_rfl
noncomputable def r24_21 : Array Oper := regAt [1, 1, 0, 1, 1, 0, 1, 0, 1, 1, 1] body24
theorem cd_c24_21 : c24_21 = .region 6 r24_21 true := by kernel_rfl
noncomputable def r24_17 : Array Oper := regAt [1, 1, 0, 1, 1, 0, 1, 1] body24
theorem cd_c24_17 : c24_17 = .region 4 r24_17 false := by kernel_rfl
noncomputable def c24_23 : Code := match c24_6 with
  | .seq x _ => x
  | _ => .skip
theorem cd_c24_6 : c24_6 = .seq c24_23 .ret := by kernel_rfl
noncomputable def r24_23 : Array Oper := regAt [1, 1, 1, 0] body24
theorem cd_c24_23 : c24_23 = .region 7 r24_23 false := by kernel_rfl
noncomputable def body25 : Code := match Try.f25.body with
  | some c => c
  | none => .skip
noncomputable def c25_1 : Code := match code25 with
  | .seq x _ => x
  | _ => .skip
noncomputable def c25_2 : Code := match code25 with
  | .seq _ x => x
  | _ => .skip
theorem cd_code25 : code25 = .seq c25_1 c25_2 := by kernel_rfl
noncomputable def r25_1 : Array Oper := regAt [0] body25
theorem cd_c25_1 : c25_1 = .region 0 r25_1 false := by kernel_rfl
noncomputable def c25_3 : Code := match c25_2 with
  | .seq x _ => x
  | _ => .skip
noncomputable def c25_4 : Code := match c25_2 with
  | .seq _ x => x
  | _ => .skip
theorem cd_c25_2 : c25_2 = .seq c25_3 c25_4 := by kernel_rfl
noncomputable def c25_5 : Code := match c25_3 with
  | .seq x _ => x
  | _ => .skip
noncomputable def c25_6 : Code := match c25_3 with
  | .seq _ x => x
  | _ => .skip
theorem cd_c25_3 : c25_3 = .seq c25_5 c25_6 := by kernel_rfl
noncomputable def r25_5 : Array Oper := regAt [1, 0, 0] body25
theorem cd_c25_5 : c25_5 = .region 1 r25_5 false := by kernel_rfl
noncomputable def c25_7 : Code := match c25_6 with
  | .seq x _ => x
  | _ => .skip
noncomputable def c25_8 : Code := match c25_6 with
  | .seq _ x => x
  | _ => .skip
theorem cd_c25_6 : c25_6 = .seq c25_7 c25_8 := by kernel_rfl
noncomputable def r25_7 : Array Oper := regAt [1, 0, 1, 0] body25
theorem cd_c25_7 : c25_7 = .region 2 r25_7 false := by kernel_rfl
noncomputable def c25_9 : Code := match c25_8 with
  | .cond _ x _ => x
  | _ => .skip
theorem cd_c25_8 : c25_8 = .cond (.tmp 31) c25_9 .skip := by kernel_rfl
noncomputable def c25_11 : Code := match c25_9 with
  | .seq x _ => x
  | _ => .skip
theorem cd_c25_9 : c25_9 = .seq c25_11 .ret := by kernel_rfl
noncomputable def r25_11 : Array Oper := regAt [1, 0, 1, 1, 1, 0] body25
theorem cd_c25_11 : c25_11 = .region 3 r25_11 false := by kernel_rfl
noncomputable def c25_12 : Code := match c25_4 with
  | .seq x _ => x
  | _ => .skip
theorem cd_c25_4 : c25_4 = .seq c25_12 .ret := by kernel_rfl
noncomputable def r25_12 : Array Oper := regAt [1, 1, 0] body25
theorem cd_c25_12 : c25_12 = .region 4 r25_12 false := by kernel_rfl
noncomputable def body26 : Code := match Try.f26.body with
  | some c => c
  | none => .skip
noncomputable def c26_1 : Code := match code26 with
  | .seq x _ => x
  | _ => .skip
noncomputable def c26_2 : Code := match code26 with
  | .seq _ x => x
  | _ => .skip
theorem cd_code26 : code26 = .seq c26_1 c26_2 := by kernel_rfl
noncomputable def r26_1 : Array Oper := regAt [0] body26
theorem cd_c26_1 : c26_1 = .region 0 r26_1 false := by kernel_rfl
noncomputable def c26_3 : Code := match c26_2 with
  | .seq x _ => x
  | _ => .skip
theorem cd_c26_2 : c26_2 = .seq c26_3 .ret := by kernel_rfl
noncomputable def r26_3 : Array Oper := regAt [1, 0] body26
theorem cd_c26_3 : c26_3 = .region 1 r26_3 false := by kernel_rfl
noncomputable def body27 : Code := match Try.f27.body with
  | some c => c
  | none => .skip
noncomputable def c27_1 : Code := match code27 with
  | .seq x _ => x
  | _ => .skip
noncomputable def c27_2 : Code := match code27 with
  | .seq _ x => x
  | _ => .skip
theorem cd_code27 : code27 = .seq c27_1 c27_2 := by kernel_rfl
noncomputable def r27_1 : Array Oper := regAt [0] body27
theorem cd_c27_1 : c27_1 = .region 0 r27_1 false := by kernel_rfl
noncomputable def c27_3 : Code := match c27_2 with
  | .seq x _ => x
  | _ => .skip
theorem cd_c27_2 : c27_2 = .seq c27_3 .ret := by kernel_rfl
noncomputable def r27_3 : Array Oper := regAt [1, 0] body27
theorem cd_c27_3 : c27_3 = .region 1 r27_3 false := by kernel_rfl
noncomputable def body28 : Code := match Try.f28.body with
  | some c => c
  | none => .skip
noncomputable def c28_1 : Code := match code28 with
  | .seq x _ => x
  | _ => .skip
noncomputable def c28_2 : Code := match code28 with
  | .seq _ x => x
  | _ => .skip
theorem cd_code28 : code28 = .seq c28_1 c28_2 := by kernel_rfl
noncomputable def r28_1 : Array Oper := regAt [0] body28
theorem cd_c28_1 : c28_1 = .region 0 r28_1 false := by kernel_rfl
noncomputable def c28_3 : Code := match c28_2 with
  | .seq x _ => x
  | _ => .skip
theorem cd_c28_2 : c28_2 = .seq c28_3 .ret := by kernel_rfl
noncomputable def r28_3 : Array Oper := regAt [1, 0] body28
theorem cd_c28_3 : c28_3 = .region 1 r28_3 false := by kernel_rfl
noncomputable def body29 : Code := match Try.f29.body with
  | some c => c
  | none => .skip
noncomputable def c29_1 : Code := match code29 with
  | .seq x _ => x
  | _ => .skip
noncomputable def c29_2 : Code := match code29 with
  | .seq _ x => x
  | _ => .skip
theorem cd_code29 : code29 = .seq c29_1 c29_2 := by kernel_rfl
noncomputable def r29_1 : Array Oper := regAt [0] body29
theorem cd_c29_1 : c29_1 = .region 0 r29_1 false := by kernel_rfl
noncomputable def c29_3 : Code := match c29_2 with
  | .seq x _ => x
  | _ => .skip
noncomputable def c29_4 : Code := match c29_2 with
  | .seq _ x => x
  | _ => .skip
theorem cd_c29_2 : c29_2 = .seq c29_3 c29_4 := by kernel_rfl
noncomputable def c29_5 : Code := match c29_3 with
  | .seq x _ => x
  | _ => .skip
noncomputable def c29_6 : Code := match c29_3 with
  | .seq _ x => x
  | _ => .skip
theorem cd_c29_3 : c29_3 = .seq c29_5 c29_6 := by kernel_rfl
noncomputable def r29_5 : Array Oper := regAt [1, 0, 0] body29
theorem cd_c29_5 : c29_5 = .region 1 r29_5 false := by kernel_rfl
noncomputable def c29_7 : Code := match c29_6 with
  | .cond _ x _ => x
  | _ => .skip
theorem cd_c29_6 : c29_6 = .cond (.tmp 4) c29_7 .skip := by kernel_rfl
noncomputable def c29_9 : Code := match c29_7 with
  | .seq x _ => x
  | _ => .skip
theorem cd_c29_7 : c29_7 = .seq c29_9 .ret := by kernel_rfl
noncomputable def r29_9 : Array Oper := regAt [1, 0, 1, 1, 0] body29
theorem cd_c29_9 : c29_9 = .region 2 r29_9 false := by kernel_rfl
noncomputable def c29_10 : Code := match c29_4 with
  | .seq x _ => x
  | _ => .skip
theorem cd_c29_4 : c29_4 = .seq c29_10 .ret := by kernel_rfl
noncomputable def r29_10 : Array Oper := regAt [1, 1, 0] body29
theorem cd_c29_10 : c29_10 = .region 3 r29_10 false := by kernel_rfl
noncomputable def body31 : Code := match Try.f31.body with
  | some c => c
  | none => .skip
noncomputable def c31_1 : Code := match code31 with
  | .seq x _ => x
  | _ => .skip
noncomputable def c31_2 : Code := match code31 with
  | .seq _ x => x
  | _ => .skip
theorem cd_code31 : code31 = .seq c31_1 c31_2 := by kernel_rfl
noncomputable def r31_1 : Array Oper := regAt [0] body31
theorem cd_c31_1 : c31_1 = .region 0 r31_1 false := by kernel_rfl
noncomputable def c31_3 : Code := match c31_2 with
  | .seq x _ => x
  | _ => .skip
noncomputable def c31_4 : Code := match c31_2 with
  | .seq _ x => x
  | _ => .skip
theorem cd_c31_2 : c31_2 = .seq c31_3 c31_4 := by kernel_rfl
noncomputable def r31_3 : Array Oper := regAt [1, 0] body31
theorem cd_c31_3 : c31_3 = .region 1 r31_3 false := by kernel_rfl
noncomputable def c31_5 : Code := match c31_4 with
  | .seq x _ => x
  | _ => .skip
noncomputable def c31_6 : Code := match c31_4 with
  | .seq _ x => x
  | _ => .skip
theorem cd_c31_4 : c31_4 = .seq c31_5 c31_6 := by kernel_rfl
noncomputable def c31_7 : Code := match c31_5 with
  | .seq x _ => x
  | _ => .skip
noncomputable def c31_8 : Code := match c31_5 with
  | .seq _ x => x
  | _ => .skip
theorem cd_c31_5 : c31_5 = .seq c31_7 c31_8 := by kernel_rfl
noncomputable def r31_7 : Array Oper := regAt [1, 1, 0, 0] body31
theorem cd_c31_7 : c31_7 = .region 2 r31_7 false := by kernel_rfl
noncomputable def c31_9 : Code := match c31_8 with
  | .cond _ x _ => x
  | _ => .skip
theorem cd_c31_8 : c31_8 = .cond (.tmp 12) c31_9 .skip := by kernel_rfl
noncomputable def r31_9 : Array Oper := regAt [1, 1, 0, 1, 1] body31
theorem cd_c31_9 : c31_9 = .region 3 r31_9 false := by kernel_rfl
noncomputable def r31_6 : Array Oper := regAt [1, 1, 1] body31
theorem cd_c31_6 : c31_6 = .region 4 r31_6 true := by kernel_rfl
noncomputable def body32 : Code := match Try.f32.body with
  | some c => c
  | none => .skip
noncomputable def c32_1 : Code := match code32 with
  | .seq x _ => x
  | _ => .skip
noncomputable def c32_2 : Code := match code32 with
  | .seq _ x => x
  | _ => .skip
theorem cd_code32 : code32 = .seq c32_1 c32_2 := by kernel_rfl
noncomputable def r32_1 : Array Oper := regAt [0] body32
theorem cd_c32_1 : c32_1 = .region 0 r32_1 false := by kernel_rfl
noncomputable def c32_3 : Code := match c32_2 with
  | .seq x _ => x
  | _ => .skip
noncomputable def c32_4 : Code := match c32_2 with
  | .seq _ x => x
  | _ => .skip
theorem cd_c32_2 : c32_2 = .seq c32_3 c32_4 := by kernel_rfl
noncomputable def r32_3 : Array Oper := regAt [1, 0] body32
theorem cd_c32_3 : c32_3 = .region 1 r32_3 false := by kernel_rfl
noncomputable def c32_5 : Code := match c32_4 with
  | .seq x _ => x
  | _ => .skip
noncomputable def c32_6 : Code := match c32_4 with
  | .seq _ x => x
  | _ => .skip
theorem cd_c32_4 : c32_4 = .seq c32_5 c32_6 := by kernel_rfl
noncomputable def c32_7 : Code := match c32_5 with
  | .seq x _ => x
  | _ => .skip
noncomputable def c32_8 : Code := match c32_5 with
  | .seq _ x => x
  | _ => .skip
theorem cd_c32_5 : c32_5 = .seq c32_7 c32_8 := by kernel_rfl
noncomputable def r32_7 : Array Oper := regAt [1, 1, 0, 0] body32
theorem cd_c32_7 : c32_7 = .region 2 r32_7 false := by kernel_rfl
noncomputable def c32_9 : Code := match c32_8 with
  | .block _ x => x
  | _ => .skip
theorem cd_c32_8 : c32_8 = .block 0 c32_9 := by kernel_rfl
noncomputable def c32_10 : Code := match c32_9 with
  | .loop x => x
  | _ => .skip
theorem cd_c32_9 : c32_9 = .loop c32_10 := by kernel_rfl
noncomputable def c32_11 : Code := match c32_10 with
  | .seq x _ => x
  | _ => .skip
noncomputable def c32_12 : Code := match c32_10 with
  | .seq _ x => x
  | _ => .skip
theorem cd_c32_10 : c32_10 = .seq c32_11 c32_12 := by kernel_rfl
noncomputable def c32_13 : Code := match c32_11 with
  | .seq x _ => x
  | _ => .skip
noncomputable def c32_14 : Code := match c32_11 with
  | .seq _ x => x
  | _ => .skip
theorem cd_c32_11 : c32_11 = .seq c32_13 c32_14 := by kernel_rfl
noncomputable def r32_13 : Array Oper := regAt [1, 1, 0, 1, 1, 0, 0, 0] body32
theorem cd_c32_13 : c32_13 = .region 3 r32_13 false := by kernel_rfl
theorem cd_c32_14 : c32_14 = .cond (.tmp 15) .skip (.exit 0) := by kernel_rfl
noncomputable def c32_16 : Code := match c32_12 with
  | .seq x _ => x
  | _ => .skip
noncomputable def c32_17 : Code := match c32_12 with
  | .seq _ x => x
  | _ => .skip
theorem cd_c32_12 : c32_12 = .seq c32_16 c32_17 := by kernel_rfl
noncomputable def c32_18 : Code := match c32_16 with
  | .block _ x => x
  | _ => .skip
theorem cd_c32_16 : c32_16 = .block 1 c32_18 := by kernel_rfl
noncomputable def c32_19 : Code := match c32_18 with
  | .seq x _ => x
  | _ => .skip
noncomputable def c32_20 : Code := match c32_18 with
  | .seq _ x => x
  | _ => .skip
theorem cd_c32_18 : c32_18 = .seq c32_19 c32_20 := by kernel_rfl
noncomputable def r32_19 : Array Oper := regAt [1, 1, 0, 1, 1, 0, 1, 0, 1, 0] body32
theorem cd_c32_19 : c32_19 = .region 5 r32_19 false := by kernel_rfl
noncomputable def c32_21 : Code := match c32_20 with
  | .seq x _ => x
  | _ => .skip
noncomputable def c32_22 : Code := match c32_20 with
  | .seq _ x => x
  | _ => .skip
theorem cd_c32_20 : c32_20 = .seq c32_21 c32_22 := by kernel_rfl
noncomputable def c32_23 : Code := match c32_21 with
  | .seq x _ => x
  | _ => .skip
noncomputable def c32_24 : Code := match c32_21 with
  | .seq _ x => x
  | _ => .skip
theorem cd_c32_21 : c32_21 = .seq c32_23 c32_24 := by kernel_rfl
noncomputable def r32_23 : Array Oper := regAt [1, 1, 0, 1, 1, 0, 1, 0, 1, 1, 0, 0] body32
theorem cd_c32_23 : c32_23 = .region 6 r32_23 false := by kernel_rfl
noncomputable def c32_25 : Code := match c32_24 with
  | .block _ x => x
  | _ => .skip
theorem cd_c32_24 : c32_24 = .block 2 c32_25 := by kernel_rfl
noncomputable def c32_26 : Code := match c32_25 with
  | .loop x => x
  | _ => .skip
theorem cd_c32_25 : c32_25 = .loop c32_26 := by kernel_rfl
noncomputable def c32_27 : Code := match c32_26 with
  | .seq x _ => x
  | _ => .skip
noncomputable def c32_28 : Code := match c32_26 with
  | .seq _ x => x
  | _ => .skip
theorem cd_c32_26 : c32_26 = .seq c32_27 c32_28 := by kernel_rfl
noncomputable def c32_29 : Code := match c32_27 with
  | .seq x _ => x
  | _ => .skip
noncomputable def c32_30 : Code := match c32_27 with
  | .seq _ x => x
  | _ => .skip
theorem cd_c32_27 : c32_27 = .seq c32_29 c32_30 := by kernel_rfl
noncomputable def r32_29 : Array Oper := regAt [1, 1, 0, 1, 1, 0, 1, 0, 1, 1, 0, 1, 1, 0, 0, 0] body32
theorem cd_c32_29 : c32_29 = .region 7 r32_29 false := by kernel_rfl
theorem cd_c32_30 : c32_30 = .cond (.tmp 21) .skip (.exit 2) := by kernel_rfl
noncomputable def c32_32 : Code := match c32_28 with
  | .seq x _ => x
  | _ => .skip
noncomputable def c32_33 : Code := match c32_28 with
  | .seq _ x => x
  | _ => .skip
theorem cd_c32_28 : c32_28 = .seq c32_32 c32_33 := by kernel_rfl
noncomputable def c32_34 : Code := match c32_32 with
  | .block _ x => x
  | _ => .skip
theorem cd_c32_32 : c32_32 = .block 3 c32_34 := by kernel_rfl
noncomputable def r32_34 : Array Oper := regAt [1, 1, 0, 1, 1, 0, 1, 0, 1, 1, 0, 1, 1, 0, 1, 0, 1] body32
theorem cd_c32_34 : c32_34 = .region 9 r32_34 true := by kernel_rfl
noncomputable def r32_33 : Array Oper := regAt [1, 1, 0, 1, 1, 0, 1, 0, 1, 1, 0, 1, 1, 0, 1, 1] body32
theorem cd_c32_33 : c32_33 = .region 8 r32_33 false := by kernel_rfl
noncomputable def c32_35 : Code := match c32_22 with
  | .seq x _ => x
  | _ => .skip
noncomputable def c32_36 : Code := match c32_22 with
  | .seq _ x => x
  | _ => .skip
theorem cd_c32_22 : c32_22 = .seq c32_35 c32_36 := by kernel_rfl
noncomputable def c32_37 : Code := match c32_35 with
  | .seq x _ => x
  | _ => .skip
noncomputable def c32_38 : Code := match c32_35 with
  | .seq _ x => x
  | _ => .skip
theorem cd_c32_35 : c32_35 = .seq c32_37 c32_38 := by kernel_rfl
noncomputable def r32_37 : Array Oper := regAt [1, 1, 0, 1, 1, 0, 1, 0, 1, 1, 1, 0, 0] body32
theorem cd_c32_37 : c32_37 = .region 10 r32_37 false := by kernel_rfl
theorem cd_c32_38 : c32_38 = .cond (.tmp 41) (.exit 1) .skip := by kernel_rfl
noncomputable def c32_40 : Code := match c32_36 with
  | .seq x _ => x
  | _ => .skip
noncomputable def c32_41 : Code := match c32_36 with
  | .seq _ x => x
  | _ => .skip
theorem cd_c32_36 : c32_36 = .seq c32_40 c32_41 := by kernel_rfl
noncomputable def r32_40 : Array Oper := regAt [1, 1, 0, 1, 1, 0, 1, 0, 1, 1, 1, 1, 0] body32
theorem cd_c32_40 : c32_40 = .region 11 r32_40 true := by kernel_rfl
noncomputable def c32_42 : Code := match c32_41 with
  | .cond _ x _ => x
  | _ => .skip
theorem cd_c32_41 : c32_41 = .cond (.tmp 96) c32_42 .skip := by kernel_rfl
noncomputable def r32_42 : Array Oper := regAt [1, 1, 0, 1, 1, 0, 1, 0, 1, 1, 1, 1, 1, 1] body32
theorem cd_c32_42 : c32_42 = .region 12 r32_42 false := by kernel_rfl
noncomputable def r32_17 : Array Oper := regAt [1, 1, 0, 1, 1, 0, 1, 1] body32
theorem cd_c32_17 : c32_17 = .region 4 r32_17 false := by kernel_rfl
noncomputable def c32_44 : Code := match c32_6 with
  | .seq x _ => x
  | _ => .skip
theorem cd_c32_6 : c32_6 = .seq c32_44 .ret := by kernel_rfl
noncomputable def r32_44 : Array Oper := regAt [1, 1, 1, 0] body32
theorem cd_c32_44 : c32_44 = .region 13 r32_44 false := by kernel_rfl
noncomputable def body33 : Code := match Try.f33.body with
  | some c => c
  | none => .skip
noncomputable def c33_1 : Code := match code33 with
  | .seq x _ => x
  | _ => .skip
noncomputable def c33_2 : Code := match code33 with
  | .seq _ x => x
  | _ => .skip
theorem cd_code33 : code33 = .seq c33_1 c33_2 := by kernel_rfl
noncomputable def r33_1 : Array Oper := regAt [0] body33
theorem cd_c33_1 : c33_1 = .region 0 r33_1 true := by kernel_rfl
noncomputable def r33_2 : Array Oper := regAt [1] body33
theorem cd_c33_2 : c33_2 = .region 1 r33_2 true := by kernel_rfl
noncomputable def body34 : Code := match Try.f34.body with
  | some c => c
  | none => .skip
noncomputable def c34_1 : Code := match code34 with
  | .seq x _ => x
  | _ => .skip
noncomputable def c34_2 : Code := match code34 with
  | .seq _ x => x
  | _ => .skip
theorem cd_code34 : code34 = .seq c34_1 c34_2 := by kernel_rfl
noncomputable def r34_1 : Array Oper := regAt [0] body34
theorem cd_c34_1 : c34_1 = .region 0 r34_1 false := by kernel_rfl
noncomputable def c34_3 : Code := match c34_2 with
  | .seq x _ => x
  | _ => .skip
noncomputable def c34_4 : Code := match c34_2 with
  | .seq _ x => x
  | _ => .skip
theorem cd_c34_2 : c34_2 = .seq c34_3 c34_4 := by kernel_rfl
noncomputable def c34_5 : Code := match c34_3 with
  | .seq x _ => x
  | _ => .skip
noncomputable def c34_6 : Code := match c34_3 with
  | .seq _ x => x
  | _ => .skip
theorem cd_c34_3 : c34_3 = .seq c34_5 c34_6 := by kernel_rfl
noncomputable def r34_5 : Array Oper := regAt [1, 0, 0] body34
theorem cd_c34_5 : c34_5 = .region 1 r34_5 false := by kernel_rfl
noncomputable def c34_7 : Code := match c34_6 with
  | .block _ x => x
  | _ => .skip
theorem cd_c34_6 : c34_6 = .block 0 c34_7 := by kernel_rfl
noncomputable def c34_8 : Code := match c34_7 with
  | .loop x => x
  | _ => .skip
theorem cd_c34_7 : c34_7 = .loop c34_8 := by kernel_rfl
noncomputable def c34_9 : Code := match c34_8 with
  | .seq x _ => x
  | _ => .skip
noncomputable def c34_10 : Code := match c34_8 with
  | .seq _ x => x
  | _ => .skip
theorem cd_c34_8 : c34_8 = .seq c34_9 c34_10 := by kernel_rfl
noncomputable def r34_9 : Array Oper := regAt [1, 0, 1, 1, 0, 0] body34
theorem cd_c34_9 : c34_9 = .region 2 r34_9 false := by kernel_rfl
noncomputable def c34_11 : Code := match c34_10 with
  | .seq x _ => x
  | _ => .skip
noncomputable def c34_12 : Code := match c34_10 with
  | .seq _ x => x
  | _ => .skip
theorem cd_c34_10 : c34_10 = .seq c34_11 c34_12 := by kernel_rfl
theorem cd_c34_11 : c34_11 = .cond (.tmp 9) .skip (.exit 0) := by kernel_rfl
noncomputable def c34_14 : Code := match c34_12 with
  | .seq x _ => x
  | _ => .skip
noncomputable def c34_15 : Code := match c34_12 with
  | .seq _ x => x
  | _ => .skip
theorem cd_c34_12 : c34_12 = .seq c34_14 c34_15 := by kernel_rfl
noncomputable def c34_16 : Code := match c34_14 with
  | .block _ x => x
  | _ => .skip
theorem cd_c34_14 : c34_14 = .block 1 c34_16 := by kernel_rfl
noncomputable def c34_17 : Code := match c34_16 with
  | .seq x _ => x
  | _ => .skip
noncomputable def c34_18 : Code := match c34_16 with
  | .seq _ x => x
  | _ => .skip
theorem cd_c34_16 : c34_16 = .seq c34_17 c34_18 := by kernel_rfl
noncomputable def r34_17 : Array Oper := regAt [1, 0, 1, 1, 0, 1, 1, 0, 1, 0] body34
theorem cd_c34_17 : c34_17 = .region 3 r34_17 false := by kernel_rfl
noncomputable def c34_19 : Code := match c34_18 with
  | .seq x _ => x
  | _ => .skip
noncomputable def c34_20 : Code := match c34_18 with
  | .seq _ x => x
  | _ => .skip
theorem cd_c34_18 : c34_18 = .seq c34_19 c34_20 := by kernel_rfl
noncomputable def r34_19 : Array Oper := regAt [1, 0, 1, 1, 0, 1, 1, 0, 1, 1, 0] body34
theorem cd_c34_19 : c34_19 = .region 4 r34_19 false := by kernel_rfl
noncomputable def c34_21 : Code := match c34_20 with
  | .cond _ x _ => x
  | _ => .skip
theorem cd_c34_20 : c34_20 = .cond (.tmp 16) c34_21 .skip := by kernel_rfl
noncomputable def c34_23 : Code := match c34_21 with
  | .seq x _ => x
  | _ => .skip
theorem cd_c34_21 : c34_21 = .seq c34_23 .ret := by kernel_rfl
noncomputable def r34_23 : Array Oper := regAt [1, 0, 1, 1, 0, 1, 1, 0, 1, 1, 1, 1, 0] body34
theorem cd_c34_23 : c34_23 = .region 5 r34_23 false := by kernel_rfl
noncomputable def r34_15 : Array Oper := regAt [1, 0, 1, 1, 0, 1, 1, 1] body34
theorem cd_c34_15 : c34_15 = .region 6 r34_15 false := by kernel_rfl
noncomputable def c34_24 : Code := match c34_4 with
  | .seq x _ => x
  | _ => .skip
theorem cd_c34_4 : c34_4 = .seq c34_24 .ret := by kernel_rfl
noncomputable def r34_24 : Array Oper := regAt [1, 1, 0] body34
theorem cd_c34_24 : c34_24 = .region 7 r34_24 false := by kernel_rfl
noncomputable def body35 : Code := match Try.f35.body with
  | some c => c
  | none => .skip
noncomputable def c35_1 : Code := match code35 with
  | .seq x _ => x
  | _ => .skip
noncomputable def c35_2 : Code := match code35 with
  | .seq _ x => x
  | _ => .skip
theorem cd_code35 : code35 = .seq c35_1 c35_2 := by kernel_rfl
noncomputable def r35_1 : Array Oper := regAt [0] body35
theorem cd_c35_1 : c35_1 = .region 0 r35_1 false := by kernel_rfl
noncomputable def c35_3 : Code := match c35_2 with
  | .seq x _ => x
  | _ => .skip
theorem cd_c35_2 : c35_2 = .seq c35_3 .ret := by kernel_rfl
noncomputable def r35_3 : Array Oper := regAt [1, 0] body35
theorem cd_c35_3 : c35_3 = .region 1 r35_3 false := by kernel_rfl
noncomputable def body36 : Code := match Try.f36.body with
  | some c => c
  | none => .skip
noncomputable def c36_1 : Code := match code36 with
  | .seq x _ => x
  | _ => .skip
noncomputable def c36_2 : Code := match code36 with
  | .seq _ x => x
  | _ => .skip
theorem cd_code36 : code36 = .seq c36_1 c36_2 := by kernel_rfl
noncomputable def r36_1 : Array Oper := regAt [0] body36
theorem cd_c36_1 : c36_1 = .region 0 r36_1 false := by kernel_rfl
noncomputable def c36_3 : Code := match c36_2 with
  | .seq x _ => x
  | _ => .skip
noncomputable def c36_4 : Code := match c36_2 with
  | .seq _ x => x
  | _ => .skip
theorem cd_c36_2 : c36_2 = .seq c36_3 c36_4 := by kernel_rfl
noncomputable def c36_5 : Code := match c36_3 with
  | .seq x _ => x
  | _ => .skip
noncomputable def c36_6 : Code := match c36_3 with
  | .seq _ x => x
  | _ => .skip
theorem cd_c36_3 : c36_3 = .seq c36_5 c36_6 := by kernel_rfl
noncomputable def r36_5 : Array Oper := regAt [1, 0, 0] body36
theorem cd_c36_5 : c36_5 = .region 1 r36_5 false := by kernel_rfl
noncomputable def c36_7 : Code := match c36_6 with
  | .cond _ x _ => x
  | _ => .skip
theorem cd_c36_6 : c36_6 = .cond (.tmp 30) c36_7 .skip := by kernel_rfl
noncomputable def c36_9 : Code := match c36_7 with
  | .seq x _ => x
  | _ => .skip
theorem cd_c36_7 : c36_7 = .seq c36_9 .ret := by kernel_rfl
noncomputable def r36_9 : Array Oper := regAt [1, 0, 1, 1, 0] body36
theorem cd_c36_9 : c36_9 = .region 2 r36_9 false := by kernel_rfl
noncomputable def c36_10 : Code := match c36_4 with
  | .seq x _ => x
  | _ => .skip
theorem cd_c36_4 : c36_4 = .seq c36_10 .ret := by kernel_rfl
noncomputable def r36_10 : Array Oper := regAt [1, 1, 0] body36
theorem cd_c36_10 : c36_10 = .region 3 r36_10 false := by kernel_rfl
noncomputable def body37 : Code := match Try.f37.body with
  | some c => c
  | none => .skip
noncomputable def c37_1 : Code := match code37 with
  | .seq x _ => x
  | _ => .skip
noncomputable def c37_2 : Code := match code37 with
  | .seq _ x => x
  | _ => .skip
theorem cd_code37 : code37 = .seq c37_1 c37_2 := by kernel_rfl
noncomputable def r37_1 : Array Oper := regAt [0] body37
theorem cd_c37_1 : c37_1 = .region 0 r37_1 false := by kernel_rfl
noncomputable def c37_3 : Code := match c37_2 with
  | .seq x _ => x
  | _ => .skip
theorem cd_c37_2 : c37_2 = .seq c37_3 .ret := by kernel_rfl
noncomputable def r37_3 : Array Oper := regAt [1, 0] body37
theorem cd_c37_3 : c37_3 = .region 1 r37_3 false := by kernel_rfl
noncomputable def body39 : Code := match Try.f39.body with
  | some c => c
  | none => .skip
noncomputable def c39_1 : Code := match code39 with
  | .seq x _ => x
  | _ => .skip
noncomputable def c39_2 : Code := match code39 with
  | .seq _ x => x
  | _ => .skip
theorem cd_code39 : code39 = .seq c39_1 c39_2 := by kernel_rfl
noncomputable def r39_1 : Array Oper := regAt [0] body39
theorem cd_c39_1 : c39_1 = .region 0 r39_1 false := by kernel_rfl
noncomputable def c39_3 : Code := match c39_2 with
  | .seq x _ => x
  | _ => .skip
theorem cd_c39_2 : c39_2 = .seq c39_3 .ret := by kernel_rfl
noncomputable def r39_3 : Array Oper := regAt [1, 0] body39
theorem cd_c39_3 : c39_3 = .region 1 r39_3 false := by kernel_rfl
noncomputable def body40 : Code := match Try.f40.body with
  | some c => c
  | none => .skip
noncomputable def c40_1 : Code := match code40 with
  | .seq x _ => x
  | _ => .skip
noncomputable def c40_2 : Code := match code40 with
  | .seq _ x => x
  | _ => .skip
theorem cd_code40 : code40 = .seq c40_1 c40_2 := by kernel_rfl
noncomputable def r40_1 : Array Oper := regAt [0] body40
theorem cd_c40_1 : c40_1 = .region 0 r40_1 false := by kernel_rfl
noncomputable def c40_3 : Code := match c40_2 with
  | .seq x _ => x
  | _ => .skip
theorem cd_c40_2 : c40_2 = .seq c40_3 .ret := by kernel_rfl
noncomputable def r40_3 : Array Oper := regAt [1, 0] body40
theorem cd_c40_3 : c40_3 = .region 1 r40_3 true := by kernel_rfl
noncomputable def body41 : Code := match Try.f41.body with
  | some c => c
  | none => .skip
noncomputable def c41_1 : Code := match code41 with
  | .seq x _ => x
  | _ => .skip
noncomputable def c41_2 : Code := match code41 with
  | .seq _ x => x
  | _ => .skip
theorem cd_code41 : code41 = .seq c41_1 c41_2 := by kernel_rfl
noncomputable def r41_1 : Array Oper := regAt [0] body41
theorem cd_c41_1 : c41_1 = .region 0 r41_1 false := by kernel_rfl
noncomputable def c41_3 : Code := match c41_2 with
  | .seq x _ => x
  | _ => .skip
theorem cd_c41_2 : c41_2 = .seq c41_3 .ret := by kernel_rfl
noncomputable def r41_3 : Array Oper := regAt [1, 0] body41
theorem cd_c41_3 : c41_3 = .region 1 r41_3 true := by kernel_rfl
noncomputable def body43 : Code := match Try.f43.body with
  | some c => c
  | none => .skip
noncomputable def c43_1 : Code := match code43 with
  | .seq x _ => x
  | _ => .skip
noncomputable def c43_2 : Code := match code43 with
  | .seq _ x => x
  | _ => .skip
theorem cd_code43 : code43 = .seq c43_1 c43_2 := by kernel_rfl
noncomputable def r43_1 : Array Oper := regAt [0] body43
theorem cd_c43_1 : c43_1 = .region 0 r43_1 false := by kernel_rfl
noncomputable def c43_3 : Code := match c43_2 with
  | .seq x _ => x
  | _ => .skip
theorem cd_c43_2 : c43_2 = .seq c43_3 .ret := by kernel_rfl
noncomputable def r43_3 : Array Oper := regAt [1, 0] body43
theorem cd_c43_3 : c43_3 = .region 1 r43_3 false := by kernel_rfl
noncomputable def body46 : Code := match Try.f46.body with
  | some c => c
  | none => .skip
noncomputable def c46_1 : Code := match code46 with
  | .seq x _ => x
  | _ => .skip
noncomputable def c46_2 : Code := match code46 with
  | .seq _ x => x
  | _ => .skip
theorem cd_code46 : code46 = .seq c46_1 c46_2 := by kernel_rfl
noncomputable def r46_1 : Array Oper := regAt [0] body46
theorem cd_c46_1 : c46_1 = .region 0 r46_1 false := by kernel_rfl
noncomputable def c46_3 : Code := match c46_2 with
  | .seq x _ => x
  | _ => .skip
noncomputable def c46_4 : Code := match c46_2 with
  | .seq _ x => x
  | _ => .skip
theorem cd_c46_2 : c46_2 = .seq c46_3 c46_4 := by kernel_rfl
noncomputable def r46_3 : Array Oper := regAt [1, 0] body46
theorem cd_c46_3 : c46_3 = .region 1 r46_3 false := by kernel_rfl
noncomputable def c46_5 : Code := match c46_4 with
  | .seq x _ => x
  | _ => .skip
noncomputable def c46_6 : Code := match c46_4 with
  | .seq _ x => x
  | _ => .skip
theorem cd_c46_4 : c46_4 = .seq c46_5 c46_6 := by kernel_rfl
noncomputable def c46_7 : Code := match c46_5 with
  | .seq x _ => x
  | _ => .skip
noncomputable def c46_8 : Code := match c46_5 with
  | .seq _ x => x
  | _ => .skip
theorem cd_c46_5 : c46_5 = .seq c46_7 c46_8 := by kernel_rfl
noncomputable def r46_7 : Array Oper := regAt [1, 1, 0, 0] body46
theorem cd_c46_7 : c46_7 = .region 2 r46_7 false := by kernel_rfl
noncomputable def c46_9 : Code := match c46_8 with
  | .block _ x => x
  | _ => .skip
theorem cd_c46_8 : c46_8 = .block 0 c46_9 := by kernel_rfl
noncomputable def c46_10 : Code := match c46_9 with
  | .loop x => x
  | _ => .skip
theorem cd_c46_9 : c46_9 = .loop c46_10 := by kernel_rfl
noncomputable def c46_11 : Code := match c46_10 with
  | .seq x _ => x
  | _ => .skip
noncomputable def c46_12 : Code := match c46_10 with
  | .seq _ x => x
  | _ => .skip
theorem cd_c46_10 : c46_10 = .seq c46_11 c46_12 := by kernel_rfl
noncomputable def r46_11 : Array Oper := regAt [1, 1, 0, 1, 1, 0, 0] body46
theorem cd_c46_11 : c46_11 = .region 3 r46_11 false := by kernel_rfl
noncomputable def c46_13 : Code := match c46_12 with
  | .seq x _ => x
  | _ => .skip
noncomputable def c46_14 : Code := match c46_12 with
  | .seq _ x => x
  | _ => .skip
theorem cd_c46_12 : c46_12 = .seq c46_13 c46_14 := by kernel_rfl
theorem cd_c46_13 : c46_13 = .cond (.tmp 9) .skip (.exit 0) := by kernel_rfl
noncomputable def c46_16 : Code := match c46_14 with
  | .seq x _ => x
  | _ => .skip
noncomputable def c46_17 : Code := match c46_14 with
  | .seq _ x => x
  | _ => .skip
theorem cd_c46_14 : c46_14 = .seq c46_16 c46_17 := by kernel_rfl
noncomputable def c46_18 : Code := match c46_16 with
  | .block _ x => x
  | _ => .skip
theorem cd_c46_16 : c46_16 = .block 1 c46_18 := by kernel_rfl
noncomputable def c46_19 : Code := match c46_18 with
  | .seq x _ => x
  | _ => .skip
noncomputable def c46_20 : Code := match c46_18 with
  | .seq _ x => x
  | _ => .skip
theorem cd_c46_18 : c46_18 = .seq c46_19 c46_20 := by kernel_rfl
noncomputable def r46_19 : Array Oper := regAt [1, 1, 0, 1, 1, 0, 1, 1, 0, 1, 0] body46
theorem cd_c46_19 : c46_19 = .region 4 r46_19 false := by kernel_rfl
noncomputable def c46_21 : Code := match c46_20 with
  | .seq x _ => x
  | _ => .skip
noncomputable def c46_22 : Code := match c46_20 with
  | .seq _ x => x
  | _ => .skip
theorem cd_c46_20 : c46_20 = .seq c46_21 c46_22 := by kernel_rfl
noncomputable def r46_21 : Array Oper := regAt [1, 1, 0, 1, 1, 0, 1, 1, 0, 1, 1, 0] body46
theorem cd_c46_21 : c46_21 = .region 5 r46_21 false := by kernel_rfl
noncomputable def c46_23 : Code := match c46_22 with
  | .cond _ x _ => x
  | _ => .skip
theorem cd_c46_22 : c46_22 = .cond (.tmp 14) c46_23 .skip := by kernel_rfl
noncomputable def c46_25 : Code := match c46_23 with
  | .seq x _ => x
  | _ => .skip
theorem cd_c46_23 : c46_23 = .seq c46_25 .ret := by kernel_rfl
noncomputable def r46_25 : Array Oper := regAt [1, 1, 0, 1, 1, 0, 1, 1, 0, 1, 1, 1, 1, 0] body46
theorem cd_c46_25 : c46_25 = .region 6 r46_25 false := by kernel_rfl
noncomputable def r46_17 : Array Oper := regAt [1, 1, 0, 1, 1, 0, 1, 1, 1] body46
theorem cd_c46_17 : c46_17 = .region 7 r46_17 false := by kernel_rfl
noncomputable def c46_26 : Code := match c46_6 with
  | .seq x _ => x
  | _ => .skip
theorem cd_c46_6 : c46_6 = .seq c46_26 .ret := by kernel_rfl
noncomputable def r46_26 : Array Oper := regAt [1, 1, 1, 0] body46
theorem cd_c46_26 : c46_26 = .region 8 r46_26 false := by kernel_rfl
noncomputable def body47 : Code := match Try.f47.body with
  | some c => c
  | none => .skip
noncomputable def c47_1 : Code := match code47 with
  | .seq x _ => x
  | _ => .skip
noncomputable def c47_2 : Code := match code47 with
  | .seq _ x => x
  | _ => .skip
theorem cd_code47 : code47 = .seq c47_1 c47_2 := by kernel_rfl
noncomputable def r47_1 : Array Oper := regAt [0] body47
theorem cd_c47_1 : c47_1 = .region 0 r47_1 false := by kernel_rfl
noncomputable def c47_3 : Code := match c47_2 with
  | .seq x _ => x
  | _ => .skip
noncomputable def c47_4 : Code := match c47_2 with
  | .seq _ x => x
  | _ => .skip
theorem cd_c47_2 : c47_2 = .seq c47_3 c47_4 := by kernel_rfl
noncomputable def r47_3 : Array Oper := regAt [1, 0] body47
theorem cd_c47_3 : c47_3 = .region 1 r47_3 false := by kernel_rfl
noncomputable def c47_5 : Code := match c47_4 with
  | .seq x _ => x
  | _ => .skip
noncomputable def c47_6 : Code := match c47_4 with
  | .seq _ x => x
  | _ => .skip
theorem cd_c47_4 : c47_4 = .seq c47_5 c47_6 := by kernel_rfl
noncomputable def r47_5 : Array Oper := regAt [1, 1, 0] body47
theorem cd_c47_5 : c47_5 = .region 2 r47_5 false := by kernel_rfl
noncomputable def c47_7 : Code := match c47_6 with
  | .seq x _ => x
  | _ => .skip
noncomputable def c47_8 : Code := match c47_6 with
  | .seq _ x => x
  | _ => .skip
theorem cd_c47_6 : c47_6 = .seq c47_7 c47_8 := by kernel_rfl
noncomputable def c47_9 : Code := match c47_7 with
  | .seq x _ => x
  | _ => .skip
noncomputable def c47_10 : Code := match c47_7 with
  | .seq _ x => x
  | _ => .skip
theorem cd_c47_7 : c47_7 = .seq c47_9 c47_10 := by kernel_rfl
noncomputable def r47_9 : Array Oper := regAt [1, 1, 1, 0, 0] body47
theorem cd_c47_9 : c47_9 = .region 3 r47_9 false := by kernel_rfl
noncomputable def c47_11 : Code := match c47_10 with
  | .cond _ x _ => x
  | _ => .skip
theorem cd_c47_10 : c47_10 = .cond (.tmp 11) c47_11 .skip := by kernel_rfl
noncomputable def c47_13 : Code := match c47_11 with
  | .seq x _ => x
  | _ => .skip
noncomputable def c47_14 : Code := match c47_11 with
  | .seq _ x => x
  | _ => .skip
theorem cd_c47_11 : c47_11 = .seq c47_13 c47_14 := by kernel_rfl
noncomputable def c47_15 : Code := match c47_13 with
  | .seq x _ => x
  | _ => .skip
noncomputable def c47_16 : Code := match c47_13 with
  | .seq _ x => x
  | _ => .skip
theorem cd_c47_13 : c47_13 = .seq c47_15 c47_16 := by kernel_rfl
noncomputable def r47_15 : Array Oper := regAt [1, 1, 1, 0, 1, 1, 0, 0] body47
theorem cd_c47_15 : c47_15 = .region 4 r47_15 false := by kernel_rfl
noncomputable def c47_17 : Code := match c47_16 with
  | .cond _ x _ => x
  | _ => .skip
theorem cd_c47_16 : c47_16 = .cond (.tmp 12) c47_17 .skip := by kernel_rfl
noncomputable def c47_19 : Code := match c47_17 with
  | .seq x _ => x
  | _ => .skip
theorem cd_c47_17 : c47_17 = .seq c47_19 .ret := by kernel_rfl
noncomputable def r47_19 : Array Oper := regAt [1, 1, 1, 0, 1, 1, 0, 1, 1, 0] body47
theorem cd_c47_19 : c47_19 = .region 5 r47_19 false := by kernel_rfl
noncomputable def c47_20 : Code := match c47_14 with
  | .seq x _ => x
  | _ => .skip
theorem cd_c47_14 : c47_14 = .seq c47_20 .ret := by kernel_rfl
noncomputable def r47_20 : Array Oper := regAt [1, 1, 1, 0, 1, 1, 1, 0] body47
theorem cd_c47_20 : c47_20 = .region 6 r47_20 false := by kernel_rfl
noncomputable def c47_21 : Code := match c47_8 with
  | .seq x _ => x
  | _ => .skip
noncomputable def c47_22 : Code := match c47_8 with
  | .seq _ x => x
  | _ => .skip
theorem cd_c47_8 : c47_8 = .seq c47_21 c47_22 := by kernel_rfl
noncomputable def c47_23 : Code := match c47_21 with
  | .seq x _ => x
  | _ => .skip
noncomputable def c47_24 : Code := match c47_21 with
  | .seq _ x => x
  | _ => .skip
theorem cd_c47_21 : c47_21 = .seq c47_23 c47_24 := by kernel_rfl
noncomputable def r47_23 : Array Oper := regAt [1, 1, 1, 1, 0, 0] body47
theorem cd_c47_23 : c47_23 = .region 7 r47_23 false := by kernel_rfl
noncomputable def c47_25 : Code := match c47_24 with
  | .cond _ x _ => x
  | _ => .skip
theorem cd_c47_24 : c47_24 = .cond (.tmp 13) c47_25 .skip := by kernel_rfl
noncomputable def c47_27 : Code := match c47_25 with
  | .seq x _ => x
  | _ => .skip
theorem cd_c47_25 : c47_25 = .seq c47_27 .ret := by kernel_rfl
noncomputable def r47_27 : Array Oper := regAt [1, 1, 1, 1, 0, 1, 1, 0] body47
theorem cd_c47_27 : c47_27 = .region 8 r47_27 false := by kernel_rfl
noncomputable def c47_28 : Code := match c47_22 with
  | .seq x _ => x
  | _ => .skip
noncomputable def c47_29 : Code := match c47_22 with
  | .seq _ x => x
  | _ => .skip
theorem cd_c47_22 : c47_22 = .seq c47_28 c47_29 := by kernel_rfl
noncomputable def c47_30 : Code := match c47_28 with
  | .seq x _ => x
  | _ => .skip
noncomputable def c47_31 : Code := match c47_28 with
  | .seq _ x => x
  | _ => .skip
theorem cd_c47_28 : c47_28 = .seq c47_30 c47_31 := by kernel_rfl
noncomputable def r47_30 : Array Oper := regAt [1, 1, 1, 1, 1, 0, 0] body47
theorem cd_c47_30 : c47_30 = .region 9 r47_30 false := by kernel_rfl
noncomputable def c47_32 : Code := match c47_31 with
  | .cond _ x _ => x
  | _ => .skip
theorem cd_c47_31 : c47_31 = .cond (.tmp 16) c47_32 .skip := by kernel_rfl
noncomputable def c47_34 : Code := match c47_32 with
  | .seq x _ => x
  | _ => .skip
theorem cd_c47_32 : c47_32 = .seq c47_34 .ret := by kernel_rfl
noncomputable def r47_34 : Array Oper := regAt [1, 1, 1, 1, 1, 0, 1, 1, 0] body47
theorem cd_c47_34 : c47_34 = .region 10 r47_34 false := by kernel_rfl
noncomputable def c47_35 : Code := match c47_29 with
  | .seq x _ => x
  | _ => .skip
noncomputable def c47_36 : Code := match c47_29 with
  | .seq _ x => x
  | _ => .skip
theorem cd_c47_29 : c47_29 = .seq c47_35 c47_36 := by kernel_rfl
noncomputable def c47_37 : Code := match c47_35 with
  | .seq x _ => x
  | _ => .skip
noncomputable def c47_38 : Code := match c47_35 with
  | .seq _ x => x
  | _ => .skip
theorem cd_c47_35 : c47_35 = .seq c47_37 c47_38 := by kernel_rfl
noncomputable def r47_37 : Array Oper := regAt [1, 1, 1, 1, 1, 1, 0, 0] body47
theorem cd_c47_37 : c47_37 = .region 11 r47_37 false := by kernel_rfl
noncomputable def c47_39 : Code := match c47_38 with
  | .cond _ x _ => x
  | _ => .skip
theorem cd_c47_38 : c47_38 = .cond (.tmp 19) c47_39 .skip := by kernel_rfl
noncomputable def c47_41 : Code := match c47_39 with
  | .seq x _ => x
  | _ => .skip
theorem cd_c47_39 : c47_39 = .seq c47_41 .ret := by kernel_rfl
noncomputable def r47_41 : Array Oper := regAt [1, 1, 1, 1, 1, 1, 0, 1, 1, 0] body47
theorem cd_c47_41 : c47_41 = .region 12 r47_41 false := by kernel_rfl
noncomputable def c47_42 : Code := match c47_36 with
  | .seq x _ => x
  | _ => .skip
theorem cd_c47_36 : c47_36 = .seq c47_42 .ret := by kernel_rfl
noncomputable def r47_42 : Array Oper := regAt [1, 1, 1, 1, 1, 1, 1, 0] body47
theorem cd_c47_42 : c47_42 = .region 13 r47_42 false := by kernel_rfl
noncomputable def body50 : Code := match Try.f50.body with
  | some c => c
  | none => .skip
noncomputable def c50_1 : Code := match code50 with
  | .seq x _ => x
  | _ => .skip
noncomputable def c50_2 : Code := match code50 with
  | .seq _ x => x
  | _ => .skip
theorem cd_code50 : code50 = .seq c50_1 c50_2 := by kernel_rfl
noncomputable def r50_1 : Array Oper := regAt [0] body50
theorem cd_c50_1 : c50_1 = .region 0 r50_1 false := by kernel_rfl
noncomputable def c50_3 : Code := match c50_2 with
  | .seq x _ => x
  | _ => .skip
theorem cd_c50_2 : c50_2 = .seq c50_3 .ret := by kernel_rfl
noncomputable def r50_3 : Array Oper := regAt [1, 0] body50
theorem cd_c50_3 : c50_3 = .region 1 r50_3 false := by kernel_rfl
def xs6 := (And.intro (And.intro (And.intro (And.intro (And.intro (And.intro (cdEq cd_code6) (And.intro (cdEq cd_c6_1) (cdEq cd_c6_2))) (And.intro (And.intro (cdEq cd_c6_3) (cdEq cd_c6_4)) (And.intro (cdEq cd_c6_5) (cdEq cd_c6_6)))) (And.intro (And.intro (And.intro (cdEq cd_c6_7) (cdEq cd_c6_8)) (And.intro (cdEq cd_c6_9) (cdEq cd_c6_11))) (And.intro (And.intro (cdEq cd_c6_12) (cdEq cd_c6_13)) (And.intro (cdEq cd_c6_15) (cdEq cd_c6_10))))) (And.intro (And.intro (And.intro (And.intro (cdEq cd_c6_16) (cdEq cd_c6_18)) (And.intro (cdEq cd_c6_19) (cdEq cd_c6_20))) (And.intro (And.intro (cdEq cd_c6_22) (cdEq cd_c6_17)) (And.intro (cdEq cd_c6_23) (cdEq cd_c6_24)))) (And.intro (And.intro (And.intro (cdEq cd_c6_25) (cdEq cd_c6_26)) (And.intro (cdEq cd_c6_27) (cdEq cd_c6_29))) (And.intro (And.intro (cdEq cd_c6_30) (cdEq cd_c6_31)) (And.intro (cdEq cd_c6_32) (cdEq cd_c6_33)))))) (And.intro (And.intro (And.intro (And.intro (cdEq cd_c6_35) (And.intro (cdEq cd_c6_36) (cdEq cd_c6_34))) (And.intro (And.intro (cdEq cd_c6_38) (cdEq cd_c6_40)) (And.intro (cdEq cd_c6_41) (cdEq cd_c6_42)))) (And.intro (And.intro (And.intro (cdEq cd_c6_43) (cdEq cd_c6_45)) (And.intro (cdEq cd_c6_46) (cdEq cd_c6_47))) (And.intro (And.intro (cdEq cd_c6_49) (cdEq cd_c6_44)) (And.intro (cdEq cd_c6_50) (cdEq cd_c6_52))))) (And.intro (And.intro (And.intro (And.intro (cdEq cd_c6_53) (cdEq cd_c6_54)) (And.intro (cdEq cd_c6_51) (cdEq cd_c6_39))) (And.intro (And.intro (cdEq cd_c6_28) (cdEq cd_c6_56)) (And.intro (cdEq cd_c6_57) (cdEq cd_c6_58)))) (And.intro (And.intro (And.intro (cdEq cd_c6_60) (cdEq cd_c6_61)) (And.intro (cdEq cd_c6_62) (cdEq cd_c6_63))) (And.intro (And.intro (cdEq cd_c6_64) (cdEq cd_c6_66)) (And.intro (cdEq cd_c6_67) (cdEq cd_c6_65))))))) (And.intro (And.intro (And.intro (And.intro (And.intro (cdEq cd_c6_69) (And.intro (cdEq cd_c6_71) (cdEq cd_c6_72))) (And.intro (And.intro (cdEq cd_c6_73) (cdEq cd_c6_74)) (And.intro (cdEq cd_c6_76) (cdEq cd_c6_77)))) (And.intro (And.intro (And.intro (cdEq cd_c6_78) (cdEq cd_c6_75)) (And.intro (cdEq cd_c6_80) (cdEq cd_c6_81))) (And.intro (And.intro (cdEq cd_c6_82) (cdEq cd_c6_84)) (And.intro (cdEq cd_c6_85) (cdEq cd_c6_86))))) (And.intro (And.intro (And.intro (And.intro (cdEq cd_c6_88) (cdEq cd_c6_83)) (And.intro (cdEq cd_c6_89) (cdEq cd_c6_91))) (And.intro (And.intro (cdEq cd_c6_92) (cdEq cd_c6_93)) (And.intro (cdEq cd_c6_94) (cdEq cd_c6_95)))) (And.intro (And.intro (And.intro (cdEq cd_c6_97) (cdEq cd_c6_98)) (And.intro (cdEq cd_c6_96) (cdEq cd_c6_100))) (And.intro (And.intro (cdEq cd_c6_102) (cdEq cd_c6_103)) (And.intro (cdEq cd_c6_105) (cdEq cd_c6_106)))))) (And.intro (And.intro (And.intro (And.intro (cdEq cd_c6_107) (And.intro (cdEq cd_c6_109) (cdEq cd_c6_104))) (And.intro (And.intro (cdEq cd_c6_110) (cdEq cd_c6_111)) (And.intro (cdEq cd_c6_101) (cdEq cd_c6_90)))) (And.intro (And.intro (And.intro (cdEq cd_c6_112) (cdEq cd_c6_113)) (And.intro (cdEq cd_c6_114) (cdEq cd_c6_116))) (And.intro (And.intro (cdEq cd_c6_70) (cdEq cd_c6_59)) (And.intro (cdEq cd_c6_117) (cdEq cd_c6_119))))) (And.intro (And.intro (And.intro (And.intro (cdEq cd_c6_120) (cdEq cd_c6_121)) (And.intro (cdEq cd_c6_122) (cdEq cd_c6_123))) (And.intro (And.intro (cdEq cd_c6_125) (cdEq cd_c6_126)) (And.intro (cdEq cd_c6_124) (cdEq cd_c6_128)))) (And.intro (And.intro (And.intro (cdEq cd_c6_130) (cdEq cd_c6_131)) (And.intro (cdEq cd_c6_132) (cdEq cd_c6_133))) (And.intro (And.intro (cdEq cd_c6_135) (cdEq cd_c6_129)) (And.intro (cdEq cd_c6_118) (cdEq cd_c6_136))))))))
def xs8 := (And.intro (And.intro (And.intro (cdEq cd_code8) (And.intro (cdEq cd_c8_1) (cdEq cd_c8_2))) (And.intro (cdEq cd_c8_3) (And.intro (cdEq cd_c8_5) (cdEq cd_c8_6)))) (And.intro (And.intro (cdEq cd_c8_7) (And.intro (cdEq cd_c8_9) (cdEq cd_c8_4))) (And.intro (cdEq cd_c8_10) (And.intro (cdEq cd_c8_11) (cdEq cd_c8_12)))))
def xs11 := (And.intro (And.intro (And.intro (And.intro (And.intro (cdEq cd_code11) (cdEq cd_c11_1)) (And.intro (cdEq cd_c11_2) (And.intro (cdEq cd_c11_3) (cdEq cd_c11_5)))) (And.intro (And.intro (cdEq cd_c11_6) (cdEq cd_c11_7)) (And.intro (cdEq cd_c11_9) (And.intro (cdEq cd_c11_4) (cdEq cd_c11_10))))) (And.intro (And.intro (And.intro (cdEq cd_c11_11) (cdEq cd_c11_12)) (And.intro (cdEq cd_c11_13) (And.intro (cdEq cd_c11_14) (cdEq cd_c11_15)))) (And.intro (And.intro (cdEq cd_c11_16) (cdEq cd_c11_17)) (And.intro (cdEq cd_c11_18) (And.intro (cdEq cd_c11_20) (cdEq cd_c11_21)))))) (And.intro (And.intro (And.intro (And.intro (cdEq cd_c11_22) (cdEq cd_c11_23)) (And.intro (cdEq cd_c11_24) (And.intro (cdEq cd_c11_25) (cdEq cd_c11_26)))) (And.intro (And.intro (cdEq cd_c11_27) (cdEq cd_c11_29)) (And.intro (cdEq cd_c11_31) (And.intro (cdEq cd_c11_32) (cdEq cd_c11_33))))) (And.intro (And.intro (And.intro (cdEq cd_c11_34) (cdEq cd_c11_35)) (And.intro (cdEq cd_c11_36) (And.intro (cdEq cd_c11_37) (cdEq cd_c11_38)))) (And.intro (And.intro (cdEq cd_c11_39) (cdEq cd_c11_40)) (And.intro (cdEq cd_c11_30) (And.intro (cdEq cd_c11_19) (cdEq cd_c11_42)))))))
def xs12 := (And.intro (And.intro (And.intro (And.intro (cdEq cd_code12) (And.intro (cdEq cd_c12_1) (cdEq cd_c12_2))) (And.intro (And.intro (cdEq cd_c12_3) (cdEq cd_c12_4)) (And.intro (cdEq cd_c12_5) (cdEq cd_c12_7)))) (And.intro (And.intro (cdEq cd_c12_8) (And.intro (cdEq cd_c12_9) (cdEq cd_c12_11))) (And.intro (And.intro (cdEq cd_c12_12) (cdEq cd_c12_10)) (And.intro (cdEq cd_c12_14) (cdEq cd_c12_15))))) (And.intro (And.intro (And.intro (cdEq cd_c12_16) (And.intro (cdEq cd_c12_17) (cdEq cd_c12_19))) (And.intro (And.intro (cdEq cd_c12_20) (cdEq cd_c12_18)) (And.intro (cdEq cd_c12_22) (cdEq cd_c12_23)))) (And.intro (And.intro (cdEq cd_c12_24) (And.intro (cdEq cd_c12_25) (cdEq cd_c12_26))) (And.intro (And.intro (cdEq cd_c12_27) (cdEq cd_c12_28)) (And.intro (cdEq cd_c12_6) (cdEq cd_c12_30))))))
def xs13 := (And.intro (And.intro (And.intro (And.intro (cdEq cd_code13) (cdEq cd_c13_1)) (And.intro (cdEq cd_c13_2) (cdEq cd_c13_3))) (And.intro (And.intro (cdEq cd_c13_4) (cdEq cd_c13_5)) (And.intro (cdEq cd_c13_7) (And.intro (cdEq cd_c13_8) (cdEq cd_c13_9))))) (And.intro (And.intro (And.intro (cdEq cd_c13_10) (cdEq cd_c13_11)) (And.intro (cdEq cd_c13_13) (And.intro (cdEq cd_c13_14) (cdEq cd_c13_12)))) (And.intro (And.intro (cdEq cd_c13_16) (cdEq cd_c13_18)) (And.intro (cdEq cd_c13_17) (And.intro (cdEq cd_c13_6) (cdEq cd_c13_19))))))
def xs14 := (And.intro (And.intro (And.intro (And.intro (And.intro (cdEq cd_code14) (cdEq cd_c14_1)) (And.intro (cdEq cd_c14_2) (cdEq cd_c14_3))) (And.intro (And.intro (cdEq cd_c14_5) (cdEq cd_c14_6)) (And.intro (cdEq cd_c14_7) (cdEq cd_c14_8)))) (And.intro (And.intro (And.intro (cdEq cd_c14_11) (cdEq cd_c14_9)) (And.intro (cdEq cd_c14_12) (cdEq cd_c14_13))) (And.intro (And.intro (cdEq cd_c14_14) (cdEq cd_c14_16)) (And.intro (cdEq cd_c14_4) (cdEq cd_c14_17))))) (And.intro (And.intro (And.intro (And.intro (cdEq cd_c14_18) (cdEq cd_c14_19)) (And.intro (cdEq cd_c14_21) (cdEq cd_c14_22))) (And.intro (And.intro (cdEq cd_c14_23) (cdEq cd_c14_24)) (And.intro (cdEq cd_c14_25) (cdEq cd_c14_27)))) (And.intro (And.intro (And.intro (cdEq cd_c14_29) (cdEq cd_c14_30)) (And.intro (cdEq cd_c14_31) (cdEq cd_c14_33))) (And.intro (And.intro (cdEq cd_c14_28) (cdEq cd_c14_20)) (And.intro (cdEq cd_c14_34) (And.intro (cdEq cd_c14_35) (cdEq cd_c14_36)))))))
def xs15 := (And.intro (And.intro (And.intro (And.intro (And.intro (cdEq cd_code15) (cdEq cd_c15_1)) (And.intro (cdEq cd_c15_2) (cdEq cd_c15_3))) (And.intro (And.intro (cdEq cd_c15_5) (cdEq cd_c15_6)) (And.intro (cdEq cd_c15_7) (And.intro (cdEq cd_c15_9) (cdEq cd_c15_4))))) (And.intro (And.intro (And.intro (cdEq cd_c15_10) (cdEq cd_c15_12)) (And.intro (cdEq cd_c15_13) (cdEq cd_c15_14))) (And.intro (And.intro (cdEq cd_c15_15) (cdEq cd_c15_16)) (And.intro (cdEq cd_c15_18) (And.intro (cdEq cd_c15_19) (cdEq cd_c15_17)))))) (And.intro (And.intro (And.intro (And.intro (cdEq cd_c15_21) (cdEq cd_c15_23)) (And.intro (cdEq cd_c15_24) (cdEq cd_c15_25))) (And.intro (And.intro (cdEq cd_c15_26) (cdEq cd_c15_28)) (And.intro (cdEq cd_c15_30) (And.intro (cdEq cd_c15_31) (cdEq cd_c15_32))))) (And.intro (And.intro (And.intro (cdEq cd_c15_34) (cdEq cd_c15_29)) (And.intro (cdEq cd_c15_35) (And.intro (cdEq cd_c15_22) (cdEq cd_c15_11)))) (And.intro (And.intro (cdEq cd_c15_36) (cdEq cd_c15_37)) (And.intro (cdEq cd_c15_38) (And.intro (cdEq cd_c15_39) (cdEq cd_c15_40)))))))
def xs16 := (And.intro (And.intro (And.intro (cdEq cd_code16) (cdEq cd_c16_1)) (And.intro (cdEq cd_c16_2) (And.intro (cdEq cd_c16_3) (cdEq cd_c16_5)))) (And.intro (And.intro (cdEq cd_c16_6) (cdEq cd_c16_7)) (And.intro (cdEq cd_c16_9) (And.intro (cdEq cd_c16_4) (cdEq cd_c16_10)))))
def xs18 := (And.intro (And.intro (And.intro (cdEq cd_code18) (cdEq cd_c18_1)) (And.intro (cdEq cd_c18_2) (And.intro (cdEq cd_c18_3) (cdEq cd_c18_5)))) (And.intro (And.intro (cdEq cd_c18_6) (cdEq cd_c18_7)) (And.intro (cdEq cd_c18_9) (And.intro (cdEq cd_c18_4) (cdEq cd_c18_10)))))
def xs19 := (And.intro (And.intro (And.intro (And.intro (cdEq cd_code19) (cdEq cd_c19_1)) (And.intro (cdEq cd_c19_2) (cdEq cd_c19_3))) (And.intro (And.intro (cdEq cd_c19_4) (cdEq cd_c19_5)) (And.intro (cdEq cd_c19_7) (And.intro (cdEq cd_c19_8) (cdEq cd_c19_9))))) (And.intro (And.intro (And.intro (cdEq cd_c19_10) (cdEq cd_c19_11)) (And.intro (cdEq cd_c19_13) (And.intro (cdEq cd_c19_14) (cdEq cd_c19_12)))) (And.intro (And.intro (cdEq cd_c19_16) (cdEq cd_c19_18)) (And.intro (cdEq cd_c19_17) (And.intro (cdEq cd_c19_6) (cdEq cd_c19_19))))))
def xs21 := (And.intro (And.intro (cdEq cd_code21) (cdEq cd_c21_1)) (And.intro (cdEq cd_c21_2) (cdEq cd_c21_3)))
def xs22 := (And.intro (And.intro (And.intro (And.intro (cdEq cd_code22) (cdEq cd_c22_1)) (And.intro (cdEq cd_c22_2) (cdEq cd_c22_3))) (And.intro (And.intro (cdEq cd_c22_5) (cdEq cd_c22_6)) (And.intro (cdEq cd_c22_7) (cdEq cd_c22_9)))) (And.intro (And.intro (And.intro (cdEq cd_c22_4) (cdEq cd_c22_10)) (And.intro (cdEq cd_c22_11) (cdEq cd_c22_12))) (And.intro (And.intro (cdEq cd_c22_14) (cdEq cd_c22_15)) (And.intro (cdEq cd_c22_16) (And.intro (cdEq cd_c22_13) (cdEq cd_c22_18))))))
def xs23 := (And.intro (And.intro (cdEq cd_code23) (And.intro (cdEq cd_c23_1) (cdEq cd_c23_2))) (And.intro (cdEq cd_c23_3) (And.intro (cdEq cd_c23_4) (cdEq cd_c23_5))))
def xs24 := (And.intro (And.intro (And.intro (And.intro (cdEq cd_code24) (cdEq cd_c24_1)) (And.intro (cdEq cd_c24_2) (And.intro (cdEq cd_c24_3) (cdEq cd_c24_4)))) (And.intro (And.intro (cdEq cd_c24_5) (And.intro (cdEq cd_c24_7) (cdEq cd_c24_8))) (And.intro (cdEq cd_c24_9) (And.intro (cdEq cd_c24_10) (cdEq cd_c24_11))))) (And.intro (And.intro (And.intro (cdEq cd_c24_13) (cdEq cd_c24_14)) (And.intro (cdEq cd_c24_12) (And.intro (cdEq cd_c24_16) (cdEq cd_c24_18)))) (And.intro (And.intro (cdEq cd_c24_19) (And.intro (cdEq cd_c24_20) (cdEq cd_c24_21))) (And.intro (cdEq cd_c24_17) (And.intro (cdEq cd_c24_6) (cdEq cd_c24_23))))))
def xs25 := (And.intro (And.intro (And.intro (cdEq cd_code25) (And.intro (cdEq cd_c25_1) (cdEq cd_c25_2))) (And.intro (cdEq cd_c25_3) (And.intro (cdEq cd_c25_5) (cdEq cd_c25_6)))) (And.intro (And.intro (cdEq cd_c25_7) (And.intro (cdEq cd_c25_8) (cdEq cd_c25_9))) (And.intro (cdEq cd_c25_11) (And.intro (cdEq cd_c25_4) (cdEq cd_c25_12)))))
def xs26 := (And.intro (And.intro (cdEq cd_code26) (cdEq cd_c26_1)) (And.intro (cdEq cd_c26_2) (cdEq cd_c26_3)))
def xs27 := (And.intro (And.intro (cdEq cd_code27) (cdEq cd_c27_1)) (And.intro (cdEq cd_c27_2) (cdEq cd_c27_3)))
def xs28 := (And.intro (And.intro (cdEq cd_code28) (cdEq cd_c28_1)) (And.intro (cdEq cd_c28_2) (cdEq cd_c28_3)))
def xs29 := (And.intro (And.intro (And.intro (cdEq cd_code29) (cdEq cd_c29_1)) (And.intro (cdEq cd_c29_2) (And.intro (cdEq cd_c29_3) (cdEq cd_c29_5)))) (And.intro (And.intro (cdEq cd_c29_6) (cdEq cd_c29_7)) (And.intro (cdEq cd_c29_9) (And.intro (cdEq cd_c29_4) (cdEq cd_c29_10)))))
def xs31 := (And.intro (And.intro (And.intro (cdEq cd_code31) (cdEq cd_c31_1)) (And.intro (cdEq cd_c31_2) (And.intro (cdEq cd_c31_3) (cdEq cd_c31_4)))) (And.intro (And.intro (cdEq cd_c31_5) (cdEq cd_c31_7)) (And.intro (cdEq cd_c31_8) (And.intro (cdEq cd_c31_9) (cdEq cd_c31_6)))))
def xs32 := (And.intro (And.intro (And.intro (And.intro (And.intro (cdEq cd_code32) (cdEq cd_c32_1)) (And.intro (cdEq cd_c32_2) (And.intro (cdEq cd_c32_3) (cdEq cd_c32_4)))) (And.intro (And.intro (cdEq cd_c32_5) (cdEq cd_c32_7)) (And.intro (cdEq cd_c32_8) (And.intro (cdEq cd_c32_9) (cdEq cd_c32_10))))) (And.intro (And.intro (And.intro (cdEq cd_c32_11) (cdEq cd_c32_13)) (And.intro (cdEq cd_c32_14) (And.intro (cdEq cd_c32_12) (cdEq cd_c32_16)))) (And.intro (And.intro (cdEq cd_c32_18) (cdEq cd_c32_19)) (And.intro (cdEq cd_c32_20) (And.intro (cdEq cd_c32_21) (cdEq cd_c32_23)))))) (And.intro (And.intro (And.intro (And.intro (cdEq cd_c32_24) (cdEq cd_c32_25)) (And.intro (cdEq cd_c32_26) (And.intro (cdEq cd_c32_27) (cdEq cd_c32_29)))) (And.intro (And.intro (cdEq cd_c32_30) (cdEq cd_c32_28)) (And.intro (cdEq cd_c32_32) (And.intro (cdEq cd_c32_34) (cdEq cd_c32_33))))) (And.intro (And.intro (And.intro (cdEq cd_c32_22) (cdEq cd_c32_35)) (And.intro (cdEq cd_c32_37) (And.intro (cdEq cd_c32_38) (cdEq cd_c32_36)))) (And.intro (And.intro (cdEq cd_c32_40) (And.intro (cdEq cd_c32_41) (cdEq cd_c32_42))) (And.intro (cdEq cd_c32_17) (And.intro (cdEq cd_c32_6) (cdEq cd_c32_44)))))))
def xs33 := (And.intro (cdEq cd_code33) (And.intro (cdEq cd_c33_1) (cdEq cd_c33_2)))
def xs34 := (And.intro (And.intro (And.intro (And.intro (cdEq cd_code34) (cdEq cd_c34_1)) (And.intro (cdEq cd_c34_2) (And.intro (cdEq cd_c34_3) (cdEq cd_c34_5)))) (And.intro (And.intro (cdEq cd_c34_6) (And.intro (cdEq cd_c34_7) (cdEq cd_c34_8))) (And.intro (cdEq cd_c34_9) (And.intro (cdEq cd_c34_10) (cdEq cd_c34_11))))) (And.intro (And.intro (And.intro (cdEq cd_c34_12) (And.intro (cdEq cd_c34_14) (cdEq cd_c34_16))) (And.intro (cdEq cd_c34_17) (And.intro (cdEq cd_c34_18) (cdEq cd_c34_19)))) (And.intro (And.intro (cdEq cd_c34_20) (And.intro (cdEq cd_c34_21) (cdEq cd_c34_23))) (And.intro (cdEq cd_c34_15) (And.intro (cdEq cd_c34_4) (cdEq cd_c34_24))))))
def xs35 := (And.intro (And.intro (cdEq cd_code35) (cdEq cd_c35_1)) (And.intro (cdEq cd_c35_2) (cdEq cd_c35_3)))
def xs36 := (And.intro (And.intro (And.intro (cdEq cd_code36) (cdEq cd_c36_1)) (And.intro (cdEq cd_c36_2) (And.intro (cdEq cd_c36_3) (cdEq cd_c36_5)))) (And.intro (And.intro (cdEq cd_c36_6) (cdEq cd_c36_7)) (And.intro (cdEq cd_c36_9) (And.intro (cdEq cd_c36_4) (cdEq cd_c36_10)))))
def xs37 := (And.intro (And.intro (cdEq cd_code37) (cdEq cd_c37_1)) (And.intro (cdEq cd_c37_2) (cdEq cd_c37_3)))
def xs39 := (And.intro (And.intro (cdEq cd_code39) (cdEq cd_c39_1)) (And.intro (cdEq cd_c39_2) (cdEq cd_c39_3)))
def xs40 := (And.intro (And.intro (cdEq cd_code40) (cdEq cd_c40_1)) (And.intro (cdEq cd_c40_2) (cdEq cd_c40_3)))
def xs41 := (And.intro (And.intro (cdEq cd_code41) (cdEq cd_c41_1)) (And.intro (cdEq cd_c41_2) (cdEq cd_c41_3)))
def xs43 := (And.intro (And.intro (cdEq cd_code43) (cdEq cd_c43_1)) (And.intro (cdEq cd_c43_2) (cdEq cd_c43_3)))
def xs46 := (And.intro (And.intro (And.intro (And.intro (cdEq cd_code46) (And.intro (cdEq cd_c46_1) (cdEq cd_c46_2))) (And.intro (cdEq cd_c46_3) (And.intro (cdEq cd_c46_4) (cdEq cd_c46_5)))) (And.intro (And.intro (cdEq cd_c46_7) (And.intro (cdEq cd_c46_8) (cdEq cd_c46_9))) (And.intro (cdEq cd_c46_10) (And.intro (cdEq cd_c46_11) (cdEq cd_c46_12))))) (And.intro (And.intro (And.intro (cdEq cd_c46_13) (And.intro (cdEq cd_c46_14) (cdEq cd_c46_16))) (And.intro (cdEq cd_c46_18) (And.intro (cdEq cd_c46_19) (cdEq cd_c46_20)))) (And.intro (And.intro (cdEq cd_c46_21) (And.intro (cdEq cd_c46_22) (cdEq cd_c46_23))) (And.intro (And.intro (cdEq cd_c46_25) (cdEq cd_c46_17)) (And.intro (cdEq cd_c46_6) (cdEq cd_c46_26))))))
def xs47 := (And.intro (And.intro (And.intro (And.intro (And.intro (cdEq cd_code47) (cdEq cd_c47_1)) (And.intro (cdEq cd_c47_2) (cdEq cd_c47_3))) (And.intro (And.intro (cdEq cd_c47_4) (cdEq cd_c47_5)) (And.intro (cdEq cd_c47_6) (And.intro (cdEq cd_c47_7) (cdEq cd_c47_9))))) (And.intro (And.intro (And.intro (cdEq cd_c47_10) (cdEq cd_c47_11)) (And.intro (cdEq cd_c47_13) (And.intro (cdEq cd_c47_15) (cdEq cd_c47_16)))) (And.intro (And.intro (cdEq cd_c47_17) (cdEq cd_c47_19)) (And.intro (cdEq cd_c47_14) (And.intro (cdEq cd_c47_20) (cdEq cd_c47_8)))))) (And.intro (And.intro (And.intro (And.intro (cdEq cd_c47_21) (cdEq cd_c47_23)) (And.intro (cdEq cd_c47_24) (cdEq cd_c47_25))) (And.intro (And.intro (cdEq cd_c47_27) (cdEq cd_c47_22)) (And.intro (cdEq cd_c47_28) (And.intro (cdEq cd_c47_30) (cdEq cd_c47_31))))) (And.intro (And.intro (And.intro (cdEq cd_c47_32) (cdEq cd_c47_34)) (And.intro (cdEq cd_c47_29) (And.intro (cdEq cd_c47_35) (cdEq cd_c47_37)))) (And.intro (And.intro (cdEq cd_c47_38) (cdEq cd_c47_39)) (And.intro (cdEq cd_c47_41) (And.intro (cdEq cd_c47_36) (cdEq cd_c47_42)))))))
def xs50 := (And.intro (And.intro (cdEq cd_code50) (cdEq cd_c50_1)) (And.intro (cdEq cd_c50_2) (cdEq cd_c50_3)))
end Go.Proofs.Ytfnnmkjlokjkhaa
