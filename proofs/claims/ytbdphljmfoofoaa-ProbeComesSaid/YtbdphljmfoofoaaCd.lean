/-
  The code of this seat's functions in named pieces: by our program cds.py.
-/
import Derived.Test.YtbdphljmfoofoaaFn
import Derived.Test.YtbdphljmfoofoaaSm
import Derived.KernelRfl
open Go Go.SY
namespace Go.Proofs.Ytbdphljmfoofoaa
noncomputable def body6 : Code := match Try.f6.body with
  | some c => c
  | none => .skip
noncomputable def c6_1 : Code := match code6 with
  | .seq x _ => x
  | _ => .skip
noncomputable def c6_2 : Code := match code6 with
  | .seq _ x => x
  | _ => .skip
theorem cd_code6 : code6 = .seq c6_1 c6_2 := by kernel_rfl
noncomputable def r6_1 : Array Oper := regAt [0] body6
theorem cd_c6_1 : c6_1 = .region 0 r6_1 false := by kernel_rfl
noncomputable def c6_3 : Code := match c6_2 with
  | .seq x _ => x
  | _ => .skip
noncomputable def c6_4 : Code := match c6_2 with
  | .seq _ x => x
  | _ => .skip
theorem cd_c6_2 : c6_2 = .seq c6_3 c6_4 := by kernel_rfl
noncomputable def r6_3 : Array Oper := regAt [1, 0] body6
theorem cd_c6_3 : c6_3 = .region 1 r6_3 false := by kernel_rfl
noncomputable def c6_5 : Code := match c6_4 with
  | .seq x _ => x
  | _ => .skip
noncomputable def c6_6 : Code := match c6_4 with
  | .seq _ x => x
  | _ => .skip
theorem cd_c6_4 : c6_4 = .seq c6_5 c6_6 := by kernel_rfl
noncomputable def r6_5 : Array Oper := regAt [1, 1, 0] body6
theorem cd_c6_5 : c6_5 = .region 2 r6_5 false := by kernel_rfl
noncomputable def c6_7 : Code := match c6_6 with
  | .seq x _ => x
  | _ => .skip
noncomputable def c6_8 : Code := match c6_6 with
  | .seq _ x => x
  | _ => .skip
theorem cd_c6_6 : c6_6 = .seq c6_7 c6_8 := by kernel_rfl
noncomputable def r6_7 : Array Oper := regAt [1, 1, 1, 0] body6
theorem cd_c6_7 : c6_7 = .region 3 r6_7 false := by kernel_rfl
noncomputable def c6_9 : Code := match c6_8 with
  | .seq x _ => x
  | _ => .skip
noncomputable def c6_10 : Code := match c6_8 with
  | .seq _ x => x
  | _ => .skip
theorem cd_c6_8 : c6_8 = .seq c6_9 c6_10 := by kernel_rfl
noncomputable def c6_11 : Code := match c6_9 with
  | .seq x _ => x
  | _ => .skip
noncomputable def c6_12 : Code := match c6_9 with
  | .seq _ x => x
  | _ => .skip
theorem cd_c6_9 : c6_9 = .seq c6_11 c6_12 := by kernel_rfl
noncomputable def r6_11 : Array Oper := regAt [1, 1, 1, 1, 0, 0] body6
theorem cd_c6_11 : c6_11 = .region 4 r6_11 false := by kernel_rfl
noncomputable def c6_13 : Code := match c6_12 with
  | .cond _ x _ => x
  | _ => .skip
theorem cd_c6_12 : c6_12 = .cond (.tmp 32) c6_13 .skip := by kernel_rfl
noncomputable def c6_15 : Code := match c6_13 with
  | .seq x _ => x
  | _ => .skip
theorem cd_c6_13 : c6_13 = .seq c6_15 .ret := by kernel_rfl
noncomputable def r6_15 : Array Oper := regAt [1, 1, 1, 1, 0, 1, 1, 0] body6
theorem cd_c6_15 : c6_15 = .region 5 r6_15 false := by kernel_rfl
noncomputable def c6_16 : Code := match c6_10 with
  | .seq x _ => x
  | _ => .skip
noncomputable def c6_17 : Code := match c6_10 with
  | .seq _ x => x
  | _ => .skip
theorem cd_c6_10 : c6_10 = .seq c6_16 c6_17 := by kernel_rfl
noncomputable def r6_16 : Array Oper := regAt [1, 1, 1, 1, 1, 0] body6
theorem cd_c6_16 : c6_16 = .region 6 r6_16 false := by kernel_rfl
noncomputable def c6_18 : Code := match c6_17 with
  | .seq x _ => x
  | _ => .skip
noncomputable def c6_19 : Code := match c6_17 with
  | .seq _ x => x
  | _ => .skip
theorem cd_c6_17 : c6_17 = .seq c6_18 c6_19 := by kernel_rfl
noncomputable def c6_20 : Code := match c6_18 with
  | .seq x _ => x
  | _ => .skip
noncomputable def c6_21 : Code := match c6_18 with
  | .seq _ x => x
  | _ => .skip
theorem cd_c6_18 : c6_18 = .seq c6_20 c6_21 := by kernel_rfl
noncomputable def r6_20 : Array Oper := regAt [1, 1, 1, 1, 1, 1, 0, 0] body6
theorem cd_c6_20 : c6_20 = .region 7 r6_20 false := by kernel_rfl
noncomputable def c6_22 : Code := match c6_21 with
  | .cond _ x _ => x
  | _ => .skip
theorem cd_c6_21 : c6_21 = .cond (.tmp 46) c6_22 .skip := by kernel_rfl
noncomputable def c6_24 : Code := match c6_22 with
  | .seq x _ => x
  | _ => .skip
theorem cd_c6_22 : c6_22 = .seq c6_24 .ret := by kernel_rfl
noncomputable def r6_24 : Array Oper := regAt [1, 1, 1, 1, 1, 1, 0, 1, 1, 0] body6
theorem cd_c6_24 : c6_24 = .region 8 r6_24 false := by kernel_rfl
noncomputable def c6_25 : Code := match c6_19 with
  | .seq x _ => x
  | _ => .skip
noncomputable def c6_26 : Code := match c6_19 with
  | .seq _ x => x
  | _ => .skip
theorem cd_c6_19 : c6_19 = .seq c6_25 c6_26 := by kernel_rfl
noncomputable def r6_25 : Array Oper := regAt [1, 1, 1, 1, 1, 1, 1, 0] body6
theorem cd_c6_25 : c6_25 = .region 9 r6_25 false := by kernel_rfl
noncomputable def c6_27 : Code := match c6_26 with
  | .seq x _ => x
  | _ => .skip
noncomputable def c6_28 : Code := match c6_26 with
  | .seq _ x => x
  | _ => .skip
theorem cd_c6_26 : c6_26 = .seq c6_27 c6_28 := by kernel_rfl
noncomputable def c6_29 : Code := match c6_27 with
  | .seq x _ => x
  | _ => .skip
noncomputable def c6_30 : Code := match c6_27 with
  | .seq _ x => x
  | _ => .skip
theorem cd_c6_27 : c6_27 = .seq c6_29 c6_30 := by kernel_rfl
noncomputable def r6_29 : Array Oper := regAt [1, 1, 1, 1, 1, 1, 1, 1, 0, 0] body6
theorem cd_c6_29 : c6_29 = .region 10 r6_29 false := by kernel_rfl
noncomputable def c6_31 : Code := match c6_30 with
  | .block _ x => x
  | _ => .skip
theorem cd_c6_30 : c6_30 = .block 0 c6_31 := by kernel_rfl
noncomputable def c6_32 : Code := match c6_31 with
  | .loop x => x
  | _ => .skip
theorem cd_c6_31 : c6_31 = .loop c6_32 := by kernel_rfl
noncomputable def c6_33 : Code := match c6_32 with
  | .seq x _ => x
  | _ => .skip
noncomputable def c6_34 : Code := match c6_32 with
  | .seq _ x => x
  | _ => .skip
theorem cd_c6_32 : c6_32 = .seq c6_33 c6_34 := by kernel_rfl
noncomputable def c6_35 : Code := match c6_33 with
  | .seq x _ => x
  | _ => .skip
noncomputable def c6_36 : Code := match c6_33 with
  | .seq _ x => x
  | _ => .skip
theorem cd_c6_33 : c6_33 = .seq c6_35 c6_36 := by kernel_rfl
noncomputable def r6_35 : Array Oper := regAt [1, 1, 1, 1, 1, 1, 1, 1, 0, 1, 1, 0, 0, 0] body6
theorem cd_c6_35 : c6_35 = .region 11 r6_35 false := by kernel_rfl
theorem cd_c6_36 : c6_36 = .cond (.tmp 53) .skip (.exit 0) := by kernel_rfl
noncomputable def c6_38 : Code := match c6_34 with
  | .seq x _ => x
  | _ => .skip
noncomputable def c6_39 : Code := match c6_34 with
  | .seq _ x => x
  | _ => .skip
theorem cd_c6_34 : c6_34 = .seq c6_38 c6_39 := by kernel_rfl
noncomputable def c6_40 : Code := match c6_38 with
  | .block _ x => x
  | _ => .skip
theorem cd_c6_38 : c6_38 = .block 1 c6_40 := by kernel_rfl
noncomputable def r6_40 : Array Oper := regAt [1, 1, 1, 1, 1, 1, 1, 1, 0, 1, 1, 0, 1, 0, 1] body6
theorem cd_c6_40 : c6_40 = .region 13 r6_40 false := by kernel_rfl
noncomputable def r6_39 : Array Oper := regAt [1, 1, 1, 1, 1, 1, 1, 1, 0, 1, 1, 0, 1, 1] body6
theorem cd_c6_39 : c6_39 = .region 12 r6_39 false := by kernel_rfl
noncomputable def c6_41 : Code := match c6_28 with
  | .seq x _ => x
  | _ => .skip
noncomputable def c6_42 : Code := match c6_28 with
  | .seq _ x => x
  | _ => .skip
theorem cd_c6_28 : c6_28 = .seq c6_41 c6_42 := by kernel_rfl
noncomputable def r6_41 : Array Oper := regAt [1, 1, 1, 1, 1, 1, 1, 1, 1, 0] body6
theorem cd_c6_41 : c6_41 = .region 14 r6_41 false := by kernel_rfl
noncomputable def c6_43 : Code := match c6_42 with
  | .seq x _ => x
  | _ => .skip
noncomputable def c6_44 : Code := match c6_42 with
  | .seq _ x => x
  | _ => .skip
theorem cd_c6_42 : c6_42 = .seq c6_43 c6_44 := by kernel_rfl
noncomputable def c6_45 : Code := match c6_43 with
  | .seq x _ => x
  | _ => .skip
noncomputable def c6_46 : Code := match c6_43 with
  | .seq _ x => x
  | _ => .skip
theorem cd_c6_43 : c6_43 = .seq c6_45 c6_46 := by kernel_rfl
noncomputable def r6_45 : Array Oper := regAt [1, 1, 1, 1, 1, 1, 1, 1, 1, 1, 0, 0] body6
theorem cd_c6_45 : c6_45 = .region 15 r6_45 false := by kernel_rfl
noncomputable def c6_47 : Code := match c6_46 with
  | .cond _ x _ => x
  | _ => .skip
theorem cd_c6_46 : c6_46 = .cond (.tmp 70) c6_47 .skip := by kernel_rfl
noncomputable def c6_49 : Code := match c6_47 with
  | .seq x _ => x
  | _ => .skip
theorem cd_c6_47 : c6_47 = .seq c6_49 .ret := by kernel_rfl
noncomputable def r6_49 : Array Oper := regAt [1, 1, 1, 1, 1, 1, 1, 1, 1, 1, 0, 1, 1, 0] body6
theorem cd_c6_49 : c6_49 = .region 16 r6_49 false := by kernel_rfl
noncomputable def c6_50 : Code := match c6_44 with
  | .seq x _ => x
  | _ => .skip
noncomputable def c6_51 : Code := match c6_44 with
  | .seq _ x => x
  | _ => .skip
theorem cd_c6_44 : c6_44 = .seq c6_50 c6_51 := by kernel_rfl
noncomputable def r6_50 : Array Oper := regAt [1, 1, 1, 1, 1, 1, 1, 1, 1, 1, 1, 0] body6
theorem cd_c6_50 : c6_50 = .region 17 r6_50 false := by kernel_rfl
noncomputable def c6_52 : Code := match c6_51 with
  | .seq x _ => x
  | _ => .skip
noncomputable def c6_53 : Code := match c6_51 with
  | .seq _ x => x
  | _ => .skip
theorem cd_c6_51 : c6_51 = .seq c6_52 c6_53 := by kernel_rfl
noncomputable def r6_52 : Array Oper := regAt [1, 1, 1, 1, 1, 1, 1, 1, 1, 1, 1, 1, 0] body6
theorem cd_c6_52 : c6_52 = .region 18 r6_52 false := by kernel_rfl
noncomputable def c6_54 : Code := match c6_53 with
  | .seq x _ => x
  | _ => .skip
noncomputable def c6_55 : Code := match c6_53 with
  | .seq _ x => x
  | _ => .skip
theorem cd_c6_53 : c6_53 = .seq c6_54 c6_55 := by kernel_rfl
noncomputable def c6_56 : Code := match c6_54 with
  | .seq x _ => x
  | _ => .skip
noncomputable def c6_57 : Code := match c6_54 with
  | .seq _ x => x
  | _ => .skip
theorem cd_c6_54 : c6_54 = .seq c6_56 c6_57 := by kernel_rfl
noncomputable def r6_56 : Array Oper := regAt [1, 1, 1, 1, 1, 1, 1, 1, 1, 1, 1, 1, 1, 0, 0] body6
theorem cd_c6_56 : c6_56 = .region 19 r6_56 false := by kernel_rfl
noncomputable def c6_58 : Code := match c6_57 with
  | .block _ x => x
  | _ => .skip
theorem cd_c6_57 : c6_57 = .block 2 c6_58 := by kernel_rfl
noncomputable def c6_59 : Code := match c6_58 with
  | .loop x => x
  | _ => .skip
theorem cd_c6_58 : c6_58 = .loop c6_59 := by kernel_rfl
noncomputable def c6_60 : Code := match c6_59 with
  | .seq x _ => x
  | _ => .skip
noncomputable def c6_61 : Code := match c6_59 with
  | .seq _ x => x
  | _ => .skip
theorem cd_c6_59 : c6_59 = .seq c6_60 c6_61 := by kernel_rfl
noncomputable def c6_62 : Code := match c6_60 with
  | .seq x _ => x
  | _ => .skip
noncomputable def c6_63 : Code := match c6_60 with
  | .seq _ x => x
  | _ => .skip
theorem cd_c6_60 : c6_60 = .seq c6_62 c6_63 := by kernel_rfl
noncomputable def r6_62 : Array Oper := regAt [1, 1, 1, 1, 1, 1, 1, 1, 1, 1, 1, 1, 1, 0, 1, 1, 0, 0, 0] body6
theorem cd_c6_62 : c6_62 = .region 20 r6_62 false := by kernel_rfl
theorem cd_c6_63 : c6_63 = .cond (.tmp 76) .skip (.exit 2) := by kernel_rfl
noncomputable def c6_65 : Code := match c6_61 with
  | .seq x _ => x
  | _ => .skip
noncomputable def c6_66 : Code := match c6_61 with
  | .seq _ x => x
  | _ => .skip
theorem cd_c6_61 : c6_61 = .seq c6_65 c6_66 := by kernel_rfl
noncomputable def c6_67 : Code := match c6_65 with
  | .block _ x => x
  | _ => .skip
theorem cd_c6_65 : c6_65 = .block 3 c6_67 := by kernel_rfl
noncomputable def c6_68 : Code := match c6_67 with
  | .seq x _ => x
  | _ => .skip
noncomputable def c6_69 : Code := match c6_67 with
  | .seq _ x => x
  | _ => .skip
theorem cd_c6_67 : c6_67 = .seq c6_68 c6_69 := by kernel_rfl
noncomputable def c6_70 : Code := match c6_68 with
  | .seq x _ => x
  | _ => .skip
noncomputable def c6_71 : Code := match c6_68 with
  | .seq _ x => x
  | _ => .skip
theorem cd_c6_68 : c6_68 = .seq c6_70 c6_71 := by kernel_rfl
noncomputable def r6_70 : Array Oper := regAt [1, 1, 1, 1, 1, 1, 1, 1, 1, 1, 1, 1, 1, 0, 1, 1, 0, 1, 0, 1, 0, 0] body6
theorem cd_c6_70 : c6_70 = .region 22 r6_70 false := by kernel_rfl
noncomputable def c6_72 : Code := match c6_71 with
  | .cond _ x _ => x
  | _ => .skip
theorem cd_c6_71 : c6_71 = .cond (.tmp 83) c6_72 .skip := by kernel_rfl
noncomputable def c6_74 : Code := match c6_72 with
  | .seq x _ => x
  | _ => .skip
theorem cd_c6_72 : c6_72 = .seq c6_74 (.exit 3) := by kernel_rfl
noncomputable def c6_75 : Code := match c6_74 with
  | .seq x _ => x
  | _ => .skip
noncomputable def c6_76 : Code := match c6_74 with
  | .seq _ x => x
  | _ => .skip
theorem cd_c6_74 : c6_74 = .seq c6_75 c6_76 := by kernel_rfl
noncomputable def r6_75 : Array Oper := regAt [1, 1, 1, 1, 1, 1, 1, 1, 1, 1, 1, 1, 1, 0, 1, 1, 0, 1, 0, 1, 0, 1, 1, 0, 0] body6
theorem cd_c6_75 : c6_75 = .region 23 r6_75 false := by kernel_rfl
noncomputable def c6_77 : Code := match c6_76 with
  | .cond _ x _ => x
  | _ => .skip
theorem cd_c6_76 : c6_76 = .cond (.tmp 86) c6_77 .skip := by kernel_rfl
noncomputable def c6_79 : Code := match c6_77 with
  | .seq x _ => x
  | _ => .skip
theorem cd_c6_77 : c6_77 = .seq c6_79 .ret := by kernel_rfl
noncomputable def r6_79 : Array Oper := regAt [1, 1, 1, 1, 1, 1, 1, 1, 1, 1, 1, 1, 1, 0, 1, 1, 0, 1, 0, 1, 0, 1, 1, 0, 1, 1, 0] body6
theorem cd_c6_79 : c6_79 = .region 24 r6_79 false := by kernel_rfl
noncomputable def c6_80 : Code := match c6_69 with
  | .seq x _ => x
  | _ => .skip
noncomputable def c6_81 : Code := match c6_69 with
  | .seq _ x => x
  | _ => .skip
theorem cd_c6_69 : c6_69 = .seq c6_80 c6_81 := by kernel_rfl
noncomputable def c6_82 : Code := match c6_80 with
  | .seq x _ => x
  | _ => .skip
noncomputable def c6_83 : Code := match c6_80 with
  | .seq _ x => x
  | _ => .skip
theorem cd_c6_80 : c6_80 = .seq c6_82 c6_83 := by kernel_rfl
noncomputable def r6_82 : Array Oper := regAt [1, 1, 1, 1, 1, 1, 1, 1, 1, 1, 1, 1, 1, 0, 1, 1, 0, 1, 0, 1, 1, 0, 0] body6
theorem cd_c6_82 : c6_82 = .region 25 r6_82 true := by kernel_rfl
noncomputable def c6_84 : Code := match c6_83 with
  | .cond _ x _ => x
  | _ => .skip
theorem cd_c6_83 : c6_83 = .cond (.tmp 100) c6_84 .skip := by kernel_rfl
noncomputable def c6_86 : Code := match c6_84 with
  | .seq x _ => x
  | _ => .skip
theorem cd_c6_84 : c6_84 = .seq c6_86 .ret := by kernel_rfl
noncomputable def r6_86 : Array Oper := regAt [1, 1, 1, 1, 1, 1, 1, 1, 1, 1, 1, 1, 1, 0, 1, 1, 0, 1, 0, 1, 1, 0, 1, 1, 0] body6
theorem cd_c6_86 : c6_86 = .region 26 r6_86 false := by kernel_rfl
noncomputable def r6_81 : Array Oper := regAt [1, 1, 1, 1, 1, 1, 1, 1, 1, 1, 1, 1, 1, 0, 1, 1, 0, 1, 0, 1, 1, 1] body6
theorem cd_c6_81 : c6_81 = .region 27 r6_81 false := by kernel_rfl
noncomputable def r6_66 : Array Oper := regAt [1, 1, 1, 1, 1, 1, 1, 1, 1, 1, 1, 1, 1, 0, 1, 1, 0, 1, 1] body6
theorem cd_c6_66 : c6_66 = .region 21 r6_66 false := by kernel_rfl
noncomputable def c6_87 : Code := match c6_55 with
  | .seq x _ => x
  | _ => .skip
noncomputable def c6_88 : Code := match c6_55 with
  | .seq _ x => x
  | _ => .skip
theorem cd_c6_55 : c6_55 = .seq c6_87 c6_88 := by kernel_rfl
noncomputable def r6_87 : Array Oper := regAt [1, 1, 1, 1, 1, 1, 1, 1, 1, 1, 1, 1, 1, 1, 0] body6
theorem cd_c6_87 : c6_87 = .region 28 r6_87 false := by kernel_rfl
noncomputable def c6_89 : Code := match c6_88 with
  | .seq x _ => x
  | _ => .skip
noncomputable def c6_90 : Code := match c6_88 with
  | .seq _ x => x
  | _ => .skip
theorem cd_c6_88 : c6_88 = .seq c6_89 c6_90 := by kernel_rfl
noncomputable def c6_91 : Code := match c6_89 with
  | .seq x _ => x
  | _ => .skip
noncomputable def c6_92 : Code := match c6_89 with
  | .seq _ x => x
  | _ => .skip
theorem cd_c6_89 : c6_89 = .seq c6_91 c6_92 := by kernel_rfl
noncomputable def r6_91 : Array Oper := regAt [1, 1, 1, 1, 1, 1, 1, 1, 1, 1, 1, 1, 1, 1, 1, 0, 0] body6
theorem cd_c6_91 : c6_91 = .region 29 r6_91 false := by kernel_rfl
noncomputable def c6_93 : Code := match c6_92 with
  | .cond _ x _ => x
  | _ => .skip
theorem cd_c6_92 : c6_92 = .cond (.tmp 123) c6_93 .skip := by kernel_rfl
noncomputable def c6_95 : Code := match c6_93 with
  | .seq x _ => x
  | _ => .skip
theorem cd_c6_93 : c6_93 = .seq c6_95 .ret := by kernel_rfl
noncomputable def r6_95 : Array Oper := regAt [1, 1, 1, 1, 1, 1, 1, 1, 1, 1, 1, 1, 1, 1, 1, 0, 1, 1, 0] body6
theorem cd_c6_95 : c6_95 = .region 30 r6_95 false := by kernel_rfl
noncomputable def c6_96 : Code := match c6_90 with
  | .seq x _ => x
  | _ => .skip
noncomputable def c6_97 : Code := match c6_90 with
  | .seq _ x => x
  | _ => .skip
theorem cd_c6_90 : c6_90 = .seq c6_96 c6_97 := by kernel_rfl
noncomputable def r6_96 : Array Oper := regAt [1, 1, 1, 1, 1, 1, 1, 1, 1, 1, 1, 1, 1, 1, 1, 1, 0] body6
theorem cd_c6_96 : c6_96 = .region 31 r6_96 false := by kernel_rfl
noncomputable def c6_98 : Code := match c6_97 with
  | .seq x _ => x
  | _ => .skip
noncomputable def c6_99 : Code := match c6_97 with
  | .seq _ x => x
  | _ => .skip
theorem cd_c6_97 : c6_97 = .seq c6_98 c6_99 := by kernel_rfl
noncomputable def c6_100 : Code := match c6_98 with
  | .seq x _ => x
  | _ => .skip
noncomputable def c6_101 : Code := match c6_98 with
  | .seq _ x => x
  | _ => .skip
theorem cd_c6_98 : c6_98 = .seq c6_100 c6_101 := by kernel_rfl
noncomputable def r6_100 : Array Oper := regAt [1, 1, 1, 1, 1, 1, 1, 1, 1, 1, 1, 1, 1, 1, 1, 1, 1, 0, 0] body6
theorem cd_c6_100 : c6_100 = .region 32 r6_100 false := by kernel_rfl
noncomputable def c6_102 : Code := match c6_101 with
  | .block _ x => x
  | _ => .skip
theorem cd_c6_101 : c6_101 = .block 4 c6_102 := by kernel_rfl
noncomputable def c6_103 : Code := match c6_102 with
  | .loop x => x
  | _ => .skip
theorem cd_c6_102 : c6_102 = .loop c6_103 := by kernel_rfl
noncomputable def c6_104 : Code := match c6_103 with
  | .seq x _ => x
  | _ => .skip
noncomputable def c6_105 : Code := match c6_103 with
  | .seq _ x => x
  | _ => .skip
theorem cd_c6_103 : c6_103 = .seq c6_104 c6_105 := by kernel_rfl
noncomputable def c6_106 : Code := match c6_104 with
  | .seq x _ => x
  | _ => .skip
noncomputable def c6_107 : Code := match c6_104 with
  | .seq _ x => x
  | _ => .skip
theorem cd_c6_104 : c6_104 = .seq c6_106 c6_107 := by kernel_rfl
noncomputable def r6_106 : Array Oper := regAt [1, 1, 1, 1, 1, 1, 1, 1, 1, 1, 1, 1, 1, 1, 1, 1, 1, 0, 1, 1, 0, 0, 0] body6
theorem cd_c6_106 : c6_106 = .region 33 r6_106 false := by kernel_rfl
theorem cd_c6_107 : c6_107 = .cond (.tmp 128) .skip (.exit 4) := by kernel_rfl
noncomputable def c6_109 : Code := match c6_105 with
  | .seq x _ => x
  | _ => .skip
noncomputable def c6_110 : Code := match c6_105 with
  | .seq _ x => x
  | _ => .skip
theorem cd_c6_105 : c6_105 = .seq c6_109 c6_110 := by kernel_rfl
noncomputable def c6_111 : Code := match c6_109 with
  | .block _ x => x
  | _ => .skip
theorem cd_c6_109 : c6_109 = .block 5 c6_111 := by kernel_rfl
noncomputable def c6_112 : Code := match c6_111 with
  | .seq x _ => x
  | _ => .skip
noncomputable def c6_113 : Code := match c6_111 with
  | .seq _ x => x
  | _ => .skip
theorem cd_c6_111 : c6_111 = .seq c6_112 c6_113 := by kernel_rfl
noncomputable def r6_112 : Array Oper := regAt [1, 1, 1, 1, 1, 1, 1, 1, 1, 1, 1, 1, 1, 1, 1, 1, 1, 0, 1, 1, 0, 1, 0, 1, 0] body6
theorem cd_c6_112 : c6_112 = .region 35 r6_112 false := by kernel_rfl
noncomputable def c6_114 : Code := match c6_113 with
  | .seq x _ => x
  | _ => .skip
noncomputable def c6_115 : Code := match c6_113 with
  | .seq _ x => x
  | _ => .skip
theorem cd_c6_113 : c6_113 = .seq c6_114 c6_115 := by kernel_rfl
noncomputable def c6_116 : Code := match c6_114 with
  | .seq x _ => x
  | _ => .skip
noncomputable def c6_117 : Code := match c6_114 with
  | .seq _ x => x
  | _ => .skip
theorem cd_c6_114 : c6_114 = .seq c6_116 c6_117 := by kernel_rfl
noncomputable def r6_116 : Array Oper := regAt [1, 1, 1, 1, 1, 1, 1, 1, 1, 1, 1, 1, 1, 1, 1, 1, 1, 0, 1, 1, 0, 1, 0, 1, 1, 0, 0] body6
theorem cd_c6_116 : c6_116 = .region 36 r6_116 false := by kernel_rfl
noncomputable def c6_118 : Code := match c6_117 with
  | .cond _ x _ => x
  | _ => .skip
theorem cd_c6_117 : c6_117 = .cond (.tmp 140) c6_118 .skip := by kernel_rfl
noncomputable def c6_120 : Code := match c6_118 with
  | .seq x _ => x
  | _ => .skip
theorem cd_c6_118 : c6_118 = .seq c6_120 .ret := by kernel_rfl
noncomputable def r6_120 : Array Oper := regAt [1, 1, 1, 1, 1, 1, 1, 1, 1, 1, 1, 1, 1, 1, 1, 1, 1, 0, 1, 1, 0, 1, 0, 1, 1, 0, 1, 1, 0] body6
theorem cd_c6_120 : c6_120 = .region 37 r6_120 false := by kernel_rfl
noncomputable def r6_115 : Array Oper := regAt [1, 1, 1, 1, 1, 1, 1, 1, 1, 1, 1, 1, 1, 1, 1, 1, 1, 0, 1, 1, 0, 1, 0, 1, 1, 1] body6
theorem cd_c6_115 : c6_115 = .region 38 r6_115 false := by kernel_rfl
noncomputable def r6_110 : Array Oper := regAt [1, 1, 1, 1, 1, 1, 1, 1, 1, 1, 1, 1, 1, 1, 1, 1, 1, 0, 1, 1, 0, 1, 1] body6
theorem cd_c6_110 : c6_110 = .region 34 r6_110 false := by kernel_rfl
noncomputable def c6_121 : Code := match c6_99 with
  | .seq x _ => x
  | _ => .skip
theorem cd_c6_99 : c6_99 = .seq c6_121 .ret := by kernel_rfl
noncomputable def r6_121 : Array Oper := regAt [1, 1, 1, 1, 1, 1, 1, 1, 1, 1, 1, 1, 1, 1, 1, 1, 1, 1, 0] body6
theorem cd_c6_121 : c6_121 = .region 39 r6_121 false := by kernel_rfl
noncomputable def body8 : Code := match Try.f8.body with
  | some c => c
  | none => .skip
noncomputable def c8_1 : Code := match code8 with
  | .seq x _ => x
  | _ => .skip
noncomputable def c8_2 : Code := match code8 with
  | .seq _ x => x
  | _ => .skip
theorem cd_code8 : code8 = .seq c8_1 c8_2 := by kernel_rfl
noncomputable def r8_1 : Array Oper := regAt [0] body8
theorem cd_c8_1 : c8_1 = .region 0 r8_1 false := by kernel_rfl
noncomputable def c8_3 : Code := match c8_2 with
  | .seq x _ => x
  | _ => .skip
noncomputable def c8_4 : Code := match c8_2 with
  | .seq _ x => x
  | _ => .skip
theorem cd_c8_2 : c8_2 = .seq c8_3 c8_4 := by kernel_rfl
noncomputable def c8_5 : Code := match c8_3 with
  | .seq x _ => x
  | _ => .skip
noncomputable def c8_6 : Code := match c8_3 with
  | .seq _ x => x
  | _ => .skip
theorem cd_c8_3 : c8_3 = .seq c8_5 c8_6 := by kernel_rfl
noncomputable def r8_5 : Array Oper := regAt [1, 0, 0] body8
theorem cd_c8_5 : c8_5 = .region 1 r8_5 false := by kernel_rfl
noncomputable def c8_7 : Code := match c8_6 with
  | .cond _ x _ => x
  | _ => .skip
theorem cd_c8_6 : c8_6 = .cond (.tmp 14) c8_7 .skip := by kernel_rfl
noncomputable def c8_9 : Code := match c8_7 with
  | .seq x _ => x
  | _ => .skip
theorem cd_c8_7 : c8_7 = .seq c8_9 .ret := by kernel_rfl
noncomputable def r8_9 : Array Oper := regAt [1, 0, 1, 1, 0] body8
theorem cd_c8_9 : c8_9 = .region 2 r8_9 false := by kernel_rfl
noncomputable def c8_10 : Code := match c8_4 with
  | .seq x _ => x
  | _ => .skip
noncomputable def c8_11 : Code := match c8_4 with
  | .seq _ x => x
  | _ => .skip
theorem cd_c8_4 : c8_4 = .seq c8_10 c8_11 := by kernel_rfl
noncomputable def c8_12 : Code := match c8_10 with
  | .seq x _ => x
  | _ => .skip
noncomputable def c8_13 : Code := match c8_10 with
  | .seq _ x => x
  | _ => .skip
theorem cd_c8_10 : c8_10 = .seq c8_12 c8_13 := by kernel_rfl
noncomputable def r8_12 : Array Oper := regAt [1, 1, 0, 0] body8
theorem cd_c8_12 : c8_12 = .region 3 r8_12 true := by kernel_rfl
noncomputable def c8_14 : Code := match c8_13 with
  | .cond _ x _ => x
  | _ => .skip
theorem cd_c8_13 : c8_13 = .cond (.tmp 24) c8_14 .skip := by kernel_rfl
noncomputable def r8_14 : Array Oper := regAt [1, 1, 0, 1, 1] body8
theorem cd_c8_14 : c8_14 = .region 4 r8_14 false := by kernel_rfl
noncomputable def c8_16 : Code := match c8_11 with
  | .seq x _ => x
  | _ => .skip
noncomputable def c8_17 : Code := match c8_11 with
  | .seq _ x => x
  | _ => .skip
theorem cd_c8_11 : c8_11 = .seq c8_16 c8_17 := by kernel_rfl
noncomputable def r8_16 : Array Oper := regAt [1, 1, 1, 0] body8
theorem cd_c8_16 : c8_16 = .region 5 r8_16 false := by kernel_rfl
noncomputable def c8_18 : Code := match c8_17 with
  | .seq x _ => x
  | _ => .skip
theorem cd_c8_17 : c8_17 = .seq c8_18 .ret := by kernel_rfl
noncomputable def r8_18 : Array Oper := regAt [1, 1, 1, 1, 0] body8
theorem cd_c8_18 : c8_18 = .region 6 r8_18 true := by kernel_rfl
noncomputable def body9 : Code := match Try.f9.body with
  | some c => c
  | none => .skip
noncomputable def c9_1 : Code := match code9 with
  | .seq x _ => x
  | _ => .skip
noncomputable def c9_2 : Code := match code9 with
  | .seq _ x => x
  | _ => .skip
theorem cd_code9 : code9 = .seq c9_1 c9_2 := by kernel_rfl
noncomputable def r9_1 : Array Oper := regAt [0] body9
theorem cd_c9_1 : c9_1 = .region 0 r9_1 false := by kernel_rfl
noncomputable def c9_3 : Code := match c9_2 with
  | .seq x _ => x
  | _ => .skip
noncomputable def c9_4 : Code := match c9_2 with
  | .seq _ x => x
  | _ => .skip
theorem cd_c9_2 : c9_2 = .seq c9_3 c9_4 := by kernel_rfl
noncomputable def c9_5 : Code := match c9_3 with
  | .block _ x => x
  | _ => .skip
theorem cd_c9_3 : c9_3 = .block 0 c9_5 := by kernel_rfl
noncomputable def c9_6 : Code := match c9_5 with
  | .seq x _ => x
  | _ => .skip
noncomputable def c9_7 : Code := match c9_5 with
  | .seq _ x => x
  | _ => .skip
theorem cd_c9_5 : c9_5 = .seq c9_6 c9_7 := by kernel_rfl
noncomputable def r9_6 : Array Oper := regAt [1, 0, 1, 0] body9
theorem cd_c9_6 : c9_6 = .region 1 r9_6 false := by kernel_rfl
noncomputable def c9_8 : Code := match c9_7 with
  | .cond _ x _ => x
  | _ => .skip
noncomputable def c9_9 : Code := match c9_7 with
  | .cond _ _ x => x
  | _ => .skip
theorem cd_c9_7 : c9_7 = .cond (.tmp 8) c9_8 c9_9 := by kernel_rfl
noncomputable def c9_11 : Code := match c9_8 with
  | .seq x _ => x
  | _ => .skip
theorem cd_c9_8 : c9_8 = .seq c9_11 .ret := by kernel_rfl
noncomputable def r9_11 : Array Oper := regAt [1, 0, 1, 1, 1, 0] body9
theorem cd_c9_11 : c9_11 = .region 2 r9_11 false := by kernel_rfl
noncomputable def c9_12 : Code := match c9_9 with
  | .seq x _ => x
  | _ => .skip
noncomputable def c9_13 : Code := match c9_9 with
  | .seq _ x => x
  | _ => .skip
theorem cd_c9_9 : c9_9 = .seq c9_12 c9_13 := by kernel_rfl
noncomputable def r9_12 : Array Oper := regAt [1, 0, 1, 1, 2, 0] body9
theorem cd_c9_12 : c9_12 = .region 3 r9_12 false := by kernel_rfl
noncomputable def c9_14 : Code := match c9_13 with
  | .cond _ x _ => x
  | _ => .skip
noncomputable def c9_15 : Code := match c9_13 with
  | .cond _ _ x => x
  | _ => .skip
theorem cd_c9_13 : c9_13 = .cond (.tmp 11) c9_14 c9_15 := by kernel_rfl
noncomputable def c9_17 : Code := match c9_14 with
  | .seq x _ => x
  | _ => .skip
theorem cd_c9_14 : c9_14 = .seq c9_17 .ret := by kernel_rfl
noncomputable def r9_17 : Array Oper := regAt [1, 0, 1, 1, 2, 1, 1, 0] body9
theorem cd_c9_17 : c9_17 = .region 4 r9_17 false := by kernel_rfl
noncomputable def c9_18 : Code := match c9_15 with
  | .seq x _ => x
  | _ => .skip
noncomputable def c9_19 : Code := match c9_15 with
  | .seq _ x => x
  | _ => .skip
theorem cd_c9_15 : c9_15 = .seq c9_18 c9_19 := by kernel_rfl
noncomputable def r9_18 : Array Oper := regAt [1, 0, 1, 1, 2, 1, 2, 0] body9
theorem cd_c9_18 : c9_18 = .region 5 r9_18 false := by kernel_rfl
noncomputable def c9_20 : Code := match c9_19 with
  | .cond _ x _ => x
  | _ => .skip
theorem cd_c9_19 : c9_19 = .cond (.tmp 15) c9_20 .skip := by kernel_rfl
noncomputable def c9_22 : Code := match c9_20 with
  | .seq x _ => x
  | _ => .skip
theorem cd_c9_20 : c9_20 = .seq c9_22 .ret := by kernel_rfl
noncomputable def r9_22 : Array Oper := regAt [1, 0, 1, 1, 2, 1, 2, 1, 1, 0] body9
theorem cd_c9_22 : c9_22 = .region 6 r9_22 false := by kernel_rfl
noncomputable def c9_23 : Code := match c9_4 with
  | .seq x _ => x
  | _ => .skip
noncomputable def c9_24 : Code := match c9_4 with
  | .seq _ x => x
  | _ => .skip
theorem cd_c9_4 : c9_4 = .seq c9_23 c9_24 := by kernel_rfl
noncomputable def r9_23 : Array Oper := regAt [1, 1, 0] body9
theorem cd_c9_23 : c9_23 = .region 7 r9_23 true := by kernel_rfl
noncomputable def c9_25 : Code := match c9_24 with
  | .seq x _ => x
  | _ => .skip
noncomputable def c9_26 : Code := match c9_24 with
  | .seq _ x => x
  | _ => .skip
theorem cd_c9_24 : c9_24 = .seq c9_25 c9_26 := by kernel_rfl
noncomputable def r9_25 : Array Oper := regAt [1, 1, 1, 0] body9
theorem cd_c9_25 : c9_25 = .region 8 r9_25 false := by kernel_rfl
noncomputable def c9_27 : Code := match c9_26 with
  | .seq x _ => x
  | _ => .skip
theorem cd_c9_26 : c9_26 = .seq c9_27 .ret := by kernel_rfl
noncomputable def r9_27 : Array Oper := regAt [1, 1, 1, 1, 0] body9
theorem cd_c9_27 : c9_27 = .region 9 r9_27 false := by kernel_rfl
noncomputable def body10 : Code := match Try.f10.body with
  | some c => c
  | none => .skip
noncomputable def c10_1 : Code := match code10 with
  | .seq x _ => x
  | _ => .skip
noncomputable def c10_2 : Code := match code10 with
  | .seq _ x => x
  | _ => .skip
theorem cd_code10 : code10 = .seq c10_1 c10_2 := by kernel_rfl
noncomputable def r10_1 : Array Oper := regAt [0] body10
theorem cd_c10_1 : c10_1 = .region 0 r10_1 false := by kernel_rfl
noncomputable def c10_3 : Code := match c10_2 with
  | .seq x _ => x
  | _ => .skip
noncomputable def c10_4 : Code := match c10_2 with
  | .seq _ x => x
  | _ => .skip
theorem cd_c10_2 : c10_2 = .seq c10_3 c10_4 := by kernel_rfl
noncomputable def c10_5 : Code := match c10_3 with
  | .seq x _ => x
  | _ => .skip
noncomputable def c10_6 : Code := match c10_3 with
  | .seq _ x => x
  | _ => .skip
theorem cd_c10_3 : c10_3 = .seq c10_5 c10_6 := by kernel_rfl
noncomputable def r10_5 : Array Oper := regAt [1, 0, 0] body10
theorem cd_c10_5 : c10_5 = .region 1 r10_5 false := by kernel_rfl
noncomputable def c10_7 : Code := match c10_6 with
  | .cond _ x _ => x
  | _ => .skip
theorem cd_c10_6 : c10_6 = .cond (.tmp 7) c10_7 .skip := by kernel_rfl
noncomputable def c10_9 : Code := match c10_7 with
  | .seq x _ => x
  | _ => .skip
theorem cd_c10_7 : c10_7 = .seq c10_9 .ret := by kernel_rfl
noncomputable def r10_9 : Array Oper := regAt [1, 0, 1, 1, 0] body10
theorem cd_c10_9 : c10_9 = .region 2 r10_9 false := by kernel_rfl
noncomputable def c10_10 : Code := match c10_4 with
  | .seq x _ => x
  | _ => .skip
noncomputable def c10_11 : Code := match c10_4 with
  | .seq _ x => x
  | _ => .skip
theorem cd_c10_4 : c10_4 = .seq c10_10 c10_11 := by kernel_rfl
noncomputable def r10_10 : Array Oper := regAt [1, 1, 0] body10
theorem cd_c10_10 : c10_10 = .region 3 r10_10 false := by kernel_rfl
noncomputable def c10_12 : Code := match c10_11 with
  | .seq x _ => x
  | _ => .skip
noncomputable def c10_13 : Code := match c10_11 with
  | .seq _ x => x
  | _ => .skip
theorem cd_c10_11 : c10_11 = .seq c10_12 c10_13 := by kernel_rfl
noncomputable def c10_14 : Code := match c10_12 with
  | .seq x _ => x
  | _ => .skip
noncomputable def c10_15 : Code := match c10_12 with
  | .seq _ x => x
  | _ => .skip
theorem cd_c10_12 : c10_12 = .seq c10_14 c10_15 := by kernel_rfl
noncomputable def r10_14 : Array Oper := regAt [1, 1, 1, 0, 0] body10
theorem cd_c10_14 : c10_14 = .region 4 r10_14 false := by kernel_rfl
noncomputable def c10_16 : Code := match c10_15 with
  | .cond _ x _ => x
  | _ => .skip
theorem cd_c10_15 : c10_15 = .cond (.tmp 15) c10_16 .skip := by kernel_rfl
noncomputable def c10_18 : Code := match c10_16 with
  | .seq x _ => x
  | _ => .skip
theorem cd_c10_16 : c10_16 = .seq c10_18 .ret := by kernel_rfl
noncomputable def r10_18 : Array Oper := regAt [1, 1, 1, 0, 1, 1, 0] body10
theorem cd_c10_18 : c10_18 = .region 5 r10_18 false := by kernel_rfl
noncomputable def c10_19 : Code := match c10_13 with
  | .seq x _ => x
  | _ => .skip
noncomputable def c10_20 : Code := match c10_13 with
  | .seq _ x => x
  | _ => .skip
theorem cd_c10_13 : c10_13 = .seq c10_19 c10_20 := by kernel_rfl
noncomputable def r10_19 : Array Oper := regAt [1, 1, 1, 1, 0] body10
theorem cd_c10_19 : c10_19 = .region 6 r10_19 false := by kernel_rfl
noncomputable def c10_21 : Code := match c10_20 with
  | .seq x _ => x
  | _ => .skip
noncomputable def c10_22 : Code := match c10_20 with
  | .seq _ x => x
  | _ => .skip
theorem cd_c10_20 : c10_20 = .seq c10_21 c10_22 := by kernel_rfl
noncomputable def c10_23 : Code := match c10_21 with
  | .seq x _ => x
  | _ => .skip
noncomputable def c10_24 : Code := match c10_21 with
  | .seq _ x => x
  | _ => .skip
theorem cd_c10_21 : c10_21 = .seq c10_23 c10_24 := by kernel_rfl
noncomputable def r10_23 : Array Oper := regAt [1, 1, 1, 1, 1, 0, 0] body10
theorem cd_c10_23 : c10_23 = .region 7 r10_23 false := by kernel_rfl
noncomputable def c10_25 : Code := match c10_24 with
  | .cond _ x _ => x
  | _ => .skip
theorem cd_c10_24 : c10_24 = .cond (.tmp 32) c10_25 .skip := by kernel_rfl
noncomputable def r10_25 : Array Oper := regAt [1, 1, 1, 1, 1, 0, 1, 1] body10
theorem cd_c10_25 : c10_25 = .region 8 r10_25 false := by kernel_rfl
noncomputable def c10_27 : Code := match c10_22 with
  | .seq x _ => x
  | _ => .skip
theorem cd_c10_22 : c10_22 = .seq c10_27 .ret := by kernel_rfl
noncomputable def r10_27 : Array Oper := regAt [1, 1, 1, 1, 1, 1, 0] body10
theorem cd_c10_27 : c10_27 = .region 9 r10_27 false := by kernel_rfl
noncomputable def body11 : Code := match Try.f11.body with
  | some c => c
  | none => .skip
noncomputable def c11_1 : Code := match code11 with
  | .seq x _ => x
  | _ => .skip
noncomputable def c11_2 : Code := match code11 with
  | .seq _ x => x
  | _ => .skip
theorem cd_code11 : code11 = .seq c11_1 c11_2 := by kernel_rfl
noncomputable def r11_1 : Array Oper := regAt [0] body11
theorem cd_c11_1 : c11_1 = .region 0 r11_1 false := by kernel_rfl
noncomputable def c11_3 : Code := match c11_2 with
  | .seq x _ => x
  | _ => .skip
noncomputable def c11_4 : Code := match c11_2 with
  | .seq _ x => x
  | _ => .skip
theorem cd_c11_2 : c11_2 = .seq c11_3 c11_4 := by kernel_rfl
noncomputable def c11_5 : Code := match c11_3 with
  | .seq x _ => x
  | _ => .skip
noncomputable def c11_6 : Code := match c11_3 with
  | .seq _ x => x
  | _ => .skip
theorem cd_c11_3 : c11_3 = .seq c11_5 c11_6 := by kernel_rfl
noncomputable def r11_5 : Array Oper := regAt [1, 0, 0] body11
theorem cd_c11_5 : c11_5 = .region 1 r11_5 false := by kernel_rfl
noncomputable def c11_7 : Code := match c11_6 with
  | .cond _ x _ => x
  | _ => .skip
theorem cd_c11_6 : c11_6 = .cond (.tmp 4) c11_7 .skip := by kernel_rfl
noncomputable def c11_9 : Code := match c11_7 with
  | .seq x _ => x
  | _ => .skip
theorem cd_c11_7 : c11_7 = .seq c11_9 .ret := by kernel_rfl
noncomputable def r11_9 : Array Oper := regAt [1, 0, 1, 1, 0] body11
theorem cd_c11_9 : c11_9 = .region 2 r11_9 false := by kernel_rfl
noncomputable def c11_10 : Code := match c11_4 with
  | .seq x _ => x
  | _ => .skip
theorem cd_c11_4 : c11_4 = .seq c11_10 .ret := by kernel_rfl
noncomputable def r11_10 : Array Oper := regAt [1, 1, 0] body11
theorem cd_c11_10 : c11_10 = .region 3 r11_10 false := by kernel_rfl
noncomputable def body12 : Code := match Try.f12.body with
  | some c => c
  | none => .skip
noncomputable def c12_1 : Code := match code12 with
  | .seq x _ => x
  | _ => .skip
noncomputable def c12_2 : Code := match code12 with
  | .seq _ x => x
  | _ => .skip
theorem cd_code12 : code12 = .seq c12_1 c12_2 := by kernel_rfl
noncomputable def r12_1 : Array Oper := regAt [0] body12
theorem cd_c12_1 : c12_1 = .region 0 r12_1 false := by kernel_rfl
noncomputable def c12_3 : Code := match c12_2 with
  | .seq x _ => x
  | _ => .skip
noncomputable def c12_4 : Code := match c12_2 with
  | .seq _ x => x
  | _ => .skip
theorem cd_c12_2 : c12_2 = .seq c12_3 c12_4 := by kernel_rfl
noncomputable def c12_5 : Code := match c12_3 with
  | .seq x _ => x
  | _ => .skip
noncomputable def c12_6 : Code := match c12_3 with
  | .seq _ x => x
  | _ => .skip
theorem cd_c12_3 : c12_3 = .seq c12_5 c12_6 := by kernel_rfl
noncomputable def r12_5 : Array Oper := regAt [1, 0, 0] body12
theorem cd_c12_5 : c12_5 = .region 1 r12_5 false := by kernel_rfl
noncomputable def c12_7 : Code := match c12_6 with
  | .cond _ x _ => x
  | _ => .skip
theorem cd_c12_6 : c12_6 = .cond (.tmp 4) c12_7 .skip := by kernel_rfl
noncomputable def c12_9 : Code := match c12_7 with
  | .seq x _ => x
  | _ => .skip
theorem cd_c12_7 : c12_7 = .seq c12_9 .ret := by kernel_rfl
noncomputable def r12_9 : Array Oper := regAt [1, 0, 1, 1, 0] body12
theorem cd_c12_9 : c12_9 = .region 2 r12_9 false := by kernel_rfl
noncomputable def c12_10 : Code := match c12_4 with
  | .seq x _ => x
  | _ => .skip
theorem cd_c12_4 : c12_4 = .seq c12_10 .ret := by kernel_rfl
noncomputable def r12_10 : Array Oper := regAt [1, 1, 0] body12
theorem cd_c12_10 : c12_10 = .region 3 r12_10 false := by kernel_rfl
noncomputable def body13 : Code := match Try.f13.body with
  | some c => c
  | none => .skip
noncomputable def c13_1 : Code := match code13 with
  | .seq x _ => x
  | _ => .skip
noncomputable def c13_2 : Code := match code13 with
  | .seq _ x => x
  | _ => .skip
theorem cd_code13 : code13 = .seq c13_1 c13_2 := by kernel_rfl
noncomputable def r13_1 : Array Oper := regAt [0] body13
theorem cd_c13_1 : c13_1 = .region 0 r13_1 false := by kernel_rfl
noncomputable def c13_3 : Code := match c13_2 with
  | .seq x _ => x
  | _ => .skip
noncomputable def c13_4 : Code := match c13_2 with
  | .seq _ x => x
  | _ => .skip
theorem cd_c13_2 : c13_2 = .seq c13_3 c13_4 := by kernel_rfl
noncomputable def c13_5 : Code := match c13_3 with
  | .seq x _ => x
  | _ => .skip
noncomputable def c13_6 : Code := match c13_3 with
  | .seq _ x => x
  | _ => .skip
theorem cd_c13_3 : c13_3 = .seq c13_5 c13_6 := by kernel_rfl
noncomputable def r13_5 : Array Oper := regAt [1, 0, 0] body13
theorem cd_c13_5 : c13_5 = .region 1 r13_5 false := by kernel_rfl
noncomputable def c13_7 : Code := match c13_6 with
  | .cond _ x _ => x
  | _ => .skip
theorem cd_c13_6 : c13_6 = .cond (.tmp 6) c13_7 .skip := by kernel_rfl
noncomputable def c13_9 : Code := match c13_7 with
  | .seq x _ => x
  | _ => .skip
theorem cd_c13_7 : c13_7 = .seq c13_9 .ret := by kernel_rfl
noncomputable def r13_9 : Array Oper := regAt [1, 0, 1, 1, 0] body13
theorem cd_c13_9 : c13_9 = .region 2 r13_9 false := by kernel_rfl
noncomputable def c13_10 : Code := match c13_4 with
  | .seq x _ => x
  | _ => .skip
noncomputable def c13_11 : Code := match c13_4 with
  | .seq _ x => x
  | _ => .skip
theorem cd_c13_4 : c13_4 = .seq c13_10 c13_11 := by kernel_rfl
noncomputable def r13_10 : Array Oper := regAt [1, 1, 0] body13
theorem cd_c13_10 : c13_10 = .region 3 r13_10 false := by kernel_rfl
noncomputable def c13_12 : Code := match c13_11 with
  | .seq x _ => x
  | _ => .skip
noncomputable def c13_13 : Code := match c13_11 with
  | .seq _ x => x
  | _ => .skip
theorem cd_c13_11 : c13_11 = .seq c13_12 c13_13 := by kernel_rfl
noncomputable def c13_14 : Code := match c13_12 with
  | .seq x _ => x
  | _ => .skip
noncomputable def c13_15 : Code := match c13_12 with
  | .seq _ x => x
  | _ => .skip
theorem cd_c13_12 : c13_12 = .seq c13_14 c13_15 := by kernel_rfl
noncomputable def r13_14 : Array Oper := regAt [1, 1, 1, 0, 0] body13
theorem cd_c13_14 : c13_14 = .region 4 r13_14 false := by kernel_rfl
noncomputable def c13_16 : Code := match c13_15 with
  | .cond _ x _ => x
  | _ => .skip
theorem cd_c13_15 : c13_15 = .cond (.tmp 11) c13_16 .skip := by kernel_rfl
noncomputable def r13_16 : Array Oper := regAt [1, 1, 1, 0, 1, 1] body13
theorem cd_c13_16 : c13_16 = .region 5 r13_16 false := by kernel_rfl
noncomputable def c13_18 : Code := match c13_13 with
  | .seq x _ => x
  | _ => .skip
theorem cd_c13_13 : c13_13 = .seq c13_18 .ret := by kernel_rfl
noncomputable def r13_18 : Array Oper := regAt [1, 1, 1, 1, 0] body13
theorem cd_c13_18 : c13_18 = .region 6 r13_18 false := by kernel_rfl
noncomputable def body14 : Code := match Try.f14.body with
  | some c => c
  | none => .skip
noncomputable def c14_1 : Code := match code14 with
  | .seq x _ => x
  | _ => .skip
noncomputable def c14_2 : Code := match code14 with
  | .seq _ x => x
  | _ => .skip
theorem cd_code14 : code14 = .seq c14_1 c14_2 := by kernel_rfl
noncomputable def r14_1 : Array Oper := regAt [0] body14
theorem cd_c14_1 : c14_1 = .region 0 r14_1 false := by kernel_rfl
noncomputable def c14_3 : Code := match c14_2 with
  | .seq x _ => x
  | _ => .skip
noncomputable def c14_4 : Code := match c14_2 with
  | .seq _ x => x
  | _ => .skip
theorem cd_c14_2 : c14_2 = .seq c14_3 c14_4 := by kernel_rfl
noncomputable def c14_5 : Code := match c14_3 with
  | .block _ x => x
  | _ => .skip
theorem cd_c14_3 : c14_3 = .block 0 c14_5 := by kernel_rfl
noncomputable def c14_6 : Code := match c14_5 with
  | .seq x _ => x
  | _ => .skip
noncomputable def c14_7 : Code := match c14_5 with
  | .seq _ x => x
  | _ => .skip
theorem cd_c14_5 : c14_5 = .seq c14_6 c14_7 := by kernel_rfl
noncomputable def r14_6 : Array Oper := regAt [1, 0, 1, 0] body14
theorem cd_c14_6 : c14_6 = .region 1 r14_6 false := by kernel_rfl
noncomputable def c14_8 : Code := match c14_7 with
  | .cond _ x _ => x
  | _ => .skip
noncomputable def c14_9 : Code := match c14_7 with
  | .cond _ _ x => x
  | _ => .skip
theorem cd_c14_7 : c14_7 = .cond (.tmp 4) c14_8 c14_9 := by kernel_rfl
noncomputable def c14_11 : Code := match c14_8 with
  | .seq x _ => x
  | _ => .skip
theorem cd_c14_8 : c14_8 = .seq c14_11 .ret := by kernel_rfl
noncomputable def r14_11 : Array Oper := regAt [1, 0, 1, 1, 1, 0] body14
theorem cd_c14_11 : c14_11 = .region 2 r14_11 false := by kernel_rfl
noncomputable def c14_12 : Code := match c14_9 with
  | .seq x _ => x
  | _ => .skip
noncomputable def c14_13 : Code := match c14_9 with
  | .seq _ x => x
  | _ => .skip
theorem cd_c14_9 : c14_9 = .seq c14_12 c14_13 := by kernel_rfl
noncomputable def r14_12 : Array Oper := regAt [1, 0, 1, 1, 2, 0] body14
theorem cd_c14_12 : c14_12 = .region 3 r14_12 false := by kernel_rfl
noncomputable def c14_14 : Code := match c14_13 with
  | .cond _ x _ => x
  | _ => .skip
theorem cd_c14_13 : c14_13 = .cond (.tmp 8) c14_14 .skip := by kernel_rfl
noncomputable def c14_16 : Code := match c14_14 with
  | .seq x _ => x
  | _ => .skip
theorem cd_c14_14 : c14_14 = .seq c14_16 .ret := by kernel_rfl
noncomputable def r14_16 : Array Oper := regAt [1, 0, 1, 1, 2, 1, 1, 0] body14
theorem cd_c14_16 : c14_16 = .region 4 r14_16 false := by kernel_rfl
noncomputable def c14_17 : Code := match c14_4 with
  | .seq x _ => x
  | _ => .skip
theorem cd_c14_4 : c14_4 = .seq c14_17 .ret := by kernel_rfl
noncomputable def r14_17 : Array Oper := regAt [1, 1, 0] body14
theorem cd_c14_17 : c14_17 = .region 5 r14_17 false := by kernel_rfl
noncomputable def body15 : Code := match Try.f15.body with
  | some c => c
  | none => .skip
noncomputable def c15_1 : Code := match code15 with
  | .seq x _ => x
  | _ => .skip
noncomputable def c15_2 : Code := match code15 with
  | .seq _ x => x
  | _ => .skip
theorem cd_code15 : code15 = .seq c15_1 c15_2 := by kernel_rfl
noncomputable def r15_1 : Array Oper := regAt [0] body15
theorem cd_c15_1 : c15_1 = .region 0 r15_1 false := by kernel_rfl
noncomputable def c15_3 : Code := match c15_2 with
  | .seq x _ => x
  | _ => .skip
noncomputable def c15_4 : Code := match c15_2 with
  | .seq _ x => x
  | _ => .skip
theorem cd_c15_2 : c15_2 = .seq c15_3 c15_4 := by kernel_rfl
noncomputable def c15_5 : Code := match c15_3 with
  | .seq x _ => x
  | _ => .skip
noncomputable def c15_6 : Code := match c15_3 with
  | .seq _ x => x
  | _ => .skip
theorem cd_c15_3 : c15_3 = .seq c15_5 c15_6 := by kernel_rfl
noncomputable def r15_5 : Array Oper := regAt [1, 0, 0] body15
theorem cd_c15_5 : c15_5 = .region 1 r15_5 false := by kernel_rfl
noncomputable def c15_7 : Code := match c15_6 with
  | .block _ x => x
  | _ => .skip
theorem cd_c15_6 : c15_6 = .block 0 c15_7 := by kernel_rfl
noncomputable def c15_8 : Code := match c15_7 with
  | .loop x => x
  | _ => .skip
theorem cd_c15_7 : c15_7 = .loop c15_8 := by kernel_rfl
noncomputable def c15_9 : Code := match c15_8 with
  | .seq x _ => x
  | _ => .skip
noncomputable def c15_10 : Code := match c15_8 with
  | .seq _ x => x
  | _ => .skip
theorem cd_c15_8 : c15_8 = .seq c15_9 c15_10 := by kernel_rfl
noncomputable def r15_9 : Array Oper := regAt [1, 0, 1, 1, 0, 0] body15
theorem cd_c15_9 : c15_9 = .region 2 r15_9 false := by kernel_rfl
noncomputable def c15_11 : Code := match c15_10 with
  | .seq x _ => x
  | _ => .skip
noncomputable def c15_12 : Code := match c15_10 with
  | .seq _ x => x
  | _ => .skip
theorem cd_c15_10 : c15_10 = .seq c15_11 c15_12 := by kernel_rfl
theorem cd_c15_11 : c15_11 = .cond (.tmp 11) .skip (.exit 0) := by kernel_rfl
noncomputable def c15_14 : Code := match c15_12 with
  | .seq x _ => x
  | _ => .skip
noncomputable def c15_15 : Code := match c15_12 with
  | .seq _ x => x
  | _ => .skip
theorem cd_c15_12 : c15_12 = .seq c15_14 c15_15 := by kernel_rfl
noncomputable def c15_16 : Code := match c15_14 with
  | .block _ x => x
  | _ => .skip
theorem cd_c15_14 : c15_14 = .block 1 c15_16 := by kernel_rfl
noncomputable def c15_17 : Code := match c15_16 with
  | .seq x _ => x
  | _ => .skip
noncomputable def c15_18 : Code := match c15_16 with
  | .seq _ x => x
  | _ => .skip
theorem cd_c15_16 : c15_16 = .seq c15_17 c15_18 := by kernel_rfl
noncomputable def r15_17 : Array Oper := regAt [1, 0, 1, 1, 0, 1, 1, 0, 1, 0] body15
theorem cd_c15_17 : c15_17 = .region 3 r15_17 false := by kernel_rfl
noncomputable def c15_19 : Code := match c15_18 with
  | .seq x _ => x
  | _ => .skip
noncomputable def c15_20 : Code := match c15_18 with
  | .seq _ x => x
  | _ => .skip
theorem cd_c15_18 : c15_18 = .seq c15_19 c15_20 := by kernel_rfl
noncomputable def r15_19 : Array Oper := regAt [1, 0, 1, 1, 0, 1, 1, 0, 1, 1, 0] body15
theorem cd_c15_19 : c15_19 = .region 4 r15_19 false := by kernel_rfl
noncomputable def c15_21 : Code := match c15_20 with
  | .cond _ x _ => x
  | _ => .skip
theorem cd_c15_20 : c15_20 = .cond (.tmp 24) c15_21 .skip := by kernel_rfl
noncomputable def c15_23 : Code := match c15_21 with
  | .seq x _ => x
  | _ => .skip
theorem cd_c15_21 : c15_21 = .seq c15_23 .ret := by kernel_rfl
noncomputable def r15_23 : Array Oper := regAt [1, 0, 1, 1, 0, 1, 1, 0, 1, 1, 1, 1, 0] body15
theorem cd_c15_23 : c15_23 = .region 5 r15_23 false := by kernel_rfl
noncomputable def r15_15 : Array Oper := regAt [1, 0, 1, 1, 0, 1, 1, 1] body15
theorem cd_c15_15 : c15_15 = .region 6 r15_15 false := by kernel_rfl
noncomputable def c15_24 : Code := match c15_4 with
  | .seq x _ => x
  | _ => .skip
theorem cd_c15_4 : c15_4 = .seq c15_24 .ret := by kernel_rfl
noncomputable def r15_24 : Array Oper := regAt [1, 1, 0] body15
theorem cd_c15_24 : c15_24 = .region 7 r15_24 false := by kernel_rfl
noncomputable def body19 : Code := match Try.f19.body with
  | some c => c
  | none => .skip
noncomputable def c19_1 : Code := match code19 with
  | .seq x _ => x
  | _ => .skip
noncomputable def c19_2 : Code := match code19 with
  | .seq _ x => x
  | _ => .skip
theorem cd_code19 : code19 = .seq c19_1 c19_2 := by kernel_rfl
noncomputable def r19_1 : Array Oper := regAt [0] body19
theorem cd_c19_1 : c19_1 = .region 0 r19_1 false := by kernel_rfl
noncomputable def c19_3 : Code := match c19_2 with
  | .seq x _ => x
  | _ => .skip
noncomputable def c19_4 : Code := match c19_2 with
  | .seq _ x => x
  | _ => .skip
theorem cd_c19_2 : c19_2 = .seq c19_3 c19_4 := by kernel_rfl
noncomputable def r19_3 : Array Oper := regAt [1, 0] body19
theorem cd_c19_3 : c19_3 = .region 1 r19_3 false := by kernel_rfl
noncomputable def c19_5 : Code := match c19_4 with
  | .seq x _ => x
  | _ => .skip
noncomputable def c19_6 : Code := match c19_4 with
  | .seq _ x => x
  | _ => .skip
theorem cd_c19_4 : c19_4 = .seq c19_5 c19_6 := by kernel_rfl
noncomputable def c19_7 : Code := match c19_5 with
  | .seq x _ => x
  | _ => .skip
noncomputable def c19_8 : Code := match c19_5 with
  | .seq _ x => x
  | _ => .skip
theorem cd_c19_5 : c19_5 = .seq c19_7 c19_8 := by kernel_rfl
noncomputable def r19_7 : Array Oper := regAt [1, 1, 0, 0] body19
theorem cd_c19_7 : c19_7 = .region 2 r19_7 false := by kernel_rfl
noncomputable def c19_9 : Code := match c19_8 with
  | .block _ x => x
  | _ => .skip
theorem cd_c19_8 : c19_8 = .block 0 c19_9 := by kernel_rfl
noncomputable def c19_10 : Code := match c19_9 with
  | .loop x => x
  | _ => .skip
theorem cd_c19_9 : c19_9 = .loop c19_10 := by kernel_rfl
noncomputable def c19_11 : Code := match c19_10 with
  | .seq x _ => x
  | _ => .skip
noncomputable def c19_12 : Code := match c19_10 with
  | .seq _ x => x
  | _ => .skip
theorem cd_c19_10 : c19_10 = .seq c19_11 c19_12 := by kernel_rfl
noncomputable def c19_13 : Code := match c19_11 with
  | .seq x _ => x
  | _ => .skip
noncomputable def c19_14 : Code := match c19_11 with
  | .seq _ x => x
  | _ => .skip
theorem cd_c19_11 : c19_11 = .seq c19_13 c19_14 := by kernel_rfl
noncomputable def r19_13 : Array Oper := regAt [1, 1, 0, 1, 1, 0, 0, 0] body19
theorem cd_c19_13 : c19_13 = .region 3 r19_13 false := by kernel_rfl
theorem cd_c19_14 : c19_14 = .cond (.tmp 7) .skip (.exit 0) := by kernel_rfl
noncomputable def c19_16 : Code := match c19_12 with
  | .seq x _ => x
  | _ => .skip
noncomputable def c19_17 : Code := match c19_12 with
  | .seq _ x => x
  | _ => .skip
theorem cd_c19_12 : c19_12 = .seq c19_16 c19_17 := by kernel_rfl
noncomputable def c19_18 : Code := match c19_16 with
  | .block _ x => x
  | _ => .skip
theorem cd_c19_16 : c19_16 = .block 1 c19_18 := by kernel_rfl
noncomputable def r19_18 : Array Oper := regAt [1, 1, 0, 1, 1, 0, 1, 0, 1] body19
theorem cd_c19_18 : c19_18 = .region 5 r19_18 false := by kernel_rfl
noncomputable def r19_17 : Array Oper := regAt [1, 1, 0, 1, 1, 0, 1, 1] body19
theorem cd_c19_17 : c19_17 = .region 4 r19_17 false := by kernel_rfl
noncomputable def c19_19 : Code := match c19_6 with
  | .seq x _ => x
  | _ => .skip
theorem cd_c19_6 : c19_6 = .seq c19_19 .ret := by kernel_rfl
noncomputable def r19_19 : Array Oper := regAt [1, 1, 1, 0] body19
theorem cd_c19_19 : c19_19 = .region 6 r19_19 false := by kernel_rfl
noncomputable def body26 : Code := match Try.f26.body with
  | some c => c
  | none => .skip
noncomputable def c26_1 : Code := match code26 with
  | .seq x _ => x
  | _ => .skip
noncomputable def c26_2 : Code := match code26 with
  | .seq _ x => x
  | _ => .skip
theorem cd_code26 : code26 = .seq c26_1 c26_2 := by kernel_rfl
noncomputable def r26_1 : Array Oper := regAt [0] body26
theorem cd_c26_1 : c26_1 = .region 0 r26_1 false := by kernel_rfl
noncomputable def c26_3 : Code := match c26_2 with
  | .seq x _ => x
  | _ => .skip
theorem cd_c26_2 : c26_2 = .seq c26_3 .ret := by kernel_rfl
noncomputable def r26_3 : Array Oper := regAt [1, 0] body26
theorem cd_c26_3 : c26_3 = .region 1 r26_3 false := by kernel_rfl
noncomputable def body27 : Code := match Try.f27.body with
  | some c => c
  | none => .skip
noncomputable def c27_1 : Code := match code27 with
  | .seq x _ => x
  | _ => .skip
noncomputable def c27_2 : Code := match code27 with
  | .seq _ x => x
  | _ => .skip
theorem cd_code27 : code27 = .seq c27_1 c27_2 := by kernel_rfl
noncomputable def r27_1 : Array Oper := regAt [0] body27
theorem cd_c27_1 : c27_1 = .region 0 r27_1 false := by kernel_rfl
noncomputable def c27_3 : Code := match c27_2 with
  | .seq x _ => x
  | _ => .skip
theorem cd_c27_2 : c27_2 = .seq c27_3 .ret := by kernel_rfl
noncomputable def r27_3 : Array Oper := regAt [1, 0] body27
theorem cd_c27_3 : c27_3 = .region 1 r27_3 false := by kernel_rfl
noncomputable def body28 : Code := match Try.f28.body with
  | some c => c
  | none => .skip
noncomputable def c28_1 : Code := match code28 with
  | .seq x _ => x
  | _ => .skip
noncomputable def c28_2 : Code := match code28 with
  | .seq _ x => x
  | _ => .skip
theorem cd_code28 : code28 = .seq c28_1 c28_2 := by kernel_rfl
noncomputable def r28_1 : Array Oper := regAt [0] body28
theorem cd_c28_1 : c28_1 = .region 0 r28_1 false := by kernel_rfl
noncomputable def c28_3 : Code := match c28_2 with
  | .seq x _ => x
  | _ => .skip
theorem cd_c28_2 : c28_2 = .seq c28_3 .ret := by kernel_rfl
noncomputable def r28_3 : Array Oper := regAt [1, 0] body28
theorem cd_c28_3 : c28_3 = .region 1 r28_3 false := by kernel_rfl
noncomputable def body29 : Code := match Try.f29.body with
  | some c => c
  | none => .skip
noncomputable def c29_1 : Code := match code29 with
  | .seq x _ => x
  | _ => .skip
noncomputable def c29_2 : Code := match code29 with
  | .seq _ x => x
  | _ => .skip
theorem cd_code29 : code29 = .seq c29_1 c29_2 := by kernel_rfl
noncomputable def r29_1 : Array Oper := regAt [0] body29
theorem cd_c29_1 : c29_1 = .region 0 r29_1 false := by kernel_rfl
noncomputable def c29_3 : Code := match c29_2 with
  | .seq x _ => x
  | _ => .skip
theorem cd_c29_2 : c29_2 = .seq c29_3 .ret := by kernel_rfl
noncomputable def r29_3 : Array Oper := regAt [1, 0] body29
theorem cd_c29_3 : c29_3 = .region 1 r29_3 false := by kernel_rfl
noncomputable def body30 : Code := match Try.f30.body with
  | some c => c
  | none => .skip
noncomputable def c30_1 : Code := match code30 with
  | .seq x _ => x
  | _ => .skip
noncomputable def c30_2 : Code := match code30 with
  | .seq _ x => x
  | _ => .skip
theorem cd_code30 : code30 = .seq c30_1 c30_2 := by kernel_rfl
noncomputable def r30_1 : Array Oper := regAt [0] body30
theorem cd_c30_1 : c30_1 = .region 0 r30_1 false := by kernel_rfl
noncomputable def c30_3 : Code := match c30_2 with
  | .seq x _ => x
  | _ => .skip
noncomputable def c30_4 : Code := match c30_2 with
  | .seq _ x => x
  | _ => .skip
theorem cd_c30_2 : c30_2 = .seq c30_3 c30_4 := by kernel_rfl
noncomputable def c30_5 : Code := match c30_3 with
  | .seq x _ => x
  | _ => .skip
noncomputable def c30_6 : Code := match c30_3 with
  | .seq _ x => x
  | _ => .skip
theorem cd_c30_3 : c30_3 = .seq c30_5 c30_6 := by kernel_rfl
noncomputable def r30_5 : Array Oper := regAt [1, 0, 0] body30
theorem cd_c30_5 : c30_5 = .region 1 r30_5 false := by kernel_rfl
noncomputable def c30_7 : Code := match c30_6 with
  | .block _ x => x
  | _ => .skip
theorem cd_c30_6 : c30_6 = .block 0 c30_7 := by kernel_rfl
noncomputable def c30_8 : Code := match c30_7 with
  | .loop x => x
  | _ => .skip
theorem cd_c30_7 : c30_7 = .loop c30_8 := by kernel_rfl
noncomputable def c30_9 : Code := match c30_8 with
  | .seq x _ => x
  | _ => .skip
noncomputable def c30_10 : Code := match c30_8 with
  | .seq _ x => x
  | _ => .skip
theorem cd_c30_8 : c30_8 = .seq c30_9 c30_10 := by kernel_rfl
noncomputable def r30_9 : Array Oper := regAt [1, 0, 1, 1, 0, 0] body30
theorem cd_c30_9 : c30_9 = .region 2 r30_9 false := by kernel_rfl
noncomputable def c30_11 : Code := match c30_10 with
  | .seq x _ => x
  | _ => .skip
noncomputable def c30_12 : Code := match c30_10 with
  | .seq _ x => x
  | _ => .skip
theorem cd_c30_10 : c30_10 = .seq c30_11 c30_12 := by kernel_rfl
theorem cd_c30_11 : c30_11 = .cond (.tmp 10) .skip (.exit 0) := by kernel_rfl
noncomputable def c30_14 : Code := match c30_12 with
  | .seq x _ => x
  | _ => .skip
noncomputable def c30_15 : Code := match c30_12 with
  | .seq _ x => x
  | _ => .skip
theorem cd_c30_12 : c30_12 = .seq c30_14 c30_15 := by kernel_rfl
noncomputable def c30_16 : Code := match c30_14 with
  | .block _ x => x
  | _ => .skip
theorem cd_c30_14 : c30_14 = .block 1 c30_16 := by kernel_rfl
noncomputable def c30_17 : Code := match c30_16 with
  | .seq x _ => x
  | _ => .skip
noncomputable def c30_18 : Code := match c30_16 with
  | .seq _ x => x
  | _ => .skip
theorem cd_c30_16 : c30_16 = .seq c30_17 c30_18 := by kernel_rfl
noncomputable def r30_17 : Array Oper := regAt [1, 0, 1, 1, 0, 1, 1, 0, 1, 0] body30
theorem cd_c30_17 : c30_17 = .region 3 r30_17 false := by kernel_rfl
noncomputable def c30_19 : Code := match c30_18 with
  | .seq x _ => x
  | _ => .skip
noncomputable def c30_20 : Code := match c30_18 with
  | .seq _ x => x
  | _ => .skip
theorem cd_c30_18 : c30_18 = .seq c30_19 c30_20 := by kernel_rfl
noncomputable def r30_19 : Array Oper := regAt [1, 0, 1, 1, 0, 1, 1, 0, 1, 1, 0] body30
theorem cd_c30_19 : c30_19 = .region 4 r30_19 false := by kernel_rfl
noncomputable def c30_21 : Code := match c30_20 with
  | .cond _ x _ => x
  | _ => .skip
theorem cd_c30_20 : c30_20 = .cond (.tmp 16) c30_21 .skip := by kernel_rfl
noncomputable def c30_23 : Code := match c30_21 with
  | .seq x _ => x
  | _ => .skip
theorem cd_c30_21 : c30_21 = .seq c30_23 .ret := by kernel_rfl
noncomputable def r30_23 : Array Oper := regAt [1, 0, 1, 1, 0, 1, 1, 0, 1, 1, 1, 1, 0] body30
theorem cd_c30_23 : c30_23 = .region 5 r30_23 false := by kernel_rfl
noncomputable def r30_15 : Array Oper := regAt [1, 0, 1, 1, 0, 1, 1, 1] body30
theorem cd_c30_15 : c30_15 = .region 6 r30_15 false := by kernel_rfl
noncomputable def c30_24 : Code := match c30_4 with
  | .seq x _ => x
  | _ => .skip
theorem cd_c30_4 : c30_4 = .seq c30_24 .ret := by kernel_rfl
noncomputable def r30_24 : Array Oper := regAt [1, 1, 0] body30
theorem cd_c30_24 : c30_24 = .region 7 r30_24 false := by kernel_rfl
noncomputable def body31 : Code := match Try.f31.body with
  | some c => c
  | none => .skip
noncomputable def c31_1 : Code := match code31 with
  | .seq x _ => x
  | _ => .skip
noncomputable def c31_2 : Code := match code31 with
  | .seq _ x => x
  | _ => .skip
theorem cd_code31 : code31 = .seq c31_1 c31_2 := by kernel_rfl
noncomputable def r31_1 : Array Oper := regAt [0] body31
theorem cd_c31_1 : c31_1 = .region 0 r31_1 false := by kernel_rfl
noncomputable def c31_3 : Code := match c31_2 with
  | .seq x _ => x
  | _ => .skip
noncomputable def c31_4 : Code := match c31_2 with
  | .seq _ x => x
  | _ => .skip
theorem cd_c31_2 : c31_2 = .seq c31_3 c31_4 := by kernel_rfl
noncomputable def c31_5 : Code := match c31_3 with
  | .seq x _ => x
  | _ => .skip
noncomputable def c31_6 : Code := match c31_3 with
  | .seq _ x => x
  | _ => .skip
theorem cd_c31_3 : c31_3 = .seq c31_5 c31_6 := by kernel_rfl
noncomputable def r31_5 : Array Oper := regAt [1, 0, 0] body31
theorem cd_c31_5 : c31_5 = .region 1 r31_5 false := by kernel_rfl
noncomputable def c31_7 : Code := match c31_6 with
  | .seq x _ => x
  | _ => .skip
noncomputable def c31_8 : Code := match c31_6 with
  | .seq _ x => x
  | _ => .skip
theorem cd_c31_6 : c31_6 = .seq c31_7 c31_8 := by kernel_rfl
noncomputable def r31_7 : Array Oper := regAt [1, 0, 1, 0] body31
theorem cd_c31_7 : c31_7 = .region 2 r31_7 false := by kernel_rfl
noncomputable def c31_9 : Code := match c31_8 with
  | .cond _ x _ => x
  | _ => .skip
theorem cd_c31_8 : c31_8 = .cond (.tmp 10) c31_9 .skip := by kernel_rfl
noncomputable def c31_11 : Code := match c31_9 with
  | .seq x _ => x
  | _ => .skip
theorem cd_c31_9 : c31_9 = .seq c31_11 .ret := by kernel_rfl
noncomputable def r31_11 : Array Oper := regAt [1, 0, 1, 1, 1, 0] body31
theorem cd_c31_11 : c31_11 = .region 3 r31_11 false := by kernel_rfl
noncomputable def c31_12 : Code := match c31_4 with
  | .seq x _ => x
  | _ => .skip
noncomputable def c31_13 : Code := match c31_4 with
  | .seq _ x => x
  | _ => .skip
theorem cd_c31_4 : c31_4 = .seq c31_12 c31_13 := by kernel_rfl
noncomputable def r31_12 : Array Oper := regAt [1, 1, 0] body31
theorem cd_c31_12 : c31_12 = .region 4 r31_12 false := by kernel_rfl
noncomputable def c31_14 : Code := match c31_13 with
  | .seq x _ => x
  | _ => .skip
theorem cd_c31_13 : c31_13 = .seq c31_14 .ret := by kernel_rfl
noncomputable def r31_14 : Array Oper := regAt [1, 1, 1, 0] body31
theorem cd_c31_14 : c31_14 = .region 5 r31_14 false := by kernel_rfl
noncomputable def body32 : Code := match Try.f32.body with
  | some c => c
  | none => .skip
noncomputable def c32_1 : Code := match code32 with
  | .seq x _ => x
  | _ => .skip
noncomputable def c32_2 : Code := match code32 with
  | .seq _ x => x
  | _ => .skip
theorem cd_code32 : code32 = .seq c32_1 c32_2 := by kernel_rfl
noncomputable def r32_1 : Array Oper := regAt [0] body32
theorem cd_c32_1 : c32_1 = .region 0 r32_1 false := by kernel_rfl
noncomputable def c32_3 : Code := match c32_2 with
  | .seq x _ => x
  | _ => .skip
noncomputable def c32_4 : Code := match c32_2 with
  | .seq _ x => x
  | _ => .skip
theorem cd_c32_2 : c32_2 = .seq c32_3 c32_4 := by kernel_rfl
noncomputable def c32_5 : Code := match c32_3 with
  | .seq x _ => x
  | _ => .skip
noncomputable def c32_6 : Code := match c32_3 with
  | .seq _ x => x
  | _ => .skip
theorem cd_c32_3 : c32_3 = .seq c32_5 c32_6 := by kernel_rfl
noncomputable def r32_5 : Array Oper := regAt [1, 0, 0] body32
theorem cd_c32_5 : c32_5 = .region 1 r32_5 false := by kernel_rfl
noncomputable def c32_7 : Code := match c32_6 with
  | .cond _ x _ => x
  | _ => .skip
theorem cd_c32_6 : c32_6 = .cond (.tmp 6) c32_7 .skip := by kernel_rfl
noncomputable def c32_9 : Code := match c32_7 with
  | .seq x _ => x
  | _ => .skip
theorem cd_c32_7 : c32_7 = .seq c32_9 .ret := by kernel_rfl
noncomputable def r32_9 : Array Oper := regAt [1, 0, 1, 1, 0] body32
theorem cd_c32_9 : c32_9 = .region 2 r32_9 false := by kernel_rfl
noncomputable def c32_10 : Code := match c32_4 with
  | .seq x _ => x
  | _ => .skip
theorem cd_c32_4 : c32_4 = .seq c32_10 .ret := by kernel_rfl
noncomputable def r32_10 : Array Oper := regAt [1, 1, 0] body32
theorem cd_c32_10 : c32_10 = .region 3 r32_10 false := by kernel_rfl
noncomputable def body35 : Code := match Try.f35.body with
  | some c => c
  | none => .skip
noncomputable def c35_1 : Code := match code35 with
  | .seq x _ => x
  | _ => .skip
noncomputable def c35_2 : Code := match code35 with
  | .seq _ x => x
  | _ => .skip
theorem cd_code35 : code35 = .seq c35_1 c35_2 := by kernel_rfl
noncomputable def r35_1 : Array Oper := regAt [0] body35
theorem cd_c35_1 : c35_1 = .region 0 r35_1 false := by kernel_rfl
noncomputable def c35_3 : Code := match c35_2 with
  | .seq x _ => x
  | _ => .skip
noncomputable def c35_4 : Code := match c35_2 with
  | .seq _ x => x
  | _ => .skip
theorem cd_c35_2 : c35_2 = .seq c35_3 c35_4 := by kernel_rfl
noncomputable def c35_5 : Code := match c35_3 with
  | .seq x _ => x
  | _ => .skip
noncomputable def c35_6 : Code := match c35_3 with
  | .seq _ x => x
  | _ => .skip
theorem cd_c35_3 : c35_3 = .seq c35_5 c35_6 := by kernel_rfl
noncomputable def r35_5 : Array Oper := regAt [1, 0, 0] body35
theorem cd_c35_5 : c35_5 = .region 1 r35_5 false := by kernel_rfl
noncomputable def c35_7 : Code := match c35_6 with
  | .cond _ x _ => x
  | _ => .skip
theorem cd_c35_6 : c35_6 = .cond (.tmp 4) c35_7 .skip := by kernel_rfl
noncomputable def c35_9 : Code := match c35_7 with
  | .seq x _ => x
  | _ => .skip
theorem cd_c35_7 : c35_7 = .seq c35_9 .ret := by kernel_rfl
noncomputable def r35_9 : Array Oper := regAt [1, 0, 1, 1, 0] body35
theorem cd_c35_9 : c35_9 = .region 2 r35_9 false := by kernel_rfl
noncomputable def c35_10 : Code := match c35_4 with
  | .seq x _ => x
  | _ => .skip
theorem cd_c35_4 : c35_4 = .seq c35_10 .ret := by kernel_rfl
noncomputable def r35_10 : Array Oper := regAt [1, 1, 0] body35
theorem cd_c35_10 : c35_10 = .region 3 r35_10 false := by kernel_rfl
noncomputable def body36 : Code := match Try.f36.body with
  | some c => c
  | none => .skip
noncomputable def c36_1 : Code := match code36 with
  | .seq x _ => x
  | _ => .skip
noncomputable def c36_2 : Code := match code36 with
  | .seq _ x => x
  | _ => .skip
theorem cd_code36 : code36 = .seq c36_1 c36_2 := by kernel_rfl
noncomputable def r36_1 : Array Oper := regAt [0] body36
theorem cd_c36_1 : c36_1 = .region 0 r36_1 false := by kernel_rfl
noncomputable def c36_3 : Code := match c36_2 with
  | .seq x _ => x
  | _ => .skip
theorem cd_c36_2 : c36_2 = .seq c36_3 .ret := by kernel_rfl
noncomputable def r36_3 : Array Oper := regAt [1, 0] body36
theorem cd_c36_3 : c36_3 = .region 1 r36_3 false := by kernel_rfl
noncomputable def body37 : Code := match Try.f37.body with
  | some c => c
  | none => .skip
noncomputable def c37_1 : Code := match code37 with
  | .seq x _ => x
  | _ => .skip
noncomputable def c37_2 : Code := match code37 with
  | .seq _ x => x
  | _ => .skip
theorem cd_code37 : code37 = .seq c37_1 c37_2 := by kernel_rfl
noncomputable def r37_1 : Array Oper := regAt [0] body37
theorem cd_c37_1 : c37_1 = .region 0 r37_1 false := by kernel_rfl
noncomputable def c37_3 : Code := match c37_2 with
  | .seq x _ => x
  | _ => .skip
theorem cd_c37_2 : c37_2 = .seq c37_3 .ret := by kernel_rfl
noncomputable def r37_3 : Array Oper := regAt [1, 0] body37
theorem cd_c37_3 : c37_3 = .region 1 r37_3 false := by kernel_rfl
noncomputable def body43 : Code := match Try.f43.body with
  | some c => c
  | none => .skip
noncomputable def c43_1 : Code := match code43 with
  | .seq x _ => x
  | _ => .skip
noncomputable def c43_2 : Code := match code43 with
  | .seq _ x => x
  | _ => .skip
theorem cd_code43 : code43 = .seq c43_1 c43_2 := by kernel_rfl
noncomputable def r43_1 : Array Oper := regAt [0] body43
theorem cd_c43_1 : c43_1 = .region 0 r43_1 false := by kernel_rfl
noncomputable def c43_3 : Code := match c43_2 with
  | .seq x _ => x
  | _ => .skip
theorem cd_c43_2 : c43_2 = .seq c43_3 .ret := by kernel_rfl
noncomputable def r43_3 : Array Oper := regAt [1, 0] body43
theorem cd_c43_3 : c43_3 = .region 1 r43_3 false := by kernel_rfl
noncomputable def body44 : Code := match Try.f44.body with
  | some c => c
  | none => .skip
noncomputable def c44_1 : Code := match code44 with
  | .seq x _ => x
  | _ => .skip
noncomputable def c44_2 : Code := match code44 with
  | .seq _ x => x
  | _ => .skip
theorem cd_code44 : code44 = .seq c44_1 c44_2 := by kernel_rfl
noncomputable def r44_1 : Array Oper := regAt [0] body44
theorem cd_c44_1 : c44_1 = .region 0 r44_1 false := by kernel_rfl
noncomputable def c44_3 : Code := match c44_2 with
  | .seq x _ => x
  | _ => .skip
noncomputable def c44_4 : Code := match c44_2 with
  | .seq _ x => x
  | _ => .skip
theorem cd_c44_2 : c44_2 = .seq c44_3 c44_4 := by kernel_rfl
noncomputable def c44_5 : Code := match c44_3 with
  | .seq x _ => x
  | _ => .skip
noncomputable def c44_6 : Code := match c44_3 with
  | .seq _ x => x
  | _ => .skip
theorem cd_c44_3 : c44_3 = .seq c44_5 c44_6 := by kernel_rfl
noncomputable def r44_5 : Array Oper := regAt [1, 0, 0] body44
theorem cd_c44_5 : c44_5 = .region 1 r44_5 false := by kernel_rfl
noncomputable def c44_7 : Code := match c44_6 with
  | .block _ x => x
  | _ => .skip
theorem cd_c44_6 : c44_6 = .block 0 c44_7 := by kernel_rfl
noncomputable def c44_8 : Code := match c44_7 with
  | .rangeFunc _ _ x _ => x
  | _ => .skip
noncomputable def c44_9 : Code := match c44_7 with
  | .rangeFunc _ _ _ x => x
  | _ => .skip
theorem cd_c44_7 : c44_7 = .rangeFunc (.tmp 6) #[7] c44_8 c44_9 := by kernel_rfl
noncomputable def r44_8 : Array Oper := regAt [1, 0, 1, 1, 2] body44
theorem cd_c44_8 : c44_8 = .region 2 r44_8 false := by kernel_rfl
noncomputable def c44_10 : Code := match c44_9 with
  | .block _ x => x
  | _ => .skip
theorem cd_c44_9 : c44_9 = .block 1 c44_10 := by kernel_rfl
noncomputable def r44_10 : Array Oper := regAt [1, 0, 1, 1, 3, 1] body44
theorem cd_c44_10 : c44_10 = .region 3 r44_10 false := by kernel_rfl
noncomputable def c44_11 : Code := match c44_4 with
  | .seq x _ => x
  | _ => .skip
theorem cd_c44_4 : c44_4 = .seq c44_11 .ret := by kernel_rfl
noncomputable def r44_11 : Array Oper := regAt [1, 1, 0] body44
theorem cd_c44_11 : c44_11 = .region 4 r44_11 false := by kernel_rfl
noncomputable def body45 : Code := match Try.f45.body with
  | some c => c
  | none => .skip
noncomputable def c45_1 : Code := match code45 with
  | .seq x _ => x
  | _ => .skip
noncomputable def c45_2 : Code := match code45 with
  | .seq _ x => x
  | _ => .skip
theorem cd_code45 : code45 = .seq c45_1 c45_2 := by kernel_rfl
noncomputable def r45_1 : Array Oper := regAt [0] body45
theorem cd_c45_1 : c45_1 = .region 0 r45_1 true := by kernel_rfl
noncomputable def c45_3 : Code := match c45_2 with
  | .block _ x => x
  | _ => .skip
theorem cd_c45_2 : c45_2 = .block 0 c45_3 := by kernel_rfl
noncomputable def c45_4 : Code := match c45_3 with
  | .loop x => x
  | _ => .skip
theorem cd_c45_3 : c45_3 = .loop c45_4 := by kernel_rfl
noncomputable def c45_5 : Code := match c45_4 with
  | .seq x _ => x
  | _ => .skip
noncomputable def c45_6 : Code := match c45_4 with
  | .seq _ x => x
  | _ => .skip
theorem cd_c45_4 : c45_4 = .seq c45_5 c45_6 := by kernel_rfl
noncomputable def r45_5 : Array Oper := regAt [1, 1, 0, 0] body45
theorem cd_c45_5 : c45_5 = .region 1 r45_5 false := by kernel_rfl
noncomputable def c45_7 : Code := match c45_6 with
  | .seq x _ => x
  | _ => .skip
noncomputable def c45_8 : Code := match c45_6 with
  | .seq _ x => x
  | _ => .skip
theorem cd_c45_6 : c45_6 = .seq c45_7 c45_8 := by kernel_rfl
theorem cd_c45_7 : c45_7 = .cond (.tmp 13) .skip (.exit 0) := by kernel_rfl
noncomputable def c45_10 : Code := match c45_8 with
  | .seq x _ => x
  | _ => .skip
noncomputable def c45_11 : Code := match c45_8 with
  | .seq _ x => x
  | _ => .skip
theorem cd_c45_8 : c45_8 = .seq c45_10 c45_11 := by kernel_rfl
noncomputable def c45_12 : Code := match c45_10 with
  | .block _ x => x
  | _ => .skip
theorem cd_c45_10 : c45_10 = .block 1 c45_12 := by kernel_rfl
noncomputable def c45_13 : Code := match c45_12 with
  | .seq x _ => x
  | _ => .skip
noncomputable def c45_14 : Code := match c45_12 with
  | .seq _ x => x
  | _ => .skip
theorem cd_c45_12 : c45_12 = .seq c45_13 c45_14 := by kernel_rfl
noncomputable def r45_13 : Array Oper := regAt [1, 1, 0, 1, 1, 0, 1, 0] body45
theorem cd_c45_13 : c45_13 = .region 2 r45_13 false := by kernel_rfl
noncomputable def c45_15 : Code := match c45_14 with
  | .seq x _ => x
  | _ => .skip
noncomputable def c45_16 : Code := match c45_14 with
  | .seq _ x => x
  | _ => .skip
theorem cd_c45_14 : c45_14 = .seq c45_15 c45_16 := by kernel_rfl
noncomputable def r45_15 : Array Oper := regAt [1, 1, 0, 1, 1, 0, 1, 1, 0] body45
theorem cd_c45_15 : c45_15 = .region 3 r45_15 false := by kernel_rfl
theorem cd_c45_16 : c45_16 = .cond (.tmp 22) .ret .skip := by kernel_rfl
noncomputable def r45_11 : Array Oper := regAt [1, 1, 0, 1, 1, 1] body45
theorem cd_c45_11 : c45_11 = .region 4 r45_11 false := by kernel_rfl
noncomputable def body46 : Code := match Try.f46.body with
  | some c => c
  | none => .skip
noncomputable def c46_1 : Code := match code46 with
  | .seq x _ => x
  | _ => .skip
noncomputable def c46_2 : Code := match code46 with
  | .seq _ x => x
  | _ => .skip
theorem cd_code46 : code46 = .seq c46_1 c46_2 := by kernel_rfl
noncomputable def r46_1 : Array Oper := regAt [0] body46
theorem cd_c46_1 : c46_1 = .region 0 r46_1 false := by kernel_rfl
noncomputable def c46_3 : Code := match c46_2 with
  | .seq x _ => x
  | _ => .skip
noncomputable def c46_4 : Code := match c46_2 with
  | .seq _ x => x
  | _ => .skip
theorem cd_c46_2 : c46_2 = .seq c46_3 c46_4 := by kernel_rfl
noncomputable def c46_5 : Code := match c46_3 with
  | .seq x _ => x
  | _ => .skip
noncomputable def c46_6 : Code := match c46_3 with
  | .seq _ x => x
  | _ => .skip
theorem cd_c46_3 : c46_3 = .seq c46_5 c46_6 := by kernel_rfl
noncomputable def r46_5 : Array Oper := regAt [1, 0, 0] body46
theorem cd_c46_5 : c46_5 = .region 1 r46_5 false := by kernel_rfl
noncomputable def c46_7 : Code := match c46_6 with
  | .cond _ x _ => x
  | _ => .skip
theorem cd_c46_6 : c46_6 = .cond (.tmp 19) c46_7 .skip := by kernel_rfl
noncomputable def c46_9 : Code := match c46_7 with
  | .seq x _ => x
  | _ => .skip
theorem cd_c46_7 : c46_7 = .seq c46_9 .ret := by kernel_rfl
noncomputable def r46_9 : Array Oper := regAt [1, 0, 1, 1, 0] body46
theorem cd_c46_9 : c46_9 = .region 2 r46_9 false := by kernel_rfl
noncomputable def c46_10 : Code := match c46_4 with
  | .seq x _ => x
  | _ => .skip
noncomputable def c46_11 : Code := match c46_4 with
  | .seq _ x => x
  | _ => .skip
theorem cd_c46_4 : c46_4 = .seq c46_10 c46_11 := by kernel_rfl
noncomputable def r46_10 : Array Oper := regAt [1, 1, 0] body46
theorem cd_c46_10 : c46_10 = .region 3 r46_10 false := by kernel_rfl
noncomputable def c46_12 : Code := match c46_11 with
  | .seq x _ => x
  | _ => .skip
noncomputable def c46_13 : Code := match c46_11 with
  | .seq _ x => x
  | _ => .skip
theorem cd_c46_11 : c46_11 = .seq c46_12 c46_13 := by kernel_rfl
noncomputable def c46_14 : Code := match c46_12 with
  | .seq x _ => x
  | _ => .skip
noncomputable def c46_15 : Code := match c46_12 with
  | .seq _ x => x
  | _ => .skip
theorem cd_c46_12 : c46_12 = .seq c46_14 c46_15 := by kernel_rfl
noncomputable def r46_14 : Array Oper := regAt [1, 1, 1, 0, 0] body46
theorem cd_c46_14 : c46_14 = .region 4 r46_14 false := by kernel_rfl
noncomputable def c46_16 : Code := match c46_15 with
  | .block _ x => x
  | _ => .skip
theorem cd_c46_15 : c46_15 = .block 0 c46_16 := by kernel_rfl
noncomputable def c46_17 : Code := match c46_16 with
  | .loop x => x
  | _ => .skip
theorem cd_c46_16 : c46_16 = .loop c46_17 := by kernel_rfl
noncomputable def c46_18 : Code := match c46_17 with
  | .seq x _ => x
  | _ => .skip
noncomputable def c46_19 : Code := match c46_17 with
  | .seq _ x => x
  | _ => .skip
theorem cd_c46_17 : c46_17 = .seq c46_18 c46_19 := by kernel_rfl
noncomputable def r46_18 : Array Oper := regAt [1, 1, 1, 0, 1, 1, 0, 0] body46
theorem cd_c46_18 : c46_18 = .region 5 r46_18 false := by kernel_rfl
noncomputable def c46_20 : Code := match c46_19 with
  | .seq x _ => x
  | _ => .skip
noncomputable def c46_21 : Code := match c46_19 with
  | .seq _ x => x
  | _ => .skip
theorem cd_c46_19 : c46_19 = .seq c46_20 c46_21 := by kernel_rfl
theorem cd_c46_20 : c46_20 = .cond (.tmp 24) .skip (.exit 0) := by kernel_rfl
noncomputable def c46_23 : Code := match c46_21 with
  | .seq x _ => x
  | _ => .skip
noncomputable def c46_24 : Code := match c46_21 with
  | .seq _ x => x
  | _ => .skip
theorem cd_c46_21 : c46_21 = .seq c46_23 c46_24 := by kernel_rfl
noncomputable def c46_25 : Code := match c46_23 with
  | .block _ x => x
  | _ => .skip
theorem cd_c46_23 : c46_23 = .block 1 c46_25 := by kernel_rfl
noncomputable def c46_26 : Code := match c46_25 with
  | .seq x _ => x
  | _ => .skip
noncomputable def c46_27 : Code := match c46_25 with
  | .seq _ x => x
  | _ => .skip
theorem cd_c46_25 : c46_25 = .seq c46_26 c46_27 := by kernel_rfl
noncomputable def r46_26 : Array Oper := regAt [1, 1, 1, 0, 1, 1, 0, 1, 1, 0, 1, 0] body46
theorem cd_c46_26 : c46_26 = .region 6 r46_26 false := by kernel_rfl
noncomputable def r46_27 : Array Oper := regAt [1, 1, 1, 0, 1, 1, 0, 1, 1, 0, 1, 1] body46
theorem cd_c46_27 : c46_27 = .region 7 r46_27 false := by kernel_rfl
noncomputable def r46_24 : Array Oper := regAt [1, 1, 1, 0, 1, 1, 0, 1, 1, 1] body46
theorem cd_c46_24 : c46_24 = .region 8 r46_24 false := by kernel_rfl
noncomputable def c46_28 : Code := match c46_13 with
  | .seq x _ => x
  | _ => .skip
noncomputable def c46_29 : Code := match c46_13 with
  | .seq _ x => x
  | _ => .skip
theorem cd_c46_13 : c46_13 = .seq c46_28 c46_29 := by kernel_rfl
noncomputable def c46_30 : Code := match c46_28 with
  | .seq x _ => x
  | _ => .skip
noncomputable def c46_31 : Code := match c46_28 with
  | .seq _ x => x
  | _ => .skip
theorem cd_c46_28 : c46_28 = .seq c46_30 c46_31 := by kernel_rfl
noncomputable def r46_30 : Array Oper := regAt [1, 1, 1, 1, 0, 0] body46
theorem cd_c46_30 : c46_30 = .region 9 r46_30 false := by kernel_rfl
noncomputable def c46_32 : Code := match c46_31 with
  | .block _ x => x
  | _ => .skip
theorem cd_c46_31 : c46_31 = .block 2 c46_32 := by kernel_rfl
noncomputable def c46_33 : Code := match c46_32 with
  | .loop x => x
  | _ => .skip
theorem cd_c46_32 : c46_32 = .loop c46_33 := by kernel_rfl
noncomputable def c46_34 : Code := match c46_33 with
  | .seq x _ => x
  | _ => .skip
noncomputable def c46_35 : Code := match c46_33 with
  | .seq _ x => x
  | _ => .skip
theorem cd_c46_33 : c46_33 = .seq c46_34 c46_35 := by kernel_rfl
noncomputable def r46_34 : Array Oper := regAt [1, 1, 1, 1, 0, 1, 1, 0, 0] body46
theorem cd_c46_34 : c46_34 = .region 10 r46_34 false := by kernel_rfl
noncomputable def c46_36 : Code := match c46_35 with
  | .seq x _ => x
  | _ => .skip
noncomputable def c46_37 : Code := match c46_35 with
  | .seq _ x => x
  | _ => .skip
theorem cd_c46_35 : c46_35 = .seq c46_36 c46_37 := by kernel_rfl
theorem cd_c46_36 : c46_36 = .cond (.tmp 34) .skip (.exit 2) := by kernel_rfl
noncomputable def c46_39 : Code := match c46_37 with
  | .seq x _ => x
  | _ => .skip
noncomputable def c46_40 : Code := match c46_37 with
  | .seq _ x => x
  | _ => .skip
theorem cd_c46_37 : c46_37 = .seq c46_39 c46_40 := by kernel_rfl
noncomputable def c46_41 : Code := match c46_39 with
  | .block _ x => x
  | _ => .skip
theorem cd_c46_39 : c46_39 = .block 3 c46_41 := by kernel_rfl
noncomputable def c46_42 : Code := match c46_41 with
  | .seq x _ => x
  | _ => .skip
noncomputable def c46_43 : Code := match c46_41 with
  | .seq _ x => x
  | _ => .skip
theorem cd_c46_41 : c46_41 = .seq c46_42 c46_43 := by kernel_rfl
noncomputable def r46_42 : Array Oper := regAt [1, 1, 1, 1, 0, 1, 1, 0, 1, 1, 0, 1, 0] body46
theorem cd_c46_42 : c46_42 = .region 11 r46_42 false := by kernel_rfl
noncomputable def c46_44 : Code := match c46_43 with
  | .seq x _ => x
  | _ => .skip
noncomputable def c46_45 : Code := match c46_43 with
  | .seq _ x => x
  | _ => .skip
theorem cd_c46_43 : c46_43 = .seq c46_44 c46_45 := by kernel_rfl
noncomputable def r46_44 : Array Oper := regAt [1, 1, 1, 1, 0, 1, 1, 0, 1, 1, 0, 1, 1, 0] body46
theorem cd_c46_44 : c46_44 = .region 12 r46_44 false := by kernel_rfl
noncomputable def c46_46 : Code := match c46_45 with
  | .seq x _ => x
  | _ => .skip
noncomputable def c46_47 : Code := match c46_45 with
  | .seq _ x => x
  | _ => .skip
theorem cd_c46_45 : c46_45 = .seq c46_46 c46_47 := by kernel_rfl
noncomputable def r46_46 : Array Oper := regAt [1, 1, 1, 1, 0, 1, 1, 0, 1, 1, 0, 1, 1, 1, 0] body46
theorem cd_c46_46 : c46_46 = .region 13 r46_46 false := by kernel_rfl
noncomputable def r46_47 : Array Oper := regAt [1, 1, 1, 1, 0, 1, 1, 0, 1, 1, 0, 1, 1, 1, 1] body46
theorem cd_c46_47 : c46_47 = .region 14 r46_47 true := by kernel_rfl
noncomputable def r46_40 : Array Oper := regAt [1, 1, 1, 1, 0, 1, 1, 0, 1, 1, 1] body46
theorem cd_c46_40 : c46_40 = .region 15 r46_40 false := by kernel_rfl
noncomputable def c46_48 : Code := match c46_29 with
  | .seq x _ => x
  | _ => .skip
theorem cd_c46_29 : c46_29 = .seq c46_48 .ret := by kernel_rfl
noncomputable def r46_48 : Array Oper := regAt [1, 1, 1, 1, 1, 0] body46
theorem cd_c46_48 : c46_48 = .region 16 r46_48 false := by kernel_rfl
noncomputable def body47 : Code := match Try.f47.body with
  | some c => c
  | none => .skip
noncomputable def c47_1 : Code := match code47 with
  | .seq x _ => x
  | _ => .skip
noncomputable def c47_2 : Code := match code47 with
  | .seq _ x => x
  | _ => .skip
theorem cd_code47 : code47 = .seq c47_1 c47_2 := by kernel_rfl
noncomputable def r47_1 : Array Oper := regAt [0] body47
theorem cd_c47_1 : c47_1 = .region 0 r47_1 false := by kernel_rfl
noncomputable def c47_3 : Code := match c47_2 with
  | .seq x _ => x
  | _ => .skip
noncomputable def c47_4 : Code := match c47_2 with
  | .seq _ x => x
  | _ => .skip
theorem cd_c47_2 : c47_2 = .seq c47_3 c47_4 := by kernel_rfl
noncomputable def c47_5 : Code := match c47_3 with
  | .seq x _ => x
  | _ => .skip
noncomputable def c47_6 : Code := match c47_3 with
  | .seq _ x => x
  | _ => .skip
theorem cd_c47_3 : c47_3 = .seq c47_5 c47_6 := by kernel_rfl
noncomputable def r47_5 : Array Oper := regAt [1, 0, 0] body47
theorem cd_c47_5 : c47_5 = .region 1 r47_5 false := by kernel_rfl
noncomputable def c47_7 : Code := match c47_6 with
  | .cond _ x _ => x
  | _ => .skip
theorem cd_c47_6 : c47_6 = .cond (.tmp 5) c47_7 .skip := by kernel_rfl
noncomputable def c47_9 : Code := match c47_7 with
  | .seq x _ => x
  | _ => .skip
theorem cd_c47_7 : c47_7 = .seq c47_9 .ret := by kernel_rfl
noncomputable def r47_9 : Array Oper := regAt [1, 0, 1, 1, 0] body47
theorem cd_c47_9 : c47_9 = .region 2 r47_9 false := by kernel_rfl
noncomputable def c47_10 : Code := match c47_4 with
  | .seq x _ => x
  | _ => .skip
noncomputable def c47_11 : Code := match c47_4 with
  | .seq _ x => x
  | _ => .skip
theorem cd_c47_4 : c47_4 = .seq c47_10 c47_11 := by kernel_rfl
noncomputable def r47_10 : Array Oper := regAt [1, 1, 0] body47
theorem cd_c47_10 : c47_10 = .region 3 r47_10 false := by kernel_rfl
noncomputable def c47_12 : Code := match c47_11 with
  | .seq x _ => x
  | _ => .skip
noncomputable def c47_13 : Code := match c47_11 with
  | .seq _ x => x
  | _ => .skip
theorem cd_c47_11 : c47_11 = .seq c47_12 c47_13 := by kernel_rfl
noncomputable def c47_14 : Code := match c47_12 with
  | .seq x _ => x
  | _ => .skip
noncomputable def c47_15 : Code := match c47_12 with
  | .seq _ x => x
  | _ => .skip
theorem cd_c47_12 : c47_12 = .seq c47_14 c47_15 := by kernel_rfl
noncomputable def r47_14 : Array Oper := regAt [1, 1, 1, 0, 0] body47
theorem cd_c47_14 : c47_14 = .region 4 r47_14 false := by kernel_rfl
noncomputable def c47_16 : Code := match c47_15 with
  | .cond _ x _ => x
  | _ => .skip
theorem cd_c47_15 : c47_15 = .cond (.tmp 18) c47_16 .skip := by kernel_rfl
noncomputable def c47_18 : Code := match c47_16 with
  | .seq x _ => x
  | _ => .skip
theorem cd_c47_16 : c47_16 = .seq c47_18 .ret := by kernel_rfl
noncomputable def r47_18 : Array Oper := regAt [1, 1, 1, 0, 1, 1, 0] body47
theorem cd_c47_18 : c47_18 = .region 5 r47_18 false := by kernel_rfl
noncomputable def c47_19 : Code := match c47_13 with
  | .seq x _ => x
  | _ => .skip
noncomputable def c47_20 : Code := match c47_13 with
  | .seq _ x => x
  | _ => .skip
theorem cd_c47_13 : c47_13 = .seq c47_19 c47_20 := by kernel_rfl
noncomputable def r47_19 : Array Oper := regAt [1, 1, 1, 1, 0] body47
theorem cd_c47_19 : c47_19 = .region 6 r47_19 false := by kernel_rfl
noncomputable def c47_21 : Code := match c47_20 with
  | .seq x _ => x
  | _ => .skip
noncomputable def c47_22 : Code := match c47_20 with
  | .seq _ x => x
  | _ => .skip
theorem cd_c47_20 : c47_20 = .seq c47_21 c47_22 := by kernel_rfl
noncomputable def r47_21 : Array Oper := regAt [1, 1, 1, 1, 1, 0] body47
theorem cd_c47_21 : c47_21 = .region 7 r47_21 true := by kernel_rfl
noncomputable def c47_23 : Code := match c47_22 with
  | .seq x _ => x
  | _ => .skip
theorem cd_c47_22 : c47_22 = .seq c47_23 .ret := by kernel_rfl
noncomputable def r47_23 : Array Oper := regAt [1, 1, 1, 1, 1, 1, 0] body47
theorem cd_c47_23 : c47_23 = .region 8 r47_23 false := by kernel_rfl
noncomputable def body50 : Code := match Try.f50.body with
  | some c => c
  | none => .skip
noncomputable def c50_1 : Code := match code50 with
  | .seq x _ => x
  | _ => .skip
noncomputable def c50_2 : Code := match code50 with
  | .seq _ x => x
  | _ => .skip
theorem cd_code50 : code50 = .seq c50_1 c50_2 := by kernel_rfl
noncomputable def r50_1 : Array Oper := regAt [0] body50
theorem cd_c50_1 : c50_1 = .region 0 r50_1 false := by kernel_rfl
noncomputable def c50_3 : Code := match c50_2 with
  | .seq x _ => x
  | _ => .skip
noncomputable def c50_4 : Code := match c50_2 with
  | .seq _ x => x
  | _ => .skip
theorem cd_c50_2 : c50_2 = .seq c50_3 c50_4 := by kernel_rfl
noncomputable def c50_5 : Code := match c50_3 with
  | .seq x _ => x
  | _ => .skip
noncomputable def c50_6 : Code := match c50_3 with
  | .seq _ x => x
  | _ => .skip
theorem cd_c50_3 : c50_3 = .seq c50_5 c50_6 := by kernel_rfl
noncomputable def r50_5 : Array Oper := regAt [1, 0, 0] body50
theorem cd_c50_5 : c50_5 = .region 1 r50_5 false := by kernel_rfl
noncomputable def c50_7 : Code := match c50_6 with
  | .block _ x => x
  | _ => .skip
theorem cd_c50_6 : c50_6 = .block 0 c50_7 := by kernel_rfl
noncomputable def c50_8 : Code := match c50_7 with
  | .loop x => x
  | _ => .skip
theorem cd_c50_7 : c50_7 = .loop c50_8 := by kernel_rfl
noncomputable def c50_9 : Code := match c50_8 with
  | .seq x _ => x
  | _ => .skip
noncomputable def c50_10 : Code := match c50_8 with
  | .seq _ x => x
  | _ => .skip
theorem cd_c50_8 : c50_8 = .seq c50_9 c50_10 := by kernel_rfl
noncomputable def r50_9 : Array Oper := regAt [1, 0, 1, 1, 0, 0] body50
theorem cd_c50_9 : c50_9 = .region 2 r50_9 false := by kernel_rfl
noncomputable def c50_11 : Code := match c50_10 with
  | .seq x _ => x
  | _ => .skip
noncomputable def c50_12 : Code := match c50_10 with
  | .seq _ x => x
  | _ => .skip
theorem cd_c50_10 : c50_10 = .seq c50_11 c50_12 := by kernel_rfl
theorem cd_c50_11 : c50_11 = .cond (.tmp 9) .skip (.exit 0) := by kernel_rfl
noncomputable def c50_14 : Code := match c50_12 with
  | .seq x _ => x
  | _ => .skip
noncomputable def c50_15 : Code := match c50_12 with
  | .seq _ x => x
  | _ => .skip
theorem cd_c50_12 : c50_12 = .seq c50_14 c50_15 := by kernel_rfl
noncomputable def c50_16 : Code := match c50_14 with
  | .block _ x => x
  | _ => .skip
theorem cd_c50_14 : c50_14 = .block 1 c50_16 := by kernel_rfl
noncomputable def c50_17 : Code := match c50_16 with
  | .seq x _ => x
  | _ => .skip
noncomputable def c50_18 : Code := match c50_16 with
  | .seq _ x => x
  | _ => .skip
theorem cd_c50_16 : c50_16 = .seq c50_17 c50_18 := by kernel_rfl
noncomputable def r50_17 : Array Oper := regAt [1, 0, 1, 1, 0, 1, 1, 0, 1, 0] body50
theorem cd_c50_17 : c50_17 = .region 3 r50_17 false := by kernel_rfl
noncomputable def c50_19 : Code := match c50_18 with
  | .seq x _ => x
  | _ => .skip
noncomputable def c50_20 : Code := match c50_18 with
  | .seq _ x => x
  | _ => .skip
theorem cd_c50_18 : c50_18 = .seq c50_19 c50_20 := by kernel_rfl
noncomputable def r50_19 : Array Oper := regAt [1, 0, 1, 1, 0, 1, 1, 0, 1, 1, 0] body50
theorem cd_c50_19 : c50_19 = .region 4 r50_19 false := by kernel_rfl
noncomputable def c50_21 : Code := match c50_20 with
  | .cond _ x _ => x
  | _ => .skip
theorem cd_c50_20 : c50_20 = .cond (.tmp 16) c50_21 .skip := by kernel_rfl
noncomputable def c50_23 : Code := match c50_21 with
  | .seq x _ => x
  | _ => .skip
theorem cd_c50_21 : c50_21 = .seq c50_23 .ret := by kernel_rfl
noncomputable def r50_23 : Array Oper := regAt [1, 0, 1, 1, 0, 1, 1, 0, 1, 1, 1, 1, 0] body50
theorem cd_c50_23 : c50_23 = .region 5 r50_23 false := by kernel_rfl
noncomputable def r50_15 : Array Oper := regAt [1, 0, 1, 1, 0, 1, 1, 1] body50
theorem cd_c50_15 : c50_15 = .region 6 r50_15 false := by kernel_rfl
noncomputable def c50_24 : Code := match c50_4 with
  | .seq x _ => x
  | _ => .skip
theorem cd_c50_4 : c50_4 = .seq c50_24 .ret := by kernel_rfl
noncomputable def r50_24 : Array Oper := regAt [1, 1, 0] body50
theorem cd_c50_24 : c50_24 = .region 7 r50_24 false := by kernel_rfl
end Go.Proofs.Ytbdphljmfoofoaa
