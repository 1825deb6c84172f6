/-
  The code of this seat's functions in named pieces: by our program cds.py.
-/
import Derived.Test.YtdanhpemheldlaaFn
import Derived.Test.YtdanhpemheldlaaSm
import Derived.KernelRfl
open Go Go.SY
namespace Go.Proofs.Ytdanhpemheldlaa
noncomputable def body4 : Code := match Try.f4.body with
  | some c => c
  | none => .skip
noncomputable def c4_1 : Code := match code4 with
  | .seq x _ => x
  | _ => .skip
noncomputable def c4_2 : Code := match code4 with
  | .seq _ x => x
  | _ => .skip
theorem cd_code4 : code4 = .seq c4_1 c4_2 := by kernel_rfl
noncomputable def r4_1 : Array Oper := regAt [0] body4
theorem cd_c4_1 : c4_1 = .region 0 r4_1 false := by kernel_rfl
noncomputable def c4_3 : Code := match c4_2 with
  | .seq x _ => x
  | _ => .skip
noncomputable def c4_4 : Code := match c4_2 with
  | .seq _ x => x
  | _ => .skip
theorem cd_c4_2 : c4_2 = .seq c4_3 c4_4 := by kernel_rfl
noncomputable def r4_3 : Array Oper := regAt [1, 0] body4
theorem cd_c4_3 : c4_3 = .region 1 r4_3 false := by kernel_rfl
noncomputable def c4_5 : Code := match c4_4 with
  | .seq x _ => x
  | _ => .skip
noncomputable def c4_6 : Code := match c4_4 with
  | .seq _ x => x
  | _ => .skip
theorem cd_c4_4 : c4_4 = .seq c4_5 c4_6 := by kernel_rfl
noncomputable def c4_7 : Code := match c4_5 with
  | .seq x _ => x
  | _ => .skip
noncomputable def c4_8 : Code := match c4_5 with
  | .seq _ x => x
  | _ => .skip
theorem cd_c4_5 : c4_5 = .seq c4_7 c4_8 := by kernel_rfl
noncomputable def r4_7 : Array Oper := regAt [1, 1, 0, 0] body4
theorem cd_c4_7 : c4_7 = .region 2 r4_7 false := by kernel_rfl
noncomputable def c4_9 : Code := match c4_8 with
  | .cond _ x _ => x
  | _ => .skip
theorem cd_c4_8 : c4_8 = .cond (.tmp 38) c4_9 .skip := by kernel_rfl
noncomputable def c4_11 : Code := match c4_9 with
  | .seq x _ => x
  | _ => .skip
theorem cd_c4_9 : c4_9 = .seq c4_11 .ret := by kernel_rfl
noncomputable def r4_11 : Array Oper := regAt [1, 1, 0, 1, 1, 0] body4
theorem cd_c4_11 : c4_11 = .region 3 r4_11 false := by kernel_rfl
noncomputable def c4_12 : Code := match c4_6 with
  | .seq x _ => x
  | _ => .skip
noncomputable def c4_13 : Code := match c4_6 with
  | .seq _ x => x
  | _ => .skip
theorem cd_c4_6 : c4_6 = .seq c4_12 c4_13 := by kernel_rfl
noncomputable def r4_12 : Array Oper := regAt [1, 1, 1, 0] body4
theorem cd_c4_12 : c4_12 = .region 4 r4_12 false := by kernel_rfl
noncomputable def c4_14 : Code := match c4_13 with
  | .seq x _ => x
  | _ => .skip
noncomputable def c4_15 : Code := match c4_13 with
  | .seq _ x => x
  | _ => .skip
theorem cd_c4_13 : c4_13 = .seq c4_14 c4_15 := by kernel_rfl
noncomputable def c4_16 : Code := match c4_14 with
  | .seq x _ => x
  | _ => .skip
noncomputable def c4_17 : Code := match c4_14 with
  | .seq _ x => x
  | _ => .skip
theorem cd_c4_14 : c4_14 = .seq c4_16 c4_17 := by kernel_rfl
noncomputable def r4_16 : Array Oper := regAt [1, 1, 1, 1, 0, 0] body4
theorem cd_c4_16 : c4_16 = .region 5 r4_16 false := by kernel_rfl
noncomputable def c4_18 : Code := match c4_17 with
  | .cond _ x _ => x
  | _ => .skip
theorem cd_c4_17 : c4_17 = .cond (.tmp 58) c4_18 .skip := by kernel_rfl
noncomputable def c4_20 : Code := match c4_18 with
  | .seq x _ => x
  | _ => .skip
theorem cd_c4_18 : c4_18 = .seq c4_20 .ret := by kernel_rfl
noncomputable def r4_20 : Array Oper := regAt [1, 1, 1, 1, 0, 1, 1, 0] body4
theorem cd_c4_20 : c4_20 = .region 6 r4_20 false := by kernel_rfl
noncomputable def c4_21 : Code := match c4_15 with
  | .seq x _ => x
  | _ => .skip
noncomputable def c4_22 : Code := match c4_15 with
  | .seq _ x => x
  | _ => .skip
theorem cd_c4_15 : c4_15 = .seq c4_21 c4_22 := by kernel_rfl
noncomputable def r4_21 : Array Oper := regAt [1, 1, 1, 1, 1, 0] body4
theorem cd_c4_21 : c4_21 = .region 7 r4_21 false := by kernel_rfl
noncomputable def c4_23 : Code := match c4_22 with
  | .seq x _ => x
  | _ => .skip
noncomputable def c4_24 : Code := match c4_22 with
  | .seq _ x => x
  | _ => .skip
theorem cd_c4_22 : c4_22 = .seq c4_23 c4_24 := by kernel_rfl
noncomputable def c4_25 : Code := match c4_23 with
  | .seq x _ => x
  | _ => .skip
noncomputable def c4_26 : Code := match c4_23 with
  | .seq _ x => x
  | _ => .skip
theorem cd_c4_23 : c4_23 = .seq c4_25 c4_26 := by kernel_rfl
noncomputable def r4_25 : Array Oper := regAt [1, 1, 1, 1, 1, 1, 0, 0] body4
theorem cd_c4_25 : c4_25 = .region 8 r4_25 false := by kernel_rfl
noncomputable def c4_27 : Code := match c4_26 with
  | .block _ x => x
  | _ => .skip
theorem cd_c4_26 : c4_26 = .block 0 c4_27 := by kernel_rfl
noncomputable def c4_28 : Code := match c4_27 with
  | .loop x => x
  | _ => .skip
theorem cd_c4_27 : c4_27 = .loop c4_28 := by kernel_rfl
noncomputable def c4_29 : Code := match c4_28 with
  | .seq x _ => x
  | _ => .skip
noncomputable def c4_30 : Code := match c4_28 with
  | .seq _ x => x
  | _ => .skip
theorem cd_c4_28 : c4_28 = .seq c4_29 c4_30 := by kernel_rfl
noncomputable def c4_31 : Code := match c4_29 with
  | .seq x _ => x
  | _ => .skip
noncomputable def c4_32 : Code := match c4_29 with
  | .seq _ x => x
  | _ => .skip
theorem cd_c4_29 : c4_29 = .seq c4_31 c4_32 := by kernel_rfl
noncomputable def r4_31 : Array Oper := regAt [1, 1, 1, 1, 1, 1, 0, 1, 1, 0, 0, 0] body4
theorem cd_c4_31 : c4_31 = .region 9 r4_31 false := by kernel_rfl
theorem cd_c4_32 : c4_32 = .cond (.tmp 67) .skip (.exit 0) := by kernel_rfl
noncomputable def c4_34 : Code := match c4_30 with
  | .seq x _ => x
  | _ => .skip
noncomputable def c4_35 : Code := match c4_30 with
  | .seq _ x => x
  | _ => .skip
theorem cd_c4_30 : c4_30 = .seq c4_34 c4_35 := by kernel_rfl
noncomputable def c4_36 : Code := match c4_34 with
  | .block _ x => x
  | _ => .skip
theorem cd_c4_34 : c4_34 = .block 1 c4_36 := by kernel_rfl
noncomputable def c4_37 : Code := match c4_36 with
  | .seq x _ => x
  | _ => .skip
noncomputable def c4_38 : Code := match c4_36 with
  | .seq _ x => x
  | _ => .skip
theorem cd_c4_36 : c4_36 = .seq c4_37 c4_38 := by kernel_rfl
noncomputable def r4_37 : Array Oper := regAt [1, 1, 1, 1, 1, 1, 0, 1, 1, 0, 1, 0, 1, 0] body4
theorem cd_c4_37 : c4_37 = .region 11 r4_37 false := by kernel_rfl
noncomputable def c4_39 : Code := match c4_38 with
  | .seq x _ => x
  | _ => .skip
noncomputable def c4_40 : Code := match c4_38 with
  | .seq _ x => x
  | _ => .skip
theorem cd_c4_38 : c4_38 = .seq c4_39 c4_40 := by kernel_rfl
noncomputable def r4_39 : Array Oper := regAt [1, 1, 1, 1, 1, 1, 0, 1, 1, 0, 1, 0, 1, 1, 0] body4
theorem cd_c4_39 : c4_39 = .region 12 r4_39 true := by kernel_rfl
noncomputable def c4_41 : Code := match c4_40 with
  | .cond _ x _ => x
  | _ => .skip
theorem cd_c4_40 : c4_40 = .cond (.tmp 98) c4_41 .skip := by kernel_rfl
noncomputable def c4_43 : Code := match c4_41 with
  | .seq x _ => x
  | _ => .skip
theorem cd_c4_41 : c4_41 = .seq c4_43 .ret := by kernel_rfl
noncomputable def r4_43 : Array Oper := regAt [1, 1, 1, 1, 1, 1, 0, 1, 1, 0, 1, 0, 1, 1, 1, 1, 0] body4
theorem cd_c4_43 : c4_43 = .region 13 r4_43 false := by kernel_rfl
noncomputable def r4_35 : Array Oper := regAt [1, 1, 1, 1, 1, 1, 0, 1, 1, 0, 1, 1] body4
theorem cd_c4_35 : c4_35 = .region 10 r4_35 false := by kernel_rfl
noncomputable def c4_44 : Code := match c4_24 with
  | .seq x _ => x
  | _ => .skip
noncomputable def c4_45 : Code := match c4_24 with
  | .seq _ x => x
  | _ => .skip
theorem cd_c4_24 : c4_24 = .seq c4_44 c4_45 := by kernel_rfl
noncomputable def c4_46 : Code := match c4_44 with
  | .seq x _ => x
  | _ => .skip
noncomputable def c4_47 : Code := match c4_44 with
  | .seq _ x => x
  | _ => .skip
theorem cd_c4_44 : c4_44 = .seq c4_46 c4_47 := by kernel_rfl
noncomputable def r4_46 : Array Oper := regAt [1, 1, 1, 1, 1, 1, 1, 0, 0] body4
theorem cd_c4_46 : c4_46 = .region 14 r4_46 false := by kernel_rfl
noncomputable def c4_48 : Code := match c4_47 with
  | .block _ x => x
  | _ => .skip
theorem cd_c4_47 : c4_47 = .block 2 c4_48 := by kernel_rfl
noncomputable def c4_49 : Code := match c4_48 with
  | .loop x => x
  | _ => .skip
theorem cd_c4_48 : c4_48 = .loop c4_49 := by kernel_rfl
noncomputable def c4_50 : Code := match c4_49 with
  | .seq x _ => x
  | _ => .skip
noncomputable def c4_51 : Code := match c4_49 with
  | .seq _ x => x
  | _ => .skip
theorem cd_c4_49 : c4_49 = .seq c4_50 c4_51 := by kernel_rfl
noncomputable def c4_52 : Code := match c4_50 with
  | .seq x _ => x
  | _ => .skip
noncomputable def c4_53 : Code := match c4_50 with
  | .seq _ x => x
  | _ => .skip
theorem cd_c4_50 : c4_50 = .seq c4_52 c4_53 := by kernel_rfl
noncomputable def r4_52 : Array Oper := regAt [1, 1, 1, 1, 1, 1, 1, 0, 1, 1, 0, 0, 0] body4
theorem cd_c4_52 : c4_52 = .region 15 r4_52 false := by kernel_rfl
theorem cd_c4_53 : c4_53 = .cond (.tmp 102) .skip (.exit 2) := by kernel_rfl
noncomputable def c4_55 : Code := match c4_51 with
  | .seq x _ => x
  | _ => .skip
noncomputable def c4_56 : Code := match c4_51 with
  | .seq _ x => x
  | _ => .skip
theorem cd_c4_51 : c4_51 = .seq c4_55 c4_56 := by kernel_rfl
noncomputable def c4_57 : Code := match c4_55 with
  | .block _ x => x
  | _ => .skip
theorem cd_c4_55 : c4_55 = .block 3 c4_57 := by kernel_rfl
noncomputable def c4_58 : Code := match c4_57 with
  | .seq x _ => x
  | _ => .skip
noncomputable def c4_59 : Code := match c4_57 with
  | .seq _ x => x
  | _ => .skip
theorem cd_c4_57 : c4_57 = .seq c4_58 c4_59 := by kernel_rfl
noncomputable def r4_58 : Array Oper := regAt [1, 1, 1, 1, 1, 1, 1, 0, 1, 1, 0, 1, 0, 1, 0] body4
theorem cd_c4_58 : c4_58 = .region 17 r4_58 false := by kernel_rfl
noncomputable def c4_60 : Code := match c4_59 with
  | .seq x _ => x
  | _ => .skip
noncomputable def c4_61 : Code := match c4_59 with
  | .seq _ x => x
  | _ => .skip
theorem cd_c4_59 : c4_59 = .seq c4_60 c4_61 := by kernel_rfl
noncomputable def r4_60 : Array Oper := regAt [1, 1, 1, 1, 1, 1, 1, 0, 1, 1, 0, 1, 0, 1, 1, 0] body4
theorem cd_c4_60 : c4_60 = .region 18 r4_60 false := by kernel_rfl
noncomputable def c4_62 : Code := match c4_61 with
  | .seq x _ => x
  | _ => .skip
noncomputable def c4_63 : Code := match c4_61 with
  | .seq _ x => x
  | _ => .skip
theorem cd_c4_61 : c4_61 = .seq c4_62 c4_63 := by kernel_rfl
noncomputable def r4_62 : Array Oper := regAt [1, 1, 1, 1, 1, 1, 1, 0, 1, 1, 0, 1, 0, 1, 1, 1, 0] body4
theorem cd_c4_62 : c4_62 = .region 19 r4_62 false := by kernel_rfl
noncomputable def c4_64 : Code := match c4_63 with
  | .seq x _ => x
  | _ => .skip
noncomputable def c4_65 : Code := match c4_63 with
  | .seq _ x => x
  | _ => .skip
theorem cd_c4_63 : c4_63 = .seq c4_64 c4_65 := by kernel_rfl
noncomputable def c4_66 : Code := match c4_64 with
  | .seq x _ => x
  | _ => .skip
noncomputable def c4_67 : Code := match c4_64 with
  | .seq _ x => x
  | _ => .skip
theorem cd_c4_64 : c4_64 = .seq c4_66 c4_67 := by kernel_rfl
noncomputable def r4_66 : Array Oper := regAt [1, 1, 1, 1, 1, 1, 1, 0, 1, 1, 0, 1, 0, 1, 1, 1, 1, 0, 0] body4
theorem cd_c4_66 : c4_66 = .region 20 r4_66 false := by kernel_rfl
noncomputable def c4_68 : Code := match c4_67 with
  | .block _ x => x
  | _ => .skip
theorem cd_c4_67 : c4_67 = .block 4 c4_68 := by kernel_rfl
noncomputable def c4_69 : Code := match c4_68 with
  | .loop x => x
  | _ => .skip
theorem cd_c4_68 : c4_68 = .loop c4_69 := by kernel_rfl
noncomputable def c4_70 : Code := match c4_69 with
  | .seq x _ => x
  | _ => .skip
noncomputable def c4_71 : Code := match c4_69 with
  | .seq _ x => x
  | _ => .skip
theorem cd_c4_69 : c4_69 = .seq c4_70 c4_71 := by kernel_rfl
noncomputable def c4_72 : Code := match c4_70 with
  | .seq x _ => x
  | _ => .skip
noncomputable def c4_73 : Code := match c4_70 with
  | .seq _ x => x
  | _ => .skip
theorem cd_c4_70 : c4_70 = .seq c4_72 c4_73 := by kernel_rfl
noncomputable def r4_72 : Array Oper := regAt [1, 1, 1, 1, 1, 1, 1, 0, 1, 1, 0, 1, 0, 1, 1, 1, 1, 0, 1, 1, 0, 0, 0] body4
theorem cd_c4_72 : c4_72 = .region 21 r4_72 false := by kernel_rfl
theorem cd_c4_73 : c4_73 = .cond (.tmp 128) .skip (.exit 4) := by kernel_rfl
noncomputable def c4_75 : Code := match c4_71 with
  | .seq x _ => x
  | _ => .skip
noncomputable def c4_76 : Code := match c4_71 with
  | .seq _ x => x
  | _ => .skip
theorem cd_c4_71 : c4_71 = .seq c4_75 c4_76 := by kernel_rfl
noncomputable def c4_77 : Code := match c4_75 with
  | .block _ x => x
  | _ => .skip
theorem cd_c4_75 : c4_75 = .block 5 c4_77 := by kernel_rfl
noncomputable def r4_77 : Array Oper := regAt [1, 1, 1, 1, 1, 1, 1, 0, 1, 1, 0, 1, 0, 1, 1, 1, 1, 0, 1, 1, 0, 1, 0, 1] body4
theorem cd_c4_77 : c4_77 = .region 23 r4_77 true := by kernel_rfl
noncomputable def r4_76 : Array Oper := regAt [1, 1, 1, 1, 1, 1, 1, 0, 1, 1, 0, 1, 0, 1, 1, 1, 1, 0, 1, 1, 0, 1, 1] body4
theorem cd_c4_76 : c4_76 = .region 22 r4_76 false := by kernel_rfl
noncomputable def c4_78 : Code := match c4_65 with
  | .seq x _ => x
  | _ => .skip
noncomputable def c4_79 : Code := match c4_65 with
  | .seq _ x => x
  | _ => .skip
theorem cd_c4_65 : c4_65 = .seq c4_78 c4_79 := by kernel_rfl
noncomputable def r4_78 : Array Oper := regAt [1, 1, 1, 1, 1, 1, 1, 0, 1, 1, 0, 1, 0, 1, 1, 1, 1, 1, 0] body4
theorem cd_c4_78 : c4_78 = .region 24 r4_78 true := by kernel_rfl
noncomputable def c4_80 : Code := match c4_79 with
  | .cond _ x _ => x
  | _ => .skip
theorem cd_c4_79 : c4_79 = .cond (.tmp 171) c4_80 .skip := by kernel_rfl
noncomputable def c4_82 : Code := match c4_80 with
  | .seq x _ => x
  | _ => .skip
theorem cd_c4_80 : c4_80 = .seq c4_82 .ret := by kernel_rfl
noncomputable def r4_82 : Array Oper := regAt [1, 1, 1, 1, 1, 1, 1, 0, 1, 1, 0, 1, 0, 1, 1, 1, 1, 1, 1, 1, 0] body4
theorem cd_c4_82 : c4_82 = .region 25 r4_82 false := by kernel_rfl
noncomputable def r4_56 : Array Oper := regAt [1, 1, 1, 1, 1, 1, 1, 0, 1, 1, 0, 1, 1] body4
theorem cd_c4_56 : c4_56 = .region 16 r4_56 false := by kernel_rfl
noncomputable def c4_83 : Code := match c4_45 with
  | .seq x _ => x
  | _ => .skip
theorem cd_c4_45 : c4_45 = .seq c4_83 .ret := by kernel_rfl
noncomputable def r4_83 : Array Oper := regAt [1, 1, 1, 1, 1, 1, 1, 1, 0] body4
theorem cd_c4_83 : c4_83 = .region 26 r4_83 false := by kernel_rfl
noncomputable def body10 : Code := match Try.f10.body with
  | some c => c
  | none => .skip
noncomputable def c10_1 : Code := match code10 with
  | .seq x _ => x
  | _ => .skip
noncomputable def c10_2 : Code := match code10 with
  | .seq _ x => x
  | _ => .skip
theorem cd_code10 : code10 = .seq c10_1 c10_2 := by kernel_rfl
noncomputable def r10_1 : Array Oper := regAt [0] body10
theorem cd_c10_1 : c10_1 = .region 0 r10_1 false := by kernel_rfl
noncomputable def c10_3 : Code := match c10_2 with
  | .seq x _ => x
  | _ => .skip
noncomputable def c10_4 : Code := match c10_2 with
  | .seq _ x => x
  | _ => .skip
theorem cd_c10_2 : c10_2 = .seq c10_3 c10_4 := by kernel_rfl
noncomputable def c10_5 : Code := match c10_3 with
  | .seq x _ => x
  | _ => .skip
noncomputable def c10_6 : Code := match c10_3 with
  | .seq _ x => x
  | _ => .skip
theorem cd_c10_3 : c10_3 = .seq c10_5 c10_6 := by kernel_rfl
noncomputable def r10_5 : Array Oper := regAt [1, 0, 0] body10
theorem cd_c10_5 : c10_5 = .region 1 r10_5 false := by kernel_rfl
noncomputable def c10_7 : Code := match c10_6 with
  | .cond _ x _ => x
  | _ => .skip
theorem cd_c10_6 : c10_6 = .cond (.tmp 20) c10_7 .skip := by kernel_rfl
noncomputable def c10_9 : Code := match c10_7 with
  | .seq x _ => x
  | _ => .skip
theorem cd_c10_7 : c10_7 = .seq c10_9 .ret := by kernel_rfl
noncomputable def r10_9 : Array Oper := regAt [1, 0, 1, 1, 0] body10
theorem cd_c10_9 : c10_9 = .region 2 r10_9 false := by kernel_rfl
noncomputable def c10_10 : Code := match c10_4 with
  | .seq x _ => x
  | _ => .skip
noncomputable def c10_11 : Code := match c10_4 with
  | .seq _ x => x
  | _ => .skip
theorem cd_c10_4 : c10_4 = .seq c10_10 c10_11 := by kernel_rfl
noncomputable def r10_10 : Array Oper := regAt [1, 1, 0] body10
theorem cd_c10_10 : c10_10 = .region 3 r10_10 false := by kernel_rfl
noncomputable def c10_12 : Code := match c10_11 with
  | .seq x _ => x
  | _ => .skip
noncomputable def c10_13 : Code := match c10_11 with
  | .seq _ x => x
  | _ => .skip
theorem cd_c10_11 : c10_11 = .seq c10_12 c10_13 := by kernel_rfl
noncomputable def c10_14 : Code := match c10_12 with
  | .seq x _ => x
  | _ => .skip
noncomputable def c10_15 : Code := match c10_12 with
  | .seq _ x => x
  | _ => .skip
theorem cd_c10_12 : c10_12 = .seq c10_14 c10_15 := by kernel_rfl
noncomputable def r10_14 : Array Oper := regAt [1, 1, 1, 0, 0] body10
theorem cd_c10_14 : c10_14 = .region 4 r10_14 false := by kernel_rfl
noncomputable def c10_16 : Code := match c10_15 with
  | .block _ x => x
  | _ => .skip
theorem cd_c10_15 : c10_15 = .block 0 c10_16 := by kernel_rfl
noncomputable def c10_17 : Code := match c10_16 with
  | .loop x => x
  | _ => .skip
theorem cd_c10_16 : c10_16 = .loop c10_17 := by kernel_rfl
noncomputable def c10_18 : Code := match c10_17 with
  | .seq x _ => x
  | _ => .skip
noncomputable def c10_19 : Code := match c10_17 with
  | .seq _ x => x
  | _ => .skip
theorem cd_c10_17 : c10_17 = .seq c10_18 c10_19 := by kernel_rfl
noncomputable def r10_18 : Array Oper := regAt [1, 1, 1, 0, 1, 1, 0, 0] body10
theorem cd_c10_18 : c10_18 = .region 5 r10_18 false := by kernel_rfl
noncomputable def c10_20 : Code := match c10_19 with
  | .seq x _ => x
  | _ => .skip
noncomputable def c10_21 : Code := match c10_19 with
  | .seq _ x => x
  | _ => .skip
theorem cd_c10_19 : c10_19 = .seq c10_20 c10_21 := by kernel_rfl
theorem cd_c10_20 : c10_20 = .cond (.tmp 26) .skip (.exit 0) := by kernel_rfl
noncomputable def c10_23 : Code := match c10_21 with
  | .seq x _ => x
  | _ => .skip
noncomputable def c10_24 : Code := match c10_21 with
  | .seq _ x => x
  | _ => .skip
theorem cd_c10_21 : c10_21 = .seq c10_23 c10_24 := by kernel_rfl
noncomputable def c10_25 : Code := match c10_23 with
  | .block _ x => x
  | _ => .skip
theorem cd_c10_23 : c10_23 = .block 1 c10_25 := by kernel_rfl
noncomputable def c10_26 : Code := match c10_25 with
  | .seq x _ => x
  | _ => .skip
noncomputable def c10_27 : Code := match c10_25 with
  | .seq _ x => x
  | _ => .skip
theorem cd_c10_25 : c10_25 = .seq c10_26 c10_27 := by kernel_rfl
noncomputable def r10_26 : Array Oper := regAt [1, 1, 1, 0, 1, 1, 0, 1, 1, 0, 1, 0] body10
theorem cd_c10_26 : c10_26 = .region 6 r10_26 false := by kernel_rfl
noncomputable def c10_28 : Code := match c10_27 with
  | .seq x _ => x
  | _ => .skip
noncomputable def c10_29 : Code := match c10_27 with
  | .seq _ x => x
  | _ => .skip
theorem cd_c10_27 : c10_27 = .seq c10_28 c10_29 := by kernel_rfl
noncomputable def r10_28 : Array Oper := regAt [1, 1, 1, 0, 1, 1, 0, 1, 1, 0, 1, 1, 0] body10
theorem cd_c10_28 : c10_28 = .region 7 r10_28 false := by kernel_rfl
noncomputable def c10_30 : Code := match c10_29 with
  | .seq x _ => x
  | _ => .skip
noncomputable def c10_31 : Code := match c10_29 with
  | .seq _ x => x
  | _ => .skip
theorem cd_c10_29 : c10_29 = .seq c10_30 c10_31 := by kernel_rfl
noncomputable def c10_32 : Code := match c10_30 with
  | .seq x _ => x
  | _ => .skip
noncomputable def c10_33 : Code := match c10_30 with
  | .seq _ x => x
  | _ => .skip
theorem cd_c10_30 : c10_30 = .seq c10_32 c10_33 := by kernel_rfl
noncomputable def r10_32 : Array Oper := regAt [1, 1, 1, 0, 1, 1, 0, 1, 1, 0, 1, 1, 1, 0, 0] body10
theorem cd_c10_32 : c10_32 = .region 8 r10_32 false := by kernel_rfl
noncomputable def c10_34 : Code := match c10_33 with
  | .cond _ x _ => x
  | _ => .skip
theorem cd_c10_33 : c10_33 = .cond (.tmp 37) c10_34 .skip := by kernel_rfl
noncomputable def c10_36 : Code := match c10_34 with
  | .seq x _ => x
  | _ => .skip
theorem cd_c10_34 : c10_34 = .seq c10_36 (.exit 1) := by kernel_rfl
noncomputable def r10_36 : Array Oper := regAt [1, 1, 1, 0, 1, 1, 0, 1, 1, 0, 1, 1, 1, 0, 1, 1, 0] body10
theorem cd_c10_36 : c10_36 = .region 9 r10_36 false := by kernel_rfl
noncomputable def c10_37 : Code := match c10_31 with
  | .seq x _ => x
  | _ => .skip
noncomputable def c10_38 : Code := match c10_31 with
  | .seq _ x => x
  | _ => .skip
theorem cd_c10_31 : c10_31 = .seq c10_37 c10_38 := by kernel_rfl
noncomputable def r10_37 : Array Oper := regAt [1, 1, 1, 0, 1, 1, 0, 1, 1, 0, 1, 1, 1, 1, 0] body10
theorem cd_c10_37 : c10_37 = .region 10 r10_37 true := by kernel_rfl
noncomputable def c10_39 : Code := match c10_38 with
  | .seq x _ => x
  | _ => .skip
noncomputable def c10_40 : Code := match c10_38 with
  | .seq _ x => x
  | _ => .skip
theorem cd_c10_38 : c10_38 = .seq c10_39 c10_40 := by kernel_rfl
noncomputable def r10_39 : Array Oper := regAt [1, 1, 1, 0, 1, 1, 0, 1, 1, 0, 1, 1, 1, 1, 1, 0] body10
theorem cd_c10_39 : c10_39 = .region 11 r10_39 false := by kernel_rfl
noncomputable def c10_41 : Code := match c10_40 with
  | .cond _ x _ => x
  | _ => .skip
theorem cd_c10_40 : c10_40 = .cond (.tmp 53) c10_41 .skip := by kernel_rfl
noncomputable def r10_41 : Array Oper := regAt [1, 1, 1, 0, 1, 1, 0, 1, 1, 0, 1, 1, 1, 1, 1, 1, 1] body10
theorem cd_c10_41 : c10_41 = .region 12 r10_41 false := by kernel_rfl
noncomputable def r10_24 : Array Oper := regAt [1, 1, 1, 0, 1, 1, 0, 1, 1, 1] body10
theorem cd_c10_24 : c10_24 = .region 13 r10_24 false := by kernel_rfl
noncomputable def c10_43 : Code := match c10_13 with
  | .seq x _ => x
  | _ => .skip
theorem cd_c10_13 : c10_13 = .seq c10_43 .ret := by kernel_rfl
noncomputable def r10_43 : Array Oper := regAt [1, 1, 1, 1, 0] body10
theorem cd_c10_43 : c10_43 = .region 14 r10_43 false := by kernel_rfl
noncomputable def body13 : Code := match Try.f13.body with
  | some c => c
  | none => .skip
noncomputable def c13_1 : Code := match code13 with
  | .seq x _ => x
  | _ => .skip
noncomputable def c13_2 : Code := match code13 with
  | .seq _ x => x
  | _ => .skip
theorem cd_code13 : code13 = .seq c13_1 c13_2 := by kernel_rfl
noncomputable def r13_1 : Array Oper := regAt [0] body13
theorem cd_c13_1 : c13_1 = .region 0 r13_1 false := by kernel_rfl
noncomputable def c13_3 : Code := match c13_2 with
  | .seq x _ => x
  | _ => .skip
noncomputable def c13_4 : Code := match c13_2 with
  | .seq _ x => x
  | _ => .skip
theorem cd_c13_2 : c13_2 = .seq c13_3 c13_4 := by kernel_rfl
noncomputable def r13_3 : Array Oper := regAt [1, 0] body13
theorem cd_c13_3 : c13_3 = .region 1 r13_3 false := by kernel_rfl
noncomputable def c13_5 : Code := match c13_4 with
  | .seq x _ => x
  | _ => .skip
noncomputable def c13_6 : Code := match c13_4 with
  | .seq _ x => x
  | _ => .skip
theorem cd_c13_4 : c13_4 = .seq c13_5 c13_6 := by kernel_rfl
noncomputable def c13_7 : Code := match c13_5 with
  | .seq x _ => x
  | _ => .skip
noncomputable def c13_8 : Code := match c13_5 with
  | .seq _ x => x
  | _ => .skip
theorem cd_c13_5 : c13_5 = .seq c13_7 c13_8 := by kernel_rfl
noncomputable def r13_7 : Array Oper := regAt [1, 1, 0, 0] body13
theorem cd_c13_7 : c13_7 = .region 2 r13_7 false := by kernel_rfl
noncomputable def c13_9 : Code := match c13_8 with
  | .block _ x => x
  | _ => .skip
theorem cd_c13_8 : c13_8 = .block 0 c13_9 := by kernel_rfl
noncomputable def c13_10 : Code := match c13_9 with
  | .loop x => x
  | _ => .skip
theorem cd_c13_9 : c13_9 = .loop c13_10 := by kernel_rfl
noncomputable def c13_11 : Code := match c13_10 with
  | .seq x _ => x
  | _ => .skip
noncomputable def c13_12 : Code := match c13_10 with
  | .seq _ x => x
  | _ => .skip
theorem cd_c13_10 : c13_10 = .seq c13_11 c13_12 := by kernel_rfl
noncomputable def r13_11 : Array Oper := regAt [1, 1, 0, 1, 1, 0, 0] body13
theorem cd_c13_11 : c13_11 = .region 3 r13_11 false := by kernel_rfl
noncomputable def c13_13 : Code := match c13_12 with
  | .seq x _ => x
  | _ => .skip
noncomputable def c13_14 : Code := match c13_12 with
  | .seq _ x => x
  | _ => .skip
theorem cd_c13_12 : c13_12 = .seq c13_13 c13_14 := by kernel_rfl
theorem cd_c13_13 : c13_13 = .cond (.tmp 9) .skip (.exit 0) := by kernel_rfl
noncomputable def c13_16 : Code := match c13_14 with
  | .seq x _ => x
  | _ => .skip
noncomputable def c13_17 : Code := match c13_14 with
  | .seq _ x => x
  | _ => .skip
theorem cd_c13_14 : c13_14 = .seq c13_16 c13_17 := by kernel_rfl
noncomputable def c13_18 : Code := match c13_16 with
  | .block _ x => x
  | _ => .skip
theorem cd_c13_16 : c13_16 = .block 1 c13_18 := by kernel_rfl
noncomputable def c13_19 : Code := match c13_18 with
  | .seq x _ => x
  | _ => .skip
noncomputable def c13_20 : Code := match c13_18 with
  | .seq _ x => x
  | _ => .skip
theorem cd_c13_18 : c13_18 = .seq c13_19 c13_20 := by kernel_rfl
noncomputable def r13_19 : Array Oper := regAt [1, 1, 0, 1, 1, 0, 1, 1, 0, 1, 0] body13
theorem cd_c13_19 : c13_19 = .region 4 r13_19 false := by kernel_rfl
noncomputable def c13_21 : Code := match c13_20 with
  | .seq x _ => x
  | _ => .skip
noncomputable def c13_22 : Code := match c13_20 with
  | .seq _ x => x
  | _ => .skip
theorem cd_c13_20 : c13_20 = .seq c13_21 c13_22 := by kernel_rfl
noncomputable def c13_23 : Code := match c13_21 with
  | .seq x _ => x
  | _ => .skip
noncomputable def c13_24 : Code := match c13_21 with
  | .seq _ x => x
  | _ => .skip
theorem cd_c13_21 : c13_21 = .seq c13_23 c13_24 := by kernel_rfl
noncomputable def r13_23 : Array Oper := regAt [1, 1, 0, 1, 1, 0, 1, 1, 0, 1, 1, 0, 0] body13
theorem cd_c13_23 : c13_23 = .region 5 r13_23 false := by kernel_rfl
noncomputable def c13_25 : Code := match c13_24 with
  | .cond _ x _ => x
  | _ => .skip
theorem cd_c13_24 : c13_24 = .cond (.tmp 20) c13_25 .skip := by kernel_rfl
noncomputable def c13_27 : Code := match c13_25 with
  | .seq x _ => x
  | _ => .skip
theorem cd_c13_25 : c13_25 = .seq c13_27 .ret := by kernel_rfl
noncomputable def r13_27 : Array Oper := regAt [1, 1, 0, 1, 1, 0, 1, 1, 0, 1, 1, 0, 1, 1, 0] body13
theorem cd_c13_27 : c13_27 = .region 6 r13_27 false := by kernel_rfl
noncomputable def r13_22 : Array Oper := regAt [1, 1, 0, 1, 1, 0, 1, 1, 0, 1, 1, 1] body13
theorem cd_c13_22 : c13_22 = .region 7 r13_22 false := by kernel_rfl
noncomputable def r13_17 : Array Oper := regAt [1, 1, 0, 1, 1, 0, 1, 1, 1] body13
theorem cd_c13_17 : c13_17 = .region 8 r13_17 false := by kernel_rfl
noncomputable def c13_28 : Code := match c13_6 with
  | .seq x _ => x
  | _ => .skip
theorem cd_c13_6 : c13_6 = .seq c13_28 .ret := by kernel_rfl
noncomputable def r13_28 : Array Oper := regAt [1, 1, 1, 0] body13
theorem cd_c13_28 : c13_28 = .region 9 r13_28 false := by kernel_rfl
noncomputable def body14 : Code := match Try.f14.body with
  | some c => c
  | none => .skip
noncomputable def c14_1 : Code := match code14 with
  | .seq x _ => x
  | _ => .skip
noncomputable def c14_2 : Code := match code14 with
  | .seq _ x => x
  | _ => .skip
theorem cd_code14 : code14 = .seq c14_1 c14_2 := by kernel_rfl
noncomputable def r14_1 : Array Oper := regAt [0] body14
theorem cd_c14_1 : c14_1 = .region 0 r14_1 false := by kernel_rfl
noncomputable def c14_3 : Code := match c14_2 with
  | .seq x _ => x
  | _ => .skip
noncomputable def c14_4 : Code := match c14_2 with
  | .seq _ x => x
  | _ => .skip
theorem cd_c14_2 : c14_2 = .seq c14_3 c14_4 := by kernel_rfl
noncomputable def c14_5 : Code := match c14_3 with
  | .seq x _ => x
  | _ => .skip
noncomputable def c14_6 : Code := match c14_3 with
  | .seq _ x => x
  | _ => .skip
theorem cd_c14_3 : c14_3 = .seq c14_5 c14_6 := by kernel_rfl
noncomputable def r14_5 : Array Oper := regAt [1, 0, 0] body14
theorem cd_c14_5 : c14_5 = .region 1 r14_5 false := by kernel_rfl
noncomputable def c14_7 : Code := match c14_6 with
  | .block _ x => x
  | _ => .skip
theorem cd_c14_6 : c14_6 = .block 0 c14_7 := by kernel_rfl
noncomputable def c14_8 : Code := match c14_7 with
  | .loop x => x
  | _ => .skip
theorem cd_c14_7 : c14_7 = .loop c14_8 := by kernel_rfl
noncomputable def c14_9 : Code := match c14_8 with
  | .seq x _ => x
  | _ => .skip
noncomputable def c14_10 : Code := match c14_8 with
  | .seq _ x => x
  | _ => .skip
theorem cd_c14_8 : c14_8 = .seq c14_9 c14_10 := by kernel_rfl
noncomputable def c14_11 : Code := match c14_9 with
  | .seq x _ => x
  | _ => .skip
noncomputable def c14_12 : Code := match c14_9 with
  | .seq _ x => x
  | _ => .skip
theorem cd_c14_9 : c14_9 = .seq c14_11 c14_12 := by kernel_rfl
noncomputable def r14_11 : Array Oper := regAt [1, 0, 1, 1, 0, 0, 0] body14
theorem cd_c14_11 : c14_11 = .region 2 r14_11 false := by kernel_rfl
theorem cd_c14_12 : c14_12 = .cond (.tmp 7) .skip (.exit 0) := by kernel_rfl
noncomputable def c14_14 : Code := match c14_10 with
  | .seq x _ => x
  | _ => .skip
noncomputable def c14_15 : Code := match c14_10 with
  | .seq _ x => x
  | _ => .skip
theorem cd_c14_10 : c14_10 = .seq c14_14 c14_15 := by kernel_rfl
noncomputable def c14_16 : Code := match c14_14 with
  | .block _ x => x
  | _ => .skip
theorem cd_c14_14 : c14_14 = .block 1 c14_16 := by kernel_rfl
noncomputable def c14_17 : Code := match c14_16 with
  | .seq x _ => x
  | _ => .skip
noncomputable def c14_18 : Code := match c14_16 with
  | .seq _ x => x
  | _ => .skip
theorem cd_c14_16 : c14_16 = .seq c14_17 c14_18 := by kernel_rfl
noncomputable def r14_17 : Array Oper := regAt [1, 0, 1, 1, 0, 1, 0, 1, 0] body14
theorem cd_c14_17 : c14_17 = .region 4 r14_17 false := by kernel_rfl
noncomputable def c14_19 : Code := match c14_18 with
  | .cond _ x _ => x
  | _ => .skip
theorem cd_c14_18 : c14_18 = .cond (.tmp 15) c14_19 .skip := by kernel_rfl
noncomputable def c14_21 : Code := match c14_19 with
  | .seq x _ => x
  | _ => .skip
theorem cd_c14_19 : c14_19 = .seq c14_21 .ret := by kernel_rfl
noncomputable def r14_21 : Array Oper := regAt [1, 0, 1, 1, 0, 1, 0, 1, 1, 1, 0] body14
theorem cd_c14_21 : c14_21 = .region 5 r14_21 false := by kernel_rfl
noncomputable def r14_15 : Array Oper := regAt [1, 0, 1, 1, 0, 1, 1] body14
theorem cd_c14_15 : c14_15 = .region 3 r14_15 false := by kernel_rfl
noncomputable def c14_22 : Code := match c14_4 with
  | .seq x _ => x
  | _ => .skip
theorem cd_c14_4 : c14_4 = .seq c14_22 .ret := by kernel_rfl
noncomputable def r14_22 : Array Oper := regAt [1, 1, 0] body14
theorem cd_c14_22 : c14_22 = .region 6 r14_22 false := by kernel_rfl
noncomputable def body15 : Code := match Try.f15.body with
  | some c => c
  | none => .skip
noncomputable def c15_1 : Code := match code15 with
  | .seq x _ => x
  | _ => .skip
noncomputable def c15_2 : Code := match code15 with
  | .seq _ x => x
  | _ => .skip
theorem cd_code15 : code15 = .seq c15_1 c15_2 := by kernel_rfl
noncomputable def r15_1 : Array Oper := regAt [0] body15
theorem cd_c15_1 : c15_1 = .region 0 r15_1 false := by kernel_rfl
noncomputable def c15_3 : Code := match c15_2 with
  | .seq x _ => x
  | _ => .skip
noncomputable def c15_4 : Code := match c15_2 with
  | .seq _ x => x
  | _ => .skip
theorem cd_c15_2 : c15_2 = .seq c15_3 c15_4 := by kernel_rfl
noncomputable def c15_5 : Code := match c15_3 with
  | .seq x _ => x
  | _ => .skip
noncomputable def c15_6 : Code := match c15_3 with
  | .seq _ x => x
  | _ => .skip
theorem cd_c15_3 : c15_3 = .seq c15_5 c15_6 := by kernel_rfl
noncomputable def r15_5 : Array Oper := regAt [1, 0, 0] body15
theorem cd_c15_5 : c15_5 = .region 1 r15_5 false := by kernel_rfl
noncomputable def c15_7 : Code := match c15_6 with
  | .seq x _ => x
  | _ => .skip
noncomputable def c15_8 : Code := match c15_6 with
  | .seq _ x => x
  | _ => .skip
theorem cd_c15_6 : c15_6 = .seq c15_7 c15_8 := by kernel_rfl
noncomputable def r15_7 : Array Oper := regAt [1, 0, 1, 0] body15
theorem cd_c15_7 : c15_7 = .region 2 r15_7 false := by kernel_rfl
noncomputable def c15_9 : Code := match c15_8 with
  | .cond _ x _ => x
  | _ => .skip
theorem cd_c15_8 : c15_8 = .cond (.tmp 12) c15_9 .skip := by kernel_rfl
noncomputable def c15_11 : Code := match c15_9 with
  | .seq x _ => x
  | _ => .skip
theorem cd_c15_9 : c15_9 = .seq c15_11 .ret := by kernel_rfl
noncomputable def r15_11 : Array Oper := regAt [1, 0, 1, 1, 1, 0] body15
theorem cd_c15_11 : c15_11 = .region 3 r15_11 false := by kernel_rfl
noncomputable def c15_12 : Code := match c15_4 with
  | .seq x _ => x
  | _ => .skip
noncomputable def c15_13 : Code := match c15_4 with
  | .seq _ x => x
  | _ => .skip
theorem cd_c15_4 : c15_4 = .seq c15_12 c15_13 := by kernel_rfl
noncomputable def r15_12 : Array Oper := regAt [1, 1, 0] body15
theorem cd_c15_12 : c15_12 = .region 4 r15_12 false := by kernel_rfl
noncomputable def c15_14 : Code := match c15_13 with
  | .seq x _ => x
  | _ => .skip
noncomputable def c15_15 : Code := match c15_13 with
  | .seq _ x => x
  | _ => .skip
theorem cd_c15_13 : c15_13 = .seq c15_14 c15_15 := by kernel_rfl
noncomputable def c15_16 : Code := match c15_14 with
  | .seq x _ => x
  | _ => .skip
noncomputable def c15_17 : Code := match c15_14 with
  | .seq _ x => x
  | _ => .skip
theorem cd_c15_14 : c15_14 = .seq c15_16 c15_17 := by kernel_rfl
noncomputable def r15_16 : Array Oper := regAt [1, 1, 1, 0, 0] body15
theorem cd_c15_16 : c15_16 = .region 5 r15_16 false := by kernel_rfl
noncomputable def c15_18 : Code := match c15_17 with
  | .cond _ x _ => x
  | _ => .skip
theorem cd_c15_17 : c15_17 = .cond (.tmp 22) c15_18 .skip := by kernel_rfl
noncomputable def c15_20 : Code := match c15_18 with
  | .seq x _ => x
  | _ => .skip
theorem cd_c15_18 : c15_18 = .seq c15_20 .ret := by kernel_rfl
noncomputable def r15_20 : Array Oper := regAt [1, 1, 1, 0, 1, 1, 0] body15
theorem cd_c15_20 : c15_20 = .region 6 r15_20 false := by kernel_rfl
noncomputable def c15_21 : Code := match c15_15 with
  | .seq x _ => x
  | _ => .skip
theorem cd_c15_15 : c15_15 = .seq c15_21 .ret := by kernel_rfl
noncomputable def r15_21 : Array Oper := regAt [1, 1, 1, 1, 0] body15
theorem cd_c15_21 : c15_21 = .region 7 r15_21 false := by kernel_rfl
noncomputable def body16 : Code := match Try.f16.body with
  | some c => c
  | none => .skip
noncomputable def c16_1 : Code := match code16 with
  | .seq x _ => x
  | _ => .skip
noncomputable def c16_2 : Code := match code16 with
  | .seq _ x => x
  | _ => .skip
theorem cd_code16 : code16 = .seq c16_1 c16_2 := by kernel_rfl
noncomputable def r16_1 : Array Oper := regAt [0] body16
theorem cd_c16_1 : c16_1 = .region 0 r16_1 false := by kernel_rfl
noncomputable def c16_3 : Code := match c16_2 with
  | .seq x _ => x
  | _ => .skip
theorem cd_c16_2 : c16_2 = .seq c16_3 .ret := by kernel_rfl
noncomputable def r16_3 : Array Oper := regAt [1, 0] body16
theorem cd_c16_3 : c16_3 = .region 1 r16_3 false := by kernel_rfl
noncomputable def body19 : Code := match Try.f19.body with
  | some c => c
  | none => .skip
noncomputable def c19_1 : Code := match code19 with
  | .seq x _ => x
  | _ => .skip
noncomputable def c19_2 : Code := match code19 with
  | .seq _ x => x
  | _ => .skip
theorem cd_code19 : code19 = .seq c19_1 c19_2 := by kernel_rfl
noncomputable def r19_1 : Array Oper := regAt [0] body19
theorem cd_c19_1 : c19_1 = .region 0 r19_1 false := by kernel_rfl
noncomputable def c19_3 : Code := match c19_2 with
  | .seq x _ => x
  | _ => .skip
theorem cd_c19_2 : c19_2 = .seq c19_3 .ret := by kernel_rfl
noncomputable def r19_3 : Array Oper := regAt [1, 0] body19
theorem cd_c19_3 : c19_3 = .region 1 r19_3 false := by kernel_rfl
noncomputable def body20 : Code := match Try.f20.body with
  | some c => c
  | none => .skip
noncomputable def c20_1 : Code := match code20 with
  | .seq x _ => x
  | _ => .skip
noncomputable def c20_2 : Code := match code20 with
  | .seq _ x => x
  | _ => .skip
theorem cd_code20 : code20 = .seq c20_1 c20_2 := by kernel_rfl
noncomputable def r20_1 : Array Oper := regAt [0] body20
theorem cd_c20_1 : c20_1 = .region 0 r20_1 false := by kernel_rfl
noncomputable def c20_3 : Code := match c20_2 with
  | .seq x _ => x
  | _ => .skip
theorem cd_c20_2 : c20_2 = .seq c20_3 .ret := by kernel_rfl
noncomputable def r20_3 : Array Oper := regAt [1, 0] body20
theorem cd_c20_3 : c20_3 = .region 1 r20_3 false := by kernel_rfl
noncomputable def body21 : Code := match Try.f21.body with
  | some c => c
  | none => .skip
noncomputable def c21_1 : Code := match code21 with
  | .seq x _ => x
  | _ => .skip
noncomputable def c21_2 : Code := match code21 with
  | .seq _ x => x
  | _ => .skip
theorem cd_code21 : code21 = .seq c21_1 c21_2 := by kernel_rfl
noncomputable def r21_1 : Array Oper := regAt [0] body21
theorem cd_c21_1 : c21_1 = .region 0 r21_1 false := by kernel_rfl
noncomputable def c21_3 : Code := match c21_2 with
  | .seq x _ => x
  | _ => .skip
noncomputable def c21_4 : Code := match c21_2 with
  | .seq _ x => x
  | _ => .skip
theorem cd_c21_2 : c21_2 = .seq c21_3 c21_4 := by kernel_rfl
noncomputable def c21_5 : Code := match c21_3 with
  | .seq x _ => x
  | _ => .skip
noncomputable def c21_6 : Code := match c21_3 with
  | .seq _ x => x
  | _ => .skip
theorem cd_c21_3 : c21_3 = .seq c21_5 c21_6 := by kernel_rfl
noncomputable def r21_5 : Array Oper := regAt [1, 0, 0] body21
theorem cd_c21_5 : c21_5 = .region 1 r21_5 false := by kernel_rfl
noncomputable def c21_7 : Code := match c21_6 with
  | .cond _ x _ => x
  | _ => .skip
theorem cd_c21_6 : c21_6 = .cond (.tmp 6) c21_7 .skip := by kernel_rfl
noncomputable def c21_9 : Code := match c21_7 with
  | .seq x _ => x
  | _ => .skip
theorem cd_c21_7 : c21_7 = .seq c21_9 .ret := by kernel_rfl
noncomputable def r21_9 : Array Oper := regAt [1, 0, 1, 1, 0] body21
theorem cd_c21_9 : c21_9 = .region 2 r21_9 false := by kernel_rfl
noncomputable def c21_10 : Code := match c21_4 with
  | .seq x _ => x
  | _ => .skip
noncomputable def c21_11 : Code := match c21_4 with
  | .seq _ x => x
  | _ => .skip
theorem cd_c21_4 : c21_4 = .seq c21_10 c21_11 := by kernel_rfl
noncomputable def r21_10 : Array Oper := regAt [1, 1, 0] body21
theorem cd_c21_10 : c21_10 = .region 3 r21_10 false := by kernel_rfl
noncomputable def c21_12 : Code := match c21_11 with
  | .seq x _ => x
  | _ => .skip
noncomputable def c21_13 : Code := match c21_11 with
  | .seq _ x => x
  | _ => .skip
theorem cd_c21_11 : c21_11 = .seq c21_12 c21_13 := by kernel_rfl
noncomputable def c21_14 : Code := match c21_12 with
  | .seq x _ => x
  | _ => .skip
noncomputable def c21_15 : Code := match c21_12 with
  | .seq _ x => x
  | _ => .skip
theorem cd_c21_12 : c21_12 = .seq c21_14 c21_15 := by kernel_rfl
noncomputable def r21_14 : Array Oper := regAt [1, 1, 1, 0, 0] body21
theorem cd_c21_14 : c21_14 = .region 4 r21_14 false := by kernel_rfl
noncomputable def c21_16 : Code := match c21_15 with
  | .cond _ x _ => x
  | _ => .skip
theorem cd_c21_15 : c21_15 = .cond (.tmp 11) c21_16 .skip := by kernel_rfl
noncomputable def r21_16 : Array Oper := regAt [1, 1, 1, 0, 1, 1] body21
theorem cd_c21_16 : c21_16 = .region 5 r21_16 false := by kernel_rfl
noncomputable def c21_18 : Code := match c21_13 with
  | .seq x _ => x
  | _ => .skip
theorem cd_c21_13 : c21_13 = .seq c21_18 .ret := by kernel_rfl
noncomputable def r21_18 : Array Oper := regAt [1, 1, 1, 1, 0] body21
theorem cd_c21_18 : c21_18 = .region 6 r21_18 false := by kernel_rfl
noncomputable def body22 : Code := match Try.f22.body with
  | some c => c
  | none => .skip
noncomputable def c22_1 : Code := match code22 with
  | .seq x _ => x
  | _ => .skip
noncomputable def c22_2 : Code := match code22 with
  | .seq _ x => x
  | _ => .skip
theorem cd_code22 : code22 = .seq c22_1 c22_2 := by kernel_rfl
noncomputable def r22_1 : Array Oper := regAt [0] body22
theorem cd_c22_1 : c22_1 = .region 0 r22_1 false := by kernel_rfl
noncomputable def c22_3 : Code := match c22_2 with
  | .seq x _ => x
  | _ => .skip
theorem cd_c22_2 : c22_2 = .seq c22_3 .ret := by kernel_rfl
noncomputable def r22_3 : Array Oper := regAt [1, 0] body22
theorem cd_c22_3 : c22_3 = .region 1 r22_3 false := by kernel_rfl
noncomputable def body30 : Code := match Try.f30.body with
  | some c => c
  | none => .skip
noncomputable def c30_1 : Code := match code30 with
  | .seq x _ => x
  | _ => .skip
noncomputable def c30_2 : Code := match code30 with
  | .seq _ x => x
  | _ => .skip
theorem cd_code30 : code30 = .seq c30_1 c30_2 := by kernel_rfl
noncomputable def r30_1 : Array Oper := regAt [0] body30
theorem cd_c30_1 : c30_1 = .region 0 r30_1 false := by kernel_rfl
noncomputable def c30_3 : Code := match c30_2 with
  | .seq x _ => x
  | _ => .skip
theorem cd_c30_2 : c30_2 = .seq c30_3 .ret := by kernel_rfl
noncomputable def r30_3 : Array Oper := regAt [1, 0] body30
theorem cd_c30_3 : c30_3 = .region 1 r30_3 false := by kernel_rfl
noncomputable def body31 : Code := match Try.f31.body with
  | some c => c
  | none => .skip
noncomputable def c31_1 : Code := match code31 with
  | .seq x _ => x
  | _ => .skip
noncomputable def c31_2 : Code := match code31 with
  | .seq _ x => x
  | _ => .skip
theorem cd_code31 : code31 = .seq c31_1 c31_2 := by kernel_rfl
noncomputable def r31_1 : Array Oper := regAt [0] body31
theorem cd_c31_1 : c31_1 = .region 0 r31_1 false := by kernel_rfl
noncomputable def c31_3 : Code := match c31_2 with
  | .seq x _ => x
  | _ => .skip
theorem cd_c31_2 : c31_2 = .seq c31_3 .ret := by kernel_rfl
noncomputable def r31_3 : Array Oper := regAt [1, 0] body31
theorem cd_c31_3 : c31_3 = .region 1 r31_3 false := by kernel_rfl
noncomputable def body32 : Code := match Try.f32.body with
  | some c => c
  | none => .skip
noncomputable def c32_1 : Code := match code32 with
  | .seq x _ => x
  | _ => .skip
noncomputable def c32_2 : Code := match code32 with
  | .seq _ x => x
  | _ => .skip
theorem cd_code32 : code32 = .seq c32_1 c32_2 := by kernel_rfl
noncomputable def r32_1 : Array Oper := regAt [0] body32
theorem cd_c32_1 : c32_1 = .region 0 r32_1 false := by kernel_rfl
noncomputable def c32_3 : Code := match c32_2 with
  | .seq x _ => x
  | _ => .skip
noncomputable def c32_4 : Code := match c32_2 with
  | .seq _ x => x
  | _ => .skip
theorem cd_c32_2 : c32_2 = .seq c32_3 c32_4 := by kernel_rfl
noncomputable def c32_5 : Code := match c32_3 with
  | .seq x _ => x
  | _ => .skip
noncomputable def c32_6 : Code := match c32_3 with
  | .seq _ x => x
  | _ => .skip
theorem cd_c32_3 : c32_3 = .seq c32_5 c32_6 := by kernel_rfl
noncomputable def r32_5 : Array Oper := regAt [1, 0, 0] body32
theorem cd_c32_5 : c32_5 = .region 1 r32_5 false := by kernel_rfl
noncomputable def c32_7 : Code := match c32_6 with
  | .seq x _ => x
  | _ => .skip
noncomputable def c32_8 : Code := match c32_6 with
  | .seq _ x => x
  | _ => .skip
theorem cd_c32_6 : c32_6 = .seq c32_7 c32_8 := by kernel_rfl
noncomputable def r32_7 : Array Oper := regAt [1, 0, 1, 0] body32
theorem cd_c32_7 : c32_7 = .region 2 r32_7 false := by kernel_rfl
noncomputable def c32_9 : Code := match c32_8 with
  | .cond _ x _ => x
  | _ => .skip
theorem cd_c32_8 : c32_8 = .cond (.tmp 31) c32_9 .skip := by kernel_rfl
noncomputable def c32_11 : Code := match c32_9 with
  | .seq x _ => x
  | _ => .skip
theorem cd_c32_9 : c32_9 = .seq c32_11 .ret := by kernel_rfl
noncomputable def r32_11 : Array Oper := regAt [1, 0, 1, 1, 1, 0] body32
theorem cd_c32_11 : c32_11 = .region 3 r32_11 false := by kernel_rfl
noncomputable def c32_12 : Code := match c32_4 with
  | .seq x _ => x
  | _ => .skip
theorem cd_c32_4 : c32_4 = .seq c32_12 .ret := by kernel_rfl
noncomputable def r32_12 : Array Oper := regAt [1, 1, 0] body32
theorem cd_c32_12 : c32_12 = .region 4 r32_12 false := by kernel_rfl
noncomputable def body33 : Code := match Try.f33.body with
  | some c => c
  | none => .skip
noncomputable def c33_1 : Code := match code33 with
  | .seq x _ => x
  | _ => .skip
noncomputable def c33_2 : Code := match code33 with
  | .seq _ x => x
  | _ => .skip
theorem cd_code33 : code33 = .seq c33_1 c33_2 := by kernel_rfl
noncomputable def r33_1 : Array Oper := regAt [0] body33
theorem cd_c33_1 : c33_1 = .region 0 r33_1 false := by kernel_rfl
noncomputable def c33_3 : Code := match c33_2 with
  | .seq x _ => x
  | _ => .skip
noncomputable def c33_4 : Code := match c33_2 with
  | .seq _ x => x
  | _ => .skip
theorem cd_c33_2 : c33_2 = .seq c33_3 c33_4 := by kernel_rfl
noncomputable def c33_5 : Code := match c33_3 with
  | .seq x _ => x
  | _ => .skip
noncomputable def c33_6 : Code := match c33_3 with
  | .seq _ x => x
  | _ => .skip
theorem cd_c33_3 : c33_3 = .seq c33_5 c33_6 := by kernel_rfl
noncomputable def r33_5 : Array Oper := regAt [1, 0, 0] body33
theorem cd_c33_5 : c33_5 = .region 1 r33_5 false := by kernel_rfl
noncomputable def c33_7 : Code := match c33_6 with
  | .cond _ x _ => x
  | _ => .skip
theorem cd_c33_6 : c33_6 = .cond (.tmp 4) c33_7 .skip := by kernel_rfl
noncomputable def c33_9 : Code := match c33_7 with
  | .seq x _ => x
  | _ => .skip
theorem cd_c33_7 : c33_7 = .seq c33_9 .ret := by kernel_rfl
noncomputable def r33_9 : Array Oper := regAt [1, 0, 1, 1, 0] body33
theorem cd_c33_9 : c33_9 = .region 2 r33_9 false := by kernel_rfl
noncomputable def c33_10 : Code := match c33_4 with
  | .seq x _ => x
  | _ => .skip
theorem cd_c33_4 : c33_4 = .seq c33_10 .ret := by kernel_rfl
noncomputable def r33_10 : Array Oper := regAt [1, 1, 0] body33
theorem cd_c33_10 : c33_10 = .region 3 r33_10 false := by kernel_rfl
noncomputable def body34 : Code := match Try.f34.body with
  | some c => c
  | none => .skip
noncomputable def c34_1 : Code := match code34 with
  | .seq x _ => x
  | _ => .skip
noncomputable def c34_2 : Code := match code34 with
  | .seq _ x => x
  | _ => .skip
theorem cd_code34 : code34 = .seq c34_1 c34_2 := by kernel_rfl
noncomputable def r34_1 : Array Oper := regAt [0] body34
theorem cd_c34_1 : c34_1 = .region 0 r34_1 false := by kernel_rfl
noncomputable def c34_3 : Code := match c34_2 with
  | .seq x _ => x
  | _ => .skip
theorem cd_c34_2 : c34_2 = .seq c34_3 .ret := by kernel_rfl
noncomputable def r34_3 : Array Oper := regAt [1, 0] body34
theorem cd_c34_3 : c34_3 = .region 1 r34_3 false := by kernel_rfl
noncomputable def body35 : Code := match Try.f35.body with
  | some c => c
  | none => .skip
noncomputable def c35_1 : Code := match code35 with
  | .seq x _ => x
  | _ => .skip
noncomputable def c35_2 : Code := match code35 with
  | .seq _ x => x
  | _ => .skip
theorem cd_code35 : code35 = .seq c35_1 c35_2 := by kernel_rfl
noncomputable def r35_1 : Array Oper := regAt [0] body35
theorem cd_c35_1 : c35_1 = .region 0 r35_1 false := by kernel_rfl
noncomputable def c35_3 : Code := match c35_2 with
  | .seq x _ => x
  | _ => .skip
theorem cd_c35_2 : c35_2 = .seq c35_3 .ret := by kernel_rfl
noncomputable def r35_3 : Array Oper := regAt [1, 0] body35
theorem cd_c35_3 : c35_3 = .region 1 r35_3 false := by kernel_rfl
noncomputable def body37 : Code := match Try.f37.body with
  | some c => c
  | none => .skip
noncomputable def c37_1 : Code := match code37 with
  | .seq x _ => x
  | _ => .skip
noncomputable def c37_2 : Code := match code37 with
  | .seq _ x => x
  | _ => .skip
theorem cd_code37 : code37 = .seq c37_1 c37_2 := by kernel_rfl
noncomputable def r37_1 : Array Oper := regAt [0] body37
theorem cd_c37_1 : c37_1 = .region 0 r37_1 false := by kernel_rfl
noncomputable def c37_3 : Code := match c37_2 with
  | .seq x _ => x
  | _ => .skip
noncomputable def c37_4 : Code := match c37_2 with
  | .seq _ x => x
  | _ => .skip
theorem cd_c37_2 : c37_2 = .seq c37_3 c37_4 := by kernel_rfl
noncomputable def c37_5 : Code := match c37_3 with
  | .block _ x => x
  | _ => .skip
theorem cd_c37_3 : c37_3 = .block 0 c37_5 := by kernel_rfl
noncomputable def c37_6 : Code := match c37_5 with
  | .seq x _ => x
  | _ => .skip
noncomputable def c37_7 : Code := match c37_5 with
  | .seq _ x => x
  | _ => .skip
theorem cd_c37_5 : c37_5 = .seq c37_6 c37_7 := by kernel_rfl
noncomputable def r37_6 : Array Oper := regAt [1, 0, 1, 0] body37
theorem cd_c37_6 : c37_6 = .region 1 r37_6 false := by kernel_rfl
noncomputable def c37_8 : Code := match c37_7 with
  | .cond _ x _ => x
  | _ => .skip
noncomputable def c37_9 : Code := match c37_7 with
  | .cond _ _ x => x
  | _ => .skip
theorem cd_c37_7 : c37_7 = .cond (.tmp 6) c37_8 c37_9 := by kernel_rfl
noncomputable def c37_11 : Code := match c37_8 with
  | .seq x _ => x
  | _ => .skip
theorem cd_c37_8 : c37_8 = .seq c37_11 .ret := by kernel_rfl
noncomputable def r37_11 : Array Oper := regAt [1, 0, 1, 1, 1, 0] body37
theorem cd_c37_11 : c37_11 = .region 2 r37_11 false := by kernel_rfl
noncomputable def c37_12 : Code := match c37_9 with
  | .seq x _ => x
  | _ => .skip
noncomputable def c37_13 : Code := match c37_9 with
  | .seq _ x => x
  | _ => .skip
theorem cd_c37_9 : c37_9 = .seq c37_12 c37_13 := by kernel_rfl
noncomputable def r37_12 : Array Oper := regAt [1, 0, 1, 1, 2, 0] body37
theorem cd_c37_12 : c37_12 = .region 3 r37_12 false := by kernel_rfl
noncomputable def c37_14 : Code := match c37_13 with
  | .cond _ x _ => x
  | _ => .skip
theorem cd_c37_13 : c37_13 = .cond (.tmp 12) c37_14 .skip := by kernel_rfl
noncomputable def c37_16 : Code := match c37_14 with
  | .seq x _ => x
  | _ => .skip
theorem cd_c37_14 : c37_14 = .seq c37_16 .ret := by kernel_rfl
noncomputable def r37_16 : Array Oper := regAt [1, 0, 1, 1, 2, 1, 1, 0] body37
theorem cd_c37_16 : c37_16 = .region 4 r37_16 false := by kernel_rfl
noncomputable def c37_17 : Code := match c37_4 with
  | .seq x _ => x
  | _ => .skip
theorem cd_c37_4 : c37_4 = .seq c37_17 .ret := by kernel_rfl
noncomputable def r37_17 : Array Oper := regAt [1, 1, 0] body37
theorem cd_c37_17 : c37_17 = .region 5 r37_17 false := by kernel_rfl
noncomputable def body38 : Code := match Try.f38.body with
  | some c => c
  | none => .skip
noncomputable def c38_1 : Code := match code38 with
  | .seq x _ => x
  | _ => .skip
noncomputable def c38_2 : Code := match code38 with
  | .seq _ x => x
  | _ => .skip
theorem cd_code38 : code38 = .seq c38_1 c38_2 := by kernel_rfl
noncomputable def r38_1 : Array Oper := regAt [0] body38
theorem cd_c38_1 : c38_1 = .region 0 r38_1 false := by kernel_rfl
noncomputable def c38_3 : Code := match c38_2 with
  | .seq x _ => x
  | _ => .skip
theorem cd_c38_2 : c38_2 = .seq c38_3 .ret := by kernel_rfl
noncomputable def r38_3 : Array Oper := regAt [1, 0] body38
theorem cd_c38_3 : c38_3 = .region 1 r38_3 false := by kernel_rfl
noncomputable def body39 : Code := match Try.f39.body with
  | some c => c
  | none => .skip
noncomputable def c39_1 : Code := match code39 with
  | .seq x _ => x
  | _ => .skip
noncomputable def c39_2 : Code := match code39 with
  | .seq _ x => x
  | _ => .skip
theorem cd_code39 : code39 = .seq c39_1 c39_2 := by kernel_rfl
noncomputable def r39_1 : Array Oper := regAt [0] body39
theorem cd_c39_1 : c39_1 = .region 0 r39_1 false := by kernel_rfl
noncomputable def c39_3 : Code := match c39_2 with
  | .seq x _ => x
  | _ => .skip
theorem cd_c39_2 : c39_2 = .seq c39_3 .ret := by kernel_rfl
noncomputable def r39_3 : Array Oper := regAt [1, 0] body39
theorem cd_c39_3 : c39_3 = .region 1 r39_3 false := by kernel_rfl
noncomputable def body43 : Code := match Try.f43.body with
  | some c => c
  | none => .skip
noncomputable def c43_1 : Code := match code43 with
  | .seq x _ => x
  | _ => .skip
noncomputable def c43_2 : Code := match code43 with
  | .seq _ x => x
  | _ => .skip
theorem cd_code43 : code43 = .seq c43_1 c43_2 := by kernel_rfl
noncomputable def r43_1 : Array Oper := regAt [0] body43
theorem cd_c43_1 : c43_1 = .region 0 r43_1 false := by kernel_rfl
noncomputable def c43_3 : Code := match c43_2 with
  | .seq x _ => x
  | _ => .skip
theorem cd_c43_2 : c43_2 = .seq c43_3 .ret := by kernel_rfl
noncomputable def r43_3 : Array Oper := regAt [1, 0] body43
theorem cd_c43_3 : c43_3 = .region 1 r43_3 false := by kernel_rfl
noncomputable def body44 : Code := match Try.f44.body with
  | some c => c
  | none => .skip
noncomputable def c44_1 : Code := match code44 with
  | .seq x _ => x
  | _ => .skip
noncomputable def c44_2 : Code := match code44 with
  | .seq _ x => x
  | _ => .skip
theorem cd_code44 : code44 = .seq c44_1 c44_2 := by kernel_rfl
noncomputable def r44_1 : Array Oper := regAt [0] body44
theorem cd_c44_1 : c44_1 = .region 0 r44_1 false := by kernel_rfl
noncomputable def c44_3 : Code := match c44_2 with
  | .seq x _ => x
  | _ => .skip
theorem cd_c44_2 : c44_2 = .seq c44_3 .ret := by kernel_rfl
noncomputable def r44_3 : Array Oper := regAt [1, 0] body44
theorem cd_c44_3 : c44_3 = .region 1 r44_3 true := by kernel_rfl
noncomputable def body45 : Code := match Try.f45.body with
  | some c => c
  | none => .skip
noncomputable def c45_1 : Code := match code45 with
  | .seq x _ => x
  | _ => .skip
noncomputable def c45_2 : Code := match code45 with
  | .seq _ x => x
  | _ => .skip
theorem cd_code45 : code45 = .seq c45_1 c45_2 := by kernel_rfl
noncomputable def r45_1 : Array Oper := regAt [0] body45
theorem cd_c45_1 : c45_1 = .region 0 r45_1 false := by kernel_rfl
noncomputable def c45_3 : Code := match c45_2 with
  | .seq x _ => x
  | _ => .skip
noncomputable def c45_4 : Code := match c45_2 with
  | .seq _ x => x
  | _ => .skip
theorem cd_c45_2 : c45_2 = .seq c45_3 c45_4 := by kernel_rfl
noncomputable def r45_3 : Array Oper := regAt [1, 0] body45
theorem cd_c45_3 : c45_3 = .region 1 r45_3 false := by kernel_rfl
noncomputable def c45_5 : Code := match c45_4 with
  | .seq x _ => x
  | _ => .skip
noncomputable def c45_6 : Code := match c45_4 with
  | .seq _ x => x
  | _ => .skip
theorem cd_c45_4 : c45_4 = .seq c45_5 c45_6 := by kernel_rfl
noncomputable def c45_7 : Code := match c45_5 with
  | .seq x _ => x
  | _ => .skip
noncomputable def c45_8 : Code := match c45_5 with
  | .seq _ x => x
  | _ => .skip
theorem cd_c45_5 : c45_5 = .seq c45_7 c45_8 := by kernel_rfl
noncomputable def r45_7 : Array Oper := regAt [1, 1, 0, 0] body45
theorem cd_c45_7 : c45_7 = .region 2 r45_7 false := by kernel_rfl
noncomputable def c45_9 : Code := match c45_8 with
  | .cond _ x _ => x
  | _ => .skip
theorem cd_c45_8 : c45_8 = .cond (.tmp 10) c45_9 .skip := by kernel_rfl
noncomputable def c45_11 : Code := match c45_9 with
  | .seq x _ => x
  | _ => .skip
theorem cd_c45_9 : c45_9 = .seq c45_11 .ret := by kernel_rfl
noncomputable def r45_11 : Array Oper := regAt [1, 1, 0, 1, 1, 0] body45
theorem cd_c45_11 : c45_11 = .region 3 r45_11 false := by kernel_rfl
noncomputable def c45_12 : Code := match c45_6 with
  | .seq x _ => x
  | _ => .skip
noncomputable def c45_13 : Code := match c45_6 with
  | .seq _ x => x
  | _ => .skip
theorem cd_c45_6 : c45_6 = .seq c45_12 c45_13 := by kernel_rfl
noncomputable def c45_14 : Code := match c45_12 with
  | .seq x _ => x
  | _ => .skip
noncomputable def c45_15 : Code := match c45_12 with
  | .seq _ x => x
  | _ => .skip
theorem cd_c45_12 : c45_12 = .seq c45_14 c45_15 := by kernel_rfl
noncomputable def r45_14 : Array Oper := regAt [1, 1, 1, 0, 0] body45
theorem cd_c45_14 : c45_14 = .region 4 r45_14 false := by kernel_rfl
noncomputable def c45_16 : Code := match c45_15 with
  | .block _ x => x
  | _ => .skip
theorem cd_c45_15 : c45_15 = .block 0 c45_16 := by kernel_rfl
noncomputable def c45_17 : Code := match c45_16 with
  | .loop x => x
  | _ => .skip
theorem cd_c45_16 : c45_16 = .loop c45_17 := by kernel_rfl
noncomputable def c45_18 : Code := match c45_17 with
  | .seq x _ => x
  | _ => .skip
noncomputable def c45_19 : Code := match c45_17 with
  | .seq _ x => x
  | _ => .skip
theorem cd_c45_17 : c45_17 = .seq c45_18 c45_19 := by kernel_rfl
noncomputable def r45_18 : Array Oper := regAt [1, 1, 1, 0, 1, 1, 0, 0] body45
theorem cd_c45_18 : c45_18 = .region 5 r45_18 false := by kernel_rfl
noncomputable def c45_20 : Code := match c45_19 with
  | .seq x _ => x
  | _ => .skip
noncomputable def c45_21 : Code := match c45_19 with
  | .seq _ x => x
  | _ => .skip
theorem cd_c45_19 : c45_19 = .seq c45_20 c45_21 := by kernel_rfl
theorem cd_c45_20 : c45_20 = .cond (.tmp 15) .skip (.exit 0) := by kernel_rfl
noncomputable def c45_23 : Code := match c45_21 with
  | .seq x _ => x
  | _ => .skip
noncomputable def c45_24 : Code := match c45_21 with
  | .seq _ x => x
  | _ => .skip
theorem cd_c45_21 : c45_21 = .seq c45_23 c45_24 := by kernel_rfl
noncomputable def c45_25 : Code := match c45_23 with
  | .block _ x => x
  | _ => .skip
theorem cd_c45_23 : c45_23 = .block 1 c45_25 := by kernel_rfl
noncomputable def c45_26 : Code := match c45_25 with
  | .seq x _ => x
  | _ => .skip
noncomputable def c45_27 : Code := match c45_25 with
  | .seq _ x => x
  | _ => .skip
theorem cd_c45_25 : c45_25 = .seq c45_26 c45_27 := by kernel_rfl
noncomputable def r45_26 : Array Oper := regAt [1, 1, 1, 0, 1, 1, 0, 1, 1, 0, 1, 0] body45
theorem cd_c45_26 : c45_26 = .region 6 r45_26 false := by kernel_rfl
noncomputable def c45_28 : Code := match c45_27 with
  | .seq x _ => x
  | _ => .skip
noncomputable def c45_29 : Code := match c45_27 with
  | .seq _ x => x
  | _ => .skip
theorem cd_c45_27 : c45_27 = .seq c45_28 c45_29 := by kernel_rfl
noncomputable def r45_28 : Array Oper := regAt [1, 1, 1, 0, 1, 1, 0, 1, 1, 0, 1, 1, 0] body45
theorem cd_c45_28 : c45_28 = .region 7 r45_28 false := by kernel_rfl
noncomputable def c45_30 : Code := match c45_29 with
  | .cond _ x _ => x
  | _ => .skip
theorem cd_c45_29 : c45_29 = .cond (.tmp 20) c45_30 .skip := by kernel_rfl
noncomputable def r45_30 : Array Oper := regAt [1, 1, 1, 0, 1, 1, 0, 1, 1, 0, 1, 1, 1, 1] body45
theorem cd_c45_30 : c45_30 = .region 8 r45_30 false := by kernel_rfl
noncomputable def r45_24 : Array Oper := regAt [1, 1, 1, 0, 1, 1, 0, 1, 1, 1] body45
theorem cd_c45_24 : c45_24 = .region 9 r45_24 false := by kernel_rfl
noncomputable def c45_32 : Code := match c45_13 with
  | .seq x _ => x
  | _ => .skip
theorem cd_c45_13 : c45_13 = .seq c45_32 .ret := by kernel_rfl
noncomputable def r45_32 : Array Oper := regAt [1, 1, 1, 1, 0] body45
theorem cd_c45_32 : c45_32 = .region 10 r45_32 false := by kernel_rfl
noncomputable def body46 : Code := match Try.f46.body with
  | some c => c
  | none => .skip
noncomputable def c46_1 : Code := match code46 with
  | .seq x _ => x
  | _ => .skip
noncomputable def c46_2 : Code := match code46 with
  | .seq _ x => x
  | _ => .skip
theorem cd_code46 : code46 = .seq c46_1 c46_2 := by kernel_rfl
noncomputable def r46_1 : Array Oper := regAt [0] body46
theorem cd_c46_1 : c46_1 = .region 0 r46_1 false := by kernel_rfl
noncomputable def c46_3 : Code := match c46_2 with
  | .seq x _ => x
  | _ => .skip
theorem cd_c46_2 : c46_2 = .seq c46_3 .ret := by kernel_rfl
noncomputable def r46_3 : Array Oper := regAt [1, 0] body46
theorem cd_c46_3 : c46_3 = .region 1 r46_3 false := by kernel_rfl
noncomputable def body49 : Code := match Try.f49.body with
  | some c => c
  | none => .skip
noncomputable def c49_1 : Code := match code49 with
  | .seq x _ => x
  | _ => .skip
noncomputable def c49_2 : Code := match code49 with
  | .seq _ x => x
  | _ => .skip
theorem cd_code49 : code49 = .seq c49_1 c49_2 := by kernel_rfl
noncomputable def r49_1 : Array Oper := regAt [0] body49
theorem cd_c49_1 : c49_1 = .region 0 r49_1 false := by kernel_rfl
noncomputable def c49_3 : Code := match c49_2 with
  | .seq x _ => x
  | _ => .skip
noncomputable def c49_4 : Code := match c49_2 with
  | .seq _ x => x
  | _ => .skip
theorem cd_c49_2 : c49_2 = .seq c49_3 c49_4 := by kernel_rfl
noncomputable def c49_5 : Code := match c49_3 with
  | .seq x _ => x
  | _ => .skip
noncomputable def c49_6 : Code := match c49_3 with
  | .seq _ x => x
  | _ => .skip
theorem cd_c49_3 : c49_3 = .seq c49_5 c49_6 := by kernel_rfl
noncomputable def r49_5 : Array Oper := regAt [1, 0, 0] body49
theorem cd_c49_5 : c49_5 = .region 1 r49_5 false := by kernel_rfl
noncomputable def c49_7 : Code := match c49_6 with
  | .block _ x => x
  | _ => .skip
theorem cd_c49_6 : c49_6 = .block 0 c49_7 := by kernel_rfl
noncomputable def c49_8 : Code := match c49_7 with
  | .loop x => x
  | _ => .skip
theorem cd_c49_7 : c49_7 = .loop c49_8 := by kernel_rfl
noncomputable def c49_9 : Code := match c49_8 with
  | .seq x _ => x
  | _ => .skip
noncomputable def c49_10 : Code := match c49_8 with
  | .seq _ x => x
  | _ => .skip
theorem cd_c49_8 : c49_8 = .seq c49_9 c49_10 := by kernel_rfl
noncomputable def r49_9 : Array Oper := regAt [1, 0, 1, 1, 0, 0] body49
theorem cd_c49_9 : c49_9 = .region 2 r49_9 false := by kernel_rfl
noncomputable def c49_11 : Code := match c49_10 with
  | .seq x _ => x
  | _ => .skip
noncomputable def c49_12 : Code := match c49_10 with
  | .seq _ x => x
  | _ => .skip
theorem cd_c49_10 : c49_10 = .seq c49_11 c49_12 := by kernel_rfl
theorem cd_c49_11 : c49_11 = .cond (.tmp 9) .skip (.exit 0) := by kernel_rfl
noncomputable def c49_14 : Code := match c49_12 with
  | .seq x _ => x
  | _ => .skip
noncomputable def c49_15 : Code := match c49_12 with
  | .seq _ x => x
  | _ => .skip
theorem cd_c49_12 : c49_12 = .seq c49_14 c49_15 := by kernel_rfl
noncomputable def c49_16 : Code := match c49_14 with
  | .block _ x => x
  | _ => .skip
theorem cd_c49_14 : c49_14 = .block 1 c49_16 := by kernel_rfl
noncomputable def c49_17 : Code := match c49_16 with
  | .seq x _ => x
  | _ => .skip
noncomputable def c49_18 : Code := match c49_16 with
  | .seq _ x => x
  | _ => .skip
theorem cd_c49_16 : c49_16 = .seq c49_17 c49_18 := by kernel_rfl
noncomputable def r49_17 : Array Oper := regAt [1, 0, 1, 1, 0, 1, 1, 0, 1, 0] body49
theorem cd_c49_17 : c49_17 = .region 3 r49_17 false := by kernel_rfl
noncomputable def c49_19 : Code := match c49_18 with
  | .seq x _ => x
  | _ => .skip
noncomputable def c49_20 : Code := match c49_18 with
  | .seq _ x => x
  | _ => .skip
theorem cd_c49_18 : c49_18 = .seq c49_19 c49_20 := by kernel_rfl
noncomputable def r49_19 : Array Oper := regAt [1, 0, 1, 1, 0, 1, 1, 0, 1, 1, 0] body49
theorem cd_c49_19 : c49_19 = .region 4 r49_19 false := by kernel_rfl
noncomputable def c49_21 : Code := match c49_20 with
  | .cond _ x _ => x
  | _ => .skip
theorem cd_c49_20 : c49_20 = .cond (.tmp 16) c49_21 .skip := by kernel_rfl
noncomputable def c49_23 : Code := match c49_21 with
  | .seq x _ => x
  | _ => .skip
theorem cd_c49_21 : c49_21 = .seq c49_23 .ret := by kernel_rfl
noncomputable def r49_23 : Array Oper := regAt [1, 0, 1, 1, 0, 1, 1, 0, 1, 1, 1, 1, 0] body49
theorem cd_c49_23 : c49_23 = .region 5 r49_23 false := by kernel_rfl
noncomputable def r49_15 : Array Oper := regAt [1, 0, 1, 1, 0, 1, 1, 1] body49
theorem cd_c49_15 : c49_15 = .region 6 r49_15 false := by kernel_rfl
noncomputable def c49_24 : Code := match c49_4 with
  | .seq x _ => x
  | _ => .skip
theorem cd_c49_4 : c49_4 = .seq c49_24 .ret := by kernel_rfl
noncomputable def r49_24 : Array Oper := regAt [1, 1, 0] body49
theorem cd_c49_24 : c49_24 = .region 7 r49_24 false := by kernel_rfl
noncomputable def body50 : Code := match Try.f50.body with
  | some c => c
  | none => .skip
noncomputable def c50_1 : Code := match code50 with
  | .seq x _ => x
  | _ => .skip
noncomputable def c50_2 : Code := match code50 with
  | .seq _ x => x
  | _ => .skip
theorem cd_code50 : code50 = .seq c50_1 c50_2 := by kernel_rfl
noncomputable def r50_1 : Array Oper := regAt [0] body50
theorem cd_c50_1 : c50_1 = .region 0 r50_1 false := by kernel_rfl
noncomputable def c50_3 : Code := match c50_2 with
  | .seq x _ => x
  | _ => .skip
noncomputable def c50_4 : Code := match c50_2 with
  | .seq _ x => x
  | _ => .skip
theorem cd_c50_2 : c50_2 = .seq c50_3 c50_4 := by kernel_rfl
noncomputable def r50_3 : Array Oper := regAt [1, 0] body50
theorem cd_c50_3 : c50_3 = .region 1 r50_3 false := by kernel_rfl
noncomputable def c50_5 : Code := match c50_4 with
  | .seq x _ => x
  | _ => .skip
noncomputable def c50_6 : Code := match c50_4 with
  | .seq _ x => x
  | _ => .skip
theorem cd_c50_4 : c50_4 = .seq c50_5 c50_6 := by kernel_rfl
noncomputable def r50_5 : Array Oper := regAt [1, 1, 0] body50
theorem cd_c50_5 : c50_5 = .region 2 r50_5 false := by kernel_rfl
noncomputable def c50_7 : Code := match c50_6 with
  | .seq x _ => x
  | _ => .skip
noncomputable def c50_8 : Code := match c50_6 with
  | .seq _ x => x
  | _ => .skip
theorem cd_c50_6 : c50_6 = .seq c50_7 c50_8 := by kernel_rfl
noncomputable def c50_9 : Code := match c50_7 with
  | .block _ x => x
  | _ => .skip
theorem cd_c50_7 : c50_7 = .block 0 c50_9 := by kernel_rfl
noncomputable def c50_10 : Code := match c50_9 with
  | .loop x => x
  | _ => .skip
theorem cd_c50_9 : c50_9 = .loop c50_10 := by kernel_rfl
noncomputable def c50_11 : Code := match c50_10 with
  | .seq x _ => x
  | _ => .skip
noncomputable def c50_12 : Code := match c50_10 with
  | .seq _ x => x
  | _ => .skip
theorem cd_c50_10 : c50_10 = .seq c50_11 c50_12 := by kernel_rfl
noncomputable def c50_13 : Code := match c50_11 with
  | .seq x _ => x
  | _ => .skip
noncomputable def c50_14 : Code := match c50_11 with
  | .seq _ x => x
  | _ => .skip
theorem cd_c50_11 : c50_11 = .seq c50_13 c50_14 := by kernel_rfl
noncomputable def r50_13 : Array Oper := regAt [1, 1, 1, 0, 1, 0, 0, 0] body50
theorem cd_c50_13 : c50_13 = .region 3 r50_13 false := by kernel_rfl
theorem cd_c50_14 : c50_14 = .cond (.tmp 17) .skip (.exit 0) := by kernel_rfl
noncomputable def c50_16 : Code := match c50_12 with
  | .block _ x => x
  | _ => .skip
theorem cd_c50_12 : c50_12 = .block 1 c50_16 := by kernel_rfl
noncomputable def c50_17 : Code := match c50_16 with
  | .seq x _ => x
  | _ => .skip
noncomputable def c50_18 : Code := match c50_16 with
  | .seq _ x => x
  | _ => .skip
theorem cd_c50_16 : c50_16 = .seq c50_17 c50_18 := by kernel_rfl
noncomputable def r50_17 : Array Oper := regAt [1, 1, 1, 0, 1, 0, 1, 1, 0] body50
theorem cd_c50_17 : c50_17 = .region 4 r50_17 false := by kernel_rfl
noncomputable def c50_19 : Code := match c50_18 with
  | .seq x _ => x
  | _ => .skip
noncomputable def c50_20 : Code := match c50_18 with
  | .seq _ x => x
  | _ => .skip
theorem cd_c50_18 : c50_18 = .seq c50_19 c50_20 := by kernel_rfl
noncomputable def r50_19 : Array Oper := regAt [1, 1, 1, 0, 1, 0, 1, 1, 1, 0] body50
theorem cd_c50_19 : c50_19 = .region 5 r50_19 false := by kernel_rfl
noncomputable def c50_21 : Code := match c50_20 with
  | .cond _ x _ => x
  | _ => .skip
noncomputable def c50_22 : Code := match c50_20 with
  | .cond _ _ x => x
  | _ => .skip
theorem cd_c50_20 : c50_20 = .cond (.tmp 31) c50_21 c50_22 := by kernel_rfl
noncomputable def r50_21 : Array Oper := regAt [1, 1, 1, 0, 1, 0, 1, 1, 1, 1, 1] body50
theorem cd_c50_21 : c50_21 = .region 6 r50_21 false := by kernel_rfl
noncomputable def r50_22 : Array Oper := regAt [1, 1, 1, 0, 1, 0, 1, 1, 1, 1, 2] body50
theorem cd_c50_22 : c50_22 = .region 7 r50_22 false := by kernel_rfl
noncomputable def c50_24 : Code := match c50_8 with
  | .seq x _ => x
  | _ => .skip
theorem cd_c50_8 : c50_8 = .seq c50_24 .ret := by kernel_rfl
noncomputable def r50_24 : Array Oper := regAt [1, 1, 1, 1, 0] body50
theorem cd_c50_24 : c50_24 = .region 8 r50_24 false := by kernel_rfl
noncomputable def body51 : Code := match Try.f51.body with
  | some c => c
  | none => .skip
noncomputable def c51_1 : Code := match code51 with
  | .seq x _ => x
  | _ => .skip
noncomputable def c51_2 : Code := match code51 with
  | .seq _ x => x
  | _ => .skip
theorem cd_code51 : code51 = .seq c51_1 c51_2 := by kernel_rfl
noncomputable def r51_1 : Array Oper := regAt [0] body51
theorem cd_c51_1 : c51_1 = .region 0 r51_1 false := by kernel_rfl
noncomputable def c51_3 : Code := match c51_2 with
  | .seq x _ => x
  | _ => .skip
theorem cd_c51_2 : c51_2 = .seq c51_3 .ret := by kernel_rfl
noncomputable def r51_3 : Array Oper := regAt [1, 0] body51
theorem cd_c51_3 : c51_3 = .region 1 r51_3 false := by kernel_rfl
noncomputable def body52 : Code := match Try.f52.body with
  | some c => c
  | none => .skip
noncomputable def c52_1 : Code := match code52 with
  | .seq x _ => x
  | _ => .skip
noncomputable def c52_2 : Code := match code52 with
  | .seq _ x => x
  | _ => .skip
theorem cd_code52 : code52 = .seq c52_1 c52_2 := by kernel_rfl
noncomputable def r52_1 : Array Oper := regAt [0] body52
theorem cd_c52_1 : c52_1 = .region 0 r52_1 false := by kernel_rfl
noncomputable def c52_3 : Code := match c52_2 with
  | .seq x _ => x
  | _ => .skip
noncomputable def c52_4 : Code := match c52_2 with
  | .seq _ x => x
  | _ => .skip
theorem cd_c52_2 : c52_2 = .seq c52_3 c52_4 := by kernel_rfl
noncomputable def r52_3 : Array Oper := regAt [1, 0] body52
theorem cd_c52_3 : c52_3 = .region 1 r52_3 false := by kernel_rfl
noncomputable def c52_5 : Code := match c52_4 with
  | .seq x _ => x
  | _ => .skip
noncomputable def c52_6 : Code := match c52_4 with
  | .seq _ x => x
  | _ => .skip
theorem cd_c52_4 : c52_4 = .seq c52_5 c52_6 := by kernel_rfl
noncomputable def r52_5 : Array Oper := regAt [1, 1, 0] body52
theorem cd_c52_5 : c52_5 = .region 2 r52_5 false := by kernel_rfl
noncomputable def c52_7 : Code := match c52_6 with
  | .seq x _ => x
  | _ => .skip
noncomputable def c52_8 : Code := match c52_6 with
  | .seq _ x => x
  | _ => .skip
theorem cd_c52_6 : c52_6 = .seq c52_7 c52_8 := by kernel_rfl
noncomputable def c52_9 : Code := match c52_7 with
  | .seq x _ => x
  | _ => .skip
noncomputable def c52_10 : Code := match c52_7 with
  | .seq _ x => x
  | _ => .skip
theorem cd_c52_7 : c52_7 = .seq c52_9 c52_10 := by kernel_rfl
noncomputable def r52_9 : Array Oper := regAt [1, 1, 1, 0, 0] body52
theorem cd_c52_9 : c52_9 = .region 3 r52_9 false := by kernel_rfl
noncomputable def c52_11 : Code := match c52_10 with
  | .cond _ x _ => x
  | _ => .skip
theorem cd_c52_10 : c52_10 = .cond (.tmp 11) c52_11 .skip := by kernel_rfl
noncomputable def c52_13 : Code := match c52_11 with
  | .seq x _ => x
  | _ => .skip
noncomputable def c52_14 : Code := match c52_11 with
  | .seq _ x => x
  | _ => .skip
theorem cd_c52_11 : c52_11 = .seq c52_13 c52_14 := by kernel_rfl
noncomputable def c52_15 : Code := match c52_13 with
  | .seq x _ => x
  | _ => .skip
noncomputable def c52_16 : Code := match c52_13 with
  | .seq _ x => x
  | _ => .skip
theorem cd_c52_13 : c52_13 = .seq c52_15 c52_16 := by kernel_rfl
noncomputable def r52_15 : Array Oper := regAt [1, 1, 1, 0, 1, 1, 0, 0] body52
theorem cd_c52_15 : c52_15 = .region 4 r52_15 false := by kernel_rfl
noncomputable def c52_17 : Code := match c52_16 with
  | .cond _ x _ => x
  | _ => .skip
theorem cd_c52_16 : c52_16 = .cond (.tmp 12) c52_17 .skip := by kernel_rfl
noncomputable def c52_19 : Code := match c52_17 with
  | .seq x _ => x
  | _ => .skip
theorem cd_c52_17 : c52_17 = .seq c52_19 .ret := by kernel_rfl
noncomputable def r52_19 : Array Oper := regAt [1, 1, 1, 0, 1, 1, 0, 1, 1, 0] body52
theorem cd_c52_19 : c52_19 = .region 5 r52_19 false := by kernel_rfl
noncomputable def c52_20 : Code := match c52_14 with
  | .seq x _ => x
  | _ => .skip
theorem cd_c52_14 : c52_14 = .seq c52_20 .ret := by kernel_rfl
noncomputable def r52_20 : Array Oper := regAt [1, 1, 1, 0, 1, 1, 1, 0] body52
theorem cd_c52_20 : c52_20 = .region 6 r52_20 false := by kernel_rfl
noncomputable def c52_21 : Code := match c52_8 with
  | .seq x _ => x
  | _ => .skip
noncomputable def c52_22 : Code := match c52_8 with
  | .seq _ x => x
  | _ => .skip
theorem cd_c52_8 : c52_8 = .seq c52_21 c52_22 := by kernel_rfl
noncomputable def c52_23 : Code := match c52_21 with
  | .seq x _ => x
  | _ => .skip
noncomputable def c52_24 : Code := match c52_21 with
  | .seq _ x => x
  | _ => .skip
theorem cd_c52_21 : c52_21 = .seq c52_23 c52_24 := by kernel_rfl
noncomputable def r52_23 : Array Oper := regAt [1, 1, 1, 1, 0, 0] body52
theorem cd_c52_23 : c52_23 = .region 7 r52_23 false := by kernel_rfl
noncomputable def c52_25 : Code := match c52_24 with
  | .cond _ x _ => x
  | _ => .skip
theorem cd_c52_24 : c52_24 = .cond (.tmp 13) c52_25 .skip := by kernel_rfl
noncomputable def c52_27 : Code := match c52_25 with
  | .seq x _ => x
  | _ => .skip
theorem cd_c52_25 : c52_25 = .seq c52_27 .ret := by kernel_rfl
noncomputable def r52_27 : Array Oper := regAt [1, 1, 1, 1, 0, 1, 1, 0] body52
theorem cd_c52_27 : c52_27 = .region 8 r52_27 false := by kernel_rfl
noncomputable def c52_28 : Code := match c52_22 with
  | .seq x _ => x
  | _ => .skip
noncomputable def c52_29 : Code := match c52_22 with
  | .seq _ x => x
  | _ => .skip
theorem cd_c52_22 : c52_22 = .seq c52_28 c52_29 := by kernel_rfl
noncomputable def c52_30 : Code := match c52_28 with
  | .seq x _ => x
  | _ => .skip
noncomputable def c52_31 : Code := match c52_28 with
  | .seq _ x => x
  | _ => .skip
theorem cd_c52_28 : c52_28 = .seq c52_30 c52_31 := by kernel_rfl
noncomputable def r52_30 : Array Oper := regAt [1, 1, 1, 1, 1, 0, 0] body52
theorem cd_c52_30 : c52_30 = .region 9 r52_30 false := by kernel_rfl
noncomputable def c52_32 : Code := match c52_31 with
  | .cond _ x _ => x
  | _ => .skip
theorem cd_c52_31 : c52_31 = .cond (.tmp 16) c52_32 .skip := by kernel_rfl
noncomputable def c52_34 : Code := match c52_32 with
  | .seq x _ => x
  | _ => .skip
theorem cd_c52_32 : c52_32 = .seq c52_34 .ret := by kernel_rfl
noncomputable def r52_34 : Array Oper := regAt [1, 1, 1, 1, 1, 0, 1, 1, 0] body52
theorem cd_c52_34 : c52_34 = .region 10 r52_34 false := by kernel_rfl
noncomputable def c52_35 : Code := match c52_29 with
  | .seq x _ => x
  | _ => .skip
noncomputable def c52_36 : Code := match c52_29 with
  | .seq _ x => x
  | _ => .skip
theorem cd_c52_29 : c52_29 = .seq c52_35 c52_36 := by kernel_rfl
noncomputable def c52_37 : Code := match c52_35 with
  | .seq x _ => x
  | _ => .skip
noncomputable def c52_38 : Code := match c52_35 with
  | .seq _ x => x
  | _ => .skip
theorem cd_c52_35 : c52_35 = .seq c52_37 c52_38 := by kernel_rfl
noncomputable def r52_37 : Array Oper := regAt [1, 1, 1, 1, 1, 1, 0, 0] body52
theorem cd_c52_37 : c52_37 = .region 11 r52_37 false := by kernel_rfl
noncomputable def c52_39 : Code := match c52_38 with
  | .cond _ x _ => x
  | _ => .skip
theorem cd_c52_38 : c52_38 = .cond (.tmp 19) c52_39 .skip := by kernel_rfl
noncomputable def c52_41 : Code := match c52_39 with
  | .seq x _ => x
  | _ => .skip
theorem cd_c52_39 : c52_39 = .seq c52_41 .ret := by kernel_rfl
noncomputable def r52_41 : Array Oper := regAt [1, 1, 1, 1, 1, 1, 0, 1, 1, 0] body52
theorem cd_c52_41 : c52_41 = .region 12 r52_41 false := by kernel_rfl
noncomputable def c52_42 : Code := match c52_36 with
  | .seq x _ => x
  | _ => .skip
theorem cd_c52_36 : c52_36 = .seq c52_42 .ret := by kernel_rfl
noncomputable def r52_42 : Array Oper := regAt [1, 1, 1, 1, 1, 1, 1, 0] body52
theorem cd_c52_42 : c52_42 = .region 13 r52_42 false := by kernel_rfl
noncomputable def body55 : Code := match Try.f55.body with
  | some c => c
  | none => .skip
noncomputable def c55_1 : Code := match code55 with
  | .seq x _ => x
  | _ => .skip
noncomputable def c55_2 : Code := match code55 with
  | .seq _ x => x
  | _ => .skip
theorem cd_code55 : code55 = .seq c55_1 c55_2 := by kernel_rfl
noncomputable def r55_1 : Array Oper := regAt [0] body55
theorem cd_c55_1 : c55_1 = .region 0 r55_1 false := by kernel_rfl
noncomputable def c55_3 : Code := match c55_2 with
  | .seq x _ => x
  | _ => .skip
noncomputable def c55_4 : Code := match c55_2 with
  | .seq _ x => x
  | _ => .skip
theorem cd_c55_2 : c55_2 = .seq c55_3 c55_4 := by kernel_rfl
noncomputable def c55_5 : Code := match c55_3 with
  | .seq x _ => x
  | _ => .skip
noncomputable def c55_6 : Code := match c55_3 with
  | .seq _ x => x
  | _ => .skip
theorem cd_c55_3 : c55_3 = .seq c55_5 c55_6 := by kernel_rfl
noncomputable def r55_5 : Array Oper := regAt [1, 0, 0] body55
theorem cd_c55_5 : c55_5 = .region 1 r55_5 false := by kernel_rfl
noncomputable def c55_7 : Code := match c55_6 with
  | .block _ x => x
  | _ => .skip
theorem cd_c55_6 : c55_6 = .block 0 c55_7 := by kernel_rfl
noncomputable def c55_8 : Code := match c55_7 with
  | .rangeFunc _ _ x _ => x
  | _ => .skip
noncomputable def c55_9 : Code := match c55_7 with
  | .rangeFunc _ _ _ x => x
  | _ => .skip
theorem cd_c55_7 : c55_7 = .rangeFunc (.tmp 6) #[7] c55_8 c55_9 := by kernel_rfl
noncomputable def r55_8 : Array Oper := regAt [1, 0, 1, 1, 2] body55
theorem cd_c55_8 : c55_8 = .region 2 r55_8 false := by kernel_rfl
noncomputable def c55_10 : Code := match c55_9 with
  | .block _ x => x
  | _ => .skip
theorem cd_c55_9 : c55_9 = .block 1 c55_10 := by kernel_rfl
noncomputable def r55_10 : Array Oper := regAt [1, 0, 1, 1, 3, 1] body55
theorem cd_c55_10 : c55_10 = .region 3 r55_10 false := by kernel_rfl
noncomputable def c55_11 : Code := match c55_4 with
  | .seq x _ => x
  | _ => .skip
theorem cd_c55_4 : c55_4 = .seq c55_11 .ret := by kernel_rfl
noncomputable def r55_11 : Array Oper := regAt [1, 1, 0] body55
theorem cd_c55_11 : c55_11 = .region 4 r55_11 false := by kernel_rfl
noncomputable def body56 : Code := match Try.f56.body with
  | some c => c
  | none => .skip
noncomputable def c56_1 : Code := match code56 with
  | .seq x _ => x
  | _ => .skip
noncomputable def c56_2 : Code := match code56 with
  | .seq _ x => x
  | _ => .skip
theorem cd_code56 : code56 = .seq c56_1 c56_2 := by kernel_rfl
noncomputable def r56_1 : Array Oper := regAt [0] body56
theorem cd_c56_1 : c56_1 = .region 0 r56_1 false := by kernel_rfl
noncomputable def c56_3 : Code := match c56_2 with
  | .block _ x => x
  | _ => .skip
theorem cd_c56_2 : c56_2 = .block 0 c56_3 := by kernel_rfl
noncomputable def c56_4 : Code := match c56_3 with
  | .loop x => x
  | _ => .skip
theorem cd_c56_3 : c56_3 = .loop c56_4 := by kernel_rfl
noncomputable def c56_5 : Code := match c56_4 with
  | .seq x _ => x
  | _ => .skip
noncomputable def c56_6 : Code := match c56_4 with
  | .seq _ x => x
  | _ => .skip
theorem cd_c56_4 : c56_4 = .seq c56_5 c56_6 := by kernel_rfl
noncomputable def r56_5 : Array Oper := regAt [1, 1, 0, 0] body56
theorem cd_c56_5 : c56_5 = .region 1 r56_5 false := by kernel_rfl
noncomputable def c56_7 : Code := match c56_6 with
  | .seq x _ => x
  | _ => .skip
noncomputable def c56_8 : Code := match c56_6 with
  | .seq _ x => x
  | _ => .skip
theorem cd_c56_6 : c56_6 = .seq c56_7 c56_8 := by kernel_rfl
theorem cd_c56_7 : c56_7 = .cond (.tmp 11) .skip (.exit 0) := by kernel_rfl
noncomputable def c56_10 : Code := match c56_8 with
  | .seq x _ => x
  | _ => .skip
noncomputable def c56_11 : Code := match c56_8 with
  | .seq _ x => x
  | _ => .skip
theorem cd_c56_8 : c56_8 = .seq c56_10 c56_11 := by kernel_rfl
noncomputable def c56_12 : Code := match c56_10 with
  | .block _ x => x
  | _ => .skip
theorem cd_c56_10 : c56_10 = .block 1 c56_12 := by kernel_rfl
noncomputable def c56_13 : Code := match c56_12 with
  | .seq x _ => x
  | _ => .skip
noncomputable def c56_14 : Code := match c56_12 with
  | .seq _ x => x
  | _ => .skip
theorem cd_c56_12 : c56_12 = .seq c56_13 c56_14 := by kernel_rfl
noncomputable def r56_13 : Array Oper := regAt [1, 1, 0, 1, 1, 0, 1, 0] body56
theorem cd_c56_13 : c56_13 = .region 2 r56_13 false := by kernel_rfl
noncomputable def c56_15 : Code := match c56_14 with
  | .seq x _ => x
  | _ => .skip
noncomputable def c56_16 : Code := match c56_14 with
  | .seq _ x => x
  | _ => .skip
theorem cd_c56_14 : c56_14 = .seq c56_15 c56_16 := by kernel_rfl
noncomputable def r56_15 : Array Oper := regAt [1, 1, 0, 1, 1, 0, 1, 1, 0] body56
theorem cd_c56_15 : c56_15 = .region 3 r56_15 false := by kernel_rfl
noncomputable def c56_17 : Code := match c56_16 with
  | .seq x _ => x
  | _ => .skip
noncomputable def c56_18 : Code := match c56_16 with
  | .seq _ x => x
  | _ => .skip
theorem cd_c56_16 : c56_16 = .seq c56_17 c56_18 := by kernel_rfl
noncomputable def c56_19 : Code := match c56_17 with
  | .seq x _ => x
  | _ => .skip
noncomputable def c56_20 : Code := match c56_17 with
  | .seq _ x => x
  | _ => .skip
theorem cd_c56_17 : c56_17 = .seq c56_19 c56_20 := by kernel_rfl
noncomputable def r56_19 : Array Oper := regAt [1, 1, 0, 1, 1, 0, 1, 1, 1, 0, 0] body56
theorem cd_c56_19 : c56_19 = .region 4 r56_19 true := by kernel_rfl
theorem cd_c56_20 : c56_20 = .cond (.tmp 29) (.exit 1) .skip := by kernel_rfl
noncomputable def c56_22 : Code := match c56_18 with
  | .seq x _ => x
  | _ => .skip
noncomputable def c56_23 : Code := match c56_18 with
  | .seq _ x => x
  | _ => .skip
theorem cd_c56_18 : c56_18 = .seq c56_22 c56_23 := by kernel_rfl
noncomputable def r56_22 : Array Oper := regAt [1, 1, 0, 1, 1, 0, 1, 1, 1, 1, 0] body56
theorem cd_c56_22 : c56_22 = .region 5 r56_22 false := by kernel_rfl
theorem cd_c56_23 : c56_23 = .cond (.tmp 33) .ret .skip := by kernel_rfl
noncomputable def r56_11 : Array Oper := regAt [1, 1, 0, 1, 1, 1] body56
theorem cd_c56_11 : c56_11 = .region 6 r56_11 false := by kernel_rfl
noncomputable def body58 : Code := match Try.f58.body with
  | some c => c
  | none => .skip
noncomputable def c58_1 : Code := match code58 with
  | .seq x _ => x
  | _ => .skip
noncomputable def c58_2 : Code := match code58 with
  | .seq _ x => x
  | _ => .skip
theorem cd_code58 : code58 = .seq c58_1 c58_2 := by kernel_rfl
noncomputable def r58_1 : Array Oper := regAt [0] body58
theorem cd_c58_1 : c58_1 = .region 0 r58_1 false := by kernel_rfl
noncomputable def c58_3 : Code := match c58_2 with
  | .seq x _ => x
  | _ => .skip
noncomputable def c58_4 : Code := match c58_2 with
  | .seq _ x => x
  | _ => .skip
theorem cd_c58_2 : c58_2 = .seq c58_3 c58_4 := by kernel_rfl
noncomputable def r58_3 : Array Oper := regAt [1, 0] body58
theorem cd_c58_3 : c58_3 = .region 1 r58_3 false := by kernel_rfl
noncomputable def c58_5 : Code := match c58_4 with
  | .seq x _ => x
  | _ => .skip
noncomputable def c58_6 : Code := match c58_4 with
  | .seq _ x => x
  | _ => .skip
theorem cd_c58_4 : c58_4 = .seq c58_5 c58_6 := by kernel_rfl
noncomputable def c58_7 : Code := match c58_5 with
  | .seq x _ => x
  | _ => .skip
noncomputable def c58_8 : Code := match c58_5 with
  | .seq _ x => x
  | _ => .skip
theorem cd_c58_5 : c58_5 = .seq c58_7 c58_8 := by kernel_rfl
noncomputable def r58_7 : Array Oper := regAt [1, 1, 0, 0] body58
theorem cd_c58_7 : c58_7 = .region 2 r58_7 false := by kernel_rfl
noncomputable def c58_9 : Code := match c58_8 with
  | .block _ x => x
  | _ => .skip
theorem cd_c58_8 : c58_8 = .block 0 c58_9 := by kernel_rfl
noncomputable def c58_10 : Code := match c58_9 with
  | .loop x => x
  | _ => .skip
theorem cd_c58_9 : c58_9 = .loop c58_10 := by kernel_rfl
noncomputable def c58_11 : Code := match c58_10 with
  | .seq x _ => x
  | _ => .skip
noncomputable def c58_12 : Code := match c58_10 with
  | .seq _ x => x
  | _ => .skip
theorem cd_c58_10 : c58_10 = .seq c58_11 c58_12 := by kernel_rfl
noncomputable def r58_11 : Array Oper := regAt [1, 1, 0, 1, 1, 0, 0] body58
theorem cd_c58_11 : c58_11 = .region 3 r58_11 false := by kernel_rfl
noncomputable def c58_13 : Code := match c58_12 with
  | .seq x _ => x
  | _ => .skip
noncomputable def c58_14 : Code := match c58_12 with
  | .seq _ x => x
  | _ => .skip
theorem cd_c58_12 : c58_12 = .seq c58_13 c58_14 := by kernel_rfl
theorem cd_c58_13 : c58_13 = .cond (.tmp 9) .skip (.exit 0) := by kernel_rfl
noncomputable def c58_16 : Code := match c58_14 with
  | .seq x _ => x
  | _ => .skip
noncomputable def c58_17 : Code := match c58_14 with
  | .seq _ x => x
  | _ => .skip
theorem cd_c58_14 : c58_14 = .seq c58_16 c58_17 := by kernel_rfl
noncomputable def c58_18 : Code := match c58_16 with
  | .block _ x => x
  | _ => .skip
theorem cd_c58_16 : c58_16 = .block 1 c58_18 := by kernel_rfl
noncomputable def c58_19 : Code := match c58_18 with
  | .seq x _ => x
  | _ => .skip
noncomputable def c58_20 : Code := match c58_18 with
  | .seq _ x => x
  | _ => .skip
theorem cd_c58_18 : c58_18 = .seq c58_19 c58_20 := by kernel_rfl
noncomputable def r58_19 : Array Oper := regAt [1, 1, 0, 1, 1, 0, 1, 1, 0, 1, 0] body58
theorem cd_c58_19 : c58_19 = .region 4 r58_19 false := by kernel_rfl
noncomputable def c58_21 : Code := match c58_20 with
  | .seq x _ => x
  | _ => .skip
noncomputable def c58_22 : Code := match c58_20 with
  | .seq _ x => x
  | _ => .skip
theorem cd_c58_20 : c58_20 = .seq c58_21 c58_22 := by kernel_rfl
noncomputable def r58_21 : Array Oper := regAt [1, 1, 0, 1, 1, 0, 1, 1, 0, 1, 1, 0] body58
theorem cd_c58_21 : c58_21 = .region 5 r58_21 false := by kernel_rfl
noncomputable def c58_23 : Code := match c58_22 with
  | .cond _ x _ => x
  | _ => .skip
theorem cd_c58_22 : c58_22 = .cond (.tmp 14) c58_23 .skip := by kernel_rfl
noncomputable def c58_25 : Code := match c58_23 with
  | .seq x _ => x
  | _ => .skip
theorem cd_c58_23 : c58_23 = .seq c58_25 .ret := by kernel_rfl
noncomputable def r58_25 : Array Oper := regAt [1, 1, 0, 1, 1, 0, 1, 1, 0, 1, 1, 1, 1, 0] body58
theorem cd_c58_25 : c58_25 = .region 6 r58_25 false := by kernel_rfl
noncomputable def r58_17 : Array Oper := regAt [1, 1, 0, 1, 1, 0, 1, 1, 1] body58
theorem cd_c58_17 : c58_17 = .region 7 r58_17 false := by kernel_rfl
noncomputable def c58_26 : Code := match c58_6 with
  | .seq x _ => x
  | _ => .skip
theorem cd_c58_6 : c58_6 = .seq c58_26 .ret := by kernel_rfl
noncomputable def r58_26 : Array Oper := regAt [1, 1, 1, 0] body58
theorem cd_c58_26 : c58_26 = .region 8 r58_26 false := by kernel_rfl
noncomputable def body59 : Code := match Try.f59.body with
  | some c => c
  | none => .skip
noncomputable def c59_1 : Code := match code59 with
  | .seq x _ => x
  | _ => .skip
noncomputable def c59_2 : Code := match code59 with
  | .seq _ x => x
  | _ => .skip
theorem cd_code59 : code59 = .seq c59_1 c59_2 := by kernel_rfl
noncomputable def r59_1 : Array Oper := regAt [0] body59
theorem cd_c59_1 : c59_1 = .region 0 r59_1 false := by kernel_rfl
noncomputable def c59_3 : Code := match c59_2 with
  | .seq x _ => x
  | _ => .skip
theorem cd_c59_2 : c59_2 = .seq c59_3 .ret := by kernel_rfl
noncomputable def r59_3 : Array Oper := regAt [1, 0] body59
theorem cd_c59_3 : c59_3 = .region 1 r59_3 false := by kernel_rfl
end Go.Proofs.Ytdanhpemheldlaa
