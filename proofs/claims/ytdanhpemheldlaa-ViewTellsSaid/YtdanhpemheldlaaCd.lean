/-
  The code of this seat's functions in named pieces: by our program cds.py.
-/
import Derived.Test.YtdanhpemheldlaaFn
import Derived.Test.YtdanhpemheldlaaSm
import Derived.KernelRfl
open Go Go.SY
namespace Go.Proofs.Ytdanhpemheldlaa
noncomputable def body6 : Code := match Try.f6.body with
  | some c => c
  | none => .skip
noncomputable def c6_1 : Code := match code6 with
  | .seq x _ => x
  | _ => .skip
noncomputable def c6_2 : Code := match code6 with
  | .seq _ x => x
  | _ => .skip
theorem cd_code6 : code6 = .seq c6_1 c6_2 := by kernel_rfl
noncomputable def r6_1 : Array Oper := regAt [0] body6
theorem cd_c6_1 : c6_1 = .region 0 r6_1 false := by kernel_rfl
noncomputable def c6_3 : Code := match c6_2 with
  | .seq x _ => x
  | _ => .skip
noncomputable def c6_4 : Code := match c6_2 with
  | .seq _ x => x
  | _ => .skip
theorem cd_c6_2 : c6_2 = .seq c6_3 c6_4 := by kernel_rfl
noncomputable def r6_3 : Array Oper := regAt [1, 0] body6
theorem cd_c6_3 : c6_3 = .region 1 r6_3 false := by kernel_rfl
noncomputable def c6_5 : Code := match c6_4 with
  | .seq x _ => x
  | _ => .skip
noncomputable def c6_6 : Code := match c6_4 with
  | .seq _ x => x
  | _ => .skip
theorem cd_c6_4 : c6_4 = .seq c6_5 c6_6 := by kernel_rfl
noncomputable def c6_7 : Code := match c6_5 with
  | .seq x _ => x
  | _ => .skip
noncomputable def c6_8 : Code := match c6_5 with
  | .seq _ x => x
  | _ => .skip
theorem cd_c6_5 : c6_5 = .seq c6_7 c6_8 := by kernel_rfl
noncomputable def r6_7 : Array Oper := regAt [1, 1, 0, 0] body6
theorem cd_c6_7 : c6_7 = .region 2 r6_7 false := by kernel_rfl
noncomputable def c6_9 : Code := match c6_8 with
  | .cond _ x _ => x
  | _ => .skip
theorem cd_c6_8 : c6_8 = .cond (.tmp 23) c6_9 .skip := by kernel_rfl
noncomputable def c6_11 : Code := match c6_9 with
  | .seq x _ => x
  | _ => .skip
theorem cd_c6_9 : c6_9 = .seq c6_11 .ret := by kernel_rfl
noncomputable def r6_11 : Array Oper := regAt [1, 1, 0, 1, 1, 0] body6
theorem cd_c6_11 : c6_11 = .region 3 r6_11 false := by kernel_rfl
noncomputable def c6_12 : Code := match c6_6 with
  | .seq x _ => x
  | _ => .skip
noncomputable def c6_13 : Code := match c6_6 with
  | .seq _ x => x
  | _ => .skip
theorem cd_c6_6 : c6_6 = .seq c6_12 c6_13 := by kernel_rfl
noncomputable def r6_12 : Array Oper := regAt [1, 1, 1, 0] body6
theorem cd_c6_12 : c6_12 = .region 4 r6_12 false := by kernel_rfl
noncomputable def c6_14 : Code := match c6_13 with
  | .seq x _ => x
  | _ => .skip
noncomputable def c6_15 : Code := match c6_13 with
  | .seq _ x => x
  | _ => .skip
theorem cd_c6_13 : c6_13 = .seq c6_14 c6_15 := by kernel_rfl
noncomputable def r6_14 : Array Oper := regAt [1, 1, 1, 1, 0] body6
theorem cd_c6_14 : c6_14 = .region 5 r6_14 false := by kernel_rfl
noncomputable def c6_16 : Code := match c6_15 with
  | .seq x _ => x
  | _ => .skip
noncomputable def c6_17 : Code := match c6_15 with
  | .seq _ x => x
  | _ => .skip
theorem cd_c6_15 : c6_15 = .seq c6_16 c6_17 := by kernel_rfl
noncomputable def r6_16 : Array Oper := regAt [1, 1, 1, 1, 1, 0] body6
theorem cd_c6_16 : c6_16 = .region 6 r6_16 false := by kernel_rfl
noncomputable def c6_18 : Code := match c6_17 with
  | .seq x _ => x
  | _ => .skip
noncomputable def c6_19 : Code := match c6_17 with
  | .seq _ x => x
  | _ => .skip
theorem cd_c6_17 : c6_17 = .seq c6_18 c6_19 := by kernel_rfl
noncomputable def r6_18 : Array Oper := regAt [1, 1, 1, 1, 1, 1, 0] body6
theorem cd_c6_18 : c6_18 = .region 7 r6_18 false := by kernel_rfl
noncomputable def c6_20 : Code := match c6_19 with
  | .seq x _ => x
  | _ => .skip
noncomputable def c6_21 : Code := match c6_19 with
  | .seq _ x => x
  | _ => .skip
theorem cd_c6_19 : c6_19 = .seq c6_20 c6_21 := by kernel_rfl
noncomputable def c6_22 : Code := match c6_20 with
  | .seq x _ => x
  | _ => .skip
noncomputable def c6_23 : Code := match c6_20 with
  | .seq _ x => x
  | _ => .skip
theorem cd_c6_20 : c6_20 = .seq c6_22 c6_23 := by kernel_rfl
noncomputable def r6_22 : Array Oper := regAt [1, 1, 1, 1, 1, 1, 1, 0, 0] body6
theorem cd_c6_22 : c6_22 = .region 8 r6_22 false := by kernel_rfl
noncomputable def c6_24 : Code := match c6_23 with
  | .block _ x => x
  | _ => .skip
theorem cd_c6_23 : c6_23 = .block 0 c6_24 := by kernel_rfl
noncomputable def c6_25 : Code := match c6_24 with
  | .loop x => x
  | _ => .skip
theorem cd_c6_24 : c6_24 = .loop c6_25 := by kernel_rfl
noncomputable def c6_26 : Code := match c6_25 with
  | .seq x _ => x
  | _ => .skip
noncomputable def c6_27 : Code := match c6_25 with
  | .seq _ x => x
  | _ => .skip
theorem cd_c6_25 : c6_25 = .seq c6_26 c6_27 := by kernel_rfl
noncomputable def c6_28 : Code := match c6_26 with
  | .seq x _ => x
  | _ => .skip
noncomputable def c6_29 : Code := match c6_26 with
  | .seq _ x => x
  | _ => .skip
theorem cd_c6_26 : c6_26 = .seq c6_28 c6_29 := by kernel_rfl
noncomputable def r6_28 : Array Oper := regAt [1, 1, 1, 1, 1, 1, 1, 0, 1, 1, 0, 0, 0] body6
theorem cd_c6_28 : c6_28 = .region 9 r6_28 false := by kernel_rfl
theorem cd_c6_29 : c6_29 = .cond (.tmp 41) .skip (.exit 0) := by kernel_rfl
noncomputable def c6_31 : Code := match c6_27 with
  | .seq x _ => x
  | _ => .skip
noncomputable def c6_32 : Code := match c6_27 with
  | .seq _ x => x
  | _ => .skip
theorem cd_c6_27 : c6_27 = .seq c6_31 c6_32 := by kernel_rfl
noncomputable def c6_33 : Code := match c6_31 with
  | .block _ x => x
  | _ => .skip
theorem cd_c6_31 : c6_31 = .block 1 c6_33 := by kernel_rfl
noncomputable def c6_34 : Code := match c6_33 with
  | .seq x _ => x
  | _ => .skip
noncomputable def c6_35 : Code := match c6_33 with
  | .seq _ x => x
  | _ => .skip
theorem cd_c6_33 : c6_33 = .seq c6_34 c6_35 := by kernel_rfl
noncomputable def r6_34 : Array Oper := regAt [1, 1, 1, 1, 1, 1, 1, 0, 1, 1, 0, 1, 0, 1, 0] body6
theorem cd_c6_34 : c6_34 = .region 11 r6_34 false := by kernel_rfl
noncomputable def c6_36 : Code := match c6_35 with
  | .cond _ x _ => x
  | _ => .skip
theorem cd_c6_35 : c6_35 = .cond (.tmp 49) c6_36 .skip := by kernel_rfl
noncomputable def r6_36 : Array Oper := regAt [1, 1, 1, 1, 1, 1, 1, 0, 1, 1, 0, 1, 0, 1, 1, 1] body6
theorem cd_c6_36 : c6_36 = .region 12 r6_36 false := by kernel_rfl
noncomputable def r6_32 : Array Oper := regAt [1, 1, 1, 1, 1, 1, 1, 0, 1, 1, 0, 1, 1] body6
theorem cd_c6_32 : c6_32 = .region 10 r6_32 false := by kernel_rfl
noncomputable def c6_38 : Code := match c6_21 with
  | .seq x _ => x
  | _ => .skip
noncomputable def c6_39 : Code := match c6_21 with
  | .seq _ x => x
  | _ => .skip
theorem cd_c6_21 : c6_21 = .seq c6_38 c6_39 := by kernel_rfl
noncomputable def c6_40 : Code := match c6_38 with
  | .seq x _ => x
  | _ => .skip
noncomputable def c6_41 : Code := match c6_38 with
  | .seq _ x => x
  | _ => .skip
theorem cd_c6_38 : c6_38 = .seq c6_40 c6_41 := by kernel_rfl
noncomputable def r6_40 : Array Oper := regAt [1, 1, 1, 1, 1, 1, 1, 1, 0, 0] body6
theorem cd_c6_40 : c6_40 = .region 13 r6_40 false := by kernel_rfl
noncomputable def c6_42 : Code := match c6_41 with
  | .block _ x => x
  | _ => .skip
theorem cd_c6_41 : c6_41 = .block 2 c6_42 := by kernel_rfl
noncomputable def c6_43 : Code := match c6_42 with
  | .loop x => x
  | _ => .skip
theorem cd_c6_42 : c6_42 = .loop c6_43 := by kernel_rfl
noncomputable def c6_44 : Code := match c6_43 with
  | .seq x _ => x
  | _ => .skip
noncomputable def c6_45 : Code := match c6_43 with
  | .seq _ x => x
  | _ => .skip
theorem cd_c6_43 : c6_43 = .seq c6_44 c6_45 := by kernel_rfl
noncomputable def c6_46 : Code := match c6_44 with
  | .seq x _ => x
  | _ => .skip
noncomputable def c6_47 : Code := match c6_44 with
  | .seq _ x => x
  | _ => .skip
theorem cd_c6_44 : c6_44 = .seq c6_46 c6_47 := by kernel_rfl
noncomputable def r6_46 : Array Oper := regAt [1, 1, 1, 1, 1, 1, 1, 1, 0, 1, 1, 0, 0, 0] body6
theorem cd_c6_46 : c6_46 = .region 14 r6_46 false := by kernel_rfl
theorem cd_c6_47 : c6_47 = .cond (.tmp 55) .skip (.exit 2) := by kernel_rfl
noncomputable def c6_49 : Code := match c6_45 with
  | .seq x _ => x
  | _ => .skip
noncomputable def c6_50 : Code := match c6_45 with
  | .seq _ x => x
  | _ => .skip
theorem cd_c6_45 : c6_45 = .seq c6_49 c6_50 := by kernel_rfl
noncomputable def c6_51 : Code := match c6_49 with
  | .block _ x => x
  | _ => .skip
theorem cd_c6_49 : c6_49 = .block 3 c6_51 := by kernel_rfl
noncomputable def c6_52 : Code := match c6_51 with
  | .seq x _ => x
  | _ => .skip
noncomputable def c6_53 : Code := match c6_51 with
  | .seq _ x => x
  | _ => .skip
theorem cd_c6_51 : c6_51 = .seq c6_52 c6_53 := by kernel_rfl
noncomputable def r6_52 : Array Oper := regAt [1, 1, 1, 1, 1, 1, 1, 1, 0, 1, 1, 0, 1, 0, 1, 0] body6
theorem cd_c6_52 : c6_52 = .region 16 r6_52 false := by kernel_rfl
noncomputable def c6_54 : Code := match c6_53 with
  | .cond _ x _ => x
  | _ => .skip
theorem cd_c6_53 : c6_53 = .cond (.tmp 63) c6_54 .skip := by kernel_rfl
noncomputable def r6_54 : Array Oper := regAt [1, 1, 1, 1, 1, 1, 1, 1, 0, 1, 1, 0, 1, 0, 1, 1, 1] body6
theorem cd_c6_54 : c6_54 = .region 17 r6_54 false := by kernel_rfl
noncomputable def r6_50 : Array Oper := regAt [1, 1, 1, 1, 1, 1, 1, 1, 0, 1, 1, 0, 1, 1] body6
theorem cd_c6_50 : c6_50 = .region 15 r6_50 false := by kernel_rfl
noncomputable def c6_56 : Code := match c6_39 with
  | .seq x _ => x
  | _ => .skip
noncomputable def c6_57 : Code := match c6_39 with
  | .seq _ x => x
  | _ => .skip
theorem cd_c6_39 : c6_39 = .seq c6_56 c6_57 := by kernel_rfl
noncomputable def r6_56 : Array Oper := regAt [1, 1, 1, 1, 1, 1, 1, 1, 1, 0] body6
theorem cd_c6_56 : c6_56 = .region 18 r6_56 false := by kernel_rfl
noncomputable def c6_58 : Code := match c6_57 with
  | .seq x _ => x
  | _ => .skip
theorem cd_c6_57 : c6_57 = .seq c6_58 .ret := by kernel_rfl
noncomputable def r6_58 : Array Oper := regAt [1, 1, 1, 1, 1, 1, 1, 1, 1, 1, 0] body6
theorem cd_c6_58 : c6_58 = .region 19 r6_58 false := by kernel_rfl
noncomputable def body7 : Code := match Try.f7.body with
  | some c => c
  | none => .skip
noncomputable def c7_1 : Code := match code7 with
  | .seq x _ => x
  | _ => .skip
noncomputable def c7_2 : Code := match code7 with
  | .seq _ x => x
  | _ => .skip
theorem cd_code7 : code7 = .seq c7_1 c7_2 := by kernel_rfl
noncomputable def r7_1 : Array Oper := regAt [0] body7
theorem cd_c7_1 : c7_1 = .region 0 r7_1 false := by kernel_rfl
noncomputable def c7_3 : Code := match c7_2 with
  | .seq x _ => x
  | _ => .skip
noncomputable def c7_4 : Code := match c7_2 with
  | .seq _ x => x
  | _ => .skip
theorem cd_c7_2 : c7_2 = .seq c7_3 c7_4 := by kernel_rfl
noncomputable def c7_5 : Code := match c7_3 with
  | .seq x _ => x
  | _ => .skip
noncomputable def c7_6 : Code := match c7_3 with
  | .seq _ x => x
  | _ => .skip
theorem cd_c7_3 : c7_3 = .seq c7_5 c7_6 := by kernel_rfl
noncomputable def r7_5 : Array Oper := regAt [1, 0, 0] body7
theorem cd_c7_5 : c7_5 = .region 1 r7_5 false := by kernel_rfl
noncomputable def c7_7 : Code := match c7_6 with
  | .cond _ x _ => x
  | _ => .skip
theorem cd_c7_6 : c7_6 = .cond (.tmp 22) c7_7 .skip := by kernel_rfl
noncomputable def c7_9 : Code := match c7_7 with
  | .seq x _ => x
  | _ => .skip
theorem cd_c7_7 : c7_7 = .seq c7_9 .ret := by kernel_rfl
noncomputable def r7_9 : Array Oper := regAt [1, 0, 1, 1, 0] body7
theorem cd_c7_9 : c7_9 = .region 2 r7_9 false := by kernel_rfl
noncomputable def c7_10 : Code := match c7_4 with
  | .seq x _ => x
  | _ => .skip
noncomputable def c7_11 : Code := match c7_4 with
  | .seq _ x => x
  | _ => .skip
theorem cd_c7_4 : c7_4 = .seq c7_10 c7_11 := by kernel_rfl
noncomputable def r7_10 : Array Oper := regAt [1, 1, 0] body7
theorem cd_c7_10 : c7_10 = .region 3 r7_10 false := by kernel_rfl
noncomputable def c7_12 : Code := match c7_11 with
  | .seq x _ => x
  | _ => .skip
noncomputable def c7_13 : Code := match c7_11 with
  | .seq _ x => x
  | _ => .skip
theorem cd_c7_11 : c7_11 = .seq c7_12 c7_13 := by kernel_rfl
noncomputable def r7_12 : Array Oper := regAt [1, 1, 1, 0] body7
theorem cd_c7_12 : c7_12 = .region 4 r7_12 false := by kernel_rfl
noncomputable def c7_14 : Code := match c7_13 with
  | .seq x _ => x
  | _ => .skip
noncomputable def c7_15 : Code := match c7_13 with
  | .seq _ x => x
  | _ => .skip
theorem cd_c7_13 : c7_13 = .seq c7_14 c7_15 := by kernel_rfl
noncomputable def r7_14 : Array Oper := regAt [1, 1, 1, 1, 0] body7
theorem cd_c7_14 : c7_14 = .region 5 r7_14 false := by kernel_rfl
noncomputable def c7_16 : Code := match c7_15 with
  | .seq x _ => x
  | _ => .skip
noncomputable def c7_17 : Code := match c7_15 with
  | .seq _ x => x
  | _ => .skip
theorem cd_c7_15 : c7_15 = .seq c7_16 c7_17 := by kernel_rfl
noncomputable def r7_16 : Array Oper := regAt [1, 1, 1, 1, 1, 0] body7
theorem cd_c7_16 : c7_16 = .region 6 r7_16 false := by kernel_rfl
noncomputable def c7_18 : Code := match c7_17 with
  | .seq x _ => x
  | _ => .skip
noncomputable def c7_19 : Code := match c7_17 with
  | .seq _ x => x
  | _ => .skip
theorem cd_c7_17 : c7_17 = .seq c7_18 c7_19 := by kernel_rfl
noncomputable def r7_18 : Array Oper := regAt [1, 1, 1, 1, 1, 1, 0] body7
theorem cd_c7_18 : c7_18 = .region 7 r7_18 false := by kernel_rfl
noncomputable def c7_20 : Code := match c7_19 with
  | .seq x _ => x
  | _ => .skip
noncomputable def c7_21 : Code := match c7_19 with
  | .seq _ x => x
  | _ => .skip
theorem cd_c7_19 : c7_19 = .seq c7_20 c7_21 := by kernel_rfl
noncomputable def r7_20 : Array Oper := regAt [1, 1, 1, 1, 1, 1, 1, 0] body7
theorem cd_c7_20 : c7_20 = .region 8 r7_20 false := by kernel_rfl
noncomputable def c7_22 : Code := match c7_21 with
  | .seq x _ => x
  | _ => .skip
noncomputable def c7_23 : Code := match c7_21 with
  | .seq _ x => x
  | _ => .skip
theorem cd_c7_21 : c7_21 = .seq c7_22 c7_23 := by kernel_rfl
noncomputable def r7_22 : Array Oper := regAt [1, 1, 1, 1, 1, 1, 1, 1, 0] body7
theorem cd_c7_22 : c7_22 = .region 9 r7_22 false := by kernel_rfl
noncomputable def c7_24 : Code := match c7_23 with
  | .seq x _ => x
  | _ => .skip
theorem cd_c7_23 : c7_23 = .seq c7_24 .ret := by kernel_rfl
noncomputable def r7_24 : Array Oper := regAt [1, 1, 1, 1, 1, 1, 1, 1, 1, 0] body7
theorem cd_c7_24 : c7_24 = .region 10 r7_24 false := by kernel_rfl
noncomputable def body12 : Code := match Try.f12.body with
  | some c => c
  | none => .skip
noncomputable def c12_1 : Code := match code12 with
  | .seq x _ => x
  | _ => .skip
noncomputable def c12_2 : Code := match code12 with
  | .seq _ x => x
  | _ => .skip
theorem cd_code12 : code12 = .seq c12_1 c12_2 := by kernel_rfl
noncomputable def r12_1 : Array Oper := regAt [0] body12
theorem cd_c12_1 : c12_1 = .region 0 r12_1 false := by kernel_rfl
noncomputable def c12_3 : Code := match c12_2 with
  | .seq x _ => x
  | _ => .skip
noncomputable def c12_4 : Code := match c12_2 with
  | .seq _ x => x
  | _ => .skip
theorem cd_c12_2 : c12_2 = .seq c12_3 c12_4 := by kernel_rfl
noncomputable def c12_5 : Code := match c12_3 with
  | .seq x _ => x
  | _ => .skip
noncomputable def c12_6 : Code := match c12_3 with
  | .seq _ x => x
  | _ => .skip
theorem cd_c12_3 : c12_3 = .seq c12_5 c12_6 := by kernel_rfl
noncomputable def r12_5 : Array Oper := regAt [1, 0, 0] body12
theorem cd_c12_5 : c12_5 = .region 1 r12_5 false := by kernel_rfl
noncomputable def c12_7 : Code := match c12_6 with
  | .cond _ x _ => x
  | _ => .skip
theorem cd_c12_6 : c12_6 = .cond (.tmp 10) c12_7 .skip := by kernel_rfl
noncomputable def c12_9 : Code := match c12_7 with
  | .seq x _ => x
  | _ => .skip
theorem cd_c12_7 : c12_7 = .seq c12_9 .ret := by kernel_rfl
noncomputable def r12_9 : Array Oper := regAt [1, 0, 1, 1, 0] body12
theorem cd_c12_9 : c12_9 = .region 2 r12_9 false := by kernel_rfl
noncomputable def c12_10 : Code := match c12_4 with
  | .seq x _ => x
  | _ => .skip
noncomputable def c12_11 : Code := match c12_4 with
  | .seq _ x => x
  | _ => .skip
theorem cd_c12_4 : c12_4 = .seq c12_10 c12_11 := by kernel_rfl
noncomputable def c12_12 : Code := match c12_10 with
  | .seq x _ => x
  | _ => .skip
noncomputable def c12_13 : Code := match c12_10 with
  | .seq _ x => x
  | _ => .skip
theorem cd_c12_10 : c12_10 = .seq c12_12 c12_13 := by kernel_rfl
noncomputable def r12_12 : Array Oper := regAt [1, 1, 0, 0] body12
theorem cd_c12_12 : c12_12 = .region 3 r12_12 false := by kernel_rfl
noncomputable def c12_14 : Code := match c12_13 with
  | .block _ x => x
  | _ => .skip
theorem cd_c12_13 : c12_13 = .block 0 c12_14 := by kernel_rfl
noncomputable def c12_15 : Code := match c12_14 with
  | .loop x => x
  | _ => .skip
theorem cd_c12_14 : c12_14 = .loop c12_15 := by kernel_rfl
noncomputable def c12_16 : Code := match c12_15 with
  | .seq x _ => x
  | _ => .skip
noncomputable def c12_17 : Code := match c12_15 with
  | .seq _ x => x
  | _ => .skip
theorem cd_c12_15 : c12_15 = .seq c12_16 c12_17 := by kernel_rfl
noncomputable def c12_18 : Code := match c12_16 with
  | .seq x _ => x
  | _ => .skip
noncomputable def c12_19 : Code := match c12_16 with
  | .seq _ x => x
  | _ => .skip
theorem cd_c12_16 : c12_16 = .seq c12_18 c12_19 := by kernel_rfl
noncomputable def r12_18 : Array Oper := regAt [1, 1, 0, 1, 1, 0, 0, 0] body12
theorem cd_c12_18 : c12_18 = .region 4 r12_18 false := by kernel_rfl
theorem cd_c12_19 : c12_19 = .cond (.tmp 14) .skip (.exit 0) := by kernel_rfl
noncomputable def c12_21 : Code := match c12_17 with
  | .seq x _ => x
  | _ => .skip
noncomputable def c12_22 : Code := match c12_17 with
  | .seq _ x => x
  | _ => .skip
theorem cd_c12_17 : c12_17 = .seq c12_21 c12_22 := by kernel_rfl
noncomputable def c12_23 : Code := match c12_21 with
  | .block _ x => x
  | _ => .skip
theorem cd_c12_21 : c12_21 = .block 1 c12_23 := by kernel_rfl
noncomputable def c12_24 : Code := match c12_23 with
  | .seq x _ => x
  | _ => .skip
noncomputable def c12_25 : Code := match c12_23 with
  | .seq _ x => x
  | _ => .skip
theorem cd_c12_23 : c12_23 = .seq c12_24 c12_25 := by kernel_rfl
noncomputable def r12_24 : Array Oper := regAt [1, 1, 0, 1, 1, 0, 1, 0, 1, 0] body12
theorem cd_c12_24 : c12_24 = .region 6 r12_24 true := by kernel_rfl
noncomputable def c12_26 : Code := match c12_25 with
  | .cond _ x _ => x
  | _ => .skip
theorem cd_c12_25 : c12_25 = .cond (.tmp 25) c12_26 .skip := by kernel_rfl
noncomputable def c12_28 : Code := match c12_26 with
  | .seq x _ => x
  | _ => .skip
theorem cd_c12_26 : c12_26 = .seq c12_28 .ret := by kernel_rfl
noncomputable def r12_28 : Array Oper := regAt [1, 1, 0, 1, 1, 0, 1, 0, 1, 1, 1, 0] body12
theorem cd_c12_28 : c12_28 = .region 7 r12_28 false := by kernel_rfl
noncomputable def r12_22 : Array Oper := regAt [1, 1, 0, 1, 1, 0, 1, 1] body12
theorem cd_c12_22 : c12_22 = .region 5 r12_22 false := by kernel_rfl
noncomputable def c12_29 : Code := match c12_11 with
  | .seq x _ => x
  | _ => .skip
theorem cd_c12_11 : c12_11 = .seq c12_29 .ret := by kernel_rfl
noncomputable def r12_29 : Array Oper := regAt [1, 1, 1, 0] body12
theorem cd_c12_29 : c12_29 = .region 8 r12_29 false := by kernel_rfl
noncomputable def body13 : Code := match Try.f13.body with
  | some c => c
  | none => .skip
noncomputable def c13_1 : Code := match code13 with
  | .seq x _ => x
  | _ => .skip
noncomputable def c13_2 : Code := match code13 with
  | .seq _ x => x
  | _ => .skip
theorem cd_code13 : code13 = .seq c13_1 c13_2 := by kernel_rfl
noncomputable def r13_1 : Array Oper := regAt [0] body13
theorem cd_c13_1 : c13_1 = .region 0 r13_1 false := by kernel_rfl
noncomputable def c13_3 : Code := match c13_2 with
  | .seq x _ => x
  | _ => .skip
noncomputable def c13_4 : Code := match c13_2 with
  | .seq _ x => x
  | _ => .skip
theorem cd_c13_2 : c13_2 = .seq c13_3 c13_4 := by kernel_rfl
noncomputable def r13_3 : Array Oper := regAt [1, 0] body13
theorem cd_c13_3 : c13_3 = .region 1 r13_3 false := by kernel_rfl
noncomputable def c13_5 : Code := match c13_4 with
  | .seq x _ => x
  | _ => .skip
noncomputable def c13_6 : Code := match c13_4 with
  | .seq _ x => x
  | _ => .skip
theorem cd_c13_4 : c13_4 = .seq c13_5 c13_6 := by kernel_rfl
noncomputable def c13_7 : Code := match c13_5 with
  | .seq x _ => x
  | _ => .skip
noncomputable def c13_8 : Code := match c13_5 with
  | .seq _ x => x
  | _ => .skip
theorem cd_c13_5 : c13_5 = .seq c13_7 c13_8 := by kernel_rfl
noncomputable def r13_7 : Array Oper := regAt [1, 1, 0, 0] body13
theorem cd_c13_7 : c13_7 = .region 2 r13_7 false := by kernel_rfl
noncomputable def c13_9 : Code := match c13_8 with
  | .block _ x => x
  | _ => .skip
theorem cd_c13_8 : c13_8 = .block 0 c13_9 := by kernel_rfl
noncomputable def c13_10 : Code := match c13_9 with
  | .loop x => x
  | _ => .skip
theorem cd_c13_9 : c13_9 = .loop c13_10 := by kernel_rfl
noncomputable def c13_11 : Code := match c13_10 with
  | .seq x _ => x
  | _ => .skip
noncomputable def c13_12 : Code := match c13_10 with
  | .seq _ x => x
  | _ => .skip
theorem cd_c13_10 : c13_10 = .seq c13_11 c13_12 := by kernel_rfl
noncomputable def r13_11 : Array Oper := regAt [1, 1, 0, 1, 1, 0, 0] body13
theorem cd_c13_11 : c13_11 = .region 3 r13_11 false := by kernel_rfl
noncomputable def c13_13 : Code := match c13_12 with
  | .seq x _ => x
  | _ => .skip
noncomputable def c13_14 : Code := match c13_12 with
  | .seq _ x => x
  | _ => .skip
theorem cd_c13_12 : c13_12 = .seq c13_13 c13_14 := by kernel_rfl
theorem cd_c13_13 : c13_13 = .cond (.tmp 9) .skip (.exit 0) := by kernel_rfl
noncomputable def c13_16 : Code := match c13_14 with
  | .seq x _ => x
  | _ => .skip
noncomputable def c13_17 : Code := match c13_14 with
  | .seq _ x => x
  | _ => .skip
theorem cd_c13_14 : c13_14 = .seq c13_16 c13_17 := by kernel_rfl
noncomputable def c13_18 : Code := match c13_16 with
  | .block _ x => x
  | _ => .skip
theorem cd_c13_16 : c13_16 = .block 1 c13_18 := by kernel_rfl
noncomputable def c13_19 : Code := match c13_18 with
  | .seq x _ => x
  | _ => .skip
noncomputable def c13_20 : Code := match c13_18 with
  | .seq _ x => x
  | _ => .skip
theorem cd_c13_18 : c13_18 = .seq c13_19 c13_20 := by kernel_rfl
noncomputable def r13_19 : Array Oper := regAt [1, 1, 0, 1, 1, 0, 1, 1, 0, 1, 0] body13
theorem cd_c13_19 : c13_19 = .region 4 r13_19 false := by kernel_rfl
noncomputable def c13_21 : Code := match c13_20 with
  | .seq x _ => x
  | _ => .skip
noncomputable def c13_22 : Code := match c13_20 with
  | .seq _ x => x
  | _ => .skip
theorem cd_c13_20 : c13_20 = .seq c13_21 c13_22 := by kernel_rfl
noncomputable def c13_23 : Code := match c13_21 with
  | .seq x _ => x
  | _ => .skip
noncomputable def c13_24 : Code := match c13_21 with
  | .seq _ x => x
  | _ => .skip
theorem cd_c13_21 : c13_21 = .seq c13_23 c13_24 := by kernel_rfl
noncomputable def r13_23 : Array Oper := regAt [1, 1, 0, 1, 1, 0, 1, 1, 0, 1, 1, 0, 0] body13
theorem cd_c13_23 : c13_23 = .region 5 r13_23 false := by kernel_rfl
noncomputable def c13_25 : Code := match c13_24 with
  | .cond _ x _ => x
  | _ => .skip
theorem cd_c13_24 : c13_24 = .cond (.tmp 20) c13_25 .skip := by kernel_rfl
noncomputable def c13_27 : Code := match c13_25 with
  | .seq x _ => x
  | _ => .skip
theorem cd_c13_25 : c13_25 = .seq c13_27 .ret := by kernel_rfl
noncomputable def r13_27 : Array Oper := regAt [1, 1, 0, 1, 1, 0, 1, 1, 0, 1, 1, 0, 1, 1, 0] body13
theorem cd_c13_27 : c13_27 = .region 6 r13_27 false := by kernel_rfl
noncomputable def r13_22 : Array Oper := regAt [1, 1, 0, 1, 1, 0, 1, 1, 0, 1, 1, 1] body13
theorem cd_c13_22 : c13_22 = .region 7 r13_22 false := by kernel_rfl
noncomputable def r13_17 : Array Oper := regAt [1, 1, 0, 1, 1, 0, 1, 1, 1] body13
theorem cd_c13_17 : c13_17 = .region 8 r13_17 false := by kernel_rfl
noncomputable def c13_28 : Code := match c13_6 with
  | .seq x _ => x
  | _ => .skip
theorem cd_c13_6 : c13_6 = .seq c13_28 .ret := by kernel_rfl
noncomputable def r13_28 : Array Oper := regAt [1, 1, 1, 0] body13
theorem cd_c13_28 : c13_28 = .region 9 r13_28 false := by kernel_rfl
noncomputable def body15 : Code := match Try.f15.body with
  | some c => c
  | none => .skip
noncomputable def c15_1 : Code := match code15 with
  | .seq x _ => x
  | _ => .skip
noncomputable def c15_2 : Code := match code15 with
  | .seq _ x => x
  | _ => .skip
theorem cd_code15 : code15 = .seq c15_1 c15_2 := by kernel_rfl
noncomputable def r15_1 : Array Oper := regAt [0] body15
theorem cd_c15_1 : c15_1 = .region 0 r15_1 false := by kernel_rfl
noncomputable def c15_3 : Code := match c15_2 with
  | .seq x _ => x
  | _ => .skip
noncomputable def c15_4 : Code := match c15_2 with
  | .seq _ x => x
  | _ => .skip
theorem cd_c15_2 : c15_2 = .seq c15_3 c15_4 := by kernel_rfl
noncomputable def c15_5 : Code := match c15_3 with
  | .seq x _ => x
  | _ => .skip
noncomputable def c15_6 : Code := match c15_3 with
  | .seq _ x => x
  | _ => .skip
theorem cd_c15_3 : c15_3 = .seq c15_5 c15_6 := by kernel_rfl
noncomputable def r15_5 : Array Oper := regAt [1, 0, 0] body15
theorem cd_c15_5 : c15_5 = .region 1 r15_5 false := by kernel_rfl
noncomputable def c15_7 : Code := match c15_6 with
  | .seq x _ => x
  | _ => .skip
noncomputable def c15_8 : Code := match c15_6 with
  | .seq _ x => x
  | _ => .skip
theorem cd_c15_6 : c15_6 = .seq c15_7 c15_8 := by kernel_rfl
noncomputable def r15_7 : Array Oper := regAt [1, 0, 1, 0] body15
theorem cd_c15_7 : c15_7 = .region 2 r15_7 false := by kernel_rfl
noncomputable def c15_9 : Code := match c15_8 with
  | .cond _ x _ => x
  | _ => .skip
theorem cd_c15_8 : c15_8 = .cond (.tmp 12) c15_9 .skip := by kernel_rfl
noncomputable def c15_11 : Code := match c15_9 with
  | .seq x _ => x
  | _ => .skip
theorem cd_c15_9 : c15_9 = .seq c15_11 .ret := by kernel_rfl
noncomputable def r15_11 : Array Oper := regAt [1, 0, 1, 1, 1, 0] body15
theorem cd_c15_11 : c15_11 = .region 3 r15_11 false := by kernel_rfl
noncomputable def c15_12 : Code := match c15_4 with
  | .seq x _ => x
  | _ => .skip
noncomputable def c15_13 : Code := match c15_4 with
  | .seq _ x => x
  | _ => .skip
theorem cd_c15_4 : c15_4 = .seq c15_12 c15_13 := by kernel_rfl
noncomputable def r15_12 : Array Oper := regAt [1, 1, 0] body15
theorem cd_c15_12 : c15_12 = .region 4 r15_12 false := by kernel_rfl
noncomputable def c15_14 : Code := match c15_13 with
  | .seq x _ => x
  | _ => .skip
noncomputable def c15_15 : Code := match c15_13 with
  | .seq _ x => x
  | _ => .skip
theorem cd_c15_13 : c15_13 = .seq c15_14 c15_15 := by kernel_rfl
noncomputable def c15_16 : Code := match c15_14 with
  | .seq x _ => x
  | _ => .skip
noncomputable def c15_17 : Code := match c15_14 with
  | .seq _ x => x
  | _ => .skip
theorem cd_c15_14 : c15_14 = .seq c15_16 c15_17 := by kernel_rfl
noncomputable def r15_16 : Array Oper := regAt [1, 1, 1, 0, 0] body15
theorem cd_c15_16 : c15_16 = .region 5 r15_16 false := by kernel_rfl
noncomputable def c15_18 : Code := match c15_17 with
  | .cond _ x _ => x
  | _ => .skip
theorem cd_c15_17 : c15_17 = .cond (.tmp 22) c15_18 .skip := by kernel_rfl
noncomputable def c15_20 : Code := match c15_18 with
  | .seq x _ => x
  | _ => .skip
theorem cd_c15_18 : c15_18 = .seq c15_20 .ret := by kernel_rfl
noncomputable def r15_20 : Array Oper := regAt [1, 1, 1, 0, 1, 1, 0] body15
theorem cd_c15_20 : c15_20 = .region 6 r15_20 false := by kernel_rfl
noncomputable def c15_21 : Code := match c15_15 with
  | .seq x _ => x
  | _ => .skip
theorem cd_c15_15 : c15_15 = .seq c15_21 .ret := by kernel_rfl
noncomputable def r15_21 : Array Oper := regAt [1, 1, 1, 1, 0] body15
theorem cd_c15_21 : c15_21 = .region 7 r15_21 false := by kernel_rfl
noncomputable def body16 : Code := match Try.f16.body with
  | some c => c
  | none => .skip
noncomputable def c16_1 : Code := match code16 with
  | .seq x _ => x
  | _ => .skip
noncomputable def c16_2 : Code := match code16 with
  | .seq _ x => x
  | _ => .skip
theorem cd_code16 : code16 = .seq c16_1 c16_2 := by kernel_rfl
noncomputable def r16_1 : Array Oper := regAt [0] body16
theorem cd_c16_1 : c16_1 = .region 0 r16_1 false := by kernel_rfl
noncomputable def c16_3 : Code := match c16_2 with
  | .seq x _ => x
  | _ => .skip
theorem cd_c16_2 : c16_2 = .seq c16_3 .ret := by kernel_rfl
noncomputable def r16_3 : Array Oper := regAt [1, 0] body16
theorem cd_c16_3 : c16_3 = .region 1 r16_3 false := by kernel_rfl
noncomputable def body18 : Code := match Try.f18.body with
  | some c => c
  | none => .skip
noncomputable def c18_1 : Code := match code18 with
  | .seq x _ => x
  | _ => .skip
noncomputable def c18_2 : Code := match code18 with
  | .seq _ x => x
  | _ => .skip
theorem cd_code18 : code18 = .seq c18_1 c18_2 := by kernel_rfl
noncomputable def r18_1 : Array Oper := regAt [0] body18
theorem cd_c18_1 : c18_1 = .region 0 r18_1 false := by kernel_rfl
noncomputable def c18_3 : Code := match c18_2 with
  | .seq x _ => x
  | _ => .skip
noncomputable def c18_4 : Code := match c18_2 with
  | .seq _ x => x
  | _ => .skip
theorem cd_c18_2 : c18_2 = .seq c18_3 c18_4 := by kernel_rfl
noncomputable def r18_3 : Array Oper := regAt [1, 0] body18
theorem cd_c18_3 : c18_3 = .region 1 r18_3 false := by kernel_rfl
noncomputable def c18_5 : Code := match c18_4 with
  | .seq x _ => x
  | _ => .skip
noncomputable def c18_6 : Code := match c18_4 with
  | .seq _ x => x
  | _ => .skip
theorem cd_c18_4 : c18_4 = .seq c18_5 c18_6 := by kernel_rfl
noncomputable def c18_7 : Code := match c18_5 with
  | .seq x _ => x
  | _ => .skip
noncomputable def c18_8 : Code := match c18_5 with
  | .seq _ x => x
  | _ => .skip
theorem cd_c18_5 : c18_5 = .seq c18_7 c18_8 := by kernel_rfl
noncomputable def r18_7 : Array Oper := regAt [1, 1, 0, 0] body18
theorem cd_c18_7 : c18_7 = .region 2 r18_7 false := by kernel_rfl
noncomputable def c18_9 : Code := match c18_8 with
  | .block _ x => x
  | _ => .skip
theorem cd_c18_8 : c18_8 = .block 0 c18_9 := by kernel_rfl
noncomputable def c18_10 : Code := match c18_9 with
  | .loop x => x
  | _ => .skip
theorem cd_c18_9 : c18_9 = .loop c18_10 := by kernel_rfl
noncomputable def c18_11 : Code := match c18_10 with
  | .seq x _ => x
  | _ => .skip
noncomputable def c18_12 : Code := match c18_10 with
  | .seq _ x => x
  | _ => .skip
theorem cd_c18_10 : c18_10 = .seq c18_11 c18_12 := by kernel_rfl
noncomputable def c18_13 : Code := match c18_11 with
  | .seq x _ => x
  | _ => .skip
noncomputable def c18_14 : Code := match c18_11 with
  | .seq _ x => x
  | _ => .skip
theorem cd_c18_11 : c18_11 = .seq c18_13 c18_14 := by kernel_rfl
noncomputable def r18_13 : Array Oper := regAt [1, 1, 0, 1, 1, 0, 0, 0] body18
theorem cd_c18_13 : c18_13 = .region 3 r18_13 false := by kernel_rfl
theorem cd_c18_14 : c18_14 = .cond (.tmp 18) .skip (.exit 0) := by kernel_rfl
noncomputable def c18_16 : Code := match c18_12 with
  | .seq x _ => x
  | _ => .skip
noncomputable def c18_17 : Code := match c18_12 with
  | .seq _ x => x
  | _ => .skip
theorem cd_c18_12 : c18_12 = .seq c18_16 c18_17 := by kernel_rfl
noncomputable def c18_18 : Code := match c18_16 with
  | .block _ x => x
  | _ => .skip
theorem cd_c18_16 : c18_16 = .block 1 c18_18 := by kernel_rfl
noncomputable def r18_18 : Array Oper := regAt [1, 1, 0, 1, 1, 0, 1, 0, 1] body18
theorem cd_c18_18 : c18_18 = .region 5 r18_18 true := by kernel_rfl
noncomputable def r18_17 : Array Oper := regAt [1, 1, 0, 1, 1, 0, 1, 1] body18
theorem cd_c18_17 : c18_17 = .region 4 r18_17 false := by kernel_rfl
noncomputable def c18_19 : Code := match c18_6 with
  | .seq x _ => x
  | _ => .skip
theorem cd_c18_6 : c18_6 = .seq c18_19 .ret := by kernel_rfl
noncomputable def r18_19 : Array Oper := regAt [1, 1, 1, 0] body18
theorem cd_c18_19 : c18_19 = .region 6 r18_19 false := by kernel_rfl
noncomputable def body19 : Code := match Try.f19.body with
  | some c => c
  | none => .skip
noncomputable def c19_1 : Code := match code19 with
  | .seq x _ => x
  | _ => .skip
noncomputable def c19_2 : Code := match code19 with
  | .seq _ x => x
  | _ => .skip
theorem cd_code19 : code19 = .seq c19_1 c19_2 := by kernel_rfl
noncomputable def r19_1 : Array Oper := regAt [0] body19
theorem cd_c19_1 : c19_1 = .region 0 r19_1 false := by kernel_rfl
noncomputable def c19_3 : Code := match c19_2 with
  | .seq x _ => x
  | _ => .skip
theorem cd_c19_2 : c19_2 = .seq c19_3 .ret := by kernel_rfl
noncomputable def r19_3 : Array Oper := regAt [1, 0] body19
theorem cd_c19_3 : c19_3 = .region 1 r19_3 false := by kernel_rfl
noncomputable def body20 : Code := match Try.f20.body with
  | some c => c
  | none => .skip
noncomputable def c20_1 : Code := match code20 with
  | .seq x _ => x
  | _ => .skip
noncomputable def c20_2 : Code := match code20 with
  | .seq _ x => x
  | _ => .skip
theorem cd_code20 : code20 = .seq c20_1 c20_2 := by kernel_rfl
noncomputable def r20_1 : Array Oper := regAt [0] body20
theorem cd_c20_1 : c20_1 = .region 0 r20_1 false := by kernel_rfl
noncomputable def c20_3 : Code := match c20_2 with
  | .seq x _ => x
  | _ => .skip
theorem cd_c20_2 : c20_2 = .seq c20_3 .ret := by kernel_rfl
noncomputable def r20_3 : Array Oper := regAt [1, 0] body20
theorem cd_c20_3 : c20_3 = .region 1 r20_3 false := by kernel_rfl
noncomputable def body21 : Code := match Try.f21.body with
  | some c => c
  | none => .skip
noncomputable def c21_1 : Code := match code21 with
  | .seq x _ => x
  | _ => .skip
noncomputable def c21_2 : Code := match code21 with
  | .seq _ x => x
  | _ => .skip
theorem cd_code21 : code21 = .seq c21_1 c21_2 := by kernel_rfl
noncomputable def r21_1 : Array Oper := regAt [0] body21
theorem cd_c21_1 : c21_1 = .region 0 r21_1 false := by kernel_rfl
noncomputable def c21_3 : Code := match c21_2 with
  | .seq x _ => x
  | _ => .skip
noncomputable def c21_4 : Code := match c21_2 with
  | .seq _ x => x
  | _ => .skip
theorem cd_c21_2 : c21_2 = .seq c21_3 c21_4 := by kernel_rfl
noncomputable def c21_5 : Code := match c21_3 with
  | .seq x _ => x
  | _ => .skip
noncomputable def c21_6 : Code := match c21_3 with
  | .seq _ x => x
  | _ => .skip
theorem cd_c21_3 : c21_3 = .seq c21_5 c21_6 := by kernel_rfl
noncomputable def r21_5 : Array Oper := regAt [1, 0, 0] body21
theorem cd_c21_5 : c21_5 = .region 1 r21_5 false := by kernel_rfl
noncomputable def c21_7 : Code := match c21_6 with
  | .cond _ x _ => x
  | _ => .skip
theorem cd_c21_6 : c21_6 = .cond (.tmp 6) c21_7 .skip := by kernel_rfl
noncomputable def c21_9 : Code := match c21_7 with
  | .seq x _ => x
  | _ => .skip
theorem cd_c21_7 : c21_7 = .seq c21_9 .ret := by kernel_rfl
noncomputable def r21_9 : Array Oper := regAt [1, 0, 1, 1, 0] body21
theorem cd_c21_9 : c21_9 = .region 2 r21_9 false := by kernel_rfl
noncomputable def c21_10 : Code := match c21_4 with
  | .seq x _ => x
  | _ => .skip
noncomputable def c21_11 : Code := match c21_4 with
  | .seq _ x => x
  | _ => .skip
theorem cd_c21_4 : c21_4 = .seq c21_10 c21_11 := by kernel_rfl
noncomputable def r21_10 : Array Oper := regAt [1, 1, 0] body21
theorem cd_c21_10 : c21_10 = .region 3 r21_10 false := by kernel_rfl
noncomputable def c21_12 : Code := match c21_11 with
  | .seq x _ => x
  | _ => .skip
noncomputable def c21_13 : Code := match c21_11 with
  | .seq _ x => x
  | _ => .skip
theorem cd_c21_11 : c21_11 = .seq c21_12 c21_13 := by kernel_rfl
noncomputable def c21_14 : Code := match c21_12 with
  | .seq x _ => x
  | _ => .skip
noncomputable def c21_15 : Code := match c21_12 with
  | .seq _ x => x
  | _ => .skip
theorem cd_c21_12 : c21_12 = .seq c21_14 c21_15 := by kernel_rfl
noncomputable def r21_14 : Array Oper := regAt [1, 1, 1, 0, 0] body21
theorem cd_c21_14 : c21_14 = .region 4 r21_14 false := by kernel_rfl
noncomputable def c21_16 : Code := match c21_15 with
  | .cond _ x _ => x
  | _ => .skip
theorem cd_c21_15 : c21_15 = .cond (.tmp 11) c21_16 .skip := by kernel_rfl
noncomputable def r21_16 : Array Oper := regAt [1, 1, 1, 0, 1, 1] body21
theorem cd_c21_16 : c21_16 = .region 5 r21_16 false := by kernel_rfl
noncomputable def c21_18 : Code := match c21_13 with
  | .seq x _ => x
  | _ => .skip
theorem cd_c21_13 : c21_13 = .seq c21_18 .ret := by kernel_rfl
noncomputable def r21_18 : Array Oper := regAt [1, 1, 1, 1, 0] body21
theorem cd_c21_18 : c21_18 = .region 6 r21_18 false := by kernel_rfl
noncomputable def body22 : Code := match Try.f22.body with
  | some c => c
  | none => .skip
noncomputable def c22_1 : Code := match code22 with
  | .seq x _ => x
  | _ => .skip
noncomputable def c22_2 : Code := match code22 with
  | .seq _ x => x
  | _ => .skip
theorem cd_code22 : code22 = .seq c22_1 c22_2 := by kernel_rfl
noncomputable def r22_1 : Array Oper := regAt [0] body22
theorem cd_c22_1 : c22_1 = .region 0 r22_1 false := by kernel_rfl
noncomputable def c22_3 : Code := match c22_2 with
  | .seq x _ => x
  | _ => .skip
theorem cd_c22_2 : c22_2 = .seq c22_3 .ret := by kernel_rfl
noncomputable def r22_3 : Array Oper := regAt [1, 0] body22
theorem cd_c22_3 : c22_3 = .region 1 r22_3 false := by kernel_rfl
noncomputable def body23 : Code := match Try.f23.body with
  | some c => c
  | none => .skip
noncomputable def c23_1 : Code := match code23 with
  | .seq x _ => x
  | _ => .skip
noncomputable def c23_2 : Code := match code23 with
  | .seq _ x => x
  | _ => .skip
theorem cd_code23 : code23 = .seq c23_1 c23_2 := by kernel_rfl
noncomputable def r23_1 : Array Oper := regAt [0] body23
theorem cd_c23_1 : c23_1 = .region 0 r23_1 false := by kernel_rfl
noncomputable def c23_3 : Code := match c23_2 with
  | .seq x _ => x
  | _ => .skip
noncomputable def c23_4 : Code := match c23_2 with
  | .seq _ x => x
  | _ => .skip
theorem cd_c23_2 : c23_2 = .seq c23_3 c23_4 := by kernel_rfl
noncomputable def c23_5 : Code := match c23_3 with
  | .seq x _ => x
  | _ => .skip
noncomputable def c23_6 : Code := match c23_3 with
  | .seq _ x => x
  | _ => .skip
theorem cd_c23_3 : c23_3 = .seq c23_5 c23_6 := by kernel_rfl
noncomputable def r23_5 : Array Oper := regAt [1, 0, 0] body23
theorem cd_c23_5 : c23_5 = .region 1 r23_5 false := by kernel_rfl
noncomputable def c23_7 : Code := match c23_6 with
  | .cond _ x _ => x
  | _ => .skip
theorem cd_c23_6 : c23_6 = .cond (.tmp 10) c23_7 .skip := by kernel_rfl
noncomputable def c23_9 : Code := match c23_7 with
  | .seq x _ => x
  | _ => .skip
theorem cd_c23_7 : c23_7 = .seq c23_9 .ret := by kernel_rfl
noncomputable def r23_9 : Array Oper := regAt [1, 0, 1, 1, 0] body23
theorem cd_c23_9 : c23_9 = .region 2 r23_9 false := by kernel_rfl
noncomputable def c23_10 : Code := match c23_4 with
  | .seq x _ => x
  | _ => .skip
noncomputable def c23_11 : Code := match c23_4 with
  | .seq _ x => x
  | _ => .skip
theorem cd_c23_4 : c23_4 = .seq c23_10 c23_11 := by kernel_rfl
noncomputable def r23_10 : Array Oper := regAt [1, 1, 0] body23
theorem cd_c23_10 : c23_10 = .region 3 r23_10 false := by kernel_rfl
noncomputable def c23_12 : Code := match c23_11 with
  | .seq x _ => x
  | _ => .skip
noncomputable def c23_13 : Code := match c23_11 with
  | .seq _ x => x
  | _ => .skip
theorem cd_c23_11 : c23_11 = .seq c23_12 c23_13 := by kernel_rfl
noncomputable def c23_14 : Code := match c23_12 with
  | .seq x _ => x
  | _ => .skip
noncomputable def c23_15 : Code := match c23_12 with
  | .seq _ x => x
  | _ => .skip
theorem cd_c23_12 : c23_12 = .seq c23_14 c23_15 := by kernel_rfl
noncomputable def r23_14 : Array Oper := regAt [1, 1, 1, 0, 0] body23
theorem cd_c23_14 : c23_14 = .region 4 r23_14 false := by kernel_rfl
noncomputable def c23_16 : Code := match c23_15 with
  | .cond _ x _ => x
  | _ => .skip
theorem cd_c23_15 : c23_15 = .cond (.tmp 19) c23_16 .skip := by kernel_rfl
noncomputable def c23_18 : Code := match c23_16 with
  | .seq x _ => x
  | _ => .skip
theorem cd_c23_16 : c23_16 = .seq c23_18 .ret := by kernel_rfl
noncomputable def r23_18 : Array Oper := regAt [1, 1, 1, 0, 1, 1, 0] body23
theorem cd_c23_18 : c23_18 = .region 5 r23_18 false := by kernel_rfl
noncomputable def c23_19 : Code := match c23_13 with
  | .seq x _ => x
  | _ => .skip
theorem cd_c23_13 : c23_13 = .seq c23_19 .ret := by kernel_rfl
noncomputable def r23_19 : Array Oper := regAt [1, 1, 1, 1, 0] body23
theorem cd_c23_19 : c23_19 = .region 6 r23_19 false := by kernel_rfl
noncomputable def body24 : Code := match Try.f24.body with
  | some c => c
  | none => .skip
noncomputable def c24_1 : Code := match code24 with
  | .seq x _ => x
  | _ => .skip
noncomputable def c24_2 : Code := match code24 with
  | .seq _ x => x
  | _ => .skip
theorem cd_code24 : code24 = .seq c24_1 c24_2 := by kernel_rfl
noncomputable def r24_1 : Array Oper := regAt [0] body24
theorem cd_c24_1 : c24_1 = .region 0 r24_1 false := by kernel_rfl
noncomputable def c24_3 : Code := match c24_2 with
  | .seq x _ => x
  | _ => .skip
noncomputable def c24_4 : Code := match c24_2 with
  | .seq _ x => x
  | _ => .skip
theorem cd_c24_2 : c24_2 = .seq c24_3 c24_4 := by kernel_rfl
noncomputable def r24_3 : Array Oper := regAt [1, 0] body24
theorem cd_c24_3 : c24_3 = .region 1 r24_3 false := by kernel_rfl
noncomputable def c24_5 : Code := match c24_4 with
  | .seq x _ => x
  | _ => .skip
noncomputable def c24_6 : Code := match c24_4 with
  | .seq _ x => x
  | _ => .skip
theorem cd_c24_4 : c24_4 = .seq c24_5 c24_6 := by kernel_rfl
noncomputable def c24_7 : Code := match c24_5 with
  | .seq x _ => x
  | _ => .skip
noncomputable def c24_8 : Code := match c24_5 with
  | .seq _ x => x
  | _ => .skip
theorem cd_c24_5 : c24_5 = .seq c24_7 c24_8 := by kernel_rfl
noncomputable def r24_7 : Array Oper := regAt [1, 1, 0, 0] body24
theorem cd_c24_7 : c24_7 = .region 2 r24_7 false := by kernel_rfl
noncomputable def c24_9 : Code := match c24_8 with
  | .block _ x => x
  | _ => .skip
theorem cd_c24_8 : c24_8 = .block 0 c24_9 := by kernel_rfl
noncomputable def c24_10 : Code := match c24_9 with
  | .loop x => x
  | _ => .skip
theorem cd_c24_9 : c24_9 = .loop c24_10 := by kernel_rfl
noncomputable def c24_11 : Code := match c24_10 with
  | .seq x _ => x
  | _ => .skip
noncomputable def c24_12 : Code := match c24_10 with
  | .seq _ x => x
  | _ => .skip
theorem cd_c24_10 : c24_10 = .seq c24_11 c24_12 := by kernel_rfl
noncomputable def c24_13 : Code := match c24_11 with
  | .seq x _ => x
  | _ => .skip
noncomputable def c24_14 : Code := match c24_11 with
  | .seq _ x => x
  | _ => .skip
theorem cd_c24_11 : c24_11 = .seq c24_13 c24_14 := by kernel_rfl
noncomputable def r24_13 : Array Oper := regAt [1, 1, 0, 1, 1, 0, 0, 0] body24
theorem cd_c24_13 : c24_13 = .region 3 r24_13 false := by kernel_rfl
theorem cd_c24_14 : c24_14 = .cond (.tmp 13) .skip (.exit 0) := by kernel_rfl
noncomputable def c24_16 : Code := match c24_12 with
  | .seq x _ => x
  | _ => .skip
noncomputable def c24_17 : Code := match c24_12 with
  | .seq _ x => x
  | _ => .skip
theorem cd_c24_12 : c24_12 = .seq c24_16 c24_17 := by kernel_rfl
noncomputable def c24_18 : Code := match c24_16 with
  | .block _ x => x
  | _ => .skip
theorem cd_c24_16 : c24_16 = .block 1 c24_18 := by kernel_rfl
noncomputable def c24_19 : Code := match c24_18 with
  | .seq x _ => x
  | _ => .skip
noncomputable def c24_20 : Code := match c24_18 with
  | .seq _ x => x
  | _ => .skip
theorem cd_c24_18 : c24_18 = .seq c24_19 c24_20 := by kernel_rfl
noncomputable def r24_19 : Array Oper := regAt [1, 1, 0, 1, 1, 0, 1, 0, 1, 0] body24
theorem cd_c24_19 : c24_19 = .region 5 r24_19 false := by kernel_rfl
noncomputable def c24_21 : Code := match c24_20 with
  | .cond _ x _ => x
  | _ => .skip
theorem cd_c24_20 : c24_20 = .cond (.tmp 20) c24_21 .skip := by kernel_rfl
noncomputable def r24_21 : Array Oper := regAt [1, 1, 0, 1, 1, 0, 1, 0, 1, 1, 1] body24
theorem cd_c24_21 : c24_21 = .region 6 r24_21 false := by kernel_rfl
noncomputable def r24_17 : Array Oper := regAt [1, 1, 0, 1, 1, 0, 1, 1] body24
theorem cd_c24_17 : c24_17 = .region 4 r24_17 false := by kernel_rfl
noncomputable def c24_23 : Code := match c24_6 with
  | .seq x _ => x
  | _ => .skip
theorem cd_c24_6 : c24_6 = .seq c24_23 .ret := by kernel_rfl
noncomputable def r24_23 : Array Oper := regAt [1, 1, 1, 0] body24
theorem cd_c24_23 : c24_23 = .region 7 r24_23 false := by kernel_rfl
noncomputable def body25 : Code := match Try.f25.body with
  | some c => c
  | none => .skip
noncomputable def c25_1 : Code := match code25 with
  | .seq x _ => x
  | _ => .skip
noncomputable def c25_2 : Code := match code25 with
  | .seq _ x => x
  | _ => .skip
theorem cd_code25 : code25 = .seq c25_1 c25_2 := by kernel_rfl
noncomputable def r25_1 : Array Oper := regAt [0] body25
theorem cd_c25_1 : c25_1 = .region 0 r25_1 false := by kernel_rfl
noncomputable def c25_3 : Code := match c25_2 with
  | .seq x _ => x
  | _ => .skip
noncomputable def c25_4 : Code := match c25_2 with
  | .seq _ x => x
  | _ => .skip
theorem cd_c25_2 : c25_2 = .seq c25_3 c25_4 := by kernel_rfl
noncomputable def r25_3 : Array Oper := regAt [1, 0] body25
theorem cd_c25_3 : c25_3 = .region 1 r25_3 false := by kernel_rfl
noncomputable def c25_5 : Code := match c25_4 with
  | .seq x _ => x
  | _ => .skip
noncomputable def c25_6 : Code := match c25_4 with
  | .seq _ x => x
  | _ => .skip
theorem cd_c25_4 : c25_4 = .seq c25_5 c25_6 := by kernel_rfl
noncomputable def c25_7 : Code := match c25_5 with
  | .seq x _ => x
  | _ => .skip
noncomputable def c25_8 : Code := match c25_5 with
  | .seq _ x => x
  | _ => .skip
theorem cd_c25_5 : c25_5 = .seq c25_7 c25_8 := by kernel_rfl
noncomputable def r25_7 : Array Oper := regAt [1, 1, 0, 0] body25
theorem cd_c25_7 : c25_7 = .region 2 r25_7 false := by kernel_rfl
noncomputable def c25_9 : Code := match c25_8 with
  | .block _ x => x
  | _ => .skip
theorem cd_c25_8 : c25_8 = .block 0 c25_9 := by kernel_rfl
noncomputable def c25_10 : Code := match c25_9 with
  | .loop x => x
  | _ => .skip
theorem cd_c25_9 : c25_9 = .loop c25_10 := by kernel_rfl
noncomputable def c25_11 : Code := match c25_10 with
  | .seq x _ => x
  | _ => .skip
noncomputable def c25_12 : Code := match c25_10 with
  | .seq _ x => x
  | _ => .skip
theorem cd_c25_10 : c25_10 = .seq c25_11 c25_12 := by kernel_rfl
noncomputable def c25_13 : Code := match c25_11 with
  | .seq x _ => x
  | _ => .skip
noncomputable def c25_14 : Code := match c25_11 with
  | .seq _ x => x
  | _ => .skip
theorem cd_c25_11 : c25_11 = .seq c25_13 c25_14 := by kernel_rfl
noncomputable def r25_13 : Array Oper := regAt [1, 1, 0, 1, 1, 0, 0, 0] body25
theorem cd_c25_13 : c25_13 = .region 3 r25_13 false := by kernel_rfl
theorem cd_c25_14 : c25_14 = .cond (.tmp 13) .skip (.exit 0) := by kernel_rfl
noncomputable def c25_16 : Code := match c25_12 with
  | .seq x _ => x
  | _ => .skip
noncomputable def c25_17 : Code := match c25_12 with
  | .seq _ x => x
  | _ => .skip
theorem cd_c25_12 : c25_12 = .seq c25_16 c25_17 := by kernel_rfl
noncomputable def c25_18 : Code := match c25_16 with
  | .block _ x => x
  | _ => .skip
theorem cd_c25_16 : c25_16 = .block 1 c25_18 := by kernel_rfl
noncomputable def c25_19 : Code := match c25_18 with
  | .seq x _ => x
  | _ => .skip
noncomputable def c25_20 : Code := match c25_18 with
  | .seq _ x => x
  | _ => .skip
theorem cd_c25_18 : c25_18 = .seq c25_19 c25_20 := by kernel_rfl
noncomputable def r25_19 : Array Oper := regAt [1, 1, 0, 1, 1, 0, 1, 0, 1, 0] body25
theorem cd_c25_19 : c25_19 = .region 5 r25_19 false := by kernel_rfl
noncomputable def c25_21 : Code := match c25_20 with
  | .cond _ x _ => x
  | _ => .skip
theorem cd_c25_20 : c25_20 = .cond (.tmp 21) c25_21 .skip := by kernel_rfl
noncomputable def r25_21 : Array Oper := regAt [1, 1, 0, 1, 1, 0, 1, 0, 1, 1, 1] body25
theorem cd_c25_21 : c25_21 = .region 6 r25_21 false := by kernel_rfl
noncomputable def r25_17 : Array Oper := regAt [1, 1, 0, 1, 1, 0, 1, 1] body25
theorem cd_c25_17 : c25_17 = .region 4 r25_17 false := by kernel_rfl
noncomputable def c25_23 : Code := match c25_6 with
  | .seq x _ => x
  | _ => .skip
theorem cd_c25_6 : c25_6 = .seq c25_23 .ret := by kernel_rfl
noncomputable def r25_23 : Array Oper := regAt [1, 1, 1, 0] body25
theorem cd_c25_23 : c25_23 = .region 7 r25_23 false := by kernel_rfl
noncomputable def body26 : Code := match Try.f26.body with
  | some c => c
  | none => .skip
noncomputable def c26_1 : Code := match code26 with
  | .seq x _ => x
  | _ => .skip
noncomputable def c26_2 : Code := match code26 with
  | .seq _ x => x
  | _ => .skip
theorem cd_code26 : code26 = .seq c26_1 c26_2 := by kernel_rfl
noncomputable def r26_1 : Array Oper := regAt [0] body26
theorem cd_c26_1 : c26_1 = .region 0 r26_1 false := by kernel_rfl
noncomputable def c26_3 : Code := match c26_2 with
  | .seq x _ => x
  | _ => .skip
noncomputable def c26_4 : Code := match c26_2 with
  | .seq _ x => x
  | _ => .skip
theorem cd_c26_2 : c26_2 = .seq c26_3 c26_4 := by kernel_rfl
noncomputable def c26_5 : Code := match c26_3 with
  | .seq x _ => x
  | _ => .skip
noncomputable def c26_6 : Code := match c26_3 with
  | .seq _ x => x
  | _ => .skip
theorem cd_c26_3 : c26_3 = .seq c26_5 c26_6 := by kernel_rfl
noncomputable def r26_5 : Array Oper := regAt [1, 0, 0] body26
theorem cd_c26_5 : c26_5 = .region 1 r26_5 false := by kernel_rfl
noncomputable def c26_7 : Code := match c26_6 with
  | .block _ x => x
  | _ => .skip
theorem cd_c26_6 : c26_6 = .block 0 c26_7 := by kernel_rfl
noncomputable def c26_8 : Code := match c26_7 with
  | .loop x => x
  | _ => .skip
theorem cd_c26_7 : c26_7 = .loop c26_8 := by kernel_rfl
noncomputable def c26_9 : Code := match c26_8 with
  | .seq x _ => x
  | _ => .skip
noncomputable def c26_10 : Code := match c26_8 with
  | .seq _ x => x
  | _ => .skip
theorem cd_c26_8 : c26_8 = .seq c26_9 c26_10 := by kernel_rfl
noncomputable def c26_11 : Code := match c26_9 with
  | .seq x _ => x
  | _ => .skip
noncomputable def c26_12 : Code := match c26_9 with
  | .seq _ x => x
  | _ => .skip
theorem cd_c26_9 : c26_9 = .seq c26_11 c26_12 := by kernel_rfl
noncomputable def r26_11 : Array Oper := regAt [1, 0, 1, 1, 0, 0, 0] body26
theorem cd_c26_11 : c26_11 = .region 2 r26_11 false := by kernel_rfl
theorem cd_c26_12 : c26_12 = .cond (.tmp 7) .skip (.exit 0) := by kernel_rfl
noncomputable def c26_14 : Code := match c26_10 with
  | .seq x _ => x
  | _ => .skip
noncomputable def c26_15 : Code := match c26_10 with
  | .seq _ x => x
  | _ => .skip
theorem cd_c26_10 : c26_10 = .seq c26_14 c26_15 := by kernel_rfl
noncomputable def c26_16 : Code := match c26_14 with
  | .block _ x => x
  | _ => .skip
theorem cd_c26_14 : c26_14 = .block 1 c26_16 := by kernel_rfl
noncomputable def c26_17 : Code := match c26_16 with
  | .seq x _ => x
  | _ => .skip
noncomputable def c26_18 : Code := match c26_16 with
  | .seq _ x => x
  | _ => .skip
theorem cd_c26_16 : c26_16 = .seq c26_17 c26_18 := by kernel_rfl
noncomputable def r26_17 : Array Oper := regAt [1, 0, 1, 1, 0, 1, 0, 1, 0] body26
theorem cd_c26_17 : c26_17 = .region 4 r26_17 true := by kernel_rfl
noncomputable def c26_19 : Code := match c26_18 with
  | .cond _ x _ => x
  | _ => .skip
theorem cd_c26_18 : c26_18 = .cond (.tmp 33) c26_19 .skip := by kernel_rfl
noncomputable def c26_21 : Code := match c26_19 with
  | .seq x _ => x
  | _ => .skip
theorem cd_c26_19 : c26_19 = .seq c26_21 .ret := by kernel_rfl
noncomputable def r26_21 : Array Oper := regAt [1, 0, 1, 1, 0, 1, 0, 1, 1, 1, 0] body26
theorem cd_c26_21 : c26_21 = .region 5 r26_21 false := by kernel_rfl
noncomputable def r26_15 : Array Oper := regAt [1, 0, 1, 1, 0, 1, 1] body26
theorem cd_c26_15 : c26_15 = .region 3 r26_15 false := by kernel_rfl
noncomputable def c26_22 : Code := match c26_4 with
  | .seq x _ => x
  | _ => .skip
theorem cd_c26_4 : c26_4 = .seq c26_22 .ret := by kernel_rfl
noncomputable def r26_22 : Array Oper := regAt [1, 1, 0] body26
theorem cd_c26_22 : c26_22 = .region 6 r26_22 false := by kernel_rfl
noncomputable def body27 : Code := match Try.f27.body with
  | some c => c
  | none => .skip
noncomputable def c27_1 : Code := match code27 with
  | .seq x _ => x
  | _ => .skip
noncomputable def c27_2 : Code := match code27 with
  | .seq _ x => x
  | _ => .skip
theorem cd_code27 : code27 = .seq c27_1 c27_2 := by kernel_rfl
noncomputable def r27_1 : Array Oper := regAt [0] body27
theorem cd_c27_1 : c27_1 = .region 0 r27_1 false := by kernel_rfl
noncomputable def c27_3 : Code := match c27_2 with
  | .seq x _ => x
  | _ => .skip
theorem cd_c27_2 : c27_2 = .seq c27_3 .ret := by kernel_rfl
noncomputable def r27_3 : Array Oper := regAt [1, 0] body27
theorem cd_c27_3 : c27_3 = .region 1 r27_3 false := by kernel_rfl
noncomputable def body28 : Code := match Try.f28.body with
  | some c => c
  | none => .skip
noncomputable def c28_1 : Code := match code28 with
  | .seq x _ => x
  | _ => .skip
noncomputable def c28_2 : Code := match code28 with
  | .seq _ x => x
  | _ => .skip
theorem cd_code28 : code28 = .seq c28_1 c28_2 := by kernel_rfl
noncomputable def r28_1 : Array Oper := regAt [0] body28
theorem cd_c28_1 : c28_1 = .region 0 r28_1 false := by kernel_rfl
noncomputable def c28_3 : Code := match c28_2 with
  | .seq x _ => x
  | _ => .skip
noncomputable def c28_4 : Code := match c28_2 with
  | .seq _ x => x
  | _ => .skip
theorem cd_c28_2 : c28_2 = .seq c28_3 c28_4 := by kernel_rfl
noncomputable def c28_5 : Code := match c28_3 with
  | .seq x _ => x
  | _ => .skip
noncomputable def c28_6 : Code := match c28_3 with
  | .seq _ x => x
  | _ => .skip
theorem cd_c28_3 : c28_3 = .seq c28_5 c28_6 := by kernel_rfl
noncomputable def r28_5 : Array Oper := regAt [1, 0, 0] body28
theorem cd_c28_5 : c28_5 = .region 1 r28_5 false := by kernel_rfl
noncomputable def c28_7 : Code := match c28_6 with
  | .cond _ x _ => x
  | _ => .skip
theorem cd_c28_6 : c28_6 = .cond (.tmp 10) c28_7 .skip := by kernel_rfl
noncomputable def c28_9 : Code := match c28_7 with
  | .seq x _ => x
  | _ => .skip
theorem cd_c28_7 : c28_7 = .seq c28_9 .ret := by kernel_rfl
noncomputable def r28_9 : Array Oper := regAt [1, 0, 1, 1, 0] body28
theorem cd_c28_9 : c28_9 = .region 2 r28_9 false := by kernel_rfl
noncomputable def c28_10 : Code := match c28_4 with
  | .seq x _ => x
  | _ => .skip
noncomputable def c28_11 : Code := match c28_4 with
  | .seq _ x => x
  | _ => .skip
theorem cd_c28_4 : c28_4 = .seq c28_10 c28_11 := by kernel_rfl
noncomputable def c28_12 : Code := match c28_10 with
  | .seq x _ => x
  | _ => .skip
noncomputable def c28_13 : Code := match c28_10 with
  | .seq _ x => x
  | _ => .skip
theorem cd_c28_10 : c28_10 = .seq c28_12 c28_13 := by kernel_rfl
noncomputable def r28_12 : Array Oper := regAt [1, 1, 0, 0] body28
theorem cd_c28_12 : c28_12 = .region 3 r28_12 false := by kernel_rfl
noncomputable def c28_14 : Code := match c28_13 with
  | .block _ x => x
  | _ => .skip
theorem cd_c28_13 : c28_13 = .block 0 c28_14 := by kernel_rfl
noncomputable def c28_15 : Code := match c28_14 with
  | .loop x => x
  | _ => .skip
theorem cd_c28_14 : c28_14 = .loop c28_15 := by kernel_rfl
noncomputable def c28_16 : Code := match c28_15 with
  | .seq x _ => x
  | _ => .skip
noncomputable def c28_17 : Code := match c28_15 with
  | .seq _ x => x
  | _ => .skip
theorem cd_c28_15 : c28_15 = .seq c28_16 c28_17 := by kernel_rfl
noncomputable def c28_18 : Code := match c28_16 with
  | .seq x _ => x
  | _ => .skip
noncomputable def c28_19 : Code := match c28_16 with
  | .seq _ x => x
  | _ => .skip
theorem cd_c28_16 : c28_16 = .seq c28_18 c28_19 := by kernel_rfl
noncomputable def r28_18 : Array Oper := regAt [1, 1, 0, 1, 1, 0, 0, 0] body28
theorem cd_c28_18 : c28_18 = .region 4 r28_18 false := by kernel_rfl
theorem cd_c28_19 : c28_19 = .cond (.tmp 14) .skip (.exit 0) := by kernel_rfl
noncomputable def c28_21 : Code := match c28_17 with
  | .seq x _ => x
  | _ => .skip
noncomputable def c28_22 : Code := match c28_17 with
  | .seq _ x => x
  | _ => .skip
theorem cd_c28_17 : c28_17 = .seq c28_21 c28_22 := by kernel_rfl
noncomputable def c28_23 : Code := match c28_21 with
  | .block _ x => x
  | _ => .skip
theorem cd_c28_21 : c28_21 = .block 1 c28_23 := by kernel_rfl
noncomputable def c28_24 : Code := match c28_23 with
  | .seq x _ => x
  | _ => .skip
noncomputable def c28_25 : Code := match c28_23 with
  | .seq _ x => x
  | _ => .skip
theorem cd_c28_23 : c28_23 = .seq c28_24 c28_25 := by kernel_rfl
noncomputable def r28_24 : Array Oper := regAt [1, 1, 0, 1, 1, 0, 1, 0, 1, 0] body28
theorem cd_c28_24 : c28_24 = .region 6 r28_24 true := by kernel_rfl
noncomputable def c28_26 : Code := match c28_25 with
  | .cond _ x _ => x
  | _ => .skip
theorem cd_c28_25 : c28_25 = .cond (.tmp 25) c28_26 .skip := by kernel_rfl
noncomputable def c28_28 : Code := match c28_26 with
  | .seq x _ => x
  | _ => .skip
theorem cd_c28_26 : c28_26 = .seq c28_28 .ret := by kernel_rfl
noncomputable def r28_28 : Array Oper := regAt [1, 1, 0, 1, 1, 0, 1, 0, 1, 1, 1, 0] body28
theorem cd_c28_28 : c28_28 = .region 7 r28_28 false := by kernel_rfl
noncomputable def r28_22 : Array Oper := regAt [1, 1, 0, 1, 1, 0, 1, 1] body28
theorem cd_c28_22 : c28_22 = .region 5 r28_22 false := by kernel_rfl
noncomputable def c28_29 : Code := match c28_11 with
  | .seq x _ => x
  | _ => .skip
theorem cd_c28_11 : c28_11 = .seq c28_29 .ret := by kernel_rfl
noncomputable def r28_29 : Array Oper := regAt [1, 1, 1, 0] body28
theorem cd_c28_29 : c28_29 = .region 8 r28_29 false := by kernel_rfl
noncomputable def body29 : Code := match Try.f29.body with
  | some c => c
  | none => .skip
noncomputable def c29_1 : Code := match code29 with
  | .seq x _ => x
  | _ => .skip
noncomputable def c29_2 : Code := match code29 with
  | .seq _ x => x
  | _ => .skip
theorem cd_code29 : code29 = .seq c29_1 c29_2 := by kernel_rfl
noncomputable def r29_1 : Array Oper := regAt [0] body29
theorem cd_c29_1 : c29_1 = .region 0 r29_1 false := by kernel_rfl
noncomputable def c29_3 : Code := match c29_2 with
  | .seq x _ => x
  | _ => .skip
noncomputable def c29_4 : Code := match c29_2 with
  | .seq _ x => x
  | _ => .skip
theorem cd_c29_2 : c29_2 = .seq c29_3 c29_4 := by kernel_rfl
noncomputable def r29_3 : Array Oper := regAt [1, 0] body29
theorem cd_c29_3 : c29_3 = .region 1 r29_3 false := by kernel_rfl
noncomputable def c29_5 : Code := match c29_4 with
  | .block _ x => x
  | _ => .skip
theorem cd_c29_4 : c29_4 = .block 0 c29_5 := by kernel_rfl
noncomputable def c29_6 : Code := match c29_5 with
  | .loop x => x
  | _ => .skip
theorem cd_c29_5 : c29_5 = .loop c29_6 := by kernel_rfl
noncomputable def c29_7 : Code := match c29_6 with
  | .seq x _ => x
  | _ => .skip
noncomputable def c29_8 : Code := match c29_6 with
  | .seq _ x => x
  | _ => .skip
theorem cd_c29_6 : c29_6 = .seq c29_7 c29_8 := by kernel_rfl
noncomputable def c29_9 : Code := match c29_7 with
  | .seq x _ => x
  | _ => .skip
noncomputable def c29_10 : Code := match c29_7 with
  | .seq _ x => x
  | _ => .skip
theorem cd_c29_7 : c29_7 = .seq c29_9 c29_10 := by kernel_rfl
noncomputable def r29_9 : Array Oper := regAt [1, 1, 1, 0, 0, 0] body29
theorem cd_c29_9 : c29_9 = .region 2 r29_9 false := by kernel_rfl
theorem cd_c29_10 : c29_10 = .cond (.tmp 10) .skip (.exit 0) := by kernel_rfl
noncomputable def c29_12 : Code := match c29_8 with
  | .seq x _ => x
  | _ => .skip
noncomputable def c29_13 : Code := match c29_8 with
  | .seq _ x => x
  | _ => .skip
theorem cd_c29_8 : c29_8 = .seq c29_12 c29_13 := by kernel_rfl
noncomputable def c29_14 : Code := match c29_12 with
  | .block _ x => x
  | _ => .skip
theorem cd_c29_12 : c29_12 = .block 1 c29_14 := by kernel_rfl
noncomputable def r29_14 : Array Oper := regAt [1, 1, 1, 0, 1, 0, 1] body29
theorem cd_c29_14 : c29_14 = .region 4 r29_14 false := by kernel_rfl
noncomputable def r29_13 : Array Oper := regAt [1, 1, 1, 0, 1, 1] body29
theorem cd_c29_13 : c29_13 = .region 3 r29_13 false := by kernel_rfl
noncomputable def body32 : Code := match Try.f32.body with
  | some c => c
  | none => .skip
noncomputable def c32_1 : Code := match code32 with
  | .seq x _ => x
  | _ => .skip
noncomputable def c32_2 : Code := match code32 with
  | .seq _ x => x
  | _ => .skip
theorem cd_code32 : code32 = .seq c32_1 c32_2 := by kernel_rfl
noncomputable def r32_1 : Array Oper := regAt [0] body32
theorem cd_c32_1 : c32_1 = .region 0 r32_1 false := by kernel_rfl
noncomputable def c32_3 : Code := match c32_2 with
  | .seq x _ => x
  | _ => .skip
noncomputable def c32_4 : Code := match c32_2 with
  | .seq _ x => x
  | _ => .skip
theorem cd_c32_2 : c32_2 = .seq c32_3 c32_4 := by kernel_rfl
noncomputable def c32_5 : Code := match c32_3 with
  | .seq x _ => x
  | _ => .skip
noncomputable def c32_6 : Code := match c32_3 with
  | .seq _ x => x
  | _ => .skip
theorem cd_c32_3 : c32_3 = .seq c32_5 c32_6 := by kernel_rfl
noncomputable def r32_5 : Array Oper := regAt [1, 0, 0] body32
theorem cd_c32_5 : c32_5 = .region 1 r32_5 false := by kernel_rfl
noncomputable def c32_7 : Code := match c32_6 with
  | .seq x _ => x
  | _ => .skip
noncomputable def c32_8 : Code := match c32_6 with
  | .seq _ x => x
  | _ => .skip
theorem cd_c32_6 : c32_6 = .seq c32_7 c32_8 := by kernel_rfl
noncomputable def r32_7 : Array Oper := regAt [1, 0, 1, 0] body32
theorem cd_c32_7 : c32_7 = .region 2 r32_7 false := by kernel_rfl
noncomputable def c32_9 : Code := match c32_8 with
  | .cond _ x _ => x
  | _ => .skip
theorem cd_c32_8 : c32_8 = .cond (.tmp 31) c32_9 .skip := by kernel_rfl
noncomputable def c32_11 : Code := match c32_9 with
  | .seq x _ => x
  | _ => .skip
theorem cd_c32_9 : c32_9 = .seq c32_11 .ret := by kernel_rfl
noncomputable def r32_11 : Array Oper := regAt [1, 0, 1, 1, 1, 0] body32
theorem cd_c32_11 : c32_11 = .region 3 r32_11 false := by kernel_rfl
noncomputable def c32_12 : Code := match c32_4 with
  | .seq x _ => x
  | _ => .skip
theorem cd_c32_4 : c32_4 = .seq c32_12 .ret := by kernel_rfl
noncomputable def r32_12 : Array Oper := regAt [1, 1, 0] body32
theorem cd_c32_12 : c32_12 = .region 4 r32_12 false := by kernel_rfl
noncomputable def body34 : Code := match Try.f34.body with
  | some c => c
  | none => .skip
noncomputable def c34_1 : Code := match code34 with
  | .seq x _ => x
  | _ => .skip
noncomputable def c34_2 : Code := match code34 with
  | .seq _ x => x
  | _ => .skip
theorem cd_code34 : code34 = .seq c34_1 c34_2 := by kernel_rfl
noncomputable def r34_1 : Array Oper := regAt [0] body34
theorem cd_c34_1 : c34_1 = .region 0 r34_1 false := by kernel_rfl
noncomputable def c34_3 : Code := match c34_2 with
  | .seq x _ => x
  | _ => .skip
theorem cd_c34_2 : c34_2 = .seq c34_3 .ret := by kernel_rfl
noncomputable def r34_3 : Array Oper := regAt [1, 0] body34
theorem cd_c34_3 : c34_3 = .region 1 r34_3 false := by kernel_rfl
noncomputable def body35 : Code := match Try.f35.body with
  | some c => c
  | none => .skip
noncomputable def c35_1 : Code := match code35 with
  | .seq x _ => x
  | _ => .skip
noncomputable def c35_2 : Code := match code35 with
  | .seq _ x => x
  | _ => .skip
theorem cd_code35 : code35 = .seq c35_1 c35_2 := by kernel_rfl
noncomputable def r35_1 : Array Oper := regAt [0] body35
theorem cd_c35_1 : c35_1 = .region 0 r35_1 false := by kernel_rfl
noncomputable def c35_3 : Code := match c35_2 with
  | .seq x _ => x
  | _ => .skip
theorem cd_c35_2 : c35_2 = .seq c35_3 .ret := by kernel_rfl
noncomputable def r35_3 : Array Oper := regAt [1, 0] body35
theorem cd_c35_3 : c35_3 = .region 1 r35_3 false := by kernel_rfl
noncomputable def body40 : Code := match Try.f40.body with
  | some c => c
  | none => .skip
noncomputable def c40_1 : Code := match code40 with
  | .seq x _ => x
  | _ => .skip
noncomputable def c40_2 : Code := match code40 with
  | .seq _ x => x
  | _ => .skip
theorem cd_code40 : code40 = .seq c40_1 c40_2 := by kernel_rfl
noncomputable def r40_1 : Array Oper := regAt [0] body40
theorem cd_c40_1 : c40_1 = .region 0 r40_1 false := by kernel_rfl
noncomputable def c40_3 : Code := match c40_2 with
  | .seq x _ => x
  | _ => .skip
noncomputable def c40_4 : Code := match c40_2 with
  | .seq _ x => x
  | _ => .skip
theorem cd_c40_2 : c40_2 = .seq c40_3 c40_4 := by kernel_rfl
noncomputable def c40_5 : Code := match c40_3 with
  | .seq x _ => x
  | _ => .skip
noncomputable def c40_6 : Code := match c40_3 with
  | .seq _ x => x
  | _ => .skip
theorem cd_c40_3 : c40_3 = .seq c40_5 c40_6 := by kernel_rfl
noncomputable def r40_5 : Array Oper := regAt [1, 0, 0] body40
theorem cd_c40_5 : c40_5 = .region 1 r40_5 false := by kernel_rfl
noncomputable def c40_7 : Code := match c40_6 with
  | .cond _ x _ => x
  | _ => .skip
theorem cd_c40_6 : c40_6 = .cond (.tmp 30) c40_7 .skip := by kernel_rfl
noncomputable def c40_9 : Code := match c40_7 with
  | .seq x _ => x
  | _ => .skip
theorem cd_c40_7 : c40_7 = .seq c40_9 .ret := by kernel_rfl
noncomputable def r40_9 : Array Oper := regAt [1, 0, 1, 1, 0] body40
theorem cd_c40_9 : c40_9 = .region 2 r40_9 false := by kernel_rfl
noncomputable def c40_10 : Code := match c40_4 with
  | .seq x _ => x
  | _ => .skip
theorem cd_c40_4 : c40_4 = .seq c40_10 .ret := by kernel_rfl
noncomputable def r40_10 : Array Oper := regAt [1, 1, 0] body40
theorem cd_c40_10 : c40_10 = .region 3 r40_10 false := by kernel_rfl
noncomputable def body42 : Code := match Try.f42.body with
  | some c => c
  | none => .skip
noncomputable def c42_1 : Code := match code42 with
  | .seq x _ => x
  | _ => .skip
noncomputable def c42_2 : Code := match code42 with
  | .seq _ x => x
  | _ => .skip
theorem cd_code42 : code42 = .seq c42_1 c42_2 := by kernel_rfl
noncomputable def r42_1 : Array Oper := regAt [0] body42
theorem cd_c42_1 : c42_1 = .region 0 r42_1 false := by kernel_rfl
noncomputable def c42_3 : Code := match c42_2 with
  | .seq x _ => x
  | _ => .skip
noncomputable def c42_4 : Code := match c42_2 with
  | .seq _ x => x
  | _ => .skip
theorem cd_c42_2 : c42_2 = .seq c42_3 c42_4 := by kernel_rfl
noncomputable def c42_5 : Code := match c42_3 with
  | .seq x _ => x
  | _ => .skip
noncomputable def c42_6 : Code := match c42_3 with
  | .seq _ x => x
  | _ => .skip
theorem cd_c42_3 : c42_3 = .seq c42_5 c42_6 := by kernel_rfl
noncomputable def r42_5 : Array Oper := regAt [1, 0, 0] body42
theorem cd_c42_5 : c42_5 = .region 1 r42_5 false := by kernel_rfl
noncomputable def c42_7 : Code := match c42_6 with
  | .block _ x => x
  | _ => .skip
theorem cd_c42_6 : c42_6 = .block 0 c42_7 := by kernel_rfl
noncomputable def c42_8 : Code := match c42_7 with
  | .loop x => x
  | _ => .skip
theorem cd_c42_7 : c42_7 = .loop c42_8 := by kernel_rfl
noncomputable def c42_9 : Code := match c42_8 with
  | .seq x _ => x
  | _ => .skip
noncomputable def c42_10 : Code := match c42_8 with
  | .seq _ x => x
  | _ => .skip
theorem cd_c42_8 : c42_8 = .seq c42_9 c42_10 := by kernel_rfl
noncomputable def c42_11 : Code := match c42_9 with
  | .seq x _ => x
  | _ => .skip
noncomputable def c42_12 : Code := match c42_9 with
  | .seq _ x => x
  | _ => .skip
theorem cd_c42_9 : c42_9 = .seq c42_11 c42_12 := by kernel_rfl
noncomputable def r42_11 : Array Oper := regAt [1, 0, 1, 1, 0, 0, 0] body42
theorem cd_c42_11 : c42_11 = .region 2 r42_11 false := by kernel_rfl
theorem cd_c42_12 : c42_12 = .cond (.tmp 10) .skip (.exit 0) := by kernel_rfl
noncomputable def c42_14 : Code := match c42_10 with
  | .seq x _ => x
  | _ => .skip
noncomputable def c42_15 : Code := match c42_10 with
  | .seq _ x => x
  | _ => .skip
theorem cd_c42_10 : c42_10 = .seq c42_14 c42_15 := by kernel_rfl
noncomputable def c42_16 : Code := match c42_14 with
  | .block _ x => x
  | _ => .skip
theorem cd_c42_14 : c42_14 = .block 1 c42_16 := by kernel_rfl
noncomputable def c42_17 : Code := match c42_16 with
  | .seq x _ => x
  | _ => .skip
noncomputable def c42_18 : Code := match c42_16 with
  | .seq _ x => x
  | _ => .skip
theorem cd_c42_16 : c42_16 = .seq c42_17 c42_18 := by kernel_rfl
noncomputable def r42_17 : Array Oper := regAt [1, 0, 1, 1, 0, 1, 0, 1, 0] body42
theorem cd_c42_17 : c42_17 = .region 4 r42_17 false := by kernel_rfl
noncomputable def c42_19 : Code := match c42_18 with
  | .cond _ x _ => x
  | _ => .skip
theorem cd_c42_18 : c42_18 = .cond (.tmp 19) c42_19 .skip := by kernel_rfl
noncomputable def c42_21 : Code := match c42_19 with
  | .seq x _ => x
  | _ => .skip
theorem cd_c42_19 : c42_19 = .seq c42_21 .ret := by kernel_rfl
noncomputable def r42_21 : Array Oper := regAt [1, 0, 1, 1, 0, 1, 0, 1, 1, 1, 0] body42
theorem cd_c42_21 : c42_21 = .region 5 r42_21 false := by kernel_rfl
noncomputable def r42_15 : Array Oper := regAt [1, 0, 1, 1, 0, 1, 1] body42
theorem cd_c42_15 : c42_15 = .region 3 r42_15 false := by kernel_rfl
noncomputable def c42_22 : Code := match c42_4 with
  | .seq x _ => x
  | _ => .skip
theorem cd_c42_4 : c42_4 = .seq c42_22 .ret := by kernel_rfl
noncomputable def r42_22 : Array Oper := regAt [1, 1, 0] body42
theorem cd_c42_22 : c42_22 = .region 6 r42_22 false := by kernel_rfl
noncomputable def body43 : Code := match Try.f43.body with
  | some c => c
  | none => .skip
noncomputable def c43_1 : Code := match code43 with
  | .seq x _ => x
  | _ => .skip
noncomputable def c43_2 : Code := match code43 with
  | .seq _ x => x
  | _ => .skip
theorem cd_code43 : code43 = .seq c43_1 c43_2 := by kernel_rfl
noncomputable def r43_1 : Array Oper := regAt [0] body43
theorem cd_c43_1 : c43_1 = .region 0 r43_1 false := by kernel_rfl
noncomputable def c43_3 : Code := match c43_2 with
  | .seq x _ => x
  | _ => .skip
theorem cd_c43_2 : c43_2 = .seq c43_3 .ret := by kernel_rfl
noncomputable def r43_3 : Array Oper := regAt [1, 0] body43
theorem cd_c43_3 : c43_3 = .region 1 r43_3 false := by kernel_rfl
noncomputable def body44 : Code := match Try.f44.body with
  | some c => c
  | none => .skip
noncomputable def c44_1 : Code := match code44 with
  | .seq x _ => x
  | _ => .skip
noncomputable def c44_2 : Code := match code44 with
  | .seq _ x => x
  | _ => .skip
theorem cd_code44 : code44 = .seq c44_1 c44_2 := by kernel_rfl
noncomputable def r44_1 : Array Oper := regAt [0] body44
theorem cd_c44_1 : c44_1 = .region 0 r44_1 false := by kernel_rfl
noncomputable def c44_3 : Code := match c44_2 with
  | .seq x _ => x
  | _ => .skip
theorem cd_c44_2 : c44_2 = .seq c44_3 .ret := by kernel_rfl
noncomputable def r44_3 : Array Oper := regAt [1, 0] body44
theorem cd_c44_3 : c44_3 = .region 1 r44_3 true := by kernel_rfl
noncomputable def body45 : Code := match Try.f45.body with
  | some c => c
  | none => .skip
noncomputable def c45_1 : Code := match code45 with
  | .seq x _ => x
  | _ => .skip
noncomputable def c45_2 : Code := match code45 with
  | .seq _ x => x
  | _ => .skip
theorem cd_code45 : code45 = .seq c45_1 c45_2 := by kernel_rfl
noncomputable def r45_1 : Array Oper := regAt [0] body45
theorem cd_c45_1 : c45_1 = .region 0 r45_1 false := by kernel_rfl
noncomputable def c45_3 : Code := match c45_2 with
  | .seq x _ => x
  | _ => .skip
noncomputable def c45_4 : Code := match c45_2 with
  | .seq _ x => x
  | _ => .skip
theorem cd_c45_2 : c45_2 = .seq c45_3 c45_4 := by kernel_rfl
noncomputable def r45_3 : Array Oper := regAt [1, 0] body45
theorem cd_c45_3 : c45_3 = .region 1 r45_3 false := by kernel_rfl
noncomputable def c45_5 : Code := match c45_4 with
  | .seq x _ => x
  | _ => .skip
noncomputable def c45_6 : Code := match c45_4 with
  | .seq _ x => x
  | _ => .skip
theorem cd_c45_4 : c45_4 = .seq c45_5 c45_6 := by kernel_rfl
noncomputable def c45_7 : Code := match c45_5 with
  | .seq x _ => x
  | _ => .skip
noncomputable def c45_8 : Code := match c45_5 with
  | .seq _ x => x
  | _ => .skip
theorem cd_c45_5 : c45_5 = .seq c45_7 c45_8 := by kernel_rfl
noncomputable def r45_7 : Array Oper := regAt [1, 1, 0, 0] body45
theorem cd_c45_7 : c45_7 = .region 2 r45_7 false := by kernel_rfl
noncomputable def c45_9 : Code := match c45_8 with
  | .cond _ x _ => x
  | _ => .skip
theorem cd_c45_8 : c45_8 = .cond (.tmp 10) c45_9 .skip := by kernel_rfl
noncomputable def c45_11 : Code := match c45_9 with
  | .seq x _ => x
  | _ => .skip
theorem cd_c45_9 : c45_9 = .seq c45_11 .ret := by kernel_rfl
noncomputable def r45_11 : Array Oper := regAt [1, 1, 0, 1, 1, 0] body45
theorem cd_c45_11 : c45_11 = .region 3 r45_11 false := by kernel_rfl
noncomputable def c45_12 : Code := match c45_6 with
  | .seq x _ => x
  | _ => .skip
noncomputable def c45_13 : Code := match c45_6 with
  | .seq _ x => x
  | _ => .skip
theorem cd_c45_6 : c45_6 = .seq c45_12 c45_13 := by kernel_rfl
noncomputable def c45_14 : Code := match c45_12 with
  | .seq x _ => x
  | _ => .skip
noncomputable def c45_15 : Code := match c45_12 with
  | .seq _ x => x
  | _ => .skip
theorem cd_c45_12 : c45_12 = .seq c45_14 c45_15 := by kernel_rfl
noncomputable def r45_14 : Array Oper := regAt [1, 1, 1, 0, 0] body45
theorem cd_c45_14 : c45_14 = .region 4 r45_14 false := by kernel_rfl
noncomputable def c45_16 : Code := match c45_15 with
  | .block _ x => x
  | _ => .skip
theorem cd_c45_15 : c45_15 = .block 0 c45_16 := by kernel_rfl
noncomputable def c45_17 : Code := match c45_16 with
  | .loop x => x
  | _ => .skip
theorem cd_c45_16 : c45_16 = .loop c45_17 := by kernel_rfl
noncomputable def c45_18 : Code := match c45_17 with
  | .seq x _ => x
  | _ => .skip
noncomputable def c45_19 : Code := match c45_17 with
  | .seq _ x => x
  | _ => .skip
theorem cd_c45_17 : c45_17 = .seq c45_18 c45_19 := by kernel_rfl
noncomputable def r45_18 : Array Oper := regAt [1, 1, 1, 0, 1, 1, 0, 0] body45
theorem cd_c45_18 : c45_18 = .region 5 r45_18 false := by kernel_rfl
noncomputable def c45_20 : Code := match c45_19 with
  | .seq x _ => x
  | _ => .skip
noncomputable def c45_21 : Code := match c45_19 with
  | .seq _ x => x
  | _ => .skip
theorem cd_c45_19 : c45_19 = .seq c45_20 c45_21 := by kernel_rfl
theorem cd_c45_20 : c45_20 = .cond (.tmp 15) .skip (.exit 0) := by kernel_rfl
noncomputable def c45_23 : Code := match c45_21 with
  | .seq x _ => x
  | _ => .skip
noncomputable def c45_24 : Code := match c45_21 with
  | .seq _ x => x
  | _ => .skip
theorem cd_c45_21 : c45_21 = .seq c45_23 c45_24 := by kernel_rfl
noncomputable def c45_25 : Code := match c45_23 with
  | .block _ x => x
  | _ => .skip
theorem cd_c45_23 : c45_23 = .block 1 c45_25 := by kernel_rfl
noncomputable def c45_26 : Code := match c45_25 with
  | .seq x _ => x
  | _ => .skip
noncomputable def c45_27 : Code := match c45_25 with
  | .seq _ x => x
  | _ => .skip
theorem cd_c45_25 : c45_25 = .seq c45_26 c45_27 := by kernel_rfl
noncomputable def r45_26 : Array Oper := regAt [1, 1, 1, 0, 1, 1, 0, 1, 1, 0, 1, 0] body45
theorem cd_c45_26 : c45_26 = .region 6 r45_26 false := by kernel_rfl
noncomputable def c45_28 : Code := match c45_27 with
  | .seq x _ => x
  | _ => .skip
noncomputable def c45_29 : Code := match c45_27 with
  | .seq _ x => x
  | _ => .skip
theorem cd_c45_27 : c45_27 = .seq c45_28 c45_29 := by kernel_rfl
noncomputable def r45_28 : Array Oper := regAt [1, 1, 1, 0, 1, 1, 0, 1, 1, 0, 1, 1, 0] body45
theorem cd_c45_28 : c45_28 = .region 7 r45_28 false := by kernel_rfl
noncomputable def c45_30 : Code := match c45_29 with
  | .cond _ x _ => x
  | _ => .skip
theorem cd_c45_29 : c45_29 = .cond (.tmp 20) c45_30 .skip := by kernel_rfl
noncomputable def r45_30 : Array Oper := regAt [1, 1, 1, 0, 1, 1, 0, 1, 1, 0, 1, 1, 1, 1] body45
theorem cd_c45_30 : c45_30 = .region 8 r45_30 false := by kernel_rfl
noncomputable def r45_24 : Array Oper := regAt [1, 1, 1, 0, 1, 1, 0, 1, 1, 1] body45
theorem cd_c45_24 : c45_24 = .region 9 r45_24 false := by kernel_rfl
noncomputable def c45_32 : Code := match c45_13 with
  | .seq x _ => x
  | _ => .skip
theorem cd_c45_13 : c45_13 = .seq c45_32 .ret := by kernel_rfl
noncomputable def r45_32 : Array Oper := regAt [1, 1, 1, 1, 0] body45
theorem cd_c45_32 : c45_32 = .region 10 r45_32 false := by kernel_rfl
noncomputable def body46 : Code := match Try.f46.body with
  | some c => c
  | none => .skip
noncomputable def c46_1 : Code := match code46 with
  | .seq x _ => x
  | _ => .skip
noncomputable def c46_2 : Code := match code46 with
  | .seq _ x => x
  | _ => .skip
theorem cd_code46 : code46 = .seq c46_1 c46_2 := by kernel_rfl
noncomputable def r46_1 : Array Oper := regAt [0] body46
theorem cd_c46_1 : c46_1 = .region 0 r46_1 false := by kernel_rfl
noncomputable def c46_3 : Code := match c46_2 with
  | .seq x _ => x
  | _ => .skip
theorem cd_c46_2 : c46_2 = .seq c46_3 .ret := by kernel_rfl
noncomputable def r46_3 : Array Oper := regAt [1, 0] body46
theorem cd_c46_3 : c46_3 = .region 1 r46_3 false := by kernel_rfl
noncomputable def body47 : Code := match Try.f47.body with
  | some c => c
  | none => .skip
noncomputable def c47_1 : Code := match code47 with
  | .seq x _ => x
  | _ => .skip
noncomputable def c47_2 : Code := match code47 with
  | .seq _ x => x
  | _ => .skip
theorem cd_code47 : code47 = .seq c47_1 c47_2 := by kernel_rfl
noncomputable def r47_1 : Array Oper := regAt [0] body47
theorem cd_c47_1 : c47_1 = .region 0 r47_1 false := by kernel_rfl
noncomputable def c47_3 : Code := match c47_2 with
  | .seq x _ => x
  | _ => .skip
theorem cd_c47_2 : c47_2 = .seq c47_3 .ret := by kernel_rfl
noncomputable def r47_3 : Array Oper := regAt [1, 0] body47
theorem cd_c47_3 : c47_3 = .region 1 r47_3 false := by kernel_rfl
noncomputable def body48 : Code := match Try.f48.body with
  | some c => c
  | none => .skip
noncomputable def c48_1 : Code := match code48 with
  | .seq x _ => x
  | _ => .skip
noncomputable def c48_2 : Code := match code48 with
  | .seq _ x => x
  | _ => .skip
theorem cd_code48 : code48 = .seq c48_1 c48_2 := by kernel_rfl
noncomputable def r48_1 : Array Oper := regAt [0] body48
theorem cd_c48_1 : c48_1 = .region 0 r48_1 false := by kernel_rfl
noncomputable def c48_3 : Code := match c48_2 with
  | .seq x _ => x
  | _ => .skip
noncomputable def c48_4 : Code := match c48_2 with
  | .seq _ x => x
  | _ => .skip
theorem cd_c48_2 : c48_2 = .seq c48_3 c48_4 := by kernel_rfl
noncomputable def c48_5 : Code := match c48_3 with
  | .seq x _ => x
  | _ => .skip
noncomputable def c48_6 : Code := match c48_3 with
  | .seq _ x => x
  | _ => .skip
theorem cd_c48_3 : c48_3 = .seq c48_5 c48_6 := by kernel_rfl
noncomputable def r48_5 : Array Oper := regAt [1, 0, 0] body48
theorem cd_c48_5 : c48_5 = .region 1 r48_5 false := by kernel_rfl
noncomputable def c48_7 : Code := match c48_6 with
  | .cond _ x _ => x
  | _ => .skip
theorem cd_c48_6 : c48_6 = .cond (.tmp 10) c48_7 .skip := by kernel_rfl
noncomputable def c48_9 : Code := match c48_7 with
  | .seq x _ => x
  | _ => .skip
theorem cd_c48_7 : c48_7 = .seq c48_9 .ret := by kernel_rfl
noncomputable def r48_9 : Array Oper := regAt [1, 0, 1, 1, 0] body48
theorem cd_c48_9 : c48_9 = .region 2 r48_9 false := by kernel_rfl
noncomputable def c48_10 : Code := match c48_4 with
  | .seq x _ => x
  | _ => .skip
noncomputable def c48_11 : Code := match c48_4 with
  | .seq _ x => x
  | _ => .skip
theorem cd_c48_4 : c48_4 = .seq c48_10 c48_11 := by kernel_rfl
noncomputable def c48_12 : Code := match c48_10 with
  | .seq x _ => x
  | _ => .skip
noncomputable def c48_13 : Code := match c48_10 with
  | .seq _ x => x
  | _ => .skip
theorem cd_c48_10 : c48_10 = .seq c48_12 c48_13 := by kernel_rfl
noncomputable def r48_12 : Array Oper := regAt [1, 1, 0, 0] body48
theorem cd_c48_12 : c48_12 = .region 3 r48_12 false := by kernel_rfl
noncomputable def c48_14 : Code := match c48_13 with
  | .block _ x => x
  | _ => .skip
theorem cd_c48_13 : c48_13 = .block 0 c48_14 := by kernel_rfl
noncomputable def c48_15 : Code := match c48_14 with
  | .loop x => x
  | _ => .skip
theorem cd_c48_14 : c48_14 = .loop c48_15 := by kernel_rfl
noncomputable def c48_16 : Code := match c48_15 with
  | .seq x _ => x
  | _ => .skip
noncomputable def c48_17 : Code := match c48_15 with
  | .seq _ x => x
  | _ => .skip
theorem cd_c48_15 : c48_15 = .seq c48_16 c48_17 := by kernel_rfl
noncomputable def r48_16 : Array Oper := regAt [1, 1, 0, 1, 1, 0, 0] body48
theorem cd_c48_16 : c48_16 = .region 4 r48_16 false := by kernel_rfl
noncomputable def c48_18 : Code := match c48_17 with
  | .seq x _ => x
  | _ => .skip
noncomputable def c48_19 : Code := match c48_17 with
  | .seq _ x => x
  | _ => .skip
theorem cd_c48_17 : c48_17 = .seq c48_18 c48_19 := by kernel_rfl
theorem cd_c48_18 : c48_18 = .cond (.tmp 14) .skip (.exit 0) := by kernel_rfl
noncomputable def c48_21 : Code := match c48_19 with
  | .seq x _ => x
  | _ => .skip
noncomputable def c48_22 : Code := match c48_19 with
  | .seq _ x => x
  | _ => .skip
theorem cd_c48_19 : c48_19 = .seq c48_21 c48_22 := by kernel_rfl
noncomputable def c48_23 : Code := match c48_21 with
  | .block _ x => x
  | _ => .skip
theorem cd_c48_21 : c48_21 = .block 1 c48_23 := by kernel_rfl
noncomputable def c48_24 : Code := match c48_23 with
  | .seq x _ => x
  | _ => .skip
noncomputable def c48_25 : Code := match c48_23 with
  | .seq _ x => x
  | _ => .skip
theorem cd_c48_23 : c48_23 = .seq c48_24 c48_25 := by kernel_rfl
noncomputable def r48_24 : Array Oper := regAt [1, 1, 0, 1, 1, 0, 1, 1, 0, 1, 0] body48
theorem cd_c48_24 : c48_24 = .region 5 r48_24 false := by kernel_rfl
noncomputable def c48_26 : Code := match c48_25 with
  | .seq x _ => x
  | _ => .skip
noncomputable def c48_27 : Code := match c48_25 with
  | .seq _ x => x
  | _ => .skip
theorem cd_c48_25 : c48_25 = .seq c48_26 c48_27 := by kernel_rfl
noncomputable def r48_26 : Array Oper := regAt [1, 1, 0, 1, 1, 0, 1, 1, 0, 1, 1, 0] body48
theorem cd_c48_26 : c48_26 = .region 6 r48_26 true := by kernel_rfl
noncomputable def c48_28 : Code := match c48_27 with
  | .cond _ x _ => x
  | _ => .skip
theorem cd_c48_27 : c48_27 = .cond (.tmp 24) c48_28 .skip := by kernel_rfl
noncomputable def c48_30 : Code := match c48_28 with
  | .seq x _ => x
  | _ => .skip
theorem cd_c48_28 : c48_28 = .seq c48_30 .ret := by kernel_rfl
noncomputable def r48_30 : Array Oper := regAt [1, 1, 0, 1, 1, 0, 1, 1, 0, 1, 1, 1, 1, 0] body48
theorem cd_c48_30 : c48_30 = .region 7 r48_30 false := by kernel_rfl
noncomputable def r48_22 : Array Oper := regAt [1, 1, 0, 1, 1, 0, 1, 1, 1] body48
theorem cd_c48_22 : c48_22 = .region 8 r48_22 false := by kernel_rfl
noncomputable def c48_31 : Code := match c48_11 with
  | .seq x _ => x
  | _ => .skip
theorem cd_c48_11 : c48_11 = .seq c48_31 .ret := by kernel_rfl
noncomputable def r48_31 : Array Oper := regAt [1, 1, 1, 0] body48
theorem cd_c48_31 : c48_31 = .region 9 r48_31 false := by kernel_rfl
noncomputable def body50 : Code := match Try.f50.body with
  | some c => c
  | none => .skip
noncomputable def c50_1 : Code := match code50 with
  | .seq x _ => x
  | _ => .skip
noncomputable def c50_2 : Code := match code50 with
  | .seq _ x => x
  | _ => .skip
theorem cd_code50 : code50 = .seq c50_1 c50_2 := by kernel_rfl
noncomputable def r50_1 : Array Oper := regAt [0] body50
theorem cd_c50_1 : c50_1 = .region 0 r50_1 false := by kernel_rfl
noncomputable def c50_3 : Code := match c50_2 with
  | .seq x _ => x
  | _ => .skip
noncomputable def c50_4 : Code := match c50_2 with
  | .seq _ x => x
  | _ => .skip
theorem cd_c50_2 : c50_2 = .seq c50_3 c50_4 := by kernel_rfl
noncomputable def r50_3 : Array Oper := regAt [1, 0] body50
theorem cd_c50_3 : c50_3 = .region 1 r50_3 false := by kernel_rfl
noncomputable def c50_5 : Code := match c50_4 with
  | .seq x _ => x
  | _ => .skip
noncomputable def c50_6 : Code := match c50_4 with
  | .seq _ x => x
  | _ => .skip
theorem cd_c50_4 : c50_4 = .seq c50_5 c50_6 := by kernel_rfl
noncomputable def r50_5 : Array Oper := regAt [1, 1, 0] body50
theorem cd_c50_5 : c50_5 = .region 2 r50_5 false := by kernel_rfl
noncomputable def c50_7 : Code := match c50_6 with
  | .seq x _ => x
  | _ => .skip
noncomputable def c50_8 : Code := match c50_6 with
  | .seq _ x => x
  | _ => .skip
theorem cd_c50_6 : c50_6 = .seq c50_7 c50_8 := by kernel_rfl
noncomputable def c50_9 : Code := match c50_7 with
  | .block _ x => x
  | _ => .skip
theorem cd_c50_7 : c50_7 = .block 0 c50_9 := by kernel_rfl
noncomputable def c50_10 : Code := match c50_9 with
  | .loop x => x
  | _ => .skip
theorem cd_c50_9 : c50_9 = .loop c50_10 := by kernel_rfl
noncomputable def c50_11 : Code := match c50_10 with
  | .seq x _ => x
  | _ => .skip
noncomputable def c50_12 : Code := match c50_10 with
  | .seq _ x => x
  | _ => .skip
theorem cd_c50_10 : c50_10 = .seq c50_11 c50_12 := by kernel_rfl
noncomputable def c50_13 : Code := match c50_11 with
  | .seq x _ => x
  | _ => .skip
noncomputable def c50_14 : Code := match c50_11 with
  | .seq _ x => x
  | _ => .skip
theorem cd_c50_11 : c50_11 = .seq c50_13 c50_14 := by kernel_rfl
noncomputable def r50_13 : Array Oper := regAt [1, 1, 1, 0, 1, 0, 0, 0] body50
theorem cd_c50_13 : c50_13 = .region 3 r50_13 false := by kernel_rfl
theorem cd_c50_14 : c50_14 = .cond (.tmp 17) .skip (.exit 0) := by kernel_rfl
noncomputable def c50_16 : Code := match c50_12 with
  | .block _ x => x
  | _ => .skip
theorem cd_c50_12 : c50_12 = .block 1 c50_16 := by kernel_rfl
noncomputable def c50_17 : Code := match c50_16 with
  | .seq x _ => x
  | _ => .skip
noncomputable def c50_18 : Code := match c50_16 with
  | .seq _ x => x
  | _ => .skip
theorem cd_c50_16 : c50_16 = .seq c50_17 c50_18 := by kernel_rfl
noncomputable def r50_17 : Array Oper := regAt [1, 1, 1, 0, 1, 0, 1, 1, 0] body50
theorem cd_c50_17 : c50_17 = .region 4 r50_17 false := by kernel_rfl
noncomputable def c50_19 : Code := match c50_18 with
  | .seq x _ => x
  | _ => .skip
noncomputable def c50_20 : Code := match c50_18 with
  | .seq _ x => x
  | _ => .skip
theorem cd_c50_18 : c50_18 = .seq c50_19 c50_20 := by kernel_rfl
noncomputable def r50_19 : Array Oper := regAt [1, 1, 1, 0, 1, 0, 1, 1, 1, 0] body50
theorem cd_c50_19 : c50_19 = .region 5 r50_19 false := by kernel_rfl
noncomputable def c50_21 : Code := match c50_20 with
  | .cond _ x _ => x
  | _ => .skip
noncomputable def c50_22 : Code := match c50_20 with
  | .cond _ _ x => x
  | _ => .skip
theorem cd_c50_20 : c50_20 = .cond (.tmp 31) c50_21 c50_22 := by kernel_rfl
noncomputable def r50_21 : Array Oper := regAt [1, 1, 1, 0, 1, 0, 1, 1, 1, 1, 1] body50
theorem cd_c50_21 : c50_21 = .region 6 r50_21 false := by kernel_rfl
noncomputable def r50_22 : Array Oper := regAt [1, 1, 1, 0, 1, 0, 1, 1, 1, 1, 2] body50
theorem cd_c50_22 : c50_22 = .region 7 r50_22 false := by kernel_rfl
noncomputable def c50_24 : Code := match c50_8 with
  | .seq x _ => x
  | _ => .skip
theorem cd_c50_8 : c50_8 = .seq c50_24 .ret := by kernel_rfl
noncomputable def r50_24 : Array Oper := regAt [1, 1, 1, 1, 0] body50
theorem cd_c50_24 : c50_24 = .region 8 r50_24 false := by kernel_rfl
noncomputable def body51 : Code := match Try.f51.body with
  | some c => c
  | none => .skip
noncomputable def c51_1 : Code := match code51 with
  | .seq x _ => x
  | _ => .skip
noncomputable def c51_2 : Code := match code51 with
  | .seq _ x => x
  | _ => .skip
theorem cd_code51 : code51 = .seq c51_1 c51_2 := by kernel_rfl
noncomputable def r51_1 : Array Oper := regAt [0] body51
theorem cd_c51_1 : c51_1 = .region 0 r51_1 false := by kernel_rfl
noncomputable def c51_3 : Code := match c51_2 with
  | .seq x _ => x
  | _ => .skip
theorem cd_c51_2 : c51_2 = .seq c51_3 .ret := by kernel_rfl
noncomputable def r51_3 : Array Oper := regAt [1, 0] body51
theorem cd_c51_3 : c51_3 = .region 1 r51_3 false := by kernel_rfl
noncomputable def body52 : Code := match Try.f52.body with
  | some c => c
  | none => .skip
noncomputable def c52_1 : Code := match code52 with
  | .seq x _ => x
  | _ => .skip
noncomputable def c52_2 : Code := match code52 with
  | .seq _ x => x
  | _ => .skip
theorem cd_code52 : code52 = .seq c52_1 c52_2 := by kernel_rfl
noncomputable def r52_1 : Array Oper := regAt [0] body52
theorem cd_c52_1 : c52_1 = .region 0 r52_1 false := by kernel_rfl
noncomputable def c52_3 : Code := match c52_2 with
  | .seq x _ => x
  | _ => .skip
noncomputable def c52_4 : Code := match c52_2 with
  | .seq _ x => x
  | _ => .skip
theorem cd_c52_2 : c52_2 = .seq c52_3 c52_4 := by kernel_rfl
noncomputable def r52_3 : Array Oper := regAt [1, 0] body52
theorem cd_c52_3 : c52_3 = .region 1 r52_3 false := by kernel_rfl
noncomputable def c52_5 : Code := match c52_4 with
  | .seq x _ => x
  | _ => .skip
noncomputable def c52_6 : Code := match c52_4 with
  | .seq _ x => x
  | _ => .skip
theorem cd_c52_4 : c52_4 = .seq c52_5 c52_6 := by kernel_rfl
noncomputable def r52_5 : Array Oper := regAt [1, 1, 0] body52
theorem cd_c52_5 : c52_5 = .region 2 r52_5 false := by kernel_rfl
noncomputable def c52_7 : Code := match c52_6 with
  | .seq x _ => x
  | _ => .skip
noncomputable def c52_8 : Code := match c52_6 with
  | .seq _ x => x
  | _ => .skip
theorem cd_c52_6 : c52_6 = .seq c52_7 c52_8 := by kernel_rfl
noncomputable def c52_9 : Code := match c52_7 with
  | .seq x _ => x
  | _ => .skip
noncomputable def c52_10 : Code := match c52_7 with
  | .seq _ x => x
  | _ => .skip
theorem cd_c52_7 : c52_7 = .seq c52_9 c52_10 := by kernel_rfl
noncomputable def r52_9 : Array Oper := regAt [1, 1, 1, 0, 0] body52
theorem cd_c52_9 : c52_9 = .region 3 r52_9 false := by kernel_rfl
noncomputable def c52_11 : Code := match c52_10 with
  | .cond _ x _ => x
  | _ => .skip
theorem cd_c52_10 : c52_10 = .cond (.tmp 11) c52_11 .skip := by kernel_rfl
noncomputable def c52_13 : Code := match c52_11 with
  | .seq x _ => x
  | _ => .skip
noncomputable def c52_14 : Code := match c52_11 with
  | .seq _ x => x
  | _ => .skip
theorem cd_c52_11 : c52_11 = .seq c52_13 c52_14 := by kernel_rfl
noncomputable def c52_15 : Code := match c52_13 with
  | .seq x _ => x
  | _ => .skip
noncomputable def c52_16 : Code := match c52_13 with
  | .seq _ x => x
  | _ => .skip
theorem cd_c52_13 : c52_13 = .seq c52_15 c52_16 := by kernel_rfl
noncomputable def r52_15 : Array Oper := regAt [1, 1, 1, 0, 1, 1, 0, 0] body52
theorem cd_c52_15 : c52_15 = .region 4 r52_15 false := by kernel_rfl
noncomputable def c52_17 : Code := match c52_16 with
  | .cond _ x _ => x
  | _ => .skip
theorem cd_c52_16 : c52_16 = .cond (.tmp 12) c52_17 .skip := by kernel_rfl
noncomputable def c52_19 : Code := match c52_17 with
  | .seq x _ => x
  | _ => .skip
theorem cd_c52_17 : c52_17 = .seq c52_19 .ret := by kernel_rfl
noncomputable def r52_19 : Array Oper := regAt [1, 1, 1, 0, 1, 1, 0, 1, 1, 0] body52
theorem cd_c52_19 : c52_19 = .region 5 r52_19 false := by kernel_rfl
noncomputable def c52_20 : Code := match c52_14 with
  | .seq x _ => x
  | _ => .skip
theorem cd_c52_14 : c52_14 = .seq c52_20 .ret := by kernel_rfl
noncomputable def r52_20 : Array Oper := regAt [1, 1, 1, 0, 1, 1, 1, 0] body52
theorem cd_c52_20 : c52_20 = .region 6 r52_20 false := by kernel_rfl
noncomputable def c52_21 : Code := match c52_8 with
  | .seq x _ => x
  | _ => .skip
noncomputable def c52_22 : Code := match c52_8 with
  | .seq _ x => x
  | _ => .skip
theorem cd_c52_8 : c52_8 = .seq c52_21 c52_22 := by kernel_rfl
noncomputable def c52_23 : Code := match c52_21 with
  | .seq x _ => x
  | _ => .skip
noncomputable def c52_24 : Code := match c52_21 with
  | .seq _ x => x
  | _ => .skip
theorem cd_c52_21 : c52_21 = .seq c52_23 c52_24 := by kernel_rfl
noncomputable def r52_23 : Array Oper := regAt [1, 1, 1, 1, 0, 0] body52
theorem cd_c52_23 : c52_23 = .region 7 r52_23 false := by kernel_rfl
noncomputable def c52_25 : Code := match c52_24 with
  | .cond _ x _ => x
  | _ => .skip
theorem cd_c52_24 : c52_24 = .cond (.tmp 13) c52_25 .skip := by kernel_rfl
noncomputable def c52_27 : Code := match c52_25 with
  | .seq x _ => x
  | _ => .skip
theorem cd_c52_25 : c52_25 = .seq c52_27 .ret := by kernel_rfl
noncomputable def r52_27 : Array Oper := regAt [1, 1, 1, 1, 0, 1, 1, 0] body52
theorem cd_c52_27 : c52_27 = .region 8 r52_27 false := by kernel_rfl
noncomputable def c52_28 : Code := match c52_22 with
  | .seq x _ => x
  | _ => .skip
noncomputable def c52_29 : Code := match c52_22 with
  | .seq _ x => x
  | _ => .skip
theorem cd_c52_22 : c52_22 = .seq c52_28 c52_29 := by kernel_rfl
noncomputable def c52_30 : Code := match c52_28 with
  | .seq x _ => x
  | _ => .skip
noncomputable def c52_31 : Code := match c52_28 with
  | .seq _ x => x
  | _ => .skip
theorem cd_c52_28 : c52_28 = .seq c52_30 c52_31 := by kernel_rfl
noncomputable def r52_30 : Array Oper := regAt [1, 1, 1, 1, 1, 0, 0] body52
theorem cd_c52_30 : c52_30 = .region 9 r52_30 false := by kernel_rfl
noncomputable def c52_32 : Code := match c52_31 with
  | .cond _ x _ => x
  | _ => .skip
theorem cd_c52_31 : c52_31 = .cond (.tmp 16) c52_32 .skip := by kernel_rfl
noncomputable def c52_34 : Code := match c52_32 with
  | .seq x _ => x
  | _ => .skip
theorem cd_c52_32 : c52_32 = .seq c52_34 .ret := by kernel_rfl
noncomputable def r52_34 : Array Oper := regAt [1, 1, 1, 1, 1, 0, 1, 1, 0] body52
theorem cd_c52_34 : c52_34 = .region 10 r52_34 false := by kernel_rfl
noncomputable def c52_35 : Code := match c52_29 with
  | .seq x _ => x
  | _ => .skip
noncomputable def c52_36 : Code := match c52_29 with
  | .seq _ x => x
  | _ => .skip
theorem cd_c52_29 : c52_29 = .seq c52_35 c52_36 := by kernel_rfl
noncomputable def c52_37 : Code := match c52_35 with
  | .seq x _ => x
  | _ => .skip
noncomputable def c52_38 : Code := match c52_35 with
  | .seq _ x => x
  | _ => .skip
theorem cd_c52_35 : c52_35 = .seq c52_37 c52_38 := by kernel_rfl
noncomputable def r52_37 : Array Oper := regAt [1, 1, 1, 1, 1, 1, 0, 0] body52
theorem cd_c52_37 : c52_37 = .region 11 r52_37 false := by kernel_rfl
noncomputable def c52_39 : Code := match c52_38 with
  | .cond _ x _ => x
  | _ => .skip
theorem cd_c52_38 : c52_38 = .cond (.tmp 19) c52_39 .skip := by kernel_rfl
noncomputable def c52_41 : Code := match c52_39 with
  | .seq x _ => x
  | _ => .skip
theorem cd_c52_39 : c52_39 = .seq c52_41 .ret := by kernel_rfl
noncomputable def r52_41 : Array Oper := regAt [1, 1, 1, 1, 1, 1, 0, 1, 1, 0] body52
theorem cd_c52_41 : c52_41 = .region 12 r52_41 false := by kernel_rfl
noncomputable def c52_42 : Code := match c52_36 with
  | .seq x _ => x
  | _ => .skip
theorem cd_c52_36 : c52_36 = .seq c52_42 .ret := by kernel_rfl
noncomputable def r52_42 : Array Oper := regAt [1, 1, 1, 1, 1, 1, 1, 0] body52
theorem cd_c52_42 : c52_42 = .region 13 r52_42 false := by kernel_rfl
noncomputable def body58 : Code := match Try.f58.body with
  | some c => c
  | none => .skip
noncomputable def c58_1 : Code := match code58 with
  | .seq x _ => x
  | _ => .skip
noncomputable def c58_2 : Code := match code58 with
  | .seq _ x => x
  | _ => .skip
theorem cd_code58 : code58 = .seq c58_1 c58_2 := by kernel_rfl
noncomputable def r58_1 : Array Oper := regAt [0] body58
theorem cd_c58_1 : c58_1 = .region 0 r58_1 false := by kernel_rfl
noncomputable def c58_3 : Code := match c58_2 with
  | .seq x _ => x
  | _ => .skip
noncomputable def c58_4 : Code := match c58_2 with
  | .seq _ x => x
  | _ => .skip
theorem cd_c58_2 : c58_2 = .seq c58_3 c58_4 := by kernel_rfl
noncomputable def r58_3 : Array Oper := regAt [1, 0] body58
theorem cd_c58_3 : c58_3 = .region 1 r58_3 false := by kernel_rfl
noncomputable def c58_5 : Code := match c58_4 with
  | .seq x _ => x
  | _ => .skip
noncomputable def c58_6 : Code := match c58_4 with
  | .seq _ x => x
  | _ => .skip
theorem cd_c58_4 : c58_4 = .seq c58_5 c58_6 := by kernel_rfl
noncomputable def c58_7 : Code := match c58_5 with
  | .seq x _ => x
  | _ => .skip
noncomputable def c58_8 : Code := match c58_5 with
  | .seq _ x => x
  | _ => .skip
theorem cd_c58_5 : c58_5 = .seq c58_7 c58_8 := by kernel_rfl
noncomputable def r58_7 : Array Oper := regAt [1, 1, 0, 0] body58
theorem cd_c58_7 : c58_7 = .region 2 r58_7 false := by kernel_rfl
noncomputable def c58_9 : Code := match c58_8 with
  | .block _ x => x
  | _ => .skip
theorem cd_c58_8 : c58_8 = .block 0 c58_9 := by kernel_rfl
noncomputable def c58_10 : Code := match c58_9 with
  | .loop x => x
  | _ => .skip
theorem cd_c58_9 : c58_9 = .loop c58_10 := by kernel_rfl
noncomputable def c58_11 : Code := match c58_10 with
  | .seq x _ => x
  | _ => .skip
noncomputable def c58_12 : Code := match c58_10 with
  | .seq _ x => x
  | _ => .skip
theorem cd_c58_10 : c58_10 = .seq c58_11 c58_12 := by kernel_rfl
noncomputable def r58_11 : Array Oper := regAt [1, 1, 0, 1, 1, 0, 0] body58
theorem cd_c58_11 : c58_11 = .region 3 r58_11 false := by kernel_rfl
noncomputable def c58_13 : Code := match c58_12 with
  | .seq x _ => x
  | _ => .skip
noncomputable def c58_14 : Code := match c58_12 with
  | .seq _ x => x
  | _ => .skip
theorem cd_c58_12 : c58_12 = .seq c58_13 c58_14 := by kernel_rfl
theorem cd_c58_13 : c58_13 = .cond (.tmp 9) .skip (.exit 0) := by kernel_rfl
noncomputable def c58_16 : Code := match c58_14 with
  | .seq x _ => x
  | _ => .skip
noncomputable def c58_17 : Code := match c58_14 with
  | .seq _ x => x
  | _ => .skip
theorem cd_c58_14 : c58_14 = .seq c58_16 c58_17 := by kernel_rfl
noncomputable def c58_18 : Code := match c58_16 with
  | .block _ x => x
  | _ => .skip
theorem cd_c58_16 : c58_16 = .block 1 c58_18 := by kernel_rfl
noncomputable def c58_19 : Code := match c58_18 with
  | .seq x _ => x
  | _ => .skip
noncomputable def c58_20 : Code := match c58_18 with
  | .seq _ x => x
  | _ => .skip
theorem cd_c58_18 : c58_18 = .seq c58_19 c58_20 := by kernel_rfl
noncomputable def r58_19 : Array Oper := regAt [1, 1, 0, 1, 1, 0, 1, 1, 0, 1, 0] body58
theorem cd_c58_19 : c58_19 = .region 4 r58_19 false := by kernel_rfl
noncomputable def c58_21 : Code := match c58_20 with
  | .seq x _ => x
  | _ => .skip
noncomputable def c58_22 : Code := match c58_20 with
  | .seq _ x => x
  | _ => .skip
theorem cd_c58_20 : c58_20 = .seq c58_21 c58_22 := by kernel_rfl
noncomputable def r58_21 : Array Oper := regAt [1, 1, 0, 1, 1, 0, 1, 1, 0, 1, 1, 0] body58
theorem cd_c58_21 : c58_21 = .region 5 r58_21 false := by kernel_rfl
noncomputable def c58_23 : Code := match c58_22 with
  | .cond _ x _ => x
  | _ => .skip
theorem cd_c58_22 : c58_22 = .cond (.tmp 14) c58_23 .skip := by kernel_rfl
noncomputable def c58_25 : Code := match c58_23 with
  | .seq x _ => x
  | _ => .skip
theorem cd_c58_23 : c58_23 = .seq c58_25 .ret := by kernel_rfl
noncomputable def r58_25 : Array Oper := regAt [1, 1, 0, 1, 1, 0, 1, 1, 0, 1, 1, 1, 1, 0] body58
theorem cd_c58_25 : c58_25 = .region 6 r58_25 false := by kernel_rfl
noncomputable def r58_17 : Array Oper := regAt [1, 1, 0, 1, 1, 0, 1, 1, 1] body58
theorem cd_c58_17 : c58_17 = .region 7 r58_17 false := by kernel_rfl
noncomputable def c58_26 : Code := match c58_6 with
  | .seq x _ => x
  | _ => .skip
theorem cd_c58_6 : c58_6 = .seq c58_26 .ret := by kernel_rfl
noncomputable def r58_26 : Array Oper := regAt [1, 1, 1, 0] body58
theorem cd_c58_26 : c58_26 = .region 8 r58_26 false := by kernel_rfl
noncomputable def body59 : Code := match Try.f59.body with
  | some c => c
  | none => .skip
noncomputable def c59_1 : Code := match code59 with
  | .seq x _ => x
  | _ => .skip
noncomputable def c59_2 : Code := match code59 with
  | .seq _ x => x
  | _ => .skip
theorem cd_code59 : code59 = .seq c59_1 c59_2 := by kernel_rfl
noncomputable def r59_1 : Array Oper := regAt [0] body59
theorem cd_c59_1 : c59_1 = .region 0 r59_1 false := by kernel_rfl
noncomputable def c59_3 : Code := match c59_2 with
  | .seq x _ => x
  | _ => .skip
theorem cd_c59_2 : c59_2 = .seq c59_3 .ret := by kernel_rfl
noncomputable def r59_3 : Array Oper := regAt [1, 0] body59
theorem cd_c59_3 : c59_3 = .region 1 r59_3 false := by kernel_rfl
end Go.Proofs.Ytdanhpemheldlaa
