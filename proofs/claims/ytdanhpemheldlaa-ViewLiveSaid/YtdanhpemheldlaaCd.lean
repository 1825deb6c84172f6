/-
  The code of this seat's functions in named pieces: by our program cds.py.
-/
import Derived.Test.YtdanhpemheldlaaFn
import Derived.Test.YtdanhpemheldlaaSm
import Derived.KernelRfl
open Go Go.SY
namespace Go.Proofs.Ytdanhpemheldlaa
noncomputable def body6 : Code := match Try.f6.body with
  | some c => c
  | none => .skip
noncomputable def c6_1 : Code := match code6 with
  | .seq x _ => x
  | _ => .skip
noncomputable def c6_2 : Code := match code6 with
  | .seq _ x => x
  | _ => .skip
theorem cd_code6 : code6 = .seq c6_1 c6_2 := by kernel_rfl
noncomputable def r6_1 : Array Oper := regAt [0] body6
theorem cd_c6_1 : c6_1 = .region 0 r6_1 false := by kernel_rfl
noncomputable def c6_3 : Code := match c6_2 with
  | .seq x _ => x
  | _ => .skip
noncomputable def c6_4 : Code := match c6_2 with
  | .seq _ x => x
  | _ => .skip
theorem cd_c6_2 : c6_2 = .seq c6_3 c6_4 := by kernel_rfl
noncomputable def r6_3 : Array Oper := regAt [1, 0] body6
theorem cd_c6_3 : c6_3 = .region 1 r6_3 false := by kernel_rfl
noncomputable def c6_5 : Code := match c6_4 with
  | .seq x _ => x
  | _ => .skip
noncomputable def c6_6 : Code := match c6_4 with
  | .seq _ x => x
  | _ => .skip
theorem cd_c6_4 : c6_4 = .seq c6_5 c6_6 := by kernel_rfl
noncomputable def c6_7 : Code := match c6_5 with
  | .seq x _ => x
  | _ => .skip
noncomputable def c6_8 : Code := match c6_5 with
  | .seq _ x => x
  | _ => .skip
theorem cd_c6_5 : c6_5 = .seq c6_7 c6_8 := by kernel_rfl
noncomputable def r6_7 : Array Oper := regAt [1, 1, 0, 0] body6
theorem cd_c6_7 : c6_7 = .region 2 r6_7 false := by kernel_rfl
noncomputable def c6_9 : Code := match c6_8 with
  | .cond _ x _ => x
  | _ => .skip
theorem cd_c6_8 : c6_8 = .cond (.tmp 23) c6_9 .skip := by kernel_rfl
noncomputable def c6_11 : Code := match c6_9 with
  | .seq x _ => x
  | _ => .skip
theorem cd_c6_9 : c6_9 = .seq c6_11 .ret := by kernel_rfl
noncomputable def r6_11 : Array Oper := regAt [1, 1, 0, 1, 1, 0] body6
theorem cd_c6_11 : c6_11 = .region 3 r6_11 false := by kernel_rfl
noncomputable def c6_12 : Code := match c6_6 with
  | .seq x _ => x
  | _ => .skip
noncomputable def c6_13 : Code := match c6_6 with
  | .seq _ x => x
  | _ => .skip
theorem cd_c6_6 : c6_6 = .seq c6_12 c6_13 := by kernel_rfl
noncomputable def r6_12 : Array Oper := regAt [1, 1, 1, 0] body6
theorem cd_c6_12 : c6_12 = .region 4 r6_12 false := by kernel_rfl
noncomputable def c6_14 : Code := match c6_13 with
  | .seq x _ => x
  | _ => .skip
noncomputable def c6_15 : Code := match c6_13 with
  | .seq _ x => x
  | _ => .skip
theorem cd_c6_13 : c6_13 = .seq c6_14 c6_15 := by kernel_rfl
noncomputable def r6_14 : Array Oper := regAt [1, 1, 1, 1, 0] body6
theorem cd_c6_14 : c6_14 = .region 5 r6_14 false := by kernel_rfl
noncomputable def c6_16 : Code := match c6_15 with
  | .seq x _ => x
  | _ => .skip
noncomputable def c6_17 : Code := match c6_15 with
  | .seq _ x => x
  | _ => .skip
theorem cd_c6_15 : c6_15 = .seq c6_16 c6_17 := by kernel_rfl
noncomputable def r6_16 : Array Oper := regAt [1, 1, 1, 1, 1, 0] body6
theorem cd_c6_16 : c6_16 = .region 6 r6_16 false := by kernel_rfl
noncomputable def c6_18 : Code := match c6_17 with
  | .seq x _ => x
  | _ => .skip
noncomputable def c6_19 : Code := match c6_17 with
  | .seq _ x => x
  | _ => .skip
theorem cd_c6_17 : c6_17 = .seq c6_18 c6_19 := by kernel_rfl
noncomputable def r6_18 : Array Oper := regAt [1, 1, 1, 1, 1, 1, 0] body6
theorem cd_c6_18 : c6_18 = .region 7 r6_18 false := by kernel_rfl
noncomputable def c6_20 : Code := match c6_19 with
  | .seq x _ => x
  | _ => .skip
noncomputable def c6_21 : Code := match c6_19 with
  | .seq _ x => x
  | _ => .skip
theorem cd_c6_19 : c6_19 = .seq c6_20 c6_21 := by kernel_rfl
noncomputable def c6_22 : Code := match c6_20 with
  | .seq x _ => x
  | _ => .skip
noncomputable def c6_23 : Code := match c6_20 with
  | .seq _ x => x
  | _ => .skip
theorem cd_c6_20 : c6_20 = .seq c6_22 c6_23 := by kernel_rfl
noncomputable def r6_22 : Array Oper := regAt [1, 1, 1, 1, 1, 1, 1, 0, 0] body6
theorem cd_c6_22 : c6_22 = .region 8 r6_22 false := by kernel_rfl
noncomputable def c6_24 : Code := match c6_23 with
  | .block _ x => x
  | _ => .skip
theorem cd_c6_23 : c6_23 = .block 0 c6_24 := by kernel_rfl
noncomputable def c6_25 : Code := match c6_24 with
  | .loop x => x
  | _ => .skip
theorem cd_c6_24 : c6_24 = .loop c6_25 := by kernel_rfl
noncomputable def c6_26 : Code := match c6_25 with
  | .seq x _ => x
  | _ => .skip
noncomputable def c6_27 : Code := match c6_25 with
  | .seq _ x => x
  | _ => .skip
theorem cd_c6_25 : c6_25 = .seq c6_26 c6_27 := by kernel_rfl
noncomputable def c6_28 : Code := match c6_26 with
  | .seq x _ => x
  | _ => .skip
noncomputable def c6_29 : Code := match c6_26 with
  | .seq _ x => x
  | _ => .skip
theorem cd_c6_26 : c6_26 = .seq c6_28 c6_29 := by kernel_rfl
noncomputable def r6_28 : Array Oper := regAt [1, 1, 1, 1, 1, 1, 1, 0, 1, 1, 0, 0, 0] body6
theorem cd_c6_28 : c6_28 = .region 9 r6_28 false := by kernel_rfl
theorem cd_c6_29 : c6_29 = .cond (.tmp 41) .skip (.exit 0) := by kernel_rfl
noncomputable def c6_31 : Code := match c6_27 with
  | .seq x _ => x
  | _ => .skip
noncomputable def c6_32 : Code := match c6_27 with
  | .seq _ x => x
  | _ => .skip
theorem cd_c6_27 : c6_27 = .seq c6_31 c6_32 := by kernel_rfl
noncomputable def c6_33 : Code := match c6_31 with
  | .block _ x => x
  | _ => .skip
theorem cd_c6_31 : c6_31 = .block 1 c6_33 := by kernel_rfl
noncomputable def c6_34 : Code := match c6_33 with
  | .seq x _ => x
  | _ => .skip
noncomputable def c6_35 : Code := match c6_33 with
  | .seq _ x => x
  | _ => .skip
theorem cd_c6_33 : c6_33 = .seq c6_34 c6_35 := by kernel_rfl
noncomputable def r6_34 : Array Oper := regAt [1, 1, 1, 1, 1, 1, 1, 0, 1, 1, 0, 1, 0, 1, 0] body6
theorem cd_c6_34 : c6_34 = .region 11 r6_34 false := by kernel_rfl
noncomputable def c6_36 : Code := match c6_35 with
  | .cond _ x _ => x
  | _ => .skip
theorem cd_c6_35 : c6_35 = .cond (.tmp 49) c6_36 .skip := by kernel_rfl
noncomputable def r6_36 : Array Oper := regAt [1, 1, 1, 1, 1, 1, 1, 0, 1, 1, 0, 1, 0, 1, 1, 1] body6
theorem cd_c6_36 : c6_36 = .region 12 r6_36 false := by kernel_rfl
noncomputable def r6_32 : Array Oper := regAt [1, 1, 1, 1, 1, 1, 1, 0, 1, 1, 0, 1, 1] body6
theorem cd_c6_32 : c6_32 = .region 10 r6_32 false := by kernel_rfl
noncomputable def c6_38 : Code := match c6_21 with
  | .seq x _ => x
  | _ => .skip
noncomputable def c6_39 : Code := match c6_21 with
  | .seq _ x => x
  | _ => .skip
theorem cd_c6_21 : c6_21 = .seq c6_38 c6_39 := by kernel_rfl
noncomputable def c6_40 : Code := match c6_38 with
  | .seq x _ => x
  | _ => .skip
noncomputable def c6_41 : Code := match c6_38 with
  | .seq _ x => x
  | _ => .skip
theorem cd_c6_38 : c6_38 = .seq c6_40 c6_41 := by kernel_rfl
noncomputable def r6_40 : Array Oper := regAt [1, 1, 1, 1, 1, 1, 1, 1, 0, 0] body6
theorem cd_c6_40 : c6_40 = .region 13 r6_40 false := by kernel_rfl
noncomputable def c6_42 : Code := match c6_41 with
  | .block _ x => x
  | _ => .skip
theorem cd_c6_41 : c6_41 = .block 2 c6_42 := by kernel_rfl
noncomputable def c6_43 : Code := match c6_42 with
  | .loop x => x
  | _ => .skip
theorem cd_c6_42 : c6_42 = .loop c6_43 := by kernel_rfl
noncomputable def c6_44 : Code := match c6_43 with
  | .seq x _ => x
  | _ => .skip
noncomputable def c6_45 : Code := match c6_43 with
  | .seq _ x => x
  | _ => .skip
theorem cd_c6_43 : c6_43 = .seq c6_44 c6_45 := by kernel_rfl
noncomputable def c6_46 : Code := match c6_44 with
  | .seq x _ => x
  | _ => .skip
noncomputable def c6_47 : Code := match c6_44 with
  | .seq _ x => x
  | _ => .skip
theorem cd_c6_44 : c6_44 = .seq c6_46 c6_47 := by kernel_rfl
noncomputable def r6_46 : Array Oper := regAt [1, 1, 1, 1, 1, 1, 1, 1, 0, 1, 1, 0, 0, 0] body6
theorem cd_c6_46 : c6_46 = .region 14 r6_46 false := by kernel_rfl
theorem cd_c6_47 : c6_47 = .cond (.tmp 55) .skip (.exit 2) := by kernel_rfl
noncomputable def c6_49 : Code := match c6_45 with
  | .seq x _ => x
  | _ => .skip
noncomputable def c6_50 : Code := match c6_45 with
  | .seq _ x => x
  | _ => .skip
theorem cd_c6_45 : c6_45 = .seq c6_49 c6_50 := by kernel_rfl
noncomputable def c6_51 : Code := match c6_49 with
  | .block _ x => x
  | _ => .skip
theorem cd_c6_49 : c6_49 = .block 3 c6_51 := by kernel_rfl
noncomputable def c6_52 : Code := match c6_51 with
  | .seq x _ => x
  | _ => .skip
noncomputable def c6_53 : Code := match c6_51 with
  | .seq _ x => x
  | _ => .skip
theorem cd_c6_51 : c6_51 = .seq c6_52 c6_53 := by kernel_rfl
noncomputable def r6_52 : Array Oper := regAt [1, 1, 1, 1, 1, 1, 1, 1, 0, 1, 1, 0, 1, 0, 1, 0] body6
theorem cd_c6_52 : c6_52 = .region 16 r6_52 false := by kernel_rfl
noncomputable def c6_54 : Code := match c6_53 with
  | .cond _ x _ => x
  | _ => .skip
theorem cd_c6_53 : c6_53 = .cond (.tmp 63) c6_54 .skip := by kernel_rfl
noncomputable def r6_54 : Array Oper := regAt [1, 1, 1, 1, 1, 1, 1, 1, 0, 1, 1, 0, 1, 0, 1, 1, 1] body6
theorem cd_c6_54 : c6_54 = .region 17 r6_54 false := by kernel_rfl
noncomputable def r6_50 : Array Oper := regAt [1, 1, 1, 1, 1, 1, 1, 1, 0, 1, 1, 0, 1, 1] body6
theorem cd_c6_50 : c6_50 = .region 15 r6_50 false := by kernel_rfl
noncomputable def c6_56 : Code := match c6_39 with
  | .seq x _ => x
  | _ => .skip
noncomputable def c6_57 : Code := match c6_39 with
  | .seq _ x => x
  | _ => .skip
theorem cd_c6_39 : c6_39 = .seq c6_56 c6_57 := by kernel_rfl
noncomputable def r6_56 : Array Oper := regAt [1, 1, 1, 1, 1, 1, 1, 1, 1, 0] body6
theorem cd_c6_56 : c6_56 = .region 18 r6_56 false := by kernel_rfl
noncomputable def c6_58 : Code := match c6_57 with
  | .seq x _ => x
  | _ => .skip
theorem cd_c6_57 : c6_57 = .seq c6_58 .ret := by kernel_rfl
noncomputable def r6_58 : Array Oper := regAt [1, 1, 1, 1, 1, 1, 1, 1, 1, 1, 0] body6
theorem cd_c6_58 : c6_58 = .region 19 r6_58 false := by kernel_rfl
noncomputable def body7 : Code := match Try.f7.body with
  | some c => c
  | none => .skip
noncomputable def c7_1 : Code := match code7 with
  | .seq x _ => x
  | _ => .skip
noncomputable def c7_2 : Code := match code7 with
  | .seq _ x => x
  | _ => .skip
theorem cd_code7 : code7 = .seq c7_1 c7_2 := by kernel_rfl
noncomputable def r7_1 : Array Oper := regAt [0] body7
theorem cd_c7_1 : c7_1 = .region 0 r7_1 false := by kernel_rfl
noncomputable def c7_3 : Code := match c7_2 with
  | .seq x _ => x
  | _ => .skip
noncomputable def c7_4 : Code := match c7_2 with
  | .seq _ x => x
  | _ => .skip
theorem cd_c7_2 : c7_2 = .seq c7_3 c7_4 := by kernel_rfl
noncomputable def c7_5 : Code := match c7_3 with
  | .seq x _ => x
  | _ => .skip
noncomputable def c7_6 : Code := match c7_3 with
  | .seq _ x => x
  | _ => .skip
theorem cd_c7_3 : c7_3 = .seq c7_5 c7_6 := by kernel_rfl
noncomputable def r7_5 : Array Oper := regAt [1, 0, 0] body7
theorem cd_c7_5 : c7_5 = .region 1 r7_5 false := by kernel_rfl
noncomputable def c7_7 : Code := match c7_6 with
  | .cond _ x _ => x
  | _ => .skip
theorem cd_c7_6 : c7_6 = .cond (.tmp 22) c7_7 .skip := by kernel_rfl
noncomputable def c7_9 : Code := match c7_7 with
  | .seq x _ => x
  | _ => .skip
theorem cd_c7_7 : c7_7 = .seq c7_9 .ret := by kernel_rfl
noncomputable def r7_9 : Array Oper := regAt [1, 0, 1, 1, 0] body7
theorem cd_c7_9 : c7_9 = .region 2 r7_9 false := by kernel_rfl
noncomputable def c7_10 : Code := match c7_4 with
  | .seq x _ => x
  | _ => .skip
noncomputable def c7_11 : Code := match c7_4 with
  | .seq _ x => x
  | _ => .skip
theorem cd_c7_4 : c7_4 = .seq c7_10 c7_11 := by kernel_rfl
noncomputable def r7_10 : Array Oper := regAt [1, 1, 0] body7
theorem cd_c7_10 : c7_10 = .region 3 r7_10 false := by kernel_rfl
noncomputable def c7_12 : Code := match c7_11 with
  | .seq x _ => x
  | _ => .skip
noncomputable def c7_13 : Code := match c7_11 with
  | .seq _ x => x
  | _ => .skip
theorem cd_c7_11 : c7_11 = .seq c7_12 c7_13 := by kernel_rfl
noncomputable def r7_12 : Array Oper := regAt [1, 1, 1, 0] body7
theorem cd_c7_12 : c7_12 = .region 4 r7_12 false := by kernel_rfl
noncomputable def c7_14 : Code := match c7_13 with
  | .seq x _ => x
  | _ => .skip
noncomputable def c7_15 : Code := match c7_13 with
  | .seq _ x => x
  | _ => .skip
theorem cd_c7_13 : c7_13 = .seq c7_14 c7_15 := by kernel_rfl
noncomputable def r7_14 : Array Oper := regAt [1, 1, 1, 1, 0] body7
theorem cd_c7_14 : c7_14 = .region 5 r7_14 false := by kernel_rfl
noncomputable def c7_16 : Code := match c7_15 with
  | .seq x _ => x
  | _ => .skip
noncomputable def c7_17 : Code := match c7_15 with
  | .seq _ x => x
  | _ => .skip
theorem cd_c7_15 : c7_15 = .seq c7_16 c7_17 := by kernel_rfl
noncomputable def r7_16 : Array Oper := regAt [1, 1, 1, 1, 1, 0] body7
theorem cd_c7_16 : c7_16 = .region 6 r7_16 false := by kernel_rfl
noncomputable def c7_18 : Code := match c7_17 with
  | .seq x _ => x
  | _ => .skip
noncomputable def c7_19 : Code := match c7_17 with
  | .seq _ x => x
  | _ => .skip
theorem cd_c7_17 : c7_17 = .seq c7_18 c7_19 := by kernel_rfl
noncomputable def r7_18 : Array Oper := regAt [1, 1, 1, 1, 1, 1, 0] body7
theorem cd_c7_18 : c7_18 = .region 7 r7_18 false := by kernel_rfl
noncomputable def c7_20 : Code := match c7_19 with
  | .seq x _ => x
  | _ => .skip
noncomputable def c7_21 : Code := match c7_19 with
  | .seq _ x => x
  | _ => .skip
theorem cd_c7_19 : c7_19 = .seq c7_20 c7_21 := by kernel_rfl
noncomputable def r7_20 : Array Oper := regAt [1, 1, 1, 1, 1, 1, 1, 0] body7
theorem cd_c7_20 : c7_20 = .region 8 r7_20 false := by kernel_rfl
noncomputable def c7_22 : Code := match c7_21 with
  | .seq x _ => x
  | _ => .skip
noncomputable def c7_23 : Code := match c7_21 with
  | .seq _ x => x
  | _ => .skip
theorem cd_c7_21 : c7_21 = .seq c7_22 c7_23 := by kernel_rfl
noncomputable def r7_22 : Array Oper := regAt [1, 1, 1, 1, 1, 1, 1, 1, 0] body7
theorem cd_c7_22 : c7_22 = .region 9 r7_22 false := by kernel_rfl
noncomputable def c7_24 : Code := match c7_23 with
  | .seq x _ => x
  | _ => .skip
theorem cd_c7_23 : c7_23 = .seq c7_24 .ret := by kernel_rfl
noncomputable def r7_24 : Array Oper := regAt [1, 1, 1, 1, 1, 1, 1, 1, 1, 0] body7
theorem cd_c7_24 : c7_24 = .region 10 r7_24 false := by kernel_rfl
noncomputable def body10 : Code := match Try.f10.body with
  | some c => c
  | none => .skip
noncomputable def c10_1 : Code := match code10 with
  | .seq x _ => x
  | _ => .skip
noncomputable def c10_2 : Code := match code10 with
  | .seq _ x => x
  | _ => .skip
theorem cd_code10 : code10 = .seq c10_1 c10_2 := by kernel_rfl
noncomputable def r10_1 : Array Oper := regAt [0] body10
theorem cd_c10_1 : c10_1 = .region 0 r10_1 false := by kernel_rfl
noncomputable def c10_3 : Code := match c10_2 with
  | .seq x _ => x
  | _ => .skip
noncomputable def c10_4 : Code := match c10_2 with
  | .seq _ x => x
  | _ => .skip
theorem cd_c10_2 : c10_2 = .seq c10_3 c10_4 := by kernel_rfl
noncomputable def c10_5 : Code := match c10_3 with
  | .seq x _ => x
  | _ => .skip
noncomputable def c10_6 : Code := match c10_3 with
  | .seq _ x => x
  | _ => .skip
theorem cd_c10_3 : c10_3 = .seq c10_5 c10_6 := by kernel_rfl
noncomputable def r10_5 : Array Oper := regAt [1, 0, 0] body10
theorem cd_c10_5 : c10_5 = .region 1 r10_5 false := by kernel_rfl
noncomputable def c10_7 : Code := match c10_6 with
  | .cond _ x _ => x
  | _ => .skip
theorem cd_c10_6 : c10_6 = .cond (.tmp 20) c10_7 .skip := by kernel_rfl
noncomputable def c10_9 : Code := match c10_7 with
  | .seq x _ => x
  | _ => .skip
theorem cd_c10_7 : c10_7 = .seq c10_9 .ret := by kernel_rfl
noncomputable def r10_9 : Array Oper := regAt [1, 0, 1, 1, 0] body10
theorem cd_c10_9 : c10_9 = .region 2 r10_9 false := by kernel_rfl
noncomputable def c10_10 : Code := match c10_4 with
  | .seq x _ => x
  | _ => .skip
noncomputable def c10_11 : Code := match c10_4 with
  | .seq _ x => x
  | _ => .skip
theorem cd_c10_4 : c10_4 = .seq c10_10 c10_11 := by kernel_rfl
noncomputable def r10_10 : Array Oper := regAt [1, 1, 0] body10
theorem cd_c10_10 : c10_10 = .region 3 r10_10 false := by kernel_rfl
noncomputable def c10_12 : Code := match c10_11 with
  | .seq x _ => x
  | _ => .skip
noncomputable def c10_13 : Code := match c10_11 with
  | .seq _ x => x
  | _ => .skip
theorem cd_c10_11 : c10_11 = .seq c10_12 c10_13 := by kernel_rfl
noncomputable def c10_14 : Code := match c10_12 with
  | .seq x _ => x
  | _ => .skip
noncomputable def c10_15 : Code := match c10_12 with
  | .seq _ x => x
  | _ => .skip
theorem cd_c10_12 : c10_12 = .seq c10_14 c10_15 := by kernel_rfl
noncomputable def r10_14 : Array Oper := regAt [1, 1, 1, 0, 0] body10
theorem cd_c10_14 : c10_14 = .region 4 r10_14 false := by kernel_rfl
noncomputable def c10_16 : Code := match c10_15 with
  | .block _ x => x
  | _ => .skip
theorem cd_c10_15 : c10_15 = .block 0 c10_16 := by kernel_rfl
noncomputable def c10_17 : Code := match c10_16 with
  | .loop x => x
  | _ => .skip
theorem cd_c10_16 : c10_16 = .loop c10_17 := by kernel_rfl
noncomputable def c10_18 : Code := match c10_17 with
  | .seq x _ => x
  | _ => .skip
noncomputable def c10_19 : Code := match c10_17 with
  | .seq _ x => x
  | _ => .skip
theorem cd_c10_17 : c10_17 = .seq c10_18 c10_19 := by kernel_rfl
noncomputable def r10_18 : Array Oper := regAt [1, 1, 1, 0, 1, 1, 0, 0] body10
theorem cd_c10_18 : c10_18 = .region 5 r10_18 false := by kernel_rfl
noncomputable def c10_20 : Code := match c10_19 with
  | .seq x _ => x
  | _ => .skip
noncomputable def c10_21 : Code := match c10_19 with
  | .seq _ x => x
  | _ => .skip
theorem cd_c10_19 : c10_19 = .seq c10_20 c10_21 := by kernel_rfl
theorem cd_c10_20 : c10_20 = .cond (.tmp 26) .skip (.exit 0) := by kernel_rfl
noncomputable def c10_23 : Code := match c10_21 with
  | .seq x _ => x
  | _ => .skip
noncomputable def c10_24 : Code := match c10_21 with
  | .seq _ x => x
  | _ => .skip
theorem cd_c10_21 : c10_21 = .seq c10_23 c10_24 := by kernel_rfl
noncomputable def c10_25 : Code := match c10_23 with
  | .block _ x => x
  | _ => .skip
theorem cd_c10_23 : c10_23 = .block 1 c10_25 := by kernel_rfl
noncomputable def c10_26 : Code := match c10_25 with
  | .seq x _ => x
  | _ => .skip
noncomputable def c10_27 : Code := match c10_25 with
  | .seq _ x => x
  | _ => .skip
theorem cd_c10_25 : c10_25 = .seq c10_26 c10_27 := by kernel_rfl
noncomputable def r10_26 : Array Oper := regAt [1, 1, 1, 0, 1, 1, 0, 1, 1, 0, 1, 0] body10
theorem cd_c10_26 : c10_26 = .region 6 r10_26 false := by kernel_rfl
noncomputable def c10_28 : Code := match c10_27 with
  | .seq x _ => x
  | _ => .skip
noncomputable def c10_29 : Code := match c10_27 with
  | .seq _ x => x
  | _ => .skip
theorem cd_c10_27 : c10_27 = .seq c10_28 c10_29 := by kernel_rfl
noncomputable def r10_28 : Array Oper := regAt [1, 1, 1, 0, 1, 1, 0, 1, 1, 0, 1, 1, 0] body10
theorem cd_c10_28 : c10_28 = .region 7 r10_28 false := by kernel_rfl
noncomputable def c10_30 : Code := match c10_29 with
  | .seq x _ => x
  | _ => .skip
noncomputable def c10_31 : Code := match c10_29 with
  | .seq _ x => x
  | _ => .skip
theorem cd_c10_29 : c10_29 = .seq c10_30 c10_31 := by kernel_rfl
noncomputable def c10_32 : Code := match c10_30 with
  | .seq x _ => x
  | _ => .skip
noncomputable def c10_33 : Code := match c10_30 with
  | .seq _ x => x
  | _ => .skip
theorem cd_c10_30 : c10_30 = .seq c10_32 c10_33 := by kernel_rfl
noncomputable def r10_32 : Array Oper := regAt [1, 1, 1, 0, 1, 1, 0, 1, 1, 0, 1, 1, 1, 0, 0] body10
theorem cd_c10_32 : c10_32 = .region 8 r10_32 false := by kernel_rfl
noncomputable def c10_34 : Code := match c10_33 with
  | .cond _ x _ => x
  | _ => .skip
theorem cd_c10_33 : c10_33 = .cond (.tmp 37) c10_34 .skip := by kernel_rfl
noncomputable def c10_36 : Code := match c10_34 with
  | .seq x _ => x
  | _ => .skip
theorem cd_c10_34 : c10_34 = .seq c10_36 (.exit 1) := by kernel_rfl
noncomputable def r10_36 : Array Oper := regAt [1, 1, 1, 0, 1, 1, 0, 1, 1, 0, 1, 1, 1, 0, 1, 1, 0] body10
theorem cd_c10_36 : c10_36 = .region 9 r10_36 false := by kernel_rfl
noncomputable def c10_37 : Code := match c10_31 with
  | .seq x _ => x
  | _ => .skip
noncomputable def c10_38 : Code := match c10_31 with
  | .seq _ x => x
  | _ => .skip
theorem cd_c10_31 : c10_31 = .seq c10_37 c10_38 := by kernel_rfl
noncomputable def r10_37 : Array Oper := regAt [1, 1, 1, 0, 1, 1, 0, 1, 1, 0, 1, 1, 1, 1, 0] body10
theorem cd_c10_37 : c10_37 = .region 10 r10_37 true := by kernel_rfl
noncomputable def c10_39 : Code := match c10_38 with
  | .seq x _ => x
  | _ => .skip
noncomputable def c10_40 : Code := match c10_38 with
  | .seq _ x => x
  | _ => .skip
theorem cd_c10_38 : c10_38 = .seq c10_39 c10_40 := by kernel_rfl
noncomputable def r10_39 : Array Oper := regAt [1, 1, 1, 0, 1, 1, 0, 1, 1, 0, 1, 1, 1, 1, 1, 0] body10
theorem cd_c10_39 : c10_39 = .region 11 r10_39 false := by kernel_rfl
noncomputable def c10_41 : Code := match c10_40 with
  | .cond _ x _ => x
  | _ => .skip
theorem cd_c10_40 : c10_40 = .cond (.tmp 53) c10_41 .skip := by kernel_rfl
noncomputable def r10_41 : Array Oper := regAt [1, 1, 1, 0, 1, 1, 0, 1, 1, 0, 1, 1, 1, 1, 1, 1, 1] body10
theorem cd_c10_41 : c10_41 = .region 12 r10_41 false := by kernel_rfl
noncomputable def r10_24 : Array Oper := regAt [1, 1, 1, 0, 1, 1, 0, 1, 1, 1] body10
theorem cd_c10_24 : c10_24 = .region 13 r10_24 false := by kernel_rfl
noncomputable def c10_43 : Code := match c10_13 with
  | .seq x _ => x
  | _ => .skip
theorem cd_c10_13 : c10_13 = .seq c10_43 .ret := by kernel_rfl
noncomputable def r10_43 : Array Oper := regAt [1, 1, 1, 1, 0] body10
theorem cd_c10_43 : c10_43 = .region 14 r10_43 false := by kernel_rfl
noncomputable def body13 : Code := match Try.f13.body with
  | some c => c
  | none => .skip
noncomputable def c13_1 : Code := match code13 with
  | .seq x _ => x
  | _ => .skip
noncomputable def c13_2 : Code := match code13 with
  | .seq _ x => x
  | _ => .skip
theorem cd_code13 : code13 = .seq c13_1 c13_2 := by kernel_rfl
noncomputable def r13_1 : Array Oper := regAt [0] body13
theorem cd_c13_1 : c13_1 = .region 0 r13_1 false := by kernel_rfl
noncomputable def c13_3 : Code := match c13_2 with
  | .seq x _ => x
  | _ => .skip
noncomputable def c13_4 : Code := match c13_2 with
  | .seq _ x => x
  | _ => .skip
theorem cd_c13_2 : c13_2 = .seq c13_3 c13_4 := by kernel_rfl
noncomputable def r13_3 : Array Oper := regAt [1, 0] body13
theorem cd_c13_3 : c13_3 = .region 1 r13_3 false := by kernel_rfl
noncomputable def c13_5 : Code := match c13_4 with
  | .seq x _ => x
  | _ => .skip
noncomputable def c13_6 : Code := match c13_4 with
  | .seq _ x => x
  | _ => .skip
theorem cd_c13_4 : c13_4 = .seq c13_5 c13_6 := by kernel_rfl
noncomputable def c13_7 : Code := match c13_5 with
  | .seq x _ => x
  | _ => .skip
noncomputable def c13_8 : Code := match c13_5 with
  | .seq _ x => x
  | _ => .skip
theorem cd_c13_5 : c13_5 = .seq c13_7 c13_8 := by kernel_rfl
noncomputable def r13_7 : Array Oper := regAt [1, 1, 0, 0] body13
theorem cd_c13_7 : c13_7 = .region 2 r13_7 false := by kernel_rfl
noncomputable def c13_9 : Code := match c13_8 with
  | .block _ x => x
  | _ => .skip
theorem cd_c13_8 : c13_8 = .block 0 c13_9 := by kernel_rfl
noncomputable def c13_10 : Code := match c13_9 with
  | .loop x => x
  | _ => .skip
theorem cd_c13_9 : c13_9 = .loop c13_10 := by kernel_rfl
noncomputable def c13_11 : Code := match c13_10 with
  | .seq x _ => x
  | _ => .skip
noncomputable def c13_12 : Code := match c13_10 with
  | .seq _ x => x
  | _ => .skip
theorem cd_c13_10 : c13_10 = .seq c13_11 c13_12 := by kernel_rfl
noncomputable def r13_11 : Array Oper := regAt [1, 1, 0, 1, 1, 0, 0] body13
theorem cd_c13_11 : c13_11 = .region 3 r13_11 false := by kernel_rfl
noncomputable def c13_13 : Code := match c13_12 with
  | .seq x _ => x
  | _ => .skip
noncomputable def c13_14 : Code := match c13_12 with
  | .seq _ x => x
  | _ => .skip
theorem cd_c13_12 : c13_12 = .seq c13_13 c13_14 := by kernel_rfl
theorem cd_c13_13 : c13_13 = .cond (.tmp 9) .skip (.exit 0) := by kernel_rfl
noncomputable def c13_16 : Code := match c13_14 with
  | .seq x _ => x
  | _ => .skip
noncomputable def c13_17 : Code := match c13_14 with
  | .seq _ x => x
  | _ => .skip
theorem cd_c13_14 : c13_14 = .seq c13_16 c13_17 := by kernel_rfl
noncomputable def c13_18 : Code := match c13_16 with
  | .block _ x => x
  | _ => .skip
theorem cd_c13_16 : c13_16 = .block 1 c13_18 := by kernel_rfl
noncomputable def c13_19 : Code := match c13_18 with
  | .seq x _ => x
  | _ => .skip
noncomputable def c13_20 : Code := match c13_18 with
  | .seq _ x => x
  | _ => .skip
theorem cd_c13_18 : c13_18 = .seq c13_19 c13_20 := by kernel_rfl
noncomputable def r13_19 : Array Oper := regAt [1, 1, 0, 1, 1, 0, 1, 1, 0, 1, 0] body13
theorem cd_c13_19 : c13_19 = .region 4 r13_19 false := by kernel_rfl
noncomputable def c13_21 : Code := match c13_20 with
  | .seq x _ => x
  | _ => .skip
noncomputable def c13_22 : Code := match c13_20 with
  | .seq _ x => x
  | _ => .skip
theorem cd_c13_20 : c13_20 = .seq c13_21 c13_22 := by kernel_rfl
noncomputable def c13_23 : Code := match c13_21 with
  | .seq x _ => x
  | _ => .skip
noncomputable def c13_24 : Code := match c13_21 with
  | .seq _ x => x
  | _ => .skip
theorem cd_c13_21 : c13_21 = .seq c13_23 c13_24 := by kernel_rfl
noncomputable def r13_23 : Array Oper := regAt [1, 1, 0, 1, 1, 0, 1, 1, 0, 1, 1, 0, 0] body13
theorem cd_c13_23 : c13_23 = .region 5 r13_23 false := by kernel_rfl
noncomputable def c13_25 : Code := match c13_24 with
  | .cond _ x _ => x
  | _ => .skip
theorem cd_c13_24 : c13_24 = .cond (.tmp 20) c13_25 .skip := by kernel_rfl
noncomputable def c13_27 : Code := match c13_25 with
  | .seq x _ => x
  | _ => .skip
theorem cd_c13_25 : c13_25 = .seq c13_27 .ret := by kernel_rfl
noncomputable def r13_27 : Array Oper := regAt [1, 1, 0, 1, 1, 0, 1, 1, 0, 1, 1, 0, 1, 1, 0] body13
theorem cd_c13_27 : c13_27 = .region 6 r13_27 false := by kernel_rfl
noncomputable def r13_22 : Array Oper := regAt [1, 1, 0, 1, 1, 0, 1, 1, 0, 1, 1, 1] body13
theorem cd_c13_22 : c13_22 = .region 7 r13_22 false := by kernel_rfl
noncomputable def r13_17 : Array Oper := regAt [1, 1, 0, 1, 1, 0, 1, 1, 1] body13
theorem cd_c13_17 : c13_17 = .region 8 r13_17 false := by kernel_rfl
noncomputable def c13_28 : Code := match c13_6 with
  | .seq x _ => x
  | _ => .skip
theorem cd_c13_6 : c13_6 = .seq c13_28 .ret := by kernel_rfl
noncomputable def r13_28 : Array Oper := regAt [1, 1, 1, 0] body13
theorem cd_c13_28 : c13_28 = .region 9 r13_28 false := by kernel_rfl
noncomputable def body15 : Code := match Try.f15.body with
  | some c => c
  | none => .skip
noncomputable def c15_1 : Code := match code15 with
  | .seq x _ => x
  | _ => .skip
noncomputable def c15_2 : Code := match code15 with
  | .seq _ x => x
  | _ => .skip
theorem cd_code15 : code15 = .seq c15_1 c15_2 := by kernel_rfl
noncomputable def r15_1 : Array Oper := regAt [0] body15
theorem cd_c15_1 : c15_1 = .region 0 r15_1 false := by kernel_rfl
noncomputable def c15_3 : Code := match c15_2 with
  | .seq x _ => x
  | _ => .skip
noncomputable def c15_4 : Code := match c15_2 with
  | .seq _ x => x
  | _ => .skip
theorem cd_c15_2 : c15_2 = .seq c15_3 c15_4 := by kernel_rfl
noncomputable def c15_5 : Code := match c15_3 with
  | .seq x _ => x
  | _ => .skip
noncomputable def c15_6 : Code := match c15_3 with
  | .seq _ x => x
  | _ => .skip
theorem cd_c15_3 : c15_3 = .seq c15_5 c15_6 := by kernel_rfl
noncomputable def r15_5 : Array Oper := regAt [1, 0, 0] body15
theorem cd_c15_5 : c15_5 = .region 1 r15_5 false := by kernel_rfl
noncomputable def c15_7 : Code := match c15_6 with
  | .seq x _ => x
  | _ => .skip
noncomputable def c15_8 : Code := match c15_6 with
  | .seq _ x => x
  | _ => .skip
theorem cd_c15_6 : c15_6 = .seq c15_7 c15_8 := by kernel_rfl
noncomputable def r15_7 : Array Oper := regAt [1, 0, 1, 0] body15
theorem cd_c15_7 : c15_7 = .region 2 r15_7 false := by kernel_rfl
noncomputable def c15_9 : Code := match c15_8 with
  | .cond _ x _ => x
  | _ => .skip
theorem cd_c15_8 : c15_8 = .cond (.tmp 12) c15_9 .skip := by kernel_rfl
noncomputable def c15_11 : Code := match c15_9 with
  | .seq x _ => x
  | _ => .skip
theorem cd_c15_9 : c15_9 = .seq c15_11 .ret := by kernel_rfl
noncomputable def r15_11 : Array Oper := regAt [1, 0, 1, 1, 1, 0] body15
theorem cd_c15_11 : c15_11 = .region 3 r15_11 false := by kernel_rfl
noncomputable def c15_12 : Code := match c15_4 with
  | .seq x _ => x
  | _ => .skip
noncomputable def c15_13 : Code := match c15_4 with
  | .seq _ x => x
  | _ => .skip
theorem cd_c15_4 : c15_4 = .seq c15_12 c15_13 := by kernel_rfl
noncomputable def r15_12 : Array Oper := regAt [1, 1, 0] body15
theorem cd_c15_12 : c15_12 = .region 4 r15_12 false := by kernel_rfl
noncomputable def c15_14 : Code := match c15_13 with
  | .seq x _ => x
  | _ => .skip
noncomputable def c15_15 : Code := match c15_13 with
  | .seq _ x => x
  | _ => .skip
theorem cd_c15_13 : c15_13 = .seq c15_14 c15_15 := by kernel_rfl
noncomputable def c15_16 : Code := match c15_14 with
  | .seq x _ => x
  | _ => .skip
noncomputable def c15_17 : Code := match c15_14 with
  | .seq _ x => x
  | _ => .skip
theorem cd_c15_14 : c15_14 = .seq c15_16 c15_17 := by kernel_rfl
noncomputable def r15_16 : Array Oper := regAt [1, 1, 1, 0, 0] body15
theorem cd_c15_16 : c15_16 = .region 5 r15_16 false := by kernel_rfl
noncomputable def c15_18 : Code := match c15_17 with
  | .cond _ x _ => x
  | _ => .skip
theorem cd_c15_17 : c15_17 = .cond (.tmp 22) c15_18 .skip := by kernel_rfl
noncomputable def c15_20 : Code := match c15_18 with
  | .seq x _ => x
  | _ => .skip
theorem cd_c15_18 : c15_18 = .seq c15_20 .ret := by kernel_rfl
noncomputable def r15_20 : Array Oper := regAt [1, 1, 1, 0, 1, 1, 0] body15
theorem cd_c15_20 : c15_20 = .region 6 r15_20 false := by kernel_rfl
noncomputable def c15_21 : Code := match c15_15 with
  | .seq x _ => x
  | _ => .skip
theorem cd_c15_15 : c15_15 = .seq c15_21 .ret := by kernel_rfl
noncomputable def r15_21 : Array Oper := regAt [1, 1, 1, 1, 0] body15
theorem cd_c15_21 : c15_21 = .region 7 r15_21 false := by kernel_rfl
noncomputable def body16 : Code := match Try.f16.body with
  | some c => c
  | none => .skip
noncomputable def c16_1 : Code := match code16 with
  | .seq x _ => x
  | _ => .skip
noncomputable def c16_2 : Code := match code16 with
  | .seq _ x => x
  | _ => .skip
theorem cd_code16 : code16 = .seq c16_1 c16_2 := by kernel_rfl
noncomputable def r16_1 : Array Oper := regAt [0] body16
theorem cd_c16_1 : c16_1 = .region 0 r16_1 false := by kernel_rfl
noncomputable def c16_3 : Code := match c16_2 with
  | .seq x _ => x
  | _ => .skip
theorem cd_c16_2 : c16_2 = .seq c16_3 .ret := by kernel_rfl
noncomputable def r16_3 : Array Oper := regAt [1, 0] body16
theorem cd_c16_3 : c16_3 = .region 1 r16_3 false := by kernel_rfl
noncomputable def body19 : Code := match Try.f19.body with
  | some c => c
  | none => .skip
noncomputable def c19_1 : Code := match code19 with
  | .seq x _ => x
  | _ => .skip
noncomputable def c19_2 : Code := match code19 with
  | .seq _ x => x
  | _ => .skip
theorem cd_code19 : code19 = .seq c19_1 c19_2 := by kernel_rfl
noncomputable def r19_1 : Array Oper := regAt [0] body19
theorem cd_c19_1 : c19_1 = .region 0 r19_1 false := by kernel_rfl
noncomputable def c19_3 : Code := match c19_2 with
  | .seq x _ => x
  | _ => .skip
theorem cd_c19_2 : c19_2 = .seq c19_3 .ret := by kernel_rfl
noncomputable def r19_3 : Array Oper := regAt [1, 0] body19
theorem cd_c19_3 : c19_3 = .region 1 r19_3 false := by kernel_rfl
noncomputable def body20 : Code := match Try.f20.body with
  | some c => c
  | none => .skip
noncomputable def c20_1 : Code := match code20 with
  | .seq x _ => x
  | _ => .skip
noncomputable def c20_2 : Code := match code20 with
  | .seq _ x => x
  | _ => .skip
theorem cd_code20 : code20 = .seq c20_1 c20_2 := by kernel_rfl
noncomputable def r20_1 : Array Oper := regAt [0] body20
theorem cd_c20_1 : c20_1 = .region 0 r20_1 false := by kernel_rfl
noncomputable def c20_3 : Code := match c20_2 with
  | .seq x _ => x
  | _ => .skip
theorem cd_c20_2 : c20_2 = .seq c20_3 .ret := by kernel_rfl
noncomputable def r20_3 : Array Oper := regAt [1, 0] body20
theorem cd_c20_3 : c20_3 = .region 1 r20_3 false := by kernel_rfl
noncomputable def body21 : Code := match Try.f21.body with
  | some c => c
  | none => .skip
noncomputable def c21_1 : Code := match code21 with
  | .seq x _ => x
  | _ => .skip
noncomputable def c21_2 : Code := match code21 with
  | .seq _ x => x
  | _ => .skip
theorem cd_code21 : code21 = .seq c21_1 c21_2 := by kernel_rfl
noncomputable def r21_1 : Array Oper := regAt [0] body21
theorem cd_c21_1 : c21_1 = .region 0 r21_1 false := by kernel_rfl
noncomputable def c21_3 : Code := match c21_2 with
  | .seq x _ => x
  | _ => .skip
noncomputable def c21_4 : Code := match c21_2 with
  | .seq _ x => x
  | _ => .skip
theorem cd_c21_2 : c21_2 = .seq c21_3 c21_4 := by kernel_rfl
noncomputable def c21_5 : Code := match c21_3 with
  | .seq x _ => x
  | _ => .skip
noncomputable def c21_6 : Code := match c21_3 with
  | .seq _ x => x
  | _ => .skip
theorem cd_c21_3 : c21_3 = .seq c21_5 c21_6 := by kernel_rfl
noncomputable def r21_5 : Array Oper := regAt [1, 0, 0] body21
theorem cd_c21_5 : c21_5 = .region 1 r21_5 false := by kernel_rfl
noncomputable def c21_7 : Code := match c21_6 with
  | .cond _ x _ => x
  | _ => .skip
theorem cd_c21_6 : c21_6 = .cond (.tmp 6) c21_7 .skip := by kernel_rfl
noncomputable def c21_9 : Code := match c21_7 with
  | .seq x _ => x
  | _ => .skip
theorem cd_c21_7 : c21_7 = .seq c21_9 .ret := by kernel_rfl
noncomputable def r21_9 : Array Oper := regAt [1, 0, 1, 1, 0] body21
theorem cd_c21_9 : c21_9 = .region 2 r21_9 false := by kernel_rfl
noncomputable def c21_10 : Code := match c21_4 with
  | .seq x _ => x
  | _ => .skip
noncomputable def c21_11 : Code := match c21_4 with
  | .seq _ x => x
  | _ => .skip
theorem cd_c21_4 : c21_4 = .seq c21_10 c21_11 := by kernel_rfl
noncomputable def r21_10 : Array Oper := regAt [1, 1, 0] body21
theorem cd_c21_10 : c21_10 = .region 3 r21_10 false := by kernel_rfl
noncomputable def c21_12 : Code := match c21_11 with
  | .seq x _ => x
  | _ => .skip
noncomputable def c21_13 : Code := match c21_11 with
  | .seq _ x => x
  | _ => .skip
theorem cd_c21_11 : c21_11 = .seq c21_12 c21_13 := by kernel_rfl
noncomputable def c21_14 : Code := match c21_12 with
  | .seq x _ => x
  | _ => .skip
noncomputable def c21_15 : Code := match c21_12 with
  | .seq _ x => x
  | _ => .skip
theorem cd_c21_12 : c21_12 = .seq c21_14 c21_15 := by kernel_rfl
noncomputable def r21_14 : Array Oper := regAt [1, 1, 1, 0, 0] body21
theorem cd_c21_14 : c21_14 = .region 4 r21_14 false := by kernel_rfl
noncomputable def c21_16 : Code := match c21_15 with
  | .cond _ x _ => x
  | _ => .skip
theorem cd_c21_15 : c21_15 = .cond (.tmp 11) c21_16 .skip := by kernel_rfl
noncomputable def r21_16 : Array Oper := regAt [1, 1, 1, 0, 1, 1] body21
theorem cd_c21_16 : c21_16 = .region 5 r21_16 false := by kernel_rfl
noncomputable def c21_18 : Code := match c21_13 with
  | .seq x _ => x
  | _ => .skip
theorem cd_c21_13 : c21_13 = .seq c21_18 .ret := by kernel_rfl
noncomputable def r21_18 : Array Oper := regAt [1, 1, 1, 1, 0] body21
theorem cd_c21_18 : c21_18 = .region 6 r21_18 false := by kernel_rfl
noncomputable def body22 : Code := match Try.f22.body with
  | some c => c
  | none => .skip
noncomputable def c22_1 : Code := match code22 with
  | .seq x _ => x
  | _ => .skip
noncomputable def c22_2 : Code := match code22 with
  | .seq _ x => x
  | _ => .skip
theorem cd_code22 : code22 = .seq c22_1 c22_2 := by kernel_rfl
noncomputable def r22_1 : Array Oper := regAt [0] body22
theorem cd_c22_1 : c22_1 = .region 0 r22_1 false := by kernel_rfl
noncomputable def c22_3 : Code := match c22_2 with
  | .seq x _ => x
  | _ => .skip
theorem cd_c22_2 : c22_2 = .seq c22_3 .ret := by kernel_rfl
noncomputable def r22_3 : Array Oper := regAt [1, 0] body22
theorem cd_c22_3 : c22_3 = .region 1 r22_3 false := by kernel_rfl
noncomputable def body32 : Code := match Try.f32.body with
  | some c => c
  | none => .skip
noncomputable def c32_1 : Code := match code32 with
  | .seq x _ => x
  | _ => .skip
noncomputable def c32_2 : Code := match code32 with
  | .seq _ x => x
  | _ => .skip
theorem cd_code32 : code32 = .seq c32_1 c32_2 := by kernel_rfl
noncomputable def r32_1 : Array Oper := regAt [0] body32
theorem cd_c32_1 : c32_1 = .region 0 r32_1 false := by kernel_rfl
noncomputable def c32_3 : Code := match c32_2 with
  | .seq x _ => x
  | _ => .skip
noncomputable def c32_4 : Code := match c32_2 with
  | .seq _ x => x
  | _ => .skip
theorem cd_c32_2 : c32_2 = .seq c32_3 c32_4 := by kernel_rfl
noncomputable def c32_5 : Code := match c32_3 with
  | .seq x _ => x
  | _ => .skip
noncomputable def c32_6 : Code := match c32_3 with
  | .seq _ x => x
  | _ => .skip
theorem cd_c32_3 : c32_3 = .seq c32_5 c32_6 := by kernel_rfl
noncomputable def r32_5 : Array Oper := regAt [1, 0, 0] body32
theorem cd_c32_5 : c32_5 = .region 1 r32_5 false := by kernel_rfl
noncomputable def c32_7 : Code := match c32_6 with
  | .seq x _ => x
  | _ => .skip
noncomputable def c32_8 : Code := match c32_6 with
  | .seq _ x => x
  | _ => .skip
theorem cd_c32_6 : c32_6 = .seq c32_7 c32_8 := by kernel_rfl
noncomputable def r32_7 : Array Oper := regAt [1, 0, 1, 0] body32
theorem cd_c32_7 : c32_7 = .region 2 r32_7 false := by kernel_rfl
noncomputable def c32_9 : Code := match c32_8 with
  | .cond _ x _ => x
  | _ => .skip
theorem cd_c32_8 : c32_8 = .cond (.tmp 31) c32_9 .skip := by kernel_rfl
noncomputable def c32_11 : Code := match c32_9 with
  | .seq x _ => x
  | _ => .skip
theorem cd_c32_9 : c32_9 = .seq c32_11 .ret := by kernel_rfl
noncomputable def r32_11 : Array Oper := regAt [1, 0, 1, 1, 1, 0] body32
theorem cd_c32_11 : c32_11 = .region 3 r32_11 false := by kernel_rfl
noncomputable def c32_12 : Code := match c32_4 with
  | .seq x _ => x
  | _ => .skip
theorem cd_c32_4 : c32_4 = .seq c32_12 .ret := by kernel_rfl
noncomputable def r32_12 : Array Oper := regAt [1, 1, 0] body32
theorem cd_c32_12 : c32_12 = .region 4 r32_12 false := by kernel_rfl
noncomputable def body34 : Code := match Try.f34.body with
  | some c => c
  | none => .skip
noncomputable def c34_1 : Code := match code34 with
  | .seq x _ => x
  | _ => .skip
noncomputable def c34_2 : Code := match code34 with
  | .seq _ x => x
  | _ => .skip
theorem cd_code34 : code34 = .seq c34_1 c34_2 := by kernel_rfl
noncomputable def r34_1 : Array Oper := regAt [0] body34
theorem cd_c34_1 : c34_1 = .region 0 r34_1 false := by kernel_rfl
noncomputable def c34_3 : Code := match c34_2 with
  | .seq x _ => x
  | _ => .skip
theorem cd_c34_2 : c34_2 = .seq c34_3 .ret := by kernel_rfl
noncomputable def r34_3 : Array Oper := regAt [1, 0] body34
theorem cd_c34_3 : c34_3 = .region 1 r34_3 false := by kernel_rfl
noncomputable def body35 : Code := match Try.f35.body with
  | some c => c
  | none => .skip
noncomputable def c35_1 : Code := match code35 with
  | .seq x _ => x
  | _ => .skip
noncomputable def c35_2 : Code := match code35 with
  | .seq _ x => x
  | _ => .skip
theorem cd_code35 : code35 = .seq c35_1 c35_2 := by kernel_rfl
noncomputable def r35_1 : Array Oper := regAt [0] body35
theorem cd_c35_1 : c35_1 = .region 0 r35_1 false := by kernel_rfl
noncomputable def c35_3 : Code := match c35_2 with
  | .seq x _ => x
  | _ => .skip
theorem cd_c35_2 : c35_2 = .seq c35_3 .ret := by kernel_rfl
noncomputable def r35_3 : Array Oper := regAt [1, 0] body35
theorem cd_c35_3 : c35_3 = .region 1 r35_3 false := by kernel_rfl
noncomputable def body43 : Code := match Try.f43.body with
  | some c => c
  | none => .skip
noncomputable def c43_1 : Code := match code43 with
  | .seq x _ => x
  | _ => .skip
noncomputable def c43_2 : Code := match code43 with
  | .seq _ x => x
  | _ => .skip
theorem cd_code43 : code43 = .seq c43_1 c43_2 := by kernel_rfl
noncomputable def r43_1 : Array Oper := regAt [0] body43
theorem cd_c43_1 : c43_1 = .region 0 r43_1 false := by kernel_rfl
noncomputable def c43_3 : Code := match c43_2 with
  | .seq x _ => x
  | _ => .skip
theorem cd_c43_2 : c43_2 = .seq c43_3 .ret := by kernel_rfl
noncomputable def r43_3 : Array Oper := regAt [1, 0] body43
theorem cd_c43_3 : c43_3 = .region 1 r43_3 false := by kernel_rfl
noncomputable def body44 : Code := match Try.f44.body with
  | some c => c
  | none => .skip
noncomputable def c44_1 : Code := match code44 with
  | .seq x _ => x
  | _ => .skip
noncomputable def c44_2 : Code := match code44 with
  | .seq _ x => x
  | _ => .skip
theorem cd_code44 : code44 = .seq c44_1 c44_2 := by kernel_rfl
noncomputable def r44_1 : Array Oper := regAt [0] body44
theorem cd_c44_1 : c44_1 = .region 0 r44_1 false := by kernel_rfl
noncomputable def c44_3 : Code := match c44_2 with
  | .seq x _ => x
  | _ => .skip
theorem cd_c44_2 : c44_2 = .seq c44_3 .ret := by kernel_rfl
noncomputable def r44_3 : Array Oper := regAt [1, 0] body44
theorem cd_c44_3 : c44_3 = .region 1 r44_3 true := by kernel_rfl
noncomputable def body45 : Code := match Try.f45.body with
  | some c => c
  | none => .skip
noncomputable def c45_1 : Code := match code45 with
  | .seq x _ => x
  | _ => .skip
noncomputable def c45_2 : Code := match code45 with
  | .seq _ x => x
  | _ => .skip
theorem cd_code45 : code45 = .seq c45_1 c45_2 := by kernel_rfl
noncomputable def r45_1 : Array Oper := regAt [0] body45
theorem cd_c45_1 : c45_1 = .region 0 r45_1 false := by kernel_rfl
noncomputable def c45_3 : Code := match c45_2 with
  | .seq x _ => x
  | _ => .skip
noncomputable def c45_4 : Code := match c45_2 with
  | .seq _ x => x
  | _ => .skip
theorem cd_c45_2 : c45_2 = .seq c45_3 c45_4 := by kernel_rfl
noncomputable def r45_3 : Array Oper := regAt [1, 0] body45
theorem cd_c45_3 : c45_3 = .region 1 r45_3 false := by kernel_rfl
noncomputable def c45_5 : Code := match c45_4 with
  | .seq x _ => x
  | _ => .skip
noncomputable def c45_6 : Code := match c45_4 with
  | .seq _ x => x
  | _ => .skip
theorem cd_c45_4 : c45_4 = .seq c45_5 c45_6 := by kernel_rfl
noncomputable def c45_7 : Code := match c45_5 with
  | .seq x _ => x
  | _ => .skip
noncomputable def c45_8 : Code := match c45_5 with
  | .seq _ x => x
  | _ => .skip
theorem cd_c45_5 : c45_5 = .seq c45_7 c45_8 := by kernel_rfl
noncomputable def r45_7 : Array Oper := regAt [1, 1, 0, 0] body45
theorem cd_c45_7 : c45_7 = .region 2 r45_7 false := by kernel_rfl
noncomputable def c45_9 : Code := match c45_8 with
  | .cond _ x _ => x
  | _ => .skip
theorem cd_c45_8 : c45_8 = .cond (.tmp 10) c45_9 .skip := by kernel_rfl
noncomputable def c45_11 : Code := match c45_9 with
  | .seq x _ => x
  | _ => .skip
theorem cd_c45_9 : c45_9 = .seq c45_11 .ret := by kernel_rfl
noncomputable def r45_11 : Array Oper := regAt [1, 1, 0, 1, 1, 0] body45
theorem cd_c45_11 : c45_11 = .region 3 r45_11 false := by kernel_rfl
noncomputable def c45_12 : Code := match c45_6 with
  | .seq x _ => x
  | _ => .skip
noncomputable def c45_13 : Code := match c45_6 with
  | .seq _ x => x
  | _ => .skip
theorem cd_c45_6 : c45_6 = .seq c45_12 c45_13 := by kernel_rfl
noncomputable def c45_14 : Code := match c45_12 with
  | .seq x _ => x
  | _ => .skip
noncomputable def c45_15 : Code := match c45_12 with
  | .seq _ x => x
  | _ => .skip
theorem cd_c45_12 : c45_12 = .seq c45_14 c45_15 := by kernel_rfl
noncomputable def r45_14 : Array Oper := regAt [1, 1, 1, 0, 0] body45
theorem cd_c45_14 : c45_14 = .region 4 r45_14 false := by kernel_rfl
noncomputable def c45_16 : Code := match c45_15 with
  | .block _ x => x
  | _ => .skip
theorem cd_c45_15 : c45_15 = .block 0 c45_16 := by kernel_rfl
noncomputable def c45_17 : Code := match c45_16 with
  | .loop x => x
  | _ => .skip
theorem cd_c45_16 : c45_16 = .loop c45_17 := by kernel_rfl
noncomputable def c45_18 : Code := match c45_17 with
  | .seq x _ => x
  | _ => .skip
noncomputable def c45_19 : Code := match c45_17 with
  | .seq _ x => x
  | _ => .skip
theorem cd_c45_17 : c45_17 = .seq c45_18 c45_19 := by kernel_rfl
noncomputable def r45_18 : Array Oper := regAt [1, 1, 1, 0, 1, 1, 0, 0] body45
theorem cd_c45_18 : c45_18 = .region 5 r45_18 false := by kernel_rfl
noncomputable def c45_20 : Code := match c45_19 with
  | .seq x _ => x
  | _ => .skip
noncomputable def c45_21 : Code := match c45_19 with
  | .seq _ x => x
  | _ => .skip
theorem cd_c45_19 : c45_19 = .seq c45_20 c45_21 := by kernel_rfl
theorem cd_c45_20 : c45_20 = .cond (.tmp 15) .skip (.exit 0) := by kernel_rfl
noncomputable def c45_23 : Code := match c45_21 with
  | .seq x _ => x
  | _ => .skip
noncomputable def c45_24 : Code := match c45_21 with
  | .seq _ x => x
  | _ => .skip
theorem cd_c45_21 : c45_21 = .seq c45_23 c45_24 := by kernel_rfl
noncomputable def c45_25 : Code := match c45_23 with
  | .block _ x => x
  | _ => .skip
theorem cd_c45_23 : c45_23 = .block 1 c45_25 := by kernel_rfl
noncomputable def c45_26 : Code := match c45_25 with
  | .seq x _ => x
  | _ => .skip
noncomputable def c45_27 : Code := match c45_25 with
  | .seq _ x => x
  | _ => .skip
theorem cd_c45_25 : c45_25 = .seq c45_26 c45_27 := by kernel_rfl
noncomputable def r45_26 : Array Oper := regAt [1, 1, 1, 0, 1, 1, 0, 1, 1, 0, 1, 0] body45
theorem cd_c45_26 : c45_26 = .region 6 r45_26 false := by kernel_rfl
noncomputable def c45_28 : Code := match c45_27 with
  | .seq x _ => x
  | _ => .skip
noncomputable def c45_29 : Code := match c45_27 with
  | .seq _ x => x
  | _ => .skip
theorem cd_c45_27 : c45_27 = .seq c45_28 c45_29 := by kernel_rfl
noncomputable def r45_28 : Array Oper := regAt [1, 1, 1, 0, 1, 1, 0, 1, 1, 0, 1, 1, 0] body45
theorem cd_c45_28 : c45_28 = .region 7 r45_28 false := by kernel_rfl
noncomputable def c45_30 : Code := match c45_29 with
  | .cond _ x _ => x
  | _ => .skip
theorem cd_c45_29 : c45_29 = .cond (.tmp 20) c45_30 .skip := by kernel_rfl
noncomputable def r45_30 : Array Oper := regAt [1, 1, 1, 0, 1, 1, 0, 1, 1, 0, 1, 1, 1, 1] body45
theorem cd_c45_30 : c45_30 = .region 8 r45_30 false := by kernel_rfl
noncomputable def r45_24 : Array Oper := regAt [1, 1, 1, 0, 1, 1, 0, 1, 1, 1] body45
theorem cd_c45_24 : c45_24 = .region 9 r45_24 false := by kernel_rfl
noncomputable def c45_32 : Code := match c45_13 with
  | .seq x _ => x
  | _ => .skip
theorem cd_c45_13 : c45_13 = .seq c45_32 .ret := by kernel_rfl
noncomputable def r45_32 : Array Oper := regAt [1, 1, 1, 1, 0] body45
theorem cd_c45_32 : c45_32 = .region 10 r45_32 false := by kernel_rfl
noncomputable def body46 : Code := match Try.f46.body with
  | some c => c
  | none => .skip
noncomputable def c46_1 : Code := match code46 with
  | .seq x _ => x
  | _ => .skip
noncomputable def c46_2 : Code := match code46 with
  | .seq _ x => x
  | _ => .skip
theorem cd_code46 : code46 = .seq c46_1 c46_2 := by kernel_rfl
noncomputable def r46_1 : Array Oper := regAt [0] body46
theorem cd_c46_1 : c46_1 = .region 0 r46_1 false := by kernel_rfl
noncomputable def c46_3 : Code := match c46_2 with
  | .seq x _ => x
  | _ => .skip
theorem cd_c46_2 : c46_2 = .seq c46_3 .ret := by kernel_rfl
noncomputable def r46_3 : Array Oper := regAt [1, 0] body46
theorem cd_c46_3 : c46_3 = .region 1 r46_3 false := by kernel_rfl
noncomputable def body50 : Code := match Try.f50.body with
  | some c => c
  | none => .skip
noncomputable def c50_1 : Code := match code50 with
  | .seq x _ => x
  | _ => .skip
noncomputable def c50_2 : Code := match code50 with
  | .seq _ x => x
  | _ => .skip
theorem cd_code50 : code50 = .seq c50_1 c50_2 := by kernel_rfl
noncomputable def r50_1 : Array Oper := regAt [0] body50
theorem cd_c50_1 : c50_1 = .region 0 r50_1 false := by kernel_rfl
noncomputable def c50_3 : Code := match c50_2 with
  | .seq x _ => x
  | _ => .skip
noncomputable def c50_4 : Code := match c50_2 with
  | .seq _ x => x
  | _ => .skip
theorem cd_c50_2 : c50_2 = .seq c50_3 c50_4 := by kernel_rfl
noncomputable def r50_3 : Array Oper := regAt [1, 0] body50
theorem cd_c50_3 : c50_3 = .region 1 r50_3 false := by kernel_rfl
noncomputable def c50_5 : Code := match c50_4 with
  | .seq x _ => x
  | _ => .skip
noncomputable def c50_6 : Code := match c50_4 with
  | .seq _ x => x
  | _ => .skip
theorem cd_c50_4 : c50_4 = .seq c50_5 c50_6 := by kernel_rfl
noncomputable def r50_5 : Array Oper := regAt [1, 1, 0] body50
theorem cd_c50_5 : c50_5 = .region 2 r50_5 false := by kernel_rfl
noncomputable def c50_7 : Code := match c50_6 with
  | .seq x _ => x
  | _ => .skip
noncomputable def c50_8 : Code := match c50_6 with
  | .seq _ x => x
  | _ => .skip
theorem cd_c50_6 : c50_6 = .seq c50_7 c50_8 := by kernel_rfl
noncomputable def c50_9 : Code := match c50_7 with
  | .block _ x => x
  | _ => .skip
theorem cd_c50_7 : c50_7 = .block 0 c50_9 := by kernel_rfl
noncomputable def c50_10 : Code := match c50_9 with
  | .loop x => x
  | _ => .skip
theorem cd_c50_9 : c50_9 = .loop c50_10 := by kernel_rfl
noncomputable def c50_11 : Code := match c50_10 with
  | .seq x _ => x
  | _ => .skip
noncomputable def c50_12 : Code := match c50_10 with
  | .seq _ x => x
  | _ => .skip
theorem cd_c50_10 : c50_10 = .seq c50_11 c50_12 := by kernel_rfl
noncomputable def c50_13 : Code := match c50_11 with
  | .seq x _ => x
  | _ => .skip
noncomputable def c50_14 : Code := match c50_11 with
  | .seq _ x => x
  | _ => .skip
theorem cd_c50_11 : c50_11 = .seq c50_13 c50_14 := by kernel_rfl
noncomputable def r50_13 : Array Oper := regAt [1, 1, 1, 0, 1, 0, 0, 0] body50
theorem cd_c50_13 : c50_13 = .region 3 r50_13 false := by kernel_rfl
theorem cd_c50_14 : c50_14 = .cond (.tmp 17) .skip (.exit 0) := by kernel_rfl
noncomputable def c50_16 : Code := match c50_12 with
  | .block _ x => x
  | _ => .skip
theorem cd_c50_12 : c50_12 = .block 1 c50_16 := by kernel_rfl
noncomputable def c50_17 : Code := match c50_16 with
  | .seq x _ => x
  | _ => .skip
noncomputable def c50_18 : Code := match c50_16 with
  | .seq _ x => x
  | _ => .skip
theorem cd_c50_16 : c50_16 = .seq c50_17 c50_18 := by kernel_rfl
noncomputable def r50_17 : Array Oper := regAt [1, 1, 1, 0, 1, 0, 1, 1, 0] body50
theorem cd_c50_17 : c50_17 = .region 4 r50_17 false := by kernel_rfl
noncomputable def c50_19 : Code := match c50_18 with
  | .seq x _ => x
  | _ => .skip
noncomputable def c50_20 : Code := match c50_18 with
  | .seq _ x => x
  | _ => .skip
theorem cd_c50_18 : c50_18 = .seq c50_19 c50_20 := by kernel_rfl
noncomputable def r50_19 : Array Oper := regAt [1, 1, 1, 0, 1, 0, 1, 1, 1, 0] body50
theorem cd_c50_19 : c50_19 = .region 5 r50_19 false := by kernel_rfl
noncomputable def c50_21 : Code := match c50_20 with
  | .cond _ x _ => x
  | _ => .skip
noncomputable def c50_22 : Code := match c50_20 with
  | .cond _ _ x => x
  | _ => .skip
theorem cd_c50_20 : c50_20 = .cond (.tmp 31) c50_21 c50_22 := by kernel_rfl
noncomputable def r50_21 : Array Oper := regAt [1, 1, 1, 0, 1, 0, 1, 1, 1, 1, 1] body50
theorem cd_c50_21 : c50_21 = .region 6 r50_21 false := by kernel_rfl
noncomputable def r50_22 : Array Oper := regAt [1, 1, 1, 0, 1, 0, 1, 1, 1, 1, 2] body50
theorem cd_c50_22 : c50_22 = .region 7 r50_22 false := by kernel_rfl
noncomputable def c50_24 : Code := match c50_8 with
  | .seq x _ => x
  | _ => .skip
theorem cd_c50_8 : c50_8 = .seq c50_24 .ret := by kernel_rfl
noncomputable def r50_24 : Array Oper := regAt [1, 1, 1, 1, 0] body50
theorem cd_c50_24 : c50_24 = .region 8 r50_24 false := by kernel_rfl
noncomputable def body51 : Code := match Try.f51.body with
  | some c => c
  | none => .skip
noncomputable def c51_1 : Code := match code51 with
  | .seq x _ => x
  | _ => .skip
noncomputable def c51_2 : Code := match code51 with
  | .seq _ x => x
  | _ => .skip
theorem cd_code51 : code51 = .seq c51_1 c51_2 := by kernel_rfl
noncomputable def r51_1 : Array Oper := regAt [0] body51
theorem cd_c51_1 : c51_1 = .region 0 r51_1 false := by kernel_rfl
noncomputable def c51_3 : Code := match c51_2 with
  | .seq x _ => x
  | _ => .skip
theorem cd_c51_2 : c51_2 = .seq c51_3 .ret := by kernel_rfl
noncomputable def r51_3 : Array Oper := regAt [1, 0] body51
theorem cd_c51_3 : c51_3 = .region 1 r51_3 false := by kernel_rfl
noncomputable def body52 : Code := match Try.f52.body with
  | some c => c
  | none => .skip
noncomputable def c52_1 : Code := match code52 with
  | .seq x _ => x
  | _ => .skip
noncomputable def c52_2 : Code := match code52 with
  | .seq _ x => x
  | _ => .skip
theorem cd_code52 : code52 = .seq c52_1 c52_2 := by kernel_rfl
noncomputable def r52_1 : Array Oper := regAt [0] body52
theorem cd_c52_1 : c52_1 = .region 0 r52_1 false := by kernel_rfl
noncomputable def c52_3 : Code := match c52_2 with
  | .seq x _ => x
  | _ => .skip
noncomputable def c52_4 : Code := match c52_2 with
  | .seq _ x => x
  | _ => .skip
theorem cd_c52_2 : c52_2 = .seq c52_3 c52_4 := by kernel_rfl
noncomputable def r52_3 : Array Oper := regAt [1, 0] body52
theorem cd_c52_3 : c52_3 = .region 1 r52_3 false := by kernel_rfl
noncomputable def c52_5 : Code := match c52_4 with
  | .seq x _ => x
  | _ => .skip
noncomputable def c52_6 : Code := match c52_4 with
  | .seq _ x => x
  | _ => .skip
theorem cd_c52_4 : c52_4 = .seq c52_5 c52_6 := by kernel_rfl
noncomputable def r52_5 : Array Oper := regAt [1, 1, 0] body52
theorem cd_c52_5 : c52_5 = .region 2 r52_5 false := by kernel_rfl
noncomputable def c52_7 : Code := match c52_6 with
  | .seq x _ => x
  | _ => .skip
noncomputable def c52_8 : Code := match c52_6 with
  | .seq _ x => x
  | _ => .skip
theorem cd_c52_6 : c52_6 = .seq c52_7 c52_8 := by kernel_rfl
noncomputable def c52_9 : Code := match c52_7 with
  | .seq x _ => x
  | _ => .skip
noncomputable def c52_10 : Code := match c52_7 with
  | .seq _ x => x
  | _ => .skip
theorem cd_c52_7 : c52_7 = .seq c52_9 c52_10 := by kernel_rfl
noncomputable def r52_9 : Array Oper := regAt [1, 1, 1, 0, 0] body52
theorem cd_c52_9 : c52_9 = .region 3 r52_9 false := by kernel_rfl
noncomputable def c52_11 : Code := match c52_10 with
  | .cond _ x _ => x
  | _ => .skip
theorem cd_c52_10 : c52_10 = .cond (.tmp 11) c52_11 .skip := by kernel_rfl
noncomputable def c52_13 : Code := match c52_11 with
  | .seq x _ => x
  | _ => .skip
noncomputable def c52_14 : Code := match c52_11 with
  | .seq _ x => x
  | _ => .skip
theorem cd_c52_11 : c52_11 = .seq c52_13 c52_14 := by kernel_rfl
noncomputable def c52_15 : Code := match c52_13 with
  | .seq x _ => x
  | _ => .skip
noncomputable def c52_16 : Code := match c52_13 with
  | .seq _ x => x
  | _ => .skip
theorem cd_c52_13 : c52_13 = .seq c52_15 c52_16 := by kernel_rfl
noncomputable def r52_15 : Array Oper := regAt [1, 1, 1, 0, 1, 1, 0, 0] body52
theorem cd_c52_15 : c52_15 = .region 4 r52_15 false := by kernel_rfl
noncomputable def c52_17 : Code := match c52_16 with
  | .cond _ x _ => x
  | _ => .skip
theorem cd_c52_16 : c52_16 = .cond (.tmp 12) c52_17 .skip := by kernel_rfl
noncomputable def c52_19 : Code := match c52_17 with
  | .seq x _ => x
  | _ => .skip
theorem cd_c52_17 : c52_17 = .seq c52_19 .ret := by kernel_rfl
noncomputable def r52_19 : Array Oper := regAt [1, 1, 1, 0, 1, 1, 0, 1, 1, 0] body52
theorem cd_c52_19 : c52_19 = .region 5 r52_19 false := by kernel_rfl
noncomputable def c52_20 : Code := match c52_14 with
  | .seq x _ => x
  | _ => .skip
theorem cd_c52_14 : c52_14 = .seq c52_20 .ret := by kernel_rfl
noncomputable def r52_20 : Array Oper := regAt [1, 1, 1, 0, 1, 1, 1, 0] body52
theorem cd_c52_20 : c52_20 = .region 6 r52_20 false := by kernel_rfl
noncomputable def c52_21 : Code := match c52_8 with
  | .seq x _ => x
  | _ => .skip
noncomputable def c52_22 : Code := match c52_8 with
  | .seq _ x => x
  | _ => .skip
theorem cd_c52_8 : c52_8 = .seq c52_21 c52_22 := by kernel_rfl
noncomputable def c52_23 : Code := match c52_21 with
  | .seq x _ => x
  | _ => .skip
noncomputable def c52_24 : Code := match c52_21 with
  | .seq _ x => x
  | _ => .skip
theorem cd_c52_21 : c52_21 = .seq c52_23 c52_24 := by kernel_rfl
noncomputable def r52_23 : Array Oper := regAt [1, 1, 1, 1, 0, 0] body52
theorem cd_c52_23 : c52_23 = .region 7 r52_23 false := by kernel_rfl
noncomputable def c52_25 : Code := match c52_24 with
  | .cond _ x _ => x
  | _ => .skip
theorem cd_c52_24 : c52_24 = .cond (.tmp 13) c52_25 .skip := by kernel_rfl
noncomputable def c52_27 : Code := match c52_25 with
  | .seq x _ => x
  | _ => .skip
theorem cd_c52_25 : c52_25 = .seq c52_27 .ret := by kernel_rfl
noncomputable def r52_27 : Array Oper := regAt [1, 1, 1, 1, 0, 1, 1, 0] body52
theorem cd_c52_27 : c52_27 = .region 8 r52_27 false := by kernel_rfl
noncomputable def c52_28 : Code := match c52_22 with
  | .seq x _ => x
  | _ => .skip
noncomputable def c52_29 : Code := match c52_22 with
  | .seq _ x => x
  | _ => .skip
theorem cd_c52_22 : c52_22 = .seq c52_28 c52_29 := by kernel_rfl
noncomputable def c52_30 : Code := match c52_28 with
  | .seq x _ => x
  | _ => .skip
noncomputable def c52_31 : Code := match c52_28 with
  | .seq _ x => x
  | _ => .skip
theorem cd_c52_28 : c52_28 = .seq c52_30 c52_31 := by kernel_rfl
noncomputable def r52_30 : Array Oper := regAt [1, 1, 1, 1, 1, 0, 0] body52
theorem cd_c52_30 : c52_30 = .region 9 r52_30 false := by kernel_rfl
noncomputable def c52_32 : Code := match c52_31 with
  | .cond _ x _ => x
  | _ => .skip
theorem cd_c52_31 : c52_31 = .cond (.tmp 16) c52_32 .skip := by kernel_rfl
noncomputable def c52_34 : Code := match c52_32 with
  | .seq x _ => x
  | _ => .skip
theorem cd_c52_32 : c52_32 = .seq c52_34 .ret := by kernel_rfl
noncomputable def r52_34 : Array Oper := regAt [1, 1, 1, 1, 1, 0, 1, 1, 0] body52
theorem cd_c52_34 : c52_34 = .region 10 r52_34 false := by kernel_rfl
noncomputable def c52_35 : Code := match c52_29 with
  | .seq x _ => x
  | _ => .skip
noncomputable def c52_36 : Code := match c52_29 with
  | .seq _ x => x
  | _ => .skip
theorem cd_c52_29 : c52_29 = .seq c52_35 c52_36 := by kernel_rfl
noncomputable def c52_37 : Code := match c52_35 with
  | .seq x _ => x
  | _ => .skip
noncomputable def c52_38 : Code := match c52_35 with
  | .seq _ x => x
  | _ => .skip
theorem cd_c52_35 : c52_35 = .seq c52_37 c52_38 := by kernel_rfl
noncomputable def r52_37 : Array Oper := regAt [1, 1, 1, 1, 1, 1, 0, 0] body52
theorem cd_c52_37 : c52_37 = .region 11 r52_37 false := by kernel_rfl
noncomputable def c52_39 : Code := match c52_38 with
  | .cond _ x _ => x
  | _ => .skip
theorem cd_c52_38 : c52_38 = .cond (.tmp 19) c52_39 .skip := by kernel_rfl
noncomputable def c52_41 : Code := match c52_39 with
  | .seq x _ => x
  | _ => .skip
theorem cd_c52_39 : c52_39 = .seq c52_41 .ret := by kernel_rfl
noncomputable def r52_41 : Array Oper := regAt [1, 1, 1, 1, 1, 1, 0, 1, 1, 0] body52
theorem cd_c52_41 : c52_41 = .region 12 r52_41 false := by kernel_rfl
noncomputable def c52_42 : Code := match c52_36 with
  | .seq x _ => x
  | _ => .skip
theorem cd_c52_36 : c52_36 = .seq c52_42 .ret := by kernel_rfl
noncomputable def r52_42 : Array Oper := regAt [1, 1, 1, 1, 1, 1, 1, 0] body52
theorem cd_c52_42 : c52_42 = .region 13 r52_42 false := by kernel_rfl
noncomputable def body58 : Code := match Try.f58.body with
  | some c => c
  | none => .skip
noncomputable def c58_1 : Code := match code58 with
  | .seq x _ => x
  | _ => .skip
noncomputable def c58_2 : Code := match code58 with
  | .seq _ x => x
  | _ => .skip
theorem cd_code58 : code58 = .seq c58_1 c58_2 := by kernel_rfl
noncomputable def r58_1 : Array Oper := regAt [0] body58
theorem cd_c58_1 : c58_1 = .region 0 r58_1 false := by kernel_rfl
noncomputable def c58_3 : Code := match c58_2 with
  | .seq x _ => x
  | _ => .skip
noncomputable def c58_4 : Code := match c58_2 with
  | .seq _ x => x
  | _ => .skip
theorem cd_c58_2 : c58_2 = .seq c58_3 c58_4 := by kernel_rfl
noncomputable def r58_3 : Array Oper := regAt [1, 0] body58
theorem cd_c58_3 : c58_3 = .region 1 r58_3 false := by kernel_rfl
noncomputable def c58_5 : Code := match c58_4 with
  | .seq x _ => x
  | _ => .skip
noncomputable def c58_6 : Code := match c58_4 with
  | .seq _ x => x
  | _ => .skip
theorem cd_c58_4 : c58_4 = .seq c58_5 c58_6 := by kernel_rfl
noncomputable def c58_7 : Code := match c58_5 with
  | .seq x _ => x
  | _ => .skip
noncomputable def c58_8 : Code := match c58_5 with
  | .seq _ x => x
  | _ => .skip
theorem cd_c58_5 : c58_5 = .seq c58_7 c58_8 := by kernel_rfl
noncomputable def r58_7 : Array Oper := regAt [1, 1, 0, 0] body58
theorem cd_c58_7 : c58_7 = .region 2 r58_7 false := by kernel_rfl
noncomputable def c58_9 : Code := match c58_8 with
  | .block _ x => x
  | _ => .skip
theorem cd_c58_8 : c58_8 = .block 0 c58_9 := by kernel_rfl
noncomputable def c58_10 : Code := match c58_9 with
  | .loop x => x
  | _ => .skip
theorem cd_c58_9 : c58_9 = .loop c58_10 := by kernel_rfl
noncomputable def c58_11 : Code := match c58_10 with
  | .seq x _ => x
  | _ => .skip
noncomputable def c58_12 : Code := match c58_10 with
  | .seq _ x => x
  | _ => .skip
theorem cd_c58_10 : c58_10 = .seq c58_11 c58_12 := by kernel_rfl
noncomputable def r58_11 : Array Oper := regAt [1, 1, 0, 1, 1, 0, 0] body58
theorem cd_c58_11 : c58_11 = .region 3 r58_11 false := by kernel_rfl
noncomputable def c58_13 : Code := match c58_12 with
  | .seq x _ => x
  | _ => .skip
noncomputable def c58_14 : Code := match c58_12 with
  | .seq _ x => x
  | _ => .skip
theorem cd_c58_12 : c58_12 = .seq c58_13 c58_14 := by kernel_rfl
theorem cd_c58_13 : c58_13 = .cond (.tmp 9) .skip (.exit 0) := by kernel_rfl
noncomputable def c58_16 : Code := match c58_14 with
  | .seq x _ => x
  | _ => .skip
noncomputable def c58_17 : Code := match c58_14 with
  | .seq _ x => x
  | _ => .skip
theorem cd_c58_14 : c58_14 = .seq c58_16 c58_17 := by kernel_rfl
noncomputable def c58_18 : Code := match c58_16 with
  | .block _ x => x
  | _ => .skip
theorem cd_c58_16 : c58_16 = .block 1 c58_18 := by kernel_rfl
noncomputable def c58_19 : Code := match c58_18 with
  | .seq x _ => x
  | _ => .skip
noncomputable def c58_20 : Code := match c58_18 with
  | .seq _ x => x
  | _ => .skip
theorem cd_c58_18 : c58_18 = .seq c58_19 c58_20 := by kernel_rfl
noncomputable def r58_19 : Array Oper := regAt [1, 1, 0, 1, 1, 0, 1, 1, 0, 1, 0] body58
theorem cd_c58_19 : c58_19 = .region 4 r58_19 false := by kernel_rfl
noncomputable def c58_21 : Code := match c58_20 with
  | .seq x _ => x
  | _ => .skip
noncomputable def c58_22 : Code := match c58_20 with
  | .seq _ x => x
  | _ => .skip
theorem cd_c58_20 : c58_20 = .seq c58_21 c58_22 := by kernel_rfl
noncomputable def r58_21 : Array Oper := regAt [1, 1, 0, 1, 1, 0, 1, 1, 0, 1, 1, 0] body58
theorem cd_c58_21 : c58_21 = .region 5 r58_21 false := by kernel_rfl
noncomputable def c58_23 : Code := match c58_22 with
  | .cond _ x _ => x
  | _ => .skip
theorem cd_c58_22 : c58_22 = .cond (.tmp 14) c58_23 .skip := by kernel_rfl
noncomputable def c58_25 : Code := match c58_23 with
  | .seq x _ => x
  | _ => .skip
theorem cd_c58_23 : c58_23 = .seq c58_25 .ret := by kernel_rfl
noncomputable def r58_25 : Array Oper := regAt [1, 1, 0, 1, 1, 0, 1, 1, 0, 1, 1, 1, 1, 0] body58
theorem cd_c58_25 : c58_25 = .region 6 r58_25 false := by kernel_rfl
noncomputable def r58_17 : Array Oper := regAt [1, 1, 0, 1, 1, 0, 1, 1, 1] body58
theorem cd_c58_17 : c58_17 = .region 7 r58_17 false := by kernel_rfl
noncomputable def c58_26 : Code := match c58_6 with
  | .seq x _ => x
  | _ => .skip
theorem cd_c58_6 : c58_6 = .seq c58_26 .ret := by kernel_rfl
noncomputable def r58_26 : Array Oper := regAt [1, 1, 1, 0] body58
theorem cd_c58_26 : c58_26 = .region 8 r58_26 false := by kernel_rfl
noncomputable def body59 : Code := match Try.f59.body with
  | some c => c
  | none => .skip
noncomputable def c59_1 : Code := match code59 with
  | .seq x _ => x
  | _ => .skip
noncomputable def c59_2 : Code := match code59 with
  | .seq _ x => x
  | _ => .skip
theorem cd_code59 : code59 = .seq c59_1 c59_2 := by kernel_rfl
noncomputable def r59_1 : Array Oper := regAt [0] body59
theorem cd_c59_1 : c59_1 = .region 0 r59_1 false := by kernel_rfl
noncomputable def c59_3 : Code := match c59_2 with
  | .seq x _ => x
  | _ => .skip
theorem cd_c59_2 : c59_2 = .seq c59_3 .ret := by kernel_rfl
noncomputable def r59_3 : Array Oper := regAt [1, 0] body59
theorem cd_c59_3 : c59_3 = .region 1 r59_3 false := by kernel_rfl
end Go.Proofs.Ytdanhpemheldlaa
