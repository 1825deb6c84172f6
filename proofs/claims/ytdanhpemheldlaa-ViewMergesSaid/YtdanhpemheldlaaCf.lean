/-
  The code of this seat's functions in named pieces: by our program cds.py.
-/
import Derived.Test.YtdanhpemheldlaaFn
import Derived.Test.YtdanhpemheldlaaSm
import Derived.KernelRfl
open Go Go.SY
namespace Go.Proofs.Ytdanhpemheldlaa
noncomputable def body3 : Code := match Try.f3.body with
  | some c => c
  | none => .skip
noncomputable def c3_1 : Code := match code3 with
  | .seq x _ => x
  | _ => .skip
noncomputable def c3_2 : Code := match code3 with
  | .seq _ x => x
  | _ => .skip
theorem cd_code3 : code3 = .seq c3_1 c3_2 := by kernel_rfl
noncomputable def r3_1 : Array Oper := regAt [0] body3
theorem cd_c3_1 : c3_1 = .region 0 r3_1 false := by kernel_rfl
noncomputable def c3_3 : Code := match c3_2 with
  | .seq x _ => x
  | _ => .skip
noncomputable def c3_4 : Code := match c3_2 with
  | .seq _ x => x
  | _ => .skip
theorem cd_c3_2 : c3_2 = .seq c3_3 c3_4 := by kernel_rfl
noncomputable def c3_5 : Code := match c3_3 with
  | .seq x _ => x
  | _ => .skip
noncomputable def c3_6 : Code := match c3_3 with
  | .seq _ x => x
  | _ => .skip
theorem cd_c3_3 : c3_3 = .seq c3_5 c3_6 := by kernel_rfl
noncomputable def r3_5 : Array Oper := regAt [1, 0, 0] body3
theorem cd_c3_5 : c3_5 = .region 1 r3_5 false := by kernel_rfl
noncomputable def c3_7 : Code := match c3_6 with
  | .cond _ x _ => x
  | _ => .skip
theorem cd_c3_6 : c3_6 = .cond (.tmp 23) c3_7 .skip := by kernel_rfl
noncomputable def c3_9 : Code := match c3_7 with
  | .seq x _ => x
  | _ => .skip
theorem cd_c3_7 : c3_7 = .seq c3_9 .ret := by kernel_rfl
noncomputable def r3_9 : Array Oper := regAt [1, 0, 1, 1, 0] body3
theorem cd_c3_9 : c3_9 = .region 2 r3_9 false := by kernel_rfl
noncomputable def c3_10 : Code := match c3_4 with
  | .seq x _ => x
  | _ => .skip
noncomputable def c3_11 : Code := match c3_4 with
  | .seq _ x => x
  | _ => .skip
theorem cd_c3_4 : c3_4 = .seq c3_10 c3_11 := by kernel_rfl
noncomputable def r3_10 : Array Oper := regAt [1, 1, 0] body3
theorem cd_c3_10 : c3_10 = .region 3 r3_10 false := by kernel_rfl
noncomputable def c3_12 : Code := match c3_11 with
  | .seq x _ => x
  | _ => .skip
noncomputable def c3_13 : Code := match c3_11 with
  | .seq _ x => x
  | _ => .skip
theorem cd_c3_11 : c3_11 = .seq c3_12 c3_13 := by kernel_rfl
noncomputable def r3_12 : Array Oper := regAt [1, 1, 1, 0] body3
theorem cd_c3_12 : c3_12 = .region 4 r3_12 false := by kernel_rfl
noncomputable def c3_14 : Code := match c3_13 with
  | .seq x _ => x
  | _ => .skip
noncomputable def c3_15 : Code := match c3_13 with
  | .seq _ x => x
  | _ => .skip
theorem cd_c3_13 : c3_13 = .seq c3_14 c3_15 := by kernel_rfl
noncomputable def r3_14 : Array Oper := regAt [1, 1, 1, 1, 0] body3
theorem cd_c3_14 : c3_14 = .region 5 r3_14 false := by kernel_rfl
noncomputable def c3_16 : Code := match c3_15 with
  | .seq x _ => x
  | _ => .skip
noncomputable def c3_17 : Code := match c3_15 with
  | .seq _ x => x
  | _ => .skip
theorem cd_c3_15 : c3_15 = .seq c3_16 c3_17 := by kernel_rfl
noncomputable def r3_16 : Array Oper := regAt [1, 1, 1, 1, 1, 0] body3
theorem cd_c3_16 : c3_16 = .region 6 r3_16 false := by kernel_rfl
noncomputable def c3_18 : Code := match c3_17 with
  | .seq x _ => x
  | _ => .skip
noncomputable def c3_19 : Code := match c3_17 with
  | .seq _ x => x
  | _ => .skip
theorem cd_c3_17 : c3_17 = .seq c3_18 c3_19 := by kernel_rfl
noncomputable def c3_20 : Code := match c3_18 with
  | .seq x _ => x
  | _ => .skip
noncomputable def c3_21 : Code := match c3_18 with
  | .seq _ x => x
  | _ => .skip
theorem cd_c3_18 : c3_18 = .seq c3_20 c3_21 := by kernel_rfl
noncomputable def r3_20 : Array Oper := regAt [1, 1, 1, 1, 1, 1, 0, 0] body3
theorem cd_c3_20 : c3_20 = .region 7 r3_20 false := by kernel_rfl
noncomputable def c3_22 : Code := match c3_21 with
  | .block _ x => x
  | _ => .skip
theorem cd_c3_21 : c3_21 = .block 0 c3_22 := by kernel_rfl
noncomputable def c3_23 : Code := match c3_22 with
  | .loop x => x
  | _ => .skip
theorem cd_c3_22 : c3_22 = .loop c3_23 := by kernel_rfl
noncomputable def c3_24 : Code := match c3_23 with
  | .seq x _ => x
  | _ => .skip
noncomputable def c3_25 : Code := match c3_23 with
  | .seq _ x => x
  | _ => .skip
theorem cd_c3_23 : c3_23 = .seq c3_24 c3_25 := by kernel_rfl
noncomputable def c3_26 : Code := match c3_24 with
  | .seq x _ => x
  | _ => .skip
noncomputable def c3_27 : Code := match c3_24 with
  | .seq _ x => x
  | _ => .skip
theorem cd_c3_24 : c3_24 = .seq c3_26 c3_27 := by kernel_rfl
noncomputable def r3_26 : Array Oper := regAt [1, 1, 1, 1, 1, 1, 0, 1, 1, 0, 0, 0] body3
theorem cd_c3_26 : c3_26 = .region 8 r3_26 false := by kernel_rfl
theorem cd_c3_27 : c3_27 = .cond (.tmp 61) .skip (.exit 0) := by kernel_rfl
noncomputable def c3_29 : Code := match c3_25 with
  | .seq x _ => x
  | _ => .skip
noncomputable def c3_30 : Code := match c3_25 with
  | .seq _ x => x
  | _ => .skip
theorem cd_c3_25 : c3_25 = .seq c3_29 c3_30 := by kernel_rfl
noncomputable def c3_31 : Code := match c3_29 with
  | .block _ x => x
  | _ => .skip
theorem cd_c3_29 : c3_29 = .block 1 c3_31 := by kernel_rfl
noncomputable def r3_31 : Array Oper := regAt [1, 1, 1, 1, 1, 1, 0, 1, 1, 0, 1, 0, 1] body3
theorem cd_c3_31 : c3_31 = .region 10 r3_31 false := by kernel_rfl
noncomputable def r3_30 : Array Oper := regAt [1, 1, 1, 1, 1, 1, 0, 1, 1, 0, 1, 1] body3
theorem cd_c3_30 : c3_30 = .region 9 r3_30 false := by kernel_rfl
noncomputable def c3_32 : Code := match c3_19 with
  | .seq x _ => x
  | _ => .skip
noncomputable def c3_33 : Code := match c3_19 with
  | .seq _ x => x
  | _ => .skip
theorem cd_c3_19 : c3_19 = .seq c3_32 c3_33 := by kernel_rfl
noncomputable def c3_34 : Code := match c3_32 with
  | .seq x _ => x
  | _ => .skip
noncomputable def c3_35 : Code := match c3_32 with
  | .seq _ x => x
  | _ => .skip
theorem cd_c3_32 : c3_32 = .seq c3_34 c3_35 := by kernel_rfl
noncomputable def r3_34 : Array Oper := regAt [1, 1, 1, 1, 1, 1, 1, 0, 0] body3
theorem cd_c3_34 : c3_34 = .region 11 r3_34 false := by kernel_rfl
noncomputable def c3_36 : Code := match c3_35 with
  | .block _ x => x
  | _ => .skip
theorem cd_c3_35 : c3_35 = .block 2 c3_36 := by kernel_rfl
noncomputable def c3_37 : Code := match c3_36 with
  | .loop x => x
  | _ => .skip
theorem cd_c3_36 : c3_36 = .loop c3_37 := by kernel_rfl
noncomputable def c3_38 : Code := match c3_37 with
  | .seq x _ => x
  | _ => .skip
noncomputable def c3_39 : Code := match c3_37 with
  | .seq _ x => x
  | _ => .skip
theorem cd_c3_37 : c3_37 = .seq c3_38 c3_39 := by kernel_rfl
noncomputable def c3_40 : Code := match c3_38 with
  | .seq x _ => x
  | _ => .skip
noncomputable def c3_41 : Code := match c3_38 with
  | .seq _ x => x
  | _ => .skip
theorem cd_c3_38 : c3_38 = .seq c3_40 c3_41 := by kernel_rfl
noncomputable def r3_40 : Array Oper := regAt [1, 1, 1, 1, 1, 1, 1, 0, 1, 1, 0, 0, 0] body3
theorem cd_c3_40 : c3_40 = .region 12 r3_40 false := by kernel_rfl
theorem cd_c3_41 : c3_41 = .cond (.tmp 71) .skip (.exit 2) := by kernel_rfl
noncomputable def c3_43 : Code := match c3_39 with
  | .seq x _ => x
  | _ => .skip
noncomputable def c3_44 : Code := match c3_39 with
  | .seq _ x => x
  | _ => .skip
theorem cd_c3_39 : c3_39 = .seq c3_43 c3_44 := by kernel_rfl
noncomputable def c3_45 : Code := match c3_43 with
  | .block _ x => x
  | _ => .skip
theorem cd_c3_43 : c3_43 = .block 3 c3_45 := by kernel_rfl
noncomputable def r3_45 : Array Oper := regAt [1, 1, 1, 1, 1, 1, 1, 0, 1, 1, 0, 1, 0, 1] body3
theorem cd_c3_45 : c3_45 = .region 14 r3_45 false := by kernel_rfl
noncomputable def r3_44 : Array Oper := regAt [1, 1, 1, 1, 1, 1, 1, 0, 1, 1, 0, 1, 1] body3
theorem cd_c3_44 : c3_44 = .region 13 r3_44 false := by kernel_rfl
noncomputable def c3_46 : Code := match c3_33 with
  | .seq x _ => x
  | _ => .skip
theorem cd_c3_33 : c3_33 = .seq c3_46 .ret := by kernel_rfl
noncomputable def r3_46 : Array Oper := regAt [1, 1, 1, 1, 1, 1, 1, 1, 0] body3
theorem cd_c3_46 : c3_46 = .region 15 r3_46 false := by kernel_rfl
noncomputable def body11 : Code := match Try.f11.body with
  | some c => c
  | none => .skip
noncomputable def c11_1 : Code := match code11 with
  | .seq x _ => x
  | _ => .skip
noncomputable def c11_2 : Code := match code11 with
  | .seq _ x => x
  | _ => .skip
theorem cd_code11 : code11 = .seq c11_1 c11_2 := by kernel_rfl
noncomputable def r11_1 : Array Oper := regAt [0] body11
theorem cd_c11_1 : c11_1 = .region 0 r11_1 false := by kernel_rfl
noncomputable def c11_3 : Code := match c11_2 with
  | .seq x _ => x
  | _ => .skip
noncomputable def c11_4 : Code := match c11_2 with
  | .seq _ x => x
  | _ => .skip
theorem cd_c11_2 : c11_2 = .seq c11_3 c11_4 := by kernel_rfl
noncomputable def c11_5 : Code := match c11_3 with
  | .seq x _ => x
  | _ => .skip
noncomputable def c11_6 : Code := match c11_3 with
  | .seq _ x => x
  | _ => .skip
theorem cd_c11_3 : c11_3 = .seq c11_5 c11_6 := by kernel_rfl
noncomputable def r11_5 : Array Oper := regAt [1, 0, 0] body11
theorem cd_c11_5 : c11_5 = .region 1 r11_5 false := by kernel_rfl
noncomputable def c11_7 : Code := match c11_6 with
  | .cond _ x _ => x
  | _ => .skip
theorem cd_c11_6 : c11_6 = .cond (.tmp 16) c11_7 .skip := by kernel_rfl
noncomputable def c11_9 : Code := match c11_7 with
  | .seq x _ => x
  | _ => .skip
theorem cd_c11_7 : c11_7 = .seq c11_9 .ret := by kernel_rfl
noncomputable def r11_9 : Array Oper := regAt [1, 0, 1, 1, 0] body11
theorem cd_c11_9 : c11_9 = .region 2 r11_9 false := by kernel_rfl
noncomputable def c11_10 : Code := match c11_4 with
  | .seq x _ => x
  | _ => .skip
noncomputable def c11_11 : Code := match c11_4 with
  | .seq _ x => x
  | _ => .skip
theorem cd_c11_4 : c11_4 = .seq c11_10 c11_11 := by kernel_rfl
noncomputable def c11_12 : Code := match c11_10 with
  | .seq x _ => x
  | _ => .skip
noncomputable def c11_13 : Code := match c11_10 with
  | .seq _ x => x
  | _ => .skip
theorem cd_c11_10 : c11_10 = .seq c11_12 c11_13 := by kernel_rfl
noncomputable def r11_12 : Array Oper := regAt [1, 1, 0, 0] body11
theorem cd_c11_12 : c11_12 = .region 3 r11_12 false := by kernel_rfl
noncomputable def c11_14 : Code := match c11_13 with
  | .block _ x => x
  | _ => .skip
theorem cd_c11_13 : c11_13 = .block 0 c11_14 := by kernel_rfl
noncomputable def c11_15 : Code := match c11_14 with
  | .loop x => x
  | _ => .skip
theorem cd_c11_14 : c11_14 = .loop c11_15 := by kernel_rfl
noncomputable def c11_16 : Code := match c11_15 with
  | .seq x _ => x
  | _ => .skip
noncomputable def c11_17 : Code := match c11_15 with
  | .seq _ x => x
  | _ => .skip
theorem cd_c11_15 : c11_15 = .seq c11_16 c11_17 := by kernel_rfl
noncomputable def c11_18 : Code := match c11_16 with
  | .seq x _ => x
  | _ => .skip
noncomputable def c11_19 : Code := match c11_16 with
  | .seq _ x => x
  | _ => .skip
theorem cd_c11_16 : c11_16 = .seq c11_18 c11_19 := by kernel_rfl
noncomputable def r11_18 : Array Oper := regAt [1, 1, 0, 1, 1, 0, 0, 0] body11
theorem cd_c11_18 : c11_18 = .region 4 r11_18 false := by kernel_rfl
theorem cd_c11_19 : c11_19 = .cond (.tmp 20) .skip (.exit 0) := by kernel_rfl
noncomputable def c11_21 : Code := match c11_17 with
  | .seq x _ => x
  | _ => .skip
noncomputable def c11_22 : Code := match c11_17 with
  | .seq _ x => x
  | _ => .skip
theorem cd_c11_17 : c11_17 = .seq c11_21 c11_22 := by kernel_rfl
noncomputable def c11_23 : Code := match c11_21 with
  | .block _ x => x
  | _ => .skip
theorem cd_c11_21 : c11_21 = .block 1 c11_23 := by kernel_rfl
noncomputable def c11_24 : Code := match c11_23 with
  | .seq x _ => x
  | _ => .skip
noncomputable def c11_25 : Code := match c11_23 with
  | .seq _ x => x
  | _ => .skip
theorem cd_c11_23 : c11_23 = .seq c11_24 c11_25 := by kernel_rfl
noncomputable def r11_24 : Array Oper := regAt [1, 1, 0, 1, 1, 0, 1, 0, 1, 0] body11
theorem cd_c11_24 : c11_24 = .region 6 r11_24 false := by kernel_rfl
noncomputable def c11_26 : Code := match c11_25 with
  | .cond _ x _ => x
  | _ => .skip
theorem cd_c11_25 : c11_25 = .cond (.tmp 28) c11_26 .skip := by kernel_rfl
noncomputable def c11_28 : Code := match c11_26 with
  | .seq x _ => x
  | _ => .skip
theorem cd_c11_26 : c11_26 = .seq c11_28 .ret := by kernel_rfl
noncomputable def r11_28 : Array Oper := regAt [1, 1, 0, 1, 1, 0, 1, 0, 1, 1, 1, 0] body11
theorem cd_c11_28 : c11_28 = .region 7 r11_28 false := by kernel_rfl
noncomputable def r11_22 : Array Oper := regAt [1, 1, 0, 1, 1, 0, 1, 1] body11
theorem cd_c11_22 : c11_22 = .region 5 r11_22 false := by kernel_rfl
noncomputable def c11_29 : Code := match c11_11 with
  | .seq x _ => x
  | _ => .skip
noncomputable def c11_30 : Code := match c11_11 with
  | .seq _ x => x
  | _ => .skip
theorem cd_c11_11 : c11_11 = .seq c11_29 c11_30 := by kernel_rfl
noncomputable def r11_29 : Array Oper := regAt [1, 1, 1, 0] body11
theorem cd_c11_29 : c11_29 = .region 8 r11_29 false := by kernel_rfl
noncomputable def c11_31 : Code := match c11_30 with
  | .seq x _ => x
  | _ => .skip
noncomputable def c11_32 : Code := match c11_30 with
  | .seq _ x => x
  | _ => .skip
theorem cd_c11_30 : c11_30 = .seq c11_31 c11_32 := by kernel_rfl
noncomputable def c11_33 : Code := match c11_31 with
  | .seq x _ => x
  | _ => .skip
noncomputable def c11_34 : Code := match c11_31 with
  | .seq _ x => x
  | _ => .skip
theorem cd_c11_31 : c11_31 = .seq c11_33 c11_34 := by kernel_rfl
noncomputable def r11_33 : Array Oper := regAt [1, 1, 1, 1, 0, 0] body11
theorem cd_c11_33 : c11_33 = .region 9 r11_33 false := by kernel_rfl
noncomputable def c11_35 : Code := match c11_34 with
  | .block _ x => x
  | _ => .skip
theorem cd_c11_34 : c11_34 = .block 2 c11_35 := by kernel_rfl
noncomputable def c11_36 : Code := match c11_35 with
  | .loop x => x
  | _ => .skip
theorem cd_c11_35 : c11_35 = .loop c11_36 := by kernel_rfl
noncomputable def c11_37 : Code := match c11_36 with
  | .seq x _ => x
  | _ => .skip
noncomputable def c11_38 : Code := match c11_36 with
  | .seq _ x => x
  | _ => .skip
theorem cd_c11_36 : c11_36 = .seq c11_37 c11_38 := by kernel_rfl
noncomputable def c11_39 : Code := match c11_37 with
  | .seq x _ => x
  | _ => .skip
noncomputable def c11_40 : Code := match c11_37 with
  | .seq _ x => x
  | _ => .skip
theorem cd_c11_37 : c11_37 = .seq c11_39 c11_40 := by kernel_rfl
noncomputable def r11_39 : Array Oper := regAt [1, 1, 1, 1, 0, 1, 1, 0, 0, 0] body11
theorem cd_c11_39 : c11_39 = .region 10 r11_39 false := by kernel_rfl
theorem cd_c11_40 : c11_40 = .cond (.tmp 35) .skip (.exit 2) := by kernel_rfl
noncomputable def c11_42 : Code := match c11_38 with
  | .seq x _ => x
  | _ => .skip
noncomputable def c11_43 : Code := match c11_38 with
  | .seq _ x => x
  | _ => .skip
theorem cd_c11_38 : c11_38 = .seq c11_42 c11_43 := by kernel_rfl
noncomputable def c11_44 : Code := match c11_42 with
  | .block _ x => x
  | _ => .skip
theorem cd_c11_42 : c11_42 = .block 3 c11_44 := by kernel_rfl
noncomputable def r11_44 : Array Oper := regAt [1, 1, 1, 1, 0, 1, 1, 0, 1, 0, 1] body11
theorem cd_c11_44 : c11_44 = .region 12 r11_44 false := by kernel_rfl
noncomputable def r11_43 : Array Oper := regAt [1, 1, 1, 1, 0, 1, 1, 0, 1, 1] body11
theorem cd_c11_43 : c11_43 = .region 11 r11_43 false := by kernel_rfl
noncomputable def c11_45 : Code := match c11_32 with
  | .seq x _ => x
  | _ => .skip
noncomputable def c11_46 : Code := match c11_32 with
  | .seq _ x => x
  | _ => .skip
theorem cd_c11_32 : c11_32 = .seq c11_45 c11_46 := by kernel_rfl
noncomputable def r11_45 : Array Oper := regAt [1, 1, 1, 1, 1, 0] body11
theorem cd_c11_45 : c11_45 = .region 13 r11_45 false := by kernel_rfl
noncomputable def c11_47 : Code := match c11_46 with
  | .seq x _ => x
  | _ => .skip
noncomputable def c11_48 : Code := match c11_46 with
  | .seq _ x => x
  | _ => .skip
theorem cd_c11_46 : c11_46 = .seq c11_47 c11_48 := by kernel_rfl
noncomputable def c11_49 : Code := match c11_47 with
  | .seq x _ => x
  | _ => .skip
noncomputable def c11_50 : Code := match c11_47 with
  | .seq _ x => x
  | _ => .skip
theorem cd_c11_47 : c11_47 = .seq c11_49 c11_50 := by kernel_rfl
noncomputable def r11_49 : Array Oper := regAt [1, 1, 1, 1, 1, 1, 0, 0] body11
theorem cd_c11_49 : c11_49 = .region 14 r11_49 false := by kernel_rfl
noncomputable def c11_51 : Code := match c11_50 with
  | .block _ x => x
  | _ => .skip
theorem cd_c11_50 : c11_50 = .block 4 c11_51 := by kernel_rfl
noncomputable def c11_52 : Code := match c11_51 with
  | .loop x => x
  | _ => .skip
theorem cd_c11_51 : c11_51 = .loop c11_52 := by kernel_rfl
noncomputable def c11_53 : Code := match c11_52 with
  | .seq x _ => x
  | _ => .skip
noncomputable def c11_54 : Code := match c11_52 with
  | .seq _ x => x
  | _ => .skip
theorem cd_c11_52 : c11_52 = .seq c11_53 c11_54 := by kernel_rfl
noncomputable def c11_55 : Code := match c11_53 with
  | .seq x _ => x
  | _ => .skip
noncomputable def c11_56 : Code := match c11_53 with
  | .seq _ x => x
  | _ => .skip
theorem cd_c11_53 : c11_53 = .seq c11_55 c11_56 := by kernel_rfl
noncomputable def r11_55 : Array Oper := regAt [1, 1, 1, 1, 1, 1, 0, 1, 1, 0, 0, 0] body11
theorem cd_c11_55 : c11_55 = .region 15 r11_55 false := by kernel_rfl
theorem cd_c11_56 : c11_56 = .cond (.tmp 47) .skip (.exit 4) := by kernel_rfl
noncomputable def c11_58 : Code := match c11_54 with
  | .seq x _ => x
  | _ => .skip
noncomputable def c11_59 : Code := match c11_54 with
  | .seq _ x => x
  | _ => .skip
theorem cd_c11_54 : c11_54 = .seq c11_58 c11_59 := by kernel_rfl
noncomputable def c11_60 : Code := match c11_58 with
  | .block _ x => x
  | _ => .skip
theorem cd_c11_58 : c11_58 = .block 5 c11_60 := by kernel_rfl
noncomputable def c11_61 : Code := match c11_60 with
  | .seq x _ => x
  | _ => .skip
noncomputable def c11_62 : Code := match c11_60 with
  | .seq _ x => x
  | _ => .skip
theorem cd_c11_60 : c11_60 = .seq c11_61 c11_62 := by kernel_rfl
noncomputable def r11_61 : Array Oper := regAt [1, 1, 1, 1, 1, 1, 0, 1, 1, 0, 1, 0, 1, 0] body11
theorem cd_c11_61 : c11_61 = .region 17 r11_61 false := by kernel_rfl
noncomputable def c11_63 : Code := match c11_62 with
  | .seq x _ => x
  | _ => .skip
noncomputable def c11_64 : Code := match c11_62 with
  | .seq _ x => x
  | _ => .skip
theorem cd_c11_62 : c11_62 = .seq c11_63 c11_64 := by kernel_rfl
noncomputable def r11_63 : Array Oper := regAt [1, 1, 1, 1, 1, 1, 0, 1, 1, 0, 1, 0, 1, 1, 0] body11
theorem cd_c11_63 : c11_63 = .region 18 r11_63 true := by kernel_rfl
noncomputable def c11_65 : Code := match c11_64 with
  | .cond _ x _ => x
  | _ => .skip
theorem cd_c11_64 : c11_64 = .cond (.tmp 69) c11_65 .skip := by kernel_rfl
noncomputable def r11_65 : Array Oper := regAt [1, 1, 1, 1, 1, 1, 0, 1, 1, 0, 1, 0, 1, 1, 1, 1] body11
theorem cd_c11_65 : c11_65 = .region 19 r11_65 false := by kernel_rfl
noncomputable def r11_59 : Array Oper := regAt [1, 1, 1, 1, 1, 1, 0, 1, 1, 0, 1, 1] body11
theorem cd_c11_59 : c11_59 = .region 16 r11_59 false := by kernel_rfl
noncomputable def c11_67 : Code := match c11_48 with
  | .seq x _ => x
  | _ => .skip
theorem cd_c11_48 : c11_48 = .seq c11_67 .ret := by kernel_rfl
noncomputable def r11_67 : Array Oper := regAt [1, 1, 1, 1, 1, 1, 1, 0] body11
theorem cd_c11_67 : c11_67 = .region 20 r11_67 false := by kernel_rfl
noncomputable def body12 : Code := match Try.f12.body with
  | some c => c
  | none => .skip
noncomputable def c12_1 : Code := match code12 with
  | .seq x _ => x
  | _ => .skip
noncomputable def c12_2 : Code := match code12 with
  | .seq _ x => x
  | _ => .skip
theorem cd_code12 : code12 = .seq c12_1 c12_2 := by kernel_rfl
noncomputable def r12_1 : Array Oper := regAt [0] body12
theorem cd_c12_1 : c12_1 = .region 0 r12_1 false := by kernel_rfl
noncomputable def c12_3 : Code := match c12_2 with
  | .seq x _ => x
  | _ => .skip
noncomputable def c12_4 : Code := match c12_2 with
  | .seq _ x => x
  | _ => .skip
theorem cd_c12_2 : c12_2 = .seq c12_3 c12_4 := by kernel_rfl
noncomputable def c12_5 : Code := match c12_3 with
  | .seq x _ => x
  | _ => .skip
noncomputable def c12_6 : Code := match c12_3 with
  | .seq _ x => x
  | _ => .skip
theorem cd_c12_3 : c12_3 = .seq c12_5 c12_6 := by kernel_rfl
noncomputable def r12_5 : Array Oper := regAt [1, 0, 0] body12
theorem cd_c12_5 : c12_5 = .region 1 r12_5 false := by kernel_rfl
noncomputable def c12_7 : Code := match c12_6 with
  | .cond _ x _ => x
  | _ => .skip
theorem cd_c12_6 : c12_6 = .cond (.tmp 10) c12_7 .skip := by kernel_rfl
noncomputable def c12_9 : Code := match c12_7 with
  | .seq x _ => x
  | _ => .skip
theorem cd_c12_7 : c12_7 = .seq c12_9 .ret := by kernel_rfl
noncomputable def r12_9 : Array Oper := regAt [1, 0, 1, 1, 0] body12
theorem cd_c12_9 : c12_9 = .region 2 r12_9 false := by kernel_rfl
noncomputable def c12_10 : Code := match c12_4 with
  | .seq x _ => x
  | _ => .skip
noncomputable def c12_11 : Code := match c12_4 with
  | .seq _ x => x
  | _ => .skip
theorem cd_c12_4 : c12_4 = .seq c12_10 c12_11 := by kernel_rfl
noncomputable def c12_12 : Code := match c12_10 with
  | .seq x _ => x
  | _ => .skip
noncomputable def c12_13 : Code := match c12_10 with
  | .seq _ x => x
  | _ => .skip
theorem cd_c12_10 : c12_10 = .seq c12_12 c12_13 := by kernel_rfl
noncomputable def r12_12 : Array Oper := regAt [1, 1, 0, 0] body12
theorem cd_c12_12 : c12_12 = .region 3 r12_12 false := by kernel_rfl
noncomputable def c12_14 : Code := match c12_13 with
  | .block _ x => x
  | _ => .skip
theorem cd_c12_13 : c12_13 = .block 0 c12_14 := by kernel_rfl
noncomputable def c12_15 : Code := match c12_14 with
  | .loop x => x
  | _ => .skip
theorem cd_c12_14 : c12_14 = .loop c12_15 := by kernel_rfl
noncomputable def c12_16 : Code := match c12_15 with
  | .seq x _ => x
  | _ => .skip
noncomputable def c12_17 : Code := match c12_15 with
  | .seq _ x => x
  | _ => .skip
theorem cd_c12_15 : c12_15 = .seq c12_16 c12_17 := by kernel_rfl
noncomputable def c12_18 : Code := match c12_16 with
  | .seq x _ => x
  | _ => .skip
noncomputable def c12_19 : Code := match c12_16 with
  | .seq _ x => x
  | _ => .skip
theorem cd_c12_16 : c12_16 = .seq c12_18 c12_19 := by kernel_rfl
noncomputable def r12_18 : Array Oper := regAt [1, 1, 0, 1, 1, 0, 0, 0] body12
theorem cd_c12_18 : c12_18 = .region 4 r12_18 false := by kernel_rfl
theorem cd_c12_19 : c12_19 = .cond (.tmp 14) .skip (.exit 0) := by kernel_rfl
noncomputable def c12_21 : Code := match c12_17 with
  | .seq x _ => x
  | _ => .skip
noncomputable def c12_22 : Code := match c12_17 with
  | .seq _ x => x
  | _ => .skip
theorem cd_c12_17 : c12_17 = .seq c12_21 c12_22 := by kernel_rfl
noncomputable def c12_23 : Code := match c12_21 with
  | .block _ x => x
  | _ => .skip
theorem cd_c12_21 : c12_21 = .block 1 c12_23 := by kernel_rfl
noncomputable def c12_24 : Code := match c12_23 with
  | .seq x _ => x
  | _ => .skip
noncomputable def c12_25 : Code := match c12_23 with
  | .seq _ x => x
  | _ => .skip
theorem cd_c12_23 : c12_23 = .seq c12_24 c12_25 := by kernel_rfl
noncomputable def r12_24 : Array Oper := regAt [1, 1, 0, 1, 1, 0, 1, 0, 1, 0] body12
theorem cd_c12_24 : c12_24 = .region 6 r12_24 true := by kernel_rfl
noncomputable def c12_26 : Code := match c12_25 with
  | .cond _ x _ => x
  | _ => .skip
theorem cd_c12_25 : c12_25 = .cond (.tmp 25) c12_26 .skip := by kernel_rfl
noncomputable def c12_28 : Code := match c12_26 with
  | .seq x _ => x
  | _ => .skip
theorem cd_c12_26 : c12_26 = .seq c12_28 .ret := by kernel_rfl
noncomputable def r12_28 : Array Oper := regAt [1, 1, 0, 1, 1, 0, 1, 0, 1, 1, 1, 0] body12
theorem cd_c12_28 : c12_28 = .region 7 r12_28 false := by kernel_rfl
noncomputable def r12_22 : Array Oper := regAt [1, 1, 0, 1, 1, 0, 1, 1] body12
theorem cd_c12_22 : c12_22 = .region 5 r12_22 false := by kernel_rfl
noncomputable def c12_29 : Code := match c12_11 with
  | .seq x _ => x
  | _ => .skip
theorem cd_c12_11 : c12_11 = .seq c12_29 .ret := by kernel_rfl
noncomputable def r12_29 : Array Oper := regAt [1, 1, 1, 0] body12
theorem cd_c12_29 : c12_29 = .region 8 r12_29 false := by kernel_rfl
noncomputable def body18 : Code := match Try.f18.body with
  | some c => c
  | none => .skip
noncomputable def c18_1 : Code := match code18 with
  | .seq x _ => x
  | _ => .skip
noncomputable def c18_2 : Code := match code18 with
  | .seq _ x => x
  | _ => .skip
theorem cd_code18 : code18 = .seq c18_1 c18_2 := by kernel_rfl
noncomputable def r18_1 : Array Oper := regAt [0] body18
theorem cd_c18_1 : c18_1 = .region 0 r18_1 false := by kernel_rfl
noncomputable def c18_3 : Code := match c18_2 with
  | .seq x _ => x
  | _ => .skip
noncomputable def c18_4 : Code := match c18_2 with
  | .seq _ x => x
  | _ => .skip
theorem cd_c18_2 : c18_2 = .seq c18_3 c18_4 := by kernel_rfl
noncomputable def r18_3 : Array Oper := regAt [1, 0] body18
theorem cd_c18_3 : c18_3 = .region 1 r18_3 false := by kernel_rfl
noncomputable def c18_5 : Code := match c18_4 with
  | .seq x _ => x
  | _ => .skip
noncomputable def c18_6 : Code := match c18_4 with
  | .seq _ x => x
  | _ => .skip
theorem cd_c18_4 : c18_4 = .seq c18_5 c18_6 := by kernel_rfl
noncomputable def c18_7 : Code := match c18_5 with
  | .seq x _ => x
  | _ => .skip
noncomputable def c18_8 : Code := match c18_5 with
  | .seq _ x => x
  | _ => .skip
theorem cd_c18_5 : c18_5 = .seq c18_7 c18_8 := by kernel_rfl
noncomputable def r18_7 : Array Oper := regAt [1, 1, 0, 0] body18
theorem cd_c18_7 : c18_7 = .region 2 r18_7 false := by kernel_rfl
noncomputable def c18_9 : Code := match c18_8 with
  | .block _ x => x
  | _ => .skip
theorem cd_c18_8 : c18_8 = .block 0 c18_9 := by kernel_rfl
noncomputable def c18_10 : Code := match c18_9 with
  | .loop x => x
  | _ => .skip
theorem cd_c18_9 : c18_9 = .loop c18_10 := by kernel_rfl
noncomputable def c18_11 : Code := match c18_10 with
  | .seq x _ => x
  | _ => .skip
noncomputable def c18_12 : Code := match c18_10 with
  | .seq _ x => x
  | _ => .skip
theorem cd_c18_10 : c18_10 = .seq c18_11 c18_12 := by kernel_rfl
noncomputable def c18_13 : Code := match c18_11 with
  | .seq x _ => x
  | _ => .skip
noncomputable def c18_14 : Code := match c18_11 with
  | .seq _ x => x
  | _ => .skip
theorem cd_c18_11 : c18_11 = .seq c18_13 c18_14 := by kernel_rfl
noncomputable def r18_13 : Array Oper := regAt [1, 1, 0, 1, 1, 0, 0, 0] body18
theorem cd_c18_13 : c18_13 = .region 3 r18_13 false := by kernel_rfl
theorem cd_c18_14 : c18_14 = .cond (.tmp 18) .skip (.exit 0) := by kernel_rfl
noncomputable def c18_16 : Code := match c18_12 with
  | .seq x _ => x
  | _ => .skip
noncomputable def c18_17 : Code := match c18_12 with
  | .seq _ x => x
  | _ => .skip
theorem cd_c18_12 : c18_12 = .seq c18_16 c18_17 := by kernel_rfl
noncomputable def c18_18 : Code := match c18_16 with
  | .block _ x => x
  | _ => .skip
theorem cd_c18_16 : c18_16 = .block 1 c18_18 := by kernel_rfl
noncomputable def r18_18 : Array Oper := regAt [1, 1, 0, 1, 1, 0, 1, 0, 1] body18
theorem cd_c18_18 : c18_18 = .region 5 r18_18 true := by kernel_rfl
noncomputable def r18_17 : Array Oper := regAt [1, 1, 0, 1, 1, 0, 1, 1] body18
theorem cd_c18_17 : c18_17 = .region 4 r18_17 false := by kernel_rfl
noncomputable def c18_19 : Code := match c18_6 with
  | .seq x _ => x
  | _ => .skip
theorem cd_c18_6 : c18_6 = .seq c18_19 .ret := by kernel_rfl
noncomputable def r18_19 : Array Oper := regAt [1, 1, 1, 0] body18
theorem cd_c18_19 : c18_19 = .region 6 r18_19 false := by kernel_rfl
noncomputable def body23 : Code := match Try.f23.body with
  | some c => c
  | none => .skip
noncomputable def c23_1 : Code := match code23 with
  | .seq x _ => x
  | _ => .skip
noncomputable def c23_2 : Code := match code23 with
  | .seq _ x => x
  | _ => .skip
theorem cd_code23 : code23 = .seq c23_1 c23_2 := by kernel_rfl
noncomputable def r23_1 : Array Oper := regAt [0] body23
theorem cd_c23_1 : c23_1 = .region 0 r23_1 false := by kernel_rfl
noncomputable def c23_3 : Code := match c23_2 with
  | .seq x _ => x
  | _ => .skip
noncomputable def c23_4 : Code := match c23_2 with
  | .seq _ x => x
  | _ => .skip
theorem cd_c23_2 : c23_2 = .seq c23_3 c23_4 := by kernel_rfl
noncomputable def c23_5 : Code := match c23_3 with
  | .seq x _ => x
  | _ => .skip
noncomputable def c23_6 : Code := match c23_3 with
  | .seq _ x => x
  | _ => .skip
theorem cd_c23_3 : c23_3 = .seq c23_5 c23_6 := by kernel_rfl
noncomputable def r23_5 : Array Oper := regAt [1, 0, 0] body23
theorem cd_c23_5 : c23_5 = .region 1 r23_5 false := by kernel_rfl
noncomputable def c23_7 : Code := match c23_6 with
  | .cond _ x _ => x
  | _ => .skip
theorem cd_c23_6 : c23_6 = .cond (.tmp 10) c23_7 .skip := by kernel_rfl
noncomputable def c23_9 : Code := match c23_7 with
  | .seq x _ => x
  | _ => .skip
theorem cd_c23_7 : c23_7 = .seq c23_9 .ret := by kernel_rfl
noncomputable def r23_9 : Array Oper := regAt [1, 0, 1, 1, 0] body23
theorem cd_c23_9 : c23_9 = .region 2 r23_9 false := by kernel_rfl
noncomputable def c23_10 : Code := match c23_4 with
  | .seq x _ => x
  | _ => .skip
noncomputable def c23_11 : Code := match c23_4 with
  | .seq _ x => x
  | _ => .skip
theorem cd_c23_4 : c23_4 = .seq c23_10 c23_11 := by kernel_rfl
noncomputable def r23_10 : Array Oper := regAt [1, 1, 0] body23
theorem cd_c23_10 : c23_10 = .region 3 r23_10 false := by kernel_rfl
noncomputable def c23_12 : Code := match c23_11 with
  | .seq x _ => x
  | _ => .skip
noncomputable def c23_13 : Code := match c23_11 with
  | .seq _ x => x
  | _ => .skip
theorem cd_c23_11 : c23_11 = .seq c23_12 c23_13 := by kernel_rfl
noncomputable def c23_14 : Code := match c23_12 with
  | .seq x _ => x
  | _ => .skip
noncomputable def c23_15 : Code := match c23_12 with
  | .seq _ x => x
  | _ => .skip
theorem cd_c23_12 : c23_12 = .seq c23_14 c23_15 := by kernel_rfl
noncomputable def r23_14 : Array Oper := regAt [1, 1, 1, 0, 0] body23
theorem cd_c23_14 : c23_14 = .region 4 r23_14 false := by kernel_rfl
noncomputable def c23_16 : Code := match c23_15 with
  | .cond _ x _ => x
  | _ => .skip
theorem cd_c23_15 : c23_15 = .cond (.tmp 19) c23_16 .skip := by kernel_rfl
noncomputable def c23_18 : Code := match c23_16 with
  | .seq x _ => x
  | _ => .skip
theorem cd_c23_16 : c23_16 = .seq c23_18 .ret := by kernel_rfl
noncomputable def r23_18 : Array Oper := regAt [1, 1, 1, 0, 1, 1, 0] body23
theorem cd_c23_18 : c23_18 = .region 5 r23_18 false := by kernel_rfl
noncomputable def c23_19 : Code := match c23_13 with
  | .seq x _ => x
  | _ => .skip
theorem cd_c23_13 : c23_13 = .seq c23_19 .ret := by kernel_rfl
noncomputable def r23_19 : Array Oper := regAt [1, 1, 1, 1, 0] body23
theorem cd_c23_19 : c23_19 = .region 6 r23_19 false := by kernel_rfl
noncomputable def body24 : Code := match Try.f24.body with
  | some c => c
  | none => .skip
noncomputable def c24_1 : Code := match code24 with
  | .seq x _ => x
  | _ => .skip
noncomputable def c24_2 : Code := match code24 with
  | .seq _ x => x
  | _ => .skip
theorem cd_code24 : code24 = .seq c24_1 c24_2 := by kernel_rfl
noncomputable def r24_1 : Array Oper := regAt [0] body24
theorem cd_c24_1 : c24_1 = .region 0 r24_1 false := by kernel_rfl
noncomputable def c24_3 : Code := match c24_2 with
  | .seq x _ => x
  | _ => .skip
noncomputable def c24_4 : Code := match c24_2 with
  | .seq _ x => x
  | _ => .skip
theorem cd_c24_2 : c24_2 = .seq c24_3 c24_4 := by kernel_rfl
noncomputable def r24_3 : Array Oper := regAt [1, 0] body24
theorem cd_c24_3 : c24_3 = .region 1 r24_3 false := by kernel_rfl
noncomputable def c24_5 : Code := match c24_4 with
  | .seq x _ => x
  | _ => .skip
noncomputable def c24_6 : Code := match c24_4 with
  | .seq _ x => x
  | _ => .skip
theorem cd_c24_4 : c24_4 = .seq c24_5 c24_6 := by kernel_rfl
noncomputable def c24_7 : Code := match c24_5 with
  | .seq x _ => x
  | _ => .skip
noncomputable def c24_8 : Code := match c24_5 with
  | .seq _ x => x
  | _ => .skip
theorem cd_c24_5 : c24_5 = .seq c24_7 c24_8 := by kernel_rfl
noncomputable def r24_7 : Array Oper := regAt [1, 1, 0, 0] body24
theorem cd_c24_7 : c24_7 = .region 2 r24_7 false := by kernel_rfl
noncomputable def c24_9 : Code := match c24_8 with
  | .block _ x => x
  | _ => .skip
theorem cd_c24_8 : c24_8 = .block 0 c24_9 := by kernel_rfl
noncomputable def c24_10 : Code := match c24_9 with
  | .loop x => x
  | _ => .skip
theorem cd_c24_9 : c24_9 = .loop c24_10 := by kernel_rfl
noncomputable def c24_11 : Code := match c24_10 with
  | .seq x _ => x
  | _ => .skip
noncomputable def c24_12 : Code := match c24_10 with
  | .seq _ x => x
  | _ => .skip
theorem cd_c24_10 : c24_10 = .seq c24_11 c24_12 := by kernel_rfl
noncomputable def c24_13 : Code := match c24_11 with
  | .seq x _ => x
  | _ => .skip
noncomputable def c24_14 : Code := match c24_11 with
  | .seq _ x => x
  | _ => .skip
theorem cd_c24_11 : c24_11 = .seq c24_13 c24_14 := by kernel_rfl
noncomputable def r24_13 : Array Oper := regAt [1, 1, 0, 1, 1, 0, 0, 0] body24
theorem cd_c24_13 : c24_13 = .region 3 r24_13 false := by kernel_rfl
theorem cd_c24_14 : c24_14 = .cond (.tmp 13) .skip (.exit 0) := by kernel_rfl
noncomputable def c24_16 : Code := match c24_12 with
  | .seq x _ => x
  | _ => .skip
noncomputable def c24_17 : Code := match c24_12 with
  | .seq _ x => x
  | _ => .skip
theorem cd_c24_12 : c24_12 = .seq c24_16 c24_17 := by kernel_rfl
noncomputable def c24_18 : Code := match c24_16 with
  | .block _ x => x
  | _ => .skip
theorem cd_c24_16 : c24_16 = .block 1 c24_18 := by kernel_rfl
noncomputable def c24_19 : Code := match c24_18 with
  | .seq x _ => x
  | _ => .skip
noncomputable def c24_20 : Code := match c24_18 with
  | .seq _ x => x
  | _ => .skip
theorem cd_c24_18 : c24_18 = .seq c24_19 c24_20 := by kernel_rfl
noncomputable def r24_19 : Array Oper := regAt [1, 1, 0, 1, 1, 0, 1, 0, 1, 0] body24
theorem cd_c24_19 : c24_19 = .region 5 r24_19 false := by kernel_rfl
noncomputable def c24_21 : Code := match c24_20 with
  | .cond _ x _ => x
  | _ => .skip
theorem cd_c24_20 : c24_20 = .cond (.tmp 20) c24_21 .skip := by kernel_rfl
noncomputable def r24_21 : Array Oper := regAt [1, 1, 0, 1, 1, 0, 1, 0, 1, 1, 1] body24
theorem cd_c24_21 : c24_21 = .region 6 r24_21 false := by kernel_rfl
noncomputable def r24_17 : Array Oper := regAt [1, 1, 0, 1, 1, 0, 1, 1] body24
theorem cd_c24_17 : c24_17 = .region 4 r24_17 false := by kernel_rfl
noncomputable def c24_23 : Code := match c24_6 with
  | .seq x _ => x
  | _ => .skip
theorem cd_c24_6 : c24_6 = .seq c24_23 .ret := by kernel_rfl
noncomputable def r24_23 : Array Oper := regAt [1, 1, 1, 0] body24
theorem cd_c24_23 : c24_23 = .region 7 r24_23 false := by kernel_rfl
noncomputable def body25 : Code := match Try.f25.body with
  | some c => c
  | none => .skip
noncomputable def c25_1 : Code := match code25 with
  | .seq x _ => x
  | _ => .skip
noncomputable def c25_2 : Code := match code25 with
  | .seq _ x => x
  | _ => .skip
theorem cd_code25 : code25 = .seq c25_1 c25_2 := by kernel_rfl
noncomputable def r25_1 : Array Oper := regAt [0] body25
theorem cd_c25_1 : c25_1 = .region 0 r25_1 false := by kernel_rfl
noncomputable def c25_3 : Code := match c25_2 with
  | .seq x _ => x
  | _ => .skip
noncomputable def c25_4 : Code := match c25_2 with
  | .seq _ x => x
  | _ => .skip
theorem cd_c25_2 : c25_2 = .seq c25_3 c25_4 := by kernel_rfl
noncomputable def r25_3 : Array Oper := regAt [1, 0] body25
theorem cd_c25_3 : c25_3 = .region 1 r25_3 false := by kernel_rfl
noncomputable def c25_5 : Code := match c25_4 with
  | .seq x _ => x
  | _ => .skip
noncomputable def c25_6 : Code := match c25_4 with
  | .seq _ x => x
  | _ => .skip
theorem cd_c25_4 : c25_4 = .seq c25_5 c25_6 := by kernel_rfl
noncomputable def c25_7 : Code := match c25_5 with
  | .seq x _ => x
  | _ => .skip
noncomputable def c25_8 : Code := match c25_5 with
  | .seq _ x => x
  | _ => .skip
theorem cd_c25_5 : c25_5 = .seq c25_7 c25_8 := by kernel_rfl
noncomputable def r25_7 : Array Oper := regAt [1, 1, 0, 0] body25
theorem cd_c25_7 : c25_7 = .region 2 r25_7 false := by kernel_rfl
noncomputable def c25_9 : Code := match c25_8 with
  | .block _ x => x
  | _ => .skip
theorem cd_c25_8 : c25_8 = .block 0 c25_9 := by kernel_rfl
noncomputable def c25_10 : Code := match c25_9 with
  | .loop x => x
  | _ => .skip
theorem cd_c25_9 : c25_9 = .loop c25_10 := by kernel_rfl
noncomputable def c25_11 : Code := match c25_10 with
  | .seq x _ => x
  | _ => .skip
noncomputable def c25_12 : Code := match c25_10 with
  | .seq _ x => x
  | _ => .skip
theorem cd_c25_10 : c25_10 = .seq c25_11 c25_12 := by kernel_rfl
noncomputable def c25_13 : Code := match c25_11 with
  | .seq x _ => x
  | _ => .skip
noncomputable def c25_14 : Code := match c25_11 with
  | .seq _ x => x
  | _ => .skip
theorem cd_c25_11 : c25_11 = .seq c25_13 c25_14 := by kernel_rfl
noncomputable def r25_13 : Array Oper := regAt [1, 1, 0, 1, 1, 0, 0, 0] body25
theorem cd_c25_13 : c25_13 = .region 3 r25_13 false := by kernel_rfl
theorem cd_c25_14 : c25_14 = .cond (.tmp 13) .skip (.exit 0) := by kernel_rfl
noncomputable def c25_16 : Code := match c25_12 with
  | .seq x _ => x
  | _ => .skip
noncomputable def c25_17 : Code := match c25_12 with
  | .seq _ x => x
  | _ => .skip
theorem cd_c25_12 : c25_12 = .seq c25_16 c25_17 := by kernel_rfl
noncomputable def c25_18 : Code := match c25_16 with
  | .block _ x => x
  | _ => .skip
theorem cd_c25_16 : c25_16 = .block 1 c25_18 := by kernel_rfl
noncomputable def c25_19 : Code := match c25_18 with
  | .seq x _ => x
  | _ => .skip
noncomputable def c25_20 : Code := match c25_18 with
  | .seq _ x => x
  | _ => .skip
theorem cd_c25_18 : c25_18 = .seq c25_19 c25_20 := by kernel_rfl
noncomputable def r25_19 : Array Oper := regAt [1, 1, 0, 1, 1, 0, 1, 0, 1, 0] body25
theorem cd_c25_19 : c25_19 = .region 5 r25_19 false := by kernel_rfl
noncomputable def c25_21 : Code := match c25_20 with
  | .cond _ x _ => x
  | _ => .skip
theorem cd_c25_20 : c25_20 = .cond (.tmp 21) c25_21 .skip := by kernel_rfl
noncomputable def r25_21 : Array Oper := regAt [1, 1, 0, 1, 1, 0, 1, 0, 1, 1, 1] body25
theorem cd_c25_21 : c25_21 = .region 6 r25_21 false := by kernel_rfl
noncomputable def r25_17 : Array Oper := regAt [1, 1, 0, 1, 1, 0, 1, 1] body25
theorem cd_c25_17 : c25_17 = .region 4 r25_17 false := by kernel_rfl
noncomputable def c25_23 : Code := match c25_6 with
  | .seq x _ => x
  | _ => .skip
theorem cd_c25_6 : c25_6 = .seq c25_23 .ret := by kernel_rfl
noncomputable def r25_23 : Array Oper := regAt [1, 1, 1, 0] body25
theorem cd_c25_23 : c25_23 = .region 7 r25_23 false := by kernel_rfl
noncomputable def body26 : Code := match Try.f26.body with
  | some c => c
  | none => .skip
noncomputable def c26_1 : Code := match code26 with
  | .seq x _ => x
  | _ => .skip
noncomputable def c26_2 : Code := match code26 with
  | .seq _ x => x
  | _ => .skip
theorem cd_code26 : code26 = .seq c26_1 c26_2 := by kernel_rfl
noncomputable def r26_1 : Array Oper := regAt [0] body26
theorem cd_c26_1 : c26_1 = .region 0 r26_1 false := by kernel_rfl
noncomputable def c26_3 : Code := match c26_2 with
  | .seq x _ => x
  | _ => .skip
noncomputable def c26_4 : Code := match c26_2 with
  | .seq _ x => x
  | _ => .skip
theorem cd_c26_2 : c26_2 = .seq c26_3 c26_4 := by kernel_rfl
noncomputable def c26_5 : Code := match c26_3 with
  | .seq x _ => x
  | _ => .skip
noncomputable def c26_6 : Code := match c26_3 with
  | .seq _ x => x
  | _ => .skip
theorem cd_c26_3 : c26_3 = .seq c26_5 c26_6 := by kernel_rfl
noncomputable def r26_5 : Array Oper := regAt [1, 0, 0] body26
theorem cd_c26_5 : c26_5 = .region 1 r26_5 false := by kernel_rfl
noncomputable def c26_7 : Code := match c26_6 with
  | .block _ x => x
  | _ => .skip
theorem cd_c26_6 : c26_6 = .block 0 c26_7 := by kernel_rfl
noncomputable def c26_8 : Code := match c26_7 with
  | .loop x => x
  | _ => .skip
theorem cd_c26_7 : c26_7 = .loop c26_8 := by kernel_rfl
noncomputable def c26_9 : Code := match c26_8 with
  | .seq x _ => x
  | _ => .skip
noncomputable def c26_10 : Code := match c26_8 with
  | .seq _ x => x
  | _ => .skip
theorem cd_c26_8 : c26_8 = .seq c26_9 c26_10 := by kernel_rfl
noncomputable def c26_11 : Code := match c26_9 with
  | .seq x _ => x
  | _ => .skip
noncomputable def c26_12 : Code := match c26_9 with
  | .seq _ x => x
  | _ => .skip
theorem cd_c26_9 : c26_9 = .seq c26_11 c26_12 := by kernel_rfl
noncomputable def r26_11 : Array Oper := regAt [1, 0, 1, 1, 0, 0, 0] body26
theorem cd_c26_11 : c26_11 = .region 2 r26_11 false := by kernel_rfl
theorem cd_c26_12 : c26_12 = .cond (.tmp 7) .skip (.exit 0) := by kernel_rfl
noncomputable def c26_14 : Code := match c26_10 with
  | .seq x _ => x
  | _ => .skip
noncomputable def c26_15 : Code := match c26_10 with
  | .seq _ x => x
  | _ => .skip
theorem cd_c26_10 : c26_10 = .seq c26_14 c26_15 := by kernel_rfl
noncomputable def c26_16 : Code := match c26_14 with
  | .block _ x => x
  | _ => .skip
theorem cd_c26_14 : c26_14 = .block 1 c26_16 := by kernel_rfl
noncomputable def c26_17 : Code := match c26_16 with
  | .seq x _ => x
  | _ => .skip
noncomputable def c26_18 : Code := match c26_16 with
  | .seq _ x => x
  | _ => .skip
theorem cd_c26_16 : c26_16 = .seq c26_17 c26_18 := by kernel_rfl
noncomputable def r26_17 : Array Oper := regAt [1, 0, 1, 1, 0, 1, 0, 1, 0] body26
theorem cd_c26_17 : c26_17 = .region 4 r26_17 true := by kernel_rfl
noncomputable def c26_19 : Code := match c26_18 with
  | .cond _ x _ => x
  | _ => .skip
theorem cd_c26_18 : c26_18 = .cond (.tmp 33) c26_19 .skip := by kernel_rfl
noncomputable def c26_21 : Code := match c26_19 with
  | .seq x _ => x
  | _ => .skip
theorem cd_c26_19 : c26_19 = .seq c26_21 .ret := by kernel_rfl
noncomputable def r26_21 : Array Oper := regAt [1, 0, 1, 1, 0, 1, 0, 1, 1, 1, 0] body26
theorem cd_c26_21 : c26_21 = .region 5 r26_21 false := by kernel_rfl
noncomputable def r26_15 : Array Oper := regAt [1, 0, 1, 1, 0, 1, 1] body26
theorem cd_c26_15 : c26_15 = .region 3 r26_15 false := by kernel_rfl
noncomputable def c26_22 : Code := match c26_4 with
  | .seq x _ => x
  | _ => .skip
theorem cd_c26_4 : c26_4 = .seq c26_22 .ret := by kernel_rfl
noncomputable def r26_22 : Array Oper := regAt [1, 1, 0] body26
theorem cd_c26_22 : c26_22 = .region 6 r26_22 false := by kernel_rfl
noncomputable def body28 : Code := match Try.f28.body with
  | some c => c
  | none => .skip
noncomputable def c28_1 : Code := match code28 with
  | .seq x _ => x
  | _ => .skip
noncomputable def c28_2 : Code := match code28 with
  | .seq _ x => x
  | _ => .skip
theorem cd_code28 : code28 = .seq c28_1 c28_2 := by kernel_rfl
noncomputable def r28_1 : Array Oper := regAt [0] body28
theorem cd_c28_1 : c28_1 = .region 0 r28_1 false := by kernel_rfl
noncomputable def c28_3 : Code := match c28_2 with
  | .seq x _ => x
  | _ => .skip
noncomputable def c28_4 : Code := match c28_2 with
  | .seq _ x => x
  | _ => .skip
theorem cd_c28_2 : c28_2 = .seq c28_3 c28_4 := by kernel_rfl
noncomputable def c28_5 : Code := match c28_3 with
  | .seq x _ => x
  | _ => .skip
noncomputable def c28_6 : Code := match c28_3 with
  | .seq _ x => x
  | _ => .skip
theorem cd_c28_3 : c28_3 = .seq c28_5 c28_6 := by kernel_rfl
noncomputable def r28_5 : Array Oper := regAt [1, 0, 0] body28
theorem cd_c28_5 : c28_5 = .region 1 r28_5 false := by kernel_rfl
noncomputable def c28_7 : Code := match c28_6 with
  | .cond _ x _ => x
  | _ => .skip
theorem cd_c28_6 : c28_6 = .cond (.tmp 10) c28_7 .skip := by kernel_rfl
noncomputable def c28_9 : Code := match c28_7 with
  | .seq x _ => x
  | _ => .skip
theorem cd_c28_7 : c28_7 = .seq c28_9 .ret := by kernel_rfl
noncomputable def r28_9 : Array Oper := regAt [1, 0, 1, 1, 0] body28
theorem cd_c28_9 : c28_9 = .region 2 r28_9 false := by kernel_rfl
noncomputable def c28_10 : Code := match c28_4 with
  | .seq x _ => x
  | _ => .skip
noncomputable def c28_11 : Code := match c28_4 with
  | .seq _ x => x
  | _ => .skip
theorem cd_c28_4 : c28_4 = .seq c28_10 c28_11 := by kernel_rfl
noncomputable def c28_12 : Code := match c28_10 with
  | .seq x _ => x
  | _ => .skip
noncomputable def c28_13 : Code := match c28_10 with
  | .seq _ x => x
  | _ => .skip
theorem cd_c28_10 : c28_10 = .seq c28_12 c28_13 := by kernel_rfl
noncomputable def r28_12 : Array Oper := regAt [1, 1, 0, 0] body28
theorem cd_c28_12 : c28_12 = .region 3 r28_12 false := by kernel_rfl
noncomputable def c28_14 : Code := match c28_13 with
  | .block _ x => x
  | _ => .skip
theorem cd_c28_13 : c28_13 = .block 0 c28_14 := by kernel_rfl
noncomputable def c28_15 : Code := match c28_14 with
  | .loop x => x
  | _ => .skip
theorem cd_c28_14 : c28_14 = .loop c28_15 := by kernel_rfl
noncomputable def c28_16 : Code := match c28_15 with
  | .seq x _ => x
  | _ => .skip
noncomputable def c28_17 : Code := match c28_15 with
  | .seq _ x => x
  | _ => .skip
theorem cd_c28_15 : c28_15 = .seq c28_16 c28_17 := by kernel_rfl
noncomputable def c28_18 : Code := match c28_16 with
  | .seq x _ => x
  | _ => .skip
noncomputable def c28_19 : Code := match c28_16 with
  | .seq _ x => x
  | _ => .skip
theorem cd_c28_16 : c28_16 = .seq c28_18 c28_19 := by kernel_rfl
noncomputable def r28_18 : Array Oper := regAt [1, 1, 0, 1, 1, 0, 0, 0] body28
theorem cd_c28_18 : c28_18 = .region 4 r28_18 false := by kernel_rfl
theorem cd_c28_19 : c28_19 = .cond (.tmp 14) .skip (.exit 0) := by kernel_rfl
noncomputable def c28_21 : Code := match c28_17 with
  | .seq x _ => x
  | _ => .skip
noncomputable def c28_22 : Code := match c28_17 with
  | .seq _ x => x
  | _ => .skip
theorem cd_c28_17 : c28_17 = .seq c28_21 c28_22 := by kernel_rfl
noncomputable def c28_23 : Code := match c28_21 with
  | .block _ x => x
  | _ => .skip
theorem cd_c28_21 : c28_21 = .block 1 c28_23 := by kernel_rfl
noncomputable def c28_24 : Code := match c28_23 with
  | .seq x _ => x
  | _ => .skip
noncomputable def c28_25 : Code := match c28_23 with
  | .seq _ x => x
  | _ => .skip
theorem cd_c28_23 : c28_23 = .seq c28_24 c28_25 := by kernel_rfl
noncomputable def r28_24 : Array Oper := regAt [1, 1, 0, 1, 1, 0, 1, 0, 1, 0] body28
theorem cd_c28_24 : c28_24 = .region 6 r28_24 true := by kernel_rfl
noncomputable def c28_26 : Code := match c28_25 with
  | .cond _ x _ => x
  | _ => .skip
theorem cd_c28_25 : c28_25 = .cond (.tmp 25) c28_26 .skip := by kernel_rfl
noncomputable def c28_28 : Code := match c28_26 with
  | .seq x _ => x
  | _ => .skip
theorem cd_c28_26 : c28_26 = .seq c28_28 .ret := by kernel_rfl
noncomputable def r28_28 : Array Oper := regAt [1, 1, 0, 1, 1, 0, 1, 0, 1, 1, 1, 0] body28
theorem cd_c28_28 : c28_28 = .region 7 r28_28 false := by kernel_rfl
noncomputable def r28_22 : Array Oper := regAt [1, 1, 0, 1, 1, 0, 1, 1] body28
theorem cd_c28_22 : c28_22 = .region 5 r28_22 false := by kernel_rfl
noncomputable def c28_29 : Code := match c28_11 with
  | .seq x _ => x
  | _ => .skip
theorem cd_c28_11 : c28_11 = .seq c28_29 .ret := by kernel_rfl
noncomputable def r28_29 : Array Oper := regAt [1, 1, 1, 0] body28
theorem cd_c28_29 : c28_29 = .region 8 r28_29 false := by kernel_rfl
noncomputable def body29 : Code := match Try.f29.body with
  | some c => c
  | none => .skip
noncomputable def c29_1 : Code := match code29 with
  | .seq x _ => x
  | _ => .skip
noncomputable def c29_2 : Code := match code29 with
  | .seq _ x => x
  | _ => .skip
theorem cd_code29 : code29 = .seq c29_1 c29_2 := by kernel_rfl
noncomputable def r29_1 : Array Oper := regAt [0] body29
theorem cd_c29_1 : c29_1 = .region 0 r29_1 false := by kernel_rfl
noncomputable def c29_3 : Code := match c29_2 with
  | .seq x _ => x
  | _ => .skip
noncomputable def c29_4 : Code := match c29_2 with
  | .seq _ x => x
  | _ => .skip
theorem cd_c29_2 : c29_2 = .seq c29_3 c29_4 := by kernel_rfl
noncomputable def r29_3 : Array Oper := regAt [1, 0] body29
theorem cd_c29_3 : c29_3 = .region 1 r29_3 false := by kernel_rfl
noncomputable def c29_5 : Code := match c29_4 with
  | .block _ x => x
  | _ => .skip
theorem cd_c29_4 : c29_4 = .block 0 c29_5 := by kernel_rfl
noncomputable def c29_6 : Code := match c29_5 with
  | .loop x => x
  | _ => .skip
theorem cd_c29_5 : c29_5 = .loop c29_6 := by kernel_rfl
noncomputable def c29_7 : Code := match c29_6 with
  | .seq x _ => x
  | _ => .skip
noncomputable def c29_8 : Code := match c29_6 with
  | .seq _ x => x
  | _ => .skip
theorem cd_c29_6 : c29_6 = .seq c29_7 c29_8 := by kernel_rfl
noncomputable def c29_9 : Code := match c29_7 with
  | .seq x _ => x
  | _ => .skip
noncomputable def c29_10 : Code := match c29_7 with
  | .seq _ x => x
  | _ => .skip
theorem cd_c29_7 : c29_7 = .seq c29_9 c29_10 := by kernel_rfl
noncomputable def r29_9 : Array Oper := regAt [1, 1, 1, 0, 0, 0] body29
theorem cd_c29_9 : c29_9 = .region 2 r29_9 false := by kernel_rfl
theorem cd_c29_10 : c29_10 = .cond (.tmp 10) .skip (.exit 0) := by kernel_rfl
noncomputable def c29_12 : Code := match c29_8 with
  | .seq x _ => x
  | _ => .skip
noncomputable def c29_13 : Code := match c29_8 with
  | .seq _ x => x
  | _ => .skip
theorem cd_c29_8 : c29_8 = .seq c29_12 c29_13 := by kernel_rfl
noncomputable def c29_14 : Code := match c29_12 with
  | .block _ x => x
  | _ => .skip
theorem cd_c29_12 : c29_12 = .block 1 c29_14 := by kernel_rfl
noncomputable def r29_14 : Array Oper := regAt [1, 1, 1, 0, 1, 0, 1] body29
theorem cd_c29_14 : c29_14 = .region 4 r29_14 false := by kernel_rfl
noncomputable def r29_13 : Array Oper := regAt [1, 1, 1, 0, 1, 1] body29
theorem cd_c29_13 : c29_13 = .region 3 r29_13 false := by kernel_rfl
noncomputable def body40 : Code := match Try.f40.body with
  | some c => c
  | none => .skip
noncomputable def c40_1 : Code := match code40 with
  | .seq x _ => x
  | _ => .skip
noncomputable def c40_2 : Code := match code40 with
  | .seq _ x => x
  | _ => .skip
theorem cd_code40 : code40 = .seq c40_1 c40_2 := by kernel_rfl
noncomputable def r40_1 : Array Oper := regAt [0] body40
theorem cd_c40_1 : c40_1 = .region 0 r40_1 false := by kernel_rfl
noncomputable def c40_3 : Code := match c40_2 with
  | .seq x _ => x
  | _ => .skip
noncomputable def c40_4 : Code := match c40_2 with
  | .seq _ x => x
  | _ => .skip
theorem cd_c40_2 : c40_2 = .seq c40_3 c40_4 := by kernel_rfl
noncomputable def c40_5 : Code := match c40_3 with
  | .seq x _ => x
  | _ => .skip
noncomputable def c40_6 : Code := match c40_3 with
  | .seq _ x => x
  | _ => .skip
theorem cd_c40_3 : c40_3 = .seq c40_5 c40_6 := by kernel_rfl
noncomputable def r40_5 : Array Oper := regAt [1, 0, 0] body40
theorem cd_c40_5 : c40_5 = .region 1 r40_5 false := by kernel_rfl
noncomputable def c40_7 : Code := match c40_6 with
  | .cond _ x _ => x
  | _ => .skip
theorem cd_c40_6 : c40_6 = .cond (.tmp 30) c40_7 .skip := by kernel_rfl
noncomputable def c40_9 : Code := match c40_7 with
  | .seq x _ => x
  | _ => .skip
theorem cd_c40_7 : c40_7 = .seq c40_9 .ret := by kernel_rfl
noncomputable def r40_9 : Array Oper := regAt [1, 0, 1, 1, 0] body40
theorem cd_c40_9 : c40_9 = .region 2 r40_9 false := by kernel_rfl
noncomputable def c40_10 : Code := match c40_4 with
  | .seq x _ => x
  | _ => .skip
theorem cd_c40_4 : c40_4 = .seq c40_10 .ret := by kernel_rfl
noncomputable def r40_10 : Array Oper := regAt [1, 1, 0] body40
theorem cd_c40_10 : c40_10 = .region 3 r40_10 false := by kernel_rfl
noncomputable def body41 : Code := match Try.f41.body with
  | some c => c
  | none => .skip
noncomputable def c41_1 : Code := match code41 with
  | .seq x _ => x
  | _ => .skip
noncomputable def c41_2 : Code := match code41 with
  | .seq _ x => x
  | _ => .skip
theorem cd_code41 : code41 = .seq c41_1 c41_2 := by kernel_rfl
noncomputable def r41_1 : Array Oper := regAt [0] body41
theorem cd_c41_1 : c41_1 = .region 0 r41_1 false := by kernel_rfl
noncomputable def c41_3 : Code := match c41_2 with
  | .seq x _ => x
  | _ => .skip
noncomputable def c41_4 : Code := match c41_2 with
  | .seq _ x => x
  | _ => .skip
theorem cd_c41_2 : c41_2 = .seq c41_3 c41_4 := by kernel_rfl
noncomputable def r41_3 : Array Oper := regAt [1, 0] body41
theorem cd_c41_3 : c41_3 = .region 1 r41_3 false := by kernel_rfl
noncomputable def c41_5 : Code := match c41_4 with
  | .seq x _ => x
  | _ => .skip
noncomputable def c41_6 : Code := match c41_4 with
  | .seq _ x => x
  | _ => .skip
theorem cd_c41_4 : c41_4 = .seq c41_5 c41_6 := by kernel_rfl
noncomputable def r41_5 : Array Oper := regAt [1, 1, 0] body41
theorem cd_c41_5 : c41_5 = .region 2 r41_5 false := by kernel_rfl
noncomputable def c41_7 : Code := match c41_6 with
  | .seq x _ => x
  | _ => .skip
noncomputable def c41_8 : Code := match c41_6 with
  | .seq _ x => x
  | _ => .skip
theorem cd_c41_6 : c41_6 = .seq c41_7 c41_8 := by kernel_rfl
noncomputable def c41_9 : Code := match c41_7 with
  | .seq x _ => x
  | _ => .skip
noncomputable def c41_10 : Code := match c41_7 with
  | .seq _ x => x
  | _ => .skip
theorem cd_c41_7 : c41_7 = .seq c41_9 c41_10 := by kernel_rfl
noncomputable def r41_9 : Array Oper := regAt [1, 1, 1, 0, 0] body41
theorem cd_c41_9 : c41_9 = .region 3 r41_9 false := by kernel_rfl
noncomputable def c41_11 : Code := match c41_10 with
  | .block _ x => x
  | _ => .skip
theorem cd_c41_10 : c41_10 = .block 0 c41_11 := by kernel_rfl
noncomputable def c41_12 : Code := match c41_11 with
  | .loop x => x
  | _ => .skip
theorem cd_c41_11 : c41_11 = .loop c41_12 := by kernel_rfl
noncomputable def c41_13 : Code := match c41_12 with
  | .seq x _ => x
  | _ => .skip
noncomputable def c41_14 : Code := match c41_12 with
  | .seq _ x => x
  | _ => .skip
theorem cd_c41_12 : c41_12 = .seq c41_13 c41_14 := by kernel_rfl
noncomputable def c41_15 : Code := match c41_13 with
  | .seq x _ => x
  | _ => .skip
noncomputable def c41_16 : Code := match c41_13 with
  | .seq _ x => x
  | _ => .skip
theorem cd_c41_13 : c41_13 = .seq c41_15 c41_16 := by kernel_rfl
noncomputable def r41_15 : Array Oper := regAt [1, 1, 1, 0, 1, 1, 0, 0, 0] body41
theorem cd_c41_15 : c41_15 = .region 4 r41_15 false := by kernel_rfl
theorem cd_c41_16 : c41_16 = .cond (.tmp 13) .skip (.exit 0) := by kernel_rfl
noncomputable def c41_18 : Code := match c41_14 with
  | .seq x _ => x
  | _ => .skip
noncomputable def c41_19 : Code := match c41_14 with
  | .seq _ x => x
  | _ => .skip
theorem cd_c41_14 : c41_14 = .seq c41_18 c41_19 := by kernel_rfl
noncomputable def c41_20 : Code := match c41_18 with
  | .block _ x => x
  | _ => .skip
theorem cd_c41_18 : c41_18 = .block 1 c41_20 := by kernel_rfl
noncomputable def c41_21 : Code := match c41_20 with
  | .seq x _ => x
  | _ => .skip
noncomputable def c41_22 : Code := match c41_20 with
  | .seq _ x => x
  | _ => .skip
theorem cd_c41_20 : c41_20 = .seq c41_21 c41_22 := by kernel_rfl
noncomputable def c41_23 : Code := match c41_21 with
  | .seq x _ => x
  | _ => .skip
noncomputable def c41_24 : Code := match c41_21 with
  | .seq _ x => x
  | _ => .skip
theorem cd_c41_21 : c41_21 = .seq c41_23 c41_24 := by kernel_rfl
noncomputable def r41_23 : Array Oper := regAt [1, 1, 1, 0, 1, 1, 0, 1, 0, 1, 0, 0] body41
theorem cd_c41_23 : c41_23 = .region 6 r41_23 true := by kernel_rfl
noncomputable def c41_25 : Code := match c41_24 with
  | .cond _ x _ => x
  | _ => .skip
theorem cd_c41_24 : c41_24 = .cond (.tmp 27) c41_25 .skip := by kernel_rfl
noncomputable def c41_27 : Code := match c41_25 with
  | .seq x _ => x
  | _ => .skip
noncomputable def c41_28 : Code := match c41_25 with
  | .seq _ x => x
  | _ => .skip
theorem cd_c41_25 : c41_25 = .seq c41_27 c41_28 := by kernel_rfl
noncomputable def r41_27 : Array Oper := regAt [1, 1, 1, 0, 1, 1, 0, 1, 0, 1, 0, 1, 1, 0] body41
theorem cd_c41_27 : c41_27 = .region 7 r41_27 false := by kernel_rfl
noncomputable def c41_29 : Code := match c41_28 with
  | .seq x _ => x
  | _ => .skip
noncomputable def c41_30 : Code := match c41_28 with
  | .seq _ x => x
  | _ => .skip
theorem cd_c41_28 : c41_28 = .seq c41_29 c41_30 := by kernel_rfl
noncomputable def c41_31 : Code := match c41_29 with
  | .seq x _ => x
  | _ => .skip
noncomputable def c41_32 : Code := match c41_29 with
  | .seq _ x => x
  | _ => .skip
theorem cd_c41_29 : c41_29 = .seq c41_31 c41_32 := by kernel_rfl
noncomputable def r41_31 : Array Oper := regAt [1, 1, 1, 0, 1, 1, 0, 1, 0, 1, 0, 1, 1, 1, 0, 0] body41
theorem cd_c41_31 : c41_31 = .region 8 r41_31 true := by kernel_rfl
noncomputable def c41_33 : Code := match c41_32 with
  | .cond _ x _ => x
  | _ => .skip
theorem cd_c41_32 : c41_32 = .cond (.tmp 35) c41_33 .skip := by kernel_rfl
noncomputable def c41_35 : Code := match c41_33 with
  | .seq x _ => x
  | _ => .skip
noncomputable def c41_36 : Code := match c41_33 with
  | .seq _ x => x
  | _ => .skip
theorem cd_c41_33 : c41_33 = .seq c41_35 c41_36 := by kernel_rfl
noncomputable def r41_35 : Array Oper := regAt [1, 1, 1, 0, 1, 1, 0, 1, 0, 1, 0, 1, 1, 1, 0, 1, 1, 0] body41
theorem cd_c41_35 : c41_35 = .region 9 r41_35 true := by kernel_rfl
noncomputable def c41_37 : Code := match c41_36 with
  | .seq x _ => x
  | _ => .skip
theorem cd_c41_36 : c41_36 = .seq c41_37 (.exit 1) := by kernel_rfl
noncomputable def r41_37 : Array Oper := regAt [1, 1, 1, 0, 1, 1, 0, 1, 0, 1, 0, 1, 1, 1, 0, 1, 1, 1, 0] body41
theorem cd_c41_37 : c41_37 = .region 10 r41_37 false := by kernel_rfl
noncomputable def r41_30 : Array Oper := regAt [1, 1, 1, 0, 1, 1, 0, 1, 0, 1, 0, 1, 1, 1, 1] body41
theorem cd_c41_30 : c41_30 = .region 11 r41_30 false := by kernel_rfl
noncomputable def r41_22 : Array Oper := regAt [1, 1, 1, 0, 1, 1, 0, 1, 0, 1, 1] body41
theorem cd_c41_22 : c41_22 = .region 12 r41_22 false := by kernel_rfl
noncomputable def r41_19 : Array Oper := regAt [1, 1, 1, 0, 1, 1, 0, 1, 1] body41
theorem cd_c41_19 : c41_19 = .region 5 r41_19 false := by kernel_rfl
noncomputable def c41_38 : Code := match c41_8 with
  | .seq x _ => x
  | _ => .skip
noncomputable def c41_39 : Code := match c41_8 with
  | .seq _ x => x
  | _ => .skip
theorem cd_c41_8 : c41_8 = .seq c41_38 c41_39 := by kernel_rfl
noncomputable def c41_40 : Code := match c41_38 with
  | .seq x _ => x
  | _ => .skip
noncomputable def c41_41 : Code := match c41_38 with
  | .seq _ x => x
  | _ => .skip
theorem cd_c41_38 : c41_38 = .seq c41_40 c41_41 := by kernel_rfl
noncomputable def r41_40 : Array Oper := regAt [1, 1, 1, 1, 0, 0] body41
theorem cd_c41_40 : c41_40 = .region 13 r41_40 false := by kernel_rfl
noncomputable def c41_42 : Code := match c41_41 with
  | .cond _ x _ => x
  | _ => .skip
theorem cd_c41_41 : c41_41 = .cond (.tmp 61) c41_42 .skip := by kernel_rfl
noncomputable def r41_42 : Array Oper := regAt [1, 1, 1, 1, 0, 1, 1] body41
theorem cd_c41_42 : c41_42 = .region 14 r41_42 false := by kernel_rfl
noncomputable def c41_44 : Code := match c41_39 with
  | .seq x _ => x
  | _ => .skip
theorem cd_c41_39 : c41_39 = .seq c41_44 .ret := by kernel_rfl
noncomputable def r41_44 : Array Oper := regAt [1, 1, 1, 1, 1, 0] body41
theorem cd_c41_44 : c41_44 = .region 15 r41_44 false := by kernel_rfl
noncomputable def body42 : Code := match Try.f42.body with
  | some c => c
  | none => .skip
noncomputable def c42_1 : Code := match code42 with
  | .seq x _ => x
  | _ => .skip
noncomputable def c42_2 : Code := match code42 with
  | .seq _ x => x
  | _ => .skip
theorem cd_code42 : code42 = .seq c42_1 c42_2 := by kernel_rfl
noncomputable def r42_1 : Array Oper := regAt [0] body42
theorem cd_c42_1 : c42_1 = .region 0 r42_1 false := by kernel_rfl
noncomputable def c42_3 : Code := match c42_2 with
  | .seq x _ => x
  | _ => .skip
noncomputable def c42_4 : Code := match c42_2 with
  | .seq _ x => x
  | _ => .skip
theorem cd_c42_2 : c42_2 = .seq c42_3 c42_4 := by kernel_rfl
noncomputable def c42_5 : Code := match c42_3 with
  | .seq x _ => x
  | _ => .skip
noncomputable def c42_6 : Code := match c42_3 with
  | .seq _ x => x
  | _ => .skip
theorem cd_c42_3 : c42_3 = .seq c42_5 c42_6 := by kernel_rfl
noncomputable def r42_5 : Array Oper := regAt [1, 0, 0] body42
theorem cd_c42_5 : c42_5 = .region 1 r42_5 false := by kernel_rfl
noncomputable def c42_7 : Code := match c42_6 with
  | .block _ x => x
  | _ => .skip
theorem cd_c42_6 : c42_6 = .block 0 c42_7 := by kernel_rfl
noncomputable def c42_8 : Code := match c42_7 with
  | .loop x => x
  | _ => .skip
theorem cd_c42_7 : c42_7 = .loop c42_8 := by kernel_rfl
noncomputable def c42_9 : Code := match c42_8 with
  | .seq x _ => x
  | _ => .skip
noncomputable def c42_10 : Code := match c42_8 with
  | .seq _ x => x
  | _ => .skip
theorem cd_c42_8 : c42_8 = .seq c42_9 c42_10 := by kernel_rfl
noncomputable def c42_11 : Code := match c42_9 with
  | .seq x _ => x
  | _ => .skip
noncomputable def c42_12 : Code := match c42_9 with
  | .seq _ x => x
  | _ => .skip
theorem cd_c42_9 : c42_9 = .seq c42_11 c42_12 := by kernel_rfl
noncomputable def r42_11 : Array Oper := regAt [1, 0, 1, 1, 0, 0, 0] body42
theorem cd_c42_11 : c42_11 = .region 2 r42_11 false := by kernel_rfl
theorem cd_c42_12 : c42_12 = .cond (.tmp 10) .skip (.exit 0) := by kernel_rfl
noncomputable def c42_14 : Code := match c42_10 with
  | .seq x _ => x
  | _ => .skip
noncomputable def c42_15 : Code := match c42_10 with
  | .seq _ x => x
  | _ => .skip
theorem cd_c42_10 : c42_10 = .seq c42_14 c42_15 := by kernel_rfl
noncomputable def c42_16 : Code := match c42_14 with
  | .block _ x => x
  | _ => .skip
theorem cd_c42_14 : c42_14 = .block 1 c42_16 := by kernel_rfl
noncomputable def c42_17 : Code := match c42_16 with
  | .seq x _ => x
  | _ => .skip
noncomputable def c42_18 : Code := match c42_16 with
  | .seq _ x => x
  | _ => .skip
theorem cd_c42_16 : c42_16 = .seq c42_17 c42_18 := by kernel_rfl
noncomputable def r42_17 : Array Oper := regAt [1, 0, 1, 1, 0, 1, 0, 1, 0] body42
theorem cd_c42_17 : c42_17 = .region 4 r42_17 false := by kernel_rfl
noncomputable def c42_19 : Code := match c42_18 with
  | .cond _ x _ => x
  | _ => .skip
theorem cd_c42_18 : c42_18 = .cond (.tmp 19) c42_19 .skip := by kernel_rfl
noncomputable def c42_21 : Code := match c42_19 with
  | .seq x _ => x
  | _ => .skip
theorem cd_c42_19 : c42_19 = .seq c42_21 .ret := by kernel_rfl
noncomputable def r42_21 : Array Oper := regAt [1, 0, 1, 1, 0, 1, 0, 1, 1, 1, 0] body42
theorem cd_c42_21 : c42_21 = .region 5 r42_21 false := by kernel_rfl
noncomputable def r42_15 : Array Oper := regAt [1, 0, 1, 1, 0, 1, 1] body42
theorem cd_c42_15 : c42_15 = .region 3 r42_15 false := by kernel_rfl
noncomputable def c42_22 : Code := match c42_4 with
  | .seq x _ => x
  | _ => .skip
theorem cd_c42_4 : c42_4 = .seq c42_22 .ret := by kernel_rfl
noncomputable def r42_22 : Array Oper := regAt [1, 1, 0] body42
theorem cd_c42_22 : c42_22 = .region 6 r42_22 false := by kernel_rfl
noncomputable def body47 : Code := match Try.f47.body with
  | some c => c
  | none => .skip
noncomputable def c47_1 : Code := match code47 with
  | .seq x _ => x
  | _ => .skip
noncomputable def c47_2 : Code := match code47 with
  | .seq _ x => x
  | _ => .skip
theorem cd_code47 : code47 = .seq c47_1 c47_2 := by kernel_rfl
noncomputable def r47_1 : Array Oper := regAt [0] body47
theorem cd_c47_1 : c47_1 = .region 0 r47_1 false := by kernel_rfl
noncomputable def c47_3 : Code := match c47_2 with
  | .seq x _ => x
  | _ => .skip
theorem cd_c47_2 : c47_2 = .seq c47_3 .ret := by kernel_rfl
noncomputable def r47_3 : Array Oper := regAt [1, 0] body47
theorem cd_c47_3 : c47_3 = .region 1 r47_3 false := by kernel_rfl
noncomputable def body57 : Code := match Try.f57.body with
  | some c => c
  | none => .skip
noncomputable def c57_1 : Code := match code57 with
  | .seq x _ => x
  | _ => .skip
noncomputable def c57_2 : Code := match code57 with
  | .seq _ x => x
  | _ => .skip
theorem cd_code57 : code57 = .seq c57_1 c57_2 := by kernel_rfl
noncomputable def r57_1 : Array Oper := regAt [0] body57
theorem cd_c57_1 : c57_1 = .region 0 r57_1 false := by kernel_rfl
noncomputable def c57_3 : Code := match c57_2 with
  | .seq x _ => x
  | _ => .skip
noncomputable def c57_4 : Code := match c57_2 with
  | .seq _ x => x
  | _ => .skip
theorem cd_c57_2 : c57_2 = .seq c57_3 c57_4 := by kernel_rfl
noncomputable def c57_5 : Code := match c57_3 with
  | .seq x _ => x
  | _ => .skip
noncomputable def c57_6 : Code := match c57_3 with
  | .seq _ x => x
  | _ => .skip
theorem cd_c57_3 : c57_3 = .seq c57_5 c57_6 := by kernel_rfl
noncomputable def r57_5 : Array Oper := regAt [1, 0, 0] body57
theorem cd_c57_5 : c57_5 = .region 1 r57_5 false := by kernel_rfl
noncomputable def c57_7 : Code := match c57_6 with
  | .cond _ x _ => x
  | _ => .skip
theorem cd_c57_6 : c57_6 = .cond (.tmp 9) c57_7 .skip := by kernel_rfl
noncomputable def c57_9 : Code := match c57_7 with
  | .seq x _ => x
  | _ => .skip
theorem cd_c57_7 : c57_7 = .seq c57_9 .ret := by kernel_rfl
noncomputable def r57_9 : Array Oper := regAt [1, 0, 1, 1, 0] body57
theorem cd_c57_9 : c57_9 = .region 2 r57_9 false := by kernel_rfl
noncomputable def c57_10 : Code := match c57_4 with
  | .seq x _ => x
  | _ => .skip
noncomputable def c57_11 : Code := match c57_4 with
  | .seq _ x => x
  | _ => .skip
theorem cd_c57_4 : c57_4 = .seq c57_10 c57_11 := by kernel_rfl
noncomputable def c57_12 : Code := match c57_10 with
  | .seq x _ => x
  | _ => .skip
noncomputable def c57_13 : Code := match c57_10 with
  | .seq _ x => x
  | _ => .skip
theorem cd_c57_10 : c57_10 = .seq c57_12 c57_13 := by kernel_rfl
noncomputable def r57_12 : Array Oper := regAt [1, 1, 0, 0] body57
theorem cd_c57_12 : c57_12 = .region 3 r57_12 false := by kernel_rfl
noncomputable def c57_14 : Code := match c57_13 with
  | .cond _ x _ => x
  | _ => .skip
theorem cd_c57_13 : c57_13 = .cond (.tmp 13) c57_14 .skip := by kernel_rfl
noncomputable def c57_16 : Code := match c57_14 with
  | .seq x _ => x
  | _ => .skip
theorem cd_c57_14 : c57_14 = .seq c57_16 .ret := by kernel_rfl
noncomputable def r57_16 : Array Oper := regAt [1, 1, 0, 1, 1, 0] body57
theorem cd_c57_16 : c57_16 = .region 4 r57_16 false := by kernel_rfl
noncomputable def c57_17 : Code := match c57_11 with
  | .seq x _ => x
  | _ => .skip
theorem cd_c57_11 : c57_11 = .seq c57_17 .ret := by kernel_rfl
noncomputable def r57_17 : Array Oper := regAt [1, 1, 1, 0] body57
theorem cd_c57_17 : c57_17 = .region 5 r57_17 false := by kernel_rfl
noncomputable def body61 : Code := match Try.f61.body with
  | some c => c
  | none => .skip
noncomputable def c61_1 : Code := match code61 with
  | .seq x _ => x
  | _ => .skip
noncomputable def c61_2 : Code := match code61 with
  | .seq _ x => x
  | _ => .skip
theorem cd_code61 : code61 = .seq c61_1 c61_2 := by kernel_rfl
noncomputable def r61_1 : Array Oper := regAt [0] body61
theorem cd_c61_1 : c61_1 = .region 0 r61_1 false := by kernel_rfl
noncomputable def c61_3 : Code := match c61_2 with
  | .seq x _ => x
  | _ => .skip
theorem cd_c61_2 : c61_2 = .seq c61_3 .ret := by kernel_rfl
noncomputable def r61_3 : Array Oper := regAt [1, 0] body61
theorem cd_c61_3 : c61_3 = .region 1 r61_3 false := by kernel_rfl
noncomputable def body62 : Code := match Try.f62.body with
  | some c => c
  | none => .skip
noncomputable def c62_1 : Code := match code62 with
  | .seq x _ => x
  | _ => .skip
noncomputable def c62_2 : Code := match code62 with
  | .seq _ x => x
  | _ => .skip
theorem cd_code62 : code62 = .seq c62_1 c62_2 := by kernel_rfl
noncomputable def r62_1 : Array Oper := regAt [0] body62
theorem cd_c62_1 : c62_1 = .region 0 r62_1 false := by kernel_rfl
noncomputable def c62_3 : Code := match c62_2 with
  | .seq x _ => x
  | _ => .skip
theorem cd_c62_2 : c62_2 = .seq c62_3 .ret := by kernel_rfl
noncomputable def r62_3 : Array Oper := regAt [1, 0] body62
theorem cd_c62_3 : c62_3 = .region 1 r62_3 false := by kernel_rfl
end Go.Proofs.Ytdanhpemheldlaa
