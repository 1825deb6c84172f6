/-
  The code of this seat's functions in named pieces: by our program cds.py.
-/
import Derived.Test.YtlhjbjpcnncndaaFn
import Derived.Test.YtlhjbjpcnncndaaSe
import Derived.KernelRfl
set_option linter.defProp false
open Go Go.SY
namespace Go.Proofs.Ytlhjbjpcnncndaa
noncomputable def body2 : Code := match Try.f2.body with
  | some c => c
  | none => .skip
noncomputable def r2 : Array Oper := regAt [] body2
noncomputable def body5 : Code := match Try.f5.body with
  | some c => c
  | none => .skip
noncomputable def r5_1 : Array Oper := regAt [0] body5
noncomputable def r5_3 : Array Oper := regAt [1, 0] body5
noncomputable def r5_7 : Array Oper := regAt [1, 1, 0, 0] body5
noncomputable def r5_11 : Array Oper := regAt [1, 1, 0, 1, 1, 0] body5
noncomputable def r5_12 : Array Oper := regAt [1, 1, 1, 0] body5
noncomputable def r5_14 : Array Oper := regAt [1, 1, 1, 1, 0] body5
noncomputable def r5_18 : Array Oper := regAt [1, 1, 1, 1, 1, 0, 0] body5
noncomputable def r5_22 : Array Oper := regAt [1, 1, 1, 1, 1, 0, 1, 1, 0] body5
noncomputable def r5_23 : Array Oper := regAt [1, 1, 1, 1, 1, 1, 0] body5
noncomputable def r5_27 : Array Oper := regAt [1, 1, 1, 1, 1, 1, 1, 0, 0] body5
noncomputable def r5_31 : Array Oper := regAt [1, 1, 1, 1, 1, 1, 1, 0, 1, 1, 0] body5
noncomputable def r5_32 : Array Oper := regAt [1, 1, 1, 1, 1, 1, 1, 1, 0] body5
noncomputable def r5_36 : Array Oper := regAt [1, 1, 1, 1, 1, 1, 1, 1, 1, 0, 0] body5
noncomputable def r5_40 : Array Oper := regAt [1, 1, 1, 1, 1, 1, 1, 1, 1, 0, 1, 1, 0] body5
noncomputable def r5_41 : Array Oper := regAt [1, 1, 1, 1, 1, 1, 1, 1, 1, 1, 0] body5
noncomputable def r5_43 : Array Oper := regAt [1, 1, 1, 1, 1, 1, 1, 1, 1, 1, 1, 0] body5
noncomputable def body6 : Code := match Try.f6.body with
  | some c => c
  | none => .skip
noncomputable def c6_1 : Code := match code6 with
  | .seq x _ => x
  | _ => .skip
noncomputable def c6_2 : Code := match code6 with
  | .seq _ x => x
  | _ => .skip
theorem cd_code6 : code6 = .seq c6_1 c6_2 := by kernel_rfl
noncomputable def r6_1 : Array Oper := regAt [0] body6
theorem cd_c6_1 : c6_1 = .region 0 r6_1 false := by kernel_rfl
noncomputable def c6_3 : Code := match c6_2 with
  | .seq x _ => x
  | _ => .skip
noncomputable def c6_4 : Code := match c6_2 with
  | .seq _ x => x
  | _ => .skip
theorem cd_c6_2 : c6_2 = .seq c6_3 c6_4 := by kernel_rfl
noncomputable def r6_3 : Array Oper := regAt [1, 0] body6
theorem cd_c6_3 : c6_3 = .region 1 r6_3 false := by kernel_rfl
noncomputable def c6_5 : Code := match c6_4 with
  | .seq x _ => x
  | _ => .skip
noncomputable def c6_6 : Code := match c6_4 with
  | .seq _ x => x
  | _ => .skip
theorem cd_c6_4 : c6_4 = .seq c6_5 c6_6 := by kernel_rfl
noncomputable def c6_7 : Code := match c6_5 with
  | .seq x _ => x
  | _ => .skip
noncomputable def c6_8 : Code := match c6_5 with
  | .seq _ x => x
  | _ => .skip
theorem cd_c6_5 : c6_5 = .seq c6_7 c6_8 := by kernel_rfl
noncomputable def r6_7 : Array Oper := regAt [1, 1, 0, 0] body6
theorem cd_c6_7 : c6_7 = .region 2 r6_7 false := by kernel_rfl
noncomputable def c6_9 : Code := match c6_8 with
  | .cond _ x _ => x
  | _ => .skip
theorem cd_c6_8 : c6_8 = .cond (.tmp 25) c6_9 .skip := by kernel_rfl
noncomputable def c6_11 : Code := match c6_9 with
  | .seq x _ => x
  | _ => .skip
theorem cd_c6_9 : c6_9 = .seq c6_11 .ret := by kernel_rfl
noncomputable def r6_11 : Array Oper := regAt [1, 1, 0, 1, 1, 0] body6
theorem cd_c6_11 : c6_11 = .region 3 r6_11 false := by kernel_rfl
noncomputable def c6_12 : Code := match c6_6 with
  | .seq x _ => x
  | _ => .skip
noncomputable def c6_13 : Code := match c6_6 with
  | .seq _ x => x
  | _ => .skip
theorem cd_c6_6 : c6_6 = .seq c6_12 c6_13 := by kernel_rfl
noncomputable def r6_12 : Array Oper := regAt [1, 1, 1, 0] body6
theorem cd_c6_12 : c6_12 = .region 4 r6_12 false := by kernel_rfl
noncomputable def c6_14 : Code := match c6_13 with
  | .seq x _ => x
  | _ => .skip
noncomputable def c6_15 : Code := match c6_13 with
  | .seq _ x => x
  | _ => .skip
theorem cd_c6_13 : c6_13 = .seq c6_14 c6_15 := by kernel_rfl
noncomputable def r6_14 : Array Oper := regAt [1, 1, 1, 1, 0] body6
theorem cd_c6_14 : c6_14 = .region 5 r6_14 false := by kernel_rfl
noncomputable def c6_16 : Code := match c6_15 with
  | .seq x _ => x
  | _ => .skip
noncomputable def c6_17 : Code := match c6_15 with
  | .seq _ x => x
  | _ => .skip
theorem cd_c6_15 : c6_15 = .seq c6_16 c6_17 := by kernel_rfl
noncomputable def c6_18 : Code := match c6_16 with
  | .seq x _ => x
  | _ => .skip
noncomputable def c6_19 : Code := match c6_16 with
  | .seq _ x => x
  | _ => .skip
theorem cd_c6_16 : c6_16 = .seq c6_18 c6_19 := by kernel_rfl
noncomputable def r6_18 : Array Oper := regAt [1, 1, 1, 1, 1, 0, 0] body6
theorem cd_c6_18 : c6_18 = .region 6 r6_18 false := by kernel_rfl
noncomputable def c6_20 : Code := match c6_19 with
  | .cond _ x _ => x
  | _ => .skip
theorem cd_c6_19 : c6_19 = .cond (.tmp 39) c6_20 .skip := by kernel_rfl
noncomputable def c6_22 : Code := match c6_20 with
  | .seq x _ => x
  | _ => .skip
theorem cd_c6_20 : c6_20 = .seq c6_22 .ret := by kernel_rfl
noncomputable def r6_22 : Array Oper := regAt [1, 1, 1, 1, 1, 0, 1, 1, 0] body6
theorem cd_c6_22 : c6_22 = .region 7 r6_22 false := by kernel_rfl
noncomputable def c6_23 : Code := match c6_17 with
  | .seq x _ => x
  | _ => .skip
noncomputable def c6_24 : Code := match c6_17 with
  | .seq _ x => x
  | _ => .skip
theorem cd_c6_17 : c6_17 = .seq c6_23 c6_24 := by kernel_rfl
noncomputable def r6_23 : Array Oper := regAt [1, 1, 1, 1, 1, 1, 0] body6
theorem cd_c6_23 : c6_23 = .region 8 r6_23 false := by kernel_rfl
noncomputable def c6_25 : Code := match c6_24 with
  | .seq x _ => x
  | _ => .skip
noncomputable def c6_26 : Code := match c6_24 with
  | .seq _ x => x
  | _ => .skip
theorem cd_c6_24 : c6_24 = .seq c6_25 c6_26 := by kernel_rfl
noncomputable def c6_27 : Code := match c6_25 with
  | .seq x _ => x
  | _ => .skip
noncomputable def c6_28 : Code := match c6_25 with
  | .seq _ x => x
  | _ => .skip
theorem cd_c6_25 : c6_25 = .seq c6_27 c6_28 := by kernel_rfl
noncomputable def r6_27 : Array Oper := regAt [1, 1, 1, 1, 1, 1, 1, 0, 0] body6
theorem cd_c6_27 : c6_27 = .region 9 r6_27 false := by kernel_rfl
noncomputable def c6_29 : Code := match c6_28 with
  | .cond _ x _ => x
  | _ => .skip
theorem cd_c6_28 : c6_28 = .cond (.tmp 45) c6_29 .skip := by kernel_rfl
noncomputable def c6_31 : Code := match c6_29 with
  | .seq x _ => x
  | _ => .skip
theorem cd_c6_29 : c6_29 = .seq c6_31 .ret := by kernel_rfl
noncomputable def r6_31 : Array Oper := regAt [1, 1, 1, 1, 1, 1, 1, 0, 1, 1, 0] body6
theorem cd_c6_31 : c6_31 = .region 10 r6_31 false := by kernel_rfl
noncomputable def c6_32 : Code := match c6_26 with
  | .seq x _ => x
  | _ => .skip
noncomputable def c6_33 : Code := match c6_26 with
  | .seq _ x => x
  | _ => .skip
theorem cd_c6_26 : c6_26 = .seq c6_32 c6_33 := by kernel_rfl
noncomputable def r6_32 : Array Oper := regAt [1, 1, 1, 1, 1, 1, 1, 1, 0] body6
theorem cd_c6_32 : c6_32 = .region 11 r6_32 false := by kernel_rfl
noncomputable def c6_34 : Code := match c6_33 with
  | .seq x _ => x
  | _ => .skip
noncomputable def c6_35 : Code := match c6_33 with
  | .seq _ x => x
  | _ => .skip
theorem cd_c6_33 : c6_33 = .seq c6_34 c6_35 := by kernel_rfl
noncomputable def c6_36 : Code := match c6_34 with
  | .seq x _ => x
  | _ => .skip
noncomputable def c6_37 : Code := match c6_34 with
  | .seq _ x => x
  | _ => .skip
theorem cd_c6_34 : c6_34 = .seq c6_36 c6_37 := by kernel_rfl
noncomputable def r6_36 : Array Oper := regAt [1, 1, 1, 1, 1, 1, 1, 1, 1, 0, 0] body6
theorem cd_c6_36 : c6_36 = .region 12 r6_36 false := by kernel_rfl
noncomputable def c6_38 : Code := match c6_37 with
  | .cond _ x _ => x
  | _ => .skip
theorem cd_c6_37 : c6_37 = .cond (.tmp 78) c6_38 .skip := by kernel_rfl
noncomputable def c6_40 : Code := match c6_38 with
  | .seq x _ => x
  | _ => .skip
theorem cd_c6_38 : c6_38 = .seq c6_40 .ret := by kernel_rfl
noncomputable def r6_40 : Array Oper := regAt [1, 1, 1, 1, 1, 1, 1, 1, 1, 0, 1, 1, 0] body6
theorem cd_c6_40 : c6_40 = .region 13 r6_40 false := by kernel_rfl
noncomputable def c6_41 : Code := match c6_35 with
  | .seq x _ => x
  | _ => .skip
noncomputable def c6_42 : Code := match c6_35 with
  | .seq _ x => x
  | _ => .skip
theorem cd_c6_35 : c6_35 = .seq c6_41 c6_42 := by kernel_rfl
noncomputable def r6_41 : Array Oper := regAt [1, 1, 1, 1, 1, 1, 1, 1, 1, 1, 0] body6
theorem cd_c6_41 : c6_41 = .region 14 r6_41 false := by kernel_rfl
noncomputable def c6_43 : Code := match c6_42 with
  | .seq x _ => x
  | _ => .skip
noncomputable def c6_44 : Code := match c6_42 with
  | .seq _ x => x
  | _ => .skip
theorem cd_c6_42 : c6_42 = .seq c6_43 c6_44 := by kernel_rfl
noncomputable def c6_45 : Code := match c6_43 with
  | .seq x _ => x
  | _ => .skip
noncomputable def c6_46 : Code := match c6_43 with
  | .seq _ x => x
  | _ => .skip
theorem cd_c6_43 : c6_43 = .seq c6_45 c6_46 := by kernel_rfl
noncomputable def r6_45 : Array Oper := regAt [1, 1, 1, 1, 1, 1, 1, 1, 1, 1, 1, 0, 0] body6
theorem cd_c6_45 : c6_45 = .region 15 r6_45 false := by kernel_rfl
noncomputable def c6_47 : Code := match c6_46 with
  | .cond _ x _ => x
  | _ => .skip
theorem cd_c6_46 : c6_46 = .cond (.tmp 89) c6_47 .skip := by kernel_rfl
noncomputable def c6_49 : Code := match c6_47 with
  | .seq x _ => x
  | _ => .skip
theorem cd_c6_47 : c6_47 = .seq c6_49 .ret := by kernel_rfl
noncomputable def r6_49 : Array Oper := regAt [1, 1, 1, 1, 1, 1, 1, 1, 1, 1, 1, 0, 1, 1, 0] body6
theorem cd_c6_49 : c6_49 = .region 16 r6_49 false := by kernel_rfl
noncomputable def c6_50 : Code := match c6_44 with
  | .seq x _ => x
  | _ => .skip
noncomputable def c6_51 : Code := match c6_44 with
  | .seq _ x => x
  | _ => .skip
theorem cd_c6_44 : c6_44 = .seq c6_50 c6_51 := by kernel_rfl
noncomputable def c6_52 : Code := match c6_50 with
  | .seq x _ => x
  | _ => .skip
noncomputable def c6_53 : Code := match c6_50 with
  | .seq _ x => x
  | _ => .skip
theorem cd_c6_50 : c6_50 = .seq c6_52 c6_53 := by kernel_rfl
noncomputable def r6_52 : Array Oper := regAt [1, 1, 1, 1, 1, 1, 1, 1, 1, 1, 1, 1, 0, 0] body6
theorem cd_c6_52 : c6_52 = .region 17 r6_52 false := by kernel_rfl
noncomputable def c6_54 : Code := match c6_53 with
  | .cond _ x _ => x
  | _ => .skip
theorem cd_c6_53 : c6_53 = .cond (.tmp 91) c6_54 .skip := by kernel_rfl
noncomputable def c6_56 : Code := match c6_54 with
  | .seq x _ => x
  | _ => .skip
theorem cd_c6_54 : c6_54 = .seq c6_56 .ret := by kernel_rfl
noncomputable def r6_56 : Array Oper := regAt [1, 1, 1, 1, 1, 1, 1, 1, 1, 1, 1, 1, 0, 1, 1, 0] body6
theorem cd_c6_56 : c6_56 = .region 18 r6_56 false := by kernel_rfl
noncomputable def c6_57 : Code := match c6_51 with
  | .seq x _ => x
  | _ => .skip
theorem cd_c6_51 : c6_51 = .seq c6_57 .ret := by kernel_rfl
noncomputable def r6_57 : Array Oper := regAt [1, 1, 1, 1, 1, 1, 1, 1, 1, 1, 1, 1, 1, 0] body6
theorem cd_c6_57 : c6_57 = .region 19 r6_57 false := by kernel_rfl
noncomputable def body8 : Code := match Try.f8.body with
  | some c => c
  | none => .skip
noncomputable def c8_1 : Code := match code8 with
  | .seq x _ => x
  | _ => .skip
noncomputable def c8_2 : Code := match code8 with
  | .seq _ x => x
  | _ => .skip
theorem cd_code8 : code8 = .seq c8_1 c8_2 := by kernel_rfl
noncomputable def r8_1 : Array Oper := regAt [0] body8
theorem cd_c8_1 : c8_1 = .region 0 r8_1 false := by kernel_rfl
noncomputable def c8_3 : Code := match c8_2 with
  | .seq x _ => x
  | _ => .skip
noncomputable def c8_4 : Code := match c8_2 with
  | .seq _ x => x
  | _ => .skip
theorem cd_c8_2 : c8_2 = .seq c8_3 c8_4 := by kernel_rfl
noncomputable def c8_5 : Code := match c8_3 with
  | .seq x _ => x
  | _ => .skip
noncomputable def c8_6 : Code := match c8_3 with
  | .seq _ x => x
  | _ => .skip
theorem cd_c8_3 : c8_3 = .seq c8_5 c8_6 := by kernel_rfl
noncomputable def r8_5 : Array Oper := regAt [1, 0, 0] body8
theorem cd_c8_5 : c8_5 = .region 1 r8_5 false := by kernel_rfl
noncomputable def c8_7 : Code := match c8_6 with
  | .cond _ x _ => x
  | _ => .skip
theorem cd_c8_6 : c8_6 = .cond (.tmp 8) c8_7 .skip := by kernel_rfl
noncomputable def c8_9 : Code := match c8_7 with
  | .seq x _ => x
  | _ => .skip
theorem cd_c8_7 : c8_7 = .seq c8_9 .ret := by kernel_rfl
noncomputable def r8_9 : Array Oper := regAt [1, 0, 1, 1, 0] body8
theorem cd_c8_9 : c8_9 = .region 2 r8_9 false := by kernel_rfl
noncomputable def c8_10 : Code := match c8_4 with
  | .seq x _ => x
  | _ => .skip
noncomputable def c8_11 : Code := match c8_4 with
  | .seq _ x => x
  | _ => .skip
theorem cd_c8_4 : c8_4 = .seq c8_10 c8_11 := by kernel_rfl
noncomputable def r8_10 : Array Oper := regAt [1, 1, 0] body8
theorem cd_c8_10 : c8_10 = .region 3 r8_10 false := by kernel_rfl
noncomputable def c8_12 : Code := match c8_11 with
  | .seq x _ => x
  | _ => .skip
noncomputable def c8_13 : Code := match c8_11 with
  | .seq _ x => x
  | _ => .skip
theorem cd_c8_11 : c8_11 = .seq c8_12 c8_13 := by kernel_rfl
noncomputable def c8_14 : Code := match c8_12 with
  | .seq x _ => x
  | _ => .skip
noncomputable def c8_15 : Code := match c8_12 with
  | .seq _ x => x
  | _ => .skip
theorem cd_c8_12 : c8_12 = .seq c8_14 c8_15 := by kernel_rfl
noncomputable def r8_14 : Array Oper := regAt [1, 1, 1, 0, 0] body8
theorem cd_c8_14 : c8_14 = .region 4 r8_14 false := by kernel_rfl
noncomputable def c8_16 : Code := match c8_15 with
  | .cond _ x _ => x
  | _ => .skip
theorem cd_c8_15 : c8_15 = .cond (.tmp 15) c8_16 .skip := by kernel_rfl
noncomputable def r8_16 : Array Oper := regAt [1, 1, 1, 0, 1, 1] body8
theorem cd_c8_16 : c8_16 = .region 5 r8_16 false := by kernel_rfl
noncomputable def c8_18 : Code := match c8_13 with
  | .seq x _ => x
  | _ => .skip
noncomputable def c8_19 : Code := match c8_13 with
  | .seq _ x => x
  | _ => .skip
theorem cd_c8_13 : c8_13 = .seq c8_18 c8_19 := by kernel_rfl
noncomputable def c8_20 : Code := match c8_18 with
  | .seq x _ => x
  | _ => .skip
noncomputable def c8_21 : Code := match c8_18 with
  | .seq _ x => x
  | _ => .skip
theorem cd_c8_18 : c8_18 = .seq c8_20 c8_21 := by kernel_rfl
noncomputable def r8_20 : Array Oper := regAt [1, 1, 1, 1, 0, 0] body8
theorem cd_c8_20 : c8_20 = .region 6 r8_20 false := by kernel_rfl
noncomputable def c8_22 : Code := match c8_21 with
  | .cond _ x _ => x
  | _ => .skip
theorem cd_c8_21 : c8_21 = .cond (.tmp 23) c8_22 .skip := by kernel_rfl
noncomputable def r8_22 : Array Oper := regAt [1, 1, 1, 1, 0, 1, 1] body8
theorem cd_c8_22 : c8_22 = .region 7 r8_22 true := by kernel_rfl
noncomputable def c8_24 : Code := match c8_19 with
  | .seq x _ => x
  | _ => .skip
theorem cd_c8_19 : c8_19 = .seq c8_24 .ret := by kernel_rfl
noncomputable def r8_24 : Array Oper := regAt [1, 1, 1, 1, 1, 0] body8
theorem cd_c8_24 : c8_24 = .region 8 r8_24 false := by kernel_rfl
noncomputable def body9 : Code := match Try.f9.body with
  | some c => c
  | none => .skip
noncomputable def c9_1 : Code := match code9 with
  | .seq x _ => x
  | _ => .skip
noncomputable def c9_2 : Code := match code9 with
  | .seq _ x => x
  | _ => .skip
theorem cd_code9 : code9 = .seq c9_1 c9_2 := by kernel_rfl
noncomputable def r9_1 : Array Oper := regAt [0] body9
theorem cd_c9_1 : c9_1 = .region 0 r9_1 false := by kernel_rfl
noncomputable def c9_3 : Code := match c9_2 with
  | .seq x _ => x
  | _ => .skip
noncomputable def c9_4 : Code := match c9_2 with
  | .seq _ x => x
  | _ => .skip
theorem cd_c9_2 : c9_2 = .seq c9_3 c9_4 := by kernel_rfl
noncomputable def c9_5 : Code := match c9_3 with
  | .seq x _ => x
  | _ => .skip
noncomputable def c9_6 : Code := match c9_3 with
  | .seq _ x => x
  | _ => .skip
theorem cd_c9_3 : c9_3 = .seq c9_5 c9_6 := by kernel_rfl
noncomputable def r9_5 : Array Oper := regAt [1, 0, 0] body9
theorem cd_c9_5 : c9_5 = .region 1 r9_5 false := by kernel_rfl
noncomputable def c9_7 : Code := match c9_6 with
  | .cond _ x _ => x
  | _ => .skip
theorem cd_c9_6 : c9_6 = .cond (.tmp 4) c9_7 .skip := by kernel_rfl
noncomputable def c9_9 : Code := match c9_7 with
  | .seq x _ => x
  | _ => .skip
theorem cd_c9_7 : c9_7 = .seq c9_9 .ret := by kernel_rfl
noncomputable def r9_9 : Array Oper := regAt [1, 0, 1, 1, 0] body9
theorem cd_c9_9 : c9_9 = .region 2 r9_9 false := by kernel_rfl
noncomputable def c9_10 : Code := match c9_4 with
  | .seq x _ => x
  | _ => .skip
theorem cd_c9_4 : c9_4 = .seq c9_10 .ret := by kernel_rfl
noncomputable def r9_10 : Array Oper := regAt [1, 1, 0] body9
theorem cd_c9_10 : c9_10 = .region 3 r9_10 false := by kernel_rfl
noncomputable def body10 : Code := match Try.f10.body with
  | some c => c
  | none => .skip
noncomputable def c10_1 : Code := match code10 with
  | .seq x _ => x
  | _ => .skip
noncomputable def c10_2 : Code := match code10 with
  | .seq _ x => x
  | _ => .skip
theorem cd_code10 : code10 = .seq c10_1 c10_2 := by kernel_rfl
noncomputable def r10_1 : Array Oper := regAt [0] body10
theorem cd_c10_1 : c10_1 = .region 0 r10_1 false := by kernel_rfl
noncomputable def c10_3 : Code := match c10_2 with
  | .seq x _ => x
  | _ => .skip
noncomputable def c10_4 : Code := match c10_2 with
  | .seq _ x => x
  | _ => .skip
theorem cd_c10_2 : c10_2 = .seq c10_3 c10_4 := by kernel_rfl
noncomputable def c10_5 : Code := match c10_3 with
  | .seq x _ => x
  | _ => .skip
noncomputable def c10_6 : Code := match c10_3 with
  | .seq _ x => x
  | _ => .skip
theorem cd_c10_3 : c10_3 = .seq c10_5 c10_6 := by kernel_rfl
noncomputable def r10_5 : Array Oper := regAt [1, 0, 0] body10
theorem cd_c10_5 : c10_5 = .region 1 r10_5 false := by kernel_rfl
noncomputable def c10_7 : Code := match c10_6 with
  | .cond _ x _ => x
  | _ => .skip
theorem cd_c10_6 : c10_6 = .cond (.tmp 10) c10_7 .skip := by kernel_rfl
noncomputable def c10_9 : Code := match c10_7 with
  | .seq x _ => x
  | _ => .skip
theorem cd_c10_7 : c10_7 = .seq c10_9 .ret := by kernel_rfl
noncomputable def r10_9 : Array Oper := regAt [1, 0, 1, 1, 0] body10
theorem cd_c10_9 : c10_9 = .region 2 r10_9 false := by kernel_rfl
noncomputable def c10_10 : Code := match c10_4 with
  | .seq x _ => x
  | _ => .skip
noncomputable def c10_11 : Code := match c10_4 with
  | .seq _ x => x
  | _ => .skip
theorem cd_c10_4 : c10_4 = .seq c10_10 c10_11 := by kernel_rfl
noncomputable def r10_10 : Array Oper := regAt [1, 1, 0] body10
theorem cd_c10_10 : c10_10 = .region 3 r10_10 false := by kernel_rfl
noncomputable def c10_12 : Code := match c10_11 with
  | .seq x _ => x
  | _ => .skip
noncomputable def c10_13 : Code := match c10_11 with
  | .seq _ x => x
  | _ => .skip
theorem cd_c10_11 : c10_11 = .seq c10_12 c10_13 := by kernel_rfl
noncomputable def c10_14 : Code := match c10_12 with
  | .seq x _ => x
  | _ => .skip
noncomputable def c10_15 : Code := match c10_12 with
  | .seq _ x => x
  | _ => .skip
theorem cd_c10_12 : c10_12 = .seq c10_14 c10_15 := by kernel_rfl
noncomputable def r10_14 : Array Oper := regAt [1, 1, 1, 0, 0] body10
theorem cd_c10_14 : c10_14 = .region 4 r10_14 false := by kernel_rfl
noncomputable def c10_16 : Code := match c10_15 with
  | .cond _ x _ => x
  | _ => .skip
theorem cd_c10_15 : c10_15 = .cond (.tmp 17) c10_16 .skip := by kernel_rfl
noncomputable def c10_18 : Code := match c10_16 with
  | .seq x _ => x
  | _ => .skip
theorem cd_c10_16 : c10_16 = .seq c10_18 .ret := by kernel_rfl
noncomputable def r10_18 : Array Oper := regAt [1, 1, 1, 0, 1, 1, 0] body10
theorem cd_c10_18 : c10_18 = .region 5 r10_18 false := by kernel_rfl
noncomputable def c10_19 : Code := match c10_13 with
  | .seq x _ => x
  | _ => .skip
noncomputable def c10_20 : Code := match c10_13 with
  | .seq _ x => x
  | _ => .skip
theorem cd_c10_13 : c10_13 = .seq c10_19 c10_20 := by kernel_rfl
noncomputable def r10_19 : Array Oper := regAt [1, 1, 1, 1, 0] body10
theorem cd_c10_19 : c10_19 = .region 6 r10_19 false := by kernel_rfl
noncomputable def c10_21 : Code := match c10_20 with
  | .seq x _ => x
  | _ => .skip
noncomputable def c10_22 : Code := match c10_20 with
  | .seq _ x => x
  | _ => .skip
theorem cd_c10_20 : c10_20 = .seq c10_21 c10_22 := by kernel_rfl
noncomputable def c10_23 : Code := match c10_21 with
  | .seq x _ => x
  | _ => .skip
noncomputable def c10_24 : Code := match c10_21 with
  | .seq _ x => x
  | _ => .skip
theorem cd_c10_21 : c10_21 = .seq c10_23 c10_24 := by kernel_rfl
noncomputable def r10_23 : Array Oper := regAt [1, 1, 1, 1, 1, 0, 0] body10
theorem cd_c10_23 : c10_23 = .region 7 r10_23 false := by kernel_rfl
noncomputable def c10_25 : Code := match c10_24 with
  | .cond _ x _ => x
  | _ => .skip
theorem cd_c10_24 : c10_24 = .cond (.tmp 28) c10_25 .skip := by kernel_rfl
noncomputable def c10_27 : Code := match c10_25 with
  | .seq x _ => x
  | _ => .skip
theorem cd_c10_25 : c10_25 = .seq c10_27 .ret := by kernel_rfl
noncomputable def r10_27 : Array Oper := regAt [1, 1, 1, 1, 1, 0, 1, 1, 0] body10
theorem cd_c10_27 : c10_27 = .region 8 r10_27 false := by kernel_rfl
noncomputable def c10_28 : Code := match c10_22 with
  | .seq x _ => x
  | _ => .skip
noncomputable def c10_29 : Code := match c10_22 with
  | .seq _ x => x
  | _ => .skip
theorem cd_c10_22 : c10_22 = .seq c10_28 c10_29 := by kernel_rfl
noncomputable def r10_28 : Array Oper := regAt [1, 1, 1, 1, 1, 1, 0] body10
theorem cd_c10_28 : c10_28 = .region 9 r10_28 false := by kernel_rfl
noncomputable def c10_30 : Code := match c10_29 with
  | .seq x _ => x
  | _ => .skip
noncomputable def c10_31 : Code := match c10_29 with
  | .seq _ x => x
  | _ => .skip
theorem cd_c10_29 : c10_29 = .seq c10_30 c10_31 := by kernel_rfl
noncomputable def c10_32 : Code := match c10_30 with
  | .seq x _ => x
  | _ => .skip
noncomputable def c10_33 : Code := match c10_30 with
  | .seq _ x => x
  | _ => .skip
theorem cd_c10_30 : c10_30 = .seq c10_32 c10_33 := by kernel_rfl
noncomputable def r10_32 : Array Oper := regAt [1, 1, 1, 1, 1, 1, 1, 0, 0] body10
theorem cd_c10_32 : c10_32 = .region 10 r10_32 false := by kernel_rfl
noncomputable def c10_34 : Code := match c10_33 with
  | .block _ x => x
  | _ => .skip
theorem cd_c10_33 : c10_33 = .block 0 c10_34 := by kernel_rfl
noncomputable def c10_35 : Code := match c10_34 with
  | .loop x => x
  | _ => .skip
theorem cd_c10_34 : c10_34 = .loop c10_35 := by kernel_rfl
noncomputable def c10_36 : Code := match c10_35 with
  | .seq x _ => x
  | _ => .skip
noncomputable def c10_37 : Code := match c10_35 with
  | .seq _ x => x
  | _ => .skip
theorem cd_c10_35 : c10_35 = .seq c10_36 c10_37 := by kernel_rfl
noncomputable def r10_36 : Array Oper := regAt [1, 1, 1, 1, 1, 1, 1, 0, 1, 1, 0, 0] body10
theorem cd_c10_36 : c10_36 = .region 11 r10_36 false := by kernel_rfl
noncomputable def c10_38 : Code := match c10_37 with
  | .seq x _ => x
  | _ => .skip
noncomputable def c10_39 : Code := match c10_37 with
  | .seq _ x => x
  | _ => .skip
theorem cd_c10_37 : c10_37 = .seq c10_38 c10_39 := by kernel_rfl
theorem cd_c10_38 : c10_38 = .cond (.tmp 36) .skip (.exit 0) := by kernel_rfl
noncomputable def c10_41 : Code := match c10_39 with
  | .seq x _ => x
  | _ => .skip
noncomputable def c10_42 : Code := match c10_39 with
  | .seq _ x => x
  | _ => .skip
theorem cd_c10_39 : c10_39 = .seq c10_41 c10_42 := by kernel_rfl
noncomputable def c10_43 : Code := match c10_41 with
  | .block _ x => x
  | _ => .skip
theorem cd_c10_41 : c10_41 = .block 1 c10_43 := by kernel_rfl
noncomputable def c10_44 : Code := match c10_43 with
  | .seq x _ => x
  | _ => .skip
noncomputable def c10_45 : Code := match c10_43 with
  | .seq _ x => x
  | _ => .skip
theorem cd_c10_43 : c10_43 = .seq c10_44 c10_45 := by kernel_rfl
noncomputable def r10_44 : Array Oper := regAt [1, 1, 1, 1, 1, 1, 1, 0, 1, 1, 0, 1, 1, 0, 1, 0] body10
theorem cd_c10_44 : c10_44 = .region 12 r10_44 false := by kernel_rfl
noncomputable def r10_45 : Array Oper := regAt [1, 1, 1, 1, 1, 1, 1, 0, 1, 1, 0, 1, 1, 0, 1, 1] body10
theorem cd_c10_45 : c10_45 = .region 13 r10_45 true := by kernel_rfl
noncomputable def r10_42 : Array Oper := regAt [1, 1, 1, 1, 1, 1, 1, 0, 1, 1, 0, 1, 1, 1] body10
theorem cd_c10_42 : c10_42 = .region 14 r10_42 false := by kernel_rfl
noncomputable def c10_46 : Code := match c10_31 with
  | .seq x _ => x
  | _ => .skip
theorem cd_c10_31 : c10_31 = .seq c10_46 .ret := by kernel_rfl
noncomputable def r10_46 : Array Oper := regAt [1, 1, 1, 1, 1, 1, 1, 1, 0] body10
theorem cd_c10_46 : c10_46 = .region 15 r10_46 false := by kernel_rfl
noncomputable def body11 : Code := match Try.f11.body with
  | some c => c
  | none => .skip
noncomputable def c11_1 : Code := match code11 with
  | .seq x _ => x
  | _ => .skip
noncomputable def c11_2 : Code := match code11 with
  | .seq _ x => x
  | _ => .skip
theorem cd_code11 : code11 = .seq c11_1 c11_2 := by kernel_rfl
noncomputable def r11_1 : Array Oper := regAt [0] body11
theorem cd_c11_1 : c11_1 = .region 0 r11_1 false := by kernel_rfl
noncomputable def c11_3 : Code := match c11_2 with
  | .seq x _ => x
  | _ => .skip
noncomputable def c11_4 : Code := match c11_2 with
  | .seq _ x => x
  | _ => .skip
theorem cd_c11_2 : c11_2 = .seq c11_3 c11_4 := by kernel_rfl
noncomputable def r11_3 : Array Oper := regAt [1, 0] body11
theorem cd_c11_3 : c11_3 = .region 1 r11_3 false := by kernel_rfl
noncomputable def c11_5 : Code := match c11_4 with
  | .seq x _ => x
  | _ => .skip
noncomputable def c11_6 : Code := match c11_4 with
  | .seq _ x => x
  | _ => .skip
theorem cd_c11_4 : c11_4 = .seq c11_5 c11_6 := by kernel_rfl
noncomputable def c11_7 : Code := match c11_5 with
  | .seq x _ => x
  | _ => .skip
noncomputable def c11_8 : Code := match c11_5 with
  | .seq _ x => x
  | _ => .skip
theorem cd_c11_5 : c11_5 = .seq c11_7 c11_8 := by kernel_rfl
noncomputable def r11_7 : Array Oper := regAt [1, 1, 0, 0] body11
theorem cd_c11_7 : c11_7 = .region 2 r11_7 false := by kernel_rfl
noncomputable def c11_9 : Code := match c11_8 with
  | .block _ x => x
  | _ => .skip
theorem cd_c11_8 : c11_8 = .block 0 c11_9 := by kernel_rfl
noncomputable def c11_10 : Code := match c11_9 with
  | .rangeFunc _ _ x _ => x
  | _ => .skip
noncomputable def c11_11 : Code := match c11_9 with
  | .rangeFunc _ _ _ x => x
  | _ => .skip
theorem cd_c11_9 : c11_9 = .rangeFunc (.tmp 7) #[8, 9] c11_10 c11_11 := by kernel_rfl
noncomputable def r11_10 : Array Oper := regAt [1, 1, 0, 1, 1, 2] body11
theorem cd_c11_10 : c11_10 = .region 3 r11_10 false := by kernel_rfl
noncomputable def c11_12 : Code := match c11_11 with
  | .block _ x => x
  | _ => .skip
theorem cd_c11_11 : c11_11 = .block 1 c11_12 := by kernel_rfl
noncomputable def r11_12 : Array Oper := regAt [1, 1, 0, 1, 1, 3, 1] body11
theorem cd_c11_12 : c11_12 = .region 4 r11_12 true := by kernel_rfl
noncomputable def c11_13 : Code := match c11_6 with
  | .seq x _ => x
  | _ => .skip
theorem cd_c11_6 : c11_6 = .seq c11_13 .ret := by kernel_rfl
noncomputable def r11_13 : Array Oper := regAt [1, 1, 1, 0] body11
theorem cd_c11_13 : c11_13 = .region 5 r11_13 false := by kernel_rfl
noncomputable def body12 : Code := match Try.f12.body with
  | some c => c
  | none => .skip
noncomputable def c12_1 : Code := match code12 with
  | .seq x _ => x
  | _ => .skip
noncomputable def c12_2 : Code := match code12 with
  | .seq _ x => x
  | _ => .skip
theorem cd_code12 : code12 = .seq c12_1 c12_2 := by kernel_rfl
noncomputable def r12_1 : Array Oper := regAt [0] body12
theorem cd_c12_1 : c12_1 = .region 0 r12_1 false := by kernel_rfl
noncomputable def c12_3 : Code := match c12_2 with
  | .seq x _ => x
  | _ => .skip
noncomputable def c12_4 : Code := match c12_2 with
  | .seq _ x => x
  | _ => .skip
theorem cd_c12_2 : c12_2 = .seq c12_3 c12_4 := by kernel_rfl
noncomputable def c12_5 : Code := match c12_3 with
  | .seq x _ => x
  | _ => .skip
noncomputable def c12_6 : Code := match c12_3 with
  | .seq _ x => x
  | _ => .skip
theorem cd_c12_3 : c12_3 = .seq c12_5 c12_6 := by kernel_rfl
noncomputable def r12_5 : Array Oper := regAt [1, 0, 0] body12
theorem cd_c12_5 : c12_5 = .region 1 r12_5 false := by kernel_rfl
noncomputable def c12_7 : Code := match c12_6 with
  | .cond _ x _ => x
  | _ => .skip
theorem cd_c12_6 : c12_6 = .cond (.tmp 4) c12_7 .skip := by kernel_rfl
noncomputable def c12_9 : Code := match c12_7 with
  | .seq x _ => x
  | _ => .skip
theorem cd_c12_7 : c12_7 = .seq c12_9 .ret := by kernel_rfl
noncomputable def r12_9 : Array Oper := regAt [1, 0, 1, 1, 0] body12
theorem cd_c12_9 : c12_9 = .region 2 r12_9 false := by kernel_rfl
noncomputable def c12_10 : Code := match c12_4 with
  | .seq x _ => x
  | _ => .skip
theorem cd_c12_4 : c12_4 = .seq c12_10 .ret := by kernel_rfl
noncomputable def r12_10 : Array Oper := regAt [1, 1, 0] body12
theorem cd_c12_10 : c12_10 = .region 3 r12_10 false := by kernel_rfl
noncomputable def body13 : Code := match Try.f13.body with
  | some c => c
  | none => .skip
noncomputable def c13_1 : Code := match code13 with
  | .seq x _ => x
  | _ => .skip
noncomputable def c13_2 : Code := match code13 with
  | .seq _ x => x
  | _ => .skip
theorem cd_code13 : code13 = .seq c13_1 c13_2 := by kernel_rfl
noncomputable def r13_1 : Array Oper := regAt [0] body13
theorem cd_c13_1 : c13_1 = .region 0 r13_1 false := by kernel_rfl
noncomputable def c13_3 : Code := match c13_2 with
  | .seq x _ => x
  | _ => .skip
noncomputable def c13_4 : Code := match c13_2 with
  | .seq _ x => x
  | _ => .skip
theorem cd_c13_2 : c13_2 = .seq c13_3 c13_4 := by kernel_rfl
noncomputable def r13_3 : Array Oper := regAt [1, 0] body13
theorem cd_c13_3 : c13_3 = .region 1 r13_3 false := by kernel_rfl
noncomputable def c13_5 : Code := match c13_4 with
  | .seq x _ => x
  | _ => .skip
noncomputable def c13_6 : Code := match c13_4 with
  | .seq _ x => x
  | _ => .skip
theorem cd_c13_4 : c13_4 = .seq c13_5 c13_6 := by kernel_rfl
noncomputable def c13_7 : Code := match c13_5 with
  | .seq x _ => x
  | _ => .skip
noncomputable def c13_8 : Code := match c13_5 with
  | .seq _ x => x
  | _ => .skip
theorem cd_c13_5 : c13_5 = .seq c13_7 c13_8 := by kernel_rfl
noncomputable def r13_7 : Array Oper := regAt [1, 1, 0, 0] body13
theorem cd_c13_7 : c13_7 = .region 2 r13_7 false := by kernel_rfl
noncomputable def c13_9 : Code := match c13_8 with
  | .block _ x => x
  | _ => .skip
theorem cd_c13_8 : c13_8 = .block 0 c13_9 := by kernel_rfl
noncomputable def c13_10 : Code := match c13_9 with
  | .rangeFunc _ _ x _ => x
  | _ => .skip
noncomputable def c13_11 : Code := match c13_9 with
  | .rangeFunc _ _ _ x => x
  | _ => .skip
theorem cd_c13_9 : c13_9 = .rangeFunc (.tmp 6) #[7, 8] c13_10 c13_11 := by kernel_rfl
noncomputable def r13_10 : Array Oper := regAt [1, 1, 0, 1, 1, 2] body13
theorem cd_c13_10 : c13_10 = .region 3 r13_10 false := by kernel_rfl
noncomputable def c13_12 : Code := match c13_11 with
  | .block _ x => x
  | _ => .skip
theorem cd_c13_11 : c13_11 = .block 1 c13_12 := by kernel_rfl
noncomputable def c13_13 : Code := match c13_12 with
  | .seq x _ => x
  | _ => .skip
noncomputable def c13_14 : Code := match c13_12 with
  | .seq _ x => x
  | _ => .skip
theorem cd_c13_12 : c13_12 = .seq c13_13 c13_14 := by kernel_rfl
noncomputable def c13_15 : Code := match c13_13 with
  | .seq x _ => x
  | _ => .skip
noncomputable def c13_16 : Code := match c13_13 with
  | .seq _ x => x
  | _ => .skip
theorem cd_c13_13 : c13_13 = .seq c13_15 c13_16 := by kernel_rfl
noncomputable def r13_15 : Array Oper := regAt [1, 1, 0, 1, 1, 3, 1, 0, 0] body13
theorem cd_c13_15 : c13_15 = .region 4 r13_15 false := by kernel_rfl
theorem cd_c13_16 : c13_16 = .cond (.tmp 15) (.exit 0) .skip := by kernel_rfl
noncomputable def r13_14 : Array Oper := regAt [1, 1, 0, 1, 1, 3, 1, 1] body13
theorem cd_c13_14 : c13_14 = .region 5 r13_14 false := by kernel_rfl
noncomputable def c13_18 : Code := match c13_6 with
  | .seq x _ => x
  | _ => .skip
theorem cd_c13_6 : c13_6 = .seq c13_18 .ret := by kernel_rfl
noncomputable def r13_18 : Array Oper := regAt [1, 1, 1, 0] body13
theorem cd_c13_18 : c13_18 = .region 6 r13_18 false := by kernel_rfl
noncomputable def body14 : Code := match Try.f14.body with
  | some c => c
  | none => .skip
noncomputable def c14_1 : Code := match code14 with
  | .seq x _ => x
  | _ => .skip
noncomputable def c14_2 : Code := match code14 with
  | .seq _ x => x
  | _ => .skip
theorem cd_code14 : code14 = .seq c14_1 c14_2 := by kernel_rfl
noncomputable def r14_1 : Array Oper := regAt [0] body14
theorem cd_c14_1 : c14_1 = .region 0 r14_1 false := by kernel_rfl
noncomputable def c14_3 : Code := match c14_2 with
  | .seq x _ => x
  | _ => .skip
noncomputable def c14_4 : Code := match c14_2 with
  | .seq _ x => x
  | _ => .skip
theorem cd_c14_2 : c14_2 = .seq c14_3 c14_4 := by kernel_rfl
noncomputable def r14_3 : Array Oper := regAt [1, 0] body14
theorem cd_c14_3 : c14_3 = .region 1 r14_3 false := by kernel_rfl
noncomputable def c14_5 : Code := match c14_4 with
  | .seq x _ => x
  | _ => .skip
noncomputable def c14_6 : Code := match c14_4 with
  | .seq _ x => x
  | _ => .skip
theorem cd_c14_4 : c14_4 = .seq c14_5 c14_6 := by kernel_rfl
noncomputable def c14_7 : Code := match c14_5 with
  | .seq x _ => x
  | _ => .skip
noncomputable def c14_8 : Code := match c14_5 with
  | .seq _ x => x
  | _ => .skip
theorem cd_c14_5 : c14_5 = .seq c14_7 c14_8 := by kernel_rfl
noncomputable def r14_7 : Array Oper := regAt [1, 1, 0, 0] body14
theorem cd_c14_7 : c14_7 = .region 2 r14_7 false := by kernel_rfl
noncomputable def c14_9 : Code := match c14_8 with
  | .cond _ x _ => x
  | _ => .skip
theorem cd_c14_8 : c14_8 = .cond (.tmp 16) c14_9 .skip := by kernel_rfl
noncomputable def c14_11 : Code := match c14_9 with
  | .seq x _ => x
  | _ => .skip
theorem cd_c14_9 : c14_9 = .seq c14_11 .ret := by kernel_rfl
noncomputable def r14_11 : Array Oper := regAt [1, 1, 0, 1, 1, 0] body14
theorem cd_c14_11 : c14_11 = .region 3 r14_11 false := by kernel_rfl
noncomputable def c14_12 : Code := match c14_6 with
  | .seq x _ => x
  | _ => .skip
noncomputable def c14_13 : Code := match c14_6 with
  | .seq _ x => x
  | _ => .skip
theorem cd_c14_6 : c14_6 = .seq c14_12 c14_13 := by kernel_rfl
noncomputable def r14_12 : Array Oper := regAt [1, 1, 1, 0] body14
theorem cd_c14_12 : c14_12 = .region 4 r14_12 false := by kernel_rfl
noncomputable def c14_14 : Code := match c14_13 with
  | .seq x _ => x
  | _ => .skip
noncomputable def c14_15 : Code := match c14_13 with
  | .seq _ x => x
  | _ => .skip
theorem cd_c14_13 : c14_13 = .seq c14_14 c14_15 := by kernel_rfl
noncomputable def r14_14 : Array Oper := regAt [1, 1, 1, 1, 0] body14
theorem cd_c14_14 : c14_14 = .region 5 r14_14 false := by kernel_rfl
noncomputable def c14_16 : Code := match c14_15 with
  | .seq x _ => x
  | _ => .skip
noncomputable def c14_17 : Code := match c14_15 with
  | .seq _ x => x
  | _ => .skip
theorem cd_c14_15 : c14_15 = .seq c14_16 c14_17 := by kernel_rfl
noncomputable def c14_18 : Code := match c14_16 with
  | .seq x _ => x
  | _ => .skip
noncomputable def c14_19 : Code := match c14_16 with
  | .seq _ x => x
  | _ => .skip
theorem cd_c14_16 : c14_16 = .seq c14_18 c14_19 := by kernel_rfl
noncomputable def r14_18 : Array Oper := regAt [1, 1, 1, 1, 1, 0, 0] body14
theorem cd_c14_18 : c14_18 = .region 6 r14_18 false := by kernel_rfl
noncomputable def c14_20 : Code := match c14_19 with
  | .cond _ x _ => x
  | _ => .skip
theorem cd_c14_19 : c14_19 = .cond (.tmp 30) c14_20 .skip := by kernel_rfl
noncomputable def c14_22 : Code := match c14_20 with
  | .seq x _ => x
  | _ => .skip
noncomputable def c14_23 : Code := match c14_20 with
  | .seq _ x => x
  | _ => .skip
theorem cd_c14_20 : c14_20 = .seq c14_22 c14_23 := by kernel_rfl
noncomputable def r14_22 : Array Oper := regAt [1, 1, 1, 1, 1, 0, 1, 1, 0] body14
theorem cd_c14_22 : c14_22 = .region 7 r14_22 false := by kernel_rfl
noncomputable def c14_24 : Code := match c14_23 with
  | .seq x _ => x
  | _ => .skip
noncomputable def c14_25 : Code := match c14_23 with
  | .seq _ x => x
  | _ => .skip
theorem cd_c14_23 : c14_23 = .seq c14_24 c14_25 := by kernel_rfl
noncomputable def r14_24 : Array Oper := regAt [1, 1, 1, 1, 1, 0, 1, 1, 1, 0] body14
theorem cd_c14_24 : c14_24 = .region 8 r14_24 false := by kernel_rfl
noncomputable def c14_26 : Code := match c14_25 with
  | .cond _ x _ => x
  | _ => .skip
theorem cd_c14_25 : c14_25 = .cond (.tmp 35) c14_26 .skip := by kernel_rfl
noncomputable def c14_28 : Code := match c14_26 with
  | .seq x _ => x
  | _ => .skip
theorem cd_c14_26 : c14_26 = .seq c14_28 .ret := by kernel_rfl
noncomputable def r14_28 : Array Oper := regAt [1, 1, 1, 1, 1, 0, 1, 1, 1, 1, 1, 0] body14
theorem cd_c14_28 : c14_28 = .region 9 r14_28 false := by kernel_rfl
noncomputable def c14_29 : Code := match c14_17 with
  | .seq x _ => x
  | _ => .skip
theorem cd_c14_17 : c14_17 = .seq c14_29 .ret := by kernel_rfl
noncomputable def r14_29 : Array Oper := regAt [1, 1, 1, 1, 1, 1, 0] body14
theorem cd_c14_29 : c14_29 = .region 10 r14_29 false := by kernel_rfl
noncomputable def body15 : Code := match Try.f15.body with
  | some c => c
  | none => .skip
noncomputable def c15_1 : Code := match code15 with
  | .seq x _ => x
  | _ => .skip
noncomputable def c15_2 : Code := match code15 with
  | .seq _ x => x
  | _ => .skip
theorem cd_code15 : code15 = .seq c15_1 c15_2 := by kernel_rfl
noncomputable def r15_1 : Array Oper := regAt [0] body15
theorem cd_c15_1 : c15_1 = .region 0 r15_1 false := by kernel_rfl
noncomputable def c15_3 : Code := match c15_2 with
  | .seq x _ => x
  | _ => .skip
noncomputable def c15_4 : Code := match c15_2 with
  | .seq _ x => x
  | _ => .skip
theorem cd_c15_2 : c15_2 = .seq c15_3 c15_4 := by kernel_rfl
noncomputable def r15_3 : Array Oper := regAt [1, 0] body15
theorem cd_c15_3 : c15_3 = .region 1 r15_3 false := by kernel_rfl
noncomputable def c15_5 : Code := match c15_4 with
  | .seq x _ => x
  | _ => .skip
noncomputable def c15_6 : Code := match c15_4 with
  | .seq _ x => x
  | _ => .skip
theorem cd_c15_4 : c15_4 = .seq c15_5 c15_6 := by kernel_rfl
noncomputable def r15_5 : Array Oper := regAt [1, 1, 0] body15
theorem cd_c15_5 : c15_5 = .region 2 r15_5 false := by kernel_rfl
noncomputable def c15_7 : Code := match c15_6 with
  | .seq x _ => x
  | _ => .skip
noncomputable def c15_8 : Code := match c15_6 with
  | .seq _ x => x
  | _ => .skip
theorem cd_c15_6 : c15_6 = .seq c15_7 c15_8 := by kernel_rfl
noncomputable def c15_9 : Code := match c15_7 with
  | .seq x _ => x
  | _ => .skip
noncomputable def c15_10 : Code := match c15_7 with
  | .seq _ x => x
  | _ => .skip
theorem cd_c15_7 : c15_7 = .seq c15_9 c15_10 := by kernel_rfl
noncomputable def r15_9 : Array Oper := regAt [1, 1, 1, 0, 0] body15
theorem cd_c15_9 : c15_9 = .region 3 r15_9 false := by kernel_rfl
noncomputable def c15_11 : Code := match c15_10 with
  | .cond _ x _ => x
  | _ => .skip
theorem cd_c15_10 : c15_10 = .cond (.tmp 31) c15_11 .skip := by kernel_rfl
noncomputable def c15_13 : Code := match c15_11 with
  | .seq x _ => x
  | _ => .skip
theorem cd_c15_11 : c15_11 = .seq c15_13 .ret := by kernel_rfl
noncomputable def r15_13 : Array Oper := regAt [1, 1, 1, 0, 1, 1, 0] body15
theorem cd_c15_13 : c15_13 = .region 4 r15_13 false := by kernel_rfl
noncomputable def c15_14 : Code := match c15_8 with
  | .seq x _ => x
  | _ => .skip
theorem cd_c15_8 : c15_8 = .seq c15_14 .ret := by kernel_rfl
noncomputable def r15_14 : Array Oper := regAt [1, 1, 1, 1, 0] body15
theorem cd_c15_14 : c15_14 = .region 5 r15_14 false := by kernel_rfl
noncomputable def body17 : Code := match Try.f17.body with
  | some c => c
  | none => .skip
noncomputable def c17_1 : Code := match code17 with
  | .seq x _ => x
  | _ => .skip
noncomputable def c17_2 : Code := match code17 with
  | .seq _ x => x
  | _ => .skip
theorem cd_code17 : code17 = .seq c17_1 c17_2 := by kernel_rfl
noncomputable def r17_1 : Array Oper := regAt [0] body17
theorem cd_c17_1 : c17_1 = .region 0 r17_1 false := by kernel_rfl
noncomputable def c17_3 : Code := match c17_2 with
  | .seq x _ => x
  | _ => .skip
noncomputable def c17_4 : Code := match c17_2 with
  | .seq _ x => x
  | _ => .skip
theorem cd_c17_2 : c17_2 = .seq c17_3 c17_4 := by kernel_rfl
noncomputable def c17_5 : Code := match c17_3 with
  | .seq x _ => x
  | _ => .skip
noncomputable def c17_6 : Code := match c17_3 with
  | .seq _ x => x
  | _ => .skip
theorem cd_c17_3 : c17_3 = .seq c17_5 c17_6 := by kernel_rfl
noncomputable def r17_5 : Array Oper := regAt [1, 0, 0] body17
theorem cd_c17_5 : c17_5 = .region 1 r17_5 false := by kernel_rfl
noncomputable def c17_7 : Code := match c17_6 with
  | .cond _ x _ => x
  | _ => .skip
theorem cd_c17_6 : c17_6 = .cond (.tmp 10) c17_7 .skip := by kernel_rfl
noncomputable def c17_9 : Code := match c17_7 with
  | .seq x _ => x
  | _ => .skip
theorem cd_c17_7 : c17_7 = .seq c17_9 .ret := by kernel_rfl
noncomputable def r17_9 : Array Oper := regAt [1, 0, 1, 1, 0] body17
theorem cd_c17_9 : c17_9 = .region 2 r17_9 false := by kernel_rfl
noncomputable def c17_10 : Code := match c17_4 with
  | .seq x _ => x
  | _ => .skip
noncomputable def c17_11 : Code := match c17_4 with
  | .seq _ x => x
  | _ => .skip
theorem cd_c17_4 : c17_4 = .seq c17_10 c17_11 := by kernel_rfl
noncomputable def c17_12 : Code := match c17_10 with
  | .seq x _ => x
  | _ => .skip
noncomputable def c17_13 : Code := match c17_10 with
  | .seq _ x => x
  | _ => .skip
theorem cd_c17_10 : c17_10 = .seq c17_12 c17_13 := by kernel_rfl
noncomputable def r17_12 : Array Oper := regAt [1, 1, 0, 0] body17
theorem cd_c17_12 : c17_12 = .region 3 r17_12 false := by kernel_rfl
noncomputable def c17_14 : Code := match c17_13 with
  | .block _ x => x
  | _ => .skip
theorem cd_c17_13 : c17_13 = .block 0 c17_14 := by kernel_rfl
noncomputable def c17_15 : Code := match c17_14 with
  | .loop x => x
  | _ => .skip
theorem cd_c17_14 : c17_14 = .loop c17_15 := by kernel_rfl
noncomputable def c17_16 : Code := match c17_15 with
  | .seq x _ => x
  | _ => .skip
noncomputable def c17_17 : Code := match c17_15 with
  | .seq _ x => x
  | _ => .skip
theorem cd_c17_15 : c17_15 = .seq c17_16 c17_17 := by kernel_rfl
noncomputable def c17_18 : Code := match c17_16 with
  | .seq x _ => x
  | _ => .skip
noncomputable def c17_19 : Code := match c17_16 with
  | .seq _ x => x
  | _ => .skip
theorem cd_c17_16 : c17_16 = .seq c17_18 c17_19 := by kernel_rfl
noncomputable def r17_18 : Array Oper := regAt [1, 1, 0, 1, 1, 0, 0, 0] body17
theorem cd_c17_18 : c17_18 = .region 4 r17_18 false := by kernel_rfl
theorem cd_c17_19 : c17_19 = .cond (.tmp 14) .skip (.exit 0) := by kernel_rfl
noncomputable def c17_21 : Code := match c17_17 with
  | .seq x _ => x
  | _ => .skip
noncomputable def c17_22 : Code := match c17_17 with
  | .seq _ x => x
  | _ => .skip
theorem cd_c17_17 : c17_17 = .seq c17_21 c17_22 := by kernel_rfl
noncomputable def c17_23 : Code := match c17_21 with
  | .block _ x => x
  | _ => .skip
theorem cd_c17_21 : c17_21 = .block 1 c17_23 := by kernel_rfl
noncomputable def c17_24 : Code := match c17_23 with
  | .seq x _ => x
  | _ => .skip
noncomputable def c17_25 : Code := match c17_23 with
  | .seq _ x => x
  | _ => .skip
theorem cd_c17_23 : c17_23 = .seq c17_24 c17_25 := by kernel_rfl
noncomputable def r17_24 : Array Oper := regAt [1, 1, 0, 1, 1, 0, 1, 0, 1, 0] body17
theorem cd_c17_24 : c17_24 = .region 6 r17_24 true := by kernel_rfl
noncomputable def c17_26 : Code := match c17_25 with
  | .cond _ x _ => x
  | _ => .skip
theorem cd_c17_25 : c17_25 = .cond (.tmp 26) c17_26 .skip := by kernel_rfl
noncomputable def c17_28 : Code := match c17_26 with
  | .seq x _ => x
  | _ => .skip
theorem cd_c17_26 : c17_26 = .seq c17_28 .ret := by kernel_rfl
noncomputable def r17_28 : Array Oper := regAt [1, 1, 0, 1, 1, 0, 1, 0, 1, 1, 1, 0] body17
theorem cd_c17_28 : c17_28 = .region 7 r17_28 false := by kernel_rfl
noncomputable def r17_22 : Array Oper := regAt [1, 1, 0, 1, 1, 0, 1, 1] body17
theorem cd_c17_22 : c17_22 = .region 5 r17_22 false := by kernel_rfl
noncomputable def c17_29 : Code := match c17_11 with
  | .seq x _ => x
  | _ => .skip
theorem cd_c17_11 : c17_11 = .seq c17_29 .ret := by kernel_rfl
noncomputable def r17_29 : Array Oper := regAt [1, 1, 1, 0] body17
theorem cd_c17_29 : c17_29 = .region 8 r17_29 false := by kernel_rfl
noncomputable def body18 : Code := match Try.f18.body with
  | some c => c
  | none => .skip
noncomputable def c18_1 : Code := match code18 with
  | .seq x _ => x
  | _ => .skip
noncomputable def c18_2 : Code := match code18 with
  | .seq _ x => x
  | _ => .skip
theorem cd_code18 : code18 = .seq c18_1 c18_2 := by kernel_rfl
noncomputable def r18_1 : Array Oper := regAt [0] body18
theorem cd_c18_1 : c18_1 = .region 0 r18_1 false := by kernel_rfl
noncomputable def c18_3 : Code := match c18_2 with
  | .seq x _ => x
  | _ => .skip
noncomputable def c18_4 : Code := match c18_2 with
  | .seq _ x => x
  | _ => .skip
theorem cd_c18_2 : c18_2 = .seq c18_3 c18_4 := by kernel_rfl
noncomputable def c18_5 : Code := match c18_3 with
  | .block _ x => x
  | _ => .skip
theorem cd_c18_3 : c18_3 = .block 0 c18_5 := by kernel_rfl
noncomputable def c18_6 : Code := match c18_5 with
  | .seq x _ => x
  | _ => .skip
noncomputable def c18_7 : Code := match c18_5 with
  | .seq _ x => x
  | _ => .skip
theorem cd_c18_5 : c18_5 = .seq c18_6 c18_7 := by kernel_rfl
noncomputable def r18_6 : Array Oper := regAt [1, 0, 1, 0] body18
theorem cd_c18_6 : c18_6 = .region 1 r18_6 false := by kernel_rfl
noncomputable def c18_8 : Code := match c18_7 with
  | .cond _ x _ => x
  | _ => .skip
noncomputable def c18_9 : Code := match c18_7 with
  | .cond _ _ x => x
  | _ => .skip
theorem cd_c18_7 : c18_7 = .cond (.tmp 5) c18_8 c18_9 := by kernel_rfl
noncomputable def c18_11 : Code := match c18_8 with
  | .seq x _ => x
  | _ => .skip
theorem cd_c18_8 : c18_8 = .seq c18_11 .ret := by kernel_rfl
noncomputable def r18_11 : Array Oper := regAt [1, 0, 1, 1, 1, 0] body18
theorem cd_c18_11 : c18_11 = .region 2 r18_11 false := by kernel_rfl
noncomputable def c18_12 : Code := match c18_9 with
  | .seq x _ => x
  | _ => .skip
noncomputable def c18_13 : Code := match c18_9 with
  | .seq _ x => x
  | _ => .skip
theorem cd_c18_9 : c18_9 = .seq c18_12 c18_13 := by kernel_rfl
noncomputable def r18_12 : Array Oper := regAt [1, 0, 1, 1, 2, 0] body18
theorem cd_c18_12 : c18_12 = .region 3 r18_12 false := by kernel_rfl
noncomputable def c18_14 : Code := match c18_13 with
  | .cond _ x _ => x
  | _ => .skip
theorem cd_c18_13 : c18_13 = .cond (.tmp 8) c18_14 .skip := by kernel_rfl
noncomputable def c18_16 : Code := match c18_14 with
  | .seq x _ => x
  | _ => .skip
theorem cd_c18_14 : c18_14 = .seq c18_16 .ret := by kernel_rfl
noncomputable def r18_16 : Array Oper := regAt [1, 0, 1, 1, 2, 1, 1, 0] body18
theorem cd_c18_16 : c18_16 = .region 4 r18_16 false := by kernel_rfl
noncomputable def c18_17 : Code := match c18_4 with
  | .seq x _ => x
  | _ => .skip
noncomputable def c18_18 : Code := match c18_4 with
  | .seq _ x => x
  | _ => .skip
theorem cd_c18_4 : c18_4 = .seq c18_17 c18_18 := by kernel_rfl
noncomputable def r18_17 : Array Oper := regAt [1, 1, 0] body18
theorem cd_c18_17 : c18_17 = .region 5 r18_17 false := by kernel_rfl
noncomputable def c18_19 : Code := match c18_18 with
  | .seq x _ => x
  | _ => .skip
theorem cd_c18_18 : c18_18 = .seq c18_19 .ret := by kernel_rfl
noncomputable def r18_19 : Array Oper := regAt [1, 1, 1, 0] body18
theorem cd_c18_19 : c18_19 = .region 6 r18_19 false := by kernel_rfl
noncomputable def body19 : Code := match Try.f19.body with
  | some c => c
  | none => .skip
noncomputable def c19_1 : Code := match code19 with
  | .seq x _ => x
  | _ => .skip
noncomputable def c19_2 : Code := match code19 with
  | .seq _ x => x
  | _ => .skip
theorem cd_code19 : code19 = .seq c19_1 c19_2 := by kernel_rfl
noncomputable def r19_1 : Array Oper := regAt [0] body19
theorem cd_c19_1 : c19_1 = .region 0 r19_1 false := by kernel_rfl
noncomputable def c19_3 : Code := match c19_2 with
  | .seq x _ => x
  | _ => .skip
noncomputable def c19_4 : Code := match c19_2 with
  | .seq _ x => x
  | _ => .skip
theorem cd_c19_2 : c19_2 = .seq c19_3 c19_4 := by kernel_rfl
noncomputable def c19_5 : Code := match c19_3 with
  | .seq x _ => x
  | _ => .skip
noncomputable def c19_6 : Code := match c19_3 with
  | .seq _ x => x
  | _ => .skip
theorem cd_c19_3 : c19_3 = .seq c19_5 c19_6 := by kernel_rfl
noncomputable def r19_5 : Array Oper := regAt [1, 0, 0] body19
theorem cd_c19_5 : c19_5 = .region 1 r19_5 false := by kernel_rfl
noncomputable def c19_7 : Code := match c19_6 with
  | .block _ x => x
  | _ => .skip
theorem cd_c19_6 : c19_6 = .block 0 c19_7 := by kernel_rfl
noncomputable def c19_8 : Code := match c19_7 with
  | .loop x => x
  | _ => .skip
theorem cd_c19_7 : c19_7 = .loop c19_8 := by kernel_rfl
noncomputable def c19_9 : Code := match c19_8 with
  | .seq x _ => x
  | _ => .skip
noncomputable def c19_10 : Code := match c19_8 with
  | .seq _ x => x
  | _ => .skip
theorem cd_c19_8 : c19_8 = .seq c19_9 c19_10 := by kernel_rfl
noncomputable def c19_11 : Code := match c19_9 with
  | .seq x _ => x
  | _ => .skip
noncomputable def c19_12 : Code := match c19_9 with
  | .seq _ x => x
  | _ => .skip
theorem cd_c19_9 : c19_9 = .seq c19_11 c19_12 := by kernel_rfl
noncomputable def r19_11 : Array Oper := regAt [1, 0, 1, 1, 0, 0, 0] body19
theorem cd_c19_11 : c19_11 = .region 2 r19_11 false := by kernel_rfl
theorem cd_c19_12 : c19_12 = .cond (.tmp 11) .skip (.exit 0) := by kernel_rfl
noncomputable def c19_14 : Code := match c19_10 with
  | .seq x _ => x
  | _ => .skip
noncomputable def c19_15 : Code := match c19_10 with
  | .seq _ x => x
  | _ => .skip
theorem cd_c19_10 : c19_10 = .seq c19_14 c19_15 := by kernel_rfl
noncomputable def c19_16 : Code := match c19_14 with
  | .block _ x => x
  | _ => .skip
theorem cd_c19_14 : c19_14 = .block 1 c19_16 := by kernel_rfl
noncomputable def c19_17 : Code := match c19_16 with
  | .seq x _ => x
  | _ => .skip
noncomputable def c19_18 : Code := match c19_16 with
  | .seq _ x => x
  | _ => .skip
theorem cd_c19_16 : c19_16 = .seq c19_17 c19_18 := by kernel_rfl
noncomputable def r19_17 : Array Oper := regAt [1, 0, 1, 1, 0, 1, 0, 1, 0] body19
theorem cd_c19_17 : c19_17 = .region 4 r19_17 false := by kernel_rfl
noncomputable def c19_19 : Code := match c19_18 with
  | .cond _ x _ => x
  | _ => .skip
theorem cd_c19_18 : c19_18 = .cond (.tmp 27) c19_19 .skip := by kernel_rfl
noncomputable def c19_21 : Code := match c19_19 with
  | .seq x _ => x
  | _ => .skip
theorem cd_c19_19 : c19_19 = .seq c19_21 .ret := by kernel_rfl
noncomputable def r19_21 : Array Oper := regAt [1, 0, 1, 1, 0, 1, 0, 1, 1, 1, 0] body19
theorem cd_c19_21 : c19_21 = .region 5 r19_21 false := by kernel_rfl
noncomputable def r19_15 : Array Oper := regAt [1, 0, 1, 1, 0, 1, 1] body19
theorem cd_c19_15 : c19_15 = .region 3 r19_15 false := by kernel_rfl
noncomputable def c19_22 : Code := match c19_4 with
  | .seq x _ => x
  | _ => .skip
theorem cd_c19_4 : c19_4 = .seq c19_22 .ret := by kernel_rfl
noncomputable def r19_22 : Array Oper := regAt [1, 1, 0] body19
theorem cd_c19_22 : c19_22 = .region 6 r19_22 false := by kernel_rfl
noncomputable def body20 : Code := match Try.f20.body with
  | some c => c
  | none => .skip
noncomputable def c20_1 : Code := match code20 with
  | .seq x _ => x
  | _ => .skip
noncomputable def c20_2 : Code := match code20 with
  | .seq _ x => x
  | _ => .skip
theorem cd_code20 : code20 = .seq c20_1 c20_2 := by kernel_rfl
noncomputable def r20_1 : Array Oper := regAt [0] body20
theorem cd_c20_1 : c20_1 = .region 0 r20_1 false := by kernel_rfl
noncomputable def c20_3 : Code := match c20_2 with
  | .seq x _ => x
  | _ => .skip
noncomputable def c20_4 : Code := match c20_2 with
  | .seq _ x => x
  | _ => .skip
theorem cd_c20_2 : c20_2 = .seq c20_3 c20_4 := by kernel_rfl
noncomputable def c20_5 : Code := match c20_3 with
  | .seq x _ => x
  | _ => .skip
noncomputable def c20_6 : Code := match c20_3 with
  | .seq _ x => x
  | _ => .skip
theorem cd_c20_3 : c20_3 = .seq c20_5 c20_6 := by kernel_rfl
noncomputable def r20_5 : Array Oper := regAt [1, 0, 0] body20
theorem cd_c20_5 : c20_5 = .region 1 r20_5 false := by kernel_rfl
noncomputable def c20_7 : Code := match c20_6 with
  | .cond _ x _ => x
  | _ => .skip
theorem cd_c20_6 : c20_6 = .cond (.tmp 6) c20_7 .skip := by kernel_rfl
noncomputable def c20_9 : Code := match c20_7 with
  | .seq x _ => x
  | _ => .skip
theorem cd_c20_7 : c20_7 = .seq c20_9 .ret := by kernel_rfl
noncomputable def r20_9 : Array Oper := regAt [1, 0, 1, 1, 0] body20
theorem cd_c20_9 : c20_9 = .region 2 r20_9 false := by kernel_rfl
noncomputable def c20_10 : Code := match c20_4 with
  | .seq x _ => x
  | _ => .skip
noncomputable def c20_11 : Code := match c20_4 with
  | .seq _ x => x
  | _ => .skip
theorem cd_c20_4 : c20_4 = .seq c20_10 c20_11 := by kernel_rfl
noncomputable def r20_10 : Array Oper := regAt [1, 1, 0] body20
theorem cd_c20_10 : c20_10 = .region 3 r20_10 false := by kernel_rfl
noncomputable def c20_12 : Code := match c20_11 with
  | .seq x _ => x
  | _ => .skip
noncomputable def c20_13 : Code := match c20_11 with
  | .seq _ x => x
  | _ => .skip
theorem cd_c20_11 : c20_11 = .seq c20_12 c20_13 := by kernel_rfl
noncomputable def c20_14 : Code := match c20_12 with
  | .seq x _ => x
  | _ => .skip
noncomputable def c20_15 : Code := match c20_12 with
  | .seq _ x => x
  | _ => .skip
theorem cd_c20_12 : c20_12 = .seq c20_14 c20_15 := by kernel_rfl
noncomputable def r20_14 : Array Oper := regAt [1, 1, 1, 0, 0] body20
theorem cd_c20_14 : c20_14 = .region 4 r20_14 false := by kernel_rfl
noncomputable def c20_16 : Code := match c20_15 with
  | .cond _ x _ => x
  | _ => .skip
theorem cd_c20_15 : c20_15 = .cond (.tmp 11) c20_16 .skip := by kernel_rfl
noncomputable def r20_16 : Array Oper := regAt [1, 1, 1, 0, 1, 1] body20
theorem cd_c20_16 : c20_16 = .region 5 r20_16 false := by kernel_rfl
noncomputable def c20_18 : Code := match c20_13 with
  | .seq x _ => x
  | _ => .skip
theorem cd_c20_13 : c20_13 = .seq c20_18 .ret := by kernel_rfl
noncomputable def r20_18 : Array Oper := regAt [1, 1, 1, 1, 0] body20
theorem cd_c20_18 : c20_18 = .region 6 r20_18 false := by kernel_rfl
noncomputable def body21 : Code := match Try.f21.body with
  | some c => c
  | none => .skip
noncomputable def c21_1 : Code := match code21 with
  | .seq x _ => x
  | _ => .skip
noncomputable def c21_2 : Code := match code21 with
  | .seq _ x => x
  | _ => .skip
theorem cd_code21 : code21 = .seq c21_1 c21_2 := by kernel_rfl
noncomputable def r21_1 : Array Oper := regAt [0] body21
theorem cd_c21_1 : c21_1 = .region 0 r21_1 false := by kernel_rfl
noncomputable def c21_3 : Code := match c21_2 with
  | .seq x _ => x
  | _ => .skip
noncomputable def c21_4 : Code := match c21_2 with
  | .seq _ x => x
  | _ => .skip
theorem cd_c21_2 : c21_2 = .seq c21_3 c21_4 := by kernel_rfl
noncomputable def r21_3 : Array Oper := regAt [1, 0] body21
theorem cd_c21_3 : c21_3 = .region 1 r21_3 false := by kernel_rfl
noncomputable def c21_5 : Code := match c21_4 with
  | .seq x _ => x
  | _ => .skip
noncomputable def c21_6 : Code := match c21_4 with
  | .seq _ x => x
  | _ => .skip
theorem cd_c21_4 : c21_4 = .seq c21_5 c21_6 := by kernel_rfl
noncomputable def c21_7 : Code := match c21_5 with
  | .seq x _ => x
  | _ => .skip
noncomputable def c21_8 : Code := match c21_5 with
  | .seq _ x => x
  | _ => .skip
theorem cd_c21_5 : c21_5 = .seq c21_7 c21_8 := by kernel_rfl
noncomputable def r21_7 : Array Oper := regAt [1, 1, 0, 0] body21
theorem cd_c21_7 : c21_7 = .region 2 r21_7 false := by kernel_rfl
noncomputable def c21_9 : Code := match c21_8 with
  | .cond _ x _ => x
  | _ => .skip
theorem cd_c21_8 : c21_8 = .cond (.tmp 14) c21_9 .skip := by kernel_rfl
noncomputable def c21_11 : Code := match c21_9 with
  | .seq x _ => x
  | _ => .skip
theorem cd_c21_9 : c21_9 = .seq c21_11 .ret := by kernel_rfl
noncomputable def r21_11 : Array Oper := regAt [1, 1, 0, 1, 1, 0] body21
theorem cd_c21_11 : c21_11 = .region 3 r21_11 false := by kernel_rfl
noncomputable def c21_12 : Code := match c21_6 with
  | .seq x _ => x
  | _ => .skip
noncomputable def c21_13 : Code := match c21_6 with
  | .seq _ x => x
  | _ => .skip
theorem cd_c21_6 : c21_6 = .seq c21_12 c21_13 := by kernel_rfl
noncomputable def c21_14 : Code := match c21_12 with
  | .seq x _ => x
  | _ => .skip
noncomputable def c21_15 : Code := match c21_12 with
  | .seq _ x => x
  | _ => .skip
theorem cd_c21_12 : c21_12 = .seq c21_14 c21_15 := by kernel_rfl
noncomputable def r21_14 : Array Oper := regAt [1, 1, 1, 0, 0] body21
theorem cd_c21_14 : c21_14 = .region 4 r21_14 false := by kernel_rfl
noncomputable def c21_16 : Code := match c21_15 with
  | .block _ x => x
  | _ => .skip
theorem cd_c21_15 : c21_15 = .block 0 c21_16 := by kernel_rfl
noncomputable def c21_17 : Code := match c21_16 with
  | .loop x => x
  | _ => .skip
theorem cd_c21_16 : c21_16 = .loop c21_17 := by kernel_rfl
noncomputable def c21_18 : Code := match c21_17 with
  | .seq x _ => x
  | _ => .skip
noncomputable def c21_19 : Code := match c21_17 with
  | .seq _ x => x
  | _ => .skip
theorem cd_c21_17 : c21_17 = .seq c21_18 c21_19 := by kernel_rfl
noncomputable def c21_20 : Code := match c21_18 with
  | .seq x _ => x
  | _ => .skip
noncomputable def c21_21 : Code := match c21_18 with
  | .seq _ x => x
  | _ => .skip
theorem cd_c21_18 : c21_18 = .seq c21_20 c21_21 := by kernel_rfl
noncomputable def r21_20 : Array Oper := regAt [1, 1, 1, 0, 1, 1, 0, 0, 0] body21
theorem cd_c21_20 : c21_20 = .region 5 r21_20 false := by kernel_rfl
theorem cd_c21_21 : c21_21 = .cond (.tmp 18) .skip (.exit 0) := by kernel_rfl
noncomputable def c21_23 : Code := match c21_19 with
  | .seq x _ => x
  | _ => .skip
noncomputable def c21_24 : Code := match c21_19 with
  | .seq _ x => x
  | _ => .skip
theorem cd_c21_19 : c21_19 = .seq c21_23 c21_24 := by kernel_rfl
noncomputable def c21_25 : Code := match c21_23 with
  | .block _ x => x
  | _ => .skip
theorem cd_c21_23 : c21_23 = .block 1 c21_25 := by kernel_rfl
noncomputable def c21_26 : Code := match c21_25 with
  | .seq x _ => x
  | _ => .skip
noncomputable def c21_27 : Code := match c21_25 with
  | .seq _ x => x
  | _ => .skip
theorem cd_c21_25 : c21_25 = .seq c21_26 c21_27 := by kernel_rfl
noncomputable def r21_26 : Array Oper := regAt [1, 1, 1, 0, 1, 1, 0, 1, 0, 1, 0] body21
theorem cd_c21_26 : c21_26 = .region 7 r21_26 false := by kernel_rfl
noncomputable def c21_28 : Code := match c21_27 with
  | .cond _ x _ => x
  | _ => .skip
theorem cd_c21_27 : c21_27 = .cond (.tmp 37) c21_28 .skip := by kernel_rfl
noncomputable def c21_30 : Code := match c21_28 with
  | .seq x _ => x
  | _ => .skip
theorem cd_c21_28 : c21_28 = .seq c21_30 .ret := by kernel_rfl
noncomputable def r21_30 : Array Oper := regAt [1, 1, 1, 0, 1, 1, 0, 1, 0, 1, 1, 1, 0] body21
theorem cd_c21_30 : c21_30 = .region 8 r21_30 false := by kernel_rfl
noncomputable def r21_24 : Array Oper := regAt [1, 1, 1, 0, 1, 1, 0, 1, 1] body21
theorem cd_c21_24 : c21_24 = .region 6 r21_24 false := by kernel_rfl
noncomputable def c21_31 : Code := match c21_13 with
  | .seq x _ => x
  | _ => .skip
noncomputable def c21_32 : Code := match c21_13 with
  | .seq _ x => x
  | _ => .skip
theorem cd_c21_13 : c21_13 = .seq c21_31 c21_32 := by kernel_rfl
noncomputable def c21_33 : Code := match c21_31 with
  | .seq x _ => x
  | _ => .skip
noncomputable def c21_34 : Code := match c21_31 with
  | .seq _ x => x
  | _ => .skip
theorem cd_c21_31 : c21_31 = .seq c21_33 c21_34 := by kernel_rfl
noncomputable def r21_33 : Array Oper := regAt [1, 1, 1, 1, 0, 0] body21
theorem cd_c21_33 : c21_33 = .region 9 r21_33 false := by kernel_rfl
noncomputable def c21_35 : Code := match c21_34 with
  | .cond _ x _ => x
  | _ => .skip
theorem cd_c21_34 : c21_34 = .cond (.tmp 46) c21_35 .skip := by kernel_rfl
noncomputable def c21_37 : Code := match c21_35 with
  | .seq x _ => x
  | _ => .skip
theorem cd_c21_35 : c21_35 = .seq c21_37 .ret := by kernel_rfl
noncomputable def r21_37 : Array Oper := regAt [1, 1, 1, 1, 0, 1, 1, 0] body21
theorem cd_c21_37 : c21_37 = .region 10 r21_37 false := by kernel_rfl
noncomputable def c21_38 : Code := match c21_32 with
  | .seq x _ => x
  | _ => .skip
theorem cd_c21_32 : c21_32 = .seq c21_38 .ret := by kernel_rfl
noncomputable def r21_38 : Array Oper := regAt [1, 1, 1, 1, 1, 0] body21
theorem cd_c21_38 : c21_38 = .region 11 r21_38 false := by kernel_rfl
noncomputable def body22 : Code := match Try.f22.body with
  | some c => c
  | none => .skip
noncomputable def c22_1 : Code := match code22 with
  | .seq x _ => x
  | _ => .skip
noncomputable def c22_2 : Code := match code22 with
  | .seq _ x => x
  | _ => .skip
theorem cd_code22 : code22 = .seq c22_1 c22_2 := by kernel_rfl
noncomputable def r22_1 : Array Oper := regAt [0] body22
theorem cd_c22_1 : c22_1 = .region 0 r22_1 false := by kernel_rfl
noncomputable def c22_3 : Code := match c22_2 with
  | .seq x _ => x
  | _ => .skip
noncomputable def c22_4 : Code := match c22_2 with
  | .seq _ x => x
  | _ => .skip
theorem cd_c22_2 : c22_2 = .seq c22_3 c22_4 := by kernel_rfl
noncomputable def c22_5 : Code := match c22_3 with
  | .block _ x => x
  | _ => .skip
theorem cd_c22_3 : c22_3 = .block 0 c22_5 := by kernel_rfl
noncomputable def c22_6 : Code := match c22_5 with
  | .seq x _ => x
  | _ => .skip
noncomputable def c22_7 : Code := match c22_5 with
  | .seq _ x => x
  | _ => .skip
theorem cd_c22_5 : c22_5 = .seq c22_6 c22_7 := by kernel_rfl
noncomputable def r22_6 : Array Oper := regAt [1, 0, 1, 0] body22
theorem cd_c22_6 : c22_6 = .region 1 r22_6 false := by kernel_rfl
noncomputable def c22_8 : Code := match c22_7 with
  | .cond _ x _ => x
  | _ => .skip
noncomputable def c22_9 : Code := match c22_7 with
  | .cond _ _ x => x
  | _ => .skip
theorem cd_c22_7 : c22_7 = .cond (.tmp 5) c22_8 c22_9 := by kernel_rfl
noncomputable def c22_11 : Code := match c22_8 with
  | .seq x _ => x
  | _ => .skip
theorem cd_c22_8 : c22_8 = .seq c22_11 .ret := by kernel_rfl
noncomputable def r22_11 : Array Oper := regAt [1, 0, 1, 1, 1, 0] body22
theorem cd_c22_11 : c22_11 = .region 2 r22_11 false := by kernel_rfl
noncomputable def c22_12 : Code := match c22_9 with
  | .seq x _ => x
  | _ => .skip
noncomputable def c22_13 : Code := match c22_9 with
  | .seq _ x => x
  | _ => .skip
theorem cd_c22_9 : c22_9 = .seq c22_12 c22_13 := by kernel_rfl
noncomputable def r22_12 : Array Oper := regAt [1, 0, 1, 1, 2, 0] body22
theorem cd_c22_12 : c22_12 = .region 3 r22_12 false := by kernel_rfl
noncomputable def c22_14 : Code := match c22_13 with
  | .cond _ x _ => x
  | _ => .skip
theorem cd_c22_13 : c22_13 = .cond (.tmp 8) c22_14 .skip := by kernel_rfl
noncomputable def c22_16 : Code := match c22_14 with
  | .seq x _ => x
  | _ => .skip
theorem cd_c22_14 : c22_14 = .seq c22_16 .ret := by kernel_rfl
noncomputable def r22_16 : Array Oper := regAt [1, 0, 1, 1, 2, 1, 1, 0] body22
theorem cd_c22_16 : c22_16 = .region 4 r22_16 false := by kernel_rfl
noncomputable def c22_17 : Code := match c22_4 with
  | .seq x _ => x
  | _ => .skip
noncomputable def c22_18 : Code := match c22_4 with
  | .seq _ x => x
  | _ => .skip
theorem cd_c22_4 : c22_4 = .seq c22_17 c22_18 := by kernel_rfl
noncomputable def r22_17 : Array Oper := regAt [1, 1, 0] body22
theorem cd_c22_17 : c22_17 = .region 5 r22_17 true := by kernel_rfl
noncomputable def c22_19 : Code := match c22_18 with
  | .seq x _ => x
  | _ => .skip
noncomputable def c22_20 : Code := match c22_18 with
  | .seq _ x => x
  | _ => .skip
theorem cd_c22_18 : c22_18 = .seq c22_19 c22_20 := by kernel_rfl
noncomputable def r22_19 : Array Oper := regAt [1, 1, 1, 0] body22
theorem cd_c22_19 : c22_19 = .region 6 r22_19 true := by kernel_rfl
noncomputable def c22_21 : Code := match c22_20 with
  | .seq x _ => x
  | _ => .skip
noncomputable def c22_22 : Code := match c22_20 with
  | .seq _ x => x
  | _ => .skip
theorem cd_c22_20 : c22_20 = .seq c22_21 c22_22 := by kernel_rfl
noncomputable def r22_21 : Array Oper := regAt [1, 1, 1, 1, 0] body22
theorem cd_c22_21 : c22_21 = .region 7 r22_21 false := by kernel_rfl
noncomputable def c22_23 : Code := match c22_22 with
  | .seq x _ => x
  | _ => .skip
noncomputable def c22_24 : Code := match c22_22 with
  | .seq _ x => x
  | _ => .skip
theorem cd_c22_22 : c22_22 = .seq c22_23 c22_24 := by kernel_rfl
noncomputable def r22_23 : Array Oper := regAt [1, 1, 1, 1, 1, 0] body22
theorem cd_c22_23 : c22_23 = .region 8 r22_23 false := by kernel_rfl
noncomputable def c22_25 : Code := match c22_24 with
  | .seq x _ => x
  | _ => .skip
theorem cd_c22_24 : c22_24 = .seq c22_25 .ret := by kernel_rfl
noncomputable def r22_25 : Array Oper := regAt [1, 1, 1, 1, 1, 1, 0] body22
theorem cd_c22_25 : c22_25 = .region 9 r22_25 false := by kernel_rfl
noncomputable def body23 : Code := match Try.f23.body with
  | some c => c
  | none => .skip
noncomputable def c23_1 : Code := match code23 with
  | .seq x _ => x
  | _ => .skip
noncomputable def c23_2 : Code := match code23 with
  | .seq _ x => x
  | _ => .skip
theorem cd_code23 : code23 = .seq c23_1 c23_2 := by kernel_rfl
noncomputable def r23_1 : Array Oper := regAt [0] body23
theorem cd_c23_1 : c23_1 = .region 0 r23_1 false := by kernel_rfl
noncomputable def c23_3 : Code := match c23_2 with
  | .seq x _ => x
  | _ => .skip
theorem cd_c23_2 : c23_2 = .seq c23_3 .ret := by kernel_rfl
noncomputable def r23_3 : Array Oper := regAt [1, 0] body23
theorem cd_c23_3 : c23_3 = .region 1 r23_3 false := by kernel_rfl
noncomputable def body24 : Code := match Try.f24.body with
  | some c => c
  | none => .skip
noncomputable def c24_1 : Code := match code24 with
  | .seq x _ => x
  | _ => .skip
noncomputable def c24_2 : Code := match code24 with
  | .seq _ x => x
  | _ => .skip
theorem cd_code24 : code24 = .seq c24_1 c24_2 := by kernel_rfl
noncomputable def r24_1 : Array Oper := regAt [0] body24
theorem cd_c24_1 : c24_1 = .region 0 r24_1 false := by kernel_rfl
noncomputable def c24_3 : Code := match c24_2 with
  | .seq x _ => x
  | _ => .skip
theorem cd_c24_2 : c24_2 = .seq c24_3 .ret := by kernel_rfl
noncomputable def r24_3 : Array Oper := regAt [1, 0] body24
theorem cd_c24_3 : c24_3 = .region 1 r24_3 false := by kernel_rfl
noncomputable def body25 : Code := match Try.f25.body with
  | some c => c
  | none => .skip
noncomputable def c25_1 : Code := match code25 with
  | .seq x _ => x
  | _ => .skip
noncomputable def c25_2 : Code := match code25 with
  | .seq _ x => x
  | _ => .skip
theorem cd_code25 : code25 = .seq c25_1 c25_2 := by kernel_rfl
noncomputable def r25_1 : Array Oper := regAt [0] body25
theorem cd_c25_1 : c25_1 = .region 0 r25_1 false := by kernel_rfl
noncomputable def c25_3 : Code := match c25_2 with
  | .seq x _ => x
  | _ => .skip
noncomputable def c25_4 : Code := match c25_2 with
  | .seq _ x => x
  | _ => .skip
theorem cd_c25_2 : c25_2 = .seq c25_3 c25_4 := by kernel_rfl
noncomputable def c25_5 : Code := match c25_3 with
  | .block _ x => x
  | _ => .skip
theorem cd_c25_3 : c25_3 = .block 0 c25_5 := by kernel_rfl
noncomputable def c25_6 : Code := match c25_5 with
  | .seq x _ => x
  | _ => .skip
noncomputable def c25_7 : Code := match c25_5 with
  | .seq _ x => x
  | _ => .skip
theorem cd_c25_5 : c25_5 = .seq c25_6 c25_7 := by kernel_rfl
noncomputable def r25_6 : Array Oper := regAt [1, 0, 1, 0] body25
theorem cd_c25_6 : c25_6 = .region 1 r25_6 false := by kernel_rfl
noncomputable def c25_8 : Code := match c25_7 with
  | .cond _ x _ => x
  | _ => .skip
noncomputable def c25_9 : Code := match c25_7 with
  | .cond _ _ x => x
  | _ => .skip
theorem cd_c25_7 : c25_7 = .cond (.tmp 5) c25_8 c25_9 := by kernel_rfl
noncomputable def c25_11 : Code := match c25_8 with
  | .seq x _ => x
  | _ => .skip
theorem cd_c25_8 : c25_8 = .seq c25_11 .ret := by kernel_rfl
noncomputable def r25_11 : Array Oper := regAt [1, 0, 1, 1, 1, 0] body25
theorem cd_c25_11 : c25_11 = .region 2 r25_11 false := by kernel_rfl
noncomputable def c25_12 : Code := match c25_9 with
  | .seq x _ => x
  | _ => .skip
noncomputable def c25_13 : Code := match c25_9 with
  | .seq _ x => x
  | _ => .skip
theorem cd_c25_9 : c25_9 = .seq c25_12 c25_13 := by kernel_rfl
noncomputable def r25_12 : Array Oper := regAt [1, 0, 1, 1, 2, 0] body25
theorem cd_c25_12 : c25_12 = .region 3 r25_12 false := by kernel_rfl
noncomputable def c25_14 : Code := match c25_13 with
  | .cond _ x _ => x
  | _ => .skip
theorem cd_c25_13 : c25_13 = .cond (.tmp 9) c25_14 .skip := by kernel_rfl
noncomputable def c25_16 : Code := match c25_14 with
  | .seq x _ => x
  | _ => .skip
theorem cd_c25_14 : c25_14 = .seq c25_16 .ret := by kernel_rfl
noncomputable def r25_16 : Array Oper := regAt [1, 0, 1, 1, 2, 1, 1, 0] body25
theorem cd_c25_16 : c25_16 = .region 4 r25_16 false := by kernel_rfl
noncomputable def c25_17 : Code := match c25_4 with
  | .seq x _ => x
  | _ => .skip
noncomputable def c25_18 : Code := match c25_4 with
  | .seq _ x => x
  | _ => .skip
theorem cd_c25_4 : c25_4 = .seq c25_17 c25_18 := by kernel_rfl
noncomputable def r25_17 : Array Oper := regAt [1, 1, 0] body25
theorem cd_c25_17 : c25_17 = .region 5 r25_17 false := by kernel_rfl
noncomputable def c25_19 : Code := match c25_18 with
  | .seq x _ => x
  | _ => .skip
noncomputable def c25_20 : Code := match c25_18 with
  | .seq _ x => x
  | _ => .skip
theorem cd_c25_18 : c25_18 = .seq c25_19 c25_20 := by kernel_rfl
noncomputable def r25_19 : Array Oper := regAt [1, 1, 1, 0] body25
theorem cd_c25_19 : c25_19 = .region 6 r25_19 false := by kernel_rfl
noncomputable def c25_21 : Code := match c25_20 with
  | .seq x _ => x
  | _ => .skip
noncomputable def c25_22 : Code := match c25_20 with
  | .seq _ x => x
  | _ => .skip
theorem cd_c25_20 : c25_20 = .seq c25_21 c25_22 := by kernel_rfl
noncomputable def r25_21 : Array Oper := regAt [1, 1, 1, 1, 0] body25
theorem cd_c25_21 : c25_21 = .region 7 r25_21 true := by kernel_rfl
noncomputable def c25_23 : Code := match c25_22 with
  | .seq x _ => x
  | _ => .skip
theorem cd_c25_22 : c25_22 = .seq c25_23 .ret := by kernel_rfl
noncomputable def r25_23 : Array Oper := regAt [1, 1, 1, 1, 1, 0] body25
theorem cd_c25_23 : c25_23 = .region 8 r25_23 false := by kernel_rfl
noncomputable def body26 : Code := match Try.f26.body with
  | some c => c
  | none => .skip
noncomputable def c26_1 : Code := match code26 with
  | .seq x _ => x
  | _ => .skip
noncomputable def c26_2 : Code := match code26 with
  | .seq _ x => x
  | _ => .skip
theorem cd_code26 : code26 = .seq c26_1 c26_2 := by kernel_rfl
noncomputable def r26_1 : Array Oper := regAt [0] body26
theorem cd_c26_1 : c26_1 = .region 0 r26_1 false := by kernel_rfl
noncomputable def c26_3 : Code := match c26_2 with
  | .seq x _ => x
  | _ => .skip
noncomputable def c26_4 : Code := match c26_2 with
  | .seq _ x => x
  | _ => .skip
theorem cd_c26_2 : c26_2 = .seq c26_3 c26_4 := by kernel_rfl
noncomputable def c26_5 : Code := match c26_3 with
  | .seq x _ => x
  | _ => .skip
noncomputable def c26_6 : Code := match c26_3 with
  | .seq _ x => x
  | _ => .skip
theorem cd_c26_3 : c26_3 = .seq c26_5 c26_6 := by kernel_rfl
noncomputable def r26_5 : Array Oper := regAt [1, 0, 0] body26
theorem cd_c26_5 : c26_5 = .region 1 r26_5 false := by kernel_rfl
noncomputable def c26_7 : Code := match c26_6 with
  | .cond _ x _ => x
  | _ => .skip
theorem cd_c26_6 : c26_6 = .cond (.tmp 6) c26_7 .skip := by kernel_rfl
noncomputable def c26_9 : Code := match c26_7 with
  | .seq x _ => x
  | _ => .skip
theorem cd_c26_7 : c26_7 = .seq c26_9 .ret := by kernel_rfl
noncomputable def r26_9 : Array Oper := regAt [1, 0, 1, 1, 0] body26
theorem cd_c26_9 : c26_9 = .region 2 r26_9 false := by kernel_rfl
noncomputable def c26_10 : Code := match c26_4 with
  | .seq x _ => x
  | _ => .skip
theorem cd_c26_4 : c26_4 = .seq c26_10 .ret := by kernel_rfl
noncomputable def r26_10 : Array Oper := regAt [1, 1, 0] body26
theorem cd_c26_10 : c26_10 = .region 3 r26_10 false := by kernel_rfl
noncomputable def body27 : Code := match Try.f27.body with
  | some c => c
  | none => .skip
noncomputable def c27_1 : Code := match code27 with
  | .seq x _ => x
  | _ => .skip
noncomputable def c27_2 : Code := match code27 with
  | .seq _ x => x
  | _ => .skip
theorem cd_code27 : code27 = .seq c27_1 c27_2 := by kernel_rfl
noncomputable def r27_1 : Array Oper := regAt [0] body27
theorem cd_c27_1 : c27_1 = .region 0 r27_1 false := by kernel_rfl
noncomputable def c27_3 : Code := match c27_2 with
  | .seq x _ => x
  | _ => .skip
noncomputable def c27_4 : Code := match c27_2 with
  | .seq _ x => x
  | _ => .skip
theorem cd_c27_2 : c27_2 = .seq c27_3 c27_4 := by kernel_rfl
noncomputable def c27_5 : Code := match c27_3 with
  | .seq x _ => x
  | _ => .skip
noncomputable def c27_6 : Code := match c27_3 with
  | .seq _ x => x
  | _ => .skip
theorem cd_c27_3 : c27_3 = .seq c27_5 c27_6 := by kernel_rfl
noncomputable def r27_5 : Array Oper := regAt [1, 0, 0] body27
theorem cd_c27_5 : c27_5 = .region 1 r27_5 false := by kernel_rfl
noncomputable def c27_7 : Code := match c27_6 with
  | .cond _ x _ => x
  | _ => .skip
theorem cd_c27_6 : c27_6 = .cond (.tmp 4) c27_7 .skip := by kernel_rfl
noncomputable def c27_9 : Code := match c27_7 with
  | .seq x _ => x
  | _ => .skip
theorem cd_c27_7 : c27_7 = .seq c27_9 .ret := by kernel_rfl
noncomputable def r27_9 : Array Oper := regAt [1, 0, 1, 1, 0] body27
theorem cd_c27_9 : c27_9 = .region 2 r27_9 false := by kernel_rfl
noncomputable def c27_10 : Code := match c27_4 with
  | .seq x _ => x
  | _ => .skip
theorem cd_c27_4 : c27_4 = .seq c27_10 .ret := by kernel_rfl
noncomputable def r27_10 : Array Oper := regAt [1, 1, 0] body27
theorem cd_c27_10 : c27_10 = .region 3 r27_10 false := by kernel_rfl
noncomputable def body28 : Code := match Try.f28.body with
  | some c => c
  | none => .skip
noncomputable def c28_1 : Code := match code28 with
  | .seq x _ => x
  | _ => .skip
noncomputable def c28_2 : Code := match code28 with
  | .seq _ x => x
  | _ => .skip
theorem cd_code28 : code28 = .seq c28_1 c28_2 := by kernel_rfl
noncomputable def r28_1 : Array Oper := regAt [0] body28
theorem cd_c28_1 : c28_1 = .region 0 r28_1 false := by kernel_rfl
noncomputable def c28_3 : Code := match c28_2 with
  | .seq x _ => x
  | _ => .skip
theorem cd_c28_2 : c28_2 = .seq c28_3 .ret := by kernel_rfl
noncomputable def r28_3 : Array Oper := regAt [1, 0] body28
theorem cd_c28_3 : c28_3 = .region 1 r28_3 false := by kernel_rfl
noncomputable def body29 : Code := match Try.f29.body with
  | some c => c
  | none => .skip
noncomputable def c29_1 : Code := match code29 with
  | .seq x _ => x
  | _ => .skip
noncomputable def c29_2 : Code := match code29 with
  | .seq _ x => x
  | _ => .skip
theorem cd_code29 : code29 = .seq c29_1 c29_2 := by kernel_rfl
noncomputable def r29_1 : Array Oper := regAt [0] body29
theorem cd_c29_1 : c29_1 = .region 0 r29_1 false := by kernel_rfl
noncomputable def c29_3 : Code := match c29_2 with
  | .seq x _ => x
  | _ => .skip
noncomputable def c29_4 : Code := match c29_2 with
  | .seq _ x => x
  | _ => .skip
theorem cd_c29_2 : c29_2 = .seq c29_3 c29_4 := by kernel_rfl
noncomputable def r29_3 : Array Oper := regAt [1, 0] body29
theorem cd_c29_3 : c29_3 = .region 1 r29_3 false := by kernel_rfl
noncomputable def c29_5 : Code := match c29_4 with
  | .seq x _ => x
  | _ => .skip
noncomputable def c29_6 : Code := match c29_4 with
  | .seq _ x => x
  | _ => .skip
theorem cd_c29_4 : c29_4 = .seq c29_5 c29_6 := by kernel_rfl
noncomputable def c29_7 : Code := match c29_5 with
  | .seq x _ => x
  | _ => .skip
noncomputable def c29_8 : Code := match c29_5 with
  | .seq _ x => x
  | _ => .skip
theorem cd_c29_5 : c29_5 = .seq c29_7 c29_8 := by kernel_rfl
noncomputable def r29_7 : Array Oper := regAt [1, 1, 0, 0] body29
theorem cd_c29_7 : c29_7 = .region 2 r29_7 false := by kernel_rfl
noncomputable def c29_9 : Code := match c29_8 with
  | .block _ x => x
  | _ => .skip
theorem cd_c29_8 : c29_8 = .block 0 c29_9 := by kernel_rfl
noncomputable def c29_10 : Code := match c29_9 with
  | .loop x => x
  | _ => .skip
theorem cd_c29_9 : c29_9 = .loop c29_10 := by kernel_rfl
noncomputable def c29_11 : Code := match c29_10 with
  | .seq x _ => x
  | _ => .skip
noncomputable def c29_12 : Code := match c29_10 with
  | .seq _ x => x
  | _ => .skip
theorem cd_c29_10 : c29_10 = .seq c29_11 c29_12 := by kernel_rfl
noncomputable def r29_11 : Array Oper := regAt [1, 1, 0, 1, 1, 0, 0] body29
theorem cd_c29_11 : c29_11 = .region 3 r29_11 false := by kernel_rfl
noncomputable def c29_13 : Code := match c29_12 with
  | .seq x _ => x
  | _ => .skip
noncomputable def c29_14 : Code := match c29_12 with
  | .seq _ x => x
  | _ => .skip
theorem cd_c29_12 : c29_12 = .seq c29_13 c29_14 := by kernel_rfl
theorem cd_c29_13 : c29_13 = .cond (.tmp 12) .skip (.exit 0) := by kernel_rfl
noncomputable def c29_16 : Code := match c29_14 with
  | .seq x _ => x
  | _ => .skip
noncomputable def c29_17 : Code := match c29_14 with
  | .seq _ x => x
  | _ => .skip
theorem cd_c29_14 : c29_14 = .seq c29_16 c29_17 := by kernel_rfl
noncomputable def c29_18 : Code := match c29_16 with
  | .block _ x => x
  | _ => .skip
theorem cd_c29_16 : c29_16 = .block 1 c29_18 := by kernel_rfl
noncomputable def c29_19 : Code := match c29_18 with
  | .seq x _ => x
  | _ => .skip
noncomputable def c29_20 : Code := match c29_18 with
  | .seq _ x => x
  | _ => .skip
theorem cd_c29_18 : c29_18 = .seq c29_19 c29_20 := by kernel_rfl
noncomputable def r29_19 : Array Oper := regAt [1, 1, 0, 1, 1, 0, 1, 1, 0, 1, 0] body29
theorem cd_c29_19 : c29_19 = .region 4 r29_19 false := by kernel_rfl
noncomputable def c29_21 : Code := match c29_20 with
  | .seq x _ => x
  | _ => .skip
noncomputable def c29_22 : Code := match c29_20 with
  | .seq _ x => x
  | _ => .skip
theorem cd_c29_20 : c29_20 = .seq c29_21 c29_22 := by kernel_rfl
noncomputable def r29_21 : Array Oper := regAt [1, 1, 0, 1, 1, 0, 1, 1, 0, 1, 1, 0] body29
theorem cd_c29_21 : c29_21 = .region 5 r29_21 false := by kernel_rfl
noncomputable def c29_23 : Code := match c29_22 with
  | .seq x _ => x
  | _ => .skip
noncomputable def c29_24 : Code := match c29_22 with
  | .seq _ x => x
  | _ => .skip
theorem cd_c29_22 : c29_22 = .seq c29_23 c29_24 := by kernel_rfl
noncomputable def c29_25 : Code := match c29_23 with
  | .seq x _ => x
  | _ => .skip
noncomputable def c29_26 : Code := match c29_23 with
  | .seq _ x => x
  | _ => .skip
theorem cd_c29_23 : c29_23 = .seq c29_25 c29_26 := by kernel_rfl
noncomputable def r29_25 : Array Oper := regAt [1, 1, 0, 1, 1, 0, 1, 1, 0, 1, 1, 1, 0, 0] body29
theorem cd_c29_25 : c29_25 = .region 6 r29_25 false := by kernel_rfl
noncomputable def c29_27 : Code := match c29_26 with
  | .cond _ x _ => x
  | _ => .skip
theorem cd_c29_26 : c29_26 = .cond (.tmp 21) c29_27 .skip := by kernel_rfl
noncomputable def c29_29 : Code := match c29_27 with
  | .seq x _ => x
  | _ => .skip
theorem cd_c29_27 : c29_27 = .seq c29_29 .ret := by kernel_rfl
noncomputable def r29_29 : Array Oper := regAt [1, 1, 0, 1, 1, 0, 1, 1, 0, 1, 1, 1, 0, 1, 1, 0] body29
theorem cd_c29_29 : c29_29 = .region 7 r29_29 false := by kernel_rfl
noncomputable def r29_24 : Array Oper := regAt [1, 1, 0, 1, 1, 0, 1, 1, 0, 1, 1, 1, 1] body29
theorem cd_c29_24 : c29_24 = .region 8 r29_24 false := by kernel_rfl
noncomputable def r29_17 : Array Oper := regAt [1, 1, 0, 1, 1, 0, 1, 1, 1] body29
theorem cd_c29_17 : c29_17 = .region 9 r29_17 false := by kernel_rfl
noncomputable def c29_30 : Code := match c29_6 with
  | .seq x _ => x
  | _ => .skip
theorem cd_c29_6 : c29_6 = .seq c29_30 .ret := by kernel_rfl
noncomputable def r29_30 : Array Oper := regAt [1, 1, 1, 0] body29
theorem cd_c29_30 : c29_30 = .region 10 r29_30 false := by kernel_rfl
noncomputable def body30 : Code := match Try.f30.body with
  | some c => c
  | none => .skip
noncomputable def c30_1 : Code := match code30 with
  | .seq x _ => x
  | _ => .skip
noncomputable def c30_2 : Code := match code30 with
  | .seq _ x => x
  | _ => .skip
theorem cd_code30 : code30 = .seq c30_1 c30_2 := by kernel_rfl
noncomputable def r30_1 : Array Oper := regAt [0] body30
theorem cd_c30_1 : c30_1 = .region 0 r30_1 false := by kernel_rfl
noncomputable def c30_3 : Code := match c30_2 with
  | .seq x _ => x
  | _ => .skip
noncomputable def c30_4 : Code := match c30_2 with
  | .seq _ x => x
  | _ => .skip
theorem cd_c30_2 : c30_2 = .seq c30_3 c30_4 := by kernel_rfl
noncomputable def c30_5 : Code := match c30_3 with
  | .seq x _ => x
  | _ => .skip
noncomputable def c30_6 : Code := match c30_3 with
  | .seq _ x => x
  | _ => .skip
theorem cd_c30_3 : c30_3 = .seq c30_5 c30_6 := by kernel_rfl
noncomputable def r30_5 : Array Oper := regAt [1, 0, 0] body30
theorem cd_c30_5 : c30_5 = .region 1 r30_5 false := by kernel_rfl
noncomputable def c30_7 : Code := match c30_6 with
  | .block _ x => x
  | _ => .skip
theorem cd_c30_6 : c30_6 = .block 0 c30_7 := by kernel_rfl
noncomputable def c30_8 : Code := match c30_7 with
  | .loop x => x
  | _ => .skip
theorem cd_c30_7 : c30_7 = .loop c30_8 := by kernel_rfl
noncomputable def c30_9 : Code := match c30_8 with
  | .seq x _ => x
  | _ => .skip
noncomputable def c30_10 : Code := match c30_8 with
  | .seq _ x => x
  | _ => .skip
theorem cd_c30_8 : c30_8 = .seq c30_9 c30_10 := by kernel_rfl
noncomputable def r30_9 : Array Oper := regAt [1, 0, 1, 1, 0, 0] body30
theorem cd_c30_9 : c30_9 = .region 2 r30_9 false := by kernel_rfl
noncomputable def c30_11 : Code := match c30_10 with
  | .seq x _ => x
  | _ => .skip
noncomputable def c30_12 : Code := match c30_10 with
  | .seq _ x => x
  | _ => .skip
theorem cd_c30_10 : c30_10 = .seq c30_11 c30_12 := by kernel_rfl
theorem cd_c30_11 : c30_11 = .cond (.tmp 9) .skip (.exit 0) := by kernel_rfl
noncomputable def c30_14 : Code := match c30_12 with
  | .seq x _ => x
  | _ => .skip
noncomputable def c30_15 : Code := match c30_12 with
  | .seq _ x => x
  | _ => .skip
theorem cd_c30_12 : c30_12 = .seq c30_14 c30_15 := by kernel_rfl
noncomputable def c30_16 : Code := match c30_14 with
  | .block _ x => x
  | _ => .skip
theorem cd_c30_14 : c30_14 = .block 1 c30_16 := by kernel_rfl
noncomputable def c30_17 : Code := match c30_16 with
  | .seq x _ => x
  | _ => .skip
noncomputable def c30_18 : Code := match c30_16 with
  | .seq _ x => x
  | _ => .skip
theorem cd_c30_16 : c30_16 = .seq c30_17 c30_18 := by kernel_rfl
noncomputable def r30_17 : Array Oper := regAt [1, 0, 1, 1, 0, 1, 1, 0, 1, 0] body30
theorem cd_c30_17 : c30_17 = .region 3 r30_17 false := by kernel_rfl
noncomputable def c30_19 : Code := match c30_18 with
  | .seq x _ => x
  | _ => .skip
noncomputable def c30_20 : Code := match c30_18 with
  | .seq _ x => x
  | _ => .skip
theorem cd_c30_18 : c30_18 = .seq c30_19 c30_20 := by kernel_rfl
noncomputable def r30_19 : Array Oper := regAt [1, 0, 1, 1, 0, 1, 1, 0, 1, 1, 0] body30
theorem cd_c30_19 : c30_19 = .region 4 r30_19 false := by kernel_rfl
noncomputable def c30_21 : Code := match c30_20 with
  | .seq x _ => x
  | _ => .skip
noncomputable def c30_22 : Code := match c30_20 with
  | .seq _ x => x
  | _ => .skip
theorem cd_c30_20 : c30_20 = .seq c30_21 c30_22 := by kernel_rfl
noncomputable def r30_21 : Array Oper := regAt [1, 0, 1, 1, 0, 1, 1, 0, 1, 1, 1, 0] body30
theorem cd_c30_21 : c30_21 = .region 5 r30_21 false := by kernel_rfl
noncomputable def c30_23 : Code := match c30_22 with
  | .cond _ x _ => x
  | _ => .skip
theorem cd_c30_22 : c30_22 = .cond (.tmp 15) c30_23 .skip := by kernel_rfl
noncomputable def c30_25 : Code := match c30_23 with
  | .seq x _ => x
  | _ => .skip
theorem cd_c30_23 : c30_23 = .seq c30_25 .ret := by kernel_rfl
noncomputable def r30_25 : Array Oper := regAt [1, 0, 1, 1, 0, 1, 1, 0, 1, 1, 1, 1, 1, 0] body30
theorem cd_c30_25 : c30_25 = .region 6 r30_25 false := by kernel_rfl
noncomputable def r30_15 : Array Oper := regAt [1, 0, 1, 1, 0, 1, 1, 1] body30
theorem cd_c30_15 : c30_15 = .region 7 r30_15 false := by kernel_rfl
noncomputable def c30_26 : Code := match c30_4 with
  | .seq x _ => x
  | _ => .skip
theorem cd_c30_4 : c30_4 = .seq c30_26 .ret := by kernel_rfl
noncomputable def r30_26 : Array Oper := regAt [1, 1, 0] body30
theorem cd_c30_26 : c30_26 = .region 8 r30_26 false := by kernel_rfl
noncomputable def body31 : Code := match Try.f31.body with
  | some c => c
  | none => .skip
noncomputable def c31_1 : Code := match code31 with
  | .seq x _ => x
  | _ => .skip
noncomputable def c31_2 : Code := match code31 with
  | .seq _ x => x
  | _ => .skip
theorem cd_code31 : code31 = .seq c31_1 c31_2 := by kernel_rfl
noncomputable def r31_1 : Array Oper := regAt [0] body31
theorem cd_c31_1 : c31_1 = .region 0 r31_1 false := by kernel_rfl
noncomputable def c31_3 : Code := match c31_2 with
  | .seq x _ => x
  | _ => .skip
theorem cd_c31_2 : c31_2 = .seq c31_3 .ret := by kernel_rfl
noncomputable def r31_3 : Array Oper := regAt [1, 0] body31
theorem cd_c31_3 : c31_3 = .region 1 r31_3 true := by kernel_rfl
noncomputable def body32 : Code := match Try.f32.body with
  | some c => c
  | none => .skip
noncomputable def c32_1 : Code := match code32 with
  | .seq x _ => x
  | _ => .skip
noncomputable def c32_2 : Code := match code32 with
  | .seq _ x => x
  | _ => .skip
theorem cd_code32 : code32 = .seq c32_1 c32_2 := by kernel_rfl
noncomputable def r32_1 : Array Oper := regAt [0] body32
theorem cd_c32_1 : c32_1 = .region 0 r32_1 false := by kernel_rfl
noncomputable def c32_3 : Code := match c32_2 with
  | .seq x _ => x
  | _ => .skip
noncomputable def c32_4 : Code := match c32_2 with
  | .seq _ x => x
  | _ => .skip
theorem cd_c32_2 : c32_2 = .seq c32_3 c32_4 := by kernel_rfl
noncomputable def c32_5 : Code := match c32_3 with
  | .seq x _ => x
  | _ => .skip
noncomputable def c32_6 : Code := match c32_3 with
  | .seq _ x => x
  | _ => .skip
theorem cd_c32_3 : c32_3 = .seq c32_5 c32_6 := by kernel_rfl
noncomputable def r32_5 : Array Oper := regAt [1, 0, 0] body32
theorem cd_c32_5 : c32_5 = .region 1 r32_5 false := by kernel_rfl
noncomputable def c32_7 : Code := match c32_6 with
  | .cond _ x _ => x
  | _ => .skip
theorem cd_c32_6 : c32_6 = .cond (.tmp 6) c32_7 .skip := by kernel_rfl
noncomputable def c32_9 : Code := match c32_7 with
  | .seq x _ => x
  | _ => .skip
theorem cd_c32_7 : c32_7 = .seq c32_9 .ret := by kernel_rfl
noncomputable def r32_9 : Array Oper := regAt [1, 0, 1, 1, 0] body32
theorem cd_c32_9 : c32_9 = .region 2 r32_9 false := by kernel_rfl
noncomputable def c32_10 : Code := match c32_4 with
  | .seq x _ => x
  | _ => .skip
theorem cd_c32_4 : c32_4 = .seq c32_10 .ret := by kernel_rfl
noncomputable def r32_10 : Array Oper := regAt [1, 1, 0] body32
theorem cd_c32_10 : c32_10 = .region 3 r32_10 false := by kernel_rfl
noncomputable def body33 : Code := match Try.f33.body with
  | some c => c
  | none => .skip
noncomputable def c33_1 : Code := match code33 with
  | .seq x _ => x
  | _ => .skip
noncomputable def c33_2 : Code := match code33 with
  | .seq _ x => x
  | _ => .skip
theorem cd_code33 : code33 = .seq c33_1 c33_2 := by kernel_rfl
noncomputable def r33_1 : Array Oper := regAt [0] body33
theorem cd_c33_1 : c33_1 = .region 0 r33_1 false := by kernel_rfl
noncomputable def c33_3 : Code := match c33_2 with
  | .seq x _ => x
  | _ => .skip
theorem cd_c33_2 : c33_2 = .seq c33_3 .ret := by kernel_rfl
noncomputable def r33_3 : Array Oper := regAt [1, 0] body33
theorem cd_c33_3 : c33_3 = .region 1 r33_3 false := by kernel_rfl
noncomputable def body34 : Code := match Try.f34.body with
  | some c => c
  | none => .skip
noncomputable def c34_1 : Code := match code34 with
  | .seq x _ => x
  | _ => .skip
noncomputable def c34_2 : Code := match code34 with
  | .seq _ x => x
  | _ => .skip
theorem cd_code34 : code34 = .seq c34_1 c34_2 := by kernel_rfl
noncomputable def r34_1 : Array Oper := regAt [0] body34
theorem cd_c34_1 : c34_1 = .region 0 r34_1 false := by kernel_rfl
noncomputable def c34_3 : Code := match c34_2 with
  | .seq x _ => x
  | _ => .skip
theorem cd_c34_2 : c34_2 = .seq c34_3 .ret := by kernel_rfl
noncomputable def r34_3 : Array Oper := regAt [1, 0] body34
theorem cd_c34_3 : c34_3 = .region 1 r34_3 false := by kernel_rfl
noncomputable def body35 : Code := match Try.f35.body with
  | some c => c
  | none => .skip
noncomputable def c35_1 : Code := match code35 with
  | .seq x _ => x
  | _ => .skip
noncomputable def c35_2 : Code := match code35 with
  | .seq _ x => x
  | _ => .skip
theorem cd_code35 : code35 = .seq c35_1 c35_2 := by kernel_rfl
noncomputable def r35_1 : Array Oper := regAt [0] body35
theorem cd_c35_1 : c35_1 = .region 0 r35_1 false := by kernel_rfl
noncomputable def c35_3 : Code := match c35_2 with
  | .seq x _ => x
  | _ => .skip
noncomputable def c35_4 : Code := match c35_2 with
  | .seq _ x => x
  | _ => .skip
theorem cd_c35_2 : c35_2 = .seq c35_3 c35_4 := by kernel_rfl
noncomputable def c35_5 : Code := match c35_3 with
  | .seq x _ => x
  | _ => .skip
noncomputable def c35_6 : Code := match c35_3 with
  | .seq _ x => x
  | _ => .skip
theorem cd_c35_3 : c35_3 = .seq c35_5 c35_6 := by kernel_rfl
noncomputable def r35_5 : Array Oper := regAt [1, 0, 0] body35
theorem cd_c35_5 : c35_5 = .region 1 r35_5 false := by kernel_rfl
noncomputable def c35_7 : Code := match c35_6 with
  | .cond _ x _ => x
  | _ => .skip
theorem cd_c35_6 : c35_6 = .cond (.tmp 4) c35_7 .skip := by kernel_rfl
noncomputable def c35_9 : Code := match c35_7 with
  | .seq x _ => x
  | _ => .skip
theorem cd_c35_7 : c35_7 = .seq c35_9 .ret := by kernel_rfl
noncomputable def r35_9 : Array Oper := regAt [1, 0, 1, 1, 0] body35
theorem cd_c35_9 : c35_9 = .region 2 r35_9 false := by kernel_rfl
noncomputable def c35_10 : Code := match c35_4 with
  | .seq x _ => x
  | _ => .skip
theorem cd_c35_4 : c35_4 = .seq c35_10 .ret := by kernel_rfl
noncomputable def r35_10 : Array Oper := regAt [1, 1, 0] body35
theorem cd_c35_10 : c35_10 = .region 3 r35_10 false := by kernel_rfl
noncomputable def body36 : Code := match Try.f36.body with
  | some c => c
  | none => .skip
noncomputable def c36_1 : Code := match code36 with
  | .seq x _ => x
  | _ => .skip
noncomputable def c36_2 : Code := match code36 with
  | .seq _ x => x
  | _ => .skip
theorem cd_code36 : code36 = .seq c36_1 c36_2 := by kernel_rfl
noncomputable def r36_1 : Array Oper := regAt [0] body36
theorem cd_c36_1 : c36_1 = .region 0 r36_1 false := by kernel_rfl
noncomputable def c36_3 : Code := match c36_2 with
  | .seq x _ => x
  | _ => .skip
noncomputable def c36_4 : Code := match c36_2 with
  | .seq _ x => x
  | _ => .skip
theorem cd_c36_2 : c36_2 = .seq c36_3 c36_4 := by kernel_rfl
noncomputable def c36_5 : Code := match c36_3 with
  | .block _ x => x
  | _ => .skip
theorem cd_c36_3 : c36_3 = .block 0 c36_5 := by kernel_rfl
noncomputable def c36_6 : Code := match c36_5 with
  | .seq x _ => x
  | _ => .skip
noncomputable def c36_7 : Code := match c36_5 with
  | .seq _ x => x
  | _ => .skip
theorem cd_c36_5 : c36_5 = .seq c36_6 c36_7 := by kernel_rfl
noncomputable def r36_6 : Array Oper := regAt [1, 0, 1, 0] body36
theorem cd_c36_6 : c36_6 = .region 1 r36_6 false := by kernel_rfl
noncomputable def c36_8 : Code := match c36_7 with
  | .cond _ x _ => x
  | _ => .skip
noncomputable def c36_9 : Code := match c36_7 with
  | .cond _ _ x => x
  | _ => .skip
theorem cd_c36_7 : c36_7 = .cond (.tmp 4) c36_8 c36_9 := by kernel_rfl
noncomputable def c36_11 : Code := match c36_8 with
  | .seq x _ => x
  | _ => .skip
theorem cd_c36_8 : c36_8 = .seq c36_11 .ret := by kernel_rfl
noncomputable def r36_11 : Array Oper := regAt [1, 0, 1, 1, 1, 0] body36
theorem cd_c36_11 : c36_11 = .region 2 r36_11 false := by kernel_rfl
noncomputable def c36_12 : Code := match c36_9 with
  | .seq x _ => x
  | _ => .skip
noncomputable def c36_13 : Code := match c36_9 with
  | .seq _ x => x
  | _ => .skip
theorem cd_c36_9 : c36_9 = .seq c36_12 c36_13 := by kernel_rfl
noncomputable def r36_12 : Array Oper := regAt [1, 0, 1, 1, 2, 0] body36
theorem cd_c36_12 : c36_12 = .region 3 r36_12 false := by kernel_rfl
noncomputable def c36_14 : Code := match c36_13 with
  | .cond _ x _ => x
  | _ => .skip
theorem cd_c36_13 : c36_13 = .cond (.tmp 7) c36_14 .skip := by kernel_rfl
noncomputable def c36_16 : Code := match c36_14 with
  | .seq x _ => x
  | _ => .skip
theorem cd_c36_14 : c36_14 = .seq c36_16 .ret := by kernel_rfl
noncomputable def r36_16 : Array Oper := regAt [1, 0, 1, 1, 2, 1, 1, 0] body36
theorem cd_c36_16 : c36_16 = .region 4 r36_16 false := by kernel_rfl
noncomputable def c36_17 : Code := match c36_4 with
  | .seq x _ => x
  | _ => .skip
theorem cd_c36_4 : c36_4 = .seq c36_17 .ret := by kernel_rfl
noncomputable def r36_17 : Array Oper := regAt [1, 1, 0] body36
theorem cd_c36_17 : c36_17 = .region 5 r36_17 false := by kernel_rfl
noncomputable def body37 : Code := match Try.f37.body with
  | some c => c
  | none => .skip
noncomputable def c37_1 : Code := match code37 with
  | .seq x _ => x
  | _ => .skip
noncomputable def c37_2 : Code := match code37 with
  | .seq _ x => x
  | _ => .skip
theorem cd_code37 : code37 = .seq c37_1 c37_2 := by kernel_rfl
noncomputable def r37_1 : Array Oper := regAt [0] body37
theorem cd_c37_1 : c37_1 = .region 0 r37_1 false := by kernel_rfl
noncomputable def c37_3 : Code := match c37_2 with
  | .seq x _ => x
  | _ => .skip
noncomputable def c37_4 : Code := match c37_2 with
  | .seq _ x => x
  | _ => .skip
theorem cd_c37_2 : c37_2 = .seq c37_3 c37_4 := by kernel_rfl
noncomputable def r37_3 : Array Oper := regAt [1, 0] body37
theorem cd_c37_3 : c37_3 = .region 1 r37_3 false := by kernel_rfl
noncomputable def c37_5 : Code := match c37_4 with
  | .seq x _ => x
  | _ => .skip
noncomputable def c37_6 : Code := match c37_4 with
  | .seq _ x => x
  | _ => .skip
theorem cd_c37_4 : c37_4 = .seq c37_5 c37_6 := by kernel_rfl
noncomputable def r37_5 : Array Oper := regAt [1, 1, 0] body37
theorem cd_c37_5 : c37_5 = .region 2 r37_5 false := by kernel_rfl
noncomputable def c37_7 : Code := match c37_6 with
  | .seq x _ => x
  | _ => .skip
noncomputable def c37_8 : Code := match c37_6 with
  | .seq _ x => x
  | _ => .skip
theorem cd_c37_6 : c37_6 = .seq c37_7 c37_8 := by kernel_rfl
noncomputable def c37_9 : Code := match c37_7 with
  | .seq x _ => x
  | _ => .skip
noncomputable def c37_10 : Code := match c37_7 with
  | .seq _ x => x
  | _ => .skip
theorem cd_c37_7 : c37_7 = .seq c37_9 c37_10 := by kernel_rfl
noncomputable def r37_9 : Array Oper := regAt [1, 1, 1, 0, 0] body37
theorem cd_c37_9 : c37_9 = .region 3 r37_9 false := by kernel_rfl
noncomputable def c37_11 : Code := match c37_10 with
  | .block _ x => x
  | _ => .skip
theorem cd_c37_10 : c37_10 = .block 0 c37_11 := by kernel_rfl
noncomputable def c37_12 : Code := match c37_11 with
  | .rangeFunc _ _ x _ => x
  | _ => .skip
noncomputable def c37_13 : Code := match c37_11 with
  | .rangeFunc _ _ _ x => x
  | _ => .skip
theorem cd_c37_11 : c37_11 = .rangeFunc (.tmp 9) #[10, 11] c37_12 c37_13 := by kernel_rfl
noncomputable def c37_14 : Code := match c37_12 with
  | .seq x _ => x
  | _ => .skip
noncomputable def c37_15 : Code := match c37_12 with
  | .seq _ x => x
  | _ => .skip
theorem cd_c37_12 : c37_12 = .seq c37_14 c37_15 := by kernel_rfl
noncomputable def r37_14 : Array Oper := regAt [1, 1, 1, 0, 1, 1, 2, 0] body37
theorem cd_c37_14 : c37_14 = .region 4 r37_14 false := by kernel_rfl
noncomputable def r37_15 : Array Oper := regAt [1, 1, 1, 0, 1, 1, 2, 1] body37
theorem cd_c37_15 : c37_15 = .region 5 r37_15 false := by kernel_rfl
noncomputable def c37_16 : Code := match c37_13 with
  | .block _ x => x
  | _ => .skip
theorem cd_c37_13 : c37_13 = .block 1 c37_16 := by kernel_rfl
noncomputable def c37_17 : Code := match c37_16 with
  | .seq x _ => x
  | _ => .skip
noncomputable def c37_18 : Code := match c37_16 with
  | .seq _ x => x
  | _ => .skip
theorem cd_c37_16 : c37_16 = .seq c37_17 c37_18 := by kernel_rfl
noncomputable def c37_19 : Code := match c37_17 with
  | .seq x _ => x
  | _ => .skip
noncomputable def c37_20 : Code := match c37_17 with
  | .seq _ x => x
  | _ => .skip
theorem cd_c37_17 : c37_17 = .seq c37_19 c37_20 := by kernel_rfl
noncomputable def r37_19 : Array Oper := regAt [1, 1, 1, 0, 1, 1, 3, 1, 0, 0] body37
theorem cd_c37_19 : c37_19 = .region 6 r37_19 false := by kernel_rfl
theorem cd_c37_20 : c37_20 = .cond (.tmp 14) (.exit 0) .skip := by kernel_rfl
noncomputable def r37_18 : Array Oper := regAt [1, 1, 1, 0, 1, 1, 3, 1, 1] body37
theorem cd_c37_18 : c37_18 = .region 7 r37_18 true := by kernel_rfl
noncomputable def c37_22 : Code := match c37_8 with
  | .seq x _ => x
  | _ => .skip
theorem cd_c37_8 : c37_8 = .seq c37_22 .ret := by kernel_rfl
noncomputable def r37_22 : Array Oper := regAt [1, 1, 1, 1, 0] body37
theorem cd_c37_22 : c37_22 = .region 8 r37_22 true := by kernel_rfl
noncomputable def body38 : Code := match Try.f38.body with
  | some c => c
  | none => .skip
noncomputable def c38_1 : Code := match code38 with
  | .seq x _ => x
  | _ => .skip
noncomputable def c38_2 : Code := match code38 with
  | .seq _ x => x
  | _ => .skip
theorem cd_code38 : code38 = .seq c38_1 c38_2 := by kernel_rfl
noncomputable def r38_1 : Array Oper := regAt [0] body38
theorem cd_c38_1 : c38_1 = .region 0 r38_1 false := by kernel_rfl
noncomputable def c38_3 : Code := match c38_2 with
  | .seq x _ => x
  | _ => .skip
noncomputable def c38_4 : Code := match c38_2 with
  | .seq _ x => x
  | _ => .skip
theorem cd_c38_2 : c38_2 = .seq c38_3 c38_4 := by kernel_rfl
noncomputable def c38_5 : Code := match c38_3 with
  | .seq x _ => x
  | _ => .skip
noncomputable def c38_6 : Code := match c38_3 with
  | .seq _ x => x
  | _ => .skip
theorem cd_c38_3 : c38_3 = .seq c38_5 c38_6 := by kernel_rfl
noncomputable def r38_5 : Array Oper := regAt [1, 0, 0] body38
theorem cd_c38_5 : c38_5 = .region 1 r38_5 false := by kernel_rfl
noncomputable def c38_7 : Code := match c38_6 with
  | .cond _ x _ => x
  | _ => .skip
theorem cd_c38_6 : c38_6 = .cond (.tmp 9) c38_7 .skip := by kernel_rfl
noncomputable def c38_9 : Code := match c38_7 with
  | .seq x _ => x
  | _ => .skip
theorem cd_c38_7 : c38_7 = .seq c38_9 .ret := by kernel_rfl
noncomputable def r38_9 : Array Oper := regAt [1, 0, 1, 1, 0] body38
theorem cd_c38_9 : c38_9 = .region 2 r38_9 false := by kernel_rfl
noncomputable def c38_10 : Code := match c38_4 with
  | .seq x _ => x
  | _ => .skip
theorem cd_c38_4 : c38_4 = .seq c38_10 .ret := by kernel_rfl
noncomputable def r38_10 : Array Oper := regAt [1, 1, 0] body38
theorem cd_c38_10 : c38_10 = .region 3 r38_10 false := by kernel_rfl
noncomputable def body39 : Code := match Try.f39.body with
  | some c => c
  | none => .skip
noncomputable def c39_1 : Code := match code39 with
  | .seq x _ => x
  | _ => .skip
noncomputable def c39_2 : Code := match code39 with
  | .seq _ x => x
  | _ => .skip
theorem cd_code39 : code39 = .seq c39_1 c39_2 := by kernel_rfl
noncomputable def r39_1 : Array Oper := regAt [0] body39
theorem cd_c39_1 : c39_1 = .region 0 r39_1 false := by kernel_rfl
noncomputable def c39_3 : Code := match c39_2 with
  | .seq x _ => x
  | _ => .skip
theorem cd_c39_2 : c39_2 = .seq c39_3 .ret := by kernel_rfl
noncomputable def r39_3 : Array Oper := regAt [1, 0] body39
theorem cd_c39_3 : c39_3 = .region 1 r39_3 false := by kernel_rfl
noncomputable def body40 : Code := match Try.f40.body with
  | some c => c
  | none => .skip
noncomputable def c40_1 : Code := match code40 with
  | .seq x _ => x
  | _ => .skip
noncomputable def c40_2 : Code := match code40 with
  | .seq _ x => x
  | _ => .skip
theorem cd_code40 : code40 = .seq c40_1 c40_2 := by kernel_rfl
noncomputable def r40_1 : Array Oper := regAt [0] body40
theorem cd_c40_1 : c40_1 = .region 0 r40_1 false := by kernel_rfl
noncomputable def c40_3 : Code := match c40_2 with
  | .seq x _ => x
  | _ => .skip
theorem cd_c40_2 : c40_2 = .seq c40_3 .ret := by kernel_rfl
noncomputable def r40_3 : Array Oper := regAt [1, 0] body40
theorem cd_c40_3 : c40_3 = .region 1 r40_3 false := by kernel_rfl
noncomputable def body41 : Code := match Try.f41.body with
  | some c => c
  | none => .skip
noncomputable def r41 : Array Oper := regAt [] body41
theorem cd_code41 : code41 = .region 0 r41 false := by kernel_rfl
noncomputable def body42 : Code := match Try.f42.body with
  | some c => c
  | none => .skip
noncomputable def c42_1 : Code := match code42 with
  | .seq x _ => x
  | _ => .skip
noncomputable def c42_2 : Code := match code42 with
  | .seq _ x => x
  | _ => .skip
theorem cd_code42 : code42 = .seq c42_1 c42_2 := by kernel_rfl
noncomputable def r42_1 : Array Oper := regAt [0] body42
theorem cd_c42_1 : c42_1 = .region 0 r42_1 false := by kernel_rfl
noncomputable def c42_3 : Code := match c42_2 with
  | .seq x _ => x
  | _ => .skip
theorem cd_c42_2 : c42_2 = .seq c42_3 .ret := by kernel_rfl
noncomputable def r42_3 : Array Oper := regAt [1, 0] body42
theorem cd_c42_3 : c42_3 = .region 1 r42_3 false := by kernel_rfl
noncomputable def body43 : Code := match Try.f43.body with
  | some c => c
  | none => .skip
noncomputable def c43_1 : Code := match code43 with
  | .seq x _ => x
  | _ => .skip
noncomputable def c43_2 : Code := match code43 with
  | .seq _ x => x
  | _ => .skip
theorem cd_code43 : code43 = .seq c43_1 c43_2 := by kernel_rfl
noncomputable def r43_1 : Array Oper := regAt [0] body43
theorem cd_c43_1 : c43_1 = .region 0 r43_1 false := by kernel_rfl
noncomputable def c43_3 : Code := match c43_2 with
  | .block _ x => x
  | _ => .skip
theorem cd_c43_2 : c43_2 = .block 0 c43_3 := by kernel_rfl
noncomputable def c43_4 : Code := match c43_3 with
  | .loop x => x
  | _ => .skip
theorem cd_c43_3 : c43_3 = .loop c43_4 := by kernel_rfl
noncomputable def c43_5 : Code := match c43_4 with
  | .seq x _ => x
  | _ => .skip
noncomputable def c43_6 : Code := match c43_4 with
  | .seq _ x => x
  | _ => .skip
theorem cd_c43_4 : c43_4 = .seq c43_5 c43_6 := by kernel_rfl
noncomputable def r43_5 : Array Oper := regAt [1, 1, 0, 0] body43
theorem cd_c43_5 : c43_5 = .region 1 r43_5 false := by kernel_rfl
noncomputable def c43_7 : Code := match c43_6 with
  | .seq x _ => x
  | _ => .skip
noncomputable def c43_8 : Code := match c43_6 with
  | .seq _ x => x
  | _ => .skip
theorem cd_c43_6 : c43_6 = .seq c43_7 c43_8 := by kernel_rfl
theorem cd_c43_7 : c43_7 = .cond (.tmp 6) .skip (.exit 0) := by kernel_rfl
noncomputable def c43_10 : Code := match c43_8 with
  | .seq x _ => x
  | _ => .skip
noncomputable def c43_11 : Code := match c43_8 with
  | .seq _ x => x
  | _ => .skip
theorem cd_c43_8 : c43_8 = .seq c43_10 c43_11 := by kernel_rfl
noncomputable def c43_12 : Code := match c43_10 with
  | .block _ x => x
  | _ => .skip
theorem cd_c43_10 : c43_10 = .block 1 c43_12 := by kernel_rfl
noncomputable def c43_13 : Code := match c43_12 with
  | .seq x _ => x
  | _ => .skip
noncomputable def c43_14 : Code := match c43_12 with
  | .seq _ x => x
  | _ => .skip
theorem cd_c43_12 : c43_12 = .seq c43_13 c43_14 := by kernel_rfl
noncomputable def r43_13 : Array Oper := regAt [1, 1, 0, 1, 1, 0, 1, 0] body43
theorem cd_c43_13 : c43_13 = .region 2 r43_13 false := by kernel_rfl
noncomputable def r43_14 : Array Oper := regAt [1, 1, 0, 1, 1, 0, 1, 1] body43
theorem cd_c43_14 : c43_14 = .region 3 r43_14 false := by kernel_rfl
noncomputable def r43_11 : Array Oper := regAt [1, 1, 0, 1, 1, 1] body43
theorem cd_c43_11 : c43_11 = .region 4 r43_11 false := by kernel_rfl
noncomputable def body44 : Code := match Try.f44.body with
  | some c => c
  | none => .skip
noncomputable def c44_1 : Code := match code44 with
  | .seq x _ => x
  | _ => .skip
noncomputable def c44_2 : Code := match code44 with
  | .seq _ x => x
  | _ => .skip
theorem cd_code44 : code44 = .seq c44_1 c44_2 := by kernel_rfl
noncomputable def r44_1 : Array Oper := regAt [0] body44
theorem cd_c44_1 : c44_1 = .region 0 r44_1 false := by kernel_rfl
noncomputable def c44_3 : Code := match c44_2 with
  | .seq x _ => x
  | _ => .skip
theorem cd_c44_2 : c44_2 = .seq c44_3 .ret := by kernel_rfl
noncomputable def r44_3 : Array Oper := regAt [1, 0] body44
theorem cd_c44_3 : c44_3 = .region 1 r44_3 false := by kernel_rfl
noncomputable def body45 : Code := match Try.f45.body with
  | some c => c
  | none => .skip
noncomputable def c45_1 : Code := match code45 with
  | .seq x _ => x
  | _ => .skip
noncomputable def c45_2 : Code := match code45 with
  | .seq _ x => x
  | _ => .skip
theorem cd_code45 : code45 = .seq c45_1 c45_2 := by kernel_rfl
noncomputable def r45_1 : Array Oper := regAt [0] body45
theorem cd_c45_1 : c45_1 = .region 0 r45_1 false := by kernel_rfl
noncomputable def c45_3 : Code := match c45_2 with
  | .seq x _ => x
  | _ => .skip
noncomputable def c45_4 : Code := match c45_2 with
  | .seq _ x => x
  | _ => .skip
theorem cd_c45_2 : c45_2 = .seq c45_3 c45_4 := by kernel_rfl
noncomputable def c45_5 : Code := match c45_3 with
  | .block _ x => x
  | _ => .skip
theorem cd_c45_3 : c45_3 = .block 0 c45_5 := by kernel_rfl
noncomputable def c45_6 : Code := match c45_5 with
  | .seq x _ => x
  | _ => .skip
noncomputable def c45_7 : Code := match c45_5 with
  | .seq _ x => x
  | _ => .skip
theorem cd_c45_5 : c45_5 = .seq c45_6 c45_7 := by kernel_rfl
noncomputable def r45_6 : Array Oper := regAt [1, 0, 1, 0] body45
theorem cd_c45_6 : c45_6 = .region 1 r45_6 false := by kernel_rfl
noncomputable def c45_8 : Code := match c45_7 with
  | .cond _ x _ => x
  | _ => .skip
noncomputable def c45_9 : Code := match c45_7 with
  | .cond _ _ x => x
  | _ => .skip
theorem cd_c45_7 : c45_7 = .cond (.tmp 7) c45_8 c45_9 := by kernel_rfl
noncomputable def c45_11 : Code := match c45_8 with
  | .seq x _ => x
  | _ => .skip
theorem cd_c45_8 : c45_8 = .seq c45_11 .ret := by kernel_rfl
noncomputable def r45_11 : Array Oper := regAt [1, 0, 1, 1, 1, 0] body45
theorem cd_c45_11 : c45_11 = .region 2 r45_11 false := by kernel_rfl
noncomputable def c45_12 : Code := match c45_9 with
  | .seq x _ => x
  | _ => .skip
noncomputable def c45_13 : Code := match c45_9 with
  | .seq _ x => x
  | _ => .skip
theorem cd_c45_9 : c45_9 = .seq c45_12 c45_13 := by kernel_rfl
noncomputable def r45_12 : Array Oper := regAt [1, 0, 1, 1, 2, 0] body45
theorem cd_c45_12 : c45_12 = .region 3 r45_12 false := by kernel_rfl
noncomputable def c45_14 : Code := match c45_13 with
  | .cond _ x _ => x
  | _ => .skip
noncomputable def c45_15 : Code := match c45_13 with
  | .cond _ _ x => x
  | _ => .skip
theorem cd_c45_13 : c45_13 = .cond (.tmp 10) c45_14 c45_15 := by kernel_rfl
noncomputable def c45_17 : Code := match c45_14 with
  | .seq x _ => x
  | _ => .skip
theorem cd_c45_14 : c45_14 = .seq c45_17 .ret := by kernel_rfl
noncomputable def r45_17 : Array Oper := regAt [1, 0, 1, 1, 2, 1, 1, 0] body45
theorem cd_c45_17 : c45_17 = .region 4 r45_17 false := by kernel_rfl
noncomputable def c45_18 : Code := match c45_15 with
  | .seq x _ => x
  | _ => .skip
noncomputable def c45_19 : Code := match c45_15 with
  | .seq _ x => x
  | _ => .skip
theorem cd_c45_15 : c45_15 = .seq c45_18 c45_19 := by kernel_rfl
noncomputable def r45_18 : Array Oper := regAt [1, 0, 1, 1, 2, 1, 2, 0] body45
theorem cd_c45_18 : c45_18 = .region 5 r45_18 true := by kernel_rfl
noncomputable def c45_20 : Code := match c45_19 with
  | .cond _ x _ => x
  | _ => .skip
theorem cd_c45_19 : c45_19 = .cond (.tmp 15) c45_20 .skip := by kernel_rfl
noncomputable def c45_22 : Code := match c45_20 with
  | .seq x _ => x
  | _ => .skip
theorem cd_c45_20 : c45_20 = .seq c45_22 .ret := by kernel_rfl
noncomputable def r45_22 : Array Oper := regAt [1, 0, 1, 1, 2, 1, 2, 1, 1, 0] body45
theorem cd_c45_22 : c45_22 = .region 6 r45_22 false := by kernel_rfl
noncomputable def c45_23 : Code := match c45_4 with
  | .seq x _ => x
  | _ => .skip
theorem cd_c45_4 : c45_4 = .seq c45_23 .ret := by kernel_rfl
noncomputable def r45_23 : Array Oper := regAt [1, 1, 0] body45
theorem cd_c45_23 : c45_23 = .region 7 r45_23 false := by kernel_rfl
noncomputable def body46 : Code := match Try.f46.body with
  | some c => c
  | none => .skip
noncomputable def c46_1 : Code := match code46 with
  | .seq x _ => x
  | _ => .skip
noncomputable def c46_2 : Code := match code46 with
  | .seq _ x => x
  | _ => .skip
theorem cd_code46 : code46 = .seq c46_1 c46_2 := by kernel_rfl
noncomputable def r46_1 : Array Oper := regAt [0] body46
theorem cd_c46_1 : c46_1 = .region 0 r46_1 false := by kernel_rfl
noncomputable def c46_3 : Code := match c46_2 with
  | .seq x _ => x
  | _ => .skip
noncomputable def c46_4 : Code := match c46_2 with
  | .seq _ x => x
  | _ => .skip
theorem cd_c46_2 : c46_2 = .seq c46_3 c46_4 := by kernel_rfl
noncomputable def c46_5 : Code := match c46_3 with
  | .block _ x => x
  | _ => .skip
theorem cd_c46_3 : c46_3 = .block 0 c46_5 := by kernel_rfl
noncomputable def c46_6 : Code := match c46_5 with
  | .seq x _ => x
  | _ => .skip
noncomputable def c46_7 : Code := match c46_5 with
  | .seq _ x => x
  | _ => .skip
theorem cd_c46_5 : c46_5 = .seq c46_6 c46_7 := by kernel_rfl
noncomputable def r46_6 : Array Oper := regAt [1, 0, 1, 0] body46
theorem cd_c46_6 : c46_6 = .region 1 r46_6 false := by kernel_rfl
noncomputable def c46_8 : Code := match c46_7 with
  | .cond _ x _ => x
  | _ => .skip
noncomputable def c46_9 : Code := match c46_7 with
  | .cond _ _ x => x
  | _ => .skip
theorem cd_c46_7 : c46_7 = .cond (.tmp 5) c46_8 c46_9 := by kernel_rfl
noncomputable def c46_11 : Code := match c46_8 with
  | .seq x _ => x
  | _ => .skip
theorem cd_c46_8 : c46_8 = .seq c46_11 .ret := by kernel_rfl
noncomputable def r46_11 : Array Oper := regAt [1, 0, 1, 1, 1, 0] body46
theorem cd_c46_11 : c46_11 = .region 2 r46_11 false := by kernel_rfl
noncomputable def c46_12 : Code := match c46_9 with
  | .seq x _ => x
  | _ => .skip
noncomputable def c46_13 : Code := match c46_9 with
  | .seq _ x => x
  | _ => .skip
theorem cd_c46_9 : c46_9 = .seq c46_12 c46_13 := by kernel_rfl
noncomputable def r46_12 : Array Oper := regAt [1, 0, 1, 1, 2, 0] body46
theorem cd_c46_12 : c46_12 = .region 3 r46_12 false := by kernel_rfl
noncomputable def c46_14 : Code := match c46_13 with
  | .cond _ x _ => x
  | _ => .skip
theorem cd_c46_13 : c46_13 = .cond (.tmp 8) c46_14 .skip := by kernel_rfl
noncomputable def c46_16 : Code := match c46_14 with
  | .seq x _ => x
  | _ => .skip
theorem cd_c46_14 : c46_14 = .seq c46_16 .ret := by kernel_rfl
noncomputable def r46_16 : Array Oper := regAt [1, 0, 1, 1, 2, 1, 1, 0] body46
theorem cd_c46_16 : c46_16 = .region 4 r46_16 false := by kernel_rfl
noncomputable def c46_17 : Code := match c46_4 with
  | .seq x _ => x
  | _ => .skip
theorem cd_c46_4 : c46_4 = .seq c46_17 .ret := by kernel_rfl
noncomputable def r46_17 : Array Oper := regAt [1, 1, 0] body46
theorem cd_c46_17 : c46_17 = .region 5 r46_17 false := by kernel_rfl
noncomputable def body47 : Code := match Try.f47.body with
  | some c => c
  | none => .skip
noncomputable def c47_1 : Code := match code47 with
  | .seq x _ => x
  | _ => .skip
noncomputable def c47_2 : Code := match code47 with
  | .seq _ x => x
  | _ => .skip
theorem cd_code47 : code47 = .seq c47_1 c47_2 := by kernel_rfl
noncomputable def r47_1 : Array Oper := regAt [0] body47
theorem cd_c47_1 : c47_1 = .region 0 r47_1 false := by kernel_rfl
noncomputable def r47_2 : Array Oper := regAt [1] body47
theorem cd_c47_2 : c47_2 = .region 1 r47_2 false := by kernel_rfl
noncomputable def body48 : Code := match Try.f48.body with
  | some c => c
  | none => .skip
noncomputable def c48_1 : Code := match code48 with
  | .seq x _ => x
  | _ => .skip
noncomputable def c48_2 : Code := match code48 with
  | .seq _ x => x
  | _ => .skip
theorem cd_code48 : code48 = .seq c48_1 c48_2 := by kernel_rfl
noncomputable def c48_3 : Code := match c48_1 with
  | .seq x _ => x
  | _ => .skip
noncomputable def c48_4 : Code := match c48_1 with
  | .seq _ x => x
  | _ => .skip
theorem cd_c48_1 : c48_1 = .seq c48_3 c48_4 := by kernel_rfl
noncomputable def r48_3 : Array Oper := regAt [0, 0] body48
theorem cd_c48_3 : c48_3 = .region 0 r48_3 false := by kernel_rfl
theorem cd_c48_4 : c48_4 = .cond (.tmp 7) .ret .skip := by kernel_rfl
noncomputable def c48_6 : Code := match c48_2 with
  | .seq x _ => x
  | _ => .skip
noncomputable def c48_7 : Code := match c48_2 with
  | .seq _ x => x
  | _ => .skip
theorem cd_c48_2 : c48_2 = .seq c48_6 c48_7 := by kernel_rfl
noncomputable def r48_6 : Array Oper := regAt [1, 0] body48
theorem cd_c48_6 : c48_6 = .region 1 r48_6 false := by kernel_rfl
noncomputable def c48_8 : Code := match c48_7 with
  | .seq x _ => x
  | _ => .skip
noncomputable def c48_9 : Code := match c48_7 with
  | .seq _ x => x
  | _ => .skip
theorem cd_c48_7 : c48_7 = .seq c48_8 c48_9 := by kernel_rfl
noncomputable def r48_8 : Array Oper := regAt [1, 1, 0] body48
theorem cd_c48_8 : c48_8 = .region 2 r48_8 false := by kernel_rfl
noncomputable def c48_10 : Code := match c48_9 with
  | .block _ x => x
  | _ => .skip
theorem cd_c48_9 : c48_9 = .block 0 c48_10 := by kernel_rfl
noncomputable def c48_11 : Code := match c48_10 with
  | .loop x => x
  | _ => .skip
theorem cd_c48_10 : c48_10 = .loop c48_11 := by kernel_rfl
noncomputable def c48_12 : Code := match c48_11 with
  | .seq x _ => x
  | _ => .skip
noncomputable def c48_13 : Code := match c48_11 with
  | .seq _ x => x
  | _ => .skip
theorem cd_c48_11 : c48_11 = .seq c48_12 c48_13 := by kernel_rfl
noncomputable def r48_12 : Array Oper := regAt [1, 1, 1, 1, 0, 0] body48
theorem cd_c48_12 : c48_12 = .region 3 r48_12 false := by kernel_rfl
noncomputable def c48_14 : Code := match c48_13 with
  | .seq x _ => x
  | _ => .skip
noncomputable def c48_15 : Code := match c48_13 with
  | .seq _ x => x
  | _ => .skip
theorem cd_c48_13 : c48_13 = .seq c48_14 c48_15 := by kernel_rfl
theorem cd_c48_14 : c48_14 = .cond (.tmp 14) .skip (.exit 0) := by kernel_rfl
noncomputable def c48_17 : Code := match c48_15 with
  | .seq x _ => x
  | _ => .skip
noncomputable def c48_18 : Code := match c48_15 with
  | .seq _ x => x
  | _ => .skip
theorem cd_c48_15 : c48_15 = .seq c48_17 c48_18 := by kernel_rfl
noncomputable def c48_19 : Code := match c48_17 with
  | .block _ x => x
  | _ => .skip
theorem cd_c48_17 : c48_17 = .block 1 c48_19 := by kernel_rfl
noncomputable def c48_20 : Code := match c48_19 with
  | .seq x _ => x
  | _ => .skip
noncomputable def c48_21 : Code := match c48_19 with
  | .seq _ x => x
  | _ => .skip
theorem cd_c48_19 : c48_19 = .seq c48_20 c48_21 := by kernel_rfl
noncomputable def r48_20 : Array Oper := regAt [1, 1, 1, 1, 0, 1, 1, 0, 1, 0] body48
theorem cd_c48_20 : c48_20 = .region 4 r48_20 false := by kernel_rfl
noncomputable def c48_22 : Code := match c48_21 with
  | .seq x _ => x
  | _ => .skip
noncomputable def c48_23 : Code := match c48_21 with
  | .seq _ x => x
  | _ => .skip
theorem cd_c48_21 : c48_21 = .seq c48_22 c48_23 := by kernel_rfl
noncomputable def r48_22 : Array Oper := regAt [1, 1, 1, 1, 0, 1, 1, 0, 1, 1, 0] body48
theorem cd_c48_22 : c48_22 = .region 5 r48_22 false := by kernel_rfl
noncomputable def c48_24 : Code := match c48_23 with
  | .seq x _ => x
  | _ => .skip
noncomputable def c48_25 : Code := match c48_23 with
  | .seq _ x => x
  | _ => .skip
theorem cd_c48_23 : c48_23 = .seq c48_24 c48_25 := by kernel_rfl
noncomputable def r48_24 : Array Oper := regAt [1, 1, 1, 1, 0, 1, 1, 0, 1, 1, 1, 0] body48
theorem cd_c48_24 : c48_24 = .region 6 r48_24 false := by kernel_rfl
theorem cd_c48_25 : c48_25 = .cond (.tmp 26) .ret .skip := by kernel_rfl
noncomputable def r48_18 : Array Oper := regAt [1, 1, 1, 1, 0, 1, 1, 1] body48
theorem cd_c48_18 : c48_18 = .region 7 r48_18 false := by kernel_rfl
noncomputable def body49 : Code := match Try.f49.body with
  | some c => c
  | none => .skip
noncomputable def c49_1 : Code := match code49 with
  | .seq x _ => x
  | _ => .skip
noncomputable def c49_2 : Code := match code49 with
  | .seq _ x => x
  | _ => .skip
theorem cd_code49 : code49 = .seq c49_1 c49_2 := by kernel_rfl
noncomputable def r49_1 : Array Oper := regAt [0] body49
theorem cd_c49_1 : c49_1 = .region 0 r49_1 false := by kernel_rfl
noncomputable def c49_3 : Code := match c49_2 with
  | .seq x _ => x
  | _ => .skip
noncomputable def c49_4 : Code := match c49_2 with
  | .seq _ x => x
  | _ => .skip
theorem cd_c49_2 : c49_2 = .seq c49_3 c49_4 := by kernel_rfl
noncomputable def c49_5 : Code := match c49_3 with
  | .seq x _ => x
  | _ => .skip
noncomputable def c49_6 : Code := match c49_3 with
  | .seq _ x => x
  | _ => .skip
theorem cd_c49_3 : c49_3 = .seq c49_5 c49_6 := by kernel_rfl
noncomputable def r49_5 : Array Oper := regAt [1, 0, 0] body49
theorem cd_c49_5 : c49_5 = .region 1 r49_5 false := by kernel_rfl
noncomputable def c49_7 : Code := match c49_6 with
  | .cond _ x _ => x
  | _ => .skip
theorem cd_c49_6 : c49_6 = .cond (.tmp 5) c49_7 .skip := by kernel_rfl
noncomputable def c49_9 : Code := match c49_7 with
  | .seq x _ => x
  | _ => .skip
theorem cd_c49_7 : c49_7 = .seq c49_9 .ret := by kernel_rfl
noncomputable def r49_9 : Array Oper := regAt [1, 0, 1, 1, 0] body49
theorem cd_c49_9 : c49_9 = .region 2 r49_9 false := by kernel_rfl
noncomputable def c49_10 : Code := match c49_4 with
  | .seq x _ => x
  | _ => .skip
theorem cd_c49_4 : c49_4 = .seq c49_10 .ret := by kernel_rfl
noncomputable def r49_10 : Array Oper := regAt [1, 1, 0] body49
theorem cd_c49_10 : c49_10 = .region 3 r49_10 false := by kernel_rfl
noncomputable def body50 : Code := match Try.f50.body with
  | some c => c
  | none => .skip
noncomputable def c50_1 : Code := match code50 with
  | .seq x _ => x
  | _ => .skip
noncomputable def c50_2 : Code := match code50 with
  | .seq _ x => x
  | _ => .skip
theorem cd_code50 : code50 = .seq c50_1 c50_2 := by kernel_rfl
noncomputable def r50_1 : Array Oper := regAt [0] body50
theorem cd_c50_1 : c50_1 = .region 0 r50_1 false := by kernel_rfl
noncomputable def c50_3 : Code := match c50_2 with
  | .seq x _ => x
  | _ => .skip
theorem cd_c50_2 : c50_2 = .seq c50_3 .ret := by kernel_rfl
noncomputable def r50_3 : Array Oper := regAt [1, 0] body50
theorem cd_c50_3 : c50_3 = .region 1 r50_3 false := by kernel_rfl
noncomputable def body51 : Code := match Try.f51.body with
  | some c => c
  | none => .skip
noncomputable def c51_1 : Code := match code51 with
  | .seq x _ => x
  | _ => .skip
noncomputable def c51_2 : Code := match code51 with
  | .seq _ x => x
  | _ => .skip
theorem cd_code51 : code51 = .seq c51_1 c51_2 := by kernel_rfl
noncomputable def r51_1 : Array Oper := regAt [0] body51
theorem cd_c51_1 : c51_1 = .region 0 r51_1 false := by kernel_rfl
noncomputable def c51_3 : Code := match c51_2 with
  | .seq x _ => x
  | _ => .skip
noncomputable def c51_4 : Code := match c51_2 with
  | .seq _ x => x
  | _ => .skip
theorem cd_c51_2 : c51_2 = .seq c51_3 c51_4 := by kernel_rfl
noncomputable def r51_3 : Array Oper := regAt [1, 0] body51
theorem cd_c51_3 : c51_3 = .region 1 r51_3 false := by kernel_rfl
noncomputable def c51_5 : Code := match c51_4 with
  | .seq x _ => x
  | _ => .skip
noncomputable def c51_6 : Code := match c51_4 with
  | .seq _ x => x
  | _ => .skip
theorem cd_c51_4 : c51_4 = .seq c51_5 c51_6 := by kernel_rfl
noncomputable def r51_5 : Array Oper := regAt [1, 1, 0] body51
theorem cd_c51_5 : c51_5 = .region 2 r51_5 false := by kernel_rfl
noncomputable def c51_7 : Code := match c51_6 with
  | .seq x _ => x
  | _ => .skip
noncomputable def c51_8 : Code := match c51_6 with
  | .seq _ x => x
  | _ => .skip
theorem cd_c51_6 : c51_6 = .seq c51_7 c51_8 := by kernel_rfl
noncomputable def c51_9 : Code := match c51_7 with
  | .seq x _ => x
  | _ => .skip
noncomputable def c51_10 : Code := match c51_7 with
  | .seq _ x => x
  | _ => .skip
theorem cd_c51_7 : c51_7 = .seq c51_9 c51_10 := by kernel_rfl
noncomputable def r51_9 : Array Oper := regAt [1, 1, 1, 0, 0] body51
theorem cd_c51_9 : c51_9 = .region 3 r51_9 false := by kernel_rfl
noncomputable def c51_11 : Code := match c51_10 with
  | .block _ x => x
  | _ => .skip
theorem cd_c51_10 : c51_10 = .block 0 c51_11 := by kernel_rfl
noncomputable def c51_12 : Code := match c51_11 with
  | .loop x => x
  | _ => .skip
theorem cd_c51_11 : c51_11 = .loop c51_12 := by kernel_rfl
noncomputable def c51_13 : Code := match c51_12 with
  | .seq x _ => x
  | _ => .skip
noncomputable def c51_14 : Code := match c51_12 with
  | .seq _ x => x
  | _ => .skip
theorem cd_c51_12 : c51_12 = .seq c51_13 c51_14 := by kernel_rfl
noncomputable def r51_13 : Array Oper := regAt [1, 1, 1, 0, 1, 1, 0, 0] body51
theorem cd_c51_13 : c51_13 = .region 4 r51_13 false := by kernel_rfl
noncomputable def c51_15 : Code := match c51_14 with
  | .seq x _ => x
  | _ => .skip
noncomputable def c51_16 : Code := match c51_14 with
  | .seq _ x => x
  | _ => .skip
theorem cd_c51_14 : c51_14 = .seq c51_15 c51_16 := by kernel_rfl
theorem cd_c51_15 : c51_15 = .cond (.tmp 15) .skip (.exit 0) := by kernel_rfl
noncomputable def c51_18 : Code := match c51_16 with
  | .seq x _ => x
  | _ => .skip
noncomputable def c51_19 : Code := match c51_16 with
  | .seq _ x => x
  | _ => .skip
theorem cd_c51_16 : c51_16 = .seq c51_18 c51_19 := by kernel_rfl
noncomputable def c51_20 : Code := match c51_18 with
  | .block _ x => x
  | _ => .skip
theorem cd_c51_18 : c51_18 = .block 1 c51_20 := by kernel_rfl
noncomputable def c51_21 : Code := match c51_20 with
  | .seq x _ => x
  | _ => .skip
noncomputable def c51_22 : Code := match c51_20 with
  | .seq _ x => x
  | _ => .skip
theorem cd_c51_20 : c51_20 = .seq c51_21 c51_22 := by kernel_rfl
noncomputable def r51_21 : Array Oper := regAt [1, 1, 1, 0, 1, 1, 0, 1, 1, 0, 1, 0] body51
theorem cd_c51_21 : c51_21 = .region 5 r51_21 false := by kernel_rfl
noncomputable def r51_22 : Array Oper := regAt [1, 1, 1, 0, 1, 1, 0, 1, 1, 0, 1, 1] body51
theorem cd_c51_22 : c51_22 = .region 6 r51_22 false := by kernel_rfl
noncomputable def r51_19 : Array Oper := regAt [1, 1, 1, 0, 1, 1, 0, 1, 1, 1] body51
theorem cd_c51_19 : c51_19 = .region 7 r51_19 false := by kernel_rfl
noncomputable def c51_23 : Code := match c51_8 with
  | .seq x _ => x
  | _ => .skip
theorem cd_c51_8 : c51_8 = .seq c51_23 .ret := by kernel_rfl
noncomputable def r51_23 : Array Oper := regAt [1, 1, 1, 1, 0] body51
theorem cd_c51_23 : c51_23 = .region 8 r51_23 false := by kernel_rfl
noncomputable def body52 : Code := match Try.f52.body with
  | some c => c
  | none => .skip
noncomputable def c52_1 : Code := match code52 with
  | .seq x _ => x
  | _ => .skip
noncomputable def c52_2 : Code := match code52 with
  | .seq _ x => x
  | _ => .skip
theorem cd_code52 : code52 = .seq c52_1 c52_2 := by kernel_rfl
noncomputable def r52_1 : Array Oper := regAt [0] body52
theorem cd_c52_1 : c52_1 = .region 0 r52_1 false := by kernel_rfl
noncomputable def c52_3 : Code := match c52_2 with
  | .seq x _ => x
  | _ => .skip
noncomputable def c52_4 : Code := match c52_2 with
  | .seq _ x => x
  | _ => .skip
theorem cd_c52_2 : c52_2 = .seq c52_3 c52_4 := by kernel_rfl
noncomputable def r52_3 : Array Oper := regAt [1, 0] body52
theorem cd_c52_3 : c52_3 = .region 1 r52_3 false := by kernel_rfl
noncomputable def c52_5 : Code := match c52_4 with
  | .seq x _ => x
  | _ => .skip
noncomputable def c52_6 : Code := match c52_4 with
  | .seq _ x => x
  | _ => .skip
theorem cd_c52_4 : c52_4 = .seq c52_5 c52_6 := by kernel_rfl
noncomputable def r52_5 : Array Oper := regAt [1, 1, 0] body52
theorem cd_c52_5 : c52_5 = .region 2 r52_5 false := by kernel_rfl
noncomputable def c52_7 : Code := match c52_6 with
  | .seq x _ => x
  | _ => .skip
noncomputable def c52_8 : Code := match c52_6 with
  | .seq _ x => x
  | _ => .skip
theorem cd_c52_6 : c52_6 = .seq c52_7 c52_8 := by kernel_rfl
noncomputable def r52_7 : Array Oper := regAt [1, 1, 1, 0] body52
theorem cd_c52_7 : c52_7 = .region 3 r52_7 false := by kernel_rfl
noncomputable def c52_9 : Code := match c52_8 with
  | .seq x _ => x
  | _ => .skip
noncomputable def c52_10 : Code := match c52_8 with
  | .seq _ x => x
  | _ => .skip
theorem cd_c52_8 : c52_8 = .seq c52_9 c52_10 := by kernel_rfl
noncomputable def c52_11 : Code := match c52_9 with
  | .seq x _ => x
  | _ => .skip
noncomputable def c52_12 : Code := match c52_9 with
  | .seq _ x => x
  | _ => .skip
theorem cd_c52_9 : c52_9 = .seq c52_11 c52_12 := by kernel_rfl
noncomputable def r52_11 : Array Oper := regAt [1, 1, 1, 1, 0, 0] body52
theorem cd_c52_11 : c52_11 = .region 4 r52_11 false := by kernel_rfl
noncomputable def c52_13 : Code := match c52_12 with
  | .cond _ x _ => x
  | _ => .skip
theorem cd_c52_12 : c52_12 = .cond (.tmp 31) c52_13 .skip := by kernel_rfl
noncomputable def c52_15 : Code := match c52_13 with
  | .seq x _ => x
  | _ => .skip
noncomputable def c52_16 : Code := match c52_13 with
  | .seq _ x => x
  | _ => .skip
theorem cd_c52_13 : c52_13 = .seq c52_15 c52_16 := by kernel_rfl
noncomputable def r52_15 : Array Oper := regAt [1, 1, 1, 1, 0, 1, 1, 0] body52
theorem cd_c52_15 : c52_15 = .region 5 r52_15 false := by kernel_rfl
noncomputable def c52_17 : Code := match c52_16 with
  | .seq x _ => x
  | _ => .skip
theorem cd_c52_16 : c52_16 = .seq c52_17 .ret := by kernel_rfl
noncomputable def r52_17 : Array Oper := regAt [1, 1, 1, 1, 0, 1, 1, 1, 0] body52
theorem cd_c52_17 : c52_17 = .region 6 r52_17 false := by kernel_rfl
noncomputable def c52_18 : Code := match c52_10 with
  | .seq x _ => x
  | _ => .skip
noncomputable def c52_19 : Code := match c52_10 with
  | .seq _ x => x
  | _ => .skip
theorem cd_c52_10 : c52_10 = .seq c52_18 c52_19 := by kernel_rfl
noncomputable def r52_18 : Array Oper := regAt [1, 1, 1, 1, 1, 0] body52
theorem cd_c52_18 : c52_18 = .region 7 r52_18 false := by kernel_rfl
noncomputable def c52_20 : Code := match c52_19 with
  | .seq x _ => x
  | _ => .skip
noncomputable def c52_21 : Code := match c52_19 with
  | .seq _ x => x
  | _ => .skip
theorem cd_c52_19 : c52_19 = .seq c52_20 c52_21 := by kernel_rfl
noncomputable def c52_22 : Code := match c52_20 with
  | .seq x _ => x
  | _ => .skip
noncomputable def c52_23 : Code := match c52_20 with
  | .seq _ x => x
  | _ => .skip
theorem cd_c52_20 : c52_20 = .seq c52_22 c52_23 := by kernel_rfl
noncomputable def r52_22 : Array Oper := regAt [1, 1, 1, 1, 1, 1, 0, 0] body52
theorem cd_c52_22 : c52_22 = .region 8 r52_22 false := by kernel_rfl
noncomputable def c52_24 : Code := match c52_23 with
  | .cond _ x _ => x
  | _ => .skip
theorem cd_c52_23 : c52_23 = .cond (.tmp 41) c52_24 .skip := by kernel_rfl
noncomputable def r52_24 : Array Oper := regAt [1, 1, 1, 1, 1, 1, 0, 1, 1] body52
theorem cd_c52_24 : c52_24 = .region 9 r52_24 false := by kernel_rfl
noncomputable def c52_26 : Code := match c52_21 with
  | .seq x _ => x
  | _ => .skip
theorem cd_c52_21 : c52_21 = .seq c52_26 .ret := by kernel_rfl
noncomputable def r52_26 : Array Oper := regAt [1, 1, 1, 1, 1, 1, 1, 0] body52
theorem cd_c52_26 : c52_26 = .region 10 r52_26 false := by kernel_rfl
noncomputable def body53 : Code := match Try.f53.body with
  | some c => c
  | none => .skip
noncomputable def r53 : Array Oper := regAt [] body53
theorem cd_code53 : code53 = .region 0 r53 true := by kernel_rfl
noncomputable def body55 : Code := match Try.f55.body with
  | some c => c
  | none => .skip
noncomputable def c55_1 : Code := match code55 with
  | .seq x _ => x
  | _ => .skip
noncomputable def c55_2 : Code := match code55 with
  | .seq _ x => x
  | _ => .skip
theorem cd_code55 : code55 = .seq c55_1 c55_2 := by kernel_rfl
noncomputable def r55_1 : Array Oper := regAt [0] body55
theorem cd_c55_1 : c55_1 = .region 0 r55_1 false := by kernel_rfl
noncomputable def c55_3 : Code := match c55_2 with
  | .block _ x => x
  | _ => .skip
theorem cd_c55_2 : c55_2 = .block 0 c55_3 := by kernel_rfl
noncomputable def c55_4 : Code := match c55_3 with
  | .loop x => x
  | _ => .skip
theorem cd_c55_3 : c55_3 = .loop c55_4 := by kernel_rfl
noncomputable def c55_5 : Code := match c55_4 with
  | .seq x _ => x
  | _ => .skip
noncomputable def c55_6 : Code := match c55_4 with
  | .seq _ x => x
  | _ => .skip
theorem cd_c55_4 : c55_4 = .seq c55_5 c55_6 := by kernel_rfl
noncomputable def c55_7 : Code := match c55_5 with
  | .seq x _ => x
  | _ => .skip
noncomputable def c55_8 : Code := match c55_5 with
  | .seq _ x => x
  | _ => .skip
theorem cd_c55_5 : c55_5 = .seq c55_7 c55_8 := by kernel_rfl
noncomputable def r55_7 : Array Oper := regAt [1, 1, 0, 0, 0] body55
theorem cd_c55_7 : c55_7 = .region 1 r55_7 false := by kernel_rfl
theorem cd_c55_8 : c55_8 = .cond (.tmp 10) .skip (.exit 0) := by kernel_rfl
noncomputable def c55_10 : Code := match c55_6 with
  | .block _ x => x
  | _ => .skip
theorem cd_c55_6 : c55_6 = .block 1 c55_10 := by kernel_rfl
noncomputable def c55_11 : Code := match c55_10 with
  | .seq x _ => x
  | _ => .skip
noncomputable def c55_12 : Code := match c55_10 with
  | .seq _ x => x
  | _ => .skip
theorem cd_c55_10 : c55_10 = .seq c55_11 c55_12 := by kernel_rfl
noncomputable def r55_11 : Array Oper := regAt [1, 1, 0, 1, 1, 0] body55
theorem cd_c55_11 : c55_11 = .region 2 r55_11 false := by kernel_rfl
noncomputable def c55_13 : Code := match c55_12 with
  | .seq x _ => x
  | _ => .skip
noncomputable def c55_14 : Code := match c55_12 with
  | .seq _ x => x
  | _ => .skip
theorem cd_c55_12 : c55_12 = .seq c55_13 c55_14 := by kernel_rfl
noncomputable def c55_15 : Code := match c55_13 with
  | .seq x _ => x
  | _ => .skip
noncomputable def c55_16 : Code := match c55_13 with
  | .seq _ x => x
  | _ => .skip
theorem cd_c55_13 : c55_13 = .seq c55_15 c55_16 := by kernel_rfl
noncomputable def r55_15 : Array Oper := regAt [1, 1, 0, 1, 1, 1, 0, 0] body55
theorem cd_c55_15 : c55_15 = .region 3 r55_15 false := by kernel_rfl
theorem cd_c55_16 : c55_16 = .cond (.tmp 32) .ret .skip := by kernel_rfl
noncomputable def c55_18 : Code := match c55_14 with
  | .seq x _ => x
  | _ => .skip
noncomputable def c55_19 : Code := match c55_14 with
  | .seq _ x => x
  | _ => .skip
theorem cd_c55_14 : c55_14 = .seq c55_18 c55_19 := by kernel_rfl
noncomputable def r55_18 : Array Oper := regAt [1, 1, 0, 1, 1, 1, 1, 0] body55
theorem cd_c55_18 : c55_18 = .region 4 r55_18 false := by kernel_rfl
noncomputable def c55_20 : Code := match c55_19 with
  | .seq x _ => x
  | _ => .skip
noncomputable def c55_21 : Code := match c55_19 with
  | .seq _ x => x
  | _ => .skip
theorem cd_c55_19 : c55_19 = .seq c55_20 c55_21 := by kernel_rfl
noncomputable def c55_22 : Code := match c55_20 with
  | .seq x _ => x
  | _ => .skip
noncomputable def c55_23 : Code := match c55_20 with
  | .seq _ x => x
  | _ => .skip
theorem cd_c55_20 : c55_20 = .seq c55_22 c55_23 := by kernel_rfl
noncomputable def r55_22 : Array Oper := regAt [1, 1, 0, 1, 1, 1, 1, 1, 0, 0] body55
theorem cd_c55_22 : c55_22 = .region 5 r55_22 true := by kernel_rfl
theorem cd_c55_23 : c55_23 = .cond (.tmp 49) .ret .skip := by kernel_rfl
noncomputable def c55_25 : Code := match c55_21 with
  | .seq x _ => x
  | _ => .skip
noncomputable def c55_26 : Code := match c55_21 with
  | .seq _ x => x
  | _ => .skip
theorem cd_c55_21 : c55_21 = .seq c55_25 c55_26 := by kernel_rfl
noncomputable def r55_25 : Array Oper := regAt [1, 1, 0, 1, 1, 1, 1, 1, 1, 0] body55
theorem cd_c55_25 : c55_25 = .region 6 r55_25 false := by kernel_rfl
noncomputable def c55_27 : Code := match c55_26 with
  | .seq x _ => x
  | _ => .skip
noncomputable def c55_28 : Code := match c55_26 with
  | .seq _ x => x
  | _ => .skip
theorem cd_c55_26 : c55_26 = .seq c55_27 c55_28 := by kernel_rfl
noncomputable def r55_27 : Array Oper := regAt [1, 1, 0, 1, 1, 1, 1, 1, 1, 1, 0] body55
theorem cd_c55_27 : c55_27 = .region 7 r55_27 false := by kernel_rfl
theorem cd_c55_28 : c55_28 = .cond (.tmp 59) .ret .skip := by kernel_rfl
noncomputable def body56 : Code := match Try.f56.body with
  | some c => c
  | none => .skip
noncomputable def c56_1 : Code := match code56 with
  | .seq x _ => x
  | _ => .skip
noncomputable def c56_2 : Code := match code56 with
  | .seq _ x => x
  | _ => .skip
theorem cd_code56 : code56 = .seq c56_1 c56_2 := by kernel_rfl
noncomputable def r56_1 : Array Oper := regAt [0] body56
theorem cd_c56_1 : c56_1 = .region 0 r56_1 false := by kernel_rfl
noncomputable def c56_3 : Code := match c56_2 with
  | .seq x _ => x
  | _ => .skip
noncomputable def c56_4 : Code := match c56_2 with
  | .seq _ x => x
  | _ => .skip
theorem cd_c56_2 : c56_2 = .seq c56_3 c56_4 := by kernel_rfl
noncomputable def r56_3 : Array Oper := regAt [1, 0] body56
theorem cd_c56_3 : c56_3 = .region 1 r56_3 false := by kernel_rfl
noncomputable def c56_5 : Code := match c56_4 with
  | .seq x _ => x
  | _ => .skip
noncomputable def c56_6 : Code := match c56_4 with
  | .seq _ x => x
  | _ => .skip
theorem cd_c56_4 : c56_4 = .seq c56_5 c56_6 := by kernel_rfl
noncomputable def c56_7 : Code := match c56_5 with
  | .seq x _ => x
  | _ => .skip
noncomputable def c56_8 : Code := match c56_5 with
  | .seq _ x => x
  | _ => .skip
theorem cd_c56_5 : c56_5 = .seq c56_7 c56_8 := by kernel_rfl
noncomputable def r56_7 : Array Oper := regAt [1, 1, 0, 0] body56
theorem cd_c56_7 : c56_7 = .region 2 r56_7 false := by kernel_rfl
noncomputable def c56_9 : Code := match c56_8 with
  | .block _ x => x
  | _ => .skip
theorem cd_c56_8 : c56_8 = .block 0 c56_9 := by kernel_rfl
noncomputable def c56_10 : Code := match c56_9 with
  | .loop x => x
  | _ => .skip
theorem cd_c56_9 : c56_9 = .loop c56_10 := by kernel_rfl
noncomputable def c56_11 : Code := match c56_10 with
  | .seq x _ => x
  | _ => .skip
noncomputable def c56_12 : Code := match c56_10 with
  | .seq _ x => x
  | _ => .skip
theorem cd_c56_10 : c56_10 = .seq c56_11 c56_12 := by kernel_rfl
noncomputable def r56_11 : Array Oper := regAt [1, 1, 0, 1, 1, 0, 0] body56
theorem cd_c56_11 : c56_11 = .region 3 r56_11 false := by kernel_rfl
noncomputable def c56_13 : Code := match c56_12 with
  | .seq x _ => x
  | _ => .skip
noncomputable def c56_14 : Code := match c56_12 with
  | .seq _ x => x
  | _ => .skip
theorem cd_c56_12 : c56_12 = .seq c56_13 c56_14 := by kernel_rfl
theorem cd_c56_13 : c56_13 = .cond (.tmp 6) .skip (.exit 0) := by kernel_rfl
noncomputable def c56_16 : Code := match c56_14 with
  | .seq x _ => x
  | _ => .skip
noncomputable def c56_17 : Code := match c56_14 with
  | .seq _ x => x
  | _ => .skip
theorem cd_c56_14 : c56_14 = .seq c56_16 c56_17 := by kernel_rfl
noncomputable def c56_18 : Code := match c56_16 with
  | .block _ x => x
  | _ => .skip
theorem cd_c56_16 : c56_16 = .block 1 c56_18 := by kernel_rfl
noncomputable def c56_19 : Code := match c56_18 with
  | .seq x _ => x
  | _ => .skip
noncomputable def c56_20 : Code := match c56_18 with
  | .seq _ x => x
  | _ => .skip
theorem cd_c56_18 : c56_18 = .seq c56_19 c56_20 := by kernel_rfl
noncomputable def r56_19 : Array Oper := regAt [1, 1, 0, 1, 1, 0, 1, 1, 0, 1, 0] body56
theorem cd_c56_19 : c56_19 = .region 4 r56_19 false := by kernel_rfl
noncomputable def r56_20 : Array Oper := regAt [1, 1, 0, 1, 1, 0, 1, 1, 0, 1, 1] body56
theorem cd_c56_20 : c56_20 = .region 5 r56_20 false := by kernel_rfl
noncomputable def r56_17 : Array Oper := regAt [1, 1, 0, 1, 1, 0, 1, 1, 1] body56
theorem cd_c56_17 : c56_17 = .region 6 r56_17 false := by kernel_rfl
noncomputable def c56_21 : Code := match c56_6 with
  | .seq x _ => x
  | _ => .skip
theorem cd_c56_6 : c56_6 = .seq c56_21 .ret := by kernel_rfl
noncomputable def r56_21 : Array Oper := regAt [1, 1, 1, 0] body56
theorem cd_c56_21 : c56_21 = .region 7 r56_21 false := by kernel_rfl
def xs6 := (And.intro (And.intro (And.intro (And.intro (And.intro (cdEq cd_code6) (And.intro (cdEq cd_c6_1) (cdEq cd_c6_2))) (And.intro (cdEq cd_c6_3) (And.intro (cdEq cd_c6_4) (cdEq cd_c6_5)))) (And.intro (And.intro (cdEq cd_c6_7) (And.intro (cdEq cd_c6_8) (cdEq cd_c6_9))) (And.intro (And.intro (cdEq cd_c6_11) (cdEq cd_c6_6)) (And.intro (cdEq cd_c6_12) (cdEq cd_c6_13))))) (And.intro (And.intro (And.intro (cdEq cd_c6_14) (And.intro (cdEq cd_c6_15) (cdEq cd_c6_16))) (And.intro (cdEq cd_c6_18) (And.intro (cdEq cd_c6_19) (cdEq cd_c6_20)))) (And.intro (And.intro (cdEq cd_c6_22) (And.intro (cdEq cd_c6_17) (cdEq cd_c6_23))) (And.intro (And.intro (cdEq cd_c6_24) (cdEq cd_c6_25)) (And.intro (cdEq cd_c6_27) (cdEq cd_c6_28)))))) (And.intro (And.intro (And.intro (And.intro (cdEq cd_c6_29) (And.intro (cdEq cd_c6_31) (cdEq cd_c6_26))) (And.intro (cdEq cd_c6_32) (And.intro (cdEq cd_c6_33) (cdEq cd_c6_34)))) (And.intro (And.intro (cdEq cd_c6_36) (And.intro (cdEq cd_c6_37) (cdEq cd_c6_38))) (And.intro (And.intro (cdEq cd_c6_40) (cdEq cd_c6_35)) (And.intro (cdEq cd_c6_41) (cdEq cd_c6_42))))) (And.intro (And.intro (And.intro (cdEq cd_c6_43) (And.intro (cdEq cd_c6_45) (cdEq cd_c6_46))) (And.intro (cdEq cd_c6_47) (And.intro (cdEq cd_c6_49) (cdEq cd_c6_44)))) (And.intro (And.intro (cdEq cd_c6_50) (And.intro (cdEq cd_c6_52) (cdEq cd_c6_53))) (And.intro (And.intro (cdEq cd_c6_54) (cdEq cd_c6_56)) (And.intro (cdEq cd_c6_51) (cdEq cd_c6_57)))))))
def xs8 := (And.intro (And.intro (And.intro (And.intro (cdEq cd_code8) (cdEq cd_c8_1)) (And.intro (cdEq cd_c8_2) (And.intro (cdEq cd_c8_3) (cdEq cd_c8_5)))) (And.intro (And.intro (cdEq cd_c8_6) (And.intro (cdEq cd_c8_7) (cdEq cd_c8_9))) (And.intro (cdEq cd_c8_4) (And.intro (cdEq cd_c8_10) (cdEq cd_c8_11))))) (And.intro (And.intro (And.intro (cdEq cd_c8_12) (cdEq cd_c8_14)) (And.intro (cdEq cd_c8_15) (And.intro (cdEq cd_c8_16) (cdEq cd_c8_13)))) (And.intro (And.intro (cdEq cd_c8_18) (And.intro (cdEq cd_c8_20) (cdEq cd_c8_21))) (And.intro (cdEq cd_c8_22) (And.intro (cdEq cd_c8_19) (cdEq cd_c8_24))))))
def xs9 := (And.intro (And.intro (And.intro (cdEq cd_code9) (cdEq cd_c9_1)) (And.intro (cdEq cd_c9_2) (And.intro (cdEq cd_c9_3) (cdEq cd_c9_5)))) (And.intro (And.intro (cdEq cd_c9_6) (cdEq cd_c9_7)) (And.intro (cdEq cd_c9_9) (And.intro (cdEq cd_c9_4) (cdEq cd_c9_10)))))
def xs10 := (And.intro (And.intro (And.intro (And.intro (And.intro (cdEq cd_code10) (cdEq cd_c10_1)) (And.intro (cdEq cd_c10_2) (And.intro (cdEq cd_c10_3) (cdEq cd_c10_5)))) (And.intro (And.intro (cdEq cd_c10_6) (cdEq cd_c10_7)) (And.intro (cdEq cd_c10_9) (And.intro (cdEq cd_c10_4) (cdEq cd_c10_10))))) (And.intro (And.intro (And.intro (cdEq cd_c10_11) (cdEq cd_c10_12)) (And.intro (cdEq cd_c10_14) (And.intro (cdEq cd_c10_15) (cdEq cd_c10_16)))) (And.intro (And.intro (cdEq cd_c10_18) (And.intro (cdEq cd_c10_13) (cdEq cd_c10_19))) (And.intro (cdEq cd_c10_20) (And.intro (cdEq cd_c10_21) (cdEq cd_c10_23)))))) (And.intro (And.intro (And.intro (And.intro (cdEq cd_c10_24) (cdEq cd_c10_25)) (And.intro (cdEq cd_c10_27) (And.intro (cdEq cd_c10_22) (cdEq cd_c10_28)))) (And.intro (And.intro (cdEq cd_c10_29) (And.intro (cdEq cd_c10_30) (cdEq cd_c10_32))) (And.intro (cdEq cd_c10_33) (And.intro (cdEq cd_c10_34) (cdEq cd_c10_35))))) (And.intro (And.intro (And.intro (cdEq cd_c10_36) (cdEq cd_c10_37)) (And.intro (cdEq cd_c10_38) (And.intro (cdEq cd_c10_39) (cdEq cd_c10_41)))) (And.intro (And.intro (cdEq cd_c10_43) (And.intro (cdEq cd_c10_44) (cdEq cd_c10_45))) (And.intro (cdEq cd_c10_42) (And.intro (cdEq cd_c10_31) (cdEq cd_c10_46)))))))
def xs11 := (And.intro (And.intro (And.intro (cdEq cd_code11) (And.intro (cdEq cd_c11_1) (cdEq cd_c11_2))) (And.intro (And.intro (cdEq cd_c11_3) (cdEq cd_c11_4)) (And.intro (cdEq cd_c11_5) (cdEq cd_c11_7)))) (And.intro (And.intro (cdEq cd_c11_8) (And.intro (cdEq cd_c11_9) (cdEq cd_c11_10))) (And.intro (And.intro (cdEq cd_c11_11) (cdEq cd_c11_12)) (And.intro (cdEq cd_c11_6) (cdEq cd_c11_13)))))
def xs12 := (And.intro (And.intro (And.intro (cdEq cd_code12) (cdEq cd_c12_1)) (And.intro (cdEq cd_c12_2) (And.intro (cdEq cd_c12_3) (cdEq cd_c12_5)))) (And.intro (And.intro (cdEq cd_c12_6) (cdEq cd_c12_7)) (And.intro (cdEq cd_c12_9) (And.intro (cdEq cd_c12_4) (cdEq cd_c12_10)))))
def xs13 := (And.intro (And.intro (And.intro (And.intro (cdEq cd_code13) (cdEq cd_c13_1)) (And.intro (cdEq cd_c13_2) (cdEq cd_c13_3))) (And.intro (And.intro (cdEq cd_c13_4) (cdEq cd_c13_5)) (And.intro (cdEq cd_c13_7) (And.intro (cdEq cd_c13_8) (cdEq cd_c13_9))))) (And.intro (And.intro (And.intro (cdEq cd_c13_10) (cdEq cd_c13_11)) (And.intro (cdEq cd_c13_12) (cdEq cd_c13_13))) (And.intro (And.intro (cdEq cd_c13_15) (cdEq cd_c13_16)) (And.intro (cdEq cd_c13_14) (And.intro (cdEq cd_c13_6) (cdEq cd_c13_18))))))
def xs14 := (And.intro (And.intro (And.intro (And.intro (cdEq cd_code14) (And.intro (cdEq cd_c14_1) (cdEq cd_c14_2))) (And.intro (cdEq cd_c14_3) (And.intro (cdEq cd_c14_4) (cdEq cd_c14_5)))) (And.intro (And.intro (cdEq cd_c14_7) (And.intro (cdEq cd_c14_8) (cdEq cd_c14_9))) (And.intro (And.intro (cdEq cd_c14_11) (cdEq cd_c14_6)) (And.intro (cdEq cd_c14_12) (cdEq cd_c14_13))))) (And.intro (And.intro (And.intro (cdEq cd_c14_14) (And.intro (cdEq cd_c14_15) (cdEq cd_c14_16))) (And.intro (And.intro (cdEq cd_c14_18) (cdEq cd_c14_19)) (And.intro (cdEq cd_c14_20) (cdEq cd_c14_22)))) (And.intro (And.intro (cdEq cd_c14_23) (And.intro (cdEq cd_c14_24) (cdEq cd_c14_25))) (And.intro (And.intro (cdEq cd_c14_26) (cdEq cd_c14_28)) (And.intro (cdEq cd_c14_17) (cdEq cd_c14_29))))))
def xs15 := (And.intro (And.intro (And.intro (cdEq cd_code15) (And.intro (cdEq cd_c15_1) (cdEq cd_c15_2))) (And.intro (And.intro (cdEq cd_c15_3) (cdEq cd_c15_4)) (And.intro (cdEq cd_c15_5) (cdEq cd_c15_6)))) (And.intro (And.intro (cdEq cd_c15_7) (And.intro (cdEq cd_c15_9) (cdEq cd_c15_10))) (And.intro (And.intro (cdEq cd_c15_11) (cdEq cd_c15_13)) (And.intro (cdEq cd_c15_8) (cdEq cd_c15_14)))))
def xs17 := (And.intro (And.intro (And.intro (And.intro (cdEq cd_code17) (And.intro (cdEq cd_c17_1) (cdEq cd_c17_2))) (And.intro (cdEq cd_c17_3) (And.intro (cdEq cd_c17_5) (cdEq cd_c17_6)))) (And.intro (And.intro (cdEq cd_c17_7) (And.intro (cdEq cd_c17_9) (cdEq cd_c17_4))) (And.intro (And.intro (cdEq cd_c17_10) (cdEq cd_c17_12)) (And.intro (cdEq cd_c17_13) (cdEq cd_c17_14))))) (And.intro (And.intro (And.intro (cdEq cd_c17_15) (And.intro (cdEq cd_c17_16) (cdEq cd_c17_18))) (And.intro (And.intro (cdEq cd_c17_19) (cdEq cd_c17_17)) (And.intro (cdEq cd_c17_21) (cdEq cd_c17_23)))) (And.intro (And.intro (cdEq cd_c17_24) (And.intro (cdEq cd_c17_25) (cdEq cd_c17_26))) (And.intro (And.intro (cdEq cd_c17_28) (cdEq cd_c17_22)) (And.intro (cdEq cd_c17_11) (cdEq cd_c17_29))))))
def xs18 := (And.intro (And.intro (And.intro (And.intro (cdEq cd_code18) (cdEq cd_c18_1)) (And.intro (cdEq cd_c18_2) (cdEq cd_c18_3))) (And.intro (And.intro (cdEq cd_c18_5) (cdEq cd_c18_6)) (And.intro (cdEq cd_c18_7) (And.intro (cdEq cd_c18_8) (cdEq cd_c18_11))))) (And.intro (And.intro (And.intro (cdEq cd_c18_9) (cdEq cd_c18_12)) (And.intro (cdEq cd_c18_13) (cdEq cd_c18_14))) (And.intro (And.intro (cdEq cd_c18_16) (cdEq cd_c18_4)) (And.intro (cdEq cd_c18_17) (And.intro (cdEq cd_c18_18) (cdEq cd_c18_19))))))
def xs19 := (And.intro (And.intro (And.intro (And.intro (cdEq cd_code19) (cdEq cd_c19_1)) (And.intro (cdEq cd_c19_2) (And.intro (cdEq cd_c19_3) (cdEq cd_c19_5)))) (And.intro (And.intro (cdEq cd_c19_6) (cdEq cd_c19_7)) (And.intro (cdEq cd_c19_8) (And.intro (cdEq cd_c19_9) (cdEq cd_c19_11))))) (And.intro (And.intro (And.intro (cdEq cd_c19_12) (cdEq cd_c19_10)) (And.intro (cdEq cd_c19_14) (And.intro (cdEq cd_c19_16) (cdEq cd_c19_17)))) (And.intro (And.intro (cdEq cd_c19_18) (And.intro (cdEq cd_c19_19) (cdEq cd_c19_21))) (And.intro (cdEq cd_c19_15) (And.intro (cdEq cd_c19_4) (cdEq cd_c19_22))))))
def xs20 := (And.intro (And.intro (And.intro (And.intro (cdEq cd_code20) (cdEq cd_c20_1)) (And.intro (cdEq cd_c20_2) (cdEq cd_c20_3))) (And.intro (And.intro (cdEq cd_c20_5) (cdEq cd_c20_6)) (And.intro (cdEq cd_c20_7) (cdEq cd_c20_9)))) (And.intro (And.intro (And.intro (cdEq cd_c20_4) (cdEq cd_c20_10)) (And.intro (cdEq cd_c20_11) (cdEq cd_c20_12))) (And.intro (And.intro (cdEq cd_c20_14) (cdEq cd_c20_15)) (And.intro (cdEq cd_c20_16) (And.intro (cdEq cd_c20_13) (cdEq cd_c20_18))))))
def xs21 := (And.intro (And.intro (And.intro (And.intro (And.intro (cdEq cd_code21) (cdEq cd_c21_1)) (And.intro (cdEq cd_c21_2) (cdEq cd_c21_3))) (And.intro (And.intro (cdEq cd_c21_4) (cdEq cd_c21_5)) (And.intro (cdEq cd_c21_7) (cdEq cd_c21_8)))) (And.intro (And.intro (And.intro (cdEq cd_c21_9) (cdEq cd_c21_11)) (And.intro (cdEq cd_c21_6) (cdEq cd_c21_12))) (And.intro (And.intro (cdEq cd_c21_14) (cdEq cd_c21_15)) (And.intro (cdEq cd_c21_16) (And.intro (cdEq cd_c21_17) (cdEq cd_c21_18)))))) (And.intro (And.intro (And.intro (And.intro (cdEq cd_c21_20) (cdEq cd_c21_21)) (And.intro (cdEq cd_c21_19) (cdEq cd_c21_23))) (And.intro (And.intro (cdEq cd_c21_25) (cdEq cd_c21_26)) (And.intro (cdEq cd_c21_27) (And.intro (cdEq cd_c21_28) (cdEq cd_c21_30))))) (And.intro (And.intro (And.intro (cdEq cd_c21_24) (cdEq cd_c21_13)) (And.intro (cdEq cd_c21_31) (cdEq cd_c21_33))) (And.intro (And.intro (cdEq cd_c21_34) (cdEq cd_c21_35)) (And.intro (cdEq cd_c21_37) (And.intro (cdEq cd_c21_32) (cdEq cd_c21_38)))))))
def xs22 := (And.intro (And.intro (And.intro (And.intro (cdEq cd_code22) (And.intro (cdEq cd_c22_1) (cdEq cd_c22_2))) (And.intro (cdEq cd_c22_3) (And.intro (cdEq cd_c22_5) (cdEq cd_c22_6)))) (And.intro (And.intro (cdEq cd_c22_7) (And.intro (cdEq cd_c22_8) (cdEq cd_c22_11))) (And.intro (cdEq cd_c22_9) (And.intro (cdEq cd_c22_12) (cdEq cd_c22_13))))) (And.intro (And.intro (And.intro (cdEq cd_c22_14) (And.intro (cdEq cd_c22_16) (cdEq cd_c22_4))) (And.intro (cdEq cd_c22_17) (And.intro (cdEq cd_c22_18) (cdEq cd_c22_19)))) (And.intro (And.intro (cdEq cd_c22_20) (And.intro (cdEq cd_c22_21) (cdEq cd_c22_22))) (And.intro (cdEq cd_c22_23) (And.intro (cdEq cd_c22_24) (cdEq cd_c22_25))))))
def xs23 := (And.intro (And.intro (cdEq cd_code23) (cdEq cd_c23_1)) (And.intro (cdEq cd_c23_2) (cdEq cd_c23_3)))
def xs24 := (And.intro (And.intro (cdEq cd_code24) (cdEq cd_c24_1)) (And.intro (cdEq cd_c24_2) (cdEq cd_c24_3)))
def xs25 := (And.intro (And.intro (And.intro (And.intro (cdEq cd_code25) (cdEq cd_c25_1)) (And.intro (cdEq cd_c25_2) (And.intro (cdEq cd_c25_3) (cdEq cd_c25_5)))) (And.intro (And.intro (cdEq cd_c25_6) (And.intro (cdEq cd_c25_7) (cdEq cd_c25_8))) (And.intro (cdEq cd_c25_11) (And.intro (cdEq cd_c25_9) (cdEq cd_c25_12))))) (And.intro (And.intro (And.intro (cdEq cd_c25_13) (cdEq cd_c25_14)) (And.intro (cdEq cd_c25_16) (And.intro (cdEq cd_c25_4) (cdEq cd_c25_17)))) (And.intro (And.intro (cdEq cd_c25_18) (And.intro (cdEq cd_c25_19) (cdEq cd_c25_20))) (And.intro (cdEq cd_c25_21) (And.intro (cdEq cd_c25_22) (cdEq cd_c25_23))))))
def xs26 := (And.intro (And.intro (And.intro (cdEq cd_code26) (cdEq cd_c26_1)) (And.intro (cdEq cd_c26_2) (And.intro (cdEq cd_c26_3) (cdEq cd_c26_5)))) (And.intro (And.intro (cdEq cd_c26_6) (cdEq cd_c26_7)) (And.intro (cdEq cd_c26_9) (And.intro (cdEq cd_c26_4) (cdEq cd_c26_10)))))
def xs27 := (And.intro (And.intro (And.intro (cdEq cd_code27) (cdEq cd_c27_1)) (And.intro (cdEq cd_c27_2) (And.intro (cdEq cd_c27_3) (cdEq cd_c27_5)))) (And.intro (And.intro (cdEq cd_c27_6) (cdEq cd_c27_7)) (And.intro (cdEq cd_c27_9) (And.intro (cdEq cd_c27_4) (cdEq cd_c27_10)))))
def xs28 := (And.intro (And.intro (cdEq cd_code28) (cdEq cd_c28_1)) (And.intro (cdEq cd_c28_2) (cdEq cd_c28_3)))
def xs29 := (And.intro (And.intro (And.intro (And.intro (cdEq cd_code29) (And.intro (cdEq cd_c29_1) (cdEq cd_c29_2))) (And.intro (And.intro (cdEq cd_c29_3) (cdEq cd_c29_4)) (And.intro (cdEq cd_c29_5) (cdEq cd_c29_7)))) (And.intro (And.intro (cdEq cd_c29_8) (And.intro (cdEq cd_c29_9) (cdEq cd_c29_10))) (And.intro (And.intro (cdEq cd_c29_11) (cdEq cd_c29_12)) (And.intro (cdEq cd_c29_13) (cdEq cd_c29_14))))) (And.intro (And.intro (And.intro (cdEq cd_c29_16) (And.intro (cdEq cd_c29_18) (cdEq cd_c29_19))) (And.intro (And.intro (cdEq cd_c29_20) (cdEq cd_c29_21)) (And.intro (cdEq cd_c29_22) (cdEq cd_c29_23)))) (And.intro (And.intro (And.intro (cdEq cd_c29_25) (cdEq cd_c29_26)) (And.intro (cdEq cd_c29_27) (cdEq cd_c29_29))) (And.intro (And.intro (cdEq cd_c29_24) (cdEq cd_c29_17)) (And.intro (cdEq cd_c29_6) (cdEq cd_c29_30))))))
def xs30 := (And.intro (And.intro (And.intro (And.intro (cdEq cd_code30) (And.intro (cdEq cd_c30_1) (cdEq cd_c30_2))) (And.intro (cdEq cd_c30_3) (And.intro (cdEq cd_c30_5) (cdEq cd_c30_6)))) (And.intro (And.intro (cdEq cd_c30_7) (And.intro (cdEq cd_c30_8) (cdEq cd_c30_9))) (And.intro (cdEq cd_c30_10) (And.intro (cdEq cd_c30_11) (cdEq cd_c30_12))))) (And.intro (And.intro (And.intro (cdEq cd_c30_14) (And.intro (cdEq cd_c30_16) (cdEq cd_c30_17))) (And.intro (cdEq cd_c30_18) (And.intro (cdEq cd_c30_19) (cdEq cd_c30_20)))) (And.intro (And.intro (cdEq cd_c30_21) (And.intro (cdEq cd_c30_22) (cdEq cd_c30_23))) (And.intro (And.intro (cdEq cd_c30_25) (cdEq cd_c30_15)) (And.intro (cdEq cd_c30_4) (cdEq cd_c30_26))))))
def xs31 := (And.intro (And.intro (cdEq cd_code31) (cdEq cd_c31_1)) (And.intro (cdEq cd_c31_2) (cdEq cd_c31_3)))
def xs32 := (And.intro (And.intro (And.intro (cdEq cd_code32) (cdEq cd_c32_1)) (And.intro (cdEq cd_c32_2) (And.intro (cdEq cd_c32_3) (cdEq cd_c32_5)))) (And.intro (And.intro (cdEq cd_c32_6) (cdEq cd_c32_7)) (And.intro (cdEq cd_c32_9) (And.intro (cdEq cd_c32_4) (cdEq cd_c32_10)))))
def xs33 := (And.intro (And.intro (cdEq cd_code33) (cdEq cd_c33_1)) (And.intro (cdEq cd_c33_2) (cdEq cd_c33_3)))
def xs34 := (And.intro (And.intro (cdEq cd_code34) (cdEq cd_c34_1)) (And.intro (cdEq cd_c34_2) (cdEq cd_c34_3)))
def xs35 := (And.intro (And.intro (And.intro (cdEq cd_code35) (cdEq cd_c35_1)) (And.intro (cdEq cd_c35_2) (And.intro (cdEq cd_c35_3) (cdEq cd_c35_5)))) (And.intro (And.intro (cdEq cd_c35_6) (cdEq cd_c35_7)) (And.intro (cdEq cd_c35_9) (And.intro (cdEq cd_c35_4) (cdEq cd_c35_10)))))
def xs36 := (And.intro (And.intro (And.intro (And.intro (cdEq cd_code36) (cdEq cd_c36_1)) (And.intro (cdEq cd_c36_2) (cdEq cd_c36_3))) (And.intro (And.intro (cdEq cd_c36_5) (cdEq cd_c36_6)) (And.intro (cdEq cd_c36_7) (cdEq cd_c36_8)))) (And.intro (And.intro (And.intro (cdEq cd_c36_11) (cdEq cd_c36_9)) (And.intro (cdEq cd_c36_12) (cdEq cd_c36_13))) (And.intro (And.intro (cdEq cd_c36_14) (cdEq cd_c36_16)) (And.intro (cdEq cd_c36_4) (cdEq cd_c36_17)))))
def xs37 := (And.intro (And.intro (And.intro (And.intro (cdEq cd_code37) (cdEq cd_c37_1)) (And.intro (cdEq cd_c37_2) (And.intro (cdEq cd_c37_3) (cdEq cd_c37_4)))) (And.intro (And.intro (cdEq cd_c37_5) (And.intro (cdEq cd_c37_6) (cdEq cd_c37_7))) (And.intro (cdEq cd_c37_9) (And.intro (cdEq cd_c37_10) (cdEq cd_c37_11))))) (And.intro (And.intro (And.intro (cdEq cd_c37_12) (cdEq cd_c37_14)) (And.intro (cdEq cd_c37_15) (And.intro (cdEq cd_c37_13) (cdEq cd_c37_16)))) (And.intro (And.intro (cdEq cd_c37_17) (And.intro (cdEq cd_c37_19) (cdEq cd_c37_20))) (And.intro (cdEq cd_c37_18) (And.intro (cdEq cd_c37_8) (cdEq cd_c37_22))))))
def xs38 := (And.intro (And.intro (And.intro (cdEq cd_code38) (cdEq cd_c38_1)) (And.intro (cdEq cd_c38_2) (And.intro (cdEq cd_c38_3) (cdEq cd_c38_5)))) (And.intro (And.intro (cdEq cd_c38_6) (cdEq cd_c38_7)) (And.intro (cdEq cd_c38_9) (And.intro (cdEq cd_c38_4) (cdEq cd_c38_10)))))
def xs39 := (And.intro (And.intro (cdEq cd_code39) (cdEq cd_c39_1)) (And.intro (cdEq cd_c39_2) (cdEq cd_c39_3)))
def xs40 := (And.intro (And.intro (cdEq cd_code40) (cdEq cd_c40_1)) (And.intro (cdEq cd_c40_2) (cdEq cd_c40_3)))
def xs41 := (cdEq cd_code41)
def xs42 := (And.intro (And.intro (cdEq cd_code42) (cdEq cd_c42_1)) (And.intro (cdEq cd_c42_2) (cdEq cd_c42_3)))
def xs43 := (And.intro (And.intro (And.intro (cdEq cd_code43) (And.intro (cdEq cd_c43_1) (cdEq cd_c43_2))) (And.intro (And.intro (cdEq cd_c43_3) (cdEq cd_c43_4)) (And.intro (cdEq cd_c43_5) (cdEq cd_c43_6)))) (And.intro (And.intro (cdEq cd_c43_7) (And.intro (cdEq cd_c43_8) (cdEq cd_c43_10))) (And.intro (And.intro (cdEq cd_c43_12) (cdEq cd_c43_13)) (And.intro (cdEq cd_c43_14) (cdEq cd_c43_11)))))
def xs44 := (And.intro (And.intro (cdEq cd_code44) (cdEq cd_c44_1)) (And.intro (cdEq cd_c44_2) (cdEq cd_c44_3)))
def xs45 := (And.intro (And.intro (And.intro (And.intro (cdEq cd_code45) (cdEq cd_c45_1)) (And.intro (cdEq cd_c45_2) (And.intro (cdEq cd_c45_3) (cdEq cd_c45_5)))) (And.intro (And.intro (cdEq cd_c45_6) (cdEq cd_c45_7)) (And.intro (cdEq cd_c45_8) (And.intro (cdEq cd_c45_11) (cdEq cd_c45_9))))) (And.intro (And.intro (And.intro (cdEq cd_c45_12) (cdEq cd_c45_13)) (And.intro (cdEq cd_c45_14) (And.intro (cdEq cd_c45_17) (cdEq cd_c45_15)))) (And.intro (And.intro (cdEq cd_c45_18) (And.intro (cdEq cd_c45_19) (cdEq cd_c45_20))) (And.intro (cdEq cd_c45_22) (And.intro (cdEq cd_c45_4) (cdEq cd_c45_23))))))
def xs46 := (And.intro (And.intro (And.intro (And.intro (cdEq cd_code46) (cdEq cd_c46_1)) (And.intro (cdEq cd_c46_2) (cdEq cd_c46_3))) (And.intro (And.intro (cdEq cd_c46_5) (cdEq cd_c46_6)) (And.intro (cdEq cd_c46_7) (cdEq cd_c46_8)))) (And.intro (And.intro (And.intro (cdEq cd_c46_11) (cdEq cd_c46_9)) (And.intro (cdEq cd_c46_12) (cdEq cd_c46_13))) (And.intro (And.intro (cdEq cd_c46_14) (cdEq cd_c46_16)) (And.intro (cdEq cd_c46_4) (cdEq cd_c46_17)))))
def xs47 := (And.intro (cdEq cd_code47) (And.intro (cdEq cd_c47_1) (cdEq cd_c47_2)))
def xs48 := (And.intro (And.intro (And.intro (And.intro (cdEq cd_code48) (And.intro (cdEq cd_c48_1) (cdEq cd_c48_3))) (And.intro (cdEq cd_c48_4) (And.intro (cdEq cd_c48_2) (cdEq cd_c48_6)))) (And.intro (And.intro (cdEq cd_c48_7) (And.intro (cdEq cd_c48_8) (cdEq cd_c48_9))) (And.intro (cdEq cd_c48_10) (And.intro (cdEq cd_c48_11) (cdEq cd_c48_12))))) (And.intro (And.intro (And.intro (cdEq cd_c48_13) (And.intro (cdEq cd_c48_14) (cdEq cd_c48_15))) (And.intro (cdEq cd_c48_17) (And.intro (cdEq cd_c48_19) (cdEq cd_c48_20)))) (And.intro (And.intro (cdEq cd_c48_21) (And.intro (cdEq cd_c48_22) (cdEq cd_c48_23))) (And.intro (cdEq cd_c48_24) (And.intro (cdEq cd_c48_25) (cdEq cd_c48_18))))))
def xs49 := (And.intro (And.intro (And.intro (cdEq cd_code49) (cdEq cd_c49_1)) (And.intro (cdEq cd_c49_2) (And.intro (cdEq cd_c49_3) (cdEq cd_c49_5)))) (And.intro (And.intro (cdEq cd_c49_6) (cdEq cd_c49_7)) (And.intro (cdEq cd_c49_9) (And.intro (cdEq cd_c49_4) (cdEq cd_c49_10)))))
def xs50 := (And.intro (And.intro (cdEq cd_code50) (cdEq cd_c50_1)) (And.intro (cdEq cd_c50_2) (cdEq cd_c50_3)))
def xs51 := (And.intro (And.intro (And.intro (And.intro (cdEq cd_code51) (cdEq cd_c51_1)) (And.intro (cdEq cd_c51_2) (And.intro (cdEq cd_c51_3) (cdEq cd_c51_4)))) (And.intro (And.intro (cdEq cd_c51_5) (And.intro (cdEq cd_c51_6) (cdEq cd_c51_7))) (And.intro (cdEq cd_c51_9) (And.intro (cdEq cd_c51_10) (cdEq cd_c51_11))))) (And.intro (And.intro (And.intro (cdEq cd_c51_12) (And.intro (cdEq cd_c51_13) (cdEq cd_c51_14))) (And.intro (cdEq cd_c51_15) (And.intro (cdEq cd_c51_16) (cdEq cd_c51_18)))) (And.intro (And.intro (cdEq cd_c51_20) (And.intro (cdEq cd_c51_21) (cdEq cd_c51_22))) (And.intro (cdEq cd_c51_19) (And.intro (cdEq cd_c51_8) (cdEq cd_c51_23))))))
def xs52 := (And.intro (And.intro (And.intro (And.intro (cdEq cd_code52) (And.intro (cdEq cd_c52_1) (cdEq cd_c52_2))) (And.intro (cdEq cd_c52_3) (And.intro (cdEq cd_c52_4) (cdEq cd_c52_5)))) (And.intro (And.intro (cdEq cd_c52_6) (And.intro (cdEq cd_c52_7) (cdEq cd_c52_8))) (And.intro (cdEq cd_c52_9) (And.intro (cdEq cd_c52_11) (cdEq cd_c52_12))))) (And.intro (And.intro (And.intro (cdEq cd_c52_13) (And.intro (cdEq cd_c52_15) (cdEq cd_c52_16))) (And.intro (cdEq cd_c52_17) (And.intro (cdEq cd_c52_10) (cdEq cd_c52_18)))) (And.intro (And.intro (cdEq cd_c52_19) (And.intro (cdEq cd_c52_20) (cdEq cd_c52_22))) (And.intro (And.intro (cdEq cd_c52_23) (cdEq cd_c52_24)) (And.intro (cdEq cd_c52_21) (cdEq cd_c52_26))))))
def xs53 := (cdEq cd_code53)
def xs55 := (And.intro (And.intro (And.intro (And.intro (cdEq cd_code55) (And.intro (cdEq cd_c55_1) (cdEq cd_c55_2))) (And.intro (cdEq cd_c55_3) (And.intro (cdEq cd_c55_4) (cdEq cd_c55_5)))) (And.intro (And.intro (cdEq cd_c55_7) (And.intro (cdEq cd_c55_8) (cdEq cd_c55_6))) (And.intro (And.intro (cdEq cd_c55_10) (cdEq cd_c55_11)) (And.intro (cdEq cd_c55_12) (cdEq cd_c55_13))))) (And.intro (And.intro (And.intro (cdEq cd_c55_15) (And.intro (cdEq cd_c55_16) (cdEq cd_c55_14))) (And.intro (cdEq cd_c55_18) (And.intro (cdEq cd_c55_19) (cdEq cd_c55_20)))) (And.intro (And.intro (cdEq cd_c55_22) (And.intro (cdEq cd_c55_23) (cdEq cd_c55_21))) (And.intro (And.intro (cdEq cd_c55_25) (cdEq cd_c55_26)) (And.intro (cdEq cd_c55_27) (cdEq cd_c55_28))))))
def xs56 := (And.intro (And.intro (And.intro (And.intro (cdEq cd_code56) (cdEq cd_c56_1)) (And.intro (cdEq cd_c56_2) (And.intro (cdEq cd_c56_3) (cdEq cd_c56_4)))) (And.intro (And.intro (cdEq cd_c56_5) (cdEq cd_c56_7)) (And.intro (cdEq cd_c56_8) (And.intro (cdEq cd_c56_9) (cdEq cd_c56_10))))) (And.intro (And.intro (And.intro (cdEq cd_c56_11) (cdEq cd_c56_12)) (And.intro (cdEq cd_c56_13) (And.intro (cdEq cd_c56_14) (cdEq cd_c56_16)))) (And.intro (And.intro (cdEq cd_c56_18) (And.intro (cdEq cd_c56_19) (cdEq cd_c56_20))) (And.intro (cdEq cd_c56_17) (And.intro (cdEq cd_c56_6) (cdEq cd_c56_21))))))
end Go.Proofs.Ytlhjbjpcnncndaa
