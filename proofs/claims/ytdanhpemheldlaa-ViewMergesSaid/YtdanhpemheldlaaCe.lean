/-
  The code of this seat's functions in named pieces: by our program cds.py.
-/
import Derived.Test.YtdanhpemheldlaaFn
import Derived.Test.YtdanhpemheldlaaSm
import Derived.KernelRfl
open Go Go.SY
namespace Go.Proofs.Ytdanhpemheldlaa
noncomputable def body8 : Code := match Try.f8.body with
  | some c => c
  | none => .skip
noncomputable def c8_1 : Code := match code8 with
  | .seq x _ => x
  | _ => .skip
noncomputable def c8_2 : Code := match code8 with
  | .seq _ x => x
  | _ => .skip
theorem cd_code8 : code8 = .seq c8_1 c8_2 := by kernel_rfl
noncomputable def r8_1 : Array Oper := regAt [0] body8
theorem cd_c8_1 : c8_1 = .region 0 r8_1 false := by kernel_rfl
noncomputable def c8_3 : Code := match c8_2 with
  | .seq x _ => x
  | _ => .skip
noncomputable def c8_4 : Code := match c8_2 with
  | .seq _ x => x
  | _ => .skip
theorem cd_c8_2 : c8_2 = .seq c8_3 c8_4 := by kernel_rfl
noncomputable def r8_3 : Array Oper := regAt [1, 0] body8
theorem cd_c8_3 : c8_3 = .region 1 r8_3 false := by kernel_rfl
noncomputable def c8_5 : Code := match c8_4 with
  | .seq x _ => x
  | _ => .skip
noncomputable def c8_6 : Code := match c8_4 with
  | .seq _ x => x
  | _ => .skip
theorem cd_c8_4 : c8_4 = .seq c8_5 c8_6 := by kernel_rfl
noncomputable def c8_7 : Code := match c8_5 with
  | .seq x _ => x
  | _ => .skip
noncomputable def c8_8 : Code := match c8_5 with
  | .seq _ x => x
  | _ => .skip
theorem cd_c8_5 : c8_5 = .seq c8_7 c8_8 := by kernel_rfl
noncomputable def r8_7 : Array Oper := regAt [1, 1, 0, 0] body8
theorem cd_c8_7 : c8_7 = .region 2 r8_7 false := by kernel_rfl
noncomputable def c8_9 : Code := match c8_8 with
  | .cond _ x _ => x
  | _ => .skip
theorem cd_c8_8 : c8_8 = .cond (.tmp 44) c8_9 .skip := by kernel_rfl
noncomputable def c8_11 : Code := match c8_9 with
  | .seq x _ => x
  | _ => .skip
theorem cd_c8_9 : c8_9 = .seq c8_11 .ret := by kernel_rfl
noncomputable def r8_11 : Array Oper := regAt [1, 1, 0, 1, 1, 0] body8
theorem cd_c8_11 : c8_11 = .region 3 r8_11 false := by kernel_rfl
noncomputable def c8_12 : Code := match c8_6 with
  | .seq x _ => x
  | _ => .skip
noncomputable def c8_13 : Code := match c8_6 with
  | .seq _ x => x
  | _ => .skip
theorem cd_c8_6 : c8_6 = .seq c8_12 c8_13 := by kernel_rfl
noncomputable def r8_12 : Array Oper := regAt [1, 1, 1, 0] body8
theorem cd_c8_12 : c8_12 = .region 4 r8_12 false := by kernel_rfl
noncomputable def c8_14 : Code := match c8_13 with
  | .seq x _ => x
  | _ => .skip
noncomputable def c8_15 : Code := match c8_13 with
  | .seq _ x => x
  | _ => .skip
theorem cd_c8_13 : c8_13 = .seq c8_14 c8_15 := by kernel_rfl
noncomputable def r8_14 : Array Oper := regAt [1, 1, 1, 1, 0] body8
theorem cd_c8_14 : c8_14 = .region 5 r8_14 false := by kernel_rfl
noncomputable def c8_16 : Code := match c8_15 with
  | .seq x _ => x
  | _ => .skip
noncomputable def c8_17 : Code := match c8_15 with
  | .seq _ x => x
  | _ => .skip
theorem cd_c8_15 : c8_15 = .seq c8_16 c8_17 := by kernel_rfl
noncomputable def c8_18 : Code := match c8_16 with
  | .seq x _ => x
  | _ => .skip
noncomputable def c8_19 : Code := match c8_16 with
  | .seq _ x => x
  | _ => .skip
theorem cd_c8_16 : c8_16 = .seq c8_18 c8_19 := by kernel_rfl
noncomputable def r8_18 : Array Oper := regAt [1, 1, 1, 1, 1, 0, 0] body8
theorem cd_c8_18 : c8_18 = .region 6 r8_18 false := by kernel_rfl
noncomputable def c8_20 : Code := match c8_19 with
  | .block _ x => x
  | _ => .skip
theorem cd_c8_19 : c8_19 = .block 0 c8_20 := by kernel_rfl
noncomputable def c8_21 : Code := match c8_20 with
  | .loop x => x
  | _ => .skip
theorem cd_c8_20 : c8_20 = .loop c8_21 := by kernel_rfl
noncomputable def c8_22 : Code := match c8_21 with
  | .seq x _ => x
  | _ => .skip
noncomputable def c8_23 : Code := match c8_21 with
  | .seq _ x => x
  | _ => .skip
theorem cd_c8_21 : c8_21 = .seq c8_22 c8_23 := by kernel_rfl
noncomputable def c8_24 : Code := match c8_22 with
  | .seq x _ => x
  | _ => .skip
noncomputable def c8_25 : Code := match c8_22 with
  | .seq _ x => x
  | _ => .skip
theorem cd_c8_22 : c8_22 = .seq c8_24 c8_25 := by kernel_rfl
noncomputable def r8_24 : Array Oper := regAt [1, 1, 1, 1, 1, 0, 1, 1, 0, 0, 0] body8
theorem cd_c8_24 : c8_24 = .region 7 r8_24 false := by kernel_rfl
theorem cd_c8_25 : c8_25 = .cond (.tmp 63) .skip (.exit 0) := by kernel_rfl
noncomputable def c8_27 : Code := match c8_23 with
  | .seq x _ => x
  | _ => .skip
noncomputable def c8_28 : Code := match c8_23 with
  | .seq _ x => x
  | _ => .skip
theorem cd_c8_23 : c8_23 = .seq c8_27 c8_28 := by kernel_rfl
noncomputable def c8_29 : Code := match c8_27 with
  | .block _ x => x
  | _ => .skip
theorem cd_c8_27 : c8_27 = .block 1 c8_29 := by kernel_rfl
noncomputable def c8_30 : Code := match c8_29 with
  | .seq x _ => x
  | _ => .skip
noncomputable def c8_31 : Code := match c8_29 with
  | .seq _ x => x
  | _ => .skip
theorem cd_c8_29 : c8_29 = .seq c8_30 c8_31 := by kernel_rfl
noncomputable def r8_30 : Array Oper := regAt [1, 1, 1, 1, 1, 0, 1, 1, 0, 1, 0, 1, 0] body8
theorem cd_c8_30 : c8_30 = .region 9 r8_30 true := by kernel_rfl
noncomputable def c8_32 : Code := match c8_31 with
  | .seq x _ => x
  | _ => .skip
noncomputable def c8_33 : Code := match c8_31 with
  | .seq _ x => x
  | _ => .skip
theorem cd_c8_31 : c8_31 = .seq c8_32 c8_33 := by kernel_rfl
noncomputable def r8_32 : Array Oper := regAt [1, 1, 1, 1, 1, 0, 1, 1, 0, 1, 0, 1, 1, 0] body8
theorem cd_c8_32 : c8_32 = .region 10 r8_32 false := by kernel_rfl
noncomputable def c8_34 : Code := match c8_33 with
  | .seq x _ => x
  | _ => .skip
noncomputable def c8_35 : Code := match c8_33 with
  | .seq _ x => x
  | _ => .skip
theorem cd_c8_33 : c8_33 = .seq c8_34 c8_35 := by kernel_rfl
noncomputable def r8_34 : Array Oper := regAt [1, 1, 1, 1, 1, 0, 1, 1, 0, 1, 0, 1, 1, 1, 0] body8
theorem cd_c8_34 : c8_34 = .region 11 r8_34 false := by kernel_rfl
noncomputable def r8_35 : Array Oper := regAt [1, 1, 1, 1, 1, 0, 1, 1, 0, 1, 0, 1, 1, 1, 1] body8
theorem cd_c8_35 : c8_35 = .region 12 r8_35 false := by kernel_rfl
noncomputable def r8_28 : Array Oper := regAt [1, 1, 1, 1, 1, 0, 1, 1, 0, 1, 1] body8
theorem cd_c8_28 : c8_28 = .region 8 r8_28 false := by kernel_rfl
noncomputable def c8_36 : Code := match c8_17 with
  | .seq x _ => x
  | _ => .skip
noncomputable def c8_37 : Code := match c8_17 with
  | .seq _ x => x
  | _ => .skip
theorem cd_c8_17 : c8_17 = .seq c8_36 c8_37 := by kernel_rfl
noncomputable def r8_36 : Array Oper := regAt [1, 1, 1, 1, 1, 1, 0] body8
theorem cd_c8_36 : c8_36 = .region 13 r8_36 false := by kernel_rfl
noncomputable def c8_38 : Code := match c8_37 with
  | .seq x _ => x
  | _ => .skip
noncomputable def c8_39 : Code := match c8_37 with
  | .seq _ x => x
  | _ => .skip
theorem cd_c8_37 : c8_37 = .seq c8_38 c8_39 := by kernel_rfl
noncomputable def r8_38 : Array Oper := regAt [1, 1, 1, 1, 1, 1, 1, 0] body8
theorem cd_c8_38 : c8_38 = .region 14 r8_38 false := by kernel_rfl
noncomputable def c8_40 : Code := match c8_39 with
  | .seq x _ => x
  | _ => .skip
noncomputable def c8_41 : Code := match c8_39 with
  | .seq _ x => x
  | _ => .skip
theorem cd_c8_39 : c8_39 = .seq c8_40 c8_41 := by kernel_rfl
noncomputable def r8_40 : Array Oper := regAt [1, 1, 1, 1, 1, 1, 1, 1, 0] body8
theorem cd_c8_40 : c8_40 = .region 15 r8_40 false := by kernel_rfl
noncomputable def c8_42 : Code := match c8_41 with
  | .seq x _ => x
  | _ => .skip
noncomputable def c8_43 : Code := match c8_41 with
  | .seq _ x => x
  | _ => .skip
theorem cd_c8_41 : c8_41 = .seq c8_42 c8_43 := by kernel_rfl
noncomputable def r8_42 : Array Oper := regAt [1, 1, 1, 1, 1, 1, 1, 1, 1, 0] body8
theorem cd_c8_42 : c8_42 = .region 16 r8_42 false := by kernel_rfl
noncomputable def c8_44 : Code := match c8_43 with
  | .seq x _ => x
  | _ => .skip
noncomputable def c8_45 : Code := match c8_43 with
  | .seq _ x => x
  | _ => .skip
theorem cd_c8_43 : c8_43 = .seq c8_44 c8_45 := by kernel_rfl
noncomputable def r8_44 : Array Oper := regAt [1, 1, 1, 1, 1, 1, 1, 1, 1, 1, 0] body8
theorem cd_c8_44 : c8_44 = .region 17 r8_44 false := by kernel_rfl
noncomputable def c8_46 : Code := match c8_45 with
  | .seq x _ => x
  | _ => .skip
noncomputable def c8_47 : Code := match c8_45 with
  | .seq _ x => x
  | _ => .skip
theorem cd_c8_45 : c8_45 = .seq c8_46 c8_47 := by kernel_rfl
noncomputable def r8_46 : Array Oper := regAt [1, 1, 1, 1, 1, 1, 1, 1, 1, 1, 1, 0] body8
theorem cd_c8_46 : c8_46 = .region 18 r8_46 false := by kernel_rfl
noncomputable def c8_48 : Code := match c8_47 with
  | .seq x _ => x
  | _ => .skip
noncomputable def c8_49 : Code := match c8_47 with
  | .seq _ x => x
  | _ => .skip
theorem cd_c8_47 : c8_47 = .seq c8_48 c8_49 := by kernel_rfl
noncomputable def c8_50 : Code := match c8_48 with
  | .seq x _ => x
  | _ => .skip
noncomputable def c8_51 : Code := match c8_48 with
  | .seq _ x => x
  | _ => .skip
theorem cd_c8_48 : c8_48 = .seq c8_50 c8_51 := by kernel_rfl
noncomputable def r8_50 : Array Oper := regAt [1, 1, 1, 1, 1, 1, 1, 1, 1, 1, 1, 1, 0, 0] body8
theorem cd_c8_50 : c8_50 = .region 19 r8_50 false := by kernel_rfl
noncomputable def c8_52 : Code := match c8_51 with
  | .cond _ x _ => x
  | _ => .skip
theorem cd_c8_51 : c8_51 = .cond (.tmp 155) c8_52 .skip := by kernel_rfl
noncomputable def c8_54 : Code := match c8_52 with
  | .seq x _ => x
  | _ => .skip
theorem cd_c8_52 : c8_52 = .seq c8_54 .ret := by kernel_rfl
noncomputable def r8_54 : Array Oper := regAt [1, 1, 1, 1, 1, 1, 1, 1, 1, 1, 1, 1, 0, 1, 1, 0] body8
theorem cd_c8_54 : c8_54 = .region 20 r8_54 false := by kernel_rfl
noncomputable def c8_55 : Code := match c8_49 with
  | .seq x _ => x
  | _ => .skip
theorem cd_c8_49 : c8_49 = .seq c8_55 .ret := by kernel_rfl
noncomputable def r8_55 : Array Oper := regAt [1, 1, 1, 1, 1, 1, 1, 1, 1, 1, 1, 1, 1, 0] body8
theorem cd_c8_55 : c8_55 = .region 21 r8_55 false := by kernel_rfl
noncomputable def body27 : Code := match Try.f27.body with
  | some c => c
  | none => .skip
noncomputable def c27_1 : Code := match code27 with
  | .seq x _ => x
  | _ => .skip
noncomputable def c27_2 : Code := match code27 with
  | .seq _ x => x
  | _ => .skip
theorem cd_code27 : code27 = .seq c27_1 c27_2 := by kernel_rfl
noncomputable def r27_1 : Array Oper := regAt [0] body27
theorem cd_c27_1 : c27_1 = .region 0 r27_1 false := by kernel_rfl
noncomputable def c27_3 : Code := match c27_2 with
  | .seq x _ => x
  | _ => .skip
theorem cd_c27_2 : c27_2 = .seq c27_3 .ret := by kernel_rfl
noncomputable def r27_3 : Array Oper := regAt [1, 0] body27
theorem cd_c27_3 : c27_3 = .region 1 r27_3 false := by kernel_rfl
noncomputable def body48 : Code := match Try.f48.body with
  | some c => c
  | none => .skip
noncomputable def c48_1 : Code := match code48 with
  | .seq x _ => x
  | _ => .skip
noncomputable def c48_2 : Code := match code48 with
  | .seq _ x => x
  | _ => .skip
theorem cd_code48 : code48 = .seq c48_1 c48_2 := by kernel_rfl
noncomputable def r48_1 : Array Oper := regAt [0] body48
theorem cd_c48_1 : c48_1 = .region 0 r48_1 false := by kernel_rfl
noncomputable def c48_3 : Code := match c48_2 with
  | .seq x _ => x
  | _ => .skip
noncomputable def c48_4 : Code := match c48_2 with
  | .seq _ x => x
  | _ => .skip
theorem cd_c48_2 : c48_2 = .seq c48_3 c48_4 := by kernel_rfl
noncomputable def c48_5 : Code := match c48_3 with
  | .seq x _ => x
  | _ => .skip
noncomputable def c48_6 : Code := match c48_3 with
  | .seq _ x => x
  | _ => .skip
theorem cd_c48_3 : c48_3 = .seq c48_5 c48_6 := by kernel_rfl
noncomputable def r48_5 : Array Oper := regAt [1, 0, 0] body48
theorem cd_c48_5 : c48_5 = .region 1 r48_5 false := by kernel_rfl
noncomputable def c48_7 : Code := match c48_6 with
  | .cond _ x _ => x
  | _ => .skip
theorem cd_c48_6 : c48_6 = .cond (.tmp 10) c48_7 .skip := by kernel_rfl
noncomputable def c48_9 : Code := match c48_7 with
  | .seq x _ => x
  | _ => .skip
theorem cd_c48_7 : c48_7 = .seq c48_9 .ret := by kernel_rfl
noncomputable def r48_9 : Array Oper := regAt [1, 0, 1, 1, 0] body48
theorem cd_c48_9 : c48_9 = .region 2 r48_9 false := by kernel_rfl
noncomputable def c48_10 : Code := match c48_4 with
  | .seq x _ => x
  | _ => .skip
noncomputable def c48_11 : Code := match c48_4 with
  | .seq _ x => x
  | _ => .skip
theorem cd_c48_4 : c48_4 = .seq c48_10 c48_11 := by kernel_rfl
noncomputable def c48_12 : Code := match c48_10 with
  | .seq x _ => x
  | _ => .skip
noncomputable def c48_13 : Code := match c48_10 with
  | .seq _ x => x
  | _ => .skip
theorem cd_c48_10 : c48_10 = .seq c48_12 c48_13 := by kernel_rfl
noncomputable def r48_12 : Array Oper := regAt [1, 1, 0, 0] body48
theorem cd_c48_12 : c48_12 = .region 3 r48_12 false := by kernel_rfl
noncomputable def c48_14 : Code := match c48_13 with
  | .block _ x => x
  | _ => .skip
theorem cd_c48_13 : c48_13 = .block 0 c48_14 := by kernel_rfl
noncomputable def c48_15 : Code := match c48_14 with
  | .loop x => x
  | _ => .skip
theorem cd_c48_14 : c48_14 = .loop c48_15 := by kernel_rfl
noncomputable def c48_16 : Code := match c48_15 with
  | .seq x _ => x
  | _ => .skip
noncomputable def c48_17 : Code := match c48_15 with
  | .seq _ x => x
  | _ => .skip
theorem cd_c48_15 : c48_15 = .seq c48_16 c48_17 := by kernel_rfl
noncomputable def r48_16 : Array Oper := regAt [1, 1, 0, 1, 1, 0, 0] body48
theorem cd_c48_16 : c48_16 = .region 4 r48_16 false := by kernel_rfl
noncomputable def c48_18 : Code := match c48_17 with
  | .seq x _ => x
  | _ => .skip
noncomputable def c48_19 : Code := match c48_17 with
  | .seq _ x => x
  | _ => .skip
theorem cd_c48_17 : c48_17 = .seq c48_18 c48_19 := by kernel_rfl
theorem cd_c48_18 : c48_18 = .cond (.tmp 14) .skip (.exit 0) := by kernel_rfl
noncomputable def c48_21 : Code := match c48_19 with
  | .seq x _ => x
  | _ => .skip
noncomputable def c48_22 : Code := match c48_19 with
  | .seq _ x => x
  | _ => .skip
theorem cd_c48_19 : c48_19 = .seq c48_21 c48_22 := by kernel_rfl
noncomputable def c48_23 : Code := match c48_21 with
  | .block _ x => x
  | _ => .skip
theorem cd_c48_21 : c48_21 = .block 1 c48_23 := by kernel_rfl
noncomputable def c48_24 : Code := match c48_23 with
  | .seq x _ => x
  | _ => .skip
noncomputable def c48_25 : Code := match c48_23 with
  | .seq _ x => x
  | _ => .skip
theorem cd_c48_23 : c48_23 = .seq c48_24 c48_25 := by kernel_rfl
noncomputable def r48_24 : Array Oper := regAt [1, 1, 0, 1, 1, 0, 1, 1, 0, 1, 0] body48
theorem cd_c48_24 : c48_24 = .region 5 r48_24 false := by kernel_rfl
noncomputable def c48_26 : Code := match c48_25 with
  | .seq x _ => x
  | _ => .skip
noncomputable def c48_27 : Code := match c48_25 with
  | .seq _ x => x
  | _ => .skip
theorem cd_c48_25 : c48_25 = .seq c48_26 c48_27 := by kernel_rfl
noncomputable def r48_26 : Array Oper := regAt [1, 1, 0, 1, 1, 0, 1, 1, 0, 1, 1, 0] body48
theorem cd_c48_26 : c48_26 = .region 6 r48_26 true := by kernel_rfl
noncomputable def c48_28 : Code := match c48_27 with
  | .cond _ x _ => x
  | _ => .skip
theorem cd_c48_27 : c48_27 = .cond (.tmp 24) c48_28 .skip := by kernel_rfl
noncomputable def c48_30 : Code := match c48_28 with
  | .seq x _ => x
  | _ => .skip
theorem cd_c48_28 : c48_28 = .seq c48_30 .ret := by kernel_rfl
noncomputable def r48_30 : Array Oper := regAt [1, 1, 0, 1, 1, 0, 1, 1, 0, 1, 1, 1, 1, 0] body48
theorem cd_c48_30 : c48_30 = .region 7 r48_30 false := by kernel_rfl
noncomputable def r48_22 : Array Oper := regAt [1, 1, 0, 1, 1, 0, 1, 1, 1] body48
theorem cd_c48_22 : c48_22 = .region 8 r48_22 false := by kernel_rfl
noncomputable def c48_31 : Code := match c48_11 with
  | .seq x _ => x
  | _ => .skip
theorem cd_c48_11 : c48_11 = .seq c48_31 .ret := by kernel_rfl
noncomputable def r48_31 : Array Oper := regAt [1, 1, 1, 0] body48
theorem cd_c48_31 : c48_31 = .region 9 r48_31 false := by kernel_rfl
end Go.Proofs.Ytdanhpemheldlaa
