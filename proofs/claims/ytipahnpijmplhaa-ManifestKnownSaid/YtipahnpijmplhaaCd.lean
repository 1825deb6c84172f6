/-
  The code of this seat's functions in named pieces: by our program cds.py.
-/
import Derived.Test.YtipahnpijmplhaaFn
import Derived.Test.YtipahnpijmplhaaSy40
import Derived.KernelRfl
open Go Go.SY
namespace Go.Proofs.Ytipahnpijmplhaa
noncomputable def body38 : Code := match Try.f38.body with
  | some c => c
  | none => .skip
noncomputable def c38_1 : Code := match code38 with
  | .seq x _ => x
  | _ => .skip
noncomputable def c38_2 : Code := match code38 with
  | .seq _ x => x
  | _ => .skip
theorem cd_code38 : code38 = .seq c38_1 c38_2 := by kernel_rfl
noncomputable def r38_1 : Array Oper := regAt [0] body38
theorem cd_c38_1 : c38_1 = .region 0 r38_1 false := by kernel_rfl
noncomputable def c38_3 : Code := match c38_2 with
  | .seq x _ => x
  | _ => .skip
noncomputable def c38_4 : Code := match c38_2 with
  | .seq _ x => x
  | _ => .skip
theorem cd_c38_2 : c38_2 = .seq c38_3 c38_4 := by kernel_rfl
noncomputable def r38_3 : Array Oper := regAt [1, 0] body38
theorem cd_c38_3 : c38_3 = .region 1 r38_3 false := by kernel_rfl
noncomputable def c38_5 : Code := match c38_4 with
  | .seq x _ => x
  | _ => .skip
noncomputable def c38_6 : Code := match c38_4 with
  | .seq _ x => x
  | _ => .skip
theorem cd_c38_4 : c38_4 = .seq c38_5 c38_6 := by kernel_rfl
noncomputable def r38_5 : Array Oper := regAt [1, 1, 0] body38
theorem cd_c38_5 : c38_5 = .region 2 r38_5 false := by kernel_rfl
noncomputable def c38_7 : Code := match c38_6 with
  | .seq x _ => x
  | _ => .skip
noncomputable def c38_8 : Code := match c38_6 with
  | .seq _ x => x
  | _ => .skip
theorem cd_c38_6 : c38_6 = .seq c38_7 c38_8 := by kernel_rfl
noncomputable def r38_7 : Array Oper := regAt [1, 1, 1, 0] body38
theorem cd_c38_7 : c38_7 = .region 3 r38_7 false := by kernel_rfl
noncomputable def c38_9 : Code := match c38_8 with
  | .seq x _ => x
  | _ => .skip
noncomputable def c38_10 : Code := match c38_8 with
  | .seq _ x => x
  | _ => .skip
theorem cd_c38_8 : c38_8 = .seq c38_9 c38_10 := by kernel_rfl
noncomputable def r38_9 : Array Oper := regAt [1, 1, 1, 1, 0] body38
theorem cd_c38_9 : c38_9 = .region 4 r38_9 false := by kernel_rfl
noncomputable def c38_11 : Code := match c38_10 with
  | .seq x _ => x
  | _ => .skip
noncomputable def c38_12 : Code := match c38_10 with
  | .seq _ x => x
  | _ => .skip
theorem cd_c38_10 : c38_10 = .seq c38_11 c38_12 := by kernel_rfl
noncomputable def c38_13 : Code := match c38_11 with
  | .seq x _ => x
  | _ => .skip
noncomputable def c38_14 : Code := match c38_11 with
  | .seq _ x => x
  | _ => .skip
theorem cd_c38_11 : c38_11 = .seq c38_13 c38_14 := by kernel_rfl
noncomputable def r38_13 : Array Oper := regAt [1, 1, 1, 1, 1, 0, 0] body38
theorem cd_c38_13 : c38_13 = .region 5 r38_13 false := by kernel_rfl
noncomputable def c38_15 : Code := match c38_14 with
  | .block _ x => x
  | _ => .skip
theorem cd_c38_14 : c38_14 = .block 0 c38_15 := by kernel_rfl
noncomputable def c38_16 : Code := match c38_15 with
  | .loop x => x
  | _ => .skip
theorem cd_c38_15 : c38_15 = .loop c38_16 := by kernel_rfl
noncomputable def c38_17 : Code := match c38_16 with
  | .seq x _ => x
  | _ => .skip
noncomputable def c38_18 : Code := match c38_16 with
  | .seq _ x => x
  | _ => .skip
theorem cd_c38_16 : c38_16 = .seq c38_17 c38_18 := by kernel_rfl
noncomputable def r38_17 : Array Oper := regAt [1, 1, 1, 1, 1, 0, 1, 1, 0, 0] body38
theorem cd_c38_17 : c38_17 = .region 6 r38_17 false := by kernel_rfl
noncomputable def c38_19 : Code := match c38_18 with
  | .seq x _ => x
  | _ => .skip
noncomputable def c38_20 : Code := match c38_18 with
  | .seq _ x => x
  | _ => .skip
theorem cd_c38_18 : c38_18 = .seq c38_19 c38_20 := by kernel_rfl
theorem cd_c38_19 : c38_19 = .cond (.tmp 46) .skip (.exit 0) := by kernel_rfl
noncomputable def c38_22 : Code := match c38_20 with
  | .seq x _ => x
  | _ => .skip
noncomputable def c38_23 : Code := match c38_20 with
  | .seq _ x => x
  | _ => .skip
theorem cd_c38_20 : c38_20 = .seq c38_22 c38_23 := by kernel_rfl
noncomputable def c38_24 : Code := match c38_22 with
  | .block _ x => x
  | _ => .skip
theorem cd_c38_22 : c38_22 = .block 1 c38_24 := by kernel_rfl
noncomputable def c38_25 : Code := match c38_24 with
  | .seq x _ => x
  | _ => .skip
noncomputable def c38_26 : Code := match c38_24 with
  | .seq _ x => x
  | _ => .skip
theorem cd_c38_24 : c38_24 = .seq c38_25 c38_26 := by kernel_rfl
noncomputable def r38_25 : Array Oper := regAt [1, 1, 1, 1, 1, 0, 1, 1, 0, 1, 1, 0, 1, 0] body38
theorem cd_c38_25 : c38_25 = .region 7 r38_25 false := by kernel_rfl
noncomputable def c38_27 : Code := match c38_26 with
  | .seq x _ => x
  | _ => .skip
noncomputable def c38_28 : Code := match c38_26 with
  | .seq _ x => x
  | _ => .skip
theorem cd_c38_26 : c38_26 = .seq c38_27 c38_28 := by kernel_rfl
noncomputable def r38_27 : Array Oper := regAt [1, 1, 1, 1, 1, 0, 1, 1, 0, 1, 1, 0, 1, 1, 0] body38
theorem cd_c38_27 : c38_27 = .region 8 r38_27 false := by kernel_rfl
noncomputable def c38_29 : Code := match c38_28 with
  | .block _ x => x
  | _ => .skip
theorem cd_c38_28 : c38_28 = .block 2 c38_29 := by kernel_rfl
noncomputable def c38_30 : Code := match c38_29 with
  | .rangeFunc _ _ x _ => x
  | _ => .skip
noncomputable def c38_31 : Code := match c38_29 with
  | .rangeFunc _ _ _ x => x
  | _ => .skip
noncomputable def r38_23 : Array Oper := regAt [1, 1, 1, 1, 1, 0, 1, 1, 0, 1, 1, 1] body38
theorem cd_c38_23 : c38_23 = .region 11 r38_23 false := by kernel_rfl
noncomputable def c38_32 : Code := match c38_12 with
  | .seq x _ => x
  | _ => .skip
noncomputable def c38_33 : Code := match c38_12 with
  | .seq _ x => x
  | _ => .skip
theorem cd_c38_12 : c38_12 = .seq c38_32 c38_33 := by kernel_rfl
noncomputable def c38_34 : Code := match c38_32 with
  | .seq x _ => x
  | _ => .skip
noncomputable def c38_35 : Code := match c38_32 with
  | .seq _ x => x
  | _ => .skip
theorem cd_c38_32 : c38_32 = .seq c38_34 c38_35 := by kernel_rfl
noncomputable def r38_34 : Array Oper := regAt [1, 1, 1, 1, 1, 1, 0, 0] body38
theorem cd_c38_34 : c38_34 = .region 12 r38_34 false := by kernel_rfl
noncomputable def c38_36 : Code := match c38_35 with
  | .block _ x => x
  | _ => .skip
theorem cd_c38_35 : c38_35 = .block 4 c38_36 := by kernel_rfl
noncomputable def c38_37 : Code := match c38_36 with
  | .loop x => x
  | _ => .skip
theorem cd_c38_36 : c38_36 = .loop c38_37 := by kernel_rfl
noncomputable def c38_38 : Code := match c38_37 with
  | .seq x _ => x
  | _ => .skip
noncomputable def c38_39 : Code := match c38_37 with
  | .seq _ x => x
  | _ => .skip
theorem cd_c38_37 : c38_37 = .seq c38_38 c38_39 := by kernel_rfl
noncomputable def r38_38 : Array Oper := regAt [1, 1, 1, 1, 1, 1, 0, 1, 1, 0, 0] body38
theorem cd_c38_38 : c38_38 = .region 13 r38_38 false := by kernel_rfl
noncomputable def c38_40 : Code := match c38_39 with
  | .seq x _ => x
  | _ => .skip
noncomputable def c38_41 : Code := match c38_39 with
  | .seq _ x => x
  | _ => .skip
theorem cd_c38_39 : c38_39 = .seq c38_40 c38_41 := by kernel_rfl
theorem cd_c38_40 : c38_40 = .cond (.tmp 59) .skip (.exit 4) := by kernel_rfl
noncomputable def c38_43 : Code := match c38_41 with
  | .seq x _ => x
  | _ => .skip
noncomputable def c38_44 : Code := match c38_41 with
  | .seq _ x => x
  | _ => .skip
theorem cd_c38_41 : c38_41 = .seq c38_43 c38_44 := by kernel_rfl
noncomputable def c38_45 : Code := match c38_43 with
  | .block _ x => x
  | _ => .skip
theorem cd_c38_43 : c38_43 = .block 5 c38_45 := by kernel_rfl
noncomputable def c38_46 : Code := match c38_45 with
  | .seq x _ => x
  | _ => .skip
noncomputable def c38_47 : Code := match c38_45 with
  | .seq _ x => x
  | _ => .skip
theorem cd_c38_45 : c38_45 = .seq c38_46 c38_47 := by kernel_rfl
noncomputable def r38_46 : Array Oper := regAt [1, 1, 1, 1, 1, 1, 0, 1, 1, 0, 1, 1, 0, 1, 0] body38
theorem cd_c38_46 : c38_46 = .region 14 r38_46 false := by kernel_rfl
noncomputable def r38_47 : Array Oper := regAt [1, 1, 1, 1, 1, 1, 0, 1, 1, 0, 1, 1, 0, 1, 1] body38
theorem cd_c38_47 : c38_47 = .region 15 r38_47 true := by kernel_rfl
noncomputable def r38_44 : Array Oper := regAt [1, 1, 1, 1, 1, 1, 0, 1, 1, 0, 1, 1, 1] body38
theorem cd_c38_44 : c38_44 = .region 16 r38_44 false := by kernel_rfl
noncomputable def c38_48 : Code := match c38_33 with
  | .seq x _ => x
  | _ => .skip
theorem cd_c38_33 : c38_33 = .seq c38_48 .ret := by kernel_rfl
noncomputable def r38_48 : Array Oper := regAt [1, 1, 1, 1, 1, 1, 1, 0] body38
theorem cd_c38_48 : c38_48 = .region 17 r38_48 false := by kernel_rfl
noncomputable def body56 : Code := match Try.f56.body with
  | some c => c
  | none => .skip
noncomputable def c56_1 : Code := match code56 with
  | .seq x _ => x
  | _ => .skip
noncomputable def c56_2 : Code := match code56 with
  | .seq _ x => x
  | _ => .skip
theorem cd_code56 : code56 = .seq c56_1 c56_2 := by kernel_rfl
noncomputable def r56_1 : Array Oper := regAt [0] body56
theorem cd_c56_1 : c56_1 = .region 0 r56_1 false := by kernel_rfl
noncomputable def c56_3 : Code := match c56_2 with
  | .seq x _ => x
  | _ => .skip
noncomputable def c56_4 : Code := match c56_2 with
  | .seq _ x => x
  | _ => .skip
theorem cd_c56_2 : c56_2 = .seq c56_3 c56_4 := by kernel_rfl
noncomputable def c56_5 : Code := match c56_3 with
  | .seq x _ => x
  | _ => .skip
noncomputable def c56_6 : Code := match c56_3 with
  | .seq _ x => x
  | _ => .skip
theorem cd_c56_3 : c56_3 = .seq c56_5 c56_6 := by kernel_rfl
noncomputable def r56_5 : Array Oper := regAt [1, 0, 0] body56
theorem cd_c56_5 : c56_5 = .region 1 r56_5 false := by kernel_rfl
noncomputable def c56_7 : Code := match c56_6 with
  | .cond _ x _ => x
  | _ => .skip
theorem cd_c56_6 : c56_6 = .cond (.tmp 4) c56_7 .skip := by kernel_rfl
noncomputable def c56_9 : Code := match c56_7 with
  | .seq x _ => x
  | _ => .skip
theorem cd_c56_7 : c56_7 = .seq c56_9 .ret := by kernel_rfl
noncomputable def r56_9 : Array Oper := regAt [1, 0, 1, 1, 0] body56
theorem cd_c56_9 : c56_9 = .region 2 r56_9 false := by kernel_rfl
noncomputable def c56_10 : Code := match c56_4 with
  | .seq x _ => x
  | _ => .skip
theorem cd_c56_4 : c56_4 = .seq c56_10 .ret := by kernel_rfl
noncomputable def r56_10 : Array Oper := regAt [1, 1, 0] body56
theorem cd_c56_10 : c56_10 = .region 3 r56_10 false := by kernel_rfl
end Go.Proofs.Ytipahnpijmplhaa
